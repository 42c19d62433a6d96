import Derived.Test.YtnnoafgdjjpidaaGreatDoorM7
import Derived.Sort.Grow
import Derived.ProofKit
import Derived.OpenShut
import Derived.ShutString
import Derived.ChangeOld
import Derived.Carry
import Derived.Deep.Slices
import Derived.Lib.SmallJoins
import Derived.SizedLaws
import Derived.Laws.MakeOwn
set_option linter.unusedVariables false
namespace Go.Proofs.YtnnoafgdjjpidaaGreatDoor.E
open Go.RowKit
theorem Conc.write {c : Ctx} {H : Heap} {w w' : World} {k : Nat} {x x' : AO} {b n : Nat} (g : Conc c (ownH H) w) (hi : H k = some x) (hx : ¬ x.empty) (hp : c.β k = some (b, n))
    (hos : w'.os = w.os) (htape : w'.tape = w.tape) (hout : w'.output = w.output) (hsz : w'.heap.size = w.heap.size) (hblk : ∀ k, k ≠ b → w'.heap[k]? = w.heap[k]?) (hno : ∀ o, c.μ b o = none) (ho : ORep c w' x' b n) :
    Conc c (ownH (upd H k (some x'))) w' ∧ Ext c (ownH H) w c (ownH (upd H k (some x'))) w' := by
  let s : S := ⟨0, fun _ => .any, fun _ => none, H⟩
  have e1 : s.own = ownH H := by funext i; cases i <;> rfl
  have e2 : (s.setOwn (.e k) x').own = ownH (upd H k (some x')) := by funext i; cases i <;> rfl
  obtain ⟨c0, hc0⟩ : ∃ c0 : Ctx, c0 = { c with base := 0 } := ⟨_, rfl⟩
  have gc : Conc c0 (ownH H) w := by subst hc0; exact g.rebase
  have hs : Sat c0 s ⟨#[], []⟩ w := ⟨by rw [e1]; exact gc, rfl, fun i => trivial, .nil (by subst hc0; exact Nat.zero_le _), fun i d h => by cases h⟩
  have hp0 : c0.β k = some (b, n) := by subst hc0; exact hp
  have hno0 : ∀ o, c0.μ b o = none := by subst hc0; exact hno
  have ho0 : ORep c0 w' x' b n := by subst hc0; exact ho.keep rfl (fun _ _ _ h => h) (fun _ _ h => h) (fun _ _ h => h)
  obtain ⟨h1, h2⟩ := hs.write (c' := c0) (i := .e k) (x := x) hi hx hp0 hos htape hout hsz hblk rfl rfl (fun _ _ _ h => h) (fun _ _ _ h => .inl h) (fun o u h => by rw [hno0 o] at h; cases h) ho0
  rw [e1, e2] at h2
  have h3 := h1.conc
  rw [e2] at h3
  subst hc0
  exact ⟨h3.rebase (k := c.base), h2.rebase⟩
theorem Conc.far {c : Ctx} {own : Own} {w w' : World} (g : Conc c own w) (hos : w'.os = w.os) (htape : w'.tape = w.tape) (hout : w'.output = w.output) (hsz : w.heap.size ≤ w'.heap.size) (hblk : ∀ b, b < w.heap.size → w'.heap[b]? = w.heap[b]?) :
    Conc c own w' ∧ Ext c own w c own w' :=
  g.grow ⟨hos, htape, hout, hsz, hblk, fun _ _ _ h => h, fun _ _ _ h => .inl h, fun _ _ h => h, rfl, rfl, ⟨fun b o u h => by
    have h1 := g.mem b o u h
    unfold World.cell? at h1 ⊢
    cases hb : w.heap[b]? with
    | none => rw [hb] at h1; simp at h1
    | some y =>
      rw [hblk b (Array.getElem?_eq_some_iff.1 hb).1]; exact h1, by obtain ⟨N, h⟩ := g.fin; exact ⟨N, fun k hk => (h k hk).1⟩, g.tabw.blk hblk⟩⟩
theorem Spec.sort {α : Type} [Inhabited α] {P : Program} {f : FuncId} (enc : α → Value) (henc : ∀ x, (enc x).oneCell' = true) (st : List α → List α) (hst : ∀ l, (st l).length = l.length)
    (hS : ∀ (blk off cap : Nat) (zs : List α) (w : World), Go.Sort.Holds enc w blk off zs.toArray → blk < w.heap.size → zs.length < 4611686018427387904 →
      Calls P f #[.slice (some ⟨blk, off, none⟩) zs.length cap] w fun e w' => e = .returned (.tuple #[]) ∧ ∃ n os, w' = Go.Sort.grow (Go.Sort.putRow enc (Go.Sort.ahead w n) blk off (st zs).toArray) os)
    (hN : ∀ (p : Option Addr) (cap : Nat) (w : World), Calls P f #[.slice p 0 cap] w fun e w' => e = .returned (.tuple #[]) ∧ w' = w)
    (H : Heap) (k : Nat) (e : TypeId) (l : List α) (hk : H k = some (.row e 1 (l.map fun x => .t (.v (enc x))))) (hl : l.length < 4611686018427387904) :
    Spec P f [.a (.os k 0 l.length 1)] H fun x H' => x = .tup [] ∧ H' = upd H k (some (.row e 1 ((st l).map fun x => .t (.v (enc x))))) := by
  intro c w vs hc hr
  obtain ⟨v, hv⟩ : ∃ v, vs = #[v] := by
    have := hr.1
    simp at this
    match vs, this with
    | ⟨[v]⟩, _ => exact ⟨v, rfl⟩
  subst hv
  have hv : RepA c.μ c.β (.os k 0 l.length 1) v := hr.2 0 (.a (.os k 0 l.length 1)) v rfl rfl
  have same : l = [] → upd H k (some (.row e 1 ((st l).map fun x => .t (.v (enc x))))) = H := fun h => by
    have h2 : st l = [] := List.length_eq_zero_iff.1 (by rw [hst, h]; rfl)
    rw [h2]; subst h
    funext j
    by_cases hj : j = k
    · subst hj; rw [upd_same, hk]
    · rw [upd_ne _ _ hj]
  generalize hn : l.length = n at hv
  cases hv with
  | os0 =>
    refine (hN _ _ w).mono ?_
    rintro ex w' ⟨rfl, rfl⟩
    refine ⟨_, .tup [], H, c, rfl, ⟨rfl, (same (List.length_eq_zero_iff.1 hn)).symm⟩, ⟨#[], rfl, .nil⟩, hc, .refl _ _ _⟩
  | osub hb ho => exact absurd ho (by omega)
  | @os _ _ _ b cap hb hpos =>
    have hne : ¬ (AO.row e 1 (l.map fun x => A.t (.v (enc x)))).empty := fun h => by simp only [AO.empty] at h; have := congrArg List.length h; simp at this; subst this; simp at hn; omega
    obtain ⟨b', n', h1, h2⟩ := hc.obj (.e k) _ hk hne
    have h1 : c.β k = some (b', n') := h1
    rw [hb] at h1; injection h1 with h1; injection h1 with e1 e2; subst e1 e2
    have hlt := h2.lt
    obtain ⟨us, h3, h4, h5, h6, h7⟩ := h2
    have hus : l.length ≤ us.size := by have := h6.1; simp at this; omega
    have hget : ∀ j (hj : j < l.length), us[j]? = some (enc l[j]) := fun j hj => by
      have hu : j < us.size := by omega
      have := h6.2 j (.t (.v (enc l[j]))) us[j] (by simp [hj]) (by simp [hj, hu])
      rw [Array.getElem?_eq_getElem hu]
      generalize us[j] = u at this
      cases this with | t h => cases h; rfl
    subst hn
    refine (hS b 0 cap l w (fun j hj => ?_) hlt hl).mono ?_
    · have hj : j < l.length := by simpa using hj
      refine ⟨?_, ?_⟩
      · unfold World.cell?; rw [h3]
        simp only [Nat.zero_add]
        rw [hget j hj]; simp [hj]
      · unfold World.frozen?; rw [h3]; simp
    · rintro ex w' ⟨rfl, m, os, rfl⟩
      have hb2 : (Go.Sort.putRow enc (Go.Sort.ahead w m) b 0 (st l).toArray).heap[b]? = some (.cells (Go.Sort.putCells enc 0 (st l).toArray us) e (0, 0)) := by
        simp [Go.Sort.putRow, Go.Sort.mapBlock, Array.getElem?_modify, h3, Go.Sort.onCells]
      have hob : ∀ j, j ≠ b → (Go.Sort.putRow enc (Go.Sort.ahead w m) b 0 (st l).toArray).heap[j]? = w.heap[j]? := fun j hj => by
        simp [Go.Sort.putRow, Go.Sort.mapBlock, Array.getElem?_modify, Ne.symm hj]
      obtain ⟨q1, q2⟩ := hc.write (w' := Go.Sort.putRow enc (Go.Sort.ahead w m) b 0 (st l).toArray) (x' := .row e 1 ((st l).map fun x => .t (.v (enc x)))) hk hne hb rfl rfl rfl (by simp) hob h7
        ⟨_, hb2, by simpa [Go.Sort.putCells] using h4, h5, ⟨by simp [Go.Sort.putCells, hst]; omega, fun j x u hx hu => by
          have hj : j < (st l).length := by
            have := (List.getElem?_eq_some_iff.1 hx).1
            simpa using this
          have hju : j < us.size := by have := hst l; omega
          have hx' : x = .t (.v (enc (st l)[j])) := by
            have := (List.getElem?_eq_some_iff.1 hx).2
            simpa using this.symm
          have hu' : u = enc (st l)[j] := by
            rw [List.getElem?_take] at hu
            split at hu
            · simp [Go.Sort.putCells, hju, hj] at hu
              exact hu.symm
            · cases hu
          subst hx' hu'
          exact .t (.v (henc _))⟩, h7⟩
      obtain ⟨q3, q4⟩ := q1.far (w' := Go.Sort.grow (Go.Sort.putRow enc (Go.Sort.ahead w m) b 0 (st l).toArray) os) rfl rfl rfl (by simp) (fun j hj => Go.Sort.heap_grow_old _ _ hj)
      exact ⟨_, .tup [], _, c, rfl, ⟨rfl, rfl⟩, ⟨#[], rfl, .nil⟩, q3, q2.trans q4⟩
open Go.RowKit Go.ChangeShapes Go.WideShapes Go.ChangeAt Go.Deep
section
variable {H : Type} {enc : TypeId × Value → H} {P : Program} {w W W' : World}
theorem trodAll_below (hl : laidOutB P = true) : ∀ (ts : List TypeId) (vs : List Value) (ds : List (DataW H)) (ps : List MemPlace), (∀ t ∈ ts, P.readableRec t = true ∧ t < P.types.size) →
    DataW.TrodAll enc P W 0 (fun _ => true) true ts vs ds ps → Below W.heap.size W W' → DataW.TrodAll enc P W' 0 (fun b => decide (b < W.heap.size)) true ts vs ds ps
  | [], vs, ds, ps, _, h, _ => by
    obtain ⟨rfl, rfl, rfl⟩ := trodAll_nil h
    exact trodAll_mk0
  | t :: ts, vs, ds, ps, hr, h, hb => by
    obtain ⟨v, vs', d, ds', p, q, rfl, rfl, rfl, h1, h2⟩ := trodAll_cons h
    refine trodAll_cons_mk (Below.trod hl (hr t (by simp)).1 (hr t (by simp)).2 h1 hb ?_) (trodAll_below hl ts vs' ds' q (fun t ht => hr t (by simp [ht])) h2 hb)
    obtain ⟨m, hm⟩ := h1
    exact DataW.trod_lt m _ _ _ hm
def Sz {H : Type} (P : Program) (t : TypeId) (d : DataW H) : Prop := ∀ n ∈ d.weights P t, n ≤ 140737488351232
theorem Sz.of {H : Type} {P : Program} {ts : List TypeId} {ds : List (DataW H)} (h : (DataW.weightsEach P ts ds).all (· ≤ reachBytes) = true) {j : Nat} {t : TypeId} {d : DataW H} (ht : ts[j]? = some t) (hd : ds[j]? = some d) : Sz P t d := by
  intro n hn
  have := List.all_eq_true.1 h n (DataW.weights_mem_each ht hd n hn)
  show n ≤ reachBytes
  exact of_decide_eq_true this
theorem weights_all {H : Type} {P : Program} {e : TypeId} : ∀ {ds : List (DataW H)} {d : DataW H}, d ∈ ds → ∀ n ∈ d.weights P e, n ∈ DataW.weightsAll P e ds
  | d' :: ds, d, h, n, hn => by
    simp only [DataW.weightsAll, List.mem_append]
    rcases List.mem_cons.1 h with rfl | h
    · exact .inl hn
    · exact .inr (weights_all h n hn)
end
abbrev mu (w : World) : Mem := fun b o => w.cell? ⟨b, o, none⟩
def Reads {α : Type} (P : Program) (N : Nat) (t : TypeId) (n : Nat) (F : α → List T) (ok : α → Prop) : Prop :=
  ∀ (H : Type) (enc : TypeId × Value → H) (w : World) (sp : Nat → Bool) (held : Bool) (fuel : Nat) (cs : List Value) (y : DataW H × List MemPlace), fuel ≤ N →
    DataW.trod enc P w 0 sp held fuel t cs = some y → Sz P t y.1 → cs.length = n → ∃ x, Reps (RepT (mu w)) (F x) cs ∧ ok x
def ReadsF {α : Type} (P : Program) (N : Nat) (off : Nat) (fl : List Field) (n : Nat) (F : α → List T) (ok : α → Prop) : Prop :=
  ∀ (H : Type) (enc : TypeId × Value → H) (w : World) (sp : Nat → Bool) (held : Bool) (m : Nat) (cs : List Value), m < N →
    (∀ f ∈ fl, ∃ y, DataW.trod enc P w 0 sp held m f.type ((cs.drop f.offset).take (P.cellsOf f.type)) = some y ∧ Sz P f.type y.1) → cs.length = off + n → ∃ x, Reps (RepT (mu w)) (F x) (cs.drop off) ∧ ok x
section
variable {α β : Type} {P : Program} {N n : Nat} {t e : TypeId} {F : α → List T} {ok : α → Prop} {G : β → List T} {ok' : β → Prop}
theorem Reads.conv (h : Reads P N t n F ok) (g : α → β) (hg : ∀ x, ok x → G (g x) = F x) (ho : ∀ x, ok x → ok' (g x)) : Reads P N t n G ok' := fun H enc w sp held fuel cs y hf hy hz hl => by
  obtain ⟨x, h1, h2⟩ := h H enc w sp held fuel cs y hf hy hz hl
  exact ⟨g x, by rw [hg x h2]; exact h1, ho x h2⟩
theorem reps1 {μ : Mem} {x : T} {v : Value} (h : RepT μ x v) : Reps (RepT μ) [x] [v] := .cons h .nil
theorem Reads.int {k : IntKind} (ht : P.underlying t = some (.int k)) : Reads P N t 1 (fun i : Int => [.v (.int k i)]) (fun i => (Lit.int k i).wf = true) := fun H enc w sp held fuel cs y hf hy hz hl => by
  obtain ⟨i, rfl, _, h⟩ := DataW.trod_int ht hy
  exact ⟨i, reps1 (.v rfl), h⟩
theorem Reads.bool (ht : P.underlying t = some .bool) : Reads P N t 1 (fun b : Bool => [.v (.bool b)]) (fun _ => True) := fun H enc w sp held fuel cs y hf hy hz hl => by
  obtain ⟨i, rfl, _⟩ := DataW.trod_bool ht hy
  exact ⟨i, reps1 (.v rfl), trivial⟩
theorem Reads.string (ht : P.underlying t = some .string) : Reads P N t 1 (fun s : ByteArray => [.v (.string s)]) (fun s => s.size ≤ 140737488351232) := fun H enc w sp held fuel cs y hf hy hz hl => by
  obtain ⟨s, rfl, hx, _⟩ := DataW.trod_string ht hy
  refine ⟨s, reps1 (.v rfl), ?_⟩
  have := hz s.data.toList.length (by rw [hx]; simp [DataW.weights])
  rwa [Array.length_toList] at this
theorem ReadsF.nil {off : Nat} : ReadsF P N off [] 0 (fun _ : Unit => []) (fun _ => True) := fun H enc w sp held m cs hm h hl => ⟨(), by rw [List.drop_eq_nil_of_le (by omega)]; exact .nil, trivial⟩
theorem ReadsF.cons {f : Field} {fl : List Field} {off n1 n2 : Nat} (ho : f.offset = off) (hc : P.cellsOf f.type = n1) (h1 : ∀ M, M < N → Reads P M f.type n1 F ok) (h2 : ReadsF P N (off + n1) fl n2 G ok') :
    ReadsF P N off (f :: fl) (n1 + n2) (fun p : α × β => F p.1 ++ G p.2) (fun p => ok p.1 ∧ ok' p.2) := fun H enc w sp held m cs hm h hl => by
  obtain ⟨y, hy, hz⟩ := h f (by simp)
  rw [ho, hc] at hy
  obtain ⟨x, h3, h4⟩ := h1 m hm H enc w sp held m _ y (Nat.le_refl _) hy hz (by simp; omega)
  obtain ⟨x', h5, h6⟩ := h2 H enc w sp held m cs hm (fun f' hf => h f' (by simp [hf])) (by omega)
  refine ⟨(x, x'), ?_, h4, h6⟩
  have e1 : cs.drop off = (cs.drop off).take n1 ++ cs.drop (off + n1) := by rw [← List.drop_drop, List.take_append_drop]
  rw [e1]
  exact h3.append h5
theorem Reads.struct {fl : List Field} (ht : P.underlying t = some (.struct ⟨fl⟩)) (h : ReadsF P N 0 fl n F ok) : Reads P N t n F ok := fun H enc w sp held fuel cs y hf hy hz hl => by
  obtain ⟨xs, m, hm, hx, _, hxl, hg⟩ := DataW.trod_struct ht hy
  have hxl' : xs.length = fl.length := by simpa using hxl
  obtain ⟨x, h1, h2⟩ := h H enc w sp held m cs (by omega) (fun f hfl => by
    obtain ⟨i, hi⟩ := List.getElem?_of_mem hfl
    have hi' : i < fl.length := (List.getElem?_eq_some_iff.1 hi).1
    have h3 := hg i f (by simpa using hi)
    have h5 : xs[i]? = some xs[i] := List.getElem?_eq_getElem (by omega)
    refine ⟨xs[i], by rw [h3, h5], fun k hk => hz k ?_⟩
    rw [hx]
    simp only [DataW.weights, ht]
    exact DataW.weights_mem_each (j := i) (by simp [hi]) (by rw [List.getElem?_map, h5]; rfl) k hk) (by omega)
  exact ⟨x, by simpa using h1, h2⟩
theorem many {μ : Mem} : ∀ (css : List (List Value)), (∀ c ∈ css, ∃ x, Reps (RepT μ) (F x) c ∧ ok x) → ∃ xs : List α, xs.length = css.length ∧ (∀ (i : Nat) (x : α) (c : List Value), xs[i]? = some x → css[i]? = some c → Reps (RepT μ) (F x) c) ∧ ∀ x ∈ xs, ok x
  | [], _ => ⟨[], rfl, fun i x c h => by simp at h, by simp⟩
  | c :: css, h => by
    obtain ⟨x, h1, h2⟩ := h c (by simp)
    obtain ⟨xs, h3, h4, h5⟩ := many css fun c hc => h c (by simp [hc])
    refine ⟨x :: xs, by simp [h3], fun i x' c' hi hc => ?_, by simpa using ⟨h2, h5⟩⟩
    cases i with
    | zero => simp at hi hc; subst hi hc; exact h1
    | succ i => exact h4 i x' c' (by simpa using hi) (by simpa using hc)
theorem Reads.slice (ht : P.underlying t = some (.slice e)) (hC : P.cellsOf e = n) (hs : 0 < n) (h : ∀ M, M < N → Reads P M e n F ok) :
    Reads P N t 1 (fun l : List α => [.sl .un n (l.map F)]) (fun l => l.length * P.bytesOf e ≤ 140737488351232 ∧ l.length ≤ maxLen ∧ ∀ x ∈ l, ok x) := fun H enc w sp held fuel cs y hf hy hz hl => by
  rcases DataW.trod_slice ht hy with ⟨rfl, _⟩ | ⟨a, len, cap, elems, rest, m, hm, rfl, hx, _, hlc, hcm, hel, hg, _⟩
  · exact ⟨[], reps1 (.nil (by simp)), by simp, by simp, by simp⟩
  · rw [hC] at hg
    have hi' : ∀ i, ∃ cs', i < len → w.cells? 0 (a.add (i * n)) n = some cs' ∧ ∃ y, DataW.trod enc P w 0 sp held m e cs' = some y ∧ Sz P e y.1 := by
      intro i
      by_cases h : i < len
      · have h1 := hg i h
        have h2 : elems[i]? = some elems[i] := List.getElem?_eq_getElem (by omega)
        rw [h2, Option.bind_eq_some_iff] at h1
        obtain ⟨cs', h3, h4⟩ := h1
        refine ⟨cs', fun _ => ⟨h3, _, h4, fun k hk => hz k ?_⟩⟩
        rw [hx]
        simp only [DataW.weights, ht, List.mem_cons, List.mem_append]
        exact .inr (.inl (weights_all (List.mem_map.2 ⟨_, List.getElem_mem (by omega), rfl⟩) k hk))
      · exact ⟨[], fun h' => absurd h' h⟩
    obtain ⟨f, hff⟩ := Classical.axiomOfChoice hi'
    obtain ⟨xs, h1, h2, h3⟩ := many (F := F) (ok := ok) (μ := mu w) ((List.range len).map f) fun c hc => by
      obtain ⟨i, hi, rfl⟩ := List.mem_map.1 hc
      obtain ⟨h5, y', h6, h7⟩ := hff i (List.mem_range.1 hi)
      exact h m (by omega) H enc w sp held m _ y' (Nat.le_refl _) h6 h7 (World.cells?_some h5).2.1
    have hxl : xs.length = len := by simpa using h1
    have hb : xs.length * P.bytesOf e ≤ 140737488351232 := by
      have := hz ((elems.length + rest.length) * P.bytesOf e) (by rw [hx]; simp [DataW.weights, ht])
      refine Nat.le_trans (Nat.mul_le_mul_right _ ?_) this
      omega
    refine ⟨xs, reps1 ?_, hb, by omega, h3⟩
    rcases Nat.eq_zero_or_pos len with h0 | h0
    · have : xs = [] := List.length_eq_zero_iff.1 (by omega)
      subst this; subst h0
      exact .emp (by simp)
    · have hspot : a.spot = none := by
        obtain ⟨_, hl0, hc0⟩ := World.cells?_some (hff 0 h0).1
        have h0 := hc0 0 hs
        rw [List.getElem?_eq_getElem (by omega), Go.Deep.add_add] at h0
        have := World.cell?_spot h0
        simpa [Addr.add] using this
      obtain ⟨b, off, spot⟩ := a
      simp only at hspot
      subst hspot
      have add_eq : ∀ j, (⟨b, off, none⟩ : Addr).add j = ⟨b, off + j, none⟩ := fun j => by unfold Addr.add; split <;> simp_all
      have fl : ∀ i, i < len → (f i).length = n := fun i hi => (World.cells?_some (hff i hi).1).2.1
      have el : ∀ i (e : List T), (xs.map F)[i]? = some e → i < len ∧ Reps (RepT (mu w)) e (f i) := fun i e he => by
        have hi : i < xs.length := by have := (List.getElem?_eq_some_iff.1 he).1; simpa using this
        have e1 : e = F xs[i] := by have := (List.getElem?_eq_some_iff.1 he).2; simpa using this.symm
        subst e1
        exact ⟨by omega, h2 i _ _ (List.getElem?_eq_getElem hi) (by simp [List.getElem?_map, List.getElem?_range (show i < len by omega)])⟩
      refine .sl (fun i j => (f i).getD j undef) (fun e => by have := congrArg List.length e; simp at this; subst this; simp at hxl; omega) (by simp [hxl]) (by omega) (fun i e he => ?_) (fun i e j x he hj => ?_) (fun i e j x he hj => ?_)
      · obtain ⟨hi, hr⟩ := el i e he
        rw [hr.1, fl i hi]
      · obtain ⟨hi, hr⟩ := el i e he
        have hj' : j < n := by have := (List.getElem?_eq_some_iff.1 hj).1; rw [hr.1, fl i hi] at this; exact this
        obtain ⟨_, hl1, hc1⟩ := World.cells?_some (hff i hi).1
        have := hc1 j hj'
        rw [Go.Deep.add_add, add_eq] at this
        show w.cell? _ = _
        rw [this, List.getD_eq_getElem?_getD, List.getElem?_eq_getElem (by omega)]
        rfl
      · obtain ⟨hi, hr⟩ := el i e he
        have hj' : j < (f i).length := by rw [← hr.1]; exact (List.getElem?_eq_some_iff.1 hj).1
        have := hr.2 j x (f i)[j] hj (List.getElem?_eq_getElem hj')
        simpa [List.getD_eq_getElem?_getD, List.getElem?_eq_getElem hj'] using this
theorem many_at {μ : Mem} {cs : List Value} : ∀ (k off : Nat), (∀ i, i < k → ∃ x, Reps (RepT μ) (F x) ((cs.drop (off + i * n)).take n) ∧ ok x) → cs.length = off + k * n → ∃ xs : List α, xs.length = k ∧ Reps (RepT μ) (xs.map F).flatten (cs.drop off) ∧ ∀ x ∈ xs, ok x
  | 0, off, _, hl => ⟨[], rfl, by rw [List.drop_eq_nil_of_le (by omega)]; exact .nil, by simp⟩
  | k + 1, off, h, hl => by
    obtain ⟨x, h1, h2⟩ := h 0 (by omega)
    obtain ⟨xs, h3, h4, h5⟩ := many_at k (off + n) (fun i hi => by
      have := h (i + 1) (by omega)
      rw [Nat.add_mul, Nat.one_mul, ← Nat.add_assoc, Nat.add_right_comm] at this; exact this) (by rw [hl, Nat.add_mul]; omega)
    refine ⟨x :: xs, by simp [h3], ?_, by simpa using ⟨h2, h5⟩⟩
    have e1 : cs.drop off = (cs.drop off).take n ++ cs.drop (off + n) := by rw [← List.drop_drop, List.take_append_drop]
    rw [e1, List.map_cons, List.flatten_cons]
    rw [Nat.zero_mul, Nat.add_zero] at h1
    exact h1.append h4
theorem Reads.array {k : Nat} (ht : P.underlying t = some (.array k e)) (hC : P.cellsOf e = n) (h : ∀ M, M < N → Reads P M e n F ok) :
    Reads P N t (k * n) (fun l : List α => (l.map F).flatten) (fun l => l.length = k ∧ ∀ x ∈ l, ok x) := fun H enc w sp held fuel cs y hf hy hz hl => by
  obtain ⟨xs, m, hm, hx, _, hxl, hg⟩ := DataW.trod_array ht hy
  rw [hC] at hg
  obtain ⟨ys, h1, h2, h3⟩ := many_at (F := F) (ok := ok) (μ := mu w) (n := n) (cs := cs) k 0 (fun i hi => by
    have h3 := hg i hi
    have h5 : xs[i]? = some xs[i] := List.getElem?_eq_getElem (by omega)
    rw [h5] at h3
    rw [Nat.zero_add]
    have hle : (i + 1) * n ≤ k * n := Nat.mul_le_mul_right _ (by omega)
    rw [Nat.add_mul] at hle
    exact h m (by omega) H enc w sp held m _ _ (Nat.le_refl _) h3 (fun q hq => hz q (by
      rw [hx]
      simp only [DataW.weights, ht]
      exact weights_all (List.mem_map.2 ⟨_, List.getElem_mem (by omega), rfl⟩) q hq)) (by simp; omega)) (by omega)
  exact ⟨ys, by simpa using h2, h1, h3⟩
variable {H : Type} {enc : TypeId × Value → H} {w : World} {r : Reach} {b0 : Nat} {v : Value} {d : DataW H} {p : List MemPlace} {sp : Nat → Bool} {held : Bool} {c : Ctx}
theorem arg_cells {f : α → C} (hr : ∀ N, Reads P N t n F ok) (hn : v.cells.size = n) (h : DataW.Trod enc P w 0 sp held t v d p) (hz : Sz P t d)
    (hf : ∀ x, Reps (RepT (mu w)) (F x) v.cells.toList → RepC (mu w) c.β (f x) v) : ∃ x, RepC (mu w) c.β (f x) v ∧ ok x := by
  obtain ⟨fuel, h⟩ := h
  obtain ⟨x, h1, h2⟩ := hr fuel H enc w sp held fuel _ _ (Nat.le_refl _) h hz (by simpa using hn)
  exact ⟨x, hf x h1, h2⟩
theorem arg1 {f : α → T} {β : Pos} (h1 : v.cells = #[v]) (hr : ∀ N, Reads P N t 1 (fun x => [f x]) ok) (h : DataW.Trod enc P w 0 sp held t v d p) (hz : Sz P t d) : ∃ x, RepC (mu w) β (.a (.t (f x))) v ∧ ok x := by
  obtain ⟨x, h2, h3⟩ := arg_cells (c := ⟨fun _ _ => none, β, fun _ => (0, 0), 0⟩) (f := fun x => .a (.t (f x))) hr (by rw [h1]; rfl) h hz (fun x hx => by
    rw [h1] at hx
    exact .t (hx.2 0 _ _ rfl rfl))
  exact ⟨x, h2, h3⟩
theorem argG {F' : α → List A} {β : Pos} {cs : Array Value} (hv : v = .agg cs) (hsz : cs.size = n) (hr : ∀ N, Reads P N t n F ok) (hF : ∀ x, F' x = (F x).map .t) (h : DataW.Trod enc P w 0 sp held t v d p) (hz : Sz P t d) : ∃ x, RepC (mu w) β (.g (F' x)) v ∧ ok x := by
  subst hv
  obtain ⟨x, h2, h3⟩ := arg_cells (c := ⟨fun _ _ => none, β, fun _ => (0, 0), 0⟩) (f := fun x => .g (F' x)) hr (by simpa [Value.cells] using hsz) h hz (fun x hx => by
    refine ⟨cs, rfl, ?_⟩
    rw [hF]
    have hx : Reps (RepT (mu w)) (F x) cs.toList := hx
    exact reps_t hx)
  exact ⟨x, h2, h3⟩
theorem arg_slice {f : α → T} {β : Pos} (hu : P.underlying t = some (.slice e)) (hv : Value.okWide P w r b0 t v) (hr : ∀ N, Reads P N t 1 (fun x => [f x]) ok) (h : DataW.Trod enc P w 0 sp held t v d p) (hz : Sz P t d) : ∃ x, RepC (mu w) β (.a (.t (f x))) v ∧ ok x := by
  obtain ⟨a, len, cap, rfl⟩ := okWide_slice hu hv
  exact arg1 rfl hr h hz
theorem arg_struct {F' : α → List A} {β : Pos} {fs : Array Field} (hu : P.underlying t = some (.struct fs)) (hc : P.cellsOf t = n) (hv : Value.okWide P w r b0 t v) (hr : ∀ N, Reads P N t n F ok) (hF : ∀ x, F' x = (F x).map .t) (h : DataW.Trod enc P w 0 sp held t v d p) (hz : Sz P t d) : ∃ x, RepC (mu w) β (.g (F' x)) v ∧ ok x := by
  obtain ⟨cs, rfl, h1⟩ := okWide_struct hu hv
  exact argG rfl (by rw [h1, hc]) hr hF h hz
end
theorem Spec.row {P : Program} {f : FuncId} {args : List C} {w : World} {vs : Array Value} {u : Value} (ht : TabW w) (h : Spec P f args (fun _ => none) fun x _ => x = tv u) (hr : Reps (RepC (mu w) (fun _ => none)) args vs.toList) :
    Calls P f vs w fun e w' => e = .returned u ∧ Below w.heap.size w w' := by
  have hc : Conc ⟨mu w, fun _ => none, fun _ => (0, 0), 0⟩ (ownH fun _ => none) w := ⟨fun b o u h => h, fun i x hi => (by cases i <;> cases hi), fun i j x y b n m hi => (by cases i <;> cases hi), ⟨0, fun k _ => ⟨rfl, rfl⟩⟩, ht, fun tg cs th i x n hi => (by cases i <;> cases hi)⟩
  refine (h _ w vs hc hr).mono ?_
  rintro e w' ⟨v, x, H', c', rfl, rfl, hx, _, hE⟩
  have := rep_tv hx
  subst this
  exact ⟨rfl, hE.os, hE.tape, hE.output, hE.size, fun b hb => hE.blk b hb fun i x n hi => (by cases i <;> cases hi)⟩
open Classical in
noncomputable def full (H : Heap) : Heap := fun k => match H k with | some o => if o.empty then none else some o | none => none
theorem full_some {H : Heap} {k : Nat} {o : AO} : full H k = some o ↔ H k = some o ∧ ¬ o.empty := by
  unfold full
  cases h : H k with
  | none => simp
  | some y =>
    simp only
    split
    · rename_i hy
      constructor
      · intro h; cases h
      · rintro ⟨h1, h2⟩; injection h1 with h1; subst h1; exact absurd hy h2
    · rename_i hy
      constructor
      · intro h; injection h with h; subst h; exact ⟨rfl, hy⟩
      · rintro ⟨h1, _⟩; exact h1
structure Part (H A B : Heap) : Prop where
  left : ∀ k o, A k = some o → H k = some o
  right : ∀ k o, B k = some o → H k = some o ∧ A k = none ∧ ¬ o.empty
theorem Part.start (H : Heap) : Part H (fun _ => none) (full H) := ⟨fun _ _ h => (by cases h), fun k o h => ⟨(full_some.1 h).1, rfl, (full_some.1 h).2⟩⟩
theorem Part.sub {H A B : Heap} (h : Part H A B) : ∀ k o, B k = some o → H k = some o := fun k o hk => (h.right k o hk).1
section
variable {P : Program} {o : Oper} {n d : Nat} {t : Nat → X} {L : Nat → Option AO} {H : Heap}
theorem SeqK.xw {all : Array Oper} {K : S → Prop} {rest : List Oper} (i : Nat) {x y : X} (hi : t i = x) (h : XW x y) (k : SeqK P all K (o :: rest) ⟨n, upd t i y, L, H⟩) : SeqK P all K (o :: rest) ⟨n, t, L, H⟩ := OpW.wk (.xw i hi h) k
end
section
variable {P : Program} {all : Array Oper} {o : Oper} {s : S} {K : S → Prop} {rest : List Oper} {n d : Nat} {t : Nat → X} {L : Nat → Option AO} {H : Heap}
theorem made_cells {z : Value} {m sz : Nat} (hz : z.cells.size = sz) (h0 : 0 < sz) : (madeCells z.cells (m * sz)).toList = (List.replicate m z.cells.toList).flatten := by
  apply List.ext_getElem?
  intro j
  have hl : (List.replicate m z.cells.toList).flatten.length = m * sz := by simp [hz]
  by_cases hj : j < m * sz
  · have hmod : j % sz < sz := Nat.mod_lt _ h0
    have hdiv : j / sz < m := (Nat.div_lt_iff_lt_mul h0).2 hj
    have e1 : (madeCells z.cells (m * sz)).toList[j]? = some (z.cells[j % sz]'(by omega)) := by
      simp [madeCells, hj, hz]
      rw [getElem!_pos _ _ (by omega)]
    have e2 : ∀ (m j : Nat), j < m * sz → (List.replicate m z.cells.toList).flatten[j]? = z.cells.toList[j % sz]? := by
      intro m
      induction m with
      | zero => intro j h; simp at h
      | succ m ih =>
        intro j h
        rw [List.replicate_succ, List.flatten_cons]
        by_cases hjs : j < sz
        · rw [List.getElem?_append_left (by simpa [hz] using hjs), Nat.mod_eq_of_lt hjs]
        · rw [List.getElem?_append_right (by simp [hz]; omega)]
          have hlen : z.cells.toList.length = sz := by simpa using hz
          rw [hlen, ih (j - sz) (by rw [Nat.add_mul] at h; omega)]
          rw [← Nat.mod_eq_sub_mod (by omega)]
    rw [e1, e2 m j hj]
    rw [List.getElem?_eq_getElem (by simpa [hz] using hmod)]
    simp
  · have h1 : (List.replicate m z.cells.toList).flatten[j]? = none := List.getElem?_eq_none (by rw [hl]; omega)
    have h2 : (madeCells z.cells (m * sz)).toList[j]? = none := List.getElem?_eq_none (by rw [Array.length_toList, size_madeCells]; omega)
    rw [h1, h2]
theorem OpW.make {tt e : TypeId} {x y : Operand} {k : IntKind} {m sz bytes : Nat} {z : Value} {zc : List A} (hg : o.guard = none) (ho : o.op = .makeSlice tt x y) (ty : elB P tt e sz bytes = true) (hz : zeroIs P e z) (h1 : z.cells.toList.all Value.oneCell' = true) (hzc : z.cells.toList.map litA = zc)
    (hx : S.eval ⟨n, t, L, H⟩ x = iX k (m : Int)) (hy : S.eval ⟨n, t, L, H⟩ y = iX k (m : Int)) (hb : m * bytes ≤ 140737488355328 ∧ m ≤ 9223372036854775807) (hdst : o.dst = some d) (hd : Nat.blt d n = true)
    (hk : ∀ k', H k' = none → K ⟨n, upd t d (.c (.a (.os k' 0 m sz))), L, upd H k' (some (.row e sz (List.replicate m zc).flatten))⟩) : OpW P all o K ⟨n, t, L, H⟩ := by
  intro c a w g
  unfold opRun
  rw [if_pos (by simp [Region.wanted, hg])]
  refine wp_to ?_
  obtain ⟨i, zz, g1, g2, g3, g4, g5, g6, g7⟩ := elB_get ty
  have hzz : z = zz := by unfold zeroIs at hz; rw [g2] at hz; simp at hz; rw [g6] at hz; injection hz with hz; exact hz.symm
  subst hzz
  have ha : a.eval x = .int k m := by have := g.eval x; rw [hx] at this; exact rep_tv this
  have hb' : a.eval y = .int k m := by have := g.eval y; rw [hy] at this; exact rep_tv this
  have hbt : (i.bytes : Int) * (m : Int) ≤ 281474976710656 := by
    have h : ((i.bytes * m : Nat) : Int) ≤ 281474976710656 := by rw [g5, Nat.mul_comm]; omega
    rwa [Int.natCast_mul] at h
  have hr := run_make (P := P) w tt e i z g1 g2 g6 k k m m (by omega) (Int.le_refl _) hbt (by omega)
  simp only [Int.toNat_natCast, g3] at hr
  have hrun : (execOp a.eval o).run P w = .ok (.value (.slice (some ⟨w.heap.size, 0, none⟩) m m)) (w.alloc (.cells (madeCells z.cells (m * sz)) e)) := by
    simp [execOp, ho, ha, hb', hr]
  have hmc : (madeCells z.cells (m * sz)).size = m * sz := by simp [madeCells]
  have hlist := made_cells (m := m) g7 (by omega)
  have hone : ∀ u ∈ (List.replicate m z.cells.toList).flatten, u.oneCell' = true := fun u hu => by
    obtain ⟨l, hl, hu⟩ := List.mem_flatten.1 hu
    have := (List.mem_replicate.1 hl).2
    subst this
    exact List.all_eq_true.1 h1 u hu
  have hcells : (List.replicate m zc).flatten = (List.replicate m z.cells.toList).flatten.map litA := by
    rw [← hzc, List.map_flatten, List.map_replicate]
  have mk := Mk.alloc (c := c) g.memOk (.cells (madeCells z.cells (m * sz)) e)
  obtain ⟨k', q1, q2, q3, q4⟩ := g.newE (x := .row e sz (List.replicate m zc).flatten) (b := w.heap.size) (n := m) mk (Nat.le_refl _) ⟨_, heap_new w _, hmc, by unfold maxLen; omega, by
      rw [hlist, hcells, List.length_map, List.take_length]
      exact lits _ (by rw [List.all_eq_true]; exact hone), fun q => by
      cases hz : c.μ w.heap.size q with
      | none => rfl
      | some u => have := World.block_lt_of_cell? w _ (g.conc.mem _ q u hz); simp at this⟩
  unfold Oper.wp
  rw [hrun]
  refine ⟨_, _, hk k' q1, ?_, q4⟩
  have := q3.put (some d) (x := .c (.a (.os k' 0 m sz))) (v := .slice (some ⟨w.heap.size, 0, none⟩) m m) (decide_eq_true (inb hd)) (by
    rcases Nat.eq_zero_or_pos m with h | h
    · subst h; exact .os0
    · exact .os (upd_same _ _ _) h) (fun _ h => by cases h)
  rw [hdst]; exact this
theorem SeqK.make {tt e : TypeId} {x y : Operand} {k : IntKind} {m sz bytes : Nat} {z : Value} {zc : List A} (hg : o.guard = none) (ho : o.op = .makeSlice tt x y) (ty : elB P tt e sz bytes = true) (hz : zeroIs P e z) (h1 : z.cells.toList.all Value.oneCell' = true) (hzc : z.cells.toList.map litA = zc)
    (hx : S.eval ⟨n, t, L, H⟩ x = iX k (m : Int)) (hy : S.eval ⟨n, t, L, H⟩ y = iX k (m : Int)) (hb : m * bytes ≤ 140737488355328 ∧ m ≤ 9223372036854775807) (hdst : o.dst = some d) (hd : Nat.blt d n = true)
    (hk : ∀ k', H k' = none → SeqK P all K rest ⟨n, upd t d (.c (.a (.os k' 0 m sz))), L, upd H k' (some (.row e sz (List.replicate m zc).flatten))⟩) : SeqK P all K (o :: rest) ⟨n, t, L, H⟩ := OpW.make hg ho ty hz h1 hzc hx hy hb hdst hd hk
def fnX : X → Option (FuncId × List A)
  | .c (.a (.fn f cs)) => some (f, cs)
  | .c (.a (.t (.v (.func (.func f) fs vs)))) => if fs.size = 0 ∧ vs.size = 0 then some (f, []) else none
  | _ => none
theorem fn_rep {c : Ctx} {x : X} {v : Value} {f : FuncId} {cs : List A} (h : RepX c x v) (hf : fnX x = some (f, cs)) : ∃ vs : Array Value, v = .func (.func f) #[] vs ∧ Reps (RepC c.μ c.β) (cs.map C.a) vs.toList := by
  unfold fnX at hf
  split at hf
  · cases hf
    have h : RepA c.μ c.β (.fn f cs) v := h
    cases h with
    | @fn _ _ vs u hv h9 =>
      refine ⟨vs, rfl, by rw [hv]; simp, fun i x v h1 h2 => ?_⟩
      rw [List.getElem?_map] at h1
      obtain ⟨y, hy, rfl⟩ := Option.map_eq_some_iff.1 h1
      have hi : i < cs.length := (List.getElem?_eq_some_iff.1 hy).1
      have : v = u i := by rw [hv, List.getElem?_map, List.getElem?_range hi] at h2; simpa using h2.symm
      subst this
      exact h9 i y hy
  · split at hf
    · rename_i fs vs hs
      cases hf
      have := rep_tv h
      subst this
      have e1 : fs = #[] := Array.eq_empty_of_size_eq_zero hs.1
      have e2 : vs = #[] := Array.eq_empty_of_size_eq_zero hs.2
      subst e1 e2
      exact ⟨#[], rfl, .nil⟩
    · cases hf
  · cases hf
theorem callV_wp {z : Operand} {f : FuncId} {cs : List A} {ys : Array Operand} {ts : Array TypeId} {args : List C} {Q : X → Heap → Prop} {c : Ctx} {a : Act} {w : World} (g : Sat c s a w) (ho : o.op = .call { callee := .value z, args := ys, argTypes := ts }) (hz : fnX (s.eval z) = some (f, cs)) (hf : fnB P f = true) (ha : argsX s ys.toList = some args) (h : Spec P f (args ++ cs.map C.a) s.H Q) (hl : ∀ x H', Q x H' → x.loc = none) (hd : inB o.dst s.n = true) :
    o.wp P a w (fun a' w' => ∃ x H' c', Q x H' ∧ Sat c' ((⟨s.n, s.t, s.L, H'⟩ : S).put o.dst x) a' w' ∧ Ext c s.own w c' ((⟨s.n, s.t, s.L, H'⟩ : S).put o.dst x).own w') (fun _ _ _ => False) := by
  have hr : Reps (RepC c.μ c.β) args (ys.map a.eval).toList := by
    have := args_rep (c := c) (f := a.eval) ha fun y _ => g.eval y
    simpa using this
  obtain ⟨vs, hv, hvs⟩ := fn_rep (g.eval z) hz
  have hc : Conc c (ownH s.H) w := g.conc.sub fun i x h => by cases i with
    | e k => exact h
    | l d => cases h
  have hcall := h c w (ys.map a.eval ++ vs) hc (by rw [Array.toList_append]; exact hr.append hvs)
  have hrun : (execOp a.eval o).run P w = .ok (.enter f (ys.map a.eval ++ vs)) w := by
    simp [execOp, ho, resolve, hv, Deferred.ofValue, invoke, enter_run hf]
  unfold Oper.wp
  rw [hrun, Oper.upon_enter]
  refine hcall.mono ?_
  rintro e w' ⟨v, y, H', c', rfl, hq, hrx, hc', hx'⟩
  obtain ⟨g', x'⟩ := g.call hc' hx'
  exact ⟨y, H', _, hq, g'.put o.dst hd (hrx.relam (hl y H' hq)) (fun d e => by rw [hl y H' hq] at e; cases e), by rw [own_put]; exact x'⟩
theorem OpW.callV {z : Operand} {f : FuncId} {cs : List A} {ys : Array Operand} {ts : Array TypeId} {args : List C} {Q : X → Heap → Prop} (ho : o.op = .call { callee := .value z, args := ys, argTypes := ts }) (hg : o.guard = none) (hdst : o.dst = some d) (hd : Nat.blt d n = true) (hz : fnX (S.eval ⟨n, t, L, H⟩ z) = some (f, cs)) (hf : fnB P f = true) (ha : argsX ⟨n, t, L, H⟩ ys.toList = some args) (h : Spec P f (args ++ cs.map C.a) H Q) (hl : ∀ x H', Q x H' → x.loc = none)
    (k : ∀ x H', Q x H' → K ⟨n, upd t d x, L, H'⟩) : OpW P all o K ⟨n, t, L, H⟩ := fun c a w g => by
  unfold opRun
  rw [if_pos (by simp [Region.wanted, hg])]
  refine wp_weak (callV_wp g ho hz hf ha h hl (inb' hdst hd)) ?_
  rintro a' w' ⟨x, H', c', hq, g', x'⟩
  rw [hdst] at g' x'
  exact ⟨_, c', k x H' hq, g', x'⟩
theorem SeqK.callV {z : Operand} {f : FuncId} {cs : List A} {ys : Array Operand} {ts : Array TypeId} {args : List C} {Q : X → Heap → Prop} (ho : o.op = .call { callee := .value z, args := ys, argTypes := ts }) (hg : o.guard = none) (hdst : o.dst = some d) (hd : Nat.blt d n = true) (hz : fnX (S.eval ⟨n, t, L, H⟩ z) = some (f, cs)) (hf : fnB P f = true) (ha : argsX ⟨n, t, L, H⟩ ys.toList = some args) (h : Spec P f (args ++ cs.map C.a) H Q) (hl : ∀ x H', Q x H' → x.loc = none)
    (k : ∀ x H', Q x H' → SeqK P all K rest ⟨n, upd t d x, L, H'⟩) : SeqK P all K (o :: rest) ⟨n, t, L, H⟩ := SeqK.any (OpW.callV ho hg hdst hd hz hf ha h hl k)
end
abbrev rowE {α : Type} (F : α → List T) (l : List α) : List A := (l.map F).flatten.map .t
section
variable {α : Type} {F : α → List T} {sz : Nat}
theorem rowE_len (hF : ∀ x, (F x).length = sz) (l : List α) : (rowE F l).length = l.length * sz := by
  rw [List.length_map, flat_length (sz := sz) _ (fun e he => by obtain ⟨x, _, rfl⟩ := List.mem_map.1 he; exact hF x), List.length_map]
theorem rowE_app (a b : List α) : rowE F (a ++ b) = rowE F a ++ rowE F b := by simp [rowE]
theorem rowE_cons (x : α) (l : List α) : rowE F (x :: l) = (F x).map .t ++ rowE F l := by simp [rowE]
theorem rowE_split {l : List α} {i : Nat} (hi : i < l.length) : rowE F l = rowE F (l.take i) ++ (F l[i]).map .t ++ rowE F (l.drop (i + 1)) := by
  conv => lhs; rw [← List.take_append_drop i l, List.drop_eq_getElem_cons hi]
  rw [rowE_app, rowE_cons, List.append_assoc]
theorem mid_ld {α : Type} {P M Q : List α} {p f m : Nat} (hP : P.length = p) (hf : f + m ≤ M.length) : ((P ++ M ++ Q).drop (p + f)).take m = (M.drop f).take m := by
  subst hP
  rw [List.append_assoc, List.drop_append, List.drop_eq_nil_of_le (by omega), List.nil_append, show P.length + f - P.length = f by omega, List.drop_append_of_le_length (by omega), List.take_append_of_le_length (by simp; omega)]
theorem mid_st {α : Type} {P M Q v : List α} {p f : Nat} (hP : P.length = p) (hf : f + v.length ≤ M.length) : splice (P ++ M ++ Q) (p + f) v = P ++ splice M f v ++ Q := by
  subst hP
  unfold splice
  have h1 : (P ++ M ++ Q).take (P.length + f) = P ++ M.take f := by
    rw [List.append_assoc, List.take_append, List.take_of_length_le (by omega), show P.length + f - P.length = f by omega, List.take_append_of_le_length (by omega)]
  have h2 : (P ++ M ++ Q).drop (P.length + f + v.length) = M.drop (f + v.length) ++ Q := by
    rw [List.append_assoc, List.drop_append, List.drop_eq_nil_of_le (by omega), List.nil_append, show P.length + f + v.length - P.length = f + v.length by omega, List.drop_append_of_le_length (by omega)]
  rw [h1, h2]; simp [List.append_assoc]
theorem rowE_take (hF : ∀ x, (F x).length = sz) {l : List α} {i : Nat} (hi : i < l.length) : (rowE F (l.take i)).length = 0 + i * sz := by
  rw [rowE_len hF, List.length_take, Nat.min_eq_left (by omega), Nat.zero_add]
theorem row_load (hF : ∀ x, (F x).length = sz) {l : List α} {i : Nat} (hi : i < l.length) : ((rowE F l).drop (0 + i * sz)).take sz = (F l[i]).map .t := by
  rw [rowE_split hi]
  have := mid_ld (M := (F l[i]).map A.t) (Q := rowE F (l.drop (i + 1))) (rowE_take hF hi) (f := 0) (m := sz) (by simp [hF])
  rw [Nat.add_zero] at this
  rw [this, List.drop_zero, List.take_of_length_le (by simp [hF])]
theorem row_stf (hF : ∀ x, (F x).length = sz) {l : List α} {i f : Nat} {v : List A} (hi : i < l.length) (hf : f + v.length ≤ sz) (x : α) (hx : splice ((F l[i]).map .t) f v = (F x).map .t) : splice (rowE F l) (0 + i * sz + f) v = rowE F (l.set i x) := by
  have h1 : rowE F (l.set i x) = rowE F (l.take i) ++ (F x).map .t ++ rowE F (l.drop (i + 1)) := by
    rw [rowE_split (l := l.set i x) (i := i) (by simpa using hi)]
    simp [List.take_set_of_le, List.drop_set_of_lt]
  rw [h1, rowE_split hi, mid_st (rowE_take hF hi) (by simp [hF]; exact hf), hx]
theorem row_st (hF : ∀ x, (F x).length = sz) {l : List α} {i : Nat} (hi : i < l.length) (x : α) : splice (rowE F l) (0 + i * sz) ((F x).map .t) = rowE F (l.set i x) := by
  have := row_stf hF hi (f := 0) (v := (F x).map .t) (by simp [hF]) x (by
    unfold splice
    have e : ((F l[i]).map A.t).drop (0 + ((F x).map A.t).length) = [] := List.drop_eq_nil_of_le (by simp [hF])
    rw [e]; simp)
  rwa [Nat.add_zero] at this
theorem row_in (hF : ∀ x, (F x).length = sz) {l : List α} {i f m : Nat} (hi : i < l.length) (hf : f + m ≤ sz) : 0 + i * sz + f + m ≤ (rowE F l).length := by
  rw [rowE_len hF]
  have : (i + 1) * sz ≤ l.length * sz := Nat.mul_le_mul_right _ hi
  rw [Nat.add_mul] at this; omega
theorem row_in0 (hF : ∀ x, (F x).length = sz) {l : List α} {i : Nat} (hi : i < l.length) : 0 + i * sz + sz ≤ (rowE F l).length := by
  have := row_in hF hi (f := 0) (m := sz) (by omega)
  omega
theorem rowE_rep (x : α) (m : Nat) : (List.replicate m ((F x).map A.t)).flatten = rowE F (List.replicate m x) := by
  simp [rowE, List.map_flatten]
end
section
variable {P : Program} {all : Array Oper} {o : Oper} {s : S} {K : S → Prop} {rest : List Oper} {n d : Nat} {t : Nat → X} {L : Nat → Option AO} {H : Heap}
theorem OpW.appZR {x y : Operand} {tt e : TypeId} {k sz bytes : Nat} {z : Nz} {es : List (List T)} (hg : o.guard = none) (ho : o.op = .call { callee := .builtin .append, args := #[x, y], argTypes := #[tt, tt] }) (ty : elB P tt e sz bytes = true) (hx : S.eval ⟨n, t, L, H⟩ x = .c (.a (.ts k z sz []))) (hy : srcX (S.eval ⟨n, t, L, H⟩ y) = some (es, sz)) (hb : es.length * bytes ≤ 140737488355328 ∧ es.length ≤ 9223372036854775807) (hdst : o.dst = some d) (hd : Nat.blt d n = true)
    (hk : ∀ k', H k' = none → K ⟨n, upd t d (.c (.a (.os k' 0 es.length sz))), L, upd H k' (some (.row e sz (es.flatten.map .t)))⟩) : OpW P all o K ⟨n, t, L, H⟩ := by
  intro c a w g
  unfold opRun
  rw [if_pos (by simp [Region.wanted, hg])]
  refine wp_to ?_
  obtain ⟨i, zz, g1, g2, g3, g4, g5, g6, g7⟩ := elB_get ty
  obtain ⟨b0, ha⟩ : ∃ b0, a.eval x = .slice b0 0 0 := by
    have ha := g.eval x
    rw [hx] at ha
    generalize a.eval x = v at ha
    cases ha with
    | ts0 => exact ⟨none, rfl⟩
    | tsE => exact ⟨some _, rfl⟩
    | ts hk hne => exact absurd rfl hne
  obtain ⟨ad, m, cp, hv, rfl, cs, hcl, hel, hr, hcs⟩ := src_cells (by omega) (src_rep (g.eval y) hy)
  rcases app0_run (P := P) w ty o.type b0 ad es.length cp cs hcl (fun j u hu => by
    obtain ⟨b, off, h, hc⟩ := hcs j u hu
    exact ⟨b, off, h, g.conc.mem _ _ _ hc⟩) (reps_one hr) hb.1 hb.2 with ⟨h0, hrun⟩ | ⟨h0, cap, w', hrun, hown, hgr⟩
  · have he : es = [] := List.eq_nil_of_length_eq_zero h0
    subst he
    simp only [List.length_nil] at hrun
    obtain ⟨k', q1, q3, q4⟩ := g.add0 (x := .row e sz (([] : List (List T)).flatten.map .t)) rfl
    have hrun' : (execOp a.eval o).run P w = .ok (.value (.slice b0 0 0)) w := by simp [execOp, ho, ha, hv, resolve, invoke, builtin, hrun]
    unfold Oper.wp
    rw [hrun']
    refine ⟨_, c, hk k' q1, ?_, q4⟩
    have := q3.put (some d) (x := .c (.a (.os k' 0 ([] : List (List T)).length sz))) (v := .slice b0 0 0) (decide_eq_true (inb hd)) .os0 (fun _ h => by cases h)
    rw [hdst]; exact this
  · have hne : es ≠ [] := fun h => h0 (by rw [h]; rfl)
    obtain ⟨g0, cap1, cur, e1, k1, k2, k3, k4, k5⟩ := own_cells hown (by simp)
    injection e1 with e1 _ e2; injection e1 with e1; injection e1 with e1; subst e1 e2
    have hblk : ∀ b, b < w.heap.size → w'.heap[b]? = w.heap[b]? := fun b hb => hgr.block b hb (by simp)
    have hrun' : (execOp a.eval o).run P w = .ok (.value (.slice (some ⟨w.heap.size, 0, none⟩) es.length cap)) w' := by simp [execOp, ho, ha, hv, resolve, invoke, builtin, hrun]
    have mk := Mk.grew g.memOk hgr.os hgr.tape hgr.output hgr.size hblk
    have hfl : (es.flatten.map A.t).length = cs.length := by rw [List.length_map]; exact hr.1
    obtain ⟨k', q1, _, q3, q4⟩ := g.newE (x := .row e sz (es.flatten.map .t)) (b := w.heap.size) (n := cap) mk (Nat.le_refl _) ⟨cur, k1, k2, k3, ⟨by
      have hle : cs.length ≤ cur.size := by rw [k2, hcl]; exact Nat.mul_le_mul_right _ k4
      rw [List.length_take, hfl]; simp; omega, fun j q u hj hu => by
      rw [List.getElem?_take] at hu
      split at hu
      · rename_i hlt
        rw [hfl] at hlt
        have h8 := k5 j cs[j] (List.getElem?_eq_getElem hlt)
        unfold World.cell? at h8
        rw [k1] at h8
        have h9 : u = cs[j] := by simp at h8 hu; rw [h8] at hu; injection hu with hu; exact hu.symm
        rw [List.getElem?_map] at hj
        obtain ⟨q', hq', rfl⟩ := Option.map_eq_some_iff.1 hj
        rw [h9]
        exact .t (hr.2 j q' _ hq' (List.getElem?_eq_getElem hlt))
      · cases hu⟩, fun q => by
      cases hz : c.μ w.heap.size q with
      | none => rfl
      | some u => have := World.block_lt_of_cell? w _ (g.conc.mem _ q u hz); simp at this⟩
    unfold Oper.wp
    rw [hrun']
    refine ⟨_, _, hk k' q1, ?_, q4⟩
    have := q3.put (some d) (x := .c (.a (.os k' 0 es.length sz))) (v := .slice (some ⟨w.heap.size, 0, none⟩) es.length cap) (decide_eq_true (inb hd)) (.os (upd_same _ _ _) (by omega)) (fun _ h => by cases h)
    rw [hdst]; exact this
theorem SeqK.appZR {x y : Operand} {tt e : TypeId} {k sz bytes : Nat} {z : Nz} {es : List (List T)} (hg : o.guard = none) (ho : o.op = .call { callee := .builtin .append, args := #[x, y], argTypes := #[tt, tt] }) (ty : elB P tt e sz bytes = true) (hx : S.eval ⟨n, t, L, H⟩ x = .c (.a (.ts k z sz []))) (hy : srcX (S.eval ⟨n, t, L, H⟩ y) = some (es, sz)) (hb : es.length * bytes ≤ 140737488355328 ∧ es.length ≤ 9223372036854775807) (hdst : o.dst = some d) (hd : Nat.blt d n = true)
    (hk : ∀ k', H k' = none → SeqK P all K rest ⟨n, upd t d (.c (.a (.os k' 0 es.length sz))), L, upd H k' (some (.row e sz (es.flatten.map .t)))⟩) : SeqK P all K (o :: rest) ⟨n, t, L, H⟩ := OpW.appZR hg ho ty hx hy hb hdst hd hk
end
def NOp (P : Program) (all : Array Oper) (o : Oper) (R W : List Loc) (s : S) (K : S → Prop) : Prop :=
  ∀ s1, Len s1 s → (∀ ℓ, ℓ ∈ R → Same ℓ s1 s) → OpW P all o (fun s2 => ∃ s', Len s' s ∧ (∀ ℓ, ℓ ∉ W → Same ℓ s' s) ∧ s2 = s1.over W s' ∧ K s') s1
abbrev Hi := Nat × Fp
def okO (all : Array Oper) (hs : List Hi) : Bool :=
  (List.range hs.length).all fun j => (List.range j).all fun i => !conflict (hs.getD i default).2 (hs.getD j default).2 || reach all 8 (hs.getD j default).1 (hs.getD i default).1
def aheadO (all : Array Oper) (dn : List Nat) (j : Nat) : Bool := (all.getD j default).after.all fun e => !Region.binds .any e || dn.contains e.on
def okX (all : Array Oper) (j : Nat) (rest : List Nat) : Bool := rest.all fun i => reach all 8 i j
def LexO (P : Program) (all : Array Oper) (K : S → Prop) : List Nat → S → List Hi → Prop
  | [], s, hs => okO all hs = true ∧ K s
  | j :: rest, s, hs => aheadO all (hs.map (·.1)) j = true ∧ ∃ o, all[j]? = some o ∧
      ((∃ R W s', LOp P all o R W s s' ∧ LexO P all K rest s' (hs ++ [(j, (R, W))])) ∨
       (okX all j rest = true ∧ ∃ R W, okO all (hs ++ [(j, (R, W))]) = true ∧ NOp P all o R W s fun s' => LexO P all K rest s' (hs ++ [(j, (R, W))])))
section
variable {P : Program} {all : Array Oper} {K : S → Prop}
def standO (hs : List Hi) (sq : Nat → S) (Lm : Array Bool) : Nat → S
  | 0 => sq 0
  | i + 1 => if Lm.getD (hs.getD i default).1 false = true then (standO hs sq Lm i).over (hs.getD i default).2.2 (sq (i + 1)) else standO hs sq Lm i
structure StepO (P : Program) (all : Array Oper) (hs : List Hi) (sq : Nat → S) (Lm : Array Bool) (i : Nat) : Prop where
  len : Len (sq (i + 1)) (sq i)
  out : ∀ ℓ, ℓ ∉ (hs.getD i default).2.2 → Same ℓ (sq (i + 1)) (sq i)
  run : Lm.getD (hs.getD i default).1 false = true ∨ ∃ o, all[(hs.getD i default).1]? = some o ∧ LOp P all o (hs.getD i default).2.1 (hs.getD i default).2.2 (sq i) (sq (i + 1))
variable {hs : List Hi} {sq : Nat → S} {Lm : Array Bool}
theorem standO_len : ∀ k, Len (standO hs sq Lm k) (sq 0)
  | 0 => rfl
  | k + 1 => by
    simp only [standO]
    split
    · exact (over_len (hs.getD k default).2.2 (standO hs sq Lm k) (sq (k + 1))).trans (standO_len k)
    · exact standO_len k
theorem sqO_len (hL : ∀ i, i < hs.length → StepO P all hs sq Lm i) : ∀ k, k ≤ hs.length → Len (sq k) (sq 0)
  | 0, _ => rfl
  | k + 1, h => (hL k (by omega)).len.trans (sqO_len hL k (by omega))
theorem standO_same (hL : ∀ i, i < hs.length → StepO P all hs sq Lm i) {ℓ : Loc} :
    ∀ k, k ≤ hs.length → (∀ i, i < k → ℓ ∈ (hs.getD i default).2.2 → Lm.getD (hs.getD i default).1 false = true) → Same ℓ (standO hs sq Lm k) (sq k)
  | 0, _, _ => .refl _ _
  | k + 1, hk, h => by
    have ho := hL k (by omega)
    simp only [standO]
    by_cases hw : ℓ ∈ (hs.getD k default).2.2
    · rw [if_pos (h k (by omega) hw)]
      exact over_in hw
    · have ih := standO_same hL k (by omega) (fun i hi => h i (by omega)) (ℓ := ℓ)
      split
      · exact (over_out hw).trans (ih.trans (ho.out ℓ hw).symm)
      · exact ih.trans (ho.out ℓ hw).symm
theorem standO_later {ℓ : Loc} {j : Nat} : ∀ k, j ≤ k → (∀ i, j ≤ i → i < k → ℓ ∈ (hs.getD i default).2.2 → Lm.getD (hs.getD i default).1 false = false) → Same ℓ (standO hs sq Lm k) (standO hs sq Lm j)
  | 0, hk, h => by obtain rfl : j = 0 := by omega
                   exact .refl _ _
  | k + 1, hk, h => by
    by_cases e : j = k + 1
    · subst e; exact .refl _ _
    · simp only [standO]
      have ih := standO_later (ℓ := ℓ) (j := j) k (by omega) (fun i h1 h2 => h i h1 (by omega))
      split
      · rename_i hl
        refine (over_out fun hw => ?_).trans ih
        rw [h k (by omega) (by omega) hw] at hl; cases hl
      · exact ih
theorem okO_at (h : okO all hs = true) {j : Nat} (hj : j < hs.length) : ∀ i, i < j → conflict (hs.getD i default).2 (hs.getD j default).2 = false ∨ reach all 8 (hs.getD j default).1 (hs.getD i default).1 = true := by
  simp only [okO, List.all_eq_true, List.mem_range, Bool.or_eq_true, Bool.not_eq_true'] at h
  exact h j hj
def Aheads (all : Array Oper) (hs : List Hi) : Prop := ∀ k, k < hs.length → aheadO all ((hs.take k).map (·.1)) (hs.getD k default).1 = true
def EndO (P : Program) (all : Array Oper) (K : S → Prop) (hs : List Hi) (rest : List Nat) (s : S) : Prop :=
  (rest = [] ∧ okO all hs = true ∧ K s) ∨ ∃ j r o R W, rest = j :: r ∧ aheadO all (hs.map (·.1)) j = true ∧ all[j]? = some o ∧ okX all j r = true ∧ okO all (hs ++ [(j, (R, W))]) = true ∧ NOp P all o R W s fun s' => LexO P all K r s' (hs ++ [(j, (R, W))])
theorem getD_app1 {t : List Hi} {i : Nat} (h : i < hs.length) : (hs ++ t).getD i default = hs.getD i default := by
  rw [List.getD_eq_getElem?_getD, List.getD_eq_getElem?_getD, List.getElem?_append_left h]
theorem getD_app2 {x : Hi} : (hs ++ [x]).getD hs.length default = x := by
  rw [List.getD_eq_getElem?_getD, List.getElem?_append_right (Nat.le_refl _)]; simp
theorem StepO.app {t : List Hi} {sq' : Nat → S} {i : Nat} (h : StepO P all hs sq Lm i) (hi : i < hs.length) (h1 : sq' i = sq i) (h2 : sq' (i + 1) = sq (i + 1)) : StepO P all (hs ++ t) sq' Lm i := by
  obtain ⟨a, b, c⟩ := h
  rw [← h1, ← h2] at a
  refine ⟨a, ?_, ?_⟩
  · rw [getD_app1 hi, h1, h2]; exact b
  · rw [getD_app1 hi, h1, h2]; exact c
theorem Aheads.snoc (h : Aheads all hs) {x : Hi} (hx : aheadO all (hs.map (·.1)) x.1 = true) : Aheads all (hs ++ [x]) := fun k hk => by
  by_cases e : k < hs.length
  · rw [getD_app1 e, List.take_append_of_le_length (by omega)]; exact h k e
  · have : k = hs.length := by simp at hk; omega
    subst this
    rw [getD_app2, List.take_append_of_le_length (Nat.le_refl _), List.take_length]; exact hx
theorem LexO.ext : ∀ (rest : List Nat) (hs : List Hi) (sq : Nat → S), LexO P all K rest (sq hs.length) hs → (∀ i, i < hs.length → StepO P all hs sq Lm i) → Aheads all hs →
    ∃ (t : List Hi) (sq' : Nat → S) (rest' : List Nat), rest = t.map (·.1) ++ rest' ∧ (∀ i, i ≤ hs.length → sq' i = sq i) ∧ (∀ i, i < (hs ++ t).length → StepO P all (hs ++ t) sq' Lm i) ∧ Aheads all (hs ++ t) ∧ EndO P all K (hs ++ t) rest' (sq' (hs ++ t).length)
  | [], hs, sq, h, hL, ha => ⟨[], sq, [], rfl, fun _ _ => rfl, by simpa using hL, by simpa using ha, .inl ⟨rfl, by simpa using h.1, by simpa using h.2⟩⟩
  | j :: rest, hs, sq, h, hL, ha => by
    obtain ⟨h1, o, ho, ⟨R, W, s', hop, k⟩ | ⟨hx, R, W, hok, hn⟩⟩ := h
    · let sq1 : Nat → S := fun i => if i ≤ hs.length then sq i else s'
      have e1 : ∀ i, i ≤ hs.length → sq1 i = sq i := fun i hi => if_pos hi
      have e2 : sq1 (hs.length + 1) = s' := if_neg (by omega)
      have hlen : (hs ++ [(j, (R, W))]).length = hs.length + 1 := by simp
      have hL1 : ∀ i, i < (hs ++ [(j, (R, W))]).length → StepO P all (hs ++ [(j, (R, W))]) sq1 Lm i := fun i hi => by
        by_cases e : i < hs.length
        · exact (hL i e).app e (e1 i (by omega)) (e1 (i + 1) (by omega))
        · have : i = hs.length := by omega
          subst this
          refine ⟨?_, ?_, .inr ⟨o, ?_, ?_⟩⟩
          · rw [e2, e1 _ (Nat.le_refl _)]; exact hop.len
          · rw [getD_app2, e2, e1 _ (Nat.le_refl _)]; exact hop.out
          · rw [getD_app2]; exact ho
          · rw [getD_app2, e2, e1 _ (Nat.le_refl _)]; exact hop
      obtain ⟨t, sq', rest', g1, g2, g3, g4, g5⟩ := LexO.ext rest (hs ++ [(j, (R, W))]) sq1 (by rw [hlen, e2]; exact k) hL1 (ha.snoc h1)
      have ea : hs ++ [(j, (R, W))] ++ t = hs ++ ((j, (R, W)) :: t) := by simp
      rw [ea] at g3 g4 g5
      exact ⟨(j, (R, W)) :: t, sq', rest', by rw [g1]; rfl, fun i hi => (g2 i (by rw [hlen]; omega)).trans (e1 i hi), g3, g4, g5⟩
    · exact ⟨[], sq, j :: rest, rfl, fun _ _ => rfl, by simpa using hL, by simpa using ha, .inr ⟨j, rest, o, R, W, rfl, by simpa using h1, ho, hx, by simpa using hok, by simpa using hn⟩⟩
theorem hi_at {hs : List Hi} {i : Nat} (h : i < hs.length) : (hs.getD i default).1 ∈ hs.map (·.1) := by
  rw [List.getD_eq_getElem?_getD, List.getElem?_eq_getElem h]; exact List.mem_map.2 ⟨_, List.getElem_mem h, rfl⟩
theorem okO_pre {x : Hi} (h : okO all (hs ++ [x]) = true) {j : Nat} (hj : j < hs.length) : ∀ i, i < j → conflict (hs.getD i default).2 (hs.getD j default).2 = false ∨ reach all 8 (hs.getD j default).1 (hs.getD i default).1 = true := fun i hi => by
  have := okO_at h (j := j) (by simp; omega) i hi
  rwa [getD_app1 hj, getD_app1 (by omega)] at this
theorem EndO.ok {rest : List Nat} {s : S} (h : EndO P all K hs rest s) {j : Nat} (hj : j < hs.length) : ∀ i, i < j → conflict (hs.getD i default).2 (hs.getD j default).2 = false ∨ reach all 8 (hs.getD j default).1 (hs.getD i default).1 = true := by
  rcases h with ⟨_, h, _⟩ | ⟨j', r, o, R, W, _, _, _, _, h, _⟩
  · exact okO_at h hj
  · exact okO_pre h hj
theorem hi_inj {hs : List Hi} {rest : List Nat} (h : (hs.map (·.1) ++ rest).Nodup) {i k : Nat} (hi : i < hs.length) (hk : k < hs.length) (hne : i ≠ k) : (hs.getD i default).1 ≠ (hs.getD k default).1 := fun e => by
  have h1 := (List.nodup_append.1 h).1
  have h2 := List.pairwise_iff_getElem.1 h1
  rw [List.getD_eq_getElem?_getD, List.getElem?_eq_getElem hi, List.getD_eq_getElem?_getD, List.getElem?_eq_getElem hk] at e
  rcases Nat.lt_or_gt_of_ne hne with h3 | h3
  · exact h2 i k (by simpa using hi) (by simpa using hk) h3 (by simpa using e)
  · exact h2 k i (by simpa using hk) (by simpa using hi) h3 (by simpa using e.symm)
theorem standO_read {rest : List Nat} {s : S} {q : Nat} {R : List Loc} (hq : q ≤ hs.length) (hL : ∀ i, i < hs.length → StepO P all hs sq Lm i)
    (hbefore : ∀ i, i < q → ∀ ℓ, ℓ ∈ (hs.getD i default).2.2 → ℓ ∈ R → Lm.getD (hs.getD i default).1 false = true)
    (hlater : ∀ i, q ≤ i → i < hs.length → Lm.getD (hs.getD i default).1 false = true → ∀ ℓ, ℓ ∈ R → ℓ ∉ (hs.getD i default).2.2) :
    ∀ ℓ, ℓ ∈ R → Same ℓ (standO hs sq Lm hs.length) (sq q) := fun ℓ hℓ =>
  (standO_later (j := q) hs.length hq fun i h1 h2 hw => by
    cases h3 : Lm.getD (hs.getD i default).1 false with
    | false => rfl
    | true => exact absurd hw (hlater i h1 h2 h3 ℓ hℓ)).trans (standO_same hL q hq fun i hi hw => hbefore i hi ℓ hw hℓ)
theorem standO_set {rest : List Nat} (hnd : (hs.map (·.1) ++ rest).Nodup) {q : Nat} (hq : q < hs.length) (hsz : (hs.getD q default).1 < Lm.size) (hL : ∀ i, i < hs.length → StepO P all hs sq Lm i) (hun : Lm.getD (hs.getD q default).1 false = false)
    (hbefore : ∀ i, i < q → ∀ ℓ, ℓ ∈ (hs.getD i default).2.2 → ℓ ∈ (hs.getD q default).2.2 → Lm.getD (hs.getD i default).1 false = true)
    (hlater : ∀ i, q < i → i < hs.length → Lm.getD (hs.getD i default).1 false = true → ∀ ℓ, ℓ ∈ (hs.getD q default).2.2 → ℓ ∉ (hs.getD i default).2.2) :
    (standO hs sq Lm hs.length).over (hs.getD q default).2.2 (sq (q + 1)) = standO hs sq (Lm.setIfInBounds (hs.getD q default).1 true) hs.length := by
  have hne : ∀ i, i < hs.length → i ≠ q → (hs.getD q default).1 ≠ (hs.getD i default).1 := fun i hi e => hi_inj hnd hq hi (Ne.symm e)
  have hself : (Lm.setIfInBounds (hs.getD q default).1 true).getD (hs.getD q default).1 false = true := getD_set_self hsz
  have hL1 : ∀ i, i < hs.length → StepO P all hs sq (Lm.setIfInBounds (hs.getD q default).1 true) i := fun i hi => ⟨(hL i hi).len, (hL i hi).out, (hL i hi).run.imp (fun h => getD_set_true h) id⟩
  refine S.ext' ((over_len _ _ _).trans ((standO_len _).trans (standO_len _).symm)) fun ℓ => ?_
  by_cases hw : ℓ ∈ (hs.getD q default).2.2
  · refine (over_in hw).trans ?_
    refine Same.symm ((standO_later (j := q + 1) hs.length (by omega) fun i h1 h2 hwi => ?_).trans (standO_same hL1 (q + 1) (by omega) fun i hi hwi => ?_))
    · rw [getD_set_ne false (hne i h2 (by omega))]
      cases h3 : Lm.getD (hs.getD i default).1 false with
      | false => rfl
      | true => exact absurd hwi (hlater i (by omega) h2 h3 ℓ hw)
    · by_cases hij : i = q
      · subst hij; exact hself
      · exact getD_set_true (hbefore i (by omega) ℓ hwi hw)
  · refine (over_out hw).trans ?_
    have key : ∀ k, k ≤ hs.length → Same ℓ (standO hs sq Lm k) (standO hs sq (Lm.setIfInBounds (hs.getD q default).1 true) k) := by
      intro k
      induction k with
      | zero => intro _; exact .refl _ _
      | succ k ihk =>
        intro hk
        have ihk := ihk (by omega)
        simp only [standO]
        by_cases hkj : k = q
        · subst hkj
          rw [if_neg (by rw [hun]; simp), if_pos hself]
          exact ihk.trans (over_out hw).symm
        · rw [getD_set_ne false (hne k (by omega) hkj)]
          split
          · by_cases hwk : ℓ ∈ (hs.getD k default).2.2
            · exact (over_in hwk).trans (over_in hwk).symm
            · exact (over_out hwk).trans (ihk.trans (over_out hwk).symm)
          · exact ihk
    exact key hs.length (Nat.le_refl _)
theorem standO_grow {t : List Hi} {sq' : Nat → S} {Lm' : Array Bool} (h1 : ∀ i, i ≤ hs.length → sq' i = sq i) (h2 : ∀ i, i < hs.length → Lm'.getD (hs.getD i default).1 false = Lm.getD (hs.getD i default).1 false) : ∀ k, k ≤ hs.length → standO (hs ++ t) sq' Lm' k = standO hs sq Lm k
  | 0, _ => h1 0 (Nat.zero_le _)
  | k + 1, hk => by
    simp only [standO]
    rw [getD_app1 (by omega), h2 k (by omega), standO_grow h1 h2 k (by omega), h1 (k + 1) hk]
theorem standO_idle {t : List Hi} {sq' : Nat → S} (h : ∀ i, i < t.length → Lm.getD ((hs ++ t).getD (hs.length + i) default).1 false = false) : ∀ k, k ≤ t.length → standO (hs ++ t) sq' Lm (hs.length + k) = standO (hs ++ t) sq' Lm hs.length
  | 0, _ => rfl
  | k + 1, hk => by
    rw [show hs.length + (k + 1) = hs.length + k + 1 by omega]
    simp only [standO]
    rw [h k (by omega), if_neg (by simp), standO_idle h k (by omega)]
theorem ready_iffO {Lm : Array Bool} {j : Nat} (hj : j ∈ Region.ready .any all Lm) : Lm.getD j true = false ∧ ∀ i, waits all j i = true → Lm.getD i false = true := by
  obtain ⟨h0, o, ho, hall⟩ := mem_ready.1 hj
  refine ⟨h0, fun i hi => ?_⟩
  have : all.getD j default = o := by simp [ho]
  unfold waits at hi
  rw [this, Array.any_eq_true] at hi
  obtain ⟨q, hq, hi⟩ := hi
  simp only [Bool.and_eq_true, beq_iff_eq] at hi
  have := hall _ (Array.getElem_mem hq) hi.1
  rwa [hi.2] at this
theorem ready_ofO {Lm : Array Bool} {n j : Nat} {dn : List Nat} (hn : all.size = n) (hj : j < n) (h0 : Lm.getD j true = false) (ha : aheadO all dn j = true) (hb : ∀ i, i ∈ dn → Lm.getD i false = true) : j ∈ Region.ready .any all Lm := by
  refine mem_ready.2 ⟨h0, all[j]'(by omega), Array.getElem?_eq_getElem (by omega), fun e he hbnd => ?_⟩
  have : all.getD j default = all[j]'(by omega) := by simp [show j < all.size by omega]
  unfold aheadO at ha
  rw [this] at ha
  have h1 := Array.all_eq_true_iff_forall_mem.1 ha e he
  simp only [hbnd, Bool.not_true, Bool.false_or] at h1
  exact hb _ (by simpa using h1)
theorem okO_last {x : Hi} (h : okO all (hs ++ [x]) = true) : ∀ i, i < hs.length → conflict (hs.getD i default).2 x.2 = false ∨ reach all 8 x.1 (hs.getD i default).1 = true := fun i hi => by
  have := okO_at h (j := hs.length) (by simp) i hi
  rwa [getD_app2, getD_app1 hi] at this
theorem getD_mem {hs : List Hi} {j : Nat} (h : j ∈ hs.map (·.1)) : ∃ q, q < hs.length ∧ (hs.getD q default).1 = j := by
  obtain ⟨x, hx, rfl⟩ := List.mem_map.1 h
  obtain ⟨q, hq⟩ := List.getElem?_of_mem hx
  exact ⟨q, (List.getElem?_eq_some_iff.1 hq).1, by rw [List.getD_eq_getElem?_getD, hq]; rfl⟩
theorem StepO.done {Lm' : Array Bool} {i : Nat} (h : StepO P all hs sq Lm i) (hm : ∀ j, Lm.getD j false = true → Lm'.getD j false = true) : StepO P all hs sq Lm' i := ⟨h.len, h.out, h.run.imp (hm _) id⟩
theorem drawO_key {n : Nat} (hn : all.size = n) {Q' : Exit → Act → World → Prop} {c0 : Ctx} {own0 : Own} {w0 : World}
    (hQ : ∀ s c a w, K s → Sat c s a w → Ext c0 own0 w0 c s.own w → Q' .normal a w) :
    ∀ (fuel : Nat) (Lm : Array Bool) (hs : List Hi) (sq : Nat → S) (rest : List Nat) (c : Ctx) (a : Act) (w : World), Lm.size = n → Lm.toList.count false = fuel → shut all Lm →
      (hs.map (·.1) ++ rest).Nodup → (∀ j, j ∈ hs.map (·.1) ++ rest ↔ j < n) → (∀ i, i < hs.length → StepO P all hs sq Lm i) → Aheads all hs → EndO P all K hs rest (sq hs.length) → (∀ j, j ∈ rest → Lm.getD j false = false) →
      Sat c (standO hs sq Lm hs.length) a w → Ext c0 own0 w0 c (standO hs sq Lm hs.length).own w → wpAnyIn Fence.wide 0 P .any all Q' fuel Lm a w := by
  have getlt : ∀ {Lm : Array Bool} {j : Nat}, Lm.getD j true = false → j < Lm.size := fun {Lm j} h => by
    rcases Nat.lt_or_ge j Lm.size with h' | h'
    · exact h'
    · simp [Array.getElem?_eq_none h'] at h
  have count0 : ∀ {Lm : Array Bool} {j : Nat}, Lm.toList.count false = 0 → Lm.getD j true ≠ false := by
    intro Lm j hc h
    have hj := getlt h
    have hm : false ∈ Lm.toList := by
      have : Lm[j] = false := by simpa [hj] using h
      rw [← this]; simp
    exact absurd (List.count_pos_iff.2 hm) (by omega)
  intro fuel
  induction fuel with
  | zero =>
    intro Lm hs sq rest c a w hsz hc hsh hnd hmem hL ha hend hrest g x
    have hall : ∀ i, i < n → Lm.getD i false = true := fun i hi => by
      have := count0 (j := i) hc
      cases h : Lm[i]? with
      | none => simp at h; omega
      | some b => cases b <;> simp [h] at this ⊢
    have hr : Region.ready .any all Lm = [] := by
      cases hr : Region.ready .any all Lm with
      | nil => rfl
      | cons j r =>
        have hj : j ∈ Region.ready .any all Lm := by rw [hr]; simp
        exact absurd (ready_iffO hj).1 (count0 hc)
    have e : standO hs sq Lm hs.length = sq hs.length := S.ext' ((standO_len _).trans (sqO_len hL _ (Nat.le_refl _)).symm) fun ℓ => standO_same hL _ (Nat.le_refl _) fun i hi _ => hall _ ((hmem _).1 (List.mem_append_left _ (hi_at hi)))
    rw [e] at g x
    rcases hend with ⟨_, _, k⟩ | ⟨j, r, _, _, _, hj, _⟩
    · exact ⟨hr, hQ _ _ _ _ k g x⟩
    · have h1 := hrest j (by rw [hj]; simp)
      rw [hall j ((hmem j).1 (by rw [hj]; simp))] at h1; cases h1
  | succ fuel ih =>
    intro Lm hs sq rest c a w hsz hc hsh hnd hmem hL ha hend hrest g x
    have setfacts : ∀ {j : Nat}, Lm.getD j true = false → (Lm.setIfInBounds j true).size = n ∧ (Lm.setIfInBounds j true).toList.count false = fuel := by
      intro j hj
      have hlt := getlt hj
      refine ⟨by simpa using hsz, ?_⟩
      have h1 : Lm.toList[j]? = some false := by
        have : Lm[j] = false := by simpa [hlt] using hj
        rw [Array.getElem?_toList, Array.getElem?_eq_getElem hlt, this]
      have := cnt_set Lm.toList j h1
      rw [Array.toList_setIfInBounds]
      omega
    have unl : ∀ {j : Nat}, j < n → (Lm.getD j true = false ↔ Lm.getD j false = false) := fun {j} hj => by
      have hlt : j < Lm.size := by omega
      simp [hlt]
    refine ⟨fun hr => ?_, fun j hj => ?_⟩
    · -- nothing is ready, yet one is not carried out: the least of these is ready
      exfalso
      have hex : ∃ j, j < n ∧ Lm.getD j true = false := by
        have hm : false ∈ Lm.toList := List.count_pos_iff.1 (by omega)
        obtain ⟨j, hj⟩ := List.getElem?_of_mem hm
        have hj' : Lm[j]? = some false := by simpa using hj
        refine ⟨j, ?_, by simp [hj']⟩
        have := (Array.getElem?_eq_some_iff.1 hj').1
        omega
      have least : ∀ m, m ≤ hs.length → (∀ i, i < m → Lm.getD (hs.getD i default).1 false = true) ∨ ∃ q, q < m ∧ Lm.getD (hs.getD q default).1 false = false ∧ ∀ i, i < q → Lm.getD (hs.getD i default).1 false = true := by
        intro m
        induction m with
        | zero => intro _; exact .inl fun i hi => absurd hi (Nat.not_lt_zero i)
        | succ m ihm =>
          intro hm
          rcases ihm (by omega) with h | ⟨q, h1, h2, h3⟩
          · cases h4 : Lm.getD (hs.getD m default).1 false with
            | false => exact .inr ⟨m, by omega, h4, h⟩
            | true =>
              refine .inl fun i hi => ?_
              by_cases e : i = m
              · rw [e]; exact h4
              · exact h i (by omega)
          · exact .inr ⟨q, by omega, h2, h3⟩
      rcases least hs.length (Nat.le_refl _) with h | ⟨q, h1, h2, h3⟩
      · have hdone : ∀ i, i ∈ hs.map (·.1) → Lm.getD i false = true := fun i hi => by
          obtain ⟨q, hq, rfl⟩ := getD_mem hi
          exact h q hq
        rcases hend with ⟨h1, _, _⟩ | ⟨j, r, _, _, _, hj, hah, _⟩
        · obtain ⟨j, h4, h5⟩ := hex
          have hm := (hmem j).2 h4
          rw [h1, List.append_nil] at hm
          have h6 := hdone j hm
          rw [(unl h4).1 h5] at h6; cases h6
        · have hjr : j ∈ rest := by rw [hj]; simp
          have hjn : j < n := (hmem j).1 (List.mem_append_right _ hjr)
          have := ready_ofO hn hjn ((unl hjn).2 (hrest j hjr)) hah hdone
          rw [hr] at this; cases this
      · have hqn : (hs.getD q default).1 < n := (hmem _).1 (List.mem_append_left _ (hi_at h1))
        have := ready_ofO hn hqn ((unl hqn).2 h2) (ha q h1) (fun i hi => by
          obtain ⟨k, hk, rfl⟩ := getD_mem hi
          rw [List.length_take] at hk
          have e : (hs.take q).getD k default = hs.getD k default := by
            rw [List.getD_eq_getElem?_getD, List.getD_eq_getElem?_getD, List.getElem?_take, if_pos (by omega)]
          rw [e]; exact h3 k (by omega))
        rw [hr] at this; cases this
    · obtain ⟨hun, hwt⟩ := ready_iffO hj
      have hjn : j < n := by have := getlt hun; omega
      obtain ⟨hs1, hc1⟩ := setfacts hun
      have hunf := (unl hjn).1 hun
      have hrch : ∀ {i}, reach all 8 j i = true → Lm.getD i false = true := fun h => reach_pre hsh 8 j _ hwt h
      have hsh1 : shut all (Lm.setIfInBounds j true) := by
        intro q hq i hi
        by_cases hqj : j = q
        · subst hqj; exact getD_set_true (hwt i hi)
        · rw [getD_set_ne false hqj] at hq
          exact getD_set_true (hsh q hq i hi)
      rcases List.mem_append.1 ((hmem j).2 hjn) with hjh | hjr
      · obtain ⟨q, hqf, rfl⟩ := getD_mem hjh
        obtain ⟨o, ho, hop⟩ := (hL q hqf).run.resolve_left (by rw [hunf]; simp)
        have hcf := hend.ok hqf
        have nolater : ∀ i, q < i → i < hs.length → Lm.getD (hs.getD i default).1 false = true → conflict (hs.getD q default).2 (hs.getD i default).2 = false := by
          intro i h1 h2 h3
          rcases hend.ok h2 q h1 with h | h
          · exact h
          · have := reach_shut hsh h3 h; rw [hunf] at this; cases this
        have hread : ∀ ℓ, ℓ ∈ (hs.getD q default).2.1 → Same ℓ (standO hs sq Lm hs.length) (sq q) :=
          standO_read (rest := rest) (s := sq 0) (by omega) hL (fun i hi ℓ hw hℓ => by
            rcases hcf i hi with h | h
            · exact absurd hℓ ((conflict_of h (l := ℓ)).1 hw).1
            · exact hrch h) fun i h1 h2 h3 ℓ hℓ hw => by
            by_cases e : i = q
            · subst e; rw [hunf] at h3; cases h3
            · exact (conflict_of (nolater i (by omega) h2 h3) (l := ℓ)).2 hℓ hw
        have hlen : Len (standO hs sq Lm hs.length) (sq q) := (standO_len _).trans (sqO_len hL q (by omega)).symm
        have hafter := standO_set hnd hqf (by omega) hL hunf (fun i hi ℓ h1 h2 => by
            rcases hcf i hi with h | h
            · exact absurd h2 ((conflict_of h (l := ℓ)).1 h1).2
            · exact hrch h) fun i h1 h2 h3 ℓ hℓ hw => ((conflict_of (nolater i h1 h2 h3) (l := ℓ)).1 hℓ).2 hw
        have hrun := hop.run _ hlen hread c a w g
        unfold wpOpIn
        rw [ho]
        have go : ∀ a' w', (∃ s' c', s' = (standO hs sq Lm hs.length).over (hs.getD q default).2.2 (sq (q + 1)) ∧ Sat c' s' a' w' ∧ Ext c (standO hs sq Lm hs.length).own w c' s'.own w') → wpAnyIn Fence.wide 0 P .any all Q' fuel (Lm.setIfInBounds (hs.getD q default).1 true) a' w' := by
          rintro a' w' ⟨s', c', rfl, g', x'⟩
          rw [hafter] at g' x'
          exact ih _ hs sq rest c' a' w' hs1 hc1 hsh1 hnd hmem (fun i hi => (hL i hi).done fun j h => getD_set_true h) ha hend (fun i hi => by
            rw [getD_set_ne false (fun e => (List.nodup_append.1 hnd).2.2 _ (hi_at hqf) _ hi e)]; exact hrest i hi) g' (x.trans x')
        unfold opRun at hrun
        simp only []
        split
        · rename_i hw; rw [if_pos hw] at hrun; exact wpIn_weak hrun go
        · rename_i hw; rw [if_neg hw] at hrun; exact ⟨fun _ _ => trivial, go _ _ hrun⟩
      · rcases hend with ⟨h1, _, _⟩ | ⟨j', r, o, R, W, hr, hah, ho, hx, hok, hno⟩
        · rw [h1] at hjr; cases hjr
        · have hjj : j = j' := by
            rw [hr] at hjr
            rcases List.mem_cons.1 hjr with h | h
            · exact h
            · have h1 := hrch (List.all_eq_true.1 hx j h)
              rw [hrest j' (by rw [hr]; simp)] at h1; cases h1
          subst hjj
          have hlast := okO_last hok
          have hread : ∀ ℓ, ℓ ∈ R → Same ℓ (standO hs sq Lm hs.length) (sq hs.length) :=
            standO_read (rest := rest) (s := sq 0) (Nat.le_refl _) hL (fun i hi ℓ hw hℓ => by
              rcases hlast i hi with h | h
              · exact absurd hℓ ((conflict_of h (l := ℓ)).1 hw).1
              · exact hrch h) fun i h1 h2 => by omega
          have hlen : Len (standO hs sq Lm hs.length) (sq hs.length) := (standO_len _).trans (sqO_len hL _ (Nat.le_refl _)).symm
          have hrun := hno _ hlen hread c a w g
          unfold wpOpIn
          rw [ho]
          have go : ∀ a' w', (∃ s2 c', (∃ s', Len s' (sq hs.length) ∧ (∀ ℓ, ℓ ∉ W → Same ℓ s' (sq hs.length)) ∧ s2 = (standO hs sq Lm hs.length).over W s' ∧ LexO P all K r s' (hs ++ [(j, (R, W))])) ∧ Sat c' s2 a' w' ∧ Ext c (standO hs sq Lm hs.length).own w c' s2.own w') → wpAnyIn Fence.wide 0 P .any all Q' fuel (Lm.setIfInBounds j true) a' w' := by
            rintro a' w' ⟨s2, c', ⟨s', hl', ho', rfl, hk⟩, g', x'⟩
            let sq1 : Nat → S := fun i => if i ≤ hs.length then sq i else s'
            have e1 : ∀ i, i ≤ hs.length → sq1 i = sq i := fun i hi => if_pos hi
            have e2 : sq1 (hs.length + 1) = s' := if_neg (by omega)
            have hlen1 : (hs ++ [(j, (R, W))]).length = hs.length + 1 := by simp
            have hself : (Lm.setIfInBounds j true).getD j false = true := getD_set_self (by omega)
            have hL1 : ∀ i, i < (hs ++ [(j, (R, W))]).length → StepO P all (hs ++ [(j, (R, W))]) sq1 (Lm.setIfInBounds j true) i := fun i hi => by
              by_cases e : i < hs.length
              · exact ((hL i e).app e (e1 i (by omega)) (e1 (i + 1) (by omega))).done fun j h => getD_set_true h
              · have : i = hs.length := by omega
                subst this
                refine ⟨?_, ?_, .inl ?_⟩
                · rw [e2, e1 _ (Nat.le_refl _)]; exact hl'
                · rw [getD_app2, e2, e1 _ (Nat.le_refl _)]; exact ho'
                · rw [getD_app2]; exact hself
            obtain ⟨t, sq', rest', f1, f2, f3, f4, f5⟩ := LexO.ext r (hs ++ [(j, (R, W))]) sq1 (by rw [hlen1, e2]; exact hk) hL1 (ha.snoc hah)
            have hsplit : (hs ++ [(j, (R, W))] ++ t).map (·.1) ++ rest' = hs.map (·.1) ++ rest := by rw [hr, f1]; simp
            have hne : ∀ i, i ∈ r → j ≠ i := fun i hi e => by
              have h1 := (List.nodup_append.1 hnd).2.1
              rw [hr] at h1
              exact (List.nodup_cons.1 h1).1 (e ▸ hi)
            have hidle : ∀ i, i < t.length → (Lm.setIfInBounds j true).getD ((hs ++ [(j, (R, W))] ++ t).getD ((hs ++ [(j, (R, W))]).length + i) default).1 false = false := fun i hi => by
              have hm : ((hs ++ [(j, (R, W))] ++ t).getD ((hs ++ [(j, (R, W))]).length + i) default).1 ∈ r := by
                rw [f1, List.getD_eq_getElem?_getD, List.getElem?_append_right (by omega)]
                rw [Nat.add_sub_cancel_left, List.getElem?_eq_getElem hi]
                exact List.mem_append_left _ (List.mem_map.2 ⟨_, List.getElem_mem hi, rfl⟩)
              rw [getD_set_ne false (hne _ hm)]
              exact hrest _ (by rw [hr]; exact List.mem_cons_of_mem _ hm)
            have hstand : standO (hs ++ [(j, (R, W))] ++ t) sq' (Lm.setIfInBounds j true) (hs ++ [(j, (R, W))] ++ t).length = (standO hs sq Lm hs.length).over W s' := by
              rw [List.length_append, standO_idle hidle _ (Nat.le_refl _), standO_grow (hs := hs ++ [(j, (R, W))]) (sq := sq1) (Lm := Lm.setIfInBounds j true) f2 (fun _ _ => rfl) _ (Nat.le_refl _), hlen1]
              simp only [standO]
              rw [getD_app2, if_pos hself, e2, standO_grow (sq := sq) (Lm := Lm) e1 (fun i hi => ?_) _ (Nat.le_refl _)]
              rw [getD_set_ne false]
              intro e
              refine (List.nodup_append.1 hnd).2.2 _ (hi_at hi) j (by rw [hr]; simp) e.symm
            rw [← hstand] at g' x'
            refine ih _ (hs ++ [(j, (R, W))] ++ t) sq' rest' c' a' w' hs1 hc1 hsh1 (by rw [hsplit]; exact hnd) (by rw [hsplit]; exact hmem) f3 f4 f5 (fun i hi => ?_) g' (x.trans x')
            have hir : i ∈ r := by rw [f1]; exact List.mem_append_right _ hi
            rw [getD_set_ne false (hne i hir)]
            exact hrest i (by rw [hr]; exact List.mem_cons_of_mem _ hir)
          unfold opRun at hrun
          simp only []
          split
          · rename_i hw; rw [if_pos hw] at hrun; exact wpIn_weak hrun go
          · rename_i hw; rw [if_neg hw] at hrun; exact ⟨fun _ _ => trivial, go _ _ hrun⟩
def permB (n : Nat) (l : List Nat) : Bool := decide l.Nodup && l.all (fun j => Nat.blt j n) && (List.range n).all (l.contains ·)
end
theorem lexO_start {P : Program} {Q : Exit → S → Prop} {s : S} {l : List Oper} (pi : List Nat) (hp : permB l.length pi = true) (h : LexO P l.toArray (Q .normal) pi s []) {c : Ctx} {a : Act} {w : World} (g : Sat c s a w) : wpAnyIn Fence.wide 0 P .any l.toArray (fun e a' w' => ∃ s' c', Q e s' ∧ Sat c' s' a' w' ∧ Ext c s.own w c' s'.own w') l.toArray.size (Array.replicate l.toArray.size false) a { w with drawn := w.drawn + 1 } := by
  simp only [permB, Bool.and_eq_true, decide_eq_true_eq, List.all_eq_true, List.mem_range, List.contains_iff_mem] at hp
  obtain ⟨⟨hp1, hp2⟩, hp3⟩ := hp
  obtain ⟨t, sq, rest, f1, f2, f3, f4, f5⟩ := LexO.ext (Lm := Array.replicate l.toArray.size false) pi [] (fun _ => s) h (fun i hi => absurd hi (Nat.not_lt_zero i)) (fun k hk => absurd hk (Nat.not_lt_zero k))
  simp only [List.nil_append] at f3 f4 f5
  have hno : ∀ i, (Array.replicate l.toArray.size false).getD i false = false := fun j => by simp [Array.getElem?_replicate]; split <;> simp
  have e0 : standO t sq (Array.replicate l.toArray.size false) t.length = s := by
    have := standO_idle (hs := []) (t := t) (sq' := sq) (fun i _ => hno _) t.length (Nat.le_refl _)
    simp only [List.nil_append, List.length_nil, Nat.zero_add] at this
    rw [this]; exact f2 0 (Nat.le_refl _)
  refine drawO_key (P := P) (all := l.toArray) (K := Q .normal) (c0 := c) (own0 := s.own) (w0 := w) rfl (fun s' c' a' w' k g' x' => ⟨s', c', k, g', x'⟩) _ _ t sq rest c a _ (by simp) ?_ (fun j hj => by rw [hno j] at hj; cases hj) (by rw [← f1]; exact hp1) (fun j => ?_) f3 f4 f5 (fun j _ => hno j) ?_ ?_
  · simp
  · rw [← f1]; exact ⟨fun h => by have h1 := Nat.le_of_ble_eq_true (hp2 j h); simpa using Nat.lt_of_succ_le h1, fun h => hp3 j (by simpa using h)⟩
  · rw [e0]; exact ⟨⟨g.conc.mem, g.conc.obj, g.conc.inj, g.conc.fin, g.conc.tabw, g.conc.tabo⟩, g.size, g.tmps, g.defers, g.wf⟩
  · rw [e0]; exact ⟨rfl, rfl, rfl, Nat.le_refl _, fun _ _ _ => rfl, fun _ _ _ h => h, fun _ _ _ h => .inl h, fun _ _ h => h, fun i x b n h1 he h2 => .inr ⟨i, x, n, h1, he, h2⟩, rfl, fun k x h => .inl (by rw [h]; simp)⟩
theorem AW.drawO {P : Program} {Q : Exit → S → Prop} {s : S} {id : Nat} {l : List Oper} (pi : List Nat) (hm : P.follows .mixedOrders = true) (hp : permB l.length pi = true) (h : LexO P l.toArray (Q .normal) pi s []) : AW P (.region id l.toArray true) Q s := fun c a w g => (wpIn_wide (n := 0)).1 (wpIn_region_any hm (lexO_start pi hp h g))
section
variable {P : Program} {all : Array Oper} {o : Oper} {s s' : S} {K : S → Prop} {rest : List Nat} {hs : List Hi} {R W : List Loc} {j d n : Nat} {t : Nat → X} {L : Nat → Option AO} {H : Heap} {x : X}
theorem LexO.nil (h : okO all hs = true) (k : K s) : LexO P all K [] s hs := ⟨h, k⟩
theorem LexO.cons (hj : all[j]? = some o) (ha : aheadO all (hs.map (·.1)) j = true) (h : LOp P all o R W s s') (k : LexO P all K rest s' (hs ++ [(j, (R, W))])) : LexO P all K (j :: rest) s hs := ⟨ha, o, hj, .inl ⟨R, W, s', h, k⟩⟩
theorem LexO.nop (hj : all[j]? = some o) (ha : aheadO all (hs.map (·.1)) j = true) (hx : okX all j rest = true) (hok : okO all (hs ++ [(j, (R, W))]) = true) (h : NOp P all o R W s fun s' => LexO P all K rest s' (hs ++ [(j, (R, W))])) : LexO P all K (j :: rest) s hs := ⟨ha, o, hj, .inr ⟨hx, R, W, hok, h⟩⟩
theorem LexO.q (hj : all[j]? = some o) (ha : aheadO all (hs.map (·.1)) j = true) (h : QV P o ⟨n, t, L, H⟩ x) (hg : o.guard = none) (hdst : o.dst = some d) (hd : Nat.blt d n = true) (k : LexO P all K rest ⟨n, upd t d x, L, H⟩ (hs ++ [(j, (lookT all o, dstT o))])) : LexO P all K (j :: rest) ⟨n, t, L, H⟩ hs :=
  .cons hj ha (.q h hg (inb' hdst hd)) (by rw [hdst]; exact k)
theorem LexO.q0 (hj : all[j]? = some o) (ha : aheadO all (hs.map (·.1)) j = true) (h : QV P o s x) (hg : o.guard = none) (hdst : o.dst = none) (k : LexO P all K rest s (hs ++ [(j, (lookT all o, dstT o))])) : LexO P all K (j :: rest) s hs := .cons hj ha (.q0 h hg hdst) k
theorem LexO.r {s' : S} (hj : all[j]? = some o) (ha : aheadO all (hs.map (·.1)) j = true) (h : LR P o R W ⟨n, t, L, H⟩ s') (hg : o.guard = none) (k : LexO P all K rest s' (hs ++ [(j, (R, W))])) : LexO P all K (j :: rest) ⟨n, t, L, H⟩ hs := .cons hj ha (.r h hg) k
def EOp (P : Program) (all : Array Oper) (o : Oper) (R : List Loc) (d : Nat) (s : S) (Q : X → Heap → Prop) : Prop :=
  ∀ s1, Len s1 s → (∀ ℓ, ℓ ∈ R → Same ℓ s1 s) → OpW P all o (fun s2 => ∃ x H', Q x H' ∧ s2 = ⟨s1.n, upd s1.t d x, s1.L, H'⟩) s1
theorem NOp.e {Q : X → Heap → Prop} (h : EOp P all o R d ⟨n, t, L, H⟩ Q) (k : ∀ x H', Q x H' → K ⟨n, upd t d x, L, H'⟩) : NOp P all o R [.t d, .h] ⟨n, t, L, H⟩ K := fun s1 hl hs => (h s1 hl hs).mono fun s2 ⟨x, H', q, e⟩ => by
  refine ⟨⟨n, upd t d x, L, H'⟩, rfl, fun ℓ hℓ => ?_, ?_, k x H' q⟩
  · cases ℓ with
    | t i =>
      have h : i ≠ d := fun e => hℓ (by simp [e])
      simp [Same, upd_ne _ _ h]
    | b i => rfl
    | h => exact absurd (by simp) hℓ
  · subst e
    refine S.ext' rfl fun ℓ => ?_
    cases ℓ with
    | t i =>
      by_cases h : i = d
      · subst h; simp [Same, S.over, upd_same]
      · simp [Same, S.over, upd_ne _ _ h, h]
    | b i => simp [Same, S.over]
    | h => simp [Same, S.over]
def VOp (P : Program) (all : Array Oper) (o : Oper) (R : List Loc) (d : Nat) (s : S) (Q : X → Prop) : Prop :=
  ∀ s1, Len s1 s → (∀ ℓ, ℓ ∈ R → Same ℓ s1 s) → OpW P all o (fun s2 => ∃ x, Q x ∧ s2 = ⟨s1.n, upd s1.t d x, s1.L, s1.H⟩) s1
theorem NOp.v {Q : X → Prop} (h : VOp P all o R d ⟨n, t, L, H⟩ Q) (k : ∀ x, Q x → K ⟨n, upd t d x, L, H⟩) : NOp P all o R [.t d] ⟨n, t, L, H⟩ K := fun s1 hl hs => (h s1 hl hs).mono fun s2 ⟨x, q, e⟩ => by
  refine ⟨⟨n, upd t d x, L, H⟩, rfl, fun ℓ hℓ => ?_, ?_, k x q⟩
  · cases ℓ with
    | t i =>
      have h : i ≠ d := fun e => hℓ (by simp [e])
      simp [Same, upd_ne _ _ h]
    | b i => rfl
    | h => rfl
  · subst e
    refine S.ext' rfl fun ℓ => ?_
    cases ℓ with
    | t i =>
      by_cases h : i = d
      · subst h; simp [Same, S.over, upd_same]
      · simp [Same, S.over, upd_ne _ _ h, h]
    | b i => simp [Same, S.over]
    | h => simp [Same, S.over]
theorem evO {s1 s : S} (hs : ∀ ℓ, ℓ ∈ Loc.h :: lk o → Same ℓ s1 s) {y : Operand} (hy : y ∈ o.op.operands) : s1.eval y = s.eval y := evs hs (fun _ h => List.mem_cons_of_mem _ h) hy
theorem argsX_same {s1 s : S} : ∀ {l : List Operand}, (∀ y ∈ l, s1.eval y = s.eval y) → argsX s1 l = argsX s l
  | [], _ => rfl
  | y :: l, h => by
    have h1 := h y (by simp)
    have h2 := argsX_same (s1 := s1) (s := s) (l := l) fun z hz => h z (List.mem_cons_of_mem _ hz)
    simp only [argsX, h1, h2]
theorem EOp.of {Q : X → Heap → Prop} (h : ∀ (t1 : Nat → X) (L1 : Nat → Option AO), (∀ y, y ∈ o.op.operands → S.eval ⟨n, t1, L1, H⟩ y = S.eval ⟨n, t, L, H⟩ y) → OpW P all o (fun s2 => ∃ x H', Q x H' ∧ s2 = ⟨n, upd t1 d x, L1, H'⟩) ⟨n, t1, L1, H⟩) : EOp P all o (.h :: lk o) d ⟨n, t, L, H⟩ Q := by
  intro s1 hl hs
  obtain ⟨n1, t1, L1, H1⟩ := s1
  have e1 : n1 = n := hl
  have e2 : H1 = H := hs .h (by simp)
  subst e1 e2
  exact h t1 L1 fun y hy => evO hs hy
theorem VOp.of {Q : X → Prop} (h : ∀ (t1 : Nat → X) (L1 : Nat → Option AO), (∀ y, y ∈ o.op.operands → S.eval ⟨n, t1, L1, H⟩ y = S.eval ⟨n, t, L, H⟩ y) → OpW P all o (fun s2 => ∃ x, Q x ∧ s2 = ⟨n, upd t1 d x, L1, H⟩) ⟨n, t1, L1, H⟩) : VOp P all o (.h :: lk o) d ⟨n, t, L, H⟩ Q := by
  intro s1 hl hs
  obtain ⟨n1, t1, L1, H1⟩ := s1
  have e1 : n1 = n := hl
  have e2 : H1 = H := hs .h (by simp)
  subst e1 e2
  exact h t1 L1 fun y hy => evO hs hy
abbrev fpE (o : Oper) (d : Nat) : Fp := (.h :: lk o, [.t d, .h])
theorem LexO.e {Q : X → Heap → Prop} (hj : all[j]? = some o) (ha : aheadO all (hs.map (·.1)) j = true) (hx : okX all j rest = true) (hok : okO all (hs ++ [(j, fpE o d)]) = true) (h : EOp P all o (.h :: lk o) d ⟨n, t, L, H⟩ Q) (k : ∀ x H', Q x H' → LexO P all K rest ⟨n, upd t d x, L, H'⟩ (hs ++ [(j, fpE o d)])) : LexO P all K (j :: rest) ⟨n, t, L, H⟩ hs :=
  .nop hj ha hx hok (.e h k)
variable {x0 y : Operand} {tt e : TypeId} {sz bytes k m : Nat} {z : Nz} {cells r : List A} {es es' : List (List T)} {H0 : Heap} {c : C}
theorem LexO.callV {zf : Operand} {f : FuncId} {cs : List A} {ys : Array Operand} {ts : Array TypeId} {args : List C} {Q : X → Heap → Prop} (hj : all[j]? = some o) (ha : aheadO all (hs.map (·.1)) j = true) (hok1 : okX all j rest = true) (hok : okO all (hs ++ [(j, fpE o d)]) = true) (ho : o.op = .call { callee := .value zf, args := ys, argTypes := ts }) (hg : o.guard = none) (hdst : o.dst = some d) (hd : Nat.blt d n = true) (hz : fnX (S.eval ⟨n, t, L, H⟩ zf) = some (f, cs)) (hf : fnB P f = true) (hargs : argsX ⟨n, t, L, H⟩ ys.toList = some args) (h : Spec P f (args ++ cs.map C.a) H Q) (hl : ∀ x H', Q x H' → x.loc = none)
    (k : ∀ x H', Q x H' → LexO P all K rest ⟨n, upd t d x, L, H'⟩ (hs ++ [(j, fpE o d)])) : LexO P all K (j :: rest) ⟨n, t, L, H⟩ hs :=
  .e (Q := Q) hj ha hok1 hok (.of fun t1 L1 ev => OpW.callV ho hg hdst hd (by rw [ev zf (by rw [ho]; simp [Op.operands, Call.operands])]; exact hz) hf (by rw [argsX_same fun y hy => ev y (by rw [ho]; simp only [Op.operands, Call.operands]; simpa using .inr (by simpa using hy))]; exact hargs) h hl fun x H' q => ⟨x, H', q, rfl⟩) k
end
end Go.Proofs.YtnnoafgdjjpidaaGreatDoor.E
