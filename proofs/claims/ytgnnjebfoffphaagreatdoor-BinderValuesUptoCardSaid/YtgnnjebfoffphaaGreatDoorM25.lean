import Derived.Test.YtgnnjebfoffphaaGreatDoorM24
import Derived.Test.YtgnnjebfoffphaaGreatDoorRows
set_option linter.unusedVariables false
namespace Go.Proofs.YtgnnjebfoffphaaGreatDoor.E
open Go.RowKit Go.ChangeShapes Go.WideShapes Go.ChangeAt Go.Deep
def bkV : Value → Nat
  | .string s => s.size + 1
  | _ => 1
mutual
def bkT : T → Nat
  | .v x => bkV x
  | .sl _ _ es => 1 + bkL es
def bkS : List T → Nat
  | [] => 0
  | a :: r => bkT a + bkS r
def bkL : List (List T) → Nat
  | [] => 0
  | a :: r => bkS a + bkL r
end
theorem bkS_app (a b : List T) : bkS (a ++ b) = bkS a + bkS b := by
  induction a with
  | nil => rw [List.nil_append, bkS]; omega
  | cons x r ih => rw [List.cons_append, bkS, bkS, ih]; omega
theorem bkV_pos (x : Value) : 1 ≤ bkV x := by cases x <;> simp [bkV]
theorem bkT_pos (x : T) : 1 ≤ bkT x := by
  cases x with
  | v x => rw [bkT]; exact bkV_pos x
  | sl z n es => rw [bkT]; omega
theorem bkS_pos {l : List T} (h : l ≠ []) : 1 ≤ bkS l := by
  cases l with
  | nil => exact absurd rfl h
  | cons a r => rw [bkS]; have := bkT_pos a; omega
theorem bkL_len {α : Type} {F : α → List T} (hF : ∀ x, F x ≠ []) : ∀ l : List α, l.length ≤ bkL (l.map F)
  | [] => qZ _
  | a :: r => by rw [qL, bkL, qM]; have := bkS_pos (hF a); have := bkL_len hF r; omega
theorem bkL_mem {α : Type} {F : α → List T} : ∀ {l : List α} {a : α}, a ∈ l → bkS (F a) ≤ bkL (l.map F)
  | x :: l, a, h => by
    rw [qL, bkL]
    rcases jD.1 h with rfl | h
    · omega
    · have := bkL_mem (F := F) h; omega
def ReadsB {α : Type} (P : Program) (N : Nat) (t : TypeId) (n : Nat) (F : α → List T) (ok : α → Prop) : Prop :=
  ∀ (H : Type) (enc : TypeId × Value → H) (w : World) (sp : Nat → Bool) (held : Bool) (fuel : Nat) (cs : List Value) (y : DataW H × List MemPlace), fuel ≤ N →
    DataW.trod enc P w 0 sp held fuel t cs = some y → cs.length = n → ∃ x, Reps (RepT (mu w)) (F x) cs ∧ ok x ∧ bkS (F x) ≤ Rows.uptoBulk y.1
def ReadsBF {α : Type} (P : Program) (N : Nat) (off : Nat) (fl : List Field) (n : Nat) (F : α → List T) (ok : α → Prop) : Prop :=
  ∀ (H : Type) (enc : TypeId × Value → H) (w : World) (sp : Nat → Bool) (held : Bool) (m : Nat) (cs : List Value) (ys : List (DataW H × List MemPlace)), m < N → ys.length = fl.length →
    (∀ (i : Nat) (f : Field), fl[i]? = some f → DataW.trod enc P w 0 sp held m f.type ((cs.drop f.offset).take (P.cellsOf f.type)) = ys[i]?) → cs.length = off + n → ∃ x, Reps (RepT (mu w)) (F x) (cs.drop off) ∧ ok x ∧ bkS (F x) ≤ Rows.uptoBulkAll (ys.map (·.1))
section
variable {α β : Type} {P : Program} {N n : Nat} {t e : TypeId} {F : α → List T} {ok : α → Prop} {G : β → List T} {ok' : β → Prop}
theorem ReadsB.conv (h : ReadsB P N t n F ok) (g : α → β) (hg : ∀ x, ok x → G (g x) = F x) (ho : ∀ x, ok x → ok' (g x)) : ReadsB P N t n G ok' := fun H enc w sp held fuel cs y hf hy hl => by
  obtain ⟨x, h1, h2, h3⟩ := h H enc w sp held fuel cs y hf hy hl
  exact ⟨g x, by rw [hg x h2]; exact h1, ho x h2, by rw [hg x h2]; exact h3⟩
theorem ReadsB.int {k : IntKind} (ht : P.underlying t = some (.int k)) : ReadsB P N t 1 (fun i : Int => [.v (.int k i)]) (fun i => (Lit.int k i).wf = true) := fun H enc w sp held fuel cs y hf hy hl => by
  obtain ⟨i, rfl, rfl, h⟩ := DataW.trod_int ht hy
  exact ⟨i, reps1 (.v rfl), h, by simp [bkS, bkT, bkV, Rows.uptoBulk]⟩
theorem ReadsB.bool (ht : P.underlying t = some .bool) : ReadsB P N t 1 (fun b : Bool => [.v (.bool b)]) (fun _ => True) := fun H enc w sp held fuel cs y hf hy hl => by
  obtain ⟨i, rfl, rfl⟩ := DataW.trod_bool ht hy
  exact ⟨i, reps1 (.v rfl), trivial, by simp [bkS, bkT, bkV, Rows.uptoBulk]⟩
theorem ReadsB.string (ht : P.underlying t = some .string) : ReadsB P N t 1 (fun s : ByteArray => [.v (.string s)]) (fun _ => True) := fun H enc w sp held fuel cs y hf hy hl => by
  obtain ⟨s, rfl, rfl, _⟩ := DataW.trod_string ht hy
  exact ⟨s, reps1 (.v rfl), trivial, by simp [bkS, bkT, bkV, Rows.uptoBulk, ← Array.length_toList, ByteArray.size]⟩
theorem ReadsBF.nil {off : Nat} : ReadsBF P N off [] 0 (fun _ : Unit => []) (fun _ => True) := fun H enc w sp held m cs ys hm hy h hl => ⟨(), by rw [qW (by omega)]; exact .nil, trivial, by rw [bkS]; exact qZ _⟩
theorem ReadsBF.cons {f : Field} {fl : List Field} {off n1 n2 : Nat} (ho : f.offset = off) (hc : P.cellsOf f.type = n1) (h1 : ∀ M, M < N → ReadsB P M f.type n1 F ok) (h2 : ReadsBF P N (off + n1) fl n2 G ok') :
    ReadsBF P N off (f :: fl) (n1 + n2) (fun p : α × β => F p.1 ++ G p.2) (fun p => ok p.1 ∧ ok' p.2) := fun H enc w sp held m cs ys hm hys h hl => by
  cases ys with
  | nil => simp at hys
  | cons y ys =>
    have hy := h 0 f rfl
    rw [ho, hc] at hy
    obtain ⟨x, h3, h4, h7⟩ := h1 m hm H enc w sp held m _ y (jA _) hy (by simp; omega)
    obtain ⟨x', h5, h6, h8⟩ := h2 H enc w sp held m cs ys hm (by simpa using hys) (fun i f' hf => h (i + 1) f' (by simpa using hf)) (by omega)
    refine ⟨(x, x'), ?_, ⟨h4, h6⟩, ?_⟩
    · have e1 : cs.drop off = (cs.drop off).take n1 ++ cs.drop (off + n1) := by rw [← List.drop_drop, List.take_append_drop]
      rw [e1]
      exact h3.append h5
    · rw [bkS_app, qL, Rows.uptoBulkAll]
      exact Nat.add_le_add h7 h8
theorem ReadsB.struct {fl : List Field} (ht : P.underlying t = some (.struct ⟨fl⟩)) (h : ReadsBF P N 0 fl n F ok) : ReadsB P N t n F ok := fun H enc w sp held fuel cs y hf hy hl => by
  obtain ⟨xs, m, hm, rfl, _, hxl, hg⟩ := DataW.trod_struct ht hy
  obtain ⟨x, h1, h2, h3⟩ := h H enc w sp held m cs xs (by omega) (by simpa using hxl) (fun i f hi => hg i f (by simpa using hi)) (by omega)
  refine ⟨x, by simpa using h1, h2, ?_⟩
  simp only [Rows.uptoBulk]
  exact Nat.le_succ_of_le h3
theorem manyB {H : Type} {μ : Mem} : ∀ (css : List (List Value)) (ds : List (DataW H)), css.length = ds.length → (∀ (i : Nat) (c : List Value) (d : DataW H), css[i]? = some c → ds[i]? = some d → ∃ x, Reps (RepT μ) (F x) c ∧ ok x ∧ bkS (F x) ≤ Rows.uptoBulk d) →
    ∃ xs : List α, xs.length = css.length ∧ (∀ (i : Nat) (x : α) (c : List Value), xs[i]? = some x → css[i]? = some c → Reps (RepT μ) (F x) c) ∧ (∀ x ∈ xs, ok x) ∧ bkL (xs.map F) ≤ Rows.uptoBulkAll ds
  | [], _, _, _ => ⟨[], rfl, fun i x c h => by simp at h, by simp, by rw [List.map_nil, bkL]; exact qZ _⟩
  | c :: css, [], hl, _ => by simp at hl
  | c :: css, d :: ds, hl, h => by
    obtain ⟨x, h1, h2, h0⟩ := h 0 c d rfl rfl
    obtain ⟨xs, h3, h4, h5, h6⟩ := manyB css ds (by simpa using hl) fun i c d hc hd => h (i + 1) c d (by simpa using hc) (by simpa using hd)
    refine ⟨x :: xs, by simp [h3], fun i x' c' hi hc => ?_, by simpa using ⟨h2, h5⟩, by rw [qL, bkL, Rows.uptoBulkAll]; exact Nat.add_le_add h0 h6⟩
    cases i with
    | zero => simp at hi hc; subst hi hc; exact h1
    | succ i => exact h4 i x' c' (by simpa using hi) (by simpa using hc)
theorem ReadsB.slice (ht : P.underlying t = some (.slice e)) (hC : P.cellsOf e = n) (hs : 0 < n) (h : ∀ M, M < N → ReadsB P M e n F ok) :
    ReadsB P N t 1 (fun l : List α => [.sl .un n (l.map F)]) (fun l => ∀ x ∈ l, ok x) := fun H enc w sp held fuel cs y hf hy hl => by
  rcases DataW.trod_slice ht hy with ⟨rfl, rfl⟩ | ⟨a, len, cap, elems, rest, m, hm, rfl, rfl, _, hlc, hcm, hel, hg, _⟩
  · exact ⟨[], reps1 (.nil (by simp)), by simp, by simp [bkS, bkT, bkL, Rows.uptoBulk]⟩
  · rw [hC] at hg
    have hi' : ∀ i, ∃ cs', i < len → w.cells? 0 (a.add (i * n)) n = some cs' ∧ DataW.trod enc P w 0 sp held m e cs' = elems[i]? := by
      intro i
      by_cases h : i < len
      · have h1 := hg i h
        have h2 : elems[i]? = some elems[i] := qF (by omega)
        rw [h2, Option.bind_eq_some_iff] at h1
        obtain ⟨cs', h3, h4⟩ := h1
        exact ⟨cs', fun _ => ⟨h3, by rw [h4, h2]⟩⟩
      · exact ⟨[], fun h' => absurd h' h⟩
    obtain ⟨f, hff⟩ := Classical.axiomOfChoice hi'
    obtain ⟨xs, h1, h2, h3, h9⟩ := manyB (F := F) (ok := ok) (μ := mu w) ((List.range len).map f) (elems.map (·.1)) (by simp [hel]) fun i c d hc hd => by
      have hi : i < len := by
        rcases Nat.lt_or_ge i len with hi | hi
        · exact hi
        · rw [List.getElem?_eq_none (by simpa using hi)] at hc; cases hc
      rw [qR, List.getElem?_range hi] at hc
      obtain rfl : f i = c := by simpa using hc
      have h2 : elems[i]? = some elems[i] := qF (by omega)
      rw [qR, h2] at hd
      obtain rfl : elems[i].1 = d := by simpa using hd
      exact h m (by omega) H enc w sp held m _ elems[i] (jA _) (by rw [(hff i hi).2, h2]) (World.cells?_some (hff i hi).1).2.1
    have hxl : xs.length = len := by simpa using h1
    refine ⟨xs, reps1 ?_, h3, ?_⟩
    · rcases Nat.eq_zero_or_pos len with h0 | h0
      · have : xs = [] := List.length_eq_zero_iff.1 (by omega)
        subst this; subst h0
        exact .emp (by simp)
      · have hspot : a.spot = none := by
          obtain ⟨_, hl0, hc0⟩ := World.cells?_some (hff 0 h0).1
          have h0 := hc0 0 hs
          rw [qF (by omega), Go.Deep.add_add] at h0
          have := World.cell?_spot h0
          simpa [Addr.add] using this
        obtain ⟨b, off, spot⟩ := a
        simp only at hspot
        subst hspot
        have add_eq : ∀ j, (⟨b, off, none⟩ : Addr).add j = ⟨b, off + j, none⟩ := fun j => by unfold Addr.add; split <;> simp_all
        have fl : ∀ i, i < len → (f i).length = n := fun i hi => (World.cells?_some (hff i hi).1).2.1
        have el : ∀ i (e : List T), (xs.map F)[i]? = some e → i < len ∧ Reps (RepT (mu w)) e (f i) := fun i e he => by
          have hi : i < xs.length := by have := (List.getElem?_eq_some_iff.1 he).1; simpa using this
          have e1 : e = F xs[i] := by have := (List.getElem?_eq_some_iff.1 he).2; simpa using this.symm
          subst e1
          exact ⟨by omega, h2 i _ _ (qF hi) (by simp [qR, List.getElem?_range (show i < len by omega)])⟩
        refine .sl (fun i j => (f i).getD j undef) (fun e => by have := congrArg List.length e; simp at this; subst this; simp at hxl; omega) (by simp [hxl]) (by omega) (fun i e he => ?_) (fun i e j x he hj => ?_) (fun i e j x he hj => ?_)
        · obtain ⟨hi, hr⟩ := el i e he
          rw [hr.1, fl i hi]
        · obtain ⟨hi, hr⟩ := el i e he
          have hj' : j < n := by have := (List.getElem?_eq_some_iff.1 hj).1; rw [hr.1, fl i hi] at this; exact this
          obtain ⟨_, hl1, hc1⟩ := World.cells?_some (hff i hi).1
          have := hc1 j hj'
          rw [Go.Deep.add_add, add_eq] at this
          show w.cell? _ = _
          rw [this, qI, qF (by omega)]
          rfl
        · obtain ⟨hi, hr⟩ := el i e he
          have hj' : j < (f i).length := by rw [← hr.1]; exact (List.getElem?_eq_some_iff.1 hj).1
          have := hr.2 j x (f i)[j] hj (qF hj')
          simpa [qI, qF hj'] using this
    · simp only [bkS, bkT, Rows.uptoBulk]
      omega
variable {H : Type} {enc : TypeId × Value → H} {w : World} {r : Reach} {b0 : Nat} {v : Value} {d : DataW H} {p : List MemPlace} {sp : Nat → Bool} {held : Bool} {c : Ctx}
theorem argB_cells {f : α → C} (hr : ∀ N, ReadsB P N t n F ok) (hn : v.cells.size = n) (h : DataW.Trod enc P w 0 sp held t v d p)
    (hf : ∀ x, Reps (RepT (mu w)) (F x) v.cells.toList → RepC (mu w) c.β (f x) v) : ∃ x, RepC (mu w) c.β (f x) v ∧ ok x ∧ bkS (F x) ≤ Rows.uptoBulk d := by
  obtain ⟨fuel, h⟩ := h
  obtain ⟨x, h1, h2, h3⟩ := hr fuel H enc w sp held fuel _ _ (jA _) h (by simpa using hn)
  exact ⟨x, hf x h1, h2, h3⟩
theorem argB1 {f : α → T} {β : Pos} (h1 : v.cells = #[v]) (hr : ∀ N, ReadsB P N t 1 (fun x => [f x]) ok) (h : DataW.Trod enc P w 0 sp held t v d p) : ∃ x, RepC (mu w) β (.a (.t (f x))) v ∧ ok x ∧ bkS [f x] ≤ Rows.uptoBulk d := by
  obtain ⟨x, h2, h3⟩ := argB_cells (c := ⟨fun _ _ => none, β, fun _ => (0, 0), 0⟩) (f := fun x => .a (.t (f x))) hr (by rw [h1]; rfl) h (fun x hx => by
    rw [h1] at hx
    exact .t (hx.2 0 _ _ rfl rfl))
  exact ⟨x, h2, h3⟩
theorem argBG {F' : α → List A} {β : Pos} {cs : Array Value} (hv : v = .agg cs) (hsz : cs.size = n) (hr : ∀ N, ReadsB P N t n F ok) (hF : ∀ x, F' x = (F x).map .t) (h : DataW.Trod enc P w 0 sp held t v d p) : ∃ x, RepC (mu w) β (.g (F' x)) v ∧ ok x ∧ bkS (F x) ≤ Rows.uptoBulk d := by
  subst hv
  obtain ⟨x, h2, h3⟩ := argB_cells (c := ⟨fun _ _ => none, β, fun _ => (0, 0), 0⟩) (f := fun x => .g (F' x)) hr (by simpa [Value.cells] using hsz) h (fun x hx => by
    refine ⟨cs, rfl, ?_⟩
    rw [hF]
    have hx : Reps (RepT (mu w)) (F x) cs.toList := hx
    exact reps_t hx)
  exact ⟨x, h2, h3⟩
theorem argB_slice {f : α → T} {β : Pos} (hu : P.underlying t = some (.slice e)) (hv : Value.okWide P w r b0 t v) (hr : ∀ N, ReadsB P N t 1 (fun x => [f x]) ok) (h : DataW.Trod enc P w 0 sp held t v d p) : ∃ x, RepC (mu w) β (.a (.t (f x))) v ∧ ok x ∧ bkS [f x] ≤ Rows.uptoBulk d := by
  obtain ⟨a, len, cap, rfl⟩ := okWide_slice hu hv
  exact argB1 rfl hr h
theorem argB_struct {F' : α → List A} {β : Pos} {fs : Array Field} (hu : P.underlying t = some (.struct fs)) (hc : P.cellsOf t = n) (hv : Value.okWide P w r b0 t v) (hr : ∀ N, ReadsB P N t n F ok) (hF : ∀ x, F' x = (F x).map .t) (h : DataW.Trod enc P w 0 sp held t v d p) : ∃ x, RepC (mu w) β (.g (F' x)) v ∧ ok x ∧ bkS (F x) ≤ Rows.uptoBulk d := by
  obtain ⟨cs, rfl, h1⟩ := okWide_struct hu hv
  exact argBG rfl (by rw [h1, hc]) hr hF h
end
end Go.Proofs.YtgnnjebfoffphaaGreatDoor.E
namespace Go.Proofs.YtgnnjebfoffphaaGreatDoor.W
open Fx
open Go.RowKit E M Q
abbrev nW (i : Int) : Prop := (Lit.int .i64 i).wf = true
mutual
def ok37 : Ex → Prop
  | .mk op _ _ ix vk vn _ xs => (nW op ∧ nW ix ∧ nW vk ∧ nW vn) ∧ ok37s xs
def ok37s : List Ex → Prop
  | [] => True
  | a :: r => ok37 a ∧ ok37s r
end
theorem ok37s_iff : ∀ {l : List Ex}, ok37s l ↔ ∀ a ∈ l, ok37 a
  | [] => by simp [ok37s]
  | a :: r => by rw [ok37s, ok37s_iff]; simp
theorem ok37_iff (x : Ex) : ok37 x ↔ (nW x.op ∧ nW x.ix ∧ nW x.vk ∧ nW x.vn) ∧ ∀ a ∈ x.args, ok37 a := by cases x; rw [ok37, ok37s_iff]
theorem rd37 (N : Nat) : ReadsB Tryz.prog N 37 8 exT' ok37 := by
  induction N using Nat.strongRecOn with
  | ind N ih =>
    exact (ReadsB.struct Tryz.underlying37 (ReadsBF.cons rfl (by kernel_rfl) (fun _ _ => ReadsB.int Tryz.underlying3) (ReadsBF.cons rfl (by kernel_rfl) (fun _ _ => ReadsB.string Tryz.underlying9) (ReadsBF.cons rfl (by kernel_rfl) (fun _ _ => ReadsB.string Tryz.underlying9) (ReadsBF.cons rfl (by kernel_rfl) (fun _ _ => ReadsB.int Tryz.underlying3) (ReadsBF.cons rfl (by kernel_rfl) (fun _ _ => (ReadsB.struct Tryz.underlying35 (ReadsBF.cons rfl (by kernel_rfl) (fun _ _ => ReadsB.int Tryz.underlying3) (ReadsBF.cons rfl (by kernel_rfl) (fun _ _ => ReadsB.int Tryz.underlying2) (ReadsBF.cons rfl (by kernel_rfl) (fun _ _ => ReadsB.string Tryz.underlying9) .nil))))) (ReadsBF.cons rfl (by kernel_rfl) (fun M2 hM2 => ReadsB.slice Tryz.underlying27 (by kernel_rfl) (by decide) (fun M3 hM3 => ih M3 (by omega))) .nil))))))).conv
        (fun p => Ex.mk p.1 p.2.1 p.2.2.1 p.2.2.2.1 p.2.2.2.2.1.1 p.2.2.2.2.1.2.1 p.2.2.2.2.1.2.2.1 p.2.2.2.2.2.1) (fun p _ => by rw [exT_eq]; rfl) (fun p h => by
          obtain ⟨h1, h2, h3, h4, h5, h6, _⟩ := h
          exact (ok37_iff _).2 ⟨⟨h1, h4, h5.1, h5.2.1⟩, h6⟩)
abbrev ok77 (s : Co) : Prop := (fun _ : ByteArray => True) s.nm ∧ (fun i : Int => (Lit.int .i64 i).wf = true) s.ty ∧ (fun i : Int => (Lit.int .i64 i).wf = true) s.lo ∧ (fun i : Int => (Lit.int .i64 i).wf = true) s.hi ∧ (fun i : Int => (Lit.int .i64 i).wf = true) s.mx ∧ (fun _ : Bool => True) s.nn ∧ True
theorem rd77 (N : Nat) : ReadsB Tryz.prog N 77 6 coT ok77 :=
  (ReadsB.struct Tryz.underlying77 (ReadsBF.cons rfl (by kernel_rfl) (fun M _ => (ReadsB.string Tryz.underlying9)) (ReadsBF.cons rfl (by kernel_rfl) (fun M _ => (ReadsB.int Tryz.underlying3)) (ReadsBF.cons rfl (by kernel_rfl) (fun M _ => (ReadsB.int Tryz.underlying2)) (ReadsBF.cons rfl (by kernel_rfl) (fun M _ => (ReadsB.int Tryz.underlying2)) (ReadsBF.cons rfl (by kernel_rfl) (fun M _ => (ReadsB.int Tryz.underlying3)) (ReadsBF.cons rfl (by kernel_rfl) (fun M _ => (ReadsB.bool Tryz.underlying4)) .nil))))))).conv (fun p => (⟨p.1, p.2.1, p.2.2.1, p.2.2.2.1, p.2.2.2.2.1, p.2.2.2.2.2.1⟩ : Co)) (fun p _ => by first | rfl | (rw [exT_eq]; rfl)) (fun _ h => h)
abbrev ok24 (l : List Co) : Prop := ∀ x ∈ l, ok77 x
theorem rd24 (N : Nat) : ReadsB Tryz.prog N 24 1 (fun x : List Co => ([.sl .un 6 (x.map coT)] : List T)) ok24 :=
  (ReadsB.slice Tryz.underlying24 (by kernel_rfl) (by decide) (fun M _ => (rd77 M))).conv id (fun _ _ => rfl) (fun _ h => h)
abbrev ok43 (l : List Int) : Prop := ∀ x ∈ l, (fun i : Int => (Lit.int .i64 i).wf = true) x
theorem rd43 (N : Nat) : ReadsB Tryz.prog N 43 1 (fun x : List Int => ([.sl .un 1 (x.map (fun x : Int => ([.v (.int .i64 x)] : List T)))] : List T)) ok43 :=
  (ReadsB.slice Tryz.underlying43 (by kernel_rfl) (by decide) (fun M _ => (ReadsB.int Tryz.underlying3))).conv id (fun _ _ => rfl) (fun _ h => h)
abbrev ok69 (l : List (List Int)) : Prop := ∀ x ∈ l, ok43 x
theorem rd69 (N : Nat) : ReadsB Tryz.prog N 69 1 (fun x : List (List Int) => ([.sl .un 1 (x.map (fun x : List Int => ([.sl .un 1 (x.map (fun x : Int => ([.v (.int .i64 x)] : List T)))] : List T)))] : List T)) ok69 :=
  (ReadsB.slice Tryz.underlying69 (by kernel_rfl) (by decide) (fun M _ => (rd43 M))).conv id (fun _ _ => rfl) (fun _ h => h)
abbrev ok101 (s : Fk) : Prop := ok43 s.cols ∧ (fun i : Int => (Lit.int .i64 i).wf = true) s.tab ∧ (fun i : Int => (Lit.int .i64 i).wf = true) s.key ∧ True
theorem rd101 (N : Nat) : ReadsB Tryz.prog N 101 3 fkT ok101 :=
  (ReadsB.struct Tryz.underlying101 (ReadsBF.cons rfl (by kernel_rfl) (fun M _ => (rd43 M)) (ReadsBF.cons rfl (by kernel_rfl) (fun M _ => (ReadsB.int Tryz.underlying3)) (ReadsBF.cons rfl (by kernel_rfl) (fun M _ => (ReadsB.int Tryz.underlying3)) .nil)))).conv (fun p => (⟨p.1, p.2.1, p.2.2.1⟩ : Fk)) (fun p _ => by first | rfl | (rw [exT_eq]; rfl)) (fun _ h => h)
abbrev ok70 (l : List Fk) : Prop := ∀ x ∈ l, ok101 x
theorem rd70 (N : Nat) : ReadsB Tryz.prog N 70 1 (fun x : List Fk => ([.sl .un 3 (x.map fkT)] : List T)) ok70 :=
  (ReadsB.slice Tryz.underlying70 (by kernel_rfl) (by decide) (fun M _ => (rd101 M))).conv id (fun _ _ => rfl) (fun _ h => h)
abbrev ok27 (l : List Ex) : Prop := ∀ x ∈ l, ok37 x
theorem rd27 (N : Nat) : ReadsB Tryz.prog N 27 1 (fun x : List Ex => ([.sl .un 8 (x.map exT')] : List T)) ok27 :=
  (ReadsB.slice Tryz.underlying27 (by kernel_rfl) (by decide) (fun M _ => (rd37 M))).conv id (fun _ _ => rfl) (fun _ h => h)
abbrev ok72 (s : Tb) : Prop := (fun _ : ByteArray => True) s.nm ∧ ok24 s.cols ∧ ok69 s.keys ∧ ok70 s.fks ∧ ok27 s.chks ∧ True
theorem rd72 (N : Nat) : ReadsB Tryz.prog N 72 5 tbT ok72 :=
  (ReadsB.struct Tryz.underlying72 (ReadsBF.cons rfl (by kernel_rfl) (fun M _ => (ReadsB.string Tryz.underlying9)) (ReadsBF.cons rfl (by kernel_rfl) (fun M _ => (rd24 M)) (ReadsBF.cons rfl (by kernel_rfl) (fun M _ => (rd69 M)) (ReadsBF.cons rfl (by kernel_rfl) (fun M _ => (rd70 M)) (ReadsBF.cons rfl (by kernel_rfl) (fun M _ => (rd27 M)) .nil)))))).conv (fun p => (⟨p.1, p.2.1, p.2.2.1, p.2.2.2.1, p.2.2.2.2.1⟩ : Tb)) (fun p _ => by first | rfl | (rw [exT_eq]; rfl)) (fun _ h => h)
abbrev ok23 (l : List Tb) : Prop := ∀ x ∈ l, ok72 x
theorem rd23 (N : Nat) : ReadsB Tryz.prog N 23 1 (fun x : List Tb => ([.sl .un 5 (x.map tbT)] : List T)) ok23 :=
  (ReadsB.slice Tryz.underlying23 (by kernel_rfl) (by decide) (fun M _ => (rd72 M))).conv id (fun _ _ => rfl) (fun _ h => h)
abbrev ok51 (l : List ByteArray) : Prop := ∀ x ∈ l, (fun _ : ByteArray => True) x
theorem rd51 (N : Nat) : ReadsB Tryz.prog N 51 1 (fun x : List ByteArray => ([.sl .un 1 (x.map (fun x : ByteArray => ([.v (.string x)] : List T)))] : List T)) ok51 :=
  (ReadsB.slice Tryz.underlying51 (by kernel_rfl) (by decide) (fun M _ => (ReadsB.string Tryz.underlying9))).conv id (fun _ _ => rfl) (fun _ h => h)
abbrev ok25 (l : List (List ByteArray)) : Prop := ∀ x ∈ l, ok51 x
theorem rd25 (N : Nat) : ReadsB Tryz.prog N 25 1 (fun x : List (List ByteArray) => ([.sl .un 1 (x.map (fun x : List ByteArray => ([.sl .un 1 (x.map (fun x : ByteArray => ([.v (.string x)] : List T)))] : List T)))] : List T)) ok25 :=
  (ReadsB.slice Tryz.underlying25 (by kernel_rfl) (by decide) (fun M _ => (rd51 M))).conv id (fun _ _ => rfl) (fun _ h => h)
abbrev ok110 (s : Rf) : Prop := ok51 s.cols ∧ (fun _ : ByteArray => True) s.tab ∧ ok51 s.tgt ∧ True
theorem rd110 (N : Nat) : ReadsB Tryz.prog N 110 3 rfT ok110 :=
  (ReadsB.struct Tryz.underlying110 (ReadsBF.cons rfl (by kernel_rfl) (fun M _ => (rd51 M)) (ReadsBF.cons rfl (by kernel_rfl) (fun M _ => (ReadsB.string Tryz.underlying9)) (ReadsBF.cons rfl (by kernel_rfl) (fun M _ => (rd51 M)) .nil)))).conv (fun p => (⟨p.1, p.2.1, p.2.2.1⟩ : Rf)) (fun p _ => by first | rfl | (rw [exT_eq]; rfl)) (fun _ h => h)
abbrev ok26 (l : List Rf) : Prop := ∀ x ∈ l, ok110 x
theorem rd26 (N : Nat) : ReadsB Tryz.prog N 26 1 (fun x : List Rf => ([.sl .un 3 (x.map rfT)] : List T)) ok26 :=
  (ReadsB.slice Tryz.underlying26 (by kernel_rfl) (by decide) (fun M _ => (rd110 M))).conv id (fun _ _ => rfl) (fun _ h => h)
abbrev ok29 (s : Dn) : Prop := ok24 s.cols ∧ ok25 s.keys ∧ ok26 s.fks ∧ ok27 s.chks ∧ True
theorem rd29 (N : Nat) : ReadsB Tryz.prog N 29 4 dnT ok29 :=
  (ReadsB.struct Tryz.underlying29 (ReadsBF.cons rfl (by kernel_rfl) (fun M _ => (rd24 M)) (ReadsBF.cons rfl (by kernel_rfl) (fun M _ => (rd25 M)) (ReadsBF.cons rfl (by kernel_rfl) (fun M _ => (rd26 M)) (ReadsBF.cons rfl (by kernel_rfl) (fun M _ => (rd27 M)) .nil))))).conv (fun p => (⟨p.1, p.2.1, p.2.2.1, p.2.2.2.1⟩ : Dn)) (fun p _ => by first | rfl | (rw [exT_eq]; rfl)) (fun _ h => h)
abbrev ok30 (l : List (List Ex)) : Prop := ∀ x ∈ l, ok27 x
theorem rd30 (N : Nat) : ReadsB Tryz.prog N 30 1 (fun x : List (List Ex) => ([.sl .un 1 (x.map (fun x : List Ex => ([.sl .un 8 (x.map exT')] : List T)))] : List T)) ok30 :=
  (ReadsB.slice Tryz.underlying30 (by kernel_rfl) (by decide) (fun M _ => (rd27 M))).conv id (fun _ _ => rfl) (fun _ h => h)
abbrev ok85 (s : As) : Prop := (fun _ : ByteArray => True) s.col ∧ (fun i : Int => (Lit.int .i64 i).wf = true) s.ix ∧ ok37 s.ex ∧ True
theorem rd85 (N : Nat) : ReadsB Tryz.prog N 85 10 asT ok85 :=
  (ReadsB.struct Tryz.underlying85 (ReadsBF.cons rfl (by kernel_rfl) (fun M _ => (ReadsB.string Tryz.underlying9)) (ReadsBF.cons rfl (by kernel_rfl) (fun M _ => (ReadsB.int Tryz.underlying3)) (ReadsBF.cons rfl (by kernel_rfl) (fun M _ => (rd37 M)) .nil)))).conv (fun p => (⟨p.1, p.2.1, p.2.2.1⟩ : As)) (fun p _ => by first | rfl | (rw [exT_eq]; rfl)) (fun _ h => h)
abbrev ok31 (l : List As) : Prop := ∀ x ∈ l, ok85 x
theorem rd31 (N : Nat) : ReadsB Tryz.prog N 31 1 (fun x : List As => ([.sl .un 10 (x.map asT)] : List T)) ok31 :=
  (ReadsB.slice Tryz.underlying31 (by kernel_rfl) (by decide) (fun M _ => (rd85 M))).conv id (fun _ _ => rfl) (fun _ h => h)
abbrev ok58 (s : It) : Prop := (fun i : Int => (Lit.int .i64 i).wf = true) s.ag ∧ ok37 s.ex ∧ True
theorem rd58 (N : Nat) : ReadsB Tryz.prog N 58 9 itT ok58 :=
  (ReadsB.struct Tryz.underlying58 (ReadsBF.cons rfl (by kernel_rfl) (fun M _ => (ReadsB.int Tryz.underlying3)) (ReadsBF.cons rfl (by kernel_rfl) (fun M _ => (rd37 M)) .nil))).conv (fun p => (⟨p.1, p.2.1⟩ : It)) (fun p _ => by first | rfl | (rw [exT_eq]; rfl)) (fun _ h => h)
abbrev ok32 (l : List It) : Prop := ∀ x ∈ l, ok58 x
theorem rd32 (N : Nat) : ReadsB Tryz.prog N 32 1 (fun x : List It => ([.sl .un 9 (x.map itT)] : List T)) ok32 :=
  (ReadsB.slice Tryz.underlying32 (by kernel_rfl) (by decide) (fun M _ => (rd58 M))).conv id (fun _ _ => rfl) (fun _ h => h)
abbrev ok65 (s : Fr) : Prop := (fun _ : ByteArray => True) s.tb ∧ (fun _ : ByteArray => True) s.al ∧ True
theorem rd65 (N : Nat) : ReadsB Tryz.prog N 65 2 frT ok65 :=
  (ReadsB.struct Tryz.underlying65 (ReadsBF.cons rfl (by kernel_rfl) (fun M _ => (ReadsB.string Tryz.underlying9)) (ReadsBF.cons rfl (by kernel_rfl) (fun M _ => (ReadsB.string Tryz.underlying9)) .nil))).conv (fun p => (⟨p.1, p.2.1⟩ : Fr)) (fun p _ => by first | rfl | (rw [exT_eq]; rfl)) (fun _ h => h)
abbrev ok33 (l : List Fr) : Prop := ∀ x ∈ l, ok65 x
theorem rd33 (N : Nat) : ReadsB Tryz.prog N 33 1 (fun x : List Fr => ([.sl .un 2 (x.map frT)] : List T)) ok33 :=
  (ReadsB.slice Tryz.underlying33 (by kernel_rfl) (by decide) (fun M _ => (rd65 M))).conv id (fun _ _ => rfl) (fun _ h => h)
abbrev ok131 (s : Od) : Prop := (fun i : Int => (Lit.int .i64 i).wf = true) s.it ∧ (fun _ : Bool => True) s.ds ∧ True
theorem rd131 (N : Nat) : ReadsB Tryz.prog N 131 2 odT ok131 :=
  (ReadsB.struct Tryz.underlying131 (ReadsBF.cons rfl (by kernel_rfl) (fun M _ => (ReadsB.int Tryz.underlying3)) (ReadsBF.cons rfl (by kernel_rfl) (fun M _ => (ReadsB.bool Tryz.underlying4)) .nil))).conv (fun p => (⟨p.1, p.2.1⟩ : Od)) (fun p _ => by first | rfl | (rw [exT_eq]; rfl)) (fun _ h => h)
abbrev ok38 (l : List Od) : Prop := ∀ x ∈ l, ok131 x
theorem rd38 (N : Nat) : ReadsB Tryz.prog N 38 1 (fun x : List Od => ([.sl .un 2 (x.map odT)] : List T)) ok38 :=
  (ReadsB.slice Tryz.underlying38 (by kernel_rfl) (by decide) (fun M _ => (rd131 M))).conv id (fun _ _ => rfl) (fun _ h => h)
abbrev ok40 (s : St) : Prop := (fun i : Int => (Lit.int .i64 i).wf = true) s.k ∧ (fun _ : ByteArray => True) s.tb ∧ ok29 s.cr ∧ ok30 s.vals ∧ ok31 s.sets ∧ ok32 s.its ∧ ok33 s.frm ∧ ok37 s.wh ∧ ok27 s.grp ∧ ok38 s.ord ∧ (fun i : Int => (Lit.int .i64 i).wf = true) s.lim ∧ (fun _ : ByteArray => True) s.nm ∧ True
theorem rd40 (N : Nat) : ReadsB Tryz.prog N 40 22 stT ok40 :=
  (ReadsB.struct Tryz.underlying40 (ReadsBF.cons rfl (by kernel_rfl) (fun M _ => (ReadsB.int Tryz.underlying3)) (ReadsBF.cons rfl (by kernel_rfl) (fun M _ => (ReadsB.string Tryz.underlying9)) (ReadsBF.cons rfl (by kernel_rfl) (fun M _ => (rd29 M)) (ReadsBF.cons rfl (by kernel_rfl) (fun M _ => (rd30 M)) (ReadsBF.cons rfl (by kernel_rfl) (fun M _ => (rd31 M)) (ReadsBF.cons rfl (by kernel_rfl) (fun M _ => (rd32 M)) (ReadsBF.cons rfl (by kernel_rfl) (fun M _ => (rd33 M)) (ReadsBF.cons rfl (by kernel_rfl) (fun M _ => (rd37 M)) (ReadsBF.cons rfl (by kernel_rfl) (fun M _ => (rd27 M)) (ReadsBF.cons rfl (by kernel_rfl) (fun M _ => (rd38 M)) (ReadsBF.cons rfl (by kernel_rfl) (fun M _ => (ReadsB.int Tryz.underlying3)) (ReadsBF.cons rfl (by kernel_rfl) (fun M _ => (ReadsB.string Tryz.underlying9)) .nil))))))))))))).conv (fun p => (⟨p.1, p.2.1, p.2.2.1, p.2.2.2.1, p.2.2.2.2.1, p.2.2.2.2.2.1, p.2.2.2.2.2.2.1, p.2.2.2.2.2.2.2.1, p.2.2.2.2.2.2.2.2.1, p.2.2.2.2.2.2.2.2.2.1, p.2.2.2.2.2.2.2.2.2.2.1, p.2.2.2.2.2.2.2.2.2.2.2.1⟩ : St)) (fun p _ => by first | rfl | (rw [exT_eq]; rfl)) (fun _ h => h)
abbrev ok35 (s : RV) : Prop := (fun i : Int => (Lit.int .i64 i).wf = true) s.k ∧ (fun i : Int => (Lit.int .i64 i).wf = true) s.n ∧ (fun _ : ByteArray => True) s.s ∧ True
theorem rd35 (N : Nat) : ReadsB Tryz.prog N 35 3 rvT ok35 :=
  (ReadsB.struct Tryz.underlying35 (ReadsBF.cons rfl (by kernel_rfl) (fun M _ => (ReadsB.int Tryz.underlying3)) (ReadsBF.cons rfl (by kernel_rfl) (fun M _ => (ReadsB.int Tryz.underlying2)) (ReadsBF.cons rfl (by kernel_rfl) (fun M _ => (ReadsB.string Tryz.underlying9)) .nil)))).conv (fun p => (⟨p.1, p.2.1, p.2.2.1⟩ : RV)) (fun p _ => by first | rfl | (rw [exT_eq]; rfl)) (fun _ h => h)
abbrev ok55 (l : List RV) : Prop := ∀ x ∈ l, ok35 x
theorem rd55 (N : Nat) : ReadsB Tryz.prog N 55 1 (fun x : List RV => ([.sl .un 3 (x.map rvT)] : List T)) ok55 :=
  (ReadsB.slice Tryz.underlying55 (by kernel_rfl) (by decide) (fun M _ => (rd35 M))).conv id (fun _ _ => rfl) (fun _ h => h)
theorem rgI {i : Int} (h : nW i) : R64 i := ⟨jJ (Bool.and_eq_true_iff.1 h).1, jJ (Bool.and_eq_true_iff.1 h).2⟩
theorem bk_ex (e : Ex) : bkS (exT' e) = 7 + e.tb.size + e.nm.size + e.vs.size + 1 + bkL (e.args.map exT') := by
  rw [exT_eq]; simp only [exL, bkS, bkT, bkV]; omega
theorem bk_wtL {l : List Ex} (h : ∀ a ∈ l, wtE a ≤ bkS (exT' a)) : wtS l ≤ bkL (l.map exT') := by
  induction l with
  | nil => exact qZ _
  | cons a r ih => rw [wtS, qL, bkL]; have := h a (by simp); have := ih fun b hb => h b (by simp [hb]); omega
theorem bk_wt (e : Ex) : wtE e ≤ bkS (exT' e) := by
  induction e using Ex.rec' with
  | h e ih => rw [wtE_eq, bk_ex]; have := bk_wtL ih; omega
theorem bkL_sm {α : Type} {F : α → List E.T} {f : α → Nat} (h : ∀ a, f a ≤ bkS (F a)) : ∀ l : List α, smL f l ≤ bkL (l.map F)
  | [] => qZ _
  | a :: r => by rw [smL, qL, bkL]; have := h a; have := bkL_sm h r; omega
theorem ex_8 (e : Ex) : 8 ≤ bkS (exT' e) := by rw [bk_ex]; omega
theorem bkL_8 : ∀ l : List Ex, 8 * l.length ≤ bkL (l.map exT')
  | [] => qZ _
  | a :: r => by rw [qM, qL, bkL]; have := ex_8 a; have := bkL_8 r; omega
theorem rg_rd (e : Ex) : ok37 e → bkS (exT' e) ≤ 1048576 → rgX e := by
  induction e using Ex.rec' with
  | h e ih =>
    intro h hb
    have k := (ok37_iff e).1 h
    have hb2 := hb
    rw [bk_ex] at hb2
    have h8 := bkL_8 e.args
    exact (rgX_iff e).2 ⟨⟨rgI k.1.2.2.2, by omega, by omega⟩, fun a ha => ih a ha (k.2 a ha) (by have := bkL_mem (F := exT') ha; omega)⟩
theorem ok_rd (e : Ex) : bkS (exT' e) ≤ 1048576 → Q.okE e := by
  induction e using Ex.rec' with
  | h e ih =>
    intro hb
    have hb2 := hb
    rw [bk_ex] at hb2
    have h8 := bkL_8 e.args
    exact okE_iff.2 ⟨⟨by omega, by omega, by omega, by omega⟩, fun a ha => ih a ha (by have := bkL_mem (F := exT') ha; omega)⟩
theorem smL_flat {α : Type} {f : α → Nat} : ∀ l : List (List α), smL f l.flatten = smL (smL f) l
  | [] => rfl
  | a :: r => by rw [List.flatten_cons, smL_app, smL, smL_flat r]
theorem smL_map {α β : Type} {f : β → Nat} {g : α → β} : ∀ l : List α, smL f (l.map g) = smL (fun a => f (g a)) l
  | [] => rfl
  | a :: r => by rw [qL, smL, smL, smL_map r]
theorem bk_str (l : List ByteArray) : wdN l ≤ bkL (l.map sT) := by
  unfold wdN
  induction l with
  | nil => exact qZ _
  | cons a r ih => rw [smL, qL, bkL, qM]; simp only [bkS, bkT, bkV] at *; omega
theorem st_mem {l : List ByteArray} {u : ByteArray} (h : u ∈ l) : l.length ≤ wdN l ∧ u.size ≤ wdN l := by
  have := smL_mem (f := ByteArray.size) h
  unfold wdN; omega
theorem oknL_of {l : List ByteArray} {n : Nat} (h : wdN l ≤ n) (hn : n ≤ 1048576) : oknL l := ⟨by unfold wdN at h; omega, fun u hu => by have := st_mem hu; omega⟩
section
variable {d : List Tb} {st : St}
theorem bk_st : bkS (stT st) = 1 + (st.tb.size + 1) + (1 + bkL (st.cr.cols.map coT)) + (1 + bkL (st.cr.keys.map sLT)) + (1 + bkL (st.cr.fks.map rfT)) + (1 + bkL (st.cr.chks.map exT')) + (1 + bkL (st.vals.map exLT)) + (1 + bkL (st.sets.map asT)) + (1 + bkL (st.its.map itT)) + (1 + bkL (st.frm.map frT)) + bkS (exT' st.wh) + (1 + bkL (st.grp.map exT')) + (1 + bkL (st.ord.map odT)) + 1 + (st.nm.size + 1) := by
  rw [bk_ex]; simp only [bkS, bkT, bkV]; omega
theorem as_bk (a : As) : a.col.size + bkS (exT' a.ex) ≤ bkS (asT a) := by rw [bk_ex]; simp only [bkS, bkT, bkV]; omega
theorem it_bk (a : It) : bkS (exT' a.ex) ≤ bkS (itT a) := by rw [bk_ex]; simp only [bkS, bkT, bkV]; omega
theorem va_bk (u : List Ex) : bkL (u.map exT') + 1 ≤ bkS (exLT u) := by simp only [bkS, bkT, bkV]; omega
theorem fr_bk (f : Fr) : f.tb.size + f.al.size ≤ bkS (frT f) := by simp only [bkS, bkT, bkV]; omega
theorem co_bk (x : Co) : x.nm.size ≤ bkS (coT x) := by simp only [bkS, bkT, bkV]; omega
theorem ky_bk (l : List ByteArray) : wdN l ≤ bkS (sLT l) := by have := bk_str l; simp only [bkS, bkT, bkV]; omega
theorem rf_bk (f : Rf) : wdN f.cols + f.tab.size + wdN f.tgt ≤ bkS (rfT f) := by have := bk_str f.cols; have := bk_str f.tgt; simp only [bkS, bkT, bkV]; omega
theorem ax_sm : smL wtE (allX st) ≤ bkS (stT st) := by
  rw [allX_eq, smL_app, smL_app, smL_app, smL_app, smL_app, smL_flat, smL_map, smL_map, bk_st]
  have h1 := bkL_sm (F := exT') (f := wtE) bk_wt st.cr.chks
  have h2 := bkL_sm (F := exLT) (f := smL wtE) (fun u => by have := bkL_sm (F := exT') (f := wtE) bk_wt u; have := va_bk u; omega) st.vals
  have h3 := bkL_sm (F := asT) (f := fun a => wtE a.ex) (fun a => by have := bk_wt a.ex; have := as_bk a; omega) st.sets
  have h4 := bkL_sm (F := itT) (f := fun a => wtE a.ex) (fun a => by have := bk_wt a.ex; have := it_bk a; omega) st.its
  have h5 := bk_wt st.wh
  have h6 := bkL_sm (F := exT') (f := wtE) bk_wt st.grp
  have h7 : smL wtE [st.wh] = wtE st.wh := by rw [smL, smL]; rfl
  omega
theorem wg_sm : ∀ l : List Ex, smL wgE l ≤ smL wtE l
  | [] => qZ _
  | a :: r => by rw [smL, smL]; have := (wg_bd a).1; have := wg_sm r; omega
theorem ax_mem {P : Ex → Prop} (h1 : ∀ e ∈ st.cr.chks, P e) (h2 : ∀ u ∈ st.vals, ∀ e ∈ u, P e) (h3 : ∀ a ∈ st.sets, P a.ex) (h4 : ∀ x ∈ st.its, P x.ex) (h5 : P st.wh) (h6 : ∀ e ∈ st.grp, P e) : ∀ e ∈ allX st, P e := fun e he => by
  rw [allX_eq] at he
  simp only [jC, List.mem_flatten, jE, jF] at he
  rcases he with ((((he | ⟨u, hu, he⟩) | ⟨a, ha, rfl⟩) | ⟨a, ha, rfl⟩) | rfl) | he
  · exact h1 e he
  · exact h2 u hu e he
  · exact h3 a ha
  · exact h4 a ha
  · exact h5
  · exact h6 e he
structure BP (st : St) : Prop where
  tb : st.tb.size ≤ 1048576
  nm : st.nm.size ≤ 1048576
  co : bkL (st.cr.cols.map coT) ≤ 1048576
  ky : bkL (st.cr.keys.map sLT) ≤ 1048576
  rf : bkL (st.cr.fks.map rfT) ≤ 1048576
  ch : bkL (st.cr.chks.map exT') ≤ 1048576
  va : bkL (st.vals.map exLT) ≤ 1048576
  se : bkL (st.sets.map asT) ≤ 1048576
  it : bkL (st.its.map itT) ≤ 1048576
  fr : bkL (st.frm.map frT) ≤ 1048576
  wh : bkS (exT' st.wh) ≤ 1048576
  gr : bkL (st.grp.map exT') ≤ 1048576
  od : bkL (st.ord.map odT) ≤ 1048576
theorem bp_of (h : bkS (stT st) ≤ 1048576) : BP st := by
  rw [bk_st] at h
  exact ⟨by omega, by omega, by omega, by omega, by omega, by omega, by omega, by omega, by omega, by omega, by omega, by omega, by omega⟩
theorem nz {α : Type} {F : α → List E.T} (hF : ∀ x, 1 ≤ bkS (F x)) {l : List α} {N : Nat} (h : bkL (l.map F) ≤ N) : l.length ≤ N := jB (bkL_len (F := F) (fun x e => by have := hF x; rw [e, bkS] at this; omega) l) h
theorem one {α : Type} {F : α → List E.T} {l : List α} {N : Nat} (h : bkL (l.map F) ≤ N) : ∀ a ∈ l, bkS (F a) ≤ N := fun a ha => jB (bkL_mem ha) h
theorem p_co (x : Co) : 1 ≤ bkS (coT x) := by simp only [bkS, bkT, bkV]; omega
theorem p_ky (x : List ByteArray) : 1 ≤ bkS (sLT x) := by simp only [bkS, bkT, bkV]; omega
theorem p_rf (x : Rf) : 1 ≤ bkS (rfT x) := by simp only [bkS, bkT, bkV]; omega
theorem p_ex (x : Ex) : 1 ≤ bkS (exT' x) := by have := ex_8 x; omega
theorem p_va (x : List Ex) : 1 ≤ bkS (exLT x) := by simp only [bkS, bkT, bkV]; omega
theorem p_as (x : As) : 1 ≤ bkS (asT x) := by simp only [bkS, bkT, bkV]; omega
theorem p_it (x : It) : 1 ≤ bkS (itT x) := by simp only [bkS, bkT, bkV]; omega
theorem p_fr (x : Fr) : 1 ≤ bkS (frT x) := by simp only [bkS, bkT, bkV]; omega
theorem p_od (x : Od) : 1 ≤ bkS (odT x) := by simp only [bkS, bkT, bkV]; omega
theorem p_tb (x : Tb) : 1 ≤ bkS (tbT x) := by simp only [bkS, bkT, bkV]; omega
theorem p_il (x : List Int) : 1 ≤ bkS (iLT x) := by simp only [bkS, bkT, bkV]; omega
theorem p_fk (x : Fk) : 1 ≤ bkS (fkT x) := by simp only [bkS, bkT, bkV]; omega
theorem p_i (x : Int) : 1 ≤ bkS (i64T x) := by simp only [bkS, bkT, bkV]; omega
theorem va_in {u : List Ex} (h : bkS (exLT u) ≤ 1048576) : u.length ≤ 1048576 ∧ ∀ e ∈ u, bkS (exT' e) ≤ 1048576 := by
  have h2 := va_bk u
  have h3 : bkL (u.map exT') ≤ 1048576 := by omega
  exact ⟨nz p_ex h3, one h3⟩
theorem n6_le (h : bkS (stT st) ≤ 1048576) : n6S st ≤ 4000000 := by
  have hst := bk_st (st := st)
  have hsm := jB (wg_sm (allX st)) ax_sm
  have w2 := bkL_sm (F := asT) (f := asZ) (fun a => by have := as_bk a; have e : asZ a = a.col.size := rfl; omega) st.sets
  have w3 := bkL_sm (F := frT) (f := frZ) (fun a => fr_bk a) st.frm
  have w4 := bkL_sm (F := coT) (f := coZ) (fun a => co_bk a) st.cr.cols
  have w5 := bkL_sm (F := sLT) (f := wdN) ky_bk st.cr.keys
  have w6 := bkL_sm (F := rfT) (f := rfW) (fun a => rf_bk a) st.cr.fks
  have l1 := nz p_va (l := st.vals) (jA _)
  have l2 := nz p_fr (l := st.frm) (jA _)
  have l3 := nz p_od (l := st.ord) (jA _)
  have l4 := nz p_co (l := st.cr.cols) (jA _)
  have l5 := nz p_ky (l := st.cr.keys) (jA _)
  have l6 := nz p_rf (l := st.cr.fks) (jA _)
  have q0 : n0S st = st.tb.size + st.nm.size + st.vals.length + st.frm.length + st.ord.length + st.cr.cols.length + st.cr.keys.length + st.cr.fks.length := rfl
  have q6 : n6S st = n0S st + smL wgE (allX st) + smL asZ st.sets + smL frZ st.frm + smL coZ st.cr.cols + smL wdN st.cr.keys + smL rfW st.cr.fks := rfl
  have hs : n0S st + smL asZ st.sets + smL frZ st.frm + smL coZ st.cr.cols + smL wdN st.cr.keys + smL rfW st.cr.fks ≤ 2 * bkS (stT st) := by
    rw [q0, hst]; clear hst q0 q6 hsm h; omega
  clear hst w2 w3 w4 w5 w6 l1 l2 l3 l4 l5 l6 q0
  omega
theorem lim6 {n : Nat} {m : Nat} (h : n ≤ 1048576) (hm : 1048576 ≤ m) : n ≤ m := jB h hm
theorem dn_of (h : BP st) : okDn st.cr := ⟨lim6 (nz p_co h.co) (by decide), fun x hx => lim6 (jB (co_bk x) (one h.co x hx)) (by decide), lim6 (nz p_ky h.ky) (by decide), fun l hl => oknL_of (jB (ky_bk l) (one h.ky l hl)) (jA _), lim6 (nz p_rf h.rf) (by decide), fun f hf => by
    have h1 := one h.rf f hf
    have h2 := rf_bk f
    exact ⟨oknL_of (n := 1048576) (by omega) (jA _), by omega, oknL_of (n := 1048576) (by omega) (jA _)⟩, lim6 (nz p_ex h.ch) (by decide), fun e he => ok_rd e (one h.ch e he)⟩
theorem as_in (h : BP st) : ∀ a ∈ st.sets, a.col.size ≤ 1048576 ∧ bkS (exT' a.ex) ≤ 1048576 := fun a ha => by
  have h1 := one h.se a ha
  have h2 := as_bk a
  clear h; omega
theorem it_in (h : BP st) : ∀ a ∈ st.its, bkS (exT' a.ex) ≤ 1048576 := fun a ha => jB (it_bk a) (one h.it a ha)
theorem fr_in (h : BP st) : ∀ a ∈ st.frm, a.tb.size ≤ 1048576 ∧ a.al.size ≤ 1048576 := fun a ha => by
  have h1 := one h.fr a ha
  have h2 := fr_bk a
  clear h; omega
theorem fm_in (h : BP st) : okFm st := ⟨lim6 h.tb (by decide), lim6 h.nm (by decide), dn_of h, lim6 (nz p_va h.va) (by decide), fun u hu => ⟨lim6 (va_in (one h.va u hu)).1 (by decide), fun e he => ok_rd e ((va_in (one h.va u hu)).2 e he)⟩, lim6 (nz p_as h.se) (by decide), fun a ha => ⟨lim6 (as_in h a ha).1 (by decide), ok_rd _ (as_in h a ha).2⟩, lim6 (nz p_it h.it) (by decide), fun a ha => ok_rd _ (it_in h a ha), lim6 (nz p_fr h.fr) (by decide), fun f hf => ⟨lim6 (fr_in h f hf).1 (by decide), lim6 (fr_in h f hf).2 (by decide)⟩, ok_rd _ h.wh, lim6 (nz p_ex h.gr) (by decide), fun e he => ok_rd e (one h.gr e he), lim6 (nz p_od h.od) (by decide)⟩
theorem ax_in (h : BP st) : ∀ e ∈ allX st, bkS (exT' e) ≤ 1048576 := ax_mem (one h.ch) (fun u hu => (va_in (one h.va u hu)).2) (fun a ha => (as_in h a ha).2) (it_in h) h.wh (one h.gr)
theorem tb_in {t : Tb} (h : bkS (tbT t) ≤ 1048576) : Q.okT t := by
  have hb : t.nm.size ≤ 1048576 ∧ bkL (t.cols.map coT) ≤ 1048576 ∧ bkL (t.keys.map iLT) ≤ 1048576 ∧ bkL (t.fks.map fkT) ≤ 1048576 ∧ bkL (t.chks.map exT') ≤ 1048576 := by simp only [bkS, bkT, bkV] at h; omega
  obtain ⟨h1, h2, h3, h4, h5⟩ := hb
  exact ⟨lim6 h1 (by decide), lim6 (nz p_co h2) (by decide), fun x hx => lim6 (jB (co_bk x) (one h2 x hx)) (by decide), lim6 (nz p_il h3) (by decide), fun l hl => by
      have k1 := one h3 l hl
      have k2 : bkL (l.map i64T) ≤ 1048576 := by simp only [bkS, bkT, bkV] at k1; omega
      exact lim6 (nz p_i k2) (by decide), lim6 (nz p_fk h4) (by decide), fun f hf => by
      have k1 := one h4 f hf
      have k2 : bkL (f.cols.map i64T) ≤ 1048576 := by simp only [bkS, bkT, bkV] at k1; omega
      exact lim6 (nz p_i k2) (by decide), lim6 (nz p_ex h5) (by decide), fun e he => ok_rd e (one h5 e he)⟩
theorem sl1 {z : Nz} {n : Nat} {l : List (List E.T)} : bkS [.sl z n l] = 1 + bkL l := by rw [bkS, bkT, bkS]; omega
theorem le_parts {a b N : Nat} (h : 1 + a + b ≤ N) : a ≤ N ∧ b ≤ N := by omega
theorem rd_in (k0 : ok23 d) (k1 : ok40 st) (hb : bkS [.sl .un 5 (d.map tbT)] + bkS (stT st) ≤ 1048576) : okLw d st := by
  rw [sl1] at hb
  obtain ⟨hd, B⟩ := le_parts hb
  have P := bp_of B
  have hsm := jB ax_sm B
  have E2 : ∀ e ∈ allX st, ok37 e := ax_mem k1.2.2.1.2.2.2.1 (fun u hu => k1.2.2.2.1 u hu) (fun a ha => (k1.2.2.2.2.1 a ha).2.2.1) (fun a ha => (k1.2.2.2.2.2.1 a ha).2.1) k1.2.2.2.2.2.2.2.1 k1.2.2.2.2.2.2.2.2.1
  have ax := jB (smL_len (f := wtE) (fun e => by have := wtE_eq e; omega) (allX st)) hsm
  exact ⟨nz p_tb hd, fun t ht => tb_in (one hd t ht), ⟨⟨lim6 (nz p_va P.va) (by decide), lim6 ax (by decide), fun e he => lim6 (jB (smL_mem (f := wtE) he) hsm) (by decide), n6_le B⟩, fm_in P, fun e he => ok_rd e (ax_in P e he), lim6 P.tb (by decide), lim6 P.nm (by decide), fun a ha => lim6 (as_in P a ha).1 (by decide), fun f hf => ⟨lim6 (fr_in P f hf).1 (by decide), lim6 (fr_in P f hf).2 (by decide)⟩⟩, fun e he => rg_rd e (E2 e he) (ax_in P e he)⟩
end
theorem p_rv (x : RV) : 1 ≤ bkS (rvT x) := by simp only [bkS, bkT, bkV]; omega
theorem rv_bk (x : RV) : x.s.size ≤ bkS (rvT x) := by simp only [bkS, bkT, bkV]; omega
theorem rd_row {r : List RV} (h : bkS [.sl .un 3 (r.map rvT)] ≤ 1048576) : r.length ≤ 1000000000000 ∧ ∀ v ∈ r, v.s.size ≤ 1000000000000000 := by
  rw [sl1] at h
  have h2 : bkL (r.map rvT) ≤ 1048576 := by omega
  exact ⟨lim6 (nz p_rv h2) (by decide), fun v hv => lim6 (jB (rv_bk v) (one h2 v hv)) (by decide)⟩
theorem values_rd {d : List Tb} {st : St} {r : List RV} (k0 : ok23 d) (k1 : ok40 st) (hb : bkS [.sl .un 5 (d.map tbT)] + bkS (stT st) + bkS [.sl .un 3 (r.map rvT)] ≤ 1048576) : E.Spec Tryz.prog 5 [scC .un d, stC st, rowC .un r] (fun _ => none) fun x _ => x = tv (.bool true) :=
  values_law2 d .un st .un r (rd_in k0 k1 (jB (Nat.le_add_right _ _) hb)) (rd_row (jB (Nat.le_add_left _ _) hb)).1 (rd_row (jB (Nat.le_add_left _ _) hb)).2
end Go.Proofs.YtgnnjebfoffphaaGreatDoor.W
