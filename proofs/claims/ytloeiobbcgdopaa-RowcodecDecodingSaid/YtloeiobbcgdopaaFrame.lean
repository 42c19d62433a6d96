/- From the form's reading of the arguments to plain words on memory; the last step of a law's row. Plain theorems, for any program. -/
import Derived.Test.YtloeiobbcgdopaaLib
import Derived.ProofKit
import Derived.OpenShut
import Derived.ShutString
import Derived.ChangeOld
import Derived.Carry
import Derived.Deep.Slices
import Derived.Lib.SmallJoins
import Derived.SizedLaws
namespace Go.Proofs.Ytloeiobbcgdopaa.Fr
open Go.ChangeShapes Go.WideShapes Go.ChangeAt Go.RowKit Go.Deep L

section
variable {H : Type} {enc : TypeId × Value → H} {P : Program} {w W W' : World}

theorem trodAll_below (hl : laidOutB P = true) : ∀ (ts : List TypeId) (vs : List Value) (ds : List (DataW H)) (ps : List MemPlace), (∀ t ∈ ts, P.readableRec t = true ∧ t < P.types.size) →
    DataW.TrodAll enc P W 0 (fun _ => true) true ts vs ds ps → Below W.heap.size W W' → DataW.TrodAll enc P W' 0 (fun b => decide (b < W.heap.size)) true ts vs ds ps
  | [], vs, ds, ps, _, h, _ => by
    obtain ⟨rfl, rfl, rfl⟩ := trodAll_nil h
    exact trodAll_mk0
  | t :: ts, vs, ds, ps, hr, h, hb => by
    obtain ⟨v, vs', d, ds', p, q, rfl, rfl, rfl, h1, h2⟩ := trodAll_cons h
    refine trodAll_cons_mk (Below.trod hl (hr t (by simp)).1 (hr t (by simp)).2 h1 hb ?_) (trodAll_below hl ts vs' ds' q (fun t ht => hr t (by simp [ht])) h2 hb)
    obtain ⟨m, hm⟩ := h1
    exact DataW.trod_lt m _ _ _ hm

theorem flat_get {size : Nat} : ∀ (css : List (List Value)) (i j : Nat), (∀ cs ∈ css, cs.length = size) → j < size → css.flatten[i * size + j]? = css[i]?.bind (·[j]?)
  | [], i, j, _, _ => by simp
  | cs :: css, 0, j, h, hj => by
    have := h cs (by simp)
    simp [List.getElem?_append, this, hj]
  | cs :: css, i + 1, j, h, hj => by
    have h1 := h cs (by simp)
    have h2 : (i + 1) * size + j = cs.length + (i * size + j) := by rw [h1, Nat.add_mul]; omega
    rw [List.flatten_cons, h2, List.getElem?_append_right (by omega), Nat.add_sub_cancel_left, flat_get css i j (fun c hc => h c (by simp [hc])) hj]
    simp
theorem flat_len {size : Nat} : ∀ (css : List (List Value)), (∀ cs ∈ css, cs.length = size) → css.flatten.length = css.length * size
  | [], _ => by simp
  | cs :: css, h => by
    rw [List.flatten_cons, List.length_append, h cs (by simp), flat_len css (fun c hc => h c (by simp [hc])), List.length_cons, Nat.add_mul]; omega

/-- the form's reach, of a datum: no string, slice or map in it takes more -/
def Sz {H : Type} (P : Program) (t : TypeId) (d : DataW H) : Prop := ∀ n ∈ d.weights P t, n ≤ 140737488351232
theorem Sz.of {H : Type} {P : Program} {ts : List TypeId} {ds : List (DataW H)} (h : (DataW.weightsEach P ts ds).all (· ≤ reachBytes) = true) {j : Nat} {t : TypeId} {d : DataW H} (ht : ts[j]? = some t) (hd : ds[j]? = some d) : Sz P t d := by
  intro n hn
  have := List.all_eq_true.1 h n (DataW.weights_mem_each ht hd n hn)
  show n ≤ reachBytes
  exact of_decide_eq_true this
theorem weights_all {H : Type} {P : Program} {e : TypeId} : ∀ {ds : List (DataW H)} {d : DataW H}, d ∈ ds → ∀ n ∈ d.weights P e, n ∈ DataW.weightsAll P e ds
  | d' :: ds, d, h, n, hn => by
    simp only [DataW.weightsAll, List.mem_append]
    rcases List.mem_cons.1 h with rfl | h
    · exact .inl hn
    · exact .inr (weights_all h n hn)

/-- A slice that came in: the cells of its elements, each with its own reading. -/
theorem rd_of_slice {t e : TypeId} {size fuel : Nat} {sp : Nat → Bool} {held : Bool} {cs : List Value} {x : DataW H × List MemPlace} (ht : P.underlying t = some (.slice e)) (hC : P.cellsOf e = size) (hs : 0 < size)
    (h : DataW.trod enc P w 0 sp held fuel t cs = some x) (hz : Sz P t x.1) :
    ∃ (v : Value) (css : List (List Value)), cs = [v] ∧ css.length ≤ maxLen ∧ css.length * P.bytesOf e ≤ 140737488351232 ∧ Rd w size v css.length css.flatten ∧ (∀ c ∈ css, c.length = size ∧ ∃ n y, DataW.trod enc P w 0 sp held n e c = some y ∧ Sz P e y.1) := by
  rcases open_slice ht h with ⟨rfl, rfl⟩ | ⟨a, len, cap, m, n, D, Pl, rfl, _, hl, hm, hmm, hx, hi⟩
  · exact ⟨_, [], rfl, Nat.zero_le _, by simp, Rd.nil w size none 0, by simp⟩
  · have hlm : len ≤ m := by rw [hmm]; split <;> omega
    have hi' : ∀ i, ∃ cs', i < len → w.cells? 0 (a.add (i * size)) size = some cs' ∧ DataW.trod enc P w 0 sp held n e cs' = some (D i, Pl i) := by
      intro i
      by_cases h : i < len
      · obtain ⟨cs', h1, h2⟩ := hi i (by omega)
        rw [hC] at h1
        exact ⟨cs', fun _ => ⟨h1, h2⟩⟩
      · exact ⟨[], fun h' => absurd h' h⟩
    obtain ⟨f, hf⟩ := Classical.axiomOfChoice hi'
    have hlen : ∀ c ∈ (List.range len).map f, c.length = size := by
      intro c hc
      obtain ⟨i, hi, rfl⟩ := List.mem_map.1 hc
      exact (World.cells?_some (hf i (List.mem_range.1 hi)).1).2.1
    refine ⟨_, (List.range len).map f, rfl, by simp; omega, ?_, ⟨flat_len _ hlen, some a, cap, by simp, ?_⟩, ?_⟩
    · have := hz ((len + (m - len)) * P.bytesOf e) (by rw [hx]; simp [DataW.weights, ht])
      refine Nat.le_trans (Nat.mul_le_mul_right _ ?_) this
      simp
    · intro j u hu
      have hj : j < len * size := by
        have := (List.getElem?_eq_some_iff.1 hu).1
        rw [flat_len _ hlen] at this
        simpa using this
      have hq : j / size < len := (Nat.div_lt_iff_lt_mul hs).2 hj
      have hm := Nat.mod_lt j hs
      have e1 : j / size * size + j % size = j := Nat.div_add_mod' j size
      rw [← e1, flat_get _ _ _ hlen hm] at hu
      simp [List.getElem?_map, List.getElem?_range hq] at hu
      obtain ⟨_, _, hc⟩ := World.cells?_some (hf _ hq).1
      have := (hc _ hm).trans hu
      rw [Go.Deep.add_add, e1] at this
      have hspot : a.spot = none := by
        obtain ⟨_, hl0, hc0⟩ := World.cells?_some (hf 0 (Nat.lt_of_le_of_lt (Nat.zero_le _) hq)).1
        have h0 := hc0 0 hs
        rw [List.getElem?_eq_getElem (by omega), Go.Deep.add_add] at h0
        have := World.cell?_spot h0
        simpa [Addr.add] using this
      obtain ⟨b, off, spot⟩ := a
      simp only at hspot
      subst hspot
      exact ⟨b, off, rfl, by rwa [add_eq] at this⟩
    · intro c hc
      obtain ⟨i, hi, rfl⟩ := List.mem_map.1 hc
      refine ⟨hlen _ (List.mem_map.2 ⟨i, hi, rfl⟩), n, _, (hf i (List.mem_range.1 hi)).2, fun k hk => hz k ?_⟩
      rw [hx]
      simp only [DataW.weights, ht, List.mem_cons, List.mem_append]
      exact .inr (.inl (weights_all (List.mem_map.2 ⟨i, hi, rfl⟩) k hk))

/-- from cells with a reading each to data -/
theorem map_of {α : Type} {p : List Value → Prop} {f : α → List Value} {q : α → Prop} (hp : ∀ c, p c → ∃ x, c = f x ∧ q x) : ∀ css : List (List Value), (∀ c ∈ css, p c) → ∃ xs : List α, css = xs.map f ∧ ∀ x ∈ xs, q x
  | [], _ => ⟨[], rfl, by simp⟩
  | c :: css, h => by
    obtain ⟨x, hx, hq⟩ := hp c (h c (by simp))
    obtain ⟨xs, hxs, hqs⟩ := map_of hp css (fun c hc => h c (by simp [hc]))
    exact ⟨x :: xs, by rw [hx, hxs]; rfl, by simpa using ⟨hq, hqs⟩⟩
theorem i64_bounds {n : Int} (h : (Lit.int .i64 n).wf = true) : -9223372036854775808 ≤ n ∧ n ≤ 9223372036854775807 := by
  simpa [Lit.wf, IntKind.min, IntKind.max, IntKind.signed, IntKind.bits] using h
theorem u8_bounds {n : Int} (h : (Lit.int .u8 n).wf = true) : 0 ≤ n ∧ n ≤ 255 := by
  simpa [Lit.wf, IntKind.min, IntKind.max, IntKind.signed, IntKind.bits] using h
end

/-- a value of package api -/
structure Val where
  k : Int
  n : Int
  t : ByteArray
def Val.cells (x : Val) : List Value := [.int .i64 x.k, .int .i64 x.n, .string x.t]
def Val.v (x : Val) : Value := .agg #[.int .i64 x.k, .int .i64 x.n, .string x.t]
def In64 (n : Int) : Prop := -9223372036854775808 ≤ n ∧ n ≤ 9223372036854775807
def Val.ok (x : Val) : Prop := In64 x.k ∧ In64 x.n ∧ x.t.size ≤ 140737488351232

section
variable {H : Type} {enc : TypeId × Value → H} {P : Program} {w : World} {base : Nat} {sp : Nat → Bool} {held : Bool}
/-- the reading of three cells that are a value -/
theorem val_of_cells {e t0 t1 t2 : TypeId} {fs : Array Field} {fuel : Nat} {c : List Value} {y : DataW H × List MemPlace} (hs : P.underlying e = some (.struct fs)) (hn : fs.size = 3) (hone : oneCellFields P fs = true)
    (ht : fs.toList.map (·.type) = [t0, t1, t2]) (h0 : P.underlying t0 = some (.int .i64)) (h1 : P.underlying t1 = some (.int .i64)) (h2 : P.underlying t2 = some .string)
    (hl : c.length = 3) (h : DataW.trod enc P w base sp held fuel e c = some y) (hz : Sz P e y.1) : ∃ x : Val, c = x.cells ∧ x.ok := by
  obtain ⟨fl⟩ := fs
  match fl, hn, ht with
  | [f0, f1, f2], _, ht =>
    simp at ht
    obtain ⟨rfl, rfl, rfl⟩ := ht
    obtain ⟨xs, n, _, hxx, _, hxl, hg⟩ := DataW.trod_struct hs h
    obtain ⟨o0, k0⟩ := hone_of hone 0 f0 rfl
    obtain ⟨o1, k1⟩ := hone_of hone 1 f1 rfl
    obtain ⟨o2, k2⟩ := hone_of hone 2 f2 rfl
    match c, hl, xs, hxl with
    | [c0, c1, c2], _, [y0, y1, y2], _ =>
      have g0 : DataW.trod enc P w base sp held n f0.type [c0] = some y0 := by simpa [o0, k0] using hg 0 f0 rfl
      have g1 : DataW.trod enc P w base sp held n f1.type [c1] = some y1 := by simpa [o1, k1] using hg 1 f1 rfl
      have g2 : DataW.trod enc P w base sp held n f2.type [c2] = some y2 := by simpa [o2, k2] using hg 2 f2 rfl
      obtain ⟨a0, e0, _, w0⟩ := DataW.trod_int h0 g0
      obtain ⟨a1, e1, _, w1⟩ := DataW.trod_int h1 g1
      obtain ⟨a2, e2, y2e, w2⟩ := DataW.trod_string h2 g2
      injection e0 with e0
      injection e1 with e1
      injection e2 with e2
      subst e0 e1 e2
      refine ⟨⟨a0, a1, a2⟩, rfl, i64_bounds w0, i64_bounds w1, ?_⟩
      have := hz a2.data.toList.length (by rw [hxx, y2e]; simp [DataW.weights, hs, DataW.weightsEach])
      rwa [Array.length_toList] at this

/-- a value by value -/
theorem val_of_arg {e t0 t1 t2 : TypeId} {fs : Array Field} {r : Reach} {b0 : Nat} {v : Value} {d : DataW H} {p : List MemPlace} (hs : P.underlying e = some (.struct fs)) (hn : fs.size = 3) (hone : oneCellFields P fs = true) (hC : P.cellsOf e = 3)
    (ht : fs.toList.map (·.type) = [t0, t1, t2]) (h0 : P.underlying t0 = some (.int .i64)) (h1 : P.underlying t1 = some (.int .i64)) (h2 : P.underlying t2 = some .string)
    (hv : Value.okWide P w r b0 e v) (h : DataW.Trod enc P w base sp held e v d p) (hz : Sz P e d) : ∃ x : Val, v = x.v ∧ x.ok := by
  obtain ⟨cs, rfl, hsz⟩ := okWide_struct hs hv
  obtain ⟨fuel, hf⟩ := h
  obtain ⟨x, hx, hok⟩ := val_of_cells hs hn hone ht h0 h1 h2 (by rw [← hC, ← hsz]; simp [Value.cells]) hf hz
  refine ⟨x, ?_, hok⟩
  simp only [Value.cells] at hx
  unfold Val.v
  congr 1
  apply Array.ext'
  rw [hx]; rfl

theorem flat1 {α : Type} (f : α → Value) : ∀ xs : List α, (xs.map fun x => [f x]).flatten = xs.map f
  | [] => rfl
  | x :: xs => by simp only [List.map_cons, List.flatten_cons, flat1 f xs]; rfl
/-- a slice of values -/
def RowRd (w : World) (v : Value) (xs : List Val) : Prop := Rd w 3 v xs.length (xs.flatMap Val.cells)
theorem row_of_arg {t e t0 t1 t2 : TypeId} {fs : Array Field} {r : Reach} {b0 : Nat} {v : Value} {d : DataW H} {p : List MemPlace} (hu : P.underlying t = some (.slice e)) (hs : P.underlying e = some (.struct fs)) (hn : fs.size = 3) (hone : oneCellFields P fs = true) (hC : P.cellsOf e = 3)
    (ht : fs.toList.map (·.type) = [t0, t1, t2]) (h0 : P.underlying t0 = some (.int .i64)) (h1 : P.underlying t1 = some (.int .i64)) (h2 : P.underlying t2 = some .string) (hb : P.bytesOf e = 32)
    (hv : Value.okWide P w r b0 t v) (h : DataW.Trod enc P w 0 sp held t v d p) (hz : Sz P t d) : ∃ xs : List Val, RowRd w v xs ∧ xs.length ≤ 140737488351232 ∧ ∀ x ∈ xs, x.ok := by
  obtain ⟨a, len, cap, rfl⟩ := okWide_slice hu hv
  obtain ⟨fuel, hf⟩ := h
  obtain ⟨v', css, hcs, _, hlen, hrd, hel⟩ := rd_of_slice hu hC (by decide) hf hz
  simp only [Value.cells] at hcs
  injection hcs with hcs
  subst hcs
  obtain ⟨xs, hxs, hok⟩ := map_of (p := fun c => c.length = 3 ∧ ∃ n y, DataW.trod enc P w 0 sp held n e c = some y ∧ Sz P e y.1) (f := Val.cells) (q := Val.ok)
    (fun c ⟨hl, n, y, hy, hz⟩ => val_of_cells hs hn hone ht h0 h1 h2 hl hy hz) css hel
  subst hxs
  refine ⟨xs, ?_, ?_, hok⟩
  · simpa [RowRd, List.flatMap_def] using hrd
  · rw [hb] at hlen; simp at hlen; omega
theorem bytes_of_arg {t e : TypeId} {r : Reach} {b0 : Nat} {v : Value} {d : DataW H} {p : List MemPlace} (hu : P.underlying t = some (.slice e)) (hs : P.underlying e = some (.int .u8)) (hC : P.cellsOf e = 1) (hb : P.bytesOf e = 1)
    (hv : Value.okWide P w r b0 t v) (h : DataW.Trod enc P w 0 sp held t v d p) (hz : Sz P t d) : ∃ xs : List UInt8, RdB w v xs ∧ xs.length ≤ 140737488351232 := by
  obtain ⟨a, len, cap, rfl⟩ := okWide_slice hu hv
  obtain ⟨fuel, hf⟩ := h
  obtain ⟨v', css, hcs, _, hlen, hrd, hel⟩ := rd_of_slice hu hC (by decide) hf hz
  simp only [Value.cells] at hcs
  injection hcs with hcs
  subst hcs
  obtain ⟨xs, hxs, hok⟩ := map_of (p := fun c => c.length = 1 ∧ ∃ n y, DataW.trod enc P w 0 sp held n e c = some y ∧ Sz P e y.1) (f := fun x : UInt8 => [B x]) (q := fun _ => True)
    (fun c ⟨hl, n, y, hy, hz⟩ => by
      obtain ⟨a0, e0, _, w0⟩ := DataW.trod_int hs hy
      have hb := u8_bounds w0
      refine ⟨UInt8.ofNat a0.toNat, ?_, trivial⟩
      rw [e0]; unfold B
      have : ((UInt8.ofNat a0.toNat).toNat : Int) = a0 := by simp; omega
      rw [this]) css hel
  subst hxs
  refine ⟨xs, ?_, ?_⟩
  · have e : (xs.map fun x => [B x]).flatten = Bs xs := flat1 B xs
    rw [e] at hrd
    simpa [RdB] using hrd
  · rw [hb] at hlen; simpa using hlen
/-- ints as cells -/
def Is (l : List Int) : List Value := l.map (Value.int .i64)
def RdI (w : World) (v : Value) (l : List Int) : Prop := Rd w 1 v l.length (Is l)
theorem ints_of_arg {t e : TypeId} {r : Reach} {b0 : Nat} {v : Value} {d : DataW H} {p : List MemPlace} (hu : P.underlying t = some (.slice e)) (hs : P.underlying e = some (.int .i64)) (hC : P.cellsOf e = 1) (hb : P.bytesOf e = 8)
    (hv : Value.okWide P w r b0 t v) (h : DataW.Trod enc P w 0 sp held t v d p) (hz : Sz P t d) : ∃ xs : List Int, RdI w v xs ∧ xs.length ≤ 140737488351232 ∧ ∀ x ∈ xs, In64 x := by
  obtain ⟨a, len, cap, rfl⟩ := okWide_slice hu hv
  obtain ⟨fuel, hf⟩ := h
  obtain ⟨v', css, hcs, _, hlen, hrd, hel⟩ := rd_of_slice hu hC (by decide) hf hz
  simp only [Value.cells] at hcs
  injection hcs with hcs
  subst hcs
  obtain ⟨xs, hxs, hok⟩ := map_of (p := fun c => c.length = 1 ∧ ∃ n y, DataW.trod enc P w 0 sp held n e c = some y ∧ Sz P e y.1) (f := fun x : Int => [Value.int .i64 x]) (q := In64)
    (fun c ⟨hl, n, y, hy, hz⟩ => by
      obtain ⟨a0, e0, _, w0⟩ := DataW.trod_int hs hy
      exact ⟨a0, e0, i64_bounds w0⟩) css hel
  subst hxs
  refine ⟨xs, ?_, ?_, hok⟩
  · have e : (xs.map fun x => [Value.int .i64 x]).flatten = Is xs := flat1 _ xs
    rw [e] at hrd
    simpa [RdI] using hrd
  · rw [hb] at hlen; simp at hlen; omega

theorem cells_length (xs : List Val) : (xs.flatMap Val.cells).length = xs.length * 3 := by
  rw [List.flatMap_def, flat_len (size := 3)]
  · simp
  · intro c hc
    obtain ⟨x, _, rfl⟩ := List.mem_map.1 hc
    rfl
theorem cells_get (xs : List Val) (i : Nat) (j : Nat) (h : i < xs.length) (hj : j < 3) : (xs.flatMap Val.cells)[i * 3 + j]? = (xs[i].cells)[j]? := by
  rw [List.flatMap_def, flat_get (size := 3) _ _ _ _ hj]
  · simp [h]
  · intro c hc
    obtain ⟨x, _, rfl⟩ := List.mem_map.1 hc
    rfl
theorem RowRd.at_ {w : World} {v : Value} {xs : List Val} (h : RowRd w v xs) : ∃ A c, v = .slice A xs.length c ∧ ∀ k (hk : k < xs.length), ∃ b off, A = some ⟨b, off, none⟩ ∧
    w.cell? ⟨b, off + k * 3, none⟩ = some (.int .i64 xs[k].k) ∧ w.cell? ⟨b, off + k * 3 + 1, none⟩ = some (.int .i64 xs[k].n) ∧ w.cell? ⟨b, off + k * 3 + 2, none⟩ = some (.string xs[k].t) := by
  obtain ⟨_, A, c, rfl, hx⟩ := h
  refine ⟨A, c, rfl, fun k hk => ?_⟩
  obtain ⟨b, off, hA, h0⟩ := hx (k * 3 + 0) _ (cells_get xs k 0 hk (by decide))
  obtain ⟨b1, off1, hA1, h1⟩ := hx (k * 3 + 1) _ (cells_get xs k 1 hk (by decide))
  obtain ⟨b2, off2, hA2, h2⟩ := hx (k * 3 + 2) _ (cells_get xs k 2 hk (by decide))
  rw [hA] at hA1 hA2
  injection hA1 with hA1
  injection hA2 with hA2
  injection hA1 with e1 e1'
  injection hA2 with e2 e2'
  subst e1 e1' e2 e2'
  exact ⟨b, off, hA, by simpa [Nat.add_assoc] using h0, by simpa [Nat.add_assoc] using h1, by simpa [Nat.add_assoc] using h2⟩
theorem RowRd.below {w w' : World} {v : Value} {xs : List Val} (h : RowRd w v xs) (hb : Below w.heap.size w w') : RowRd w' v xs := Rd.below h hb
theorem RdB.at_ {w : World} {v : Value} {l : List UInt8} (h : RdB w v l) : ∃ A c, v = .slice A l.length c ∧ ∀ k (hk : k < l.length), ∃ b off, A = some ⟨b, off, none⟩ ∧ w.cell? ⟨b, off + k, none⟩ = some (.int .u8 (l[k].toNat : Int)) := by
  obtain ⟨_, A, c, rfl, hx⟩ := h
  exact ⟨A, c, rfl, fun k hk => hx k _ (by simp [Bs, B, List.getElem?_eq_getElem hk])⟩
theorem RdI.at_ {w : World} {v : Value} {l : List Int} (h : RdI w v l) : ∃ A c, v = .slice A l.length c ∧ ∀ k (hk : k < l.length), ∃ b off, A = some ⟨b, off, none⟩ ∧ w.cell? ⟨b, off + k, none⟩ = some (.int .i64 l[k]) := by
  obtain ⟨_, A, c, rfl, hx⟩ := h
  exact ⟨A, c, rfl, fun k hk => hx k _ (by simp [Is, List.getElem?_eq_getElem hk])⟩
end
end Go.Proofs.Ytloeiobbcgdopaa.Fr
