/- What the chapter's values read as; plain laws. -/
import Derived.Test.YtojkjiakkcgfcaaE22
import Derived.Test.YtojkjiakkcgfcaaFx
import Derived.IntWalk
import Derived.KernelRfl
namespace Go.Proofs.Ytojkjiakkcgfcaa.W
open Go.RowKit E
set_option linter.unusedVariables false
abbrev i64T (n : Int) : List T := [.v (.int .i64 n)]
abbrev int64L (l : List Int) : C := .a (.t (.sl .un 1 (l.map i64T)))
theorem idx_map {α : Type} {f : α → List T} {l : List α} {k : Nat} (h : k < l.length) : (l.map f)[((k : Nat) : Int).toNat]? = some (f l[k]) := by simp [h]
theorem w64 {n : Int} (h : -9223372036854775808 ≤ n) (h' : n ≤ 9223372036854775807) : IntKind.i64.wrap n = n := IntWalk.i64_in n ⟨h, h'⟩
structure Sd where
  nul : Bool
  oth : Bool
  lo : Int
  hi : Int
  fr : ByteArray
  to : ByteArray
  deriving DecidableEq
structure Bx where
  tb : Int
  ss : List Sd
  deriving DecidableEq
abbrev sdT (s : Sd) : List T := [.v (.bool s.nul), .v (.bool s.oth), .v (.int .i64 s.lo), .v (.int .i64 s.hi), .v (.string s.fr), .v (.string s.to)]
abbrev sdC (s : Sd) : C := .g [.t (.v (.bool s.nul)), .t (.v (.bool s.oth)), .t (.v (.int .i64 s.lo)), .t (.v (.int .i64 s.hi)), .t (.v (.string s.fr)), .t (.v (.string s.to))]
abbrev bxC (z : Nz) (b : Bx) : C := .g [.t (.v (.int .i64 b.tb)), .t (.sl z 6 (b.ss.map sdT))]
abbrev iC (n : Int) : C := .a (.t (.v (.int .i64 n)))
abbrev itT (p : Int × Bx) : List T := [.v (.int .i64 p.1), .v (.int .i64 p.2.tb), .sl .un 6 (p.2.ss.map sdT)]
abbrev itC (p : Int × Bx) : C := .g [.t (.v (.int .i64 p.1)), .t (.v (.int .i64 p.2.tb)), .t (.sl .un 6 (p.2.ss.map sdT))]
structure Opn where
  kind : Int
  id : Int
  b : Bx
abbrev opT (o : Opn) : List T := [.v (.int .u8 o.kind), .v (.int .i64 o.id), .v (.int .i64 o.b.tb), .sl .un 6 (o.b.ss.map sdT)]
abbrev opL (l : List Opn) : C := .a (.t (.sl .un 4 (l.map opT)))
abbrev opZ (z : Nz) (l : List Opn) : C := .a (.t (.sl z 4 (l.map opT)))
abbrev itL (z : Nz) (l : List (Int × Bx)) : C := .a (.t (.sl z 3 (l.map itT)))
/-! ### Meet -/
def meet1 (x y : Sd) : Bool := (x.oth && y.oth && decide (max x.lo y.lo ≤ min x.hi y.hi) && (strLt (maxStr x.fr y.fr) (minStr x.to y.to) || decide (maxStr x.fr y.fr = minStr x.to y.to))) || (x.nul && y.nul)
def meetL : List Sd → List Sd → Bool
  | x :: xs, y :: ys => meet1 x y && meetL xs ys
  | _, _ => true
def meet (a b : Bx) : Bool := decide (a.tb = b.tb) && decide (a.ss.length = b.ss.length) && !decide (a.ss.length = 0) && meetL a.ss b.ss
theorem meetL_false : ∀ (k : Nat) {xs ys : List Sd} (hx : k < xs.length) (hy : k < ys.length), meet1 xs[k] ys[k] = false → meetL xs ys = false
  | _, [], _, hx, _, _ => by simp at hx
  | _, _ :: _, [], _, hy, _ => by simp at hy
  | 0, x :: xs, y :: ys, hx, hy, h => by simp at h; simp [meetL, h]
  | k + 1, x :: xs, y :: ys, hx, hy, h => by
    have := meetL_false k (xs := xs) (ys := ys) (by simpa using hx) (by simpa using hy) (by simpa using h)
    simp [meetL, this]
theorem meetL_true : ∀ {xs ys : List Sd}, xs.length = ys.length → (∀ (k : Nat) (hx : k < xs.length) (hy : k < ys.length), meet1 xs[k] ys[k] = true) → meetL xs ys = true
  | [], [], _, _ => rfl
  | [], _ :: _, h, _ => by simp at h
  | _ :: _, [], h, _ => by simp at h
  | x :: xs, y :: ys, h, hk => by
    unfold meetL
    have h0 := hk 0 (by simp) (by simp)
    simp only [List.getElem_cons_zero] at h0
    rw [h0, meetL_true (by simpa using h) fun k hx hy => by have := hk (k + 1) (by simp; omega) (by simp; omega); simpa using this]
    rfl
/-! ### good -/
def texts (s : Sd) : Bool := decide (s.fr ≠ ⟨#[]⟩) || decide (s.to ≠ ⟨#[]⟩)
def bad1 (s : Sd) : Bool := decide ((s.fr.size : Int) > 16) || decide ((s.to.size : Int) > 16) || (texts s && (decide (s.lo ≠ 0) || decide (s.hi ≠ 0))) || (!s.oth && (texts s || decide (s.lo ≠ 0) || decide (s.hi ≠ 0))) || (!s.nul && !s.oth) || decide (s.hi < s.lo) || !(strLt s.fr s.to || decide (s.fr = s.to))
def goodB (b : Bx) : Bool := !decide (4 < b.ss.length) && !decide (b.tb < 0) && !decide (3 < b.tb) && b.ss.all fun s => !bad1 s
theorem goodB_bad {b : Bx} {k : Nat} (hk : k < b.ss.length) (h : bad1 b.ss[k] = true) : goodB b = false := by
  have : (b.ss.all fun s => !bad1 s) = false := by
    rw [List.all_eq_false]
    exact ⟨b.ss[k], List.getElem_mem hk, by simp [h]⟩
  simp [goodB, this]
theorem goodB_ok {b : Bx} (h1 : ¬ 4 < b.ss.length) (h2 : ¬ b.tb < 0) (h3 : ¬ 3 < b.tb) (h : ∀ j (hj : j < b.ss.length), bad1 b.ss[j] = false) : goodB b = true := by
  have : (b.ss.all fun s => !bad1 s) = true := by
    rw [List.all_eq_true]
    intro s hs
    obtain ⟨j, hj, rfl⟩ := List.getElem_of_mem hs
    simp [h j hj]
  simp [goodB, this]; omega
theorem flat6 (l : List Sd) : ((l.map sdT).flatten.map A.t).length = l.length * 6 := by
  rw [List.length_map, flat_length (sz := 6) _ (fun e he => by obtain ⟨s, _, rfl⟩ := List.mem_map.1 he; rfl), List.length_map]
abbrev int64Z (z : Nz) (l : List Int) : C := .a (.t (.sl z 1 (l.map i64T)))
/-! ### the list of numbered boxes -/
def refDel (l : List (Int × Bx)) (id : Int) : List (Int × Bx) := l.filter fun p => !decide (p.1 = id)
def refHas (l : List (Int × Bx)) (id : Int) : Bool := l.any fun p => decide (p.1 = id)
def ins (id : Int) (b : Bx) : List (Int × Bx) → List (Int × Bx)
  | [] => [(id, b)]
  | x :: r => if id < x.1 then (id, b) :: x :: r else x :: ins id b r
def after (id : Int) (l : List (Int × Bx)) : Bool := l.any fun p => decide (id < p.1)
def refPut (l : List (Int × Bx)) (id : Int) (b : Bx) : List (Int × Bx) := ins id b (refDel l id)
theorem ins_t {id : Int} {b : Bx} {x : Int × Bx} : ∀ {l}, after id l = true → ins id b (l ++ [x]) = ins id b l ++ [x]
  | [], h => by cases h
  | y :: l, h => by
    by_cases hy : id < y.1
    · simp [ins, hy]
    · have h' : after id l = true := by simpa [after, hy] using h
      simp [ins, hy, ins_t h']
theorem ins_f {id : Int} {b : Bx} {x : Int × Bx} (hx : id < x.1) : ∀ {l}, after id l = false → ins id b (l ++ [x]) = l ++ [(id, b), x]
  | [], h => by simp [ins, hx]
  | y :: l, h => by
    simp only [after, List.any_cons, Bool.or_eq_false_iff, decide_eq_false_iff_not] at h
    simp [ins, h.1, ins_f hx (l := l) (by simpa [after] using h.2)]
theorem after_add {id : Int} {x : Int × Bx} {l : List (Int × Bx)} : after id (l ++ [x]) = (after id l || decide (id < x.1)) := by simp [after]
theorem ins_not {id : Int} {b : Bx} : ∀ {l}, after id l = false → ins id b l = l ++ [(id, b)]
  | [], _ => rfl
  | y :: l, h => by
    simp only [after, List.any_cons, Bool.or_eq_false_iff, decide_eq_false_iff_not] at h
    simp only [ins, if_neg h.1, List.cons_append]
    rw [ins_not (by simpa [after] using h.2)]
def wantedL (l : List (Int × Bx)) (b : Bx) : List Int := (l.filter fun p => meet p.2 b).map (·.1)
theorem wantedL_succ {l : List (Int × Bx)} {b : Bx} {i : Nat} (h : i < l.length) : wantedL (l.take (i + 1)) b = wantedL (l.take i) b ++ (if meet l[i].2 b = true then [l[i].1] else []) := by
  rw [List.take_succ_eq_append_getElem h]
  unfold wantedL
  rw [List.filter_append, List.map_append]
  congr 1
  by_cases hm : meet l[i].2 b = true <;> simp [hm]
theorem sd_succ {l : List Sd} {i : Nat} (h : i < l.length) : ((l.take (i + 1)).map sdT).flatten.map A.t = ((l.take i).map sdT).flatten.map A.t ++ (sdT l[i]).map A.t := by
  rw [List.take_succ_eq_append_getElem h, List.map_append, List.flatten_append, List.map_append]; rfl
theorem refDel_succ {l : List (Int × Bx)} {id : Int} {i : Nat} (h : i < l.length) : refDel (l.take (i + 1)) id = refDel (l.take i) id ++ (if l[i].1 = id then [] else [l[i]]) := by
  rw [List.take_succ_eq_append_getElem h]
  unfold refDel
  rw [List.filter_append]
  congr 1
  by_cases hm : l[i].1 = id <;> simp [hm]
theorem refHas_succ {l : List (Int × Bx)} {id : Int} {i : Nat} (h : i < l.length) : refHas (l.take (i + 1)) id = (refHas (l.take i) id || decide (l[i].1 = id)) := by
  rw [List.take_succ_eq_append_getElem h]; unfold refHas; rw [List.any_append]; simp only [List.any_cons, List.any_nil, Bool.or_false]
theorem refDel_len {l : List (Int × Bx)} {id : Int} : (refDel l id).length ≤ l.length := List.length_filter_le _ _
/-! ### fair -/
def fairGo : List Int → List Opn → Bool
  | _, [] => true
  | S, o :: r => goodB o.b && (if 0 < o.b.ss.length ∧ S.getD o.b.tb.toNat 0 ≠ 0 ∧ S.getD o.b.tb.toNat 0 ≠ (o.b.ss.length : Int) then false else fairGo (if 0 < o.b.ss.length then S.set o.b.tb.toNat (o.b.ss.length : Int) else S) r)
def fairB (l : List Opn) (most : Int) : Bool := !decide (most < (l.length : Int)) && fairGo [0, 0, 0, 0] l
theorem goodB_facts {b : Bx} (h : goodB b = true) : b.ss.length ≤ 4 ∧ 0 ≤ b.tb ∧ b.tb ≤ 3 := by
  simp [goodB] at h; omega
abbrev fairHit (S : List Int) (b : Bx) : Prop := 0 < b.ss.length ∧ S.getD b.tb.toNat 0 ≠ 0 ∧ S.getD b.tb.toNat 0 ≠ (b.ss.length : Int)
theorem fair_set {S : List Int} {o : Opn} {r : List Opn} (hg : goodB o.b = true) (hn : ¬ fairHit S o.b) (hp : 0 < o.b.ss.length) : fairGo S (o :: r) = fairGo (S.set o.b.tb.toNat (o.b.ss.length : Int)) r := by
  rw [fairGo, hg, Bool.true_and, if_neg hn, if_pos hp]
theorem fair_same {S : List Int} {o : Opn} {r : List Opn} (hg : goodB o.b = true) (hp : ¬ 0 < o.b.ss.length) : fairGo S (o :: r) = fairGo S r := by
  rw [fairGo, hg, Bool.true_and, if_neg (fun h => hp h.1), if_neg hp]
theorem fair_stop {S : List Int} {o : Opn} {r : List Opn} (hn : fairHit S o.b) : fairGo S (o :: r) = false := by
  rw [fairGo, if_pos hn, Bool.and_false]
end Go.Proofs.Ytojkjiakkcgfcaa.W
