/- Parts of the proof, one after the other: Shelf, B1, R1, W1, W2, W3, W4. No condition. -/
import Derived.Test.YtnmfjojhgfipcaaM13
import Derived.Shelf.Small.Bits
import Derived.Shelf.Small.Wraps
import Derived.Shelf.Strconv.Itoa0
import Derived.Shelf.Sort.Plain
import Derived.Shelf.Bits.Mul64
import Derived.Shelf.Slices.Turned
import Derived.Shelf.Slices.CompactI
import Derived.Shelf.Slices.SearchI
import Derived.Shelf.Slices.Cells
import Derived.Shelf.Slices.In.SortNone
import Derived.Test.YtnmfjojhgfipcaaProg
/-
  DERIVED: THE SHELF's CONTRACTS AT THIS DUMP, IN PLAIN WORDS (tools/lay-plain.mjs out of 'TryShelf.lean', which tools/lay-shelf.mjs wrote): THE SAME DECLARATIONS UNDER THE SAME NAMES: 'import', 'namespace', 'open', 'def', 'theorem' AND NOTHING ELSE: no command of the shelf's: FOR A HAND-IN. Each laying: the table of numbers ('.._ren') and one theorem, a field a fact of the dump's own or the kernel's comparison; each contract: ONE APPLICATION.
-/
namespace Go.Proofs
open Go.Shelf
def Try.lays189_ren : Go.Shelf.Ren := ⟨fun | 189 => 74 | 125 => 91 | 257 => 90 | 128 => 106 | 129 => 107 | 294 => 97 | 295 => 98 | 296 => 99 | 297 => 100 | 298 => 101 | 299 => 102 | 216 => 103 | 300 => 104 | 301 => 105 | 328 => 109 | 329 => 110 | 330 => 111 | 331 => 112 | 332 => 113 | 215 => 114 | 343 => 116 | n => n, fun | 28 => 22 | 3 => 3 | 46 => 154 | 0 => 0 | 51 => 167 | 53 => 107 | 4 => 4 | 183 => 160 | 182 => 159 | 131 => 164 | 5 => 5 | 9 => 9 | 218 => 170 | 222 => 174 | 228 => 178 | 229 => 179 | n => n, fun | n => n⟩
theorem Try.lays189 : Go.Proofs.Lays.n189 Try.prog Try.lays189_ren := {
  mixed := by kernel_rfl
  f125 := Try.func91.trans (congrArg some (by kernel_rfl))
  f128 := Try.func106.trans (congrArg some (by kernel_rfl))
  f129 := Try.func107.trans (congrArg some (by kernel_rfl))
  f189 := Try.func74.trans (congrArg some (by kernel_rfl))
  f215 := Try.func114.trans (congrArg some (by kernel_rfl))
  f216 := Try.func103.trans (congrArg some (by kernel_rfl))
  f257 := Try.func90.trans (congrArg some (by kernel_rfl))
  f294 := Try.func97.trans (congrArg some (by kernel_rfl))
  f295 := Try.func98.trans (congrArg some (by kernel_rfl))
  f296 := Try.func99.trans (congrArg some (by kernel_rfl))
  f297 := Try.func100.trans (congrArg some (by kernel_rfl))
  f298 := Try.func101.trans (congrArg some (by kernel_rfl))
  f299 := Try.func102.trans (congrArg some (by kernel_rfl))
  f300 := Try.func104.trans (congrArg some (by kernel_rfl))
  f301 := Try.func105.trans (congrArg some (by kernel_rfl))
  f328 := Try.func109.trans (congrArg some (by kernel_rfl))
  f329 := Try.func110.trans (congrArg some (by kernel_rfl))
  f330 := Try.func111.trans (congrArg some (by kernel_rfl))
  f331 := Try.func112.trans (congrArg some (by kernel_rfl))
  f332 := Try.func113.trans (congrArg some (by kernel_rfl))
  f343 := Try.func116.trans (congrArg some (by kernel_rfl))
  t0 := Try.underlying0
  a0 := Try.isAgg0
  z0 := Try.sizeOf0
  v0 := Try.zeroValue0
  t3 := Try.underlying3
  a3 := Try.isAgg3
  z3 := Try.sizeOf3
  v3 := Try.zeroValue3
  t4 := Try.underlying4
  a4 := Try.isAgg4
  z4 := Try.sizeOf4
  v4 := Try.zeroValue4
  t5 := Try.underlying5
  a5 := Try.isAgg5
  z5 := Try.sizeOf5
  v5 := Try.zeroValue5
  t9 := Try.underlying9
  a9 := Try.isAgg9
  z9 := Try.sizeOf9
  v9 := Try.zeroValue9
  t28 := Try.underlying22
  a28 := Try.isAgg22
  z28 := Try.sizeOf22
  v28 := Try.zeroValue22
  t46 := Try.underlying154
  a46 := Try.isAgg154
  z46 := Try.sizeOf154
  v46 := Try.zeroValue154
  t51 := Try.underlying167
  a51 := Try.isAgg167
  z51 := Try.sizeOf167
  v51 := Try.zeroValue167
  t53 := Try.underlying107
  a53 := Try.isAgg107
  z53 := Try.sizeOf107
  v53 := Try.zeroValue107
  t131 := Try.underlying164
  a131 := Try.isAgg164
  z131 := Try.sizeOf164
  v131 := Try.zeroValue164
  t182 := Try.underlying159
  a182 := Try.isAgg159
  z182 := Try.sizeOf159
  v182 := Try.zeroValue159
  t183 := Try.underlying160
  a183 := Try.isAgg160
  z183 := Try.sizeOf160
  v183 := Try.zeroValue160
  t218 := Try.underlying170
  a218 := Try.isAgg170
  z218 := Try.sizeOf170
  v218 := Try.zeroValue170
  t222 := Try.underlying174
  a222 := Try.isAgg174
  z222 := Try.sizeOf174
  v222 := Try.zeroValue174
  t228 := Try.underlying178
  a228 := Try.isAgg178
  z228 := Try.sizeOf178
  v228 := Try.zeroValue178
  t229 := Try.underlying179
  a229 := Try.isAgg179
  z229 := Try.sizeOf179
  v229 := Try.zeroValue179 }
open Go.Sort Go.RowKit in
theorem Try.slices_Sort_int (blk off cap : Nat) (zs : List Int) (w : World) (hH : Holds (Value.int .i64) w blk off zs.toArray) (hblk : blk < w.heap.size) (hsz : zs.length < 4611686018427387904) :
    Calls Try.prog 74 #[.slice (some ⟨blk, off, none⟩) zs.length cap] w fun e w' =>
      e = .returned (.tuple #[]) ∧ ∃ n os, w' = grow (putRow (Value.int .i64) (Sort.ahead w n) blk off (zs.mergeSort fun x y => decide (x ≤ y)).toArray) os := Any.slices_Sort_int Try.lays189 blk off cap zs w hH hblk hsz
def Try.laysNm220_ren : Go.Shelf.Ren := ⟨fun | 20 => 75 | n => n, fun | 22 => 22 | 3 => 3 | 4 => 4 | 0 => 0 | n => n, fun | n => n⟩
theorem Try.laysNm220 : Go.Proofs.Lays2.n20 Try.prog Try.laysNm220_ren := {
  mixed := by kernel_rfl
  f20 := Try.func75.trans (congrArg some (by kernel_rfl))
  t0 := Try.underlying0
  a0 := Try.isAgg0
  z0 := Try.sizeOf0
  v0 := Try.zeroValue0
  t3 := Try.underlying3
  a3 := Try.isAgg3
  z3 := Try.sizeOf3
  v3 := Try.zeroValue3
  t4 := Try.underlying4
  a4 := Try.isAgg4
  z4 := Try.sizeOf4
  v4 := Try.zeroValue4
  t22 := Try.underlying22
  a22 := Try.isAgg22
  z22 := Try.sizeOf22
  v22 := Try.zeroValue22
  i3 := by kernel_rfl }
open Go.RowKit Go.Lib Go.Sort in
/-- slices.Compact at []int: "Compact replaces consecutive runs of equal elements with a single copy. This is like the uniq command found on Unix. Compact modifies the contents of the slice s and returns the modified slice, which may have a smaller length. Compact zeroes the elements between the new length and the original length. The result preserves the nilness of s.": IT RETURNS THE SLICE CUT TO 'Lib.compact zs'; ITS CELLS HOLD 'Lib.compact zs', THEN ZERO VALUES up to the old length; all else is as it was, but for the count of draws. IN THE WORDS OF slices.Sort's CONTRACT ('Holds', 'putRow'): so the everyday 'slices.Sort(xs); xs = slices.Compact(xs)' goes from the one contract to the other. It asks 'zs.length ≤ cap' (every slice's: the reslicing 's[:k]' looks at it). Length 0, nil: '.._empty'. (LAID: no walk: one application.) -/
theorem Try.slices_Compact_int (blk off cap : Nat) (zs : List Int) (w : World) (hH : Holds (Value.int .i64) w blk off zs.toArray) (hsz : zs.length ≤ 9223372036854775807) (hcap : zs.length ≤ cap) :
    Calls Try.prog 75 #[.slice (some ⟨blk, off, none⟩) zs.length cap] w fun e w' => e = .returned (.slice (some ⟨blk, off, none⟩) (Lib.compact zs).length cap) ∧ ∃ q, w' = putRow (Value.int .i64) (Sort.ahead w q) blk off (Lib.compact zs ++ List.replicate (zs.length - (Lib.compact zs).length) 0).toArray := Any.slices_Compact_int Try.laysNm220 blk off cap zs w hH hsz hcap
open Go.RowKit Go.Lib Go.Sort in
/-- The same at a slice of length 0, a nil one too: it comes back as it is. (LAID: no walk: one application.) -/
theorem Try.slices_Compact_int_empty (a : Option Addr) (cap : Nat) (w : World) :
    Calls Try.prog 75 #[.slice a 0 cap] w fun e w' => e = .returned (.slice a 0 cap) ∧ w' = w := Any.slices_Compact_int_empty Try.laysNm220 a cap w
open Go.RowKit Go.Sort in
/-- .. and plain. (LAID: no walk: one application.) -/
theorem Try.slices_Sort_int_none (p : Option Addr) (cap : Nat) (w : World) :
    Calls Try.prog 74 #[.slice p 0 cap] w fun e w' => e = .returned (.tuple #[]) ∧ w' = w := Any.slices_Sort_int_none Try.lays189 p cap w
end Go.Proofs
/- Clauses, variables, rows as trees. -/
namespace Go.Proofs.Ytnmfjojhgfipcaa.E
open Go.RowKit
set_option linter.unusedVariables false
section
variable {P : Program} {all : Array Oper} {o : Oper} {K : S → Prop} {rest : List Oper} {n d : Nat} {t : Nat → X} {L : Nat → Option AO} {H : Heap} {cd : Code} {Q : Exit → S → Prop} {s : S}
theorem sM {y : Operand} {z : C} (k : SeqK P all K rest ⟨n, upd t d (.c z), L, H⟩) (ho : o.op = .move y := by exact rfl) (hy : S.eval ⟨n, t, L, H⟩ y = .c z := by exact rfl) (hg : o.guard = none := by exact rfl) (hdst : o.dst = some d := by exact rfl) (hd : Nat.blt d n = true := by exact rfl) : SeqK P all K (o :: rest) ⟨n, t, L, H⟩ := SeqK.q (q_mvC ho hy) hg hdst hd k
theorem sA {y : Operand} {z : C} (k : SeqK P all K rest ⟨n, upd t d (.c z), L, H⟩) (ho : o.op = .assign y := by exact rfl) (hy : S.eval ⟨n, t, L, H⟩ y = .c z := by exact rfl) (hg : o.guard = none := by exact rfl) (hdst : o.dst = some d := by exact rfl) (hd : Nat.blt d n = true := by exact rfl) : SeqK P all K (o :: rest) ⟨n, t, L, H⟩ := SeqK.q (q_asC ho hy) hg hdst hd k
theorem sR {id : Nat} {l : List Oper} (h : SeqK P l.toArray ((Eth (AW P cd Q) Q) .normal) l s) : AW P (.seq (.region id l.toArray false) cd) Q s := AW.seq (AW.reg h)
end
end Go.Proofs.Ytnmfjojhgfipcaa.E
namespace Go.Proofs.Ytnmfjojhgfipcaa.W
open Go.RowKit E
set_option linter.unusedVariables false
abbrev iC (n : Int) : C := .a (.t (.v (.int .i64 n)))
abbrev u64C (n : Nat) : C := .a (.t (.v (.int .u64 (n : Int))))
abbrev bC (b : Bool) : C := .a (.t (.v (.bool b)))
abbrev sC (s : ByteArray) : C := .a (.t (.v (.string s)))
abbrev i64T (n : Int) : List E.T := [.v (.int .i64 n)]
abbrev iL (z : Nz) (l : List Int) : C := .a (.t (.sl z 1 (l.map i64T)))
theorem w64 {n : Int} (h : -9223372036854775808 ≤ n) (h' : n ≤ 9223372036854775807) : IntKind.i64.wrap n = n := IntWalk.i64_in n ⟨h, h'⟩
abbrev R64 (n : Int) : Prop := -9223372036854775808 ≤ n ∧ n ≤ 9223372036854775807
theorem bCe {a b : Bool} (h : a = b) : X.c (bC a) = X.c (bC b) := by rw [h]
theorem iCe {a b : Int} (h : a = b) : X.c (iC a) = X.c (iC b) := by rw [h]
theorem iXe {a b : Nat} (h : a = b) : iX .i64 (a : Int) = iX .i64 (b : Int) := by rw [h]
theorem nd_t {p : Prop} [Decidable p] (h : (!decide p) = true) : ¬ p := by simpa using h
theorem nd_f {p : Prop} [Decidable p] (h : (!decide p) = false) : p := by simpa using h
theorem idx_map {α : Type} {f : α → List E.T} {l : List α} {i : Nat} (h : i < l.length) : (l.map f)[i]? = some (f l[i]) := by rw [List.getElem?_map, List.getElem?_eq_getElem h]; rfl
structure RV where (k n : Int) (s : ByteArray)
structure Vr where (ty lo hi mx : Int) (nu : Bool)
structure Cf where (v n : Int)
structure Lf where (c : Int) (cs : List Cf)
structure Ax where (f : Lf) (b t : Int)
structure Ct where (f : Lf) (e : Bool)
structure Ts where (v k : Int) (n : Bool) (s : ByteArray)
structure Cl where
  nl : List Int
  nn : List Int
  ax : List Ax
  is : List Ct
  ts : List Ts
  sm : List (Int × Int)
  df : List (Int × Int)
abbrev rvT (v : RV) : List E.T := [.v (.int .i64 v.k), .v (.int .i64 v.n), .v (.string v.s)]
abbrev vrT (v : Vr) : List E.T := [.v (.int .i64 v.ty), .v (.int .i64 v.lo), .v (.int .i64 v.hi), .v (.int .i64 v.mx), .v (.bool v.nu)]
abbrev cfT (k : Cf) : List E.T := [.v (.int .i64 k.v), .v (.int .i64 k.n)]
abbrev lfT (f : Lf) : List E.T := [.v (.int .i64 f.c), .sl .un 2 (f.cs.map cfT)]
abbrev axT (a : Ax) : List E.T := [.v (.int .i64 a.f.c), .sl .un 2 (a.f.cs.map cfT), .v (.int .i64 a.b), .v (.int .i64 a.t)]
abbrev ctT (a : Ct) : List E.T := [.v (.int .i64 a.f.c), .sl .un 2 (a.f.cs.map cfT), .v (.bool a.e)]
abbrev tsT (t : Ts) : List E.T := [.v (.int .i64 t.v), .v (.int .i64 t.k), .v (.bool t.n), .v (.string t.s)]
abbrev prT (p : Int × Int) : List E.T := [.v (.int .i64 p.1), .v (.int .i64 p.2)]
abbrev clT (c : Cl) : List E.T := [.sl .un 1 (c.nl.map i64T), .sl .un 1 (c.nn.map i64T), .sl .un 4 (c.ax.map axT), .sl .un 3 (c.is.map ctT), .sl .un 4 (c.ts.map tsT), .sl .un 2 (c.sm.map prT), .sl .un 2 (c.df.map prT)]
abbrev rvC (v : RV) : C := .g [.t (.v (.int .i64 v.k)), .t (.v (.int .i64 v.n)), .t (.v (.string v.s))]
abbrev vrC5 (v : Vr) : C := .g [.t (.v (.int .i64 v.ty)), .t (.v (.int .i64 v.lo)), .t (.v (.int .i64 v.hi)), .t (.v (.int .i64 v.mx)), .t (.v (.bool v.nu))]
abbrev lfC (f : Lf) : C := .g [.t (.v (.int .i64 f.c)), .t (.sl .un 2 (f.cs.map cfT))]
abbrev tsC (t : Ts) : C := .g [.t (.v (.int .i64 t.v)), .t (.v (.int .i64 t.k)), .t (.v (.bool t.n)), .t (.v (.string t.s))]
abbrev clC (c : Cl) : C := .g [.t (.sl .un 1 (c.nl.map i64T)), .t (.sl .un 1 (c.nn.map i64T)), .t (.sl .un 4 (c.ax.map axT)), .t (.sl .un 3 (c.is.map ctT)), .t (.sl .un 4 (c.ts.map tsT)), .t (.sl .un 2 (c.sm.map prT)), .t (.sl .un 2 (c.df.map prT))]
abbrev vsC (z : Nz) (l : List Vr) : C := .a (.t (.sl z 5 (l.map vrT)))
abbrev rowC (z : Nz) (r : List RV) : C := .a (.t (.sl z 3 (r.map rvT)))
abbrev prsC (z : Nz) (r : List (Int × Int)) : C := .a (.t (.sl z 2 (r.map prT)))
abbrev cfsC (z : Nz) (r : List Cf) : C := .a (.t (.sl z 2 (r.map cfT)))
/-! sizes -/

structure rgC (c : Cl) : Prop where
  nl : c.nl.length ≤ 17592186044000
  nn : c.nn.length ≤ 17592186044000
  ax : c.ax.length ≤ 17592186044000
  is : c.is.length ≤ 17592186044000
  ts : c.ts.length ≤ 17592186044000
  sm : c.sm.length ≤ 17592186044000
  df : c.df.length ≤ 17592186044000
  axf : ∀ a ∈ c.ax, a.f.cs.length ≤ 17592186044000
  isf : ∀ a ∈ c.is, a.f.cs.length ≤ 17592186044000
  tss : ∀ t ∈ c.ts, t.s.size ≤ 1000000000000000
end Go.Proofs.Ytnmfjojhgfipcaa.W
/- The readers of the laws' arguments: data to trees. -/
namespace Go.Proofs.Ytnmfjojhgfipcaa.W
open Go.RowKit E
set_option linter.unusedVariables false
abbrev ok22 (l : List Int) : Prop := l.length * 8 ≤ 140737488351232 ∧ l.length ≤ maxLen ∧ ∀ x ∈ l, (fun i : Int => (Lit.int .i64 i).wf = true) x
theorem rd22 (N : Nat) : Reads Try.prog N 22 1 (fun x : List Int => ([.sl .un 1 (x.map (fun x : Int => ([.v (.int .i64 x)] : List T)))] : List T)) ok22 :=
  (Reads.slice Try.underlying22 (by kernel_rfl) (by decide) (fun M _ => (Reads.int Try.underlying3))).conv id (fun _ _ => rfl) (fun _ h => by rw [show Try.prog.bytesOf 3 = 8 from by kernel_rfl] at h; exact h)
abbrev ok106 (s : Cf) : Prop := (fun i : Int => (Lit.int .i64 i).wf = true) s.v ∧ (fun i : Int => (Lit.int .i64 i).wf = true) s.n ∧ True
theorem rd106 (N : Nat) : Reads Try.prog N 106 2 cfT ok106 :=
  (Reads.struct Try.underlying106 (ReadsF.cons rfl (by kernel_rfl) (fun M _ => (Reads.int Try.underlying3)) (ReadsF.cons rfl (by kernel_rfl) (fun M _ => (Reads.int Try.underlying2)) .nil))).conv (fun p => (⟨p.1, p.2.1⟩ : Cf)) (fun _ _ => rfl) (fun _ h => h)
abbrev ok72 (l : List Cf) : Prop := l.length * 16 ≤ 140737488351232 ∧ l.length ≤ maxLen ∧ ∀ x ∈ l, ok106 x
theorem rd72 (N : Nat) : Reads Try.prog N 72 1 (fun x : List Cf => ([.sl .un 2 (x.map cfT)] : List T)) ok72 :=
  (Reads.slice Try.underlying72 (by kernel_rfl) (by decide) (fun M _ => (rd106 M))).conv id (fun _ _ => rfl) (fun _ h => by rw [show Try.prog.bytesOf 106 = 16 from by kernel_rfl] at h; exact h)
abbrev ok74 (s : Lf) : Prop := (fun i : Int => (Lit.int .i64 i).wf = true) s.c ∧ ok72 s.cs ∧ True
theorem rd74 (N : Nat) : Reads Try.prog N 74 2 lfT ok74 :=
  (Reads.struct Try.underlying74 (ReadsF.cons rfl (by kernel_rfl) (fun M _ => (Reads.int Try.underlying2)) (ReadsF.cons rfl (by kernel_rfl) (fun M _ => (rd72 M)) .nil))).conv (fun p => (⟨p.1, p.2.1⟩ : Lf)) (fun _ _ => rfl) (fun _ h => h)
abbrev ok82 (s : Ax) : Prop := ok74 s.f ∧ (fun i : Int => (Lit.int .i64 i).wf = true) s.b ∧ (fun i : Int => (Lit.int .i64 i).wf = true) s.t ∧ True
theorem rd82 (N : Nat) : Reads Try.prog N 82 4 axT ok82 :=
  (Reads.struct Try.underlying82 (ReadsF.cons rfl (by kernel_rfl) (fun M _ => (rd74 M)) (ReadsF.cons rfl (by kernel_rfl) (fun M _ => (Reads.int Try.underlying2)) (ReadsF.cons rfl (by kernel_rfl) (fun M _ => (Reads.int Try.underlying3)) .nil)))).conv (fun p => (⟨p.1, p.2.1, p.2.2.1⟩ : Ax)) (fun _ _ => rfl) (fun _ h => h)
abbrev ok23 (l : List Ax) : Prop := l.length * 48 ≤ 140737488351232 ∧ l.length ≤ maxLen ∧ ∀ x ∈ l, ok82 x
theorem rd23 (N : Nat) : Reads Try.prog N 23 1 (fun x : List Ax => ([.sl .un 4 (x.map axT)] : List T)) ok23 :=
  (Reads.slice Try.underlying23 (by kernel_rfl) (by decide) (fun M _ => (rd82 M))).conv id (fun _ _ => rfl) (fun _ h => by rw [show Try.prog.bytesOf 82 = 48 from by kernel_rfl] at h; exact h)
abbrev ok76 (s : Ct) : Prop := ok74 s.f ∧ (fun _ : Bool => True) s.e ∧ True
theorem rd76 (N : Nat) : Reads Try.prog N 76 3 ctT ok76 :=
  (Reads.struct Try.underlying76 (ReadsF.cons rfl (by kernel_rfl) (fun M _ => (rd74 M)) (ReadsF.cons rfl (by kernel_rfl) (fun M _ => (Reads.bool Try.underlying4)) .nil))).conv (fun p => (⟨p.1, p.2.1⟩ : Ct)) (fun _ _ => rfl) (fun _ h => h)
abbrev ok24 (l : List Ct) : Prop := l.length * 40 ≤ 140737488351232 ∧ l.length ≤ maxLen ∧ ∀ x ∈ l, ok76 x
theorem rd24 (N : Nat) : Reads Try.prog N 24 1 (fun x : List Ct => ([.sl .un 3 (x.map ctT)] : List T)) ok24 :=
  (Reads.slice Try.underlying24 (by kernel_rfl) (by decide) (fun M _ => (rd76 M))).conv id (fun _ _ => rfl) (fun _ h => by rw [show Try.prog.bytesOf 76 = 40 from by kernel_rfl] at h; exact h)
abbrev ok61 (s : Ts) : Prop := (fun i : Int => (Lit.int .i64 i).wf = true) s.v ∧ (fun i : Int => (Lit.int .i64 i).wf = true) s.k ∧ (fun _ : Bool => True) s.n ∧ (fun s : ByteArray => s.size ≤ 140737488351232) s.s ∧ True
theorem rd61 (N : Nat) : Reads Try.prog N 61 4 tsT ok61 :=
  (Reads.struct Try.underlying61 (ReadsF.cons rfl (by kernel_rfl) (fun M _ => (Reads.int Try.underlying3)) (ReadsF.cons rfl (by kernel_rfl) (fun M _ => (Reads.int Try.underlying3)) (ReadsF.cons rfl (by kernel_rfl) (fun M _ => (Reads.bool Try.underlying4)) (ReadsF.cons rfl (by kernel_rfl) (fun M _ => (Reads.string Try.underlying9)) .nil))))).conv (fun p => (⟨p.1, p.2.1, p.2.2.1, p.2.2.2.1⟩ : Ts)) (fun _ _ => rfl) (fun _ h => h)
abbrev ok25 (l : List Ts) : Prop := l.length * 40 ≤ 140737488351232 ∧ l.length ≤ maxLen ∧ ∀ x ∈ l, ok61 x
theorem rd25 (N : Nat) : Reads Try.prog N 25 1 (fun x : List Ts => ([.sl .un 4 (x.map tsT)] : List T)) ok25 :=
  (Reads.slice Try.underlying25 (by kernel_rfl) (by decide) (fun M _ => (rd61 M))).conv id (fun _ _ => rfl) (fun _ h => by rw [show Try.prog.bytesOf 61 = 40 from by kernel_rfl] at h; exact h)
abbrev ok80 (p : Int × Int) : Prop := (Lit.int .i64 p.1).wf = true ∧ (Lit.int .i64 p.2).wf = true
theorem rd80 (N : Nat) : Reads Try.prog N 80 2 prT ok80 := (Reads.array Try.underlying80 (by kernel_rfl) (fun M _ => (Reads.int Try.underlying3))).conv (fun l => (l.getD 0 0, l.getD 1 0))
  (fun l h => by match l, h with | [a, b], _ => rfl)
  (fun l h => by match l, h with | [a, b], h => exact ⟨h.2 a (by simp), h.2 b (by simp)⟩)
abbrev ok26 (l : List ((Int × Int))) : Prop := l.length * 16 ≤ 140737488351232 ∧ l.length ≤ maxLen ∧ ∀ x ∈ l, ok80 x
theorem rd26 (N : Nat) : Reads Try.prog N 26 1 (fun x : List ((Int × Int)) => ([.sl .un 2 (x.map prT)] : List T)) ok26 :=
  (Reads.slice Try.underlying26 (by kernel_rfl) (by decide) (fun M _ => (rd80 M))).conv id (fun _ _ => rfl) (fun _ h => by rw [show Try.prog.bytesOf 80 = 16 from by kernel_rfl] at h; exact h)
abbrev ok28 (s : Cl) : Prop := ok22 s.nl ∧ ok22 s.nn ∧ ok23 s.ax ∧ ok24 s.is ∧ ok25 s.ts ∧ ok26 s.sm ∧ ok26 s.df ∧ True
theorem rd28 (N : Nat) : Reads Try.prog N 28 7 clT ok28 :=
  (Reads.struct Try.underlying28 (ReadsF.cons rfl (by kernel_rfl) (fun M _ => (rd22 M)) (ReadsF.cons rfl (by kernel_rfl) (fun M _ => (rd22 M)) (ReadsF.cons rfl (by kernel_rfl) (fun M _ => (rd23 M)) (ReadsF.cons rfl (by kernel_rfl) (fun M _ => (rd24 M)) (ReadsF.cons rfl (by kernel_rfl) (fun M _ => (rd25 M)) (ReadsF.cons rfl (by kernel_rfl) (fun M _ => (rd26 M)) (ReadsF.cons rfl (by kernel_rfl) (fun M _ => (rd26 M)) .nil)))))))).conv (fun p => (⟨p.1, p.2.1, p.2.2.1, p.2.2.2.1, p.2.2.2.2.1, p.2.2.2.2.2.1, p.2.2.2.2.2.2.1⟩ : Cl)) (fun _ _ => rfl) (fun _ h => h)
abbrev ok53 (s : Vr) : Prop := (fun i : Int => (Lit.int .i64 i).wf = true) s.ty ∧ (fun i : Int => (Lit.int .i64 i).wf = true) s.lo ∧ (fun i : Int => (Lit.int .i64 i).wf = true) s.hi ∧ (fun i : Int => (Lit.int .i64 i).wf = true) s.mx ∧ (fun _ : Bool => True) s.nu ∧ True
theorem rd53 (N : Nat) : Reads Try.prog N 53 5 vrT ok53 :=
  (Reads.struct Try.underlying53 (ReadsF.cons rfl (by kernel_rfl) (fun M _ => (Reads.int Try.underlying3)) (ReadsF.cons rfl (by kernel_rfl) (fun M _ => (Reads.int Try.underlying2)) (ReadsF.cons rfl (by kernel_rfl) (fun M _ => (Reads.int Try.underlying2)) (ReadsF.cons rfl (by kernel_rfl) (fun M _ => (Reads.int Try.underlying3)) (ReadsF.cons rfl (by kernel_rfl) (fun M _ => (Reads.bool Try.underlying4)) .nil)))))).conv (fun p => (⟨p.1, p.2.1, p.2.2.1, p.2.2.2.1, p.2.2.2.2.1⟩ : Vr)) (fun _ _ => rfl) (fun _ h => h)
abbrev ok29 (l : List Vr) : Prop := l.length * 40 ≤ 140737488351232 ∧ l.length ≤ maxLen ∧ ∀ x ∈ l, ok53 x
theorem rd29 (N : Nat) : Reads Try.prog N 29 1 (fun x : List Vr => ([.sl .un 5 (x.map vrT)] : List T)) ok29 :=
  (Reads.slice Try.underlying29 (by kernel_rfl) (by decide) (fun M _ => (rd53 M))).conv id (fun _ _ => rfl) (fun _ h => by rw [show Try.prog.bytesOf 53 = 40 from by kernel_rfl] at h; exact h)
abbrev ok42 (s : RV) : Prop := (fun i : Int => (Lit.int .i64 i).wf = true) s.k ∧ (fun i : Int => (Lit.int .i64 i).wf = true) s.n ∧ (fun s : ByteArray => s.size ≤ 140737488351232) s.s ∧ True
theorem rd42 (N : Nat) : Reads Try.prog N 42 3 rvT ok42 :=
  (Reads.struct Try.underlying42 (ReadsF.cons rfl (by kernel_rfl) (fun M _ => (Reads.int Try.underlying3)) (ReadsF.cons rfl (by kernel_rfl) (fun M _ => (Reads.int Try.underlying2)) (ReadsF.cons rfl (by kernel_rfl) (fun M _ => (Reads.string Try.underlying9)) .nil)))).conv (fun p => (⟨p.1, p.2.1, p.2.2.1⟩ : RV)) (fun _ _ => rfl) (fun _ h => h)
abbrev ok31 (l : List RV) : Prop := l.length * 32 ≤ 140737488351232 ∧ l.length ≤ maxLen ∧ ∀ x ∈ l, ok42 x
theorem rd31 (N : Nat) : Reads Try.prog N 31 1 (fun x : List RV => ([.sl .un 3 (x.map rvT)] : List T)) ok31 :=
  (Reads.slice Try.underlying31 (by kernel_rfl) (by decide) (fun M _ => (rd42 M))).conv id (fun _ _ => rfl) (fun _ h => by rw [show Try.prog.bytesOf 42 = 32 from by kernel_rfl] at h; exact h)
end Go.Proofs.Ytnmfjojhgfipcaa.W
namespace Go.Proofs.Ytnmfjojhgfipcaa.W
open Go.RowKit E
set_option linter.unusedVariables false
set_option linter.unusedSimpArgs false
set_option linter.unusedSectionVars false
abbrev domP (x : Vr) : Prop := (x.ty = 1 ∧ -2147483648 ≤ x.lo ∧ x.hi ≤ 2147483647) ∨ (x.ty = 2 ∧ x.mx ≤ 16)
abbrev domB (l : List Vr) : Bool := decide (∀ j (h : j < l.length), domP l[j]) && decide (l.length ≤ 10)
theorem andT {a b : Bool} (h : a = true) : b = (a && b) := by rw [h]; rfl
theorem andF {a b : Bool} (h : a = false) : false = (a && b) := by rw [h]; rfl
abbrev prnP (s : ByteArray) : Prop := ∀ j (h : j < s.data.toList.length), 32 ≤ s.data.toList[j].toNat ∧ s.data.toList[j].toNat ≤ 126
set_option maxRecDepth 20000 in
theorem dom_any (l : List Vr) (z : Nz) (hL : l.length ≤ 17592186044000) : Pure Try.prog 22 [vsC z l] (.c (bC (domB l))) := by
 intro H
 refine Spec.enter Try.func22 rfl ?_
 refine AW.wk (Wk.keep 51 [(0, .c (vsC z l))] [] (H) rfl ⟨rfl, trivial⟩ trivial (fun _ _ h => h) rfl) ?_
 refine sR ?_
 refine sA ?_
 refine SeqK.nil ?_
 refine AW.seq ?_
 refine sR ?_
 refine sA ?_
 refine SeqK.nil ?_
 refine AW.block ?_
 refine AW.loop (fun (i : Nat) s => (i ≤ l.length ∧ ∀ j (h : j < l.length), j < i → domP l[j]) ∧ s = ⟨51, sp [(0, .c (vsC z l)), (2, .c (bC false)), (3, iX .i64 ((i : Nat) : Int))], lv [], H⟩) (fun i => l.length - i) 0 ⟨_, Wk.keep 51 [(0, .c (vsC z l)), (2, .c (bC false)), (3, iX .i64 ((((0 : Nat)) : Nat) : Int))] [] (H) rfl ⟨rfl, rfl, rfl, trivial⟩ trivial (fun _ _ h => h) rfl, ⟨Nat.zero_le _, up0⟩, rfl⟩ (fun i s hs => ?_)
 obtain ⟨⟨hi0, hU⟩, rfl⟩ := hs
 refine AW.seq ?_
 refine sR ?_
 refine sM ?_
 refine sM ?_
 refine SeqK.q (q_len rfl Fx.un29 rfl) rfl rfl rfl ?_
 refine SeqK.q (q_lss rfl rfl rfl) rfl rfl rfl ?_
 refine SeqK.nil ?_
 refine AW.condD rfl (fun h8 => ?_) (fun h8 => ?_)
 ·
  have hi : i < l.length := by rw [List.length_map] at h8; omega
  refine AW.skip ?_
  refine AW.seq ?_
  refine AW.block ?_
  refine sR ?_
  refine sM ?_
  refine sM ?_
  refine SeqK.q (q_index _ rfl Fx.sl29 rfl rfl (by omega) (idx_map (f := vrT) hi)) rfl rfl rfl ?_
  refine SeqK.q (q_load (.g [_, _, _, _, _]) rfl Fx.ty53 rfl rfl rfl) rfl rfl rfl ?_
  refine SeqK.r (b_alloc (r := [_, _, _, _, _]) rfl rfl Fx.ze53 rfl rfl rfl rfl) rfl ?_
  refine SeqK.r (b_store (r := [_, _, _, _, _]) rfl rfl Fx.ty53 rfl rfl rfl rfl rfl rfl) rfl ?_
  refine SeqK.nil ?_
  refine sR ?_
  refine SeqK.q (q_fieldL _ rfl Fx.fl53_0 rfl rfl) rfl rfl rfl ?_
  refine SeqK.r (b_load (r := .a _) rfl Fx.ty3 rfl rfl rfl rfl rfl rfl) rfl ?_
  refine SeqK.q (q_eql rfl rfl rfl) rfl rfl rfl ?_
  refine SeqK.qD (q_mvC rfl rfl) rfl rfl rfl (fun g18 => ?_) (fun g18 => ?_)
  ·
   refine SeqK.on (q_fieldL _ rfl Fx.fl53_1 rfl rfl) rfl rfl rfl rfl rfl ?_
   refine SeqK.rOn (b_load (r := .a _) rfl Fx.ty2 rfl rfl rfl rfl rfl rfl) rfl rfl rfl ?_
   refine SeqK.on (q_lss rfl rfl rfl) rfl rfl rfl rfl rfl ?_
   refine SeqK.onD (q_mvC rfl rfl) rfl rfl rfl rfl rfl (fun g22 => ?_) (fun g22 => ?_)
   ·
    refine SeqK.off rfl rfl rfl rfl rfl rfl ?_
    refine SeqK.off rfl rfl rfl rfl rfl rfl ?_
    refine SeqK.off rfl rfl rfl rfl rfl rfl ?_
    refine SeqK.on (q_pkT rfl rfl rfl) rfl rfl rfl rfl rfl ?_
    refine SeqK.q (q_pkT rfl rfl rfl) rfl rfl rfl ?_
    refine sM ?_
    refine SeqK.off rfl rfl rfl rfl rfl rfl ?_
    refine SeqK.off rfl rfl rfl rfl rfl rfl ?_
    refine SeqK.off rfl rfl rfl rfl rfl rfl ?_
    refine SeqK.off rfl rfl rfl rfl rfl rfl ?_
    refine SeqK.offU rfl rfl rfl rfl rfl ?_
    refine SeqK.offU rfl rfl rfl rfl rfl ?_
    refine SeqK.offU rfl rfl rfl rfl rfl ?_
    refine SeqK.off rfl rfl rfl rfl rfl rfl ?_
    refine SeqK.q (q_pkT rfl rfl rfl) rfl rfl rfl ?_
    refine sM ?_
    refine SeqK.off rfl rfl rfl rfl rfl rfl ?_
    refine SeqK.off rfl rfl rfl rfl rfl rfl ?_
    refine SeqK.off rfl rfl rfl rfl rfl rfl ?_
    refine SeqK.off rfl rfl rfl rfl rfl rfl ?_
    refine SeqK.offU rfl rfl rfl rfl rfl ?_
    refine SeqK.offU rfl rfl rfl rfl rfl ?_
    refine SeqK.offU rfl rfl rfl rfl rfl ?_
    refine SeqK.off rfl rfl rfl rfl rfl rfl ?_
    refine SeqK.q (q_pkT rfl rfl rfl) rfl rfl rfl ?_
    refine SeqK.nil ?_
    refine AW.condT rfl ?_
    refine sR ?_
    refine sA ?_
    refine SeqK.nil ?_
    refine AW.ret ?_
    exact fin_x (x := .c _) (H) (.tmp rfl .nil) rfl (fun _ _ h => h) (⟨bCe (andF (decide_eq_false (upN hi (by rw [domP]; omega)))), rfl⟩)
   ·
    refine SeqK.on (q_fieldL _ rfl Fx.fl53_2 rfl rfl) rfl rfl rfl rfl rfl ?_
    refine SeqK.rOn (b_load (r := .a _) rfl Fx.ty2 rfl rfl rfl rfl rfl rfl) rfl rfl rfl ?_
    refine SeqK.on (q_gtr rfl rfl rfl) rfl rfl rfl rfl rfl ?_
    refine SeqK.on (q_pkF rfl rfl rfl) rfl rfl rfl rfl rfl ?_
    refine SeqK.q (q_pkT rfl rfl rfl) rfl rfl rfl ?_
    refine SeqK.qD (q_mvC rfl rfl) rfl rfl rfl (fun g28 => ?_) (fun g28 => ?_)
    ·
     refine SeqK.off rfl rfl rfl rfl rfl rfl ?_
     refine SeqK.off rfl rfl rfl rfl rfl rfl ?_
     refine SeqK.off rfl rfl rfl rfl rfl rfl ?_
     refine SeqK.off rfl rfl rfl rfl rfl rfl ?_
     refine SeqK.offU rfl rfl rfl rfl rfl ?_
     refine SeqK.offU rfl rfl rfl rfl rfl ?_
     refine SeqK.offU rfl rfl rfl rfl rfl ?_
     refine SeqK.off rfl rfl rfl rfl rfl rfl ?_
     refine SeqK.q (q_pkT rfl rfl rfl) rfl rfl rfl ?_
     refine sM ?_
     refine SeqK.off rfl rfl rfl rfl rfl rfl ?_
     refine SeqK.off rfl rfl rfl rfl rfl rfl ?_
     refine SeqK.off rfl rfl rfl rfl rfl rfl ?_
     refine SeqK.off rfl rfl rfl rfl rfl rfl ?_
     refine SeqK.offU rfl rfl rfl rfl rfl ?_
     refine SeqK.offU rfl rfl rfl rfl rfl ?_
     refine SeqK.offU rfl rfl rfl rfl rfl ?_
     refine SeqK.off rfl rfl rfl rfl rfl rfl ?_
     refine SeqK.q (q_pkT rfl rfl rfl) rfl rfl rfl ?_
     refine SeqK.nil ?_
     refine AW.condT rfl ?_
     refine sR ?_
     refine sA ?_
     refine SeqK.nil ?_
     refine AW.ret ?_
     exact fin_x (x := .c _) (H) (.tmp rfl .nil) rfl (fun _ _ h => h) (⟨bCe (andF (decide_eq_false (upN hi (by rw [domP]; omega)))), rfl⟩)
    ·
     refine SeqK.on (q_fieldL _ rfl Fx.fl53_0 rfl rfl) rfl rfl rfl rfl rfl ?_
     refine SeqK.rOn (b_load (r := .a _) rfl Fx.ty3 rfl rfl rfl rfl rfl rfl) rfl rfl rfl ?_
     refine SeqK.on (q_eql rfl rfl rfl) rfl rfl rfl rfl rfl ?_
     refine SeqK.onD (q_mvC rfl rfl) rfl rfl rfl rfl rfl (fun g32 => ?_) (fun g32 => ?_)
     ·
      refine SeqK.on (q_fieldL _ rfl Fx.fl53_3 rfl rfl) rfl rfl rfl rfl rfl ?_
      refine SeqK.rOn (b_load (r := .a _) rfl Fx.ty3 rfl rfl rfl rfl rfl rfl) rfl rfl rfl ?_
      refine SeqK.on (q_gtr rfl rfl rfl) rfl rfl rfl rfl rfl ?_
      refine SeqK.on (q_pkT rfl rfl rfl) rfl rfl rfl rfl rfl ?_
      refine SeqK.q (q_pkF rfl rfl rfl) rfl rfl rfl ?_
      refine SeqK.qD (q_mvC rfl rfl) rfl rfl rfl (fun g38 => ?_) (fun g38 => ?_)
      ·
       refine SeqK.off rfl rfl rfl rfl rfl rfl ?_
       refine SeqK.off rfl rfl rfl rfl rfl rfl ?_
       refine SeqK.off rfl rfl rfl rfl rfl rfl ?_
       refine SeqK.off rfl rfl rfl rfl rfl rfl ?_
       refine SeqK.offU rfl rfl rfl rfl rfl ?_
       refine SeqK.offU rfl rfl rfl rfl rfl ?_
       refine SeqK.offU rfl rfl rfl rfl rfl ?_
       refine SeqK.off rfl rfl rfl rfl rfl rfl ?_
       refine SeqK.q (q_pkT rfl rfl rfl) rfl rfl rfl ?_
       refine SeqK.nil ?_
       refine AW.condT rfl ?_
       refine sR ?_
       refine sA ?_
       refine SeqK.nil ?_
       refine AW.ret ?_
       exact fin_x (x := .c _) (H) (.tmp rfl .nil) rfl (fun _ _ h => h) (⟨bCe (andF (decide_eq_false (upN hi (by rw [domP]; omega)))), rfl⟩)
      ·
       refine SeqK.on (q_fieldL _ rfl Fx.fl53_0 rfl rfl) rfl rfl rfl rfl rfl ?_
       refine SeqK.rOn (b_load (r := .a _) rfl Fx.ty3 rfl rfl rfl rfl rfl rfl) rfl rfl rfl ?_
       refine SeqK.on (q_neq rfl rfl rfl) rfl rfl rfl rfl rfl ?_
       refine SeqK.onD (q_mvC rfl rfl) rfl rfl rfl rfl rfl (fun g42 => ?_) (fun g42 => ?_)
       ·
        refine SeqK.on (q_fieldL _ rfl Fx.fl53_0 rfl rfl) rfl rfl rfl rfl rfl ?_
        refine SeqK.rOn (b_load (r := .a _) rfl Fx.ty3 rfl rfl rfl rfl rfl rfl) rfl rfl rfl ?_
        refine SeqK.on (q_neq rfl rfl rfl) rfl rfl rfl rfl rfl ?_
        refine SeqK.on (q_pkT rfl rfl rfl) rfl rfl rfl rfl rfl ?_
        refine SeqK.q (q_pkF rfl rfl rfl) rfl rfl rfl ?_
        refine SeqK.nil ?_
        refine AW.condD rfl (fun h47 => ?_) (fun h47 => ?_)
        ·
         refine sR ?_
         refine sA ?_
         refine SeqK.nil ?_
         refine AW.ret ?_
         exact fin_x (x := .c _) (H) (.tmp rfl .nil) rfl (fun _ _ h => h) (⟨bCe (andF (decide_eq_false (upN hi (by rw [domP]; omega)))), rfl⟩)
        ·
         refine AW.skip ?_
         refine AW.reg ?_
         refine sM ?_
         refine SeqK.q (q_add _ rfl rfl rfl (w64 (by omega) (by omega))) rfl rfl rfl ?_
         refine sA ?_
         refine SeqK.nil ?_
         exact ⟨i + 1, _, Wk.keep 51 [(0, .c (vsC z l)), (2, .c (bC false)), (3, iX .i64 (((i + 1) : Nat) : Int))] [] (H) rfl ⟨rfl, rfl, rfl, trivial⟩ trivial (fun _ _ h => h) rfl, by omega, ⟨hi, upS hi hU (by rw [domP]; omega)⟩, rfl⟩
       ·
        refine SeqK.off rfl rfl rfl rfl rfl rfl ?_
        refine SeqK.off rfl rfl rfl rfl rfl rfl ?_
        refine SeqK.off rfl rfl rfl rfl rfl rfl ?_
        refine SeqK.on (q_pkF rfl rfl rfl) rfl rfl rfl rfl rfl ?_
        refine SeqK.q (q_pkF rfl rfl rfl) rfl rfl rfl ?_
        refine SeqK.nil ?_
        refine AW.condF rfl ?_
        refine AW.skip ?_
        refine AW.reg ?_
        refine sM ?_
        refine SeqK.q (q_add _ rfl rfl rfl (w64 (by omega) (by omega))) rfl rfl rfl ?_
        refine sA ?_
        refine SeqK.nil ?_
        exact ⟨i + 1, _, Wk.keep 51 [(0, .c (vsC z l)), (2, .c (bC false)), (3, iX .i64 (((i + 1) : Nat) : Int))] [] (H) rfl ⟨rfl, rfl, rfl, trivial⟩ trivial (fun _ _ h => h) rfl, by omega, ⟨hi, upS hi hU (by rw [domP]; omega)⟩, rfl⟩
     ·
      refine SeqK.off rfl rfl rfl rfl rfl rfl ?_
      refine SeqK.off rfl rfl rfl rfl rfl rfl ?_
      refine SeqK.off rfl rfl rfl rfl rfl rfl ?_
      refine SeqK.on (q_pkF rfl rfl rfl) rfl rfl rfl rfl rfl ?_
      refine SeqK.q (q_pkF rfl rfl rfl) rfl rfl rfl ?_
      refine sM ?_
      refine SeqK.on (q_fieldL _ rfl Fx.fl53_0 rfl rfl) rfl rfl rfl rfl rfl ?_
      refine SeqK.rOn (b_load (r := .a _) rfl Fx.ty3 rfl rfl rfl rfl rfl rfl) rfl rfl rfl ?_
      refine SeqK.on (q_neq rfl rfl rfl) rfl rfl rfl rfl rfl ?_
      refine SeqK.onD (q_mvC rfl rfl) rfl rfl rfl rfl rfl (fun g42 => ?_) (fun g42 => ?_)
      ·
       refine SeqK.on (q_fieldL _ rfl Fx.fl53_0 rfl rfl) rfl rfl rfl rfl rfl ?_
       refine SeqK.rOn (b_load (r := .a _) rfl Fx.ty3 rfl rfl rfl rfl rfl rfl) rfl rfl rfl ?_
       refine SeqK.on (q_neq rfl rfl rfl) rfl rfl rfl rfl rfl ?_
       refine SeqK.on (q_pkT rfl rfl rfl) rfl rfl rfl rfl rfl ?_
       refine SeqK.q (q_pkF rfl rfl rfl) rfl rfl rfl ?_
       refine SeqK.nil ?_
       refine AW.condD rfl (fun h47 => ?_) (fun h47 => ?_)
       ·
        refine sR ?_
        refine sA ?_
        refine SeqK.nil ?_
        refine AW.ret ?_
        exact fin_x (x := .c _) (H) (.tmp rfl .nil) rfl (fun _ _ h => h) (⟨bCe (andF (decide_eq_false (upN hi (by rw [domP]; omega)))), rfl⟩)
       ·
        refine AW.skip ?_
        refine AW.reg ?_
        refine sM ?_
        refine SeqK.q (q_add _ rfl rfl rfl (w64 (by omega) (by omega))) rfl rfl rfl ?_
        refine sA ?_
        refine SeqK.nil ?_
        exact ⟨i + 1, _, Wk.keep 51 [(0, .c (vsC z l)), (2, .c (bC false)), (3, iX .i64 (((i + 1) : Nat) : Int))] [] (H) rfl ⟨rfl, rfl, rfl, trivial⟩ trivial (fun _ _ h => h) rfl, by omega, ⟨hi, upS hi hU (by rw [domP]; omega)⟩, rfl⟩
      ·
       refine SeqK.off rfl rfl rfl rfl rfl rfl ?_
       refine SeqK.off rfl rfl rfl rfl rfl rfl ?_
       refine SeqK.off rfl rfl rfl rfl rfl rfl ?_
       refine SeqK.on (q_pkF rfl rfl rfl) rfl rfl rfl rfl rfl ?_
       refine SeqK.q (q_pkF rfl rfl rfl) rfl rfl rfl ?_
       refine SeqK.nil ?_
       refine AW.condF rfl ?_
       refine AW.skip ?_
       refine AW.reg ?_
       refine sM ?_
       refine SeqK.q (q_add _ rfl rfl rfl (w64 (by omega) (by omega))) rfl rfl rfl ?_
       refine sA ?_
       refine SeqK.nil ?_
       exact ⟨i + 1, _, Wk.keep 51 [(0, .c (vsC z l)), (2, .c (bC false)), (3, iX .i64 (((i + 1) : Nat) : Int))] [] (H) rfl ⟨rfl, rfl, rfl, trivial⟩ trivial (fun _ _ h => h) rfl, by omega, ⟨hi, upS hi hU (by rw [domP]; omega)⟩, rfl⟩
  ·
   refine SeqK.off rfl rfl rfl rfl rfl rfl ?_
   refine SeqK.off rfl rfl rfl rfl rfl rfl ?_
   refine SeqK.off rfl rfl rfl rfl rfl rfl ?_
   refine SeqK.off rfl rfl rfl rfl rfl rfl ?_
   refine SeqK.offU rfl rfl rfl rfl rfl ?_
   refine SeqK.offU rfl rfl rfl rfl rfl ?_
   refine SeqK.offU rfl rfl rfl rfl rfl ?_
   refine SeqK.off rfl rfl rfl rfl rfl rfl ?_
   refine SeqK.q (q_pkF rfl rfl rfl) rfl rfl rfl ?_
   refine sM ?_
   refine SeqK.on (q_fieldL _ rfl Fx.fl53_0 rfl rfl) rfl rfl rfl rfl rfl ?_
   refine SeqK.rOn (b_load (r := .a _) rfl Fx.ty3 rfl rfl rfl rfl rfl rfl) rfl rfl rfl ?_
   refine SeqK.on (q_eql rfl rfl rfl) rfl rfl rfl rfl rfl ?_
   refine SeqK.onD (q_mvC rfl rfl) rfl rfl rfl rfl rfl (fun g32 => ?_) (fun g32 => ?_)
   ·
    refine SeqK.on (q_fieldL _ rfl Fx.fl53_3 rfl rfl) rfl rfl rfl rfl rfl ?_
    refine SeqK.rOn (b_load (r := .a _) rfl Fx.ty3 rfl rfl rfl rfl rfl rfl) rfl rfl rfl ?_
    refine SeqK.on (q_gtr rfl rfl rfl) rfl rfl rfl rfl rfl ?_
    refine SeqK.on (q_pkT rfl rfl rfl) rfl rfl rfl rfl rfl ?_
    refine SeqK.q (q_pkF rfl rfl rfl) rfl rfl rfl ?_
    refine SeqK.qD (q_mvC rfl rfl) rfl rfl rfl (fun g38 => ?_) (fun g38 => ?_)
    ·
     refine SeqK.off rfl rfl rfl rfl rfl rfl ?_
     refine SeqK.off rfl rfl rfl rfl rfl rfl ?_
     refine SeqK.off rfl rfl rfl rfl rfl rfl ?_
     refine SeqK.off rfl rfl rfl rfl rfl rfl ?_
     refine SeqK.offU rfl rfl rfl rfl rfl ?_
     refine SeqK.offU rfl rfl rfl rfl rfl ?_
     refine SeqK.offU rfl rfl rfl rfl rfl ?_
     refine SeqK.off rfl rfl rfl rfl rfl rfl ?_
     refine SeqK.q (q_pkT rfl rfl rfl) rfl rfl rfl ?_
     refine SeqK.nil ?_
     refine AW.condT rfl ?_
     refine sR ?_
     refine sA ?_
     refine SeqK.nil ?_
     refine AW.ret ?_
     exact fin_x (x := .c _) (H) (.tmp rfl .nil) rfl (fun _ _ h => h) (⟨bCe (andF (decide_eq_false (upN hi (by rw [domP]; omega)))), rfl⟩)
    ·
     refine SeqK.on (q_fieldL _ rfl Fx.fl53_0 rfl rfl) rfl rfl rfl rfl rfl ?_
     refine SeqK.rOn (b_load (r := .a _) rfl Fx.ty3 rfl rfl rfl rfl rfl rfl) rfl rfl rfl ?_
     refine SeqK.on (q_neq rfl rfl rfl) rfl rfl rfl rfl rfl ?_
     refine SeqK.onD (q_mvC rfl rfl) rfl rfl rfl rfl rfl (fun g42 => ?_) (fun g42 => ?_)
     ·
      refine SeqK.on (q_fieldL _ rfl Fx.fl53_0 rfl rfl) rfl rfl rfl rfl rfl ?_
      refine SeqK.rOn (b_load (r := .a _) rfl Fx.ty3 rfl rfl rfl rfl rfl rfl) rfl rfl rfl ?_
      refine SeqK.on (q_neq rfl rfl rfl) rfl rfl rfl rfl rfl ?_
      refine SeqK.on (q_pkT rfl rfl rfl) rfl rfl rfl rfl rfl ?_
      refine SeqK.q (q_pkF rfl rfl rfl) rfl rfl rfl ?_
      refine SeqK.nil ?_
      refine AW.condD rfl (fun h47 => ?_) (fun h47 => ?_)
      ·
       refine sR ?_
       refine sA ?_
       refine SeqK.nil ?_
       refine AW.ret ?_
       exact fin_x (x := .c _) (H) (.tmp rfl .nil) rfl (fun _ _ h => h) (⟨bCe (andF (decide_eq_false (upN hi (by rw [domP]; omega)))), rfl⟩)
      ·
       refine AW.skip ?_
       refine AW.reg ?_
       refine sM ?_
       refine SeqK.q (q_add _ rfl rfl rfl (w64 (by omega) (by omega))) rfl rfl rfl ?_
       refine sA ?_
       refine SeqK.nil ?_
       exact ⟨i + 1, _, Wk.keep 51 [(0, .c (vsC z l)), (2, .c (bC false)), (3, iX .i64 (((i + 1) : Nat) : Int))] [] (H) rfl ⟨rfl, rfl, rfl, trivial⟩ trivial (fun _ _ h => h) rfl, by omega, ⟨hi, upS hi hU (by rw [domP]; omega)⟩, rfl⟩
     ·
      refine SeqK.off rfl rfl rfl rfl rfl rfl ?_
      refine SeqK.off rfl rfl rfl rfl rfl rfl ?_
      refine SeqK.off rfl rfl rfl rfl rfl rfl ?_
      refine SeqK.on (q_pkF rfl rfl rfl) rfl rfl rfl rfl rfl ?_
      refine SeqK.q (q_pkF rfl rfl rfl) rfl rfl rfl ?_
      refine SeqK.nil ?_
      refine AW.condF rfl ?_
      refine AW.skip ?_
      refine AW.reg ?_
      refine sM ?_
      refine SeqK.q (q_add _ rfl rfl rfl (w64 (by omega) (by omega))) rfl rfl rfl ?_
      refine sA ?_
      refine SeqK.nil ?_
      exact ⟨i + 1, _, Wk.keep 51 [(0, .c (vsC z l)), (2, .c (bC false)), (3, iX .i64 (((i + 1) : Nat) : Int))] [] (H) rfl ⟨rfl, rfl, rfl, trivial⟩ trivial (fun _ _ h => h) rfl, by omega, ⟨hi, upS hi hU (by rw [domP]; omega)⟩, rfl⟩
   ·
    refine SeqK.off rfl rfl rfl rfl rfl rfl ?_
    refine SeqK.off rfl rfl rfl rfl rfl rfl ?_
    refine SeqK.off rfl rfl rfl rfl rfl rfl ?_
    refine SeqK.on (q_pkF rfl rfl rfl) rfl rfl rfl rfl rfl ?_
    refine SeqK.q (q_pkF rfl rfl rfl) rfl rfl rfl ?_
    refine sM ?_
    refine SeqK.on (q_fieldL _ rfl Fx.fl53_0 rfl rfl) rfl rfl rfl rfl rfl ?_
    refine SeqK.rOn (b_load (r := .a _) rfl Fx.ty3 rfl rfl rfl rfl rfl rfl) rfl rfl rfl ?_
    refine SeqK.on (q_neq rfl rfl rfl) rfl rfl rfl rfl rfl ?_
    refine SeqK.onD (q_mvC rfl rfl) rfl rfl rfl rfl rfl (fun g42 => ?_) (fun g42 => ?_)
    ·
     refine SeqK.on (q_fieldL _ rfl Fx.fl53_0 rfl rfl) rfl rfl rfl rfl rfl ?_
     refine SeqK.rOn (b_load (r := .a _) rfl Fx.ty3 rfl rfl rfl rfl rfl rfl) rfl rfl rfl ?_
     refine SeqK.on (q_neq rfl rfl rfl) rfl rfl rfl rfl rfl ?_
     refine SeqK.on (q_pkT rfl rfl rfl) rfl rfl rfl rfl rfl ?_
     refine SeqK.q (q_pkF rfl rfl rfl) rfl rfl rfl ?_
     refine SeqK.nil ?_
     refine AW.condD rfl (fun h47 => ?_) (fun h47 => ?_)
     ·
      refine sR ?_
      refine sA ?_
      refine SeqK.nil ?_
      refine AW.ret ?_
      exact fin_x (x := .c _) (H) (.tmp rfl .nil) rfl (fun _ _ h => h) (⟨bCe (andF (decide_eq_false (upN hi (by rw [domP]; omega)))), rfl⟩)
     ·
      refine AW.skip ?_
      refine AW.reg ?_
      refine sM ?_
      refine SeqK.q (q_add _ rfl rfl rfl (w64 (by omega) (by omega))) rfl rfl rfl ?_
      refine sA ?_
      refine SeqK.nil ?_
      exact ⟨i + 1, _, Wk.keep 51 [(0, .c (vsC z l)), (2, .c (bC false)), (3, iX .i64 (((i + 1) : Nat) : Int))] [] (H) rfl ⟨rfl, rfl, rfl, trivial⟩ trivial (fun _ _ h => h) rfl, by omega, ⟨hi, upS hi hU (by rw [domP]; omega)⟩, rfl⟩
    ·
     refine SeqK.off rfl rfl rfl rfl rfl rfl ?_
     refine SeqK.off rfl rfl rfl rfl rfl rfl ?_
     refine SeqK.off rfl rfl rfl rfl rfl rfl ?_
     refine SeqK.on (q_pkF rfl rfl rfl) rfl rfl rfl rfl rfl ?_
     refine SeqK.q (q_pkF rfl rfl rfl) rfl rfl rfl ?_
     refine SeqK.nil ?_
     refine AW.condF rfl ?_
     refine AW.skip ?_
     refine AW.reg ?_
     refine sM ?_
     refine SeqK.q (q_add _ rfl rfl rfl (w64 (by omega) (by omega))) rfl rfl rfl ?_
     refine sA ?_
     refine SeqK.nil ?_
     exact ⟨i + 1, _, Wk.keep 51 [(0, .c (vsC z l)), (2, .c (bC false)), (3, iX .i64 (((i + 1) : Nat) : Int))] [] (H) rfl ⟨rfl, rfl, rfl, trivial⟩ trivial (fun _ _ h => h) rfl, by omega, ⟨hi, upS hi hU (by rw [domP]; omega)⟩, rfl⟩
 ·
  refine AW.exit ?_
  refine eth_e ?_
  refine eth_e ?_
  refine exit_here ?_
  refine sR ?_
  refine sM ?_
  refine SeqK.q (q_len rfl Fx.un29 rfl) rfl rfl rfl ?_
  refine SeqK.q (q_leq rfl rfl rfl) rfl rfl rfl ?_
  refine sA ?_
  refine SeqK.nil ?_
  refine AW.ret ?_
  exact fin_x (x := .c _) (H) (.tmp rfl .nil) rfl (fun _ _ h => h) (⟨bCe (by rw [domB, ← andT (decide_eq_true (upE hU (by rw [List.length_map] at h8; omega))), List.length_map]; exact dI (by omega)), rfl⟩)

set_option maxRecDepth 20000 in
theorem has_any (l : List Int) (z : Nz) (n : Int) (hL : l.length ≤ 17592186044000) : Pure Try.prog 81 [iL z l, iC n] (.c (bC (decide (n ∈ l)))) := by
 intro H
 refine Spec.enter Try.func81 rfl ?_
 refine AW.wk (Wk.keep 18 [(0, .c (iL z l)), (1, .c (iC n))] [] (H) rfl ⟨rfl, rfl, trivial⟩ trivial (fun _ _ h => h) rfl) ?_
 refine sR ?_
 refine sA ?_
 refine SeqK.nil ?_
 refine AW.seq ?_
 refine sR ?_
 refine sA ?_
 refine SeqK.nil ?_
 refine AW.block ?_
 refine AW.loop (fun (i : Nat) s => (i ≤ l.length ∧ ∀ j (h : j < l.length), j < i → ¬ l[j] = n) ∧ s = ⟨18, sp [(0, .c (iL z l)), (1, .c (iC n)), (4, .c (bC false)), (5, iX .i64 ((i : Nat) : Int))], lv [], H⟩) (fun i => l.length - i) 0 ⟨_, Wk.keep 18 [(0, .c (iL z l)), (1, .c (iC n)), (4, .c (bC false)), (5, iX .i64 ((((0 : Nat)) : Nat) : Int))] [] (H) rfl ⟨rfl, rfl, rfl, rfl, trivial⟩ trivial (fun _ _ h => h) rfl, ⟨Nat.zero_le _, up0⟩, rfl⟩ (fun i s hs => ?_)
 obtain ⟨⟨hi0, hU⟩, rfl⟩ := hs
 refine AW.seq ?_
 refine sR ?_
 refine sM ?_
 refine sM ?_
 refine SeqK.q (q_len rfl Fx.un22 rfl) rfl rfl rfl ?_
 refine SeqK.q (q_lss rfl rfl rfl) rfl rfl rfl ?_
 refine SeqK.nil ?_
 refine AW.condD rfl (fun h9 => ?_) (fun h9 => ?_)
 ·
  have hi : i < l.length := by rw [List.length_map] at h9; omega
  refine AW.skip ?_
  refine AW.seq ?_
  refine AW.block ?_
  refine sR ?_
  refine sM ?_
  refine sM ?_
  refine SeqK.q (q_index _ rfl Fx.sl22 rfl rfl (by omega) (idx_map (f := i64T) hi)) rfl rfl rfl ?_
  refine SeqK.q (q_load (.a _) rfl Fx.ty3 rfl rfl rfl) rfl rfl rfl ?_
  refine sM ?_
  refine SeqK.q (q_eql rfl rfl rfl) rfl rfl rfl ?_
  refine SeqK.nil ?_
  refine AW.condD rfl (fun h17 => ?_) (fun h17 => ?_)
  ·
   refine sR ?_
   refine sA ?_
   refine SeqK.nil ?_
   refine AW.ret ?_
   exact fin_x (x := .c _) (H) (.tmp rfl .nil) rfl (fun _ _ h => h) (⟨bCe (dT (by rw [← h17]; exact List.getElem_mem hi)), rfl⟩)
  ·
   refine AW.skip ?_
   refine AW.reg ?_
   refine sM ?_
   refine SeqK.q (q_add _ rfl rfl rfl (w64 (by omega) (by omega))) rfl rfl rfl ?_
   refine sA ?_
   refine SeqK.nil ?_
   exact ⟨i + 1, _, Wk.keep 18 [(0, .c (iL z l)), (1, .c (iC n)), (4, .c (bC false)), (5, iX .i64 (((i + 1) : Nat) : Int))] [] (H) rfl ⟨rfl, rfl, rfl, rfl, trivial⟩ trivial (fun _ _ h => h) rfl, by omega, ⟨hi, upS hi hU h17⟩, rfl⟩
 ·
  refine AW.exit ?_
  refine eth_e ?_
  refine eth_e ?_
  refine exit_here ?_
  refine sR ?_
  refine sA ?_
  refine SeqK.nil ?_
  refine AW.ret ?_
  exact fin_x (x := .c _) (H) (.tmp rfl .nil) rfl (fun _ _ h => h) (⟨bCe (dF fun hm => by obtain ⟨j, hj, e⟩ := List.getElem_of_mem hm; exact upE hU (by rw [List.length_map] at h9; omega) j hj e), rfl⟩)

set_option maxRecDepth 20000 in
theorem within_any (n a b : Int) : Pure Try.prog 51 [iC n, iC a, iC b] (.c (bC (decide (a ≤ n ∧ n ≤ b)))) := by
 intro H
 refine Spec.enter Try.func51 rfl ?_
 refine AW.wk (Wk.keep 15 [(0, .c (iC n)), (1, .c (iC a)), (2, .c (iC b))] [] (H) rfl ⟨rfl, rfl, rfl, trivial⟩ trivial (fun _ _ h => h) rfl) ?_
 refine sR ?_
 refine sA ?_
 refine SeqK.nil ?_
 refine sR ?_
 refine sM ?_
 refine sM ?_
 refine SeqK.q (q_geq rfl rfl rfl) rfl rfl rfl ?_
 refine SeqK.qD (q_mvC rfl rfl) rfl rfl rfl (fun g10 => ?_) (fun g10 => ?_)
 ·
  refine SeqK.on (q_mvC rfl rfl) rfl rfl rfl rfl rfl ?_
  refine SeqK.on (q_mvC rfl rfl) rfl rfl rfl rfl rfl ?_
  refine SeqK.on (q_leq rfl rfl rfl) rfl rfl rfl rfl rfl ?_
  refine SeqK.q (q_pkT rfl rfl rfl) rfl rfl rfl ?_
  refine sA ?_
  refine SeqK.nil ?_
  refine AW.ret ?_
  exact fin_x (x := .c _) (H) (.tmp rfl .nil) rfl (fun _ _ h => h) (⟨bCe (dI (by omega)), rfl⟩)
 ·
  refine SeqK.off rfl rfl rfl rfl rfl rfl ?_
  refine SeqK.off rfl rfl rfl rfl rfl rfl ?_
  refine SeqK.off rfl rfl rfl rfl rfl rfl ?_
  refine SeqK.q (q_pkF rfl rfl rfl) rfl rfl rfl ?_
  refine sA ?_
  refine SeqK.nil ?_
  refine AW.ret ?_
  exact fin_x (x := .c _) (H) (.tmp rfl .nil) rfl (fun _ _ h => h) (⟨bCe (dF (by omega)), rfl⟩)

set_option maxRecDepth 20000 in
theorem rabs_any (n : Int) (h : -9223372036854775808 < n ∧ n ≤ 9223372036854775807) : Pure Try.prog 82 [iC n] (.c (iC (n.natAbs : Int))) := by
 intro H
 refine Spec.enter Try.func82 rfl ?_
 refine AW.wk (Wk.keep 8 [(0, .c (iC n))] [] (H) rfl ⟨rfl, trivial⟩ trivial (fun _ _ h => h) rfl) ?_
 refine sR ?_
 refine sA ?_
 refine SeqK.nil ?_
 refine AW.seq ?_
 refine sR ?_
 refine sM ?_
 refine SeqK.q (q_lss rfl rfl rfl) rfl rfl rfl ?_
 refine SeqK.nil ?_
 refine AW.condD rfl (fun h4 => ?_) (fun h4 => ?_)
 ·
  refine sR ?_
  refine sM ?_
  refine SeqK.q (q_neg _ rfl rfl ((by rw [w64 (by omega) (by omega)]; omega : IntKind.i64.wrap _ = (n.natAbs : Int)))) rfl rfl rfl ?_
  refine sA ?_
  refine SeqK.nil ?_
  refine AW.ret ?_
  exact fin_x (x := .c _) (H) (.tmp rfl .nil) rfl (fun _ _ h => h) (⟨rfl, rfl⟩)
 ·
  refine AW.skip ?_
  refine sR ?_
  refine sM ?_
  refine sA ?_
  refine SeqK.nil ?_
  refine AW.ret ?_
  exact fin_x (x := .c _) (H) (.tmp rfl .nil) rfl (fun _ _ h => h) (⟨iCe (by omega), rfl⟩)

abbrev ascQ (l : List Int) (n : Int) (j : Nat) (h : j < l.length) : Prop := 0 ≤ l[j] ∧ l[j] < n ∧ ∀ (h0 : 0 < j), l[j - 1] < l[j]
abbrev ascP (l : List Int) (n : Int) : Prop := ∀ j (h : j < l.length), ascQ l n j h

set_option maxRecDepth 20000 in
theorem asc_any (l : List Int) (z : Nz) (n : Int) (hL : l.length ≤ 17592186044000) : Pure Try.prog 48 [iL z l, iC n] (.c (bC (decide (ascP l n)))) := by
 intro H
 refine Spec.enter Try.func48 rfl ?_
 refine AW.wk (Wk.keep 41 [(0, .c (iL z l)), (1, .c (iC n))] [] (H) rfl ⟨rfl, rfl, trivial⟩ trivial (fun _ _ h => h) rfl) ?_
 refine sR ?_
 refine sA ?_
 refine SeqK.nil ?_
 refine AW.seq ?_
 refine sR ?_
 refine sA ?_
 refine SeqK.nil ?_
 refine AW.block ?_
 refine AW.loop (fun (i : Nat) s => (i ≤ l.length ∧ ∀ j (h : j < l.length), j < i → ascQ l n j h) ∧ s = ⟨41, sp [(0, .c (iL z l)), (1, .c (iC n)), (4, .c (bC false)), (5, iX .i64 ((i : Nat) : Int))], lv [], H⟩) (fun i => l.length - i) 0 ⟨_, Wk.keep 41 [(0, .c (iL z l)), (1, .c (iC n)), (4, .c (bC false)), (5, iX .i64 ((((0 : Nat)) : Nat) : Int))] [] (H) rfl ⟨rfl, rfl, rfl, rfl, trivial⟩ trivial (fun _ _ h => h) rfl, ⟨Nat.zero_le _, up0⟩, rfl⟩ (fun i s hs => ?_)
 obtain ⟨⟨hi0, hU⟩, rfl⟩ := hs
 refine AW.seq ?_
 refine sR ?_
 refine sM ?_
 refine sM ?_
 refine SeqK.q (q_len rfl Fx.un22 rfl) rfl rfl rfl ?_
 refine SeqK.q (q_lss rfl rfl rfl) rfl rfl rfl ?_
 refine SeqK.nil ?_
 refine AW.condD rfl (fun h9 => ?_) (fun h9 => ?_)
 ·
  have hi : i < l.length := by rw [List.length_map] at h9; omega
  refine AW.skip ?_
  refine AW.seq ?_
  refine AW.block ?_
  refine AW.seq ?_
  refine AW.draw Fx.mo ?_
  refine LexK.q (q_mvC rfl rfl) rfl rfl rfl ?_
  refine LexK.q (q_mvC rfl rfl) rfl rfl rfl ?_
  refine LexK.q (q_index _ rfl Fx.sl22 rfl rfl (by omega) (idx_map (f := i64T) hi)) rfl rfl rfl ?_
  refine LexK.q (q_load (.a _) rfl Fx.ty3 rfl rfl rfl) rfl rfl rfl ?_
  refine LexK.q (q_lss rfl rfl rfl) rfl rfl rfl ?_
  refine LexK.qD (q_mvC rfl rfl) rfl rfl rfl (fun g17 => ?_) (fun g17 => ?_)
  ·
   refine LexK.off rfl rfl rfl rfl rfl rfl ?_
   refine LexK.off rfl rfl rfl rfl rfl rfl ?_
   refine LexK.off rfl rfl rfl rfl rfl rfl ?_
   refine LexK.off rfl rfl rfl rfl rfl rfl ?_
   refine LexK.off rfl rfl rfl rfl rfl rfl ?_
   refine LexK.off rfl rfl rfl rfl rfl rfl ?_
   refine LexK.q (q_pkT rfl rfl rfl) rfl rfl rfl ?_
   refine LexK.q (q_mvC rfl rfl) rfl rfl rfl ?_
   refine LexK.off rfl rfl rfl rfl rfl rfl ?_
   refine LexK.off rfl rfl rfl rfl rfl rfl ?_
   refine LexK.off rfl rfl rfl rfl rfl rfl ?_
   refine LexK.offU rfl rfl rfl rfl rfl ?_
   refine LexK.offU rfl rfl rfl rfl rfl ?_
   refine LexK.offU rfl rfl rfl rfl rfl ?_
   refine LexK.offU rfl rfl rfl rfl rfl ?_
   refine LexK.offU rfl rfl rfl rfl rfl ?_
   refine LexK.offU rfl rfl rfl rfl rfl ?_
   refine LexK.offU rfl rfl rfl rfl rfl ?_
   refine LexK.offU rfl rfl rfl rfl rfl ?_
   refine LexK.offU rfl rfl rfl rfl rfl ?_
   refine LexK.offU rfl rfl rfl rfl rfl ?_
   refine LexK.off rfl rfl rfl rfl rfl rfl ?_
   refine LexK.q (q_pkT rfl rfl rfl) rfl rfl rfl ?_
   refine LexK.nil (by kernel_rfl) ?_
   refine AW.condT rfl ?_
   refine sR ?_
   refine sA ?_
   refine SeqK.nil ?_
   refine AW.ret ?_
   exact fin_x (x := .c _) (H) (.tmp rfl .nil) rfl (fun _ _ h => h) (⟨bCe (dF (upN hi fun ⟨k1, k2, k3⟩ => by first | omega | (have := k3 (by omega); omega))), rfl⟩)
  ·
   refine LexK.on (q_mvC rfl rfl) rfl rfl rfl rfl rfl ?_
   refine LexK.on (q_mvC rfl rfl) rfl rfl rfl rfl rfl ?_
   refine LexK.on (q_index _ rfl Fx.sl22 rfl rfl (by omega) (idx_map (f := i64T) hi)) rfl rfl rfl rfl rfl ?_
   refine LexK.on (q_load (.a _) rfl Fx.ty3 rfl rfl rfl) rfl rfl rfl rfl rfl ?_
   refine LexK.on (q_mvC rfl rfl) rfl rfl rfl rfl rfl ?_
   refine LexK.on (q_geq rfl rfl rfl) rfl rfl rfl rfl rfl ?_
   refine LexK.q (q_pkF rfl rfl rfl) rfl rfl rfl ?_
   refine LexK.qD (q_mvC rfl rfl) rfl rfl rfl (fun g25 => ?_) (fun g25 => ?_)
   ·
    refine LexK.off rfl rfl rfl rfl rfl rfl ?_
    refine LexK.off rfl rfl rfl rfl rfl rfl ?_
    refine LexK.off rfl rfl rfl rfl rfl rfl ?_
    refine LexK.offU rfl rfl rfl rfl rfl ?_
    refine LexK.offU rfl rfl rfl rfl rfl ?_
    refine LexK.offU rfl rfl rfl rfl rfl ?_
    refine LexK.offU rfl rfl rfl rfl rfl ?_
    refine LexK.offU rfl rfl rfl rfl rfl ?_
    refine LexK.offU rfl rfl rfl rfl rfl ?_
    refine LexK.offU rfl rfl rfl rfl rfl ?_
    refine LexK.offU rfl rfl rfl rfl rfl ?_
    refine LexK.offU rfl rfl rfl rfl rfl ?_
    refine LexK.offU rfl rfl rfl rfl rfl ?_
    refine LexK.off rfl rfl rfl rfl rfl rfl ?_
    refine LexK.q (q_pkT rfl rfl rfl) rfl rfl rfl ?_
    refine LexK.nil (by kernel_rfl) ?_
    refine AW.condT rfl ?_
    refine sR ?_
    refine sA ?_
    refine SeqK.nil ?_
    refine AW.ret ?_
    exact fin_x (x := .c _) (H) (.tmp rfl .nil) rfl (fun _ _ h => h) (⟨bCe (dF (upN hi fun ⟨k1, k2, k3⟩ => by first | omega | (have := k3 (by omega); omega))), rfl⟩)
   ·
    refine LexK.on (q_mvC rfl rfl) rfl rfl rfl rfl rfl ?_
    refine LexK.on (q_gtr rfl rfl rfl) rfl rfl rfl rfl rfl ?_
    refine LexK.onD (q_mvC rfl rfl) rfl rfl rfl rfl rfl (fun g28 => ?_) (fun g28 => ?_)
    ·
     refine LexK.on (q_mvC rfl rfl) rfl rfl rfl rfl rfl ?_
     refine LexK.on (q_mvC rfl rfl) rfl rfl rfl rfl rfl ?_
     refine LexK.on (q_sub _ rfl rfl rfl ((by rw [w64 (by omega) (by omega)]; omega : IntKind.i64.wrap _ = ((i - 1 : Nat) : Int)))) rfl rfl rfl rfl rfl ?_
     refine LexK.on (q_index _ rfl Fx.sl22 rfl rfl (by omega) (idx_map (f := i64T) (show i - 1 < l.length by omega))) rfl rfl rfl rfl rfl ?_
     refine LexK.on (q_load (.a _) rfl Fx.ty3 rfl rfl rfl) rfl rfl rfl rfl rfl ?_
     refine LexK.on (q_mvC rfl rfl) rfl rfl rfl rfl rfl ?_
     refine LexK.on (q_mvC rfl rfl) rfl rfl rfl rfl rfl ?_
     refine LexK.on (q_index _ rfl Fx.sl22 rfl rfl (by omega) (idx_map (f := i64T) hi)) rfl rfl rfl rfl rfl ?_
     refine LexK.on (q_load (.a _) rfl Fx.ty3 rfl rfl rfl) rfl rfl rfl rfl rfl ?_
     refine LexK.on (q_geq rfl rfl rfl) rfl rfl rfl rfl rfl ?_
     refine LexK.on (q_pkT rfl rfl rfl) rfl rfl rfl rfl rfl ?_
     refine LexK.q (q_pkF rfl rfl rfl) rfl rfl rfl ?_
     refine LexK.nil (by kernel_rfl) ?_
     refine AW.condD rfl (fun h40 => ?_) (fun h40 => ?_)
     ·
      refine sR ?_
      refine sA ?_
      refine SeqK.nil ?_
      refine AW.ret ?_
      exact fin_x (x := .c _) (H) (.tmp rfl .nil) rfl (fun _ _ h => h) (⟨bCe (dF (upN hi fun ⟨k1, k2, k3⟩ => by first | omega | (have := k3 (by omega); omega))), rfl⟩)
     ·
      refine AW.skip ?_
      refine AW.reg ?_
      refine sM ?_
      refine SeqK.q (q_add _ rfl rfl rfl (w64 (by omega) (by omega))) rfl rfl rfl ?_
      refine sA ?_
      refine SeqK.nil ?_
      exact ⟨i + 1, _, Wk.keep 41 [(0, .c (iL z l)), (1, .c (iC n)), (4, .c (bC false)), (5, iX .i64 (((i + 1) : Nat) : Int))] [] (H) rfl ⟨rfl, rfl, rfl, rfl, trivial⟩ trivial (fun _ _ h => h) rfl, by omega, ⟨hi, upS hi hU ⟨by omega, by omega, fun h0 => by omega⟩⟩, rfl⟩
    ·
     refine LexK.off rfl rfl rfl rfl rfl rfl ?_
     refine LexK.off rfl rfl rfl rfl rfl rfl ?_
     refine LexK.off rfl rfl rfl rfl rfl rfl ?_
     refine LexK.off rfl rfl rfl rfl rfl rfl ?_
     refine LexK.off rfl rfl rfl rfl rfl rfl ?_
     refine LexK.off rfl rfl rfl rfl rfl rfl ?_
     refine LexK.off rfl rfl rfl rfl rfl rfl ?_
     refine LexK.off rfl rfl rfl rfl rfl rfl ?_
     refine LexK.off rfl rfl rfl rfl rfl rfl ?_
     refine LexK.off rfl rfl rfl rfl rfl rfl ?_
     refine LexK.on (q_pkF rfl rfl rfl) rfl rfl rfl rfl rfl ?_
     refine LexK.q (q_pkF rfl rfl rfl) rfl rfl rfl ?_
     refine LexK.nil (by kernel_rfl) ?_
     refine AW.condF rfl ?_
     refine AW.skip ?_
     refine AW.reg ?_
     refine sM ?_
     refine SeqK.q (q_add _ rfl rfl rfl (w64 (by omega) (by omega))) rfl rfl rfl ?_
     refine sA ?_
     refine SeqK.nil ?_
     exact ⟨i + 1, _, Wk.keep 41 [(0, .c (iL z l)), (1, .c (iC n)), (4, .c (bC false)), (5, iX .i64 (((i + 1) : Nat) : Int))] [] (H) rfl ⟨rfl, rfl, rfl, rfl, trivial⟩ trivial (fun _ _ h => h) rfl, by omega, ⟨hi, upS hi hU ⟨by omega, by omega, fun h0 => by omega⟩⟩, rfl⟩
 ·
  refine AW.exit ?_
  refine eth_e ?_
  refine eth_e ?_
  refine exit_here ?_
  refine sR ?_
  refine sA ?_
  refine SeqK.nil ?_
  refine AW.ret ?_
  exact fin_x (x := .c _) (H) (.tmp rfl .nil) rfl (fun _ _ h => h) (⟨bCe (dT (upE hU (by rw [List.length_map] at h9; omega))), rfl⟩)

end Go.Proofs.Ytnmfjojhgfipcaa.W
namespace Go.Proofs.Ytnmfjojhgfipcaa.W
open Go.RowKit E
set_option linter.unusedVariables false
set_option linter.unusedSimpArgs false
set_option linter.unusedSectionVars false
abbrev v0 : Vr := ⟨0, 0, 0, 0, false⟩
abbrev vty (l : List Vr) (v : Int) : Int := (l.getD v.toNat v0).ty
theorem vty_at {l : List Vr} {v : Int} (h : v.toNat < l.length) : vty l v = l[v.toNat].ty := by
  unfold vty; rw [List.getD_eq_getElem?_getD, List.getElem?_eq_getElem h]; rfl
abbrev txtP (v : Int) (nn : List Int) (l : List Vr) : Prop := (0 ≤ v ∧ v < l.length) ∧ vty l v = 2 ∧ v ∈ nn
abbrev tstP (t : Ts) : Prop := prnP t.s ∧ (0 ≤ t.k ∧ t.k ≤ 3) ∧ t.s.size ≤ 16
theorem ba_len (s : ByteArray) : s.data.toList.length = s.size := by rw [Array.length_toList]; rfl
theorem idx_ba {s : ByteArray} {i : Nat} (h : i < s.data.toList.length) : s.data.toList[((i : Nat) : Int).toNat]? = some s.data.toList[i] := by
  rw [Int.toNat_natCast]; exact List.getElem?_eq_getElem h

set_option maxRecDepth 20000 in
theorem text_any (v : Int) (c : Cl) (l : List Vr) (z : Nz) (hn : c.nn.length ≤ 17592186044000) : Pure Try.prog 49 [iC v, clC c, vsC z l] (.c (bC (decide (txtP v c.nn l)))) := by
 intro H
 refine Spec.enter Try.func49 rfl ?_
 refine AW.wk (Wk.keep 29 [(0, .c (iC v)), (1, .c (clC c)), (2, .c (vsC z l))] [] (H) rfl ⟨rfl, rfl, rfl, trivial⟩ trivial (fun _ _ h => h) rfl) ?_
 refine sR ?_
 refine SeqK.r (b_box (r := [_, _, _, _, _, _, _]) rfl rfl rfl rfl rfl rfl) rfl ?_
 refine sA ?_
 refine SeqK.nil ?_
 refine sR ?_
 refine sM ?_
 refine SeqK.q (q_geq rfl rfl rfl) rfl rfl rfl ?_
 refine SeqK.qD (q_mvC rfl rfl) rfl rfl rfl (fun g9 => ?_) (fun g9 => ?_)
 ·
  refine SeqK.on (q_mvC rfl rfl) rfl rfl rfl rfl rfl ?_
  refine SeqK.on (q_mvC rfl rfl) rfl rfl rfl rfl rfl ?_
  refine SeqK.on (q_len rfl Fx.un29 rfl) rfl rfl rfl rfl rfl ?_
  refine SeqK.on (q_lss rfl rfl rfl) rfl rfl rfl rfl rfl ?_
  refine SeqK.q (q_pkT rfl rfl rfl) rfl rfl rfl ?_
  refine SeqK.qD (q_mvC rfl rfl) rfl rfl rfl (fun g15 => ?_) (fun g15 => ?_)
  ·
   have hv : v.toNat < l.length := by rw [List.length_map] at *; omega
   have hty := vty_at hv
   refine SeqK.on (q_mvC rfl rfl) rfl rfl rfl rfl rfl ?_
   refine SeqK.on (q_mvC rfl rfl) rfl rfl rfl rfl rfl ?_
   refine SeqK.on (q_index _ rfl Fx.sl29 rfl rfl (by omega) (idx_map (f := vrT) hv)) rfl rfl rfl rfl rfl ?_
   refine SeqK.on (q_fieldP _ rfl Fx.fl53_0 rfl rfl) rfl rfl rfl rfl rfl ?_
   refine SeqK.on (q_load (.a _) rfl Fx.ty3 rfl rfl rfl) rfl rfl rfl rfl rfl ?_
   refine SeqK.on (q_eql rfl rfl rfl) rfl rfl rfl rfl rfl ?_
   refine SeqK.q (q_pkT rfl rfl rfl) rfl rfl rfl ?_
   refine SeqK.qD (q_mvC rfl rfl) rfl rfl rfl (fun g23 => ?_) (fun g23 => ?_)
   ·
    refine SeqK.on (q_fieldL _ rfl Fx.fl28_1 rfl rfl) rfl rfl rfl rfl rfl ?_
    refine SeqK.rOn (b_load (r := .a _) rfl Fx.ty22 rfl rfl rfl rfl rfl rfl) rfl rfl rfl ?_
    refine SeqK.on (q_mvC rfl rfl) rfl rfl rfl rfl rfl ?_
    refine SeqK.on (q_call _ rfl Fx.fn81 rfl (has_any _ _ _ hn) rfl) rfl rfl rfl rfl rfl ?_
    refine SeqK.q (q_pkT rfl rfl rfl) rfl rfl rfl ?_
    refine sA ?_
    refine SeqK.nil ?_
    refine AW.ret ?_
    exact fin_x (x := .c _) (H) (.tmp rfl .nil) rfl (fun _ _ h => h) (⟨bCe (by first | exact dF (by rintro ⟨⟨a, b⟩, c, d⟩; first | omega | (rw [List.length_map] at *; omega) | (rw [hty] at c; omega)) | exact dI ⟨fun h => ⟨⟨by omega, by rw [List.length_map] at *; omega⟩, by rw [hty]; assumption, h⟩, fun h => h.2.2⟩), rfl⟩)
   ·
    refine SeqK.off rfl rfl rfl rfl rfl rfl ?_
    refine SeqK.off rfl rfl rfl rfl rfl rfl ?_
    refine SeqK.off rfl rfl rfl rfl rfl rfl ?_
    refine SeqK.off rfl rfl rfl rfl rfl rfl ?_
    refine SeqK.q (q_pkF rfl rfl rfl) rfl rfl rfl ?_
    refine sA ?_
    refine SeqK.nil ?_
    refine AW.ret ?_
    exact fin_x (x := .c _) (H) (.tmp rfl .nil) rfl (fun _ _ h => h) (⟨bCe (by first | exact dF (by rintro ⟨⟨a, b⟩, c, d⟩; first | omega | (rw [List.length_map] at *; omega) | (rw [hty] at c; omega)) | exact dI ⟨fun h => ⟨⟨by omega, by rw [List.length_map] at *; omega⟩, by rw [hty]; assumption, h⟩, fun h => h.2.2⟩), rfl⟩)
  ·
   refine SeqK.off rfl rfl rfl rfl rfl rfl ?_
   refine SeqK.off rfl rfl rfl rfl rfl rfl ?_
   refine SeqK.off rfl rfl rfl rfl rfl rfl ?_
   refine SeqK.off rfl rfl rfl rfl rfl rfl ?_
   refine SeqK.off rfl rfl rfl rfl rfl rfl ?_
   refine SeqK.off rfl rfl rfl rfl rfl rfl ?_
   refine SeqK.q (q_pkF rfl rfl rfl) rfl rfl rfl ?_
   refine sM ?_
   refine SeqK.off rfl rfl rfl rfl rfl rfl ?_
   refine SeqK.off rfl rfl rfl rfl rfl rfl ?_
   refine SeqK.off rfl rfl rfl rfl rfl rfl ?_
   refine SeqK.off rfl rfl rfl rfl rfl rfl ?_
   refine SeqK.q (q_pkF rfl rfl rfl) rfl rfl rfl ?_
   refine sA ?_
   refine SeqK.nil ?_
   refine AW.ret ?_
   exact fin_x (x := .c _) (H) (.tmp rfl .nil) rfl (fun _ _ h => h) (⟨bCe (by first | exact dF (by rintro ⟨⟨a, b⟩, c, d⟩; first | omega | (rw [List.length_map] at *; omega) | (rw [hty] at c; omega)) | exact dI ⟨fun h => ⟨⟨by omega, by rw [List.length_map] at *; omega⟩, by rw [hty]; assumption, h⟩, fun h => h.2.2⟩), rfl⟩)
 ·
  refine SeqK.off rfl rfl rfl rfl rfl rfl ?_
  refine SeqK.off rfl rfl rfl rfl rfl rfl ?_
  refine SeqK.off rfl rfl rfl rfl rfl rfl ?_
  refine SeqK.off rfl rfl rfl rfl rfl rfl ?_
  refine SeqK.q (q_pkF rfl rfl rfl) rfl rfl rfl ?_
  refine sM ?_
  refine SeqK.off rfl rfl rfl rfl rfl rfl ?_
  refine SeqK.off rfl rfl rfl rfl rfl rfl ?_
  refine SeqK.off rfl rfl rfl rfl rfl rfl ?_
  refine SeqK.off rfl rfl rfl rfl rfl rfl ?_
  refine SeqK.off rfl rfl rfl rfl rfl rfl ?_
  refine SeqK.off rfl rfl rfl rfl rfl rfl ?_
  refine SeqK.q (q_pkF rfl rfl rfl) rfl rfl rfl ?_
  refine sM ?_
  refine SeqK.off rfl rfl rfl rfl rfl rfl ?_
  refine SeqK.off rfl rfl rfl rfl rfl rfl ?_
  refine SeqK.off rfl rfl rfl rfl rfl rfl ?_
  refine SeqK.off rfl rfl rfl rfl rfl rfl ?_
  refine SeqK.q (q_pkF rfl rfl rfl) rfl rfl rfl ?_
  refine sA ?_
  refine SeqK.nil ?_
  refine AW.ret ?_
  exact fin_x (x := .c _) (H) (.tmp rfl .nil) rfl (fun _ _ h => h) (⟨bCe (by first | exact dF (by rintro ⟨⟨a, b⟩, c, d⟩; first | omega | (rw [List.length_map] at *; omega) | (rw [hty] at c; omega)) | exact dI ⟨fun h => ⟨⟨by omega, by rw [List.length_map] at *; omega⟩, by rw [hty]; assumption, h⟩, fun h => h.2.2⟩), rfl⟩)

abbrev prQ (p : List (Int × Int)) (nn : List Int) (l : List Vr) (j : Nat) (h : j < p.length) : Prop := txtP p[j].1 nn l ∧ txtP p[j].2 nn l ∧ p[j].1 < p[j].2
abbrev prP (p : List (Int × Int)) (nn : List Int) (l : List Vr) : Prop := ∀ j (h : j < p.length), prQ p nn l j h

set_option maxRecDepth 20000 in
theorem pairs_any (p : List (Int × Int)) (zp : Nz) (c : Cl) (l : List Vr) (z : Nz) (hn : c.nn.length ≤ 17592186044000) (hp : p.length ≤ 17592186044000) : Pure Try.prog 53 [prsC zp p, clC c, vsC z l] (.c (bC (decide (prP p c.nn l)))) := by
 intro H
 refine Spec.enter Try.func53 rfl ?_
 refine AW.wk (Wk.keep 47 [(0, .c (prsC zp p)), (1, .c (clC c)), (2, .c (vsC z l))] [] (H) rfl ⟨rfl, rfl, rfl, trivial⟩ trivial (fun _ _ h => h) rfl) ?_
 refine sR ?_
 refine SeqK.r (b_box (r := [_, _, _, _, _, _, _]) rfl rfl rfl rfl rfl rfl) rfl ?_
 refine sA ?_
 refine SeqK.nil ?_
 refine AW.seq ?_
 refine sR ?_
 refine sA ?_
 refine SeqK.nil ?_
 refine AW.block ?_
 refine AW.loop (fun (i : Nat) s => (i ≤ p.length ∧ ∀ j (h : j < p.length), j < i → prQ p c.nn l j h) ∧ s = ⟨47, sp [(0, .c (prsC zp p)), (2, .c (vsC z l)), (4, .lp 4 0), (6, .c (bC false)), (7, iX .i64 ((i : Nat) : Int))], lv [(4, .box [.t (.sl .un 1 (c.nl.map i64T)), .t (.sl .un 1 (c.nn.map i64T)), .t (.sl .un 4 (c.ax.map axT)), .t (.sl .un 3 (c.is.map ctT)), .t (.sl .un 4 (c.ts.map tsT)), .t (.sl .un 2 (c.sm.map prT)), .t (.sl .un 2 (c.df.map prT))])], H⟩) (fun i => p.length - i) 0 ⟨_, Wk.keep 47 [(0, .c (prsC zp p)), (2, .c (vsC z l)), (4, .lp 4 0), (6, .c (bC false)), (7, iX .i64 ((((0 : Nat)) : Nat) : Int))] [(4, .box [.t (.sl .un 1 (c.nl.map i64T)), .t (.sl .un 1 (c.nn.map i64T)), .t (.sl .un 4 (c.ax.map axT)), .t (.sl .un 3 (c.is.map ctT)), .t (.sl .un 4 (c.ts.map tsT)), .t (.sl .un 2 (c.sm.map prT)), .t (.sl .un 2 (c.df.map prT))])] (H) rfl ⟨rfl, rfl, rfl, rfl, rfl, trivial⟩ ⟨rfl, trivial⟩ (fun _ _ h => h) rfl, ⟨Nat.zero_le _, up0⟩, rfl⟩ (fun i s hs => ?_)
 obtain ⟨⟨hi0, hU⟩, rfl⟩ := hs
 refine AW.seq ?_
 refine sR ?_
 refine sM ?_
 refine sM ?_
 refine SeqK.q (q_len rfl Fx.un26 rfl) rfl rfl rfl ?_
 refine SeqK.q (q_lss rfl rfl rfl) rfl rfl rfl ?_
 refine SeqK.nil ?_
 refine AW.condD rfl (fun h11 => ?_) (fun h11 => ?_)
 ·
  have hi : i < p.length := by rw [List.length_map] at h11; omega
  refine AW.skip ?_
  refine AW.seq ?_
  refine AW.block ?_
  refine AW.seq ?_
  refine AW.draw Fx.mo ?_
  refine LexK.q (q_mvC rfl rfl) rfl rfl rfl ?_
  refine LexK.q (q_mvC rfl rfl) rfl rfl rfl ?_
  refine LexK.q (q_index _ rfl Fx.sl26 rfl rfl (by omega) (idx_map (f := prT) hi)) rfl rfl rfl ?_
  refine LexK.q (q_indexP _ rfl Fx.ar80 rfl rfl (by omega) (by omega) rfl) rfl rfl rfl ?_
  refine LexK.q (q_load (.a _) rfl Fx.ty3 rfl rfl rfl) rfl rfl rfl ?_
  refine LexK.r (b_load (r := .g [_, _, _, _, _, _, _]) rfl Fx.ty28 rfl rfl rfl rfl rfl rfl) rfl ?_
  refine LexK.q (q_mvC rfl rfl) rfl rfl rfl ?_
  refine LexK.q (q_call _ rfl Fx.fn49 rfl (text_any _ _ _ _ hn) rfl) rfl rfl rfl ?_
  refine LexK.q (q_not rfl rfl) rfl rfl rfl ?_
  refine LexK.qB (q_mvC rfl rfl) rfl rfl rfl (fun g23 => ?_) (fun g23 => ?_)
  ·
   refine LexK.off rfl rfl rfl rfl rfl rfl ?_
   refine LexK.off rfl rfl rfl rfl rfl rfl ?_
   refine LexK.off rfl rfl rfl rfl rfl rfl ?_
   refine LexK.off rfl rfl rfl rfl rfl rfl ?_
   refine LexK.off rfl rfl rfl rfl rfl rfl ?_
   refine LexK.off rfl rfl rfl rfl rfl rfl ?_
   refine LexK.off rfl rfl rfl rfl rfl rfl ?_
   refine LexK.off rfl rfl rfl rfl rfl rfl ?_
   refine LexK.off rfl rfl rfl rfl rfl rfl ?_
   refine LexK.q (q_pkT rfl rfl rfl) rfl rfl rfl ?_
   refine LexK.q (q_mvC rfl rfl) rfl rfl rfl ?_
   refine LexK.off rfl rfl rfl rfl rfl rfl ?_
   refine LexK.off rfl rfl rfl rfl rfl rfl ?_
   refine LexK.off rfl rfl rfl rfl rfl rfl ?_
   refine LexK.off rfl rfl rfl rfl rfl rfl ?_
   refine LexK.off rfl rfl rfl rfl rfl rfl ?_
   refine LexK.off rfl rfl rfl rfl rfl rfl ?_
   refine LexK.off rfl rfl rfl rfl rfl rfl ?_
   refine LexK.off rfl rfl rfl rfl rfl rfl ?_
   refine LexK.off rfl rfl rfl rfl rfl rfl ?_
   refine LexK.off rfl rfl rfl rfl rfl rfl ?_
   refine LexK.off rfl rfl rfl rfl rfl rfl ?_
   refine LexK.q (q_pkT rfl rfl rfl) rfl rfl rfl ?_
   refine LexK.nil (by kernel_rfl) ?_
   refine AW.condT rfl ?_
   refine sR ?_
   refine sA ?_
   refine SeqK.nil ?_
   refine AW.ret ?_
   exact fin_x (x := .c _) (H) (.tmp rfl .nil) rfl (fun _ _ h => h) (⟨bCe (dF (upN hi fun ⟨k1, k2, k3⟩ => by first | omega | (have := nd_t g23; exact this k1) | (have := nd_t g34; exact this k2) | simp_all)), rfl⟩)
  ·
   refine LexK.on (q_mvC rfl rfl) rfl rfl rfl rfl rfl ?_
   refine LexK.on (q_mvC rfl rfl) rfl rfl rfl rfl rfl ?_
   refine LexK.on (q_index _ rfl Fx.sl26 rfl rfl (by omega) (idx_map (f := prT) hi)) rfl rfl rfl rfl rfl ?_
   refine LexK.on (q_indexP _ rfl Fx.ar80 rfl rfl (by omega) (by omega) rfl) rfl rfl rfl rfl rfl ?_
   refine LexK.on (q_load (.a _) rfl Fx.ty3 rfl rfl rfl) rfl rfl rfl rfl rfl ?_
   refine LexK.rOn (b_load (r := .g [_, _, _, _, _, _, _]) rfl Fx.ty28 rfl rfl rfl rfl rfl rfl) rfl rfl rfl ?_
   refine LexK.on (q_mvC rfl rfl) rfl rfl rfl rfl rfl ?_
   refine LexK.on (q_call _ rfl Fx.fn49 rfl (text_any _ _ _ _ hn) rfl) rfl rfl rfl rfl rfl ?_
   refine LexK.on (q_not rfl rfl) rfl rfl rfl rfl rfl ?_
   refine LexK.q (q_pkF rfl rfl rfl) rfl rfl rfl ?_
   refine LexK.qB (q_mvC rfl rfl) rfl rfl rfl (fun g34 => ?_) (fun g34 => ?_)
   ·
    refine LexK.off rfl rfl rfl rfl rfl rfl ?_
    refine LexK.off rfl rfl rfl rfl rfl rfl ?_
    refine LexK.off rfl rfl rfl rfl rfl rfl ?_
    refine LexK.off rfl rfl rfl rfl rfl rfl ?_
    refine LexK.off rfl rfl rfl rfl rfl rfl ?_
    refine LexK.off rfl rfl rfl rfl rfl rfl ?_
    refine LexK.off rfl rfl rfl rfl rfl rfl ?_
    refine LexK.off rfl rfl rfl rfl rfl rfl ?_
    refine LexK.off rfl rfl rfl rfl rfl rfl ?_
    refine LexK.off rfl rfl rfl rfl rfl rfl ?_
    refine LexK.off rfl rfl rfl rfl rfl rfl ?_
    refine LexK.q (q_pkT rfl rfl rfl) rfl rfl rfl ?_
    refine LexK.nil (by kernel_rfl) ?_
    refine AW.condT rfl ?_
    refine sR ?_
    refine sA ?_
    refine SeqK.nil ?_
    refine AW.ret ?_
    exact fin_x (x := .c _) (H) (.tmp rfl .nil) rfl (fun _ _ h => h) (⟨bCe (dF (upN hi fun ⟨k1, k2, k3⟩ => by first | omega | (have := nd_t g23; exact this k1) | (have := nd_t g34; exact this k2) | simp_all)), rfl⟩)
   ·
    refine LexK.on (q_mvC rfl rfl) rfl rfl rfl rfl rfl ?_
    refine LexK.on (q_mvC rfl rfl) rfl rfl rfl rfl rfl ?_
    refine LexK.on (q_index _ rfl Fx.sl26 rfl rfl (by omega) (idx_map (f := prT) hi)) rfl rfl rfl rfl rfl ?_
    refine LexK.on (q_indexP _ rfl Fx.ar80 rfl rfl (by omega) (by omega) rfl) rfl rfl rfl rfl rfl ?_
    refine LexK.on (q_load (.a _) rfl Fx.ty3 rfl rfl rfl) rfl rfl rfl rfl rfl ?_
    refine LexK.on (q_mvC rfl rfl) rfl rfl rfl rfl rfl ?_
    refine LexK.on (q_mvC rfl rfl) rfl rfl rfl rfl rfl ?_
    refine LexK.on (q_index _ rfl Fx.sl26 rfl rfl (by omega) (idx_map (f := prT) hi)) rfl rfl rfl rfl rfl ?_
    refine LexK.on (q_indexP _ rfl Fx.ar80 rfl rfl (by omega) (by omega) rfl) rfl rfl rfl rfl rfl ?_
    refine LexK.on (q_load (.a _) rfl Fx.ty3 rfl rfl rfl) rfl rfl rfl rfl rfl ?_
    refine LexK.on (q_geq rfl rfl rfl) rfl rfl rfl rfl rfl ?_
    refine LexK.q (q_pkF rfl rfl rfl) rfl rfl rfl ?_
    refine LexK.nil (by kernel_rfl) ?_
    refine AW.condD rfl (fun h46 => ?_) (fun h46 => ?_)
    ·
     refine sR ?_
     refine sA ?_
     refine SeqK.nil ?_
     refine AW.ret ?_
     exact fin_x (x := .c _) (H) (.tmp rfl .nil) rfl (fun _ _ h => h) (⟨bCe (dF (upN hi fun ⟨k1, k2, k3⟩ => by first | omega | (have := nd_t g23; exact this k1) | (have := nd_t g34; exact this k2) | simp_all)), rfl⟩)
    ·
     refine AW.skip ?_
     refine AW.reg ?_
     refine sM ?_
     refine SeqK.q (q_add _ rfl rfl rfl (w64 (by omega) (by omega))) rfl rfl rfl ?_
     refine sA ?_
     refine SeqK.nil ?_
     exact ⟨i + 1, _, Wk.keep 47 [(0, .c (prsC zp p)), (2, .c (vsC z l)), (4, .lp 4 0), (6, .c (bC false)), (7, iX .i64 (((i + 1) : Nat) : Int))] [(4, .box [.t (.sl .un 1 (c.nl.map i64T)), .t (.sl .un 1 (c.nn.map i64T)), .t (.sl .un 4 (c.ax.map axT)), .t (.sl .un 3 (c.is.map ctT)), .t (.sl .un 4 (c.ts.map tsT)), .t (.sl .un 2 (c.sm.map prT)), .t (.sl .un 2 (c.df.map prT))])] (H) rfl ⟨rfl, rfl, rfl, rfl, rfl, trivial⟩ ⟨rfl, trivial⟩ (fun _ _ h => h) rfl, by omega, ⟨hi, upS hi hU ⟨by simpa using g23, by simpa using g34, by omega⟩⟩, rfl⟩
 ·
  refine AW.exit ?_
  refine eth_e ?_
  refine eth_e ?_
  refine exit_here ?_
  refine sR ?_
  refine sA ?_
  refine SeqK.nil ?_
  refine AW.ret ?_
  exact fin_x (x := .c _) (H) (.tmp rfl .nil) rfl (fun _ _ h => h) (⟨bCe (dT (upE hU (by rw [List.length_map] at h11; omega))), rfl⟩)

set_option maxRecDepth 20000 in
theorem tested_any (t : Ts) (hs : t.s.size ≤ 1000000000000000) : Pure Try.prog 52 [tsC t] (.c (bC (decide (tstP t)))) := by
 intro H
 refine Spec.enter Try.func52 rfl ?_
 refine AW.wk (Wk.keep 37 [(0, .c (tsC t))] [] (H) rfl ⟨rfl, trivial⟩ trivial (fun _ _ h => h) rfl) ?_
 refine sR ?_
 refine SeqK.r (b_box (r := [_, _, _, _]) rfl rfl rfl rfl rfl rfl) rfl ?_
 refine sA ?_
 refine SeqK.nil ?_
 refine AW.seq ?_
 refine AW.seq ?_
 have hl := ba_len t.s
 refine AW.reg ?_
 refine sA ?_
 refine SeqK.nil ?_
 refine AW.block ?_
 refine AW.loop (fun (i : Nat) s => (i ≤ t.s.size ∧ ∀ j (h : j < t.s.data.toList.length), j < i → 32 ≤ t.s.data.toList[j].toNat ∧ t.s.data.toList[j].toNat ≤ 126) ∧ s = ⟨37, sp [(1, .lp 1 0), (2, .c (bC false)), (3, iX .i64 ((i : Nat) : Int))], lv [(1, .box [.t (.v (.int .i64 t.v)), .t (.v (.int .i64 t.k)), .t (.v (.bool t.n)), .t (.v (.string t.s))])], H⟩) (fun i => t.s.size - i) 0 ⟨_, Wk.keep 37 [(1, .lp 1 0), (2, .c (bC false)), (3, iX .i64 ((((0 : Nat)) : Nat) : Int))] [(1, .box [.t (.v (.int .i64 t.v)), .t (.v (.int .i64 t.k)), .t (.v (.bool t.n)), .t (.v (.string t.s))])] (H) rfl ⟨rfl, rfl, rfl, trivial⟩ ⟨rfl, trivial⟩ (fun _ _ h => h) rfl, ⟨Nat.zero_le _, up0⟩, rfl⟩ (fun i s hs => ?_)
 obtain ⟨⟨hi0, hU⟩, rfl⟩ := hs
 refine AW.seq ?_
 refine sR ?_
 refine sM ?_
 refine SeqK.q (q_fieldL _ rfl Fx.fl61_3 rfl rfl) rfl rfl rfl ?_
 refine SeqK.r (b_load (r := .a _) rfl Fx.ty9 rfl rfl rfl rfl rfl rfl) rfl ?_
 refine SeqK.q (q_lenS rfl Fx.un9 rfl) rfl rfl rfl ?_
 refine SeqK.q (q_lss rfl rfl rfl) rfl rfl rfl ?_
 refine SeqK.nil ?_
 refine AW.condD rfl (fun h8 => ?_) (fun h8 => ?_)
 ·
  have hi : i < t.s.data.toList.length := by omega
  refine AW.skip ?_
  refine AW.seq ?_
  refine AW.block ?_
  refine sR ?_
  refine SeqK.q (q_fieldL _ rfl Fx.fl61_3 rfl rfl) rfl rfl rfl ?_
  refine SeqK.r (b_load (r := .a _) rfl Fx.ty9 rfl rfl rfl rfl rfl rfl) rfl ?_
  refine sM ?_
  refine SeqK.q (q_indexS _ rfl Fx.un9 rfl rfl (by omega) (idx_ba hi)) rfl rfl rfl ?_
  refine SeqK.q (q_lss rfl rfl rfl) rfl rfl rfl ?_
  refine SeqK.qD (q_mvC rfl rfl) rfl rfl rfl (fun g16 => ?_) (fun g16 => ?_)
  ·
   refine SeqK.off rfl rfl rfl rfl rfl rfl ?_
   refine SeqK.off rfl rfl rfl rfl rfl rfl ?_
   refine SeqK.off rfl rfl rfl rfl rfl rfl ?_
   refine SeqK.off rfl rfl rfl rfl rfl rfl ?_
   refine SeqK.off rfl rfl rfl rfl rfl rfl ?_
   refine SeqK.q (q_pkT rfl rfl rfl) rfl rfl rfl ?_
   refine SeqK.nil ?_
   refine AW.condT rfl ?_
   refine sR ?_
   refine sA ?_
   refine SeqK.nil ?_
   refine AW.ret ?_
   exact fin_x (x := .c _) (H) (.tmp rfl .nil) rfl (fun _ _ h => h) (⟨bCe (dF fun hq => upN (Q := fun j h => 32 ≤ t.s.data.toList[j].toNat ∧ t.s.data.toList[j].toNat ≤ 126) hi (by omega) hq.1), rfl⟩)
  ·
   refine SeqK.on (q_fieldL _ rfl Fx.fl61_3 rfl rfl) rfl rfl rfl rfl rfl ?_
   refine SeqK.rOn (b_load (r := .a _) rfl Fx.ty9 rfl rfl rfl rfl rfl rfl) rfl rfl rfl ?_
   refine SeqK.on (q_mvC rfl rfl) rfl rfl rfl rfl rfl ?_
   refine SeqK.on (q_indexS _ rfl Fx.un9 rfl rfl (by omega) (idx_ba hi)) rfl rfl rfl rfl rfl ?_
   refine SeqK.on (q_gtr rfl rfl rfl) rfl rfl rfl rfl rfl ?_
   refine SeqK.q (q_pkF rfl rfl rfl) rfl rfl rfl ?_
   refine SeqK.nil ?_
   refine AW.condD rfl (fun h22 => ?_) (fun h22 => ?_)
   ·
    refine sR ?_
    refine sA ?_
    refine SeqK.nil ?_
    refine AW.ret ?_
    exact fin_x (x := .c _) (H) (.tmp rfl .nil) rfl (fun _ _ h => h) (⟨bCe (dF fun hq => upN (Q := fun j h => 32 ≤ t.s.data.toList[j].toNat ∧ t.s.data.toList[j].toNat ≤ 126) hi (by omega) hq.1), rfl⟩)
   ·
    refine AW.skip ?_
    refine AW.reg ?_
    refine sM ?_
    refine SeqK.q (q_add _ rfl rfl rfl (w64 (by omega) (by omega))) rfl rfl rfl ?_
    refine sA ?_
    refine SeqK.nil ?_
    exact ⟨i + 1, _, Wk.keep 37 [(1, .lp 1 0), (2, .c (bC false)), (3, iX .i64 (((i + 1) : Nat) : Int))] [(1, .box [.t (.v (.int .i64 t.v)), .t (.v (.int .i64 t.k)), .t (.v (.bool t.n)), .t (.v (.string t.s))])] (H) rfl ⟨rfl, rfl, rfl, trivial⟩ ⟨rfl, trivial⟩ (fun _ _ h => h) rfl, by omega, ⟨by omega, upS hi hU (by omega)⟩, rfl⟩
 ·
  refine AW.exit ?_
  refine eth_e ?_
  refine eth_e ?_
  refine exit_here ?_
  refine sR ?_
  refine SeqK.q (q_fieldL _ rfl Fx.fl61_1 rfl rfl) rfl rfl rfl ?_
  refine SeqK.r (b_load (r := .a _) rfl Fx.ty3 rfl rfl rfl rfl rfl rfl) rfl ?_
  refine SeqK.q (q_geq rfl rfl rfl) rfl rfl rfl ?_
  refine SeqK.qD (q_mvC rfl rfl) rfl rfl rfl (fun g26 => ?_) (fun g26 => ?_)
  ·
   refine SeqK.on (q_fieldL _ rfl Fx.fl61_1 rfl rfl) rfl rfl rfl rfl rfl ?_
   refine SeqK.rOn (b_load (r := .a _) rfl Fx.ty3 rfl rfl rfl rfl rfl rfl) rfl rfl rfl ?_
   refine SeqK.on (q_leq rfl rfl rfl) rfl rfl rfl rfl rfl ?_
   refine SeqK.q (q_pkT rfl rfl rfl) rfl rfl rfl ?_
   refine SeqK.qD (q_mvC rfl rfl) rfl rfl rfl (fun g31 => ?_) (fun g31 => ?_)
   ·
    refine SeqK.on (q_fieldL _ rfl Fx.fl61_3 rfl rfl) rfl rfl rfl rfl rfl ?_
    refine SeqK.rOn (b_load (r := .a _) rfl Fx.ty9 rfl rfl rfl rfl rfl rfl) rfl rfl rfl ?_
    refine SeqK.on (q_lenS rfl Fx.un9 rfl) rfl rfl rfl rfl rfl ?_
    refine SeqK.on (q_leq rfl rfl rfl) rfl rfl rfl rfl rfl ?_
    refine SeqK.q (q_pkT rfl rfl rfl) rfl rfl rfl ?_
    refine sA ?_
    refine SeqK.nil ?_
    refine AW.ret ?_
    exact fin_x (x := .c _) (H) (.tmp rfl .nil) rfl (fun _ _ h => h) (⟨bCe (by have hU := upE hU (by omega); first | exact dF (by rintro ⟨a, b, c⟩; omega) | exact dI ⟨fun h => ⟨hU, by omega, by omega⟩, fun h => by have := h.2; omega⟩), rfl⟩)
   ·
    refine SeqK.off rfl rfl rfl rfl rfl rfl ?_
    refine SeqK.off rfl rfl rfl rfl rfl rfl ?_
    refine SeqK.off rfl rfl rfl rfl rfl rfl ?_
    refine SeqK.off rfl rfl rfl rfl rfl rfl ?_
    refine SeqK.q (q_pkF rfl rfl rfl) rfl rfl rfl ?_
    refine sA ?_
    refine SeqK.nil ?_
    refine AW.ret ?_
    exact fin_x (x := .c _) (H) (.tmp rfl .nil) rfl (fun _ _ h => h) (⟨bCe (by have hU := upE hU (by omega); first | exact dF (by rintro ⟨a, b, c⟩; omega) | exact dI ⟨fun h => ⟨hU, by omega, by omega⟩, fun h => by have := h.2; omega⟩), rfl⟩)
  ·
   refine SeqK.off rfl rfl rfl rfl rfl rfl ?_
   refine SeqK.off rfl rfl rfl rfl rfl rfl ?_
   refine SeqK.off rfl rfl rfl rfl rfl rfl ?_
   refine SeqK.q (q_pkF rfl rfl rfl) rfl rfl rfl ?_
   refine sM ?_
   refine SeqK.off rfl rfl rfl rfl rfl rfl ?_
   refine SeqK.off rfl rfl rfl rfl rfl rfl ?_
   refine SeqK.off rfl rfl rfl rfl rfl rfl ?_
   refine SeqK.off rfl rfl rfl rfl rfl rfl ?_
   refine SeqK.q (q_pkF rfl rfl rfl) rfl rfl rfl ?_
   refine sA ?_
   refine SeqK.nil ?_
   refine AW.ret ?_
   exact fin_x (x := .c _) (H) (.tmp rfl .nil) rfl (fun _ _ h => h) (⟨bCe (by have hU := upE hU (by omega); first | exact dF (by rintro ⟨a, b, c⟩; omega) | exact dI ⟨fun h => ⟨hU, by omega, by omega⟩, fun h => by have := h.2; omega⟩), rfl⟩)

end Go.Proofs.Ytnmfjojhgfipcaa.W
namespace Go.Proofs.Ytnmfjojhgfipcaa.W
open Go.RowKit E
set_option linter.unusedVariables false
set_option linter.unusedSimpArgs false
set_option linter.unusedSectionVars false
/-! linear forms -/
abbrev bsC (z : Nz) (bs : List Nat) : C := .a (.t (.sl z 1 (bs.map fun b : Nat => i64T (b : Int))))
def bnd (n : Nat) (bs : List Nat) (v : Int) : Nat := if (n : Int) ≤ v then bs.getD (v.toNat - n) 0 else 2147483648
def csum (n : Nat) (bs : List Nat) : List Cf → Nat
  | [] => 0
  | k :: r => k.n.natAbs * bnd n bs k.v + csum n bs r
theorem csum_app {n : Nat} {bs : List Nat} (a b : List Cf) : csum n bs (a ++ b) = csum n bs a + csum n bs b := by
  induction a with
  | nil => simp [csum]
  | cons x r ih => simp only [List.cons_append, csum, ih]; omega
theorem csum_take {n : Nat} {bs : List Nat} {l : List Cf} {i : Nat} (h : i < l.length) : csum n bs (l.take (i + 1)) = csum n bs (l.take i) + l[i].n.natAbs * bnd n bs l[i].v := by
  rw [List.take_succ_eq_append_getElem h, csum_app]; simp [csum]
theorem csum_take_le {n : Nat} {bs : List Nat} (l : List Cf) (i : Nat) : csum n bs (l.take i) ≤ csum n bs l := by
  have h := csum_app (n := n) (bs := bs) (l.take i) (l.drop i)
  rw [List.take_append_drop] at h; omega
def fsum (n : Nat) (bs : List Nat) (f : Lf) : Nat := f.c.natAbs + csum n bs f.cs
abbrev cfQ (f : Lf) (nn : List Int) (l : List Vr) (m : Nat) (j : Nat) (h : j < f.cs.length) : Prop :=
  (0 ≤ f.cs[j].v ∧ f.cs[j].v < l.length + m) ∧ (∀ (h0 : 0 < j), f.cs[j - 1].v < f.cs[j].v) ∧ f.cs[j].n ≠ 0 ∧ (-1048576 ≤ f.cs[j].n ∧ f.cs[j].n ≤ 1048576) ∧ (f.cs[j].v < l.length → vty l f.cs[j].v = 1 ∧ f.cs[j].v ∈ nn)
abbrev formP (f : Lf) (nn : List Int) (l : List Vr) (bs : List Nat) : Prop :=
  (-1099511627777 ≤ f.c ∧ f.c ≤ 1099511627777) ∧ (∀ j (h : j < f.cs.length), cfQ f nn l bs.length j h) ∧ fsum l.length bs f ≤ 1152921504606846977
def formV (f : Lf) (nn : List Int) (l : List Vr) (bs : List Nat) : Int := if formP f nn l bs then (fsum l.length bs f : Int) else -1
theorem quoM {a : Nat} (h1 : 1 ≤ a) (h : a ≤ 1048576) : IntKind.i64.wrap ((1152921504606846977 : Int).tdiv (a : Int)) = ((1152921504606846977 / a : Nat) : Int) := by
  have h1 : (1152921504606846977 : Int).tdiv (a : Int) = ((1152921504606846977 / a : Nat) : Int) := rfl
  have h2 : ((1152921504606846977 / a : Nat) : Int) ≤ ((1152921504606846977 : Nat) : Int) := by exact_mod_cast Nat.div_le_self 1152921504606846977 a
  have h0 : (0 : Int) ≤ ((1152921504606846977 / a : Nat) : Int) := Int.natCast_nonneg _
  rw [h1, w64 (by omega) (by omega)]
theorem quo_gt {a b : Nat} (h1 : 1 ≤ a) : ((1152921504606846977 / a : Nat) : Int) < (b : Int) ↔ 1152921504606846977 < a * b := by
  rw [Int.ofNat_lt, Nat.div_lt_iff_lt_mul (by omega), Nat.mul_comm]
theorem bnd_hi {n : Nat} {bs : List Nat} {v : Int} (h : (n : Int) ≤ v) (h2 : v.toNat - n < bs.length) : bnd n bs v = bs[v.toNat - n] := by
  unfold bnd; rw [if_pos h, List.getD_eq_getElem?_getD, List.getElem?_eq_getElem h2]; rfl
theorem bnd_lo {n : Nat} {bs : List Nat} {v : Int} (h : ¬ (n : Int) ≤ v) : bnd n bs v = 2147483648 := by unfold bnd; rw [if_neg h]
theorem w64mul {a b : Nat} (h : a * b ≤ 1152921504606846977) : IntKind.i64.wrap ((a : Int) * (b : Int)) = ((a * b : Nat) : Int) := by
  have h0 : (0 : Int) ≤ ((a * b : Nat) : Int) := Int.natCast_nonneg _
  have e : (a : Int) * (b : Int) = ((a * b : Nat) : Int) := by push_cast; rfl
  rw [e, w64 (by omega) (by omega)]
theorem fsum_gt {n : Nat} {bs : List Nat} {f : Lf} {i : Nat} (h : 1152921504606846977 < f.c.natAbs + csum n bs (f.cs.take i)) : 1152921504606846977 < fsum n bs f := by
  have := csum_take_le (n := n) (bs := bs) f.cs i
  unfold fsum; omega

set_option maxHeartbeats 8000000 in
set_option maxRecDepth 20000 in
theorem form_any (f : Lf) (c : Cl) (l : List Vr) (z zb : Nz) (bs : List Nat) (hn : c.nn.length ≤ 17592186044000) (hf : f.cs.length ≤ 17592186044000) (hl : l.length ≤ 17592186044000) (hb : bs.length ≤ 17592186044000) : Pure Try.prog 50 [lfC f, clC c, vsC z l, bsC zb bs] (.c (iC (formV f c.nn l bs))) := by
 intro H
 refine Spec.enter Try.func50 rfl ?_
 refine AW.wk (Wk.keep 116 [(0, .c (lfC f)), (1, .c (clC c)), (2, .c (vsC z l)), (3, .c (bsC zb bs))] [] (H) rfl ⟨rfl, rfl, rfl, rfl, trivial⟩ trivial (fun _ _ h => h) rfl) ?_
 refine sR ?_
 refine SeqK.r (b_box (r := [_, _]) rfl rfl rfl rfl rfl rfl) rfl ?_
 refine SeqK.r (b_box (r := [_, _, _, _, _, _, _]) rfl rfl rfl rfl rfl rfl) rfl ?_
 refine sA ?_
 refine SeqK.nil ?_
 refine AW.seq ?_
 refine sR ?_
 refine SeqK.q (q_fieldL _ rfl Fx.fl74_0 rfl rfl) rfl rfl rfl ?_
 refine SeqK.r (b_load (r := .a _) rfl Fx.ty2 rfl rfl rfl rfl rfl rfl) rfl ?_
 refine SeqK.q (q_call _ rfl Fx.fn51 rfl (within_any _ _ _) rfl) rfl rfl rfl ?_
 refine SeqK.q (q_not rfl rfl) rfl rfl rfl ?_
 refine SeqK.nil ?_
 refine AW.cond _ rfl (fun h16 => ?_) (fun h16 => ?_)
 ·
  have k16 := nd_t h16
  refine sR ?_
  refine sA ?_
  refine SeqK.nil ?_
  refine AW.ret ?_
  exact fin_x (x := .c _) (H) (.tmp rfl .nil) rfl (fun _ _ h => h) (⟨iCe (if_neg (fun hp => k16 hp.1)).symm, rfl⟩)
 ·
  have k16 := nd_f h16
  refine AW.skip ?_
  refine sR ?_
  refine SeqK.q (q_fieldL _ rfl Fx.fl74_0 rfl rfl) rfl rfl rfl ?_
  refine SeqK.r (b_load (r := .a _) rfl Fx.ty2 rfl rfl rfl rfl rfl rfl) rfl ?_
  refine SeqK.q (q_call _ rfl Fx.fn82 rfl (rabs_any _ (by omega)) rfl) rfl rfl rfl ?_
  refine sA ?_
  refine SeqK.nil ?_
  refine AW.seq ?_
  refine sR ?_
  refine sA ?_
  refine SeqK.nil ?_
  refine AW.block ?_
  refine AW.wk (Wk.keep 116 [(2, .c (vsC z l)), (3, .c (bsC zb bs)), (4, .lp 4 0), (5, .lp 5 0), (8, .c (iC 0)), (9, iX .i64 ((f.c.natAbs + csum l.length bs (f.cs.take 0) : Nat) : Int)), (10, iX .i64 ((0 : Nat) : Int))] [(4, .box [.t (.v (.int .i64 f.c)), .t (.sl .un 2 (f.cs.map cfT))]), (5, .box [.t (.sl .un 1 (c.nl.map i64T)), .t (.sl .un 1 (c.nn.map i64T)), .t (.sl .un 4 (c.ax.map axT)), .t (.sl .un 3 (c.is.map ctT)), .t (.sl .un 4 (c.ts.map tsT)), .t (.sl .un 2 (c.sm.map prT)), .t (.sl .un 2 (c.df.map prT))])] (H) rfl ⟨rfl, rfl, rfl, rfl, rfl, iXe (by simp [csum]), rfl, trivial⟩ ⟨rfl, rfl, trivial⟩ (fun _ _ h => h) rfl) ?_
  refine AW.loop (fun (i : Nat) s => (i ≤ f.cs.length ∧ (∀ j (h : j < f.cs.length), j < i → cfQ f c.nn l bs.length j h) ∧ f.c.natAbs + csum l.length bs (f.cs.take i) ≤ 1152921504606846977) ∧ s = ⟨116, sp [(2, .c (vsC z l)), (3, .c (bsC zb bs)), (4, .lp 4 0), (5, .lp 5 0), (8, .c (iC 0)), (9, iX .i64 ((f.c.natAbs + csum l.length bs (f.cs.take i) : Nat) : Int)), (10, iX .i64 ((i : Nat) : Int))], lv [(4, .box [.t (.v (.int .i64 f.c)), .t (.sl .un 2 (f.cs.map cfT))]), (5, .box [.t (.sl .un 1 (c.nl.map i64T)), .t (.sl .un 1 (c.nn.map i64T)), .t (.sl .un 4 (c.ax.map axT)), .t (.sl .un 3 (c.is.map ctT)), .t (.sl .un 4 (c.ts.map tsT)), .t (.sl .un 2 (c.sm.map prT)), .t (.sl .un 2 (c.df.map prT))])], H⟩) (fun i => f.cs.length - i) 0 ⟨_, Wk.keep 116 [(2, .c (vsC z l)), (3, .c (bsC zb bs)), (4, .lp 4 0), (5, .lp 5 0), (8, .c (iC 0)), (9, iX .i64 ((f.c.natAbs + csum l.length bs (f.cs.take ((0 : Nat))) : Nat) : Int)), (10, iX .i64 ((((0 : Nat)) : Nat) : Int))] [(4, .box [.t (.v (.int .i64 f.c)), .t (.sl .un 2 (f.cs.map cfT))]), (5, .box [.t (.sl .un 1 (c.nl.map i64T)), .t (.sl .un 1 (c.nn.map i64T)), .t (.sl .un 4 (c.ax.map axT)), .t (.sl .un 3 (c.is.map ctT)), .t (.sl .un 4 (c.ts.map tsT)), .t (.sl .un 2 (c.sm.map prT)), .t (.sl .un 2 (c.df.map prT))])] (H) rfl ⟨rfl, rfl, rfl, rfl, rfl, rfl, rfl, trivial⟩ ⟨rfl, rfl, trivial⟩ (fun _ _ h => h) rfl, ⟨Nat.zero_le _, up0, by simp [csum]; omega⟩, rfl⟩ (fun i s hs => ?_)
  obtain ⟨⟨hi0, hU, hS⟩, rfl⟩ := hs
  refine AW.seq ?_
  refine sR ?_
  refine sM ?_
  refine SeqK.q (q_fieldL _ rfl Fx.fl74_1 rfl rfl) rfl rfl rfl ?_
  refine SeqK.r (b_load (r := .a _) rfl Fx.ty72 rfl rfl rfl rfl rfl rfl) rfl ?_
  refine SeqK.q (q_len rfl Fx.un72 rfl) rfl rfl rfl ?_
  refine SeqK.q (q_lss rfl rfl rfl) rfl rfl rfl ?_
  refine SeqK.nil ?_
  refine AW.condD rfl (fun h24 => ?_) (fun h24 => ?_)
  ·
   have hi : i < f.cs.length := by rw [List.length_map] at h24; omega
   refine AW.skip ?_
   refine AW.seq ?_
   refine AW.block ?_
   refine sR ?_
   refine SeqK.q (q_fieldL _ rfl Fx.fl74_1 rfl rfl) rfl rfl rfl ?_
   refine SeqK.r (b_load (r := .a _) rfl Fx.ty72 rfl rfl rfl rfl rfl rfl) rfl ?_
   refine sM ?_
   refine SeqK.q (q_index _ rfl Fx.sl72 rfl rfl (by omega) (idx_map (f := cfT) hi)) rfl rfl rfl ?_
   refine SeqK.q (q_load (.g [_, _]) rfl Fx.ty106 rfl rfl rfl) rfl rfl rfl ?_
   refine SeqK.r (b_alloc (r := [_, _]) rfl rfl Fx.ze106 rfl rfl rfl rfl) rfl ?_
   refine SeqK.r (b_store (r := [_, _]) rfl rfl Fx.ty106 rfl rfl rfl rfl rfl rfl) rfl ?_
   refine SeqK.nil ?_
   refine AW.seq ?_
   refine AW.seq ?_
   refine AW.draw Fx.mo ?_
   refine LexK.q (q_fieldL _ rfl Fx.fl106_0 rfl rfl) rfl rfl rfl ?_
   refine LexK.r (b_load (r := .a _) rfl Fx.ty3 rfl rfl rfl rfl rfl rfl) rfl ?_
   refine LexK.q (q_lss rfl rfl rfl) rfl rfl rfl ?_
   refine LexK.qD (q_mvC rfl rfl) rfl rfl rfl (fun g35 => ?_) (fun g35 => ?_)
   ·
    refine LexK.off rfl rfl rfl rfl rfl rfl ?_
    refine LexK.off rfl rfl rfl rfl rfl rfl ?_
    refine LexK.off rfl rfl rfl rfl rfl rfl ?_
    refine LexK.off rfl rfl rfl rfl rfl rfl ?_
    refine LexK.off rfl rfl rfl rfl rfl rfl ?_
    refine LexK.off rfl rfl rfl rfl rfl rfl ?_
    refine LexK.off rfl rfl rfl rfl rfl rfl ?_
    refine LexK.off rfl rfl rfl rfl rfl rfl ?_
    refine LexK.q (q_pkT rfl rfl rfl) rfl rfl rfl ?_
    refine LexK.q (q_mvC rfl rfl) rfl rfl rfl ?_
    refine LexK.off rfl rfl rfl rfl rfl rfl ?_
    refine LexK.off rfl rfl rfl rfl rfl rfl ?_
    refine LexK.off rfl rfl rfl rfl rfl rfl ?_
    refine LexK.offU rfl rfl rfl rfl rfl ?_
    refine LexK.offU rfl rfl rfl rfl rfl ?_
    refine LexK.offU rfl rfl rfl rfl rfl ?_
    refine LexK.offU rfl rfl rfl rfl rfl ?_
    refine LexK.offU rfl rfl rfl rfl rfl ?_
    refine LexK.offU rfl rfl rfl rfl rfl ?_
    refine LexK.offU rfl rfl rfl rfl rfl ?_
    refine LexK.offU rfl rfl rfl rfl rfl ?_
    refine LexK.offU rfl rfl rfl rfl rfl ?_
    refine LexK.offU rfl rfl rfl rfl rfl ?_
    refine LexK.off rfl rfl rfl rfl rfl rfl ?_
    refine LexK.q (q_pkT rfl rfl rfl) rfl rfl rfl ?_
    refine LexK.q (q_mvC rfl rfl) rfl rfl rfl ?_
    refine LexK.off rfl rfl rfl rfl rfl rfl ?_
    refine LexK.off rfl rfl rfl rfl rfl rfl ?_
    refine LexK.off rfl rfl rfl rfl rfl rfl ?_
    refine LexK.q (q_pkT rfl rfl rfl) rfl rfl rfl ?_
    refine LexK.q (q_mvC rfl rfl) rfl rfl rfl ?_
    refine LexK.off rfl rfl rfl rfl rfl rfl ?_
    refine LexK.off rfl rfl rfl rfl rfl rfl ?_
    refine LexK.off rfl rfl rfl rfl rfl rfl ?_
    refine LexK.off rfl rfl rfl rfl rfl rfl ?_
    refine LexK.q (q_pkT rfl rfl rfl) rfl rfl rfl ?_
    refine LexK.nil (by kernel_rfl) ?_
    refine AW.condT rfl ?_
    refine sR ?_
    refine sA ?_
    refine SeqK.nil ?_
    refine AW.ret ?_
    exact fin_x (x := .c _) (H) (.tmp rfl .nil) rfl (fun _ _ h => h) (⟨iCe (if_neg (fun hp => upN (Q := cfQ f c.nn l bs.length) hi (fun ⟨⟨k1, k2⟩, k3, k4, k5, k6⟩ => by simp only [List.length_map] at *; first | omega | (have := k3 (by omega); omega) | (exact nd_t h71 k5) | simp_all) hp.2.1)).symm, rfl⟩)
   ·
    refine LexK.on (q_fieldL _ rfl Fx.fl106_0 rfl rfl) rfl rfl rfl rfl rfl ?_
    refine LexK.rOn (b_load (r := .a _) rfl Fx.ty3 rfl rfl rfl rfl rfl rfl) rfl rfl rfl ?_
    refine LexK.on (q_mvC rfl rfl) rfl rfl rfl rfl rfl ?_
    refine LexK.on (q_len rfl Fx.un29 rfl) rfl rfl rfl rfl rfl ?_
    refine LexK.on (q_mvC rfl rfl) rfl rfl rfl rfl rfl ?_
    refine LexK.on (q_len rfl Fx.un35 rfl) rfl rfl rfl rfl rfl ?_
    refine LexK.on (q_add _ rfl rfl rfl (w64 (by rw [List.length_map, List.length_map]; omega) (by rw [List.length_map, List.length_map]; omega))) rfl rfl rfl rfl rfl ?_
    refine LexK.on (q_geq rfl rfl rfl) rfl rfl rfl rfl rfl ?_
    refine LexK.q (q_pkF rfl rfl rfl) rfl rfl rfl ?_
    refine LexK.qD (q_mvC rfl rfl) rfl rfl rfl (fun g45 => ?_) (fun g45 => ?_)
    ·
     refine LexK.off rfl rfl rfl rfl rfl rfl ?_
     refine LexK.off rfl rfl rfl rfl rfl rfl ?_
     refine LexK.off rfl rfl rfl rfl rfl rfl ?_
     refine LexK.offU rfl rfl rfl rfl rfl ?_
     refine LexK.offU rfl rfl rfl rfl rfl ?_
     refine LexK.offU rfl rfl rfl rfl rfl ?_
     refine LexK.offU rfl rfl rfl rfl rfl ?_
     refine LexK.offU rfl rfl rfl rfl rfl ?_
     refine LexK.offU rfl rfl rfl rfl rfl ?_
     refine LexK.offU rfl rfl rfl rfl rfl ?_
     refine LexK.offU rfl rfl rfl rfl rfl ?_
     refine LexK.offU rfl rfl rfl rfl rfl ?_
     refine LexK.offU rfl rfl rfl rfl rfl ?_
     refine LexK.off rfl rfl rfl rfl rfl rfl ?_
     refine LexK.q (q_pkT rfl rfl rfl) rfl rfl rfl ?_
     refine LexK.q (q_mvC rfl rfl) rfl rfl rfl ?_
     refine LexK.off rfl rfl rfl rfl rfl rfl ?_
     refine LexK.off rfl rfl rfl rfl rfl rfl ?_
     refine LexK.off rfl rfl rfl rfl rfl rfl ?_
     refine LexK.q (q_pkT rfl rfl rfl) rfl rfl rfl ?_
     refine LexK.q (q_mvC rfl rfl) rfl rfl rfl ?_
     refine LexK.off rfl rfl rfl rfl rfl rfl ?_
     refine LexK.off rfl rfl rfl rfl rfl rfl ?_
     refine LexK.off rfl rfl rfl rfl rfl rfl ?_
     refine LexK.off rfl rfl rfl rfl rfl rfl ?_
     refine LexK.q (q_pkT rfl rfl rfl) rfl rfl rfl ?_
     refine LexK.nil (by kernel_rfl) ?_
     refine AW.condT rfl ?_
     refine sR ?_
     refine sA ?_
     refine SeqK.nil ?_
     refine AW.ret ?_
     exact fin_x (x := .c _) (H) (.tmp rfl .nil) rfl (fun _ _ h => h) (⟨iCe (if_neg (fun hp => upN (Q := cfQ f c.nn l bs.length) hi (fun ⟨⟨k1, k2⟩, k3, k4, k5, k6⟩ => by simp only [List.length_map] at *; first | omega | (have := k3 (by omega); omega) | (exact nd_t h71 k5) | simp_all) hp.2.1)).symm, rfl⟩)
    ·
     refine LexK.on (q_mvC rfl rfl) rfl rfl rfl rfl rfl ?_
     refine LexK.on (q_gtr rfl rfl rfl) rfl rfl rfl rfl rfl ?_
     refine LexK.onD (q_mvC rfl rfl) rfl rfl rfl rfl rfl (fun g48 => ?_) (fun g48 => ?_)
     ·
      refine LexK.on (q_fieldL _ rfl Fx.fl74_1 rfl rfl) rfl rfl rfl rfl rfl ?_
      refine LexK.rOn (b_load (r := .a _) rfl Fx.ty72 rfl rfl rfl rfl rfl rfl) rfl rfl rfl ?_
      refine LexK.on (q_mvC rfl rfl) rfl rfl rfl rfl rfl ?_
      refine LexK.on (q_sub _ rfl rfl rfl ((by rw [w64 (by omega) (by omega)]; omega : IntKind.i64.wrap _ = ((i - 1 : Nat) : Int)))) rfl rfl rfl rfl rfl ?_
      refine LexK.on (q_index _ rfl Fx.sl72 rfl rfl (by omega) (idx_map (f := cfT) (show i - 1 < f.cs.length by omega))) rfl rfl rfl rfl rfl ?_
      refine LexK.on (q_fieldP _ rfl Fx.fl106_0 rfl rfl) rfl rfl rfl rfl rfl ?_
      refine LexK.on (q_load (.a _) rfl Fx.ty3 rfl rfl rfl) rfl rfl rfl rfl rfl ?_
      refine LexK.on (q_fieldL _ rfl Fx.fl106_0 rfl rfl) rfl rfl rfl rfl rfl ?_
      refine LexK.rOn (b_load (r := .a _) rfl Fx.ty3 rfl rfl rfl rfl rfl rfl) rfl rfl rfl ?_
      refine LexK.on (q_geq rfl rfl rfl) rfl rfl rfl rfl rfl ?_
      refine LexK.on (q_pkT rfl rfl rfl) rfl rfl rfl rfl rfl ?_
      refine LexK.q (q_pkF rfl rfl rfl) rfl rfl rfl ?_
      refine LexK.qD (q_mvC rfl rfl) rfl rfl rfl (fun g61 => ?_) (fun g61 => ?_)
      ·
       refine LexK.off rfl rfl rfl rfl rfl rfl ?_
       refine LexK.off rfl rfl rfl rfl rfl rfl ?_
       refine LexK.off rfl rfl rfl rfl rfl rfl ?_
       refine LexK.q (q_pkT rfl rfl rfl) rfl rfl rfl ?_
       refine LexK.q (q_mvC rfl rfl) rfl rfl rfl ?_
       refine LexK.off rfl rfl rfl rfl rfl rfl ?_
       refine LexK.off rfl rfl rfl rfl rfl rfl ?_
       refine LexK.off rfl rfl rfl rfl rfl rfl ?_
       refine LexK.off rfl rfl rfl rfl rfl rfl ?_
       refine LexK.q (q_pkT rfl rfl rfl) rfl rfl rfl ?_
       refine LexK.nil (by kernel_rfl) ?_
       refine AW.condT rfl ?_
       refine sR ?_
       refine sA ?_
       refine SeqK.nil ?_
       refine AW.ret ?_
       exact fin_x (x := .c _) (H) (.tmp rfl .nil) rfl (fun _ _ h => h) (⟨iCe (if_neg (fun hp => upN (Q := cfQ f c.nn l bs.length) hi (fun ⟨⟨k1, k2⟩, k3, k4, k5, k6⟩ => by simp only [List.length_map] at *; first | omega | (have := k3 (by omega); omega) | (exact nd_t h71 k5) | simp_all) hp.2.1)).symm, rfl⟩)
      ·
       refine LexK.on (q_fieldL _ rfl Fx.fl106_1 rfl rfl) rfl rfl rfl rfl rfl ?_
       refine LexK.rOn (b_load (r := .a _) rfl Fx.ty2 rfl rfl rfl rfl rfl rfl) rfl rfl rfl ?_
       refine LexK.on (q_eql rfl rfl rfl) rfl rfl rfl rfl rfl ?_
       refine LexK.q (q_pkF rfl rfl rfl) rfl rfl rfl ?_
       refine LexK.qD (q_mvC rfl rfl) rfl rfl rfl (fun g66 => ?_) (fun g66 => ?_)
       ·
        refine LexK.off rfl rfl rfl rfl rfl rfl ?_
        refine LexK.off rfl rfl rfl rfl rfl rfl ?_
        refine LexK.off rfl rfl rfl rfl rfl rfl ?_
        refine LexK.off rfl rfl rfl rfl rfl rfl ?_
        refine LexK.q (q_pkT rfl rfl rfl) rfl rfl rfl ?_
        refine LexK.nil (by kernel_rfl) ?_
        refine AW.condT rfl ?_
        refine sR ?_
        refine sA ?_
        refine SeqK.nil ?_
        refine AW.ret ?_
        exact fin_x (x := .c _) (H) (.tmp rfl .nil) rfl (fun _ _ h => h) (⟨iCe (if_neg (fun hp => upN (Q := cfQ f c.nn l bs.length) hi (fun ⟨⟨k1, k2⟩, k3, k4, k5, k6⟩ => by simp only [List.length_map] at *; first | omega | (have := k3 (by omega); omega) | (exact nd_t h71 k5) | simp_all) hp.2.1)).symm, rfl⟩)
       ·
        refine LexK.on (q_fieldL _ rfl Fx.fl106_1 rfl rfl) rfl rfl rfl rfl rfl ?_
        refine LexK.rOn (b_load (r := .a _) rfl Fx.ty2 rfl rfl rfl rfl rfl rfl) rfl rfl rfl ?_
        refine LexK.on (q_call _ rfl Fx.fn51 rfl (within_any _ _ _) rfl) rfl rfl rfl rfl rfl ?_
        refine LexK.on (q_not rfl rfl) rfl rfl rfl rfl rfl ?_
        refine LexK.q (q_pkF rfl rfl rfl) rfl rfl rfl ?_
        refine LexK.nil (by kernel_rfl) ?_
        refine AW.cond _ rfl (fun h71 => ?_) (fun h71 => ?_)
        ·
         refine sR ?_
         refine sA ?_
         refine SeqK.nil ?_
         refine AW.ret ?_
         exact fin_x (x := .c _) (H) (.tmp rfl .nil) rfl (fun _ _ h => h) (⟨iCe (if_neg (fun hp => upN (Q := cfQ f c.nn l bs.length) hi (fun ⟨⟨k1, k2⟩, k3, k4, k5, k6⟩ => by simp only [List.length_map] at *; first | omega | (have := k3 (by omega); omega) | (exact nd_t h71 k5) | simp_all) hp.2.1)).symm, rfl⟩)
        ·
         refine AW.skip ?_
         refine AW.seq ?_
         have hq : (0 ≤ f.cs[i].v ∧ f.cs[i].v < l.length + bs.length) ∧ (∀ (h0 : 0 < i), f.cs[i - 1].v < f.cs[i].v) ∧ f.cs[i].n ≠ 0 ∧ (-1048576 ≤ f.cs[i].n ∧ f.cs[i].n ≤ 1048576) := by
          simp only [List.length_map] at *
          refine ⟨by omega, fun h0 => by omega, by omega, ?_⟩
          first | exact nd_f h71 | simp_all
         have hna : 1 ≤ f.cs[i].n.natAbs ∧ f.cs[i].n.natAbs ≤ 1048576 := by omega
         refine AW.reg ?_
         refine sA ?_
         refine SeqK.nil ?_
         refine AW.seq ?_
         refine sR ?_
         refine SeqK.q (q_fieldL _ rfl Fx.fl106_0 rfl rfl) rfl rfl rfl ?_
         refine SeqK.r (b_load (r := .a _) rfl Fx.ty3 rfl rfl rfl rfl rfl rfl) rfl ?_
         refine sM ?_
         refine SeqK.q (q_len rfl Fx.un29 rfl) rfl rfl rfl ?_
         refine SeqK.q (q_geq rfl rfl rfl) rfl rfl rfl ?_
         refine SeqK.nil ?_
         refine AW.condD rfl (fun h76 => ?_) (fun h76 => ?_)
         ·
          have hv : f.cs[i].v.toNat - l.length < bs.length := by rw [List.length_map] at h76; omega
          have hbn := bnd_hi (n := l.length) (bs := bs) (v := f.cs[i].v) (by rw [List.length_map] at h76; omega) hv
          have hlv : f.cs[i].v < l.length → vty l f.cs[i].v = 1 ∧ f.cs[i].v ∈ c.nn := fun hh => by rw [List.length_map] at h76; omega
          refine AW.reg ?_
          refine sM ?_
          refine SeqK.q (q_fieldL _ rfl Fx.fl106_0 rfl rfl) rfl rfl rfl ?_
          refine SeqK.r (b_load (r := .a _) rfl Fx.ty3 rfl rfl rfl rfl rfl rfl) rfl ?_
          refine sM ?_
          refine SeqK.q (q_len rfl Fx.un29 rfl) rfl rfl rfl ?_
          refine SeqK.q (q_sub _ rfl rfl rfl ((by rw [w64 (by omega) (by omega)]; rw [List.length_map] at *; omega : IntKind.i64.wrap _ = ((f.cs[i].v.toNat - l.length : Nat) : Int)))) rfl rfl rfl ?_
          refine SeqK.q (q_index _ rfl Fx.sl35 rfl rfl (by omega) (idx_map (f := fun b : Nat => i64T (b : Int)) hv)) rfl rfl rfl ?_
          refine SeqK.q (q_load (.a _) rfl Fx.ty2 rfl rfl rfl) rfl rfl rfl ?_
          refine sA ?_
          refine SeqK.nil ?_
          refine AW.seq ?_
          refine AW.seq ?_
          refine AW.wk (Wk.keep 116 [(2, .c (vsC z l)), (3, .c (bsC zb bs)), (4, .lp 4 0), (5, .lp 5 0), (8, .c (iC 0)), (9, iX .i64 ((f.c.natAbs + csum l.length bs (f.cs.take i) : Nat) : Int)), (10, iX .i64 ((i : Nat) : Int)), (11, .lp 11 0), (12, iX .i64 ((bnd l.length bs f.cs[i].v : Nat) : Int))] [(4, .box [.t (.v (.int .i64 f.c)), .t (.sl .un 2 (f.cs.map cfT))]), (5, .box [.t (.sl .un 1 (c.nl.map i64T)), .t (.sl .un 1 (c.nn.map i64T)), .t (.sl .un 4 (c.ax.map axT)), .t (.sl .un 3 (c.is.map ctT)), .t (.sl .un 4 (c.ts.map tsT)), .t (.sl .un 2 (c.sm.map prT)), .t (.sl .un 2 (c.df.map prT))]), (11, .box [.t (.v (.int .i64 f.cs[i].v)), .t (.v (.int .i64 f.cs[i].n))])] (H) rfl ⟨rfl, rfl, rfl, rfl, rfl, rfl, rfl, rfl, by rw [hbn]; rfl, trivial⟩ ⟨rfl, rfl, rfl, trivial⟩ (fun _ _ h => h) rfl) ?_
          refine AW.reg ?_
          refine sM ?_
          refine SeqK.q (q_fieldL _ rfl Fx.fl106_1 rfl rfl) rfl rfl rfl ?_
          refine SeqK.r (b_load (r := .a _) rfl Fx.ty2 rfl rfl rfl rfl rfl rfl) rfl ?_
          refine SeqK.q (q_call _ rfl Fx.fn82 rfl (rabs_any _ (by omega)) rfl) rfl rfl rfl ?_
          refine SeqK.q (q_quo _ rfl rfl rfl (by omega) (quoM hna.1 hna.2)) rfl rfl rfl ?_
          refine SeqK.q (q_gtr rfl rfl rfl) rfl rfl rfl ?_
          refine SeqK.nil ?_
          refine AW.condD rfl (fun h105 => ?_) (fun h105 => ?_)
          ·
           refine sR ?_
           refine sA ?_
           refine SeqK.nil ?_
           refine AW.ret ?_
           exact fin_x (x := .c _) (H) (.tmp rfl .nil) rfl (fun _ _ h => h) (⟨iCe (if_neg (fun hp => absurd hp.2.2 (by have := fsum_gt (n := l.length) (bs := bs) (f := f) (i := i + 1) (by rw [csum_take hi]; have := (quo_gt hna.1).1 h105; omega); omega))).symm, rfl⟩)
          ·
           refine AW.skip ?_
           refine AW.seq ?_
           have hmul : f.cs[i].n.natAbs * bnd l.length bs f.cs[i].v ≤ 1152921504606846977 := Nat.le_of_not_lt fun hh => h105 ((quo_gt hna.1).2 hh)
           refine AW.reg ?_
           refine sM ?_
           refine SeqK.q (q_fieldL _ rfl Fx.fl106_1 rfl rfl) rfl rfl rfl ?_
           refine SeqK.r (b_load (r := .a _) rfl Fx.ty2 rfl rfl rfl rfl rfl rfl) rfl ?_
           refine SeqK.q (q_call _ rfl Fx.fn82 rfl (rabs_any _ (by omega)) rfl) rfl rfl rfl ?_
           refine sM ?_
           refine SeqK.q (q_mul _ rfl rfl rfl (w64mul hmul)) rfl rfl rfl ?_
           refine SeqK.q (q_add _ rfl rfl rfl ((by rw [w64 (by omega) (by omega), csum_take hi]; push_cast; omega : IntKind.i64.wrap _ = ((f.c.natAbs + csum l.length bs (f.cs.take (i + 1)) : Nat) : Int)))) rfl rfl rfl ?_
           refine sA ?_
           refine SeqK.nil ?_
           refine sR ?_
           refine sM ?_
           refine SeqK.q (q_gtr rfl rfl rfl) rfl rfl rfl ?_
           refine SeqK.nil ?_
           refine AW.condD rfl (fun h114 => ?_) (fun h114 => ?_)
           ·
            refine sR ?_
            refine sA ?_
            refine SeqK.nil ?_
            refine AW.ret ?_
            exact fin_x (x := .c _) (H) (.tmp rfl .nil) rfl (fun _ _ h => h) (⟨iCe (if_neg (fun hp => absurd hp.2.2 (by have := fsum_gt (n := l.length) (bs := bs) (f := f) (i := i + 1) (by omega); omega))).symm, rfl⟩)
           ·
            refine AW.skip ?_
            refine AW.reg ?_
            refine sM ?_
            refine SeqK.q (q_add _ rfl rfl rfl (w64 (by omega) (by omega))) rfl rfl rfl ?_
            refine sA ?_
            refine SeqK.nil ?_
            exact ⟨i + 1, _, Wk.keep 116 [(2, .c (vsC z l)), (3, .c (bsC zb bs)), (4, .lp 4 0), (5, .lp 5 0), (8, .c (iC 0)), (9, iX .i64 ((f.c.natAbs + csum l.length bs (f.cs.take (i + 1)) : Nat) : Int)), (10, iX .i64 (((i + 1) : Nat) : Int))] [(4, .box [.t (.v (.int .i64 f.c)), .t (.sl .un 2 (f.cs.map cfT))]), (5, .box [.t (.sl .un 1 (c.nl.map i64T)), .t (.sl .un 1 (c.nn.map i64T)), .t (.sl .un 4 (c.ax.map axT)), .t (.sl .un 3 (c.is.map ctT)), .t (.sl .un 4 (c.ts.map tsT)), .t (.sl .un 2 (c.sm.map prT)), .t (.sl .un 2 (c.df.map prT))])] (H) rfl ⟨rfl, rfl, rfl, rfl, rfl, rfl, rfl, trivial⟩ ⟨rfl, rfl, trivial⟩ (fun _ _ h => h) rfl, by omega, ⟨hi, upS hi hU ⟨hq.1, hq.2.1, hq.2.2.1, hq.2.2.2, hlv⟩, by omega⟩, rfl⟩
         ·
          refine AW.seq ?_
          have hv : f.cs[i].v.toNat < l.length := by rw [List.length_map] at h76; omega
          have hty := vty_at hv
          have hbn := bnd_lo (n := l.length) (bs := bs) (v := f.cs[i].v) (by rw [List.length_map] at h76; omega)
          refine AW.reg ?_
          refine sM ?_
          refine SeqK.q (q_fieldL _ rfl Fx.fl106_0 rfl rfl) rfl rfl rfl ?_
          refine SeqK.r (b_load (r := .a _) rfl Fx.ty3 rfl rfl rfl rfl rfl rfl) rfl ?_
          refine SeqK.q (q_index _ rfl Fx.sl29 rfl rfl (by omega) (idx_map (f := vrT) hv)) rfl rfl rfl ?_
          refine SeqK.q (q_fieldP _ rfl Fx.fl53_0 rfl rfl) rfl rfl rfl ?_
          refine SeqK.q (q_load (.a _) rfl Fx.ty3 rfl rfl rfl) rfl rfl rfl ?_
          refine SeqK.q (q_neq rfl rfl rfl) rfl rfl rfl ?_
          refine SeqK.qD (q_mvC rfl rfl) rfl rfl rfl (fun g92 => ?_) (fun g92 => ?_)
          ·
           refine SeqK.off rfl rfl rfl rfl rfl rfl ?_
           refine SeqK.off rfl rfl rfl rfl rfl rfl ?_
           refine SeqK.off rfl rfl rfl rfl rfl rfl ?_
           refine SeqK.off rfl rfl rfl rfl rfl rfl ?_
           refine SeqK.off rfl rfl rfl rfl rfl rfl ?_
           refine SeqK.off rfl rfl rfl rfl rfl rfl ?_
           refine SeqK.q (q_pkT rfl rfl rfl) rfl rfl rfl ?_
           refine SeqK.nil ?_
           refine AW.condT rfl ?_
           refine sR ?_
           refine sA ?_
           refine SeqK.nil ?_
           refine AW.ret ?_
           exact fin_x (x := .c _) (H) (.tmp rfl .nil) rfl (fun _ _ h => h) (⟨iCe (if_neg (fun hp => upN (Q := cfQ f c.nn l bs.length) hi (fun ⟨⟨k1, k2⟩, k3, k4, k5, k6⟩ => by simp only [List.length_map] at *; have := k6 (by omega); first | (rw [hty] at this; omega) | (exact nd_t h99 this.2)) hp.2.1)).symm, rfl⟩)
          ·
           refine SeqK.on (q_fieldL _ rfl Fx.fl28_1 rfl rfl) rfl rfl rfl rfl rfl ?_
           refine SeqK.rOn (b_load (r := .a _) rfl Fx.ty22 rfl rfl rfl rfl rfl rfl) rfl rfl rfl ?_
           refine SeqK.on (q_fieldL _ rfl Fx.fl106_0 rfl rfl) rfl rfl rfl rfl rfl ?_
           refine SeqK.rOn (b_load (r := .a _) rfl Fx.ty3 rfl rfl rfl rfl rfl rfl) rfl rfl rfl ?_
           refine SeqK.on (q_call _ rfl Fx.fn81 rfl (has_any _ _ _ hn) rfl) rfl rfl rfl rfl rfl ?_
           refine SeqK.on (q_not rfl rfl) rfl rfl rfl rfl rfl ?_
           refine SeqK.q (q_pkF rfl rfl rfl) rfl rfl rfl ?_
           refine SeqK.nil ?_
           refine AW.cond _ rfl (fun h99 => ?_) (fun h99 => ?_)
           ·
            refine sR ?_
            refine sA ?_
            refine SeqK.nil ?_
            refine AW.ret ?_
            exact fin_x (x := .c _) (H) (.tmp rfl .nil) rfl (fun _ _ h => h) (⟨iCe (if_neg (fun hp => upN (Q := cfQ f c.nn l bs.length) hi (fun ⟨⟨k1, k2⟩, k3, k4, k5, k6⟩ => by simp only [List.length_map] at *; have := k6 (by omega); first | (rw [hty] at this; omega) | (exact nd_t h99 this.2)) hp.2.1)).symm, rfl⟩)
           ·
            have hlv : f.cs[i].v < l.length → vty l f.cs[i].v = 1 ∧ f.cs[i].v ∈ c.nn := fun _ => ⟨by rw [hty]; first | omega | exact Classical.not_not.1 g92, nd_f h99⟩
            refine AW.skip ?_
            refine AW.seq ?_
            refine AW.seq ?_
            refine AW.wk (Wk.keep 116 [(2, .c (vsC z l)), (3, .c (bsC zb bs)), (4, .lp 4 0), (5, .lp 5 0), (8, .c (iC 0)), (9, iX .i64 ((f.c.natAbs + csum l.length bs (f.cs.take i) : Nat) : Int)), (10, iX .i64 ((i : Nat) : Int)), (11, .lp 11 0), (12, iX .i64 ((bnd l.length bs f.cs[i].v : Nat) : Int))] [(4, .box [.t (.v (.int .i64 f.c)), .t (.sl .un 2 (f.cs.map cfT))]), (5, .box [.t (.sl .un 1 (c.nl.map i64T)), .t (.sl .un 1 (c.nn.map i64T)), .t (.sl .un 4 (c.ax.map axT)), .t (.sl .un 3 (c.is.map ctT)), .t (.sl .un 4 (c.ts.map tsT)), .t (.sl .un 2 (c.sm.map prT)), .t (.sl .un 2 (c.df.map prT))]), (11, .box [.t (.v (.int .i64 f.cs[i].v)), .t (.v (.int .i64 f.cs[i].n))])] (H) rfl ⟨rfl, rfl, rfl, rfl, rfl, rfl, rfl, rfl, by rw [hbn]; rfl, trivial⟩ ⟨rfl, rfl, rfl, trivial⟩ (fun _ _ h => h) rfl) ?_
            refine AW.reg ?_
            refine sM ?_
            refine SeqK.q (q_fieldL _ rfl Fx.fl106_1 rfl rfl) rfl rfl rfl ?_
            refine SeqK.r (b_load (r := .a _) rfl Fx.ty2 rfl rfl rfl rfl rfl rfl) rfl ?_
            refine SeqK.q (q_call _ rfl Fx.fn82 rfl (rabs_any _ (by omega)) rfl) rfl rfl rfl ?_
            refine SeqK.q (q_quo _ rfl rfl rfl (by omega) (quoM hna.1 hna.2)) rfl rfl rfl ?_
            refine SeqK.q (q_gtr rfl rfl rfl) rfl rfl rfl ?_
            refine SeqK.nil ?_
            refine AW.condD rfl (fun h105 => ?_) (fun h105 => ?_)
            ·
             refine sR ?_
             refine sA ?_
             refine SeqK.nil ?_
             refine AW.ret ?_
             exact fin_x (x := .c _) (H) (.tmp rfl .nil) rfl (fun _ _ h => h) (⟨iCe (if_neg (fun hp => absurd hp.2.2 (by have := fsum_gt (n := l.length) (bs := bs) (f := f) (i := i + 1) (by rw [csum_take hi]; have := (quo_gt hna.1).1 h105; omega); omega))).symm, rfl⟩)
            ·
             refine AW.skip ?_
             refine AW.seq ?_
             have hmul : f.cs[i].n.natAbs * bnd l.length bs f.cs[i].v ≤ 1152921504606846977 := Nat.le_of_not_lt fun hh => h105 ((quo_gt hna.1).2 hh)
             refine AW.reg ?_
             refine sM ?_
             refine SeqK.q (q_fieldL _ rfl Fx.fl106_1 rfl rfl) rfl rfl rfl ?_
             refine SeqK.r (b_load (r := .a _) rfl Fx.ty2 rfl rfl rfl rfl rfl rfl) rfl ?_
             refine SeqK.q (q_call _ rfl Fx.fn82 rfl (rabs_any _ (by omega)) rfl) rfl rfl rfl ?_
             refine sM ?_
             refine SeqK.q (q_mul _ rfl rfl rfl (w64mul hmul)) rfl rfl rfl ?_
             refine SeqK.q (q_add _ rfl rfl rfl ((by rw [w64 (by omega) (by omega), csum_take hi]; push_cast; omega : IntKind.i64.wrap _ = ((f.c.natAbs + csum l.length bs (f.cs.take (i + 1)) : Nat) : Int)))) rfl rfl rfl ?_
             refine sA ?_
             refine SeqK.nil ?_
             refine sR ?_
             refine sM ?_
             refine SeqK.q (q_gtr rfl rfl rfl) rfl rfl rfl ?_
             refine SeqK.nil ?_
             refine AW.condD rfl (fun h114 => ?_) (fun h114 => ?_)
             ·
              refine sR ?_
              refine sA ?_
              refine SeqK.nil ?_
              refine AW.ret ?_
              exact fin_x (x := .c _) (H) (.tmp rfl .nil) rfl (fun _ _ h => h) (⟨iCe (if_neg (fun hp => absurd hp.2.2 (by have := fsum_gt (n := l.length) (bs := bs) (f := f) (i := i + 1) (by omega); omega))).symm, rfl⟩)
             ·
              refine AW.skip ?_
              refine AW.reg ?_
              refine sM ?_
              refine SeqK.q (q_add _ rfl rfl rfl (w64 (by omega) (by omega))) rfl rfl rfl ?_
              refine sA ?_
              refine SeqK.nil ?_
              exact ⟨i + 1, _, Wk.keep 116 [(2, .c (vsC z l)), (3, .c (bsC zb bs)), (4, .lp 4 0), (5, .lp 5 0), (8, .c (iC 0)), (9, iX .i64 ((f.c.natAbs + csum l.length bs (f.cs.take (i + 1)) : Nat) : Int)), (10, iX .i64 (((i + 1) : Nat) : Int))] [(4, .box [.t (.v (.int .i64 f.c)), .t (.sl .un 2 (f.cs.map cfT))]), (5, .box [.t (.sl .un 1 (c.nl.map i64T)), .t (.sl .un 1 (c.nn.map i64T)), .t (.sl .un 4 (c.ax.map axT)), .t (.sl .un 3 (c.is.map ctT)), .t (.sl .un 4 (c.ts.map tsT)), .t (.sl .un 2 (c.sm.map prT)), .t (.sl .un 2 (c.df.map prT))])] (H) rfl ⟨rfl, rfl, rfl, rfl, rfl, rfl, rfl, trivial⟩ ⟨rfl, rfl, trivial⟩ (fun _ _ h => h) rfl, by omega, ⟨hi, upS hi hU ⟨hq.1, hq.2.1, hq.2.2.1, hq.2.2.2, hlv⟩, by omega⟩, rfl⟩
     ·
      refine LexK.off rfl rfl rfl rfl rfl rfl ?_
      refine LexK.off rfl rfl rfl rfl rfl rfl ?_
      refine LexK.off rfl rfl rfl rfl rfl rfl ?_
      refine LexK.off rfl rfl rfl rfl rfl rfl ?_
      refine LexK.off rfl rfl rfl rfl rfl rfl ?_
      refine LexK.off rfl rfl rfl rfl rfl rfl ?_
      refine LexK.off rfl rfl rfl rfl rfl rfl ?_
      refine LexK.off rfl rfl rfl rfl rfl rfl ?_
      refine LexK.off rfl rfl rfl rfl rfl rfl ?_
      refine LexK.off rfl rfl rfl rfl rfl rfl ?_
      refine LexK.on (q_pkF rfl rfl rfl) rfl rfl rfl rfl rfl ?_
      refine LexK.q (q_pkF rfl rfl rfl) rfl rfl rfl ?_
      refine LexK.q (q_mvC rfl rfl) rfl rfl rfl ?_
      refine LexK.on (q_fieldL _ rfl Fx.fl106_1 rfl rfl) rfl rfl rfl rfl rfl ?_
      refine LexK.rOn (b_load (r := .a _) rfl Fx.ty2 rfl rfl rfl rfl rfl rfl) rfl rfl rfl ?_
      refine LexK.on (q_eql rfl rfl rfl) rfl rfl rfl rfl rfl ?_
      refine LexK.q (q_pkF rfl rfl rfl) rfl rfl rfl ?_
      refine LexK.qD (q_mvC rfl rfl) rfl rfl rfl (fun g66 => ?_) (fun g66 => ?_)
      ·
       refine LexK.off rfl rfl rfl rfl rfl rfl ?_
       refine LexK.off rfl rfl rfl rfl rfl rfl ?_
       refine LexK.off rfl rfl rfl rfl rfl rfl ?_
       refine LexK.off rfl rfl rfl rfl rfl rfl ?_
       refine LexK.q (q_pkT rfl rfl rfl) rfl rfl rfl ?_
       refine LexK.nil (by kernel_rfl) ?_
       refine AW.condT rfl ?_
       refine sR ?_
       refine sA ?_
       refine SeqK.nil ?_
       refine AW.ret ?_
       exact fin_x (x := .c _) (H) (.tmp rfl .nil) rfl (fun _ _ h => h) (⟨iCe (if_neg (fun hp => upN (Q := cfQ f c.nn l bs.length) hi (fun ⟨⟨k1, k2⟩, k3, k4, k5, k6⟩ => by simp only [List.length_map] at *; first | omega | (have := k3 (by omega); omega) | (exact nd_t h71 k5) | simp_all) hp.2.1)).symm, rfl⟩)
      ·
       refine LexK.on (q_fieldL _ rfl Fx.fl106_1 rfl rfl) rfl rfl rfl rfl rfl ?_
       refine LexK.rOn (b_load (r := .a _) rfl Fx.ty2 rfl rfl rfl rfl rfl rfl) rfl rfl rfl ?_
       refine LexK.on (q_call _ rfl Fx.fn51 rfl (within_any _ _ _) rfl) rfl rfl rfl rfl rfl ?_
       refine LexK.on (q_not rfl rfl) rfl rfl rfl rfl rfl ?_
       refine LexK.q (q_pkF rfl rfl rfl) rfl rfl rfl ?_
       refine LexK.nil (by kernel_rfl) ?_
       refine AW.cond _ rfl (fun h71 => ?_) (fun h71 => ?_)
       ·
        refine sR ?_
        refine sA ?_
        refine SeqK.nil ?_
        refine AW.ret ?_
        exact fin_x (x := .c _) (H) (.tmp rfl .nil) rfl (fun _ _ h => h) (⟨iCe (if_neg (fun hp => upN (Q := cfQ f c.nn l bs.length) hi (fun ⟨⟨k1, k2⟩, k3, k4, k5, k6⟩ => by simp only [List.length_map] at *; first | omega | (have := k3 (by omega); omega) | (exact nd_t h71 k5) | simp_all) hp.2.1)).symm, rfl⟩)
       ·
        refine AW.skip ?_
        refine AW.seq ?_
        have hq : (0 ≤ f.cs[i].v ∧ f.cs[i].v < l.length + bs.length) ∧ (∀ (h0 : 0 < i), f.cs[i - 1].v < f.cs[i].v) ∧ f.cs[i].n ≠ 0 ∧ (-1048576 ≤ f.cs[i].n ∧ f.cs[i].n ≤ 1048576) := by
         simp only [List.length_map] at *
         refine ⟨by omega, fun h0 => by omega, by omega, ?_⟩
         first | exact nd_f h71 | simp_all
        have hna : 1 ≤ f.cs[i].n.natAbs ∧ f.cs[i].n.natAbs ≤ 1048576 := by omega
        refine AW.reg ?_
        refine sA ?_
        refine SeqK.nil ?_
        refine AW.seq ?_
        refine sR ?_
        refine SeqK.q (q_fieldL _ rfl Fx.fl106_0 rfl rfl) rfl rfl rfl ?_
        refine SeqK.r (b_load (r := .a _) rfl Fx.ty3 rfl rfl rfl rfl rfl rfl) rfl ?_
        refine sM ?_
        refine SeqK.q (q_len rfl Fx.un29 rfl) rfl rfl rfl ?_
        refine SeqK.q (q_geq rfl rfl rfl) rfl rfl rfl ?_
        refine SeqK.nil ?_
        refine AW.condD rfl (fun h76 => ?_) (fun h76 => ?_)
        ·
         have hv : f.cs[i].v.toNat - l.length < bs.length := by rw [List.length_map] at h76; omega
         have hbn := bnd_hi (n := l.length) (bs := bs) (v := f.cs[i].v) (by rw [List.length_map] at h76; omega) hv
         have hlv : f.cs[i].v < l.length → vty l f.cs[i].v = 1 ∧ f.cs[i].v ∈ c.nn := fun hh => by rw [List.length_map] at h76; omega
         refine AW.reg ?_
         refine sM ?_
         refine SeqK.q (q_fieldL _ rfl Fx.fl106_0 rfl rfl) rfl rfl rfl ?_
         refine SeqK.r (b_load (r := .a _) rfl Fx.ty3 rfl rfl rfl rfl rfl rfl) rfl ?_
         refine sM ?_
         refine SeqK.q (q_len rfl Fx.un29 rfl) rfl rfl rfl ?_
         refine SeqK.q (q_sub _ rfl rfl rfl ((by rw [w64 (by omega) (by omega)]; rw [List.length_map] at *; omega : IntKind.i64.wrap _ = ((f.cs[i].v.toNat - l.length : Nat) : Int)))) rfl rfl rfl ?_
         refine SeqK.q (q_index _ rfl Fx.sl35 rfl rfl (by omega) (idx_map (f := fun b : Nat => i64T (b : Int)) hv)) rfl rfl rfl ?_
         refine SeqK.q (q_load (.a _) rfl Fx.ty2 rfl rfl rfl) rfl rfl rfl ?_
         refine sA ?_
         refine SeqK.nil ?_
         refine AW.seq ?_
         refine AW.seq ?_
         refine AW.wk (Wk.keep 116 [(2, .c (vsC z l)), (3, .c (bsC zb bs)), (4, .lp 4 0), (5, .lp 5 0), (8, .c (iC 0)), (9, iX .i64 ((f.c.natAbs + csum l.length bs (f.cs.take i) : Nat) : Int)), (10, iX .i64 ((i : Nat) : Int)), (11, .lp 11 0), (12, iX .i64 ((bnd l.length bs f.cs[i].v : Nat) : Int))] [(4, .box [.t (.v (.int .i64 f.c)), .t (.sl .un 2 (f.cs.map cfT))]), (5, .box [.t (.sl .un 1 (c.nl.map i64T)), .t (.sl .un 1 (c.nn.map i64T)), .t (.sl .un 4 (c.ax.map axT)), .t (.sl .un 3 (c.is.map ctT)), .t (.sl .un 4 (c.ts.map tsT)), .t (.sl .un 2 (c.sm.map prT)), .t (.sl .un 2 (c.df.map prT))]), (11, .box [.t (.v (.int .i64 f.cs[i].v)), .t (.v (.int .i64 f.cs[i].n))])] (H) rfl ⟨rfl, rfl, rfl, rfl, rfl, rfl, rfl, rfl, by rw [hbn]; rfl, trivial⟩ ⟨rfl, rfl, rfl, trivial⟩ (fun _ _ h => h) rfl) ?_
         refine AW.reg ?_
         refine sM ?_
         refine SeqK.q (q_fieldL _ rfl Fx.fl106_1 rfl rfl) rfl rfl rfl ?_
         refine SeqK.r (b_load (r := .a _) rfl Fx.ty2 rfl rfl rfl rfl rfl rfl) rfl ?_
         refine SeqK.q (q_call _ rfl Fx.fn82 rfl (rabs_any _ (by omega)) rfl) rfl rfl rfl ?_
         refine SeqK.q (q_quo _ rfl rfl rfl (by omega) (quoM hna.1 hna.2)) rfl rfl rfl ?_
         refine SeqK.q (q_gtr rfl rfl rfl) rfl rfl rfl ?_
         refine SeqK.nil ?_
         refine AW.condD rfl (fun h105 => ?_) (fun h105 => ?_)
         ·
          refine sR ?_
          refine sA ?_
          refine SeqK.nil ?_
          refine AW.ret ?_
          exact fin_x (x := .c _) (H) (.tmp rfl .nil) rfl (fun _ _ h => h) (⟨iCe (if_neg (fun hp => absurd hp.2.2 (by have := fsum_gt (n := l.length) (bs := bs) (f := f) (i := i + 1) (by rw [csum_take hi]; have := (quo_gt hna.1).1 h105; omega); omega))).symm, rfl⟩)
         ·
          refine AW.skip ?_
          refine AW.seq ?_
          have hmul : f.cs[i].n.natAbs * bnd l.length bs f.cs[i].v ≤ 1152921504606846977 := Nat.le_of_not_lt fun hh => h105 ((quo_gt hna.1).2 hh)
          refine AW.reg ?_
          refine sM ?_
          refine SeqK.q (q_fieldL _ rfl Fx.fl106_1 rfl rfl) rfl rfl rfl ?_
          refine SeqK.r (b_load (r := .a _) rfl Fx.ty2 rfl rfl rfl rfl rfl rfl) rfl ?_
          refine SeqK.q (q_call _ rfl Fx.fn82 rfl (rabs_any _ (by omega)) rfl) rfl rfl rfl ?_
          refine sM ?_
          refine SeqK.q (q_mul _ rfl rfl rfl (w64mul hmul)) rfl rfl rfl ?_
          refine SeqK.q (q_add _ rfl rfl rfl ((by rw [w64 (by omega) (by omega), csum_take hi]; push_cast; omega : IntKind.i64.wrap _ = ((f.c.natAbs + csum l.length bs (f.cs.take (i + 1)) : Nat) : Int)))) rfl rfl rfl ?_
          refine sA ?_
          refine SeqK.nil ?_
          refine sR ?_
          refine sM ?_
          refine SeqK.q (q_gtr rfl rfl rfl) rfl rfl rfl ?_
          refine SeqK.nil ?_
          refine AW.condD rfl (fun h114 => ?_) (fun h114 => ?_)
          ·
           refine sR ?_
           refine sA ?_
           refine SeqK.nil ?_
           refine AW.ret ?_
           exact fin_x (x := .c _) (H) (.tmp rfl .nil) rfl (fun _ _ h => h) (⟨iCe (if_neg (fun hp => absurd hp.2.2 (by have := fsum_gt (n := l.length) (bs := bs) (f := f) (i := i + 1) (by omega); omega))).symm, rfl⟩)
          ·
           refine AW.skip ?_
           refine AW.reg ?_
           refine sM ?_
           refine SeqK.q (q_add _ rfl rfl rfl (w64 (by omega) (by omega))) rfl rfl rfl ?_
           refine sA ?_
           refine SeqK.nil ?_
           exact ⟨i + 1, _, Wk.keep 116 [(2, .c (vsC z l)), (3, .c (bsC zb bs)), (4, .lp 4 0), (5, .lp 5 0), (8, .c (iC 0)), (9, iX .i64 ((f.c.natAbs + csum l.length bs (f.cs.take (i + 1)) : Nat) : Int)), (10, iX .i64 (((i + 1) : Nat) : Int))] [(4, .box [.t (.v (.int .i64 f.c)), .t (.sl .un 2 (f.cs.map cfT))]), (5, .box [.t (.sl .un 1 (c.nl.map i64T)), .t (.sl .un 1 (c.nn.map i64T)), .t (.sl .un 4 (c.ax.map axT)), .t (.sl .un 3 (c.is.map ctT)), .t (.sl .un 4 (c.ts.map tsT)), .t (.sl .un 2 (c.sm.map prT)), .t (.sl .un 2 (c.df.map prT))])] (H) rfl ⟨rfl, rfl, rfl, rfl, rfl, rfl, rfl, trivial⟩ ⟨rfl, rfl, trivial⟩ (fun _ _ h => h) rfl, by omega, ⟨hi, upS hi hU ⟨hq.1, hq.2.1, hq.2.2.1, hq.2.2.2, hlv⟩, by omega⟩, rfl⟩
        ·
         refine AW.seq ?_
         have hv : f.cs[i].v.toNat < l.length := by rw [List.length_map] at h76; omega
         have hty := vty_at hv
         have hbn := bnd_lo (n := l.length) (bs := bs) (v := f.cs[i].v) (by rw [List.length_map] at h76; omega)
         refine AW.reg ?_
         refine sM ?_
         refine SeqK.q (q_fieldL _ rfl Fx.fl106_0 rfl rfl) rfl rfl rfl ?_
         refine SeqK.r (b_load (r := .a _) rfl Fx.ty3 rfl rfl rfl rfl rfl rfl) rfl ?_
         refine SeqK.q (q_index _ rfl Fx.sl29 rfl rfl (by omega) (idx_map (f := vrT) hv)) rfl rfl rfl ?_
         refine SeqK.q (q_fieldP _ rfl Fx.fl53_0 rfl rfl) rfl rfl rfl ?_
         refine SeqK.q (q_load (.a _) rfl Fx.ty3 rfl rfl rfl) rfl rfl rfl ?_
         refine SeqK.q (q_neq rfl rfl rfl) rfl rfl rfl ?_
         refine SeqK.qD (q_mvC rfl rfl) rfl rfl rfl (fun g92 => ?_) (fun g92 => ?_)
         ·
          refine SeqK.off rfl rfl rfl rfl rfl rfl ?_
          refine SeqK.off rfl rfl rfl rfl rfl rfl ?_
          refine SeqK.off rfl rfl rfl rfl rfl rfl ?_
          refine SeqK.off rfl rfl rfl rfl rfl rfl ?_
          refine SeqK.off rfl rfl rfl rfl rfl rfl ?_
          refine SeqK.off rfl rfl rfl rfl rfl rfl ?_
          refine SeqK.q (q_pkT rfl rfl rfl) rfl rfl rfl ?_
          refine SeqK.nil ?_
          refine AW.condT rfl ?_
          refine sR ?_
          refine sA ?_
          refine SeqK.nil ?_
          refine AW.ret ?_
          exact fin_x (x := .c _) (H) (.tmp rfl .nil) rfl (fun _ _ h => h) (⟨iCe (if_neg (fun hp => upN (Q := cfQ f c.nn l bs.length) hi (fun ⟨⟨k1, k2⟩, k3, k4, k5, k6⟩ => by simp only [List.length_map] at *; have := k6 (by omega); first | (rw [hty] at this; omega) | (exact nd_t h99 this.2)) hp.2.1)).symm, rfl⟩)
         ·
          refine SeqK.on (q_fieldL _ rfl Fx.fl28_1 rfl rfl) rfl rfl rfl rfl rfl ?_
          refine SeqK.rOn (b_load (r := .a _) rfl Fx.ty22 rfl rfl rfl rfl rfl rfl) rfl rfl rfl ?_
          refine SeqK.on (q_fieldL _ rfl Fx.fl106_0 rfl rfl) rfl rfl rfl rfl rfl ?_
          refine SeqK.rOn (b_load (r := .a _) rfl Fx.ty3 rfl rfl rfl rfl rfl rfl) rfl rfl rfl ?_
          refine SeqK.on (q_call _ rfl Fx.fn81 rfl (has_any _ _ _ hn) rfl) rfl rfl rfl rfl rfl ?_
          refine SeqK.on (q_not rfl rfl) rfl rfl rfl rfl rfl ?_
          refine SeqK.q (q_pkF rfl rfl rfl) rfl rfl rfl ?_
          refine SeqK.nil ?_
          refine AW.cond _ rfl (fun h99 => ?_) (fun h99 => ?_)
          ·
           refine sR ?_
           refine sA ?_
           refine SeqK.nil ?_
           refine AW.ret ?_
           exact fin_x (x := .c _) (H) (.tmp rfl .nil) rfl (fun _ _ h => h) (⟨iCe (if_neg (fun hp => upN (Q := cfQ f c.nn l bs.length) hi (fun ⟨⟨k1, k2⟩, k3, k4, k5, k6⟩ => by simp only [List.length_map] at *; have := k6 (by omega); first | (rw [hty] at this; omega) | (exact nd_t h99 this.2)) hp.2.1)).symm, rfl⟩)
          ·
           have hlv : f.cs[i].v < l.length → vty l f.cs[i].v = 1 ∧ f.cs[i].v ∈ c.nn := fun _ => ⟨by rw [hty]; first | omega | exact Classical.not_not.1 g92, nd_f h99⟩
           refine AW.skip ?_
           refine AW.seq ?_
           refine AW.seq ?_
           refine AW.wk (Wk.keep 116 [(2, .c (vsC z l)), (3, .c (bsC zb bs)), (4, .lp 4 0), (5, .lp 5 0), (8, .c (iC 0)), (9, iX .i64 ((f.c.natAbs + csum l.length bs (f.cs.take i) : Nat) : Int)), (10, iX .i64 ((i : Nat) : Int)), (11, .lp 11 0), (12, iX .i64 ((bnd l.length bs f.cs[i].v : Nat) : Int))] [(4, .box [.t (.v (.int .i64 f.c)), .t (.sl .un 2 (f.cs.map cfT))]), (5, .box [.t (.sl .un 1 (c.nl.map i64T)), .t (.sl .un 1 (c.nn.map i64T)), .t (.sl .un 4 (c.ax.map axT)), .t (.sl .un 3 (c.is.map ctT)), .t (.sl .un 4 (c.ts.map tsT)), .t (.sl .un 2 (c.sm.map prT)), .t (.sl .un 2 (c.df.map prT))]), (11, .box [.t (.v (.int .i64 f.cs[i].v)), .t (.v (.int .i64 f.cs[i].n))])] (H) rfl ⟨rfl, rfl, rfl, rfl, rfl, rfl, rfl, rfl, by rw [hbn]; rfl, trivial⟩ ⟨rfl, rfl, rfl, trivial⟩ (fun _ _ h => h) rfl) ?_
           refine AW.reg ?_
           refine sM ?_
           refine SeqK.q (q_fieldL _ rfl Fx.fl106_1 rfl rfl) rfl rfl rfl ?_
           refine SeqK.r (b_load (r := .a _) rfl Fx.ty2 rfl rfl rfl rfl rfl rfl) rfl ?_
           refine SeqK.q (q_call _ rfl Fx.fn82 rfl (rabs_any _ (by omega)) rfl) rfl rfl rfl ?_
           refine SeqK.q (q_quo _ rfl rfl rfl (by omega) (quoM hna.1 hna.2)) rfl rfl rfl ?_
           refine SeqK.q (q_gtr rfl rfl rfl) rfl rfl rfl ?_
           refine SeqK.nil ?_
           refine AW.condD rfl (fun h105 => ?_) (fun h105 => ?_)
           ·
            refine sR ?_
            refine sA ?_
            refine SeqK.nil ?_
            refine AW.ret ?_
            exact fin_x (x := .c _) (H) (.tmp rfl .nil) rfl (fun _ _ h => h) (⟨iCe (if_neg (fun hp => absurd hp.2.2 (by have := fsum_gt (n := l.length) (bs := bs) (f := f) (i := i + 1) (by rw [csum_take hi]; have := (quo_gt hna.1).1 h105; omega); omega))).symm, rfl⟩)
           ·
            refine AW.skip ?_
            refine AW.seq ?_
            have hmul : f.cs[i].n.natAbs * bnd l.length bs f.cs[i].v ≤ 1152921504606846977 := Nat.le_of_not_lt fun hh => h105 ((quo_gt hna.1).2 hh)
            refine AW.reg ?_
            refine sM ?_
            refine SeqK.q (q_fieldL _ rfl Fx.fl106_1 rfl rfl) rfl rfl rfl ?_
            refine SeqK.r (b_load (r := .a _) rfl Fx.ty2 rfl rfl rfl rfl rfl rfl) rfl ?_
            refine SeqK.q (q_call _ rfl Fx.fn82 rfl (rabs_any _ (by omega)) rfl) rfl rfl rfl ?_
            refine sM ?_
            refine SeqK.q (q_mul _ rfl rfl rfl (w64mul hmul)) rfl rfl rfl ?_
            refine SeqK.q (q_add _ rfl rfl rfl ((by rw [w64 (by omega) (by omega), csum_take hi]; push_cast; omega : IntKind.i64.wrap _ = ((f.c.natAbs + csum l.length bs (f.cs.take (i + 1)) : Nat) : Int)))) rfl rfl rfl ?_
            refine sA ?_
            refine SeqK.nil ?_
            refine sR ?_
            refine sM ?_
            refine SeqK.q (q_gtr rfl rfl rfl) rfl rfl rfl ?_
            refine SeqK.nil ?_
            refine AW.condD rfl (fun h114 => ?_) (fun h114 => ?_)
            ·
             refine sR ?_
             refine sA ?_
             refine SeqK.nil ?_
             refine AW.ret ?_
             exact fin_x (x := .c _) (H) (.tmp rfl .nil) rfl (fun _ _ h => h) (⟨iCe (if_neg (fun hp => absurd hp.2.2 (by have := fsum_gt (n := l.length) (bs := bs) (f := f) (i := i + 1) (by omega); omega))).symm, rfl⟩)
            ·
             refine AW.skip ?_
             refine AW.reg ?_
             refine sM ?_
             refine SeqK.q (q_add _ rfl rfl rfl (w64 (by omega) (by omega))) rfl rfl rfl ?_
             refine sA ?_
             refine SeqK.nil ?_
             exact ⟨i + 1, _, Wk.keep 116 [(2, .c (vsC z l)), (3, .c (bsC zb bs)), (4, .lp 4 0), (5, .lp 5 0), (8, .c (iC 0)), (9, iX .i64 ((f.c.natAbs + csum l.length bs (f.cs.take (i + 1)) : Nat) : Int)), (10, iX .i64 (((i + 1) : Nat) : Int))] [(4, .box [.t (.v (.int .i64 f.c)), .t (.sl .un 2 (f.cs.map cfT))]), (5, .box [.t (.sl .un 1 (c.nl.map i64T)), .t (.sl .un 1 (c.nn.map i64T)), .t (.sl .un 4 (c.ax.map axT)), .t (.sl .un 3 (c.is.map ctT)), .t (.sl .un 4 (c.ts.map tsT)), .t (.sl .un 2 (c.sm.map prT)), .t (.sl .un 2 (c.df.map prT))])] (H) rfl ⟨rfl, rfl, rfl, rfl, rfl, rfl, rfl, trivial⟩ ⟨rfl, rfl, trivial⟩ (fun _ _ h => h) rfl, by omega, ⟨hi, upS hi hU ⟨hq.1, hq.2.1, hq.2.2.1, hq.2.2.2, hlv⟩, by omega⟩, rfl⟩
  ·
   refine AW.exit ?_
   refine eth_e ?_
   refine eth_e ?_
   refine exit_here ?_
   refine sR ?_
   refine sM ?_
   refine sA ?_
   refine SeqK.nil ?_
   refine AW.ret ?_
   exact fin_x (x := .c _) (H) (.tmp rfl .nil) rfl (fun _ _ h => h) (⟨iCe (by have hil : f.cs.take i = f.cs := List.take_of_length_le (by rw [List.length_map] at h24; omega); rw [hil] at hS ⊢; rw [formV, if_pos ⟨k16, upE hU (by rw [List.length_map] at h24; omega), hS⟩]; rfl), rfl⟩)

end Go.Proofs.Ytnmfjojhgfipcaa.W
namespace Go.Proofs.Ytnmfjojhgfipcaa.W
open Go.RowKit E
set_option linter.unusedVariables false
set_option linter.unusedSimpArgs false
set_option linter.unusedSectionVars false
abbrev axQ (c : Cl) (l : List Vr) (bs : List Nat) (a : Ax) : Prop :=
  (a.b = 0 ∧ a.f.cs.length = 0 ∧ a.f.c = 0 ∧ txtP a.t c.nn l) ∨ (a.b ≠ 0 ∧ formP a.f c.nn l bs ∧ (1 ≤ a.b ∧ a.b ≤ 1000) ∧ a.t = 0)
def nb (n : Nat) (bs : List Nat) (a : Ax) : Nat := if a.b = 0 then 16 else fsum n bs a.f / a.b.toNat + 1
def bsF (n : Nat) (axs : List Ax) : List Nat := axs.foldl (fun bs a => bs ++ [nb n bs a]) []
theorem bsF_take {n : Nat} {l : List Ax} {i : Nat} (h : i < l.length) : bsF n (l.take (i + 1)) = bsF n (l.take i) ++ [nb n (bsF n (l.take i)) l[i]] := by
  rw [List.take_succ_eq_append_getElem h, bsF, List.foldl_append]; rfl
theorem bsF_len (n : Nat) (l : List Ax) : (bsF n l).length = l.length := by
  have key : ∀ (l : List Ax) (bs : List Nat), (l.foldl (fun bs a => bs ++ [nb n bs a]) bs).length = bs.length + l.length := by
    intro l
    induction l with
    | nil => intro bs; simp
    | cons a r ih => intro bs; rw [List.foldl_cons, ih]; simp; omega
  have := key l []
  simpa [bsF] using this
abbrev vldP (c : Cl) (l : List Vr) : Prop :=
  ascP c.nl (l.length : Int) ∧ ascP c.nn (l.length : Int) ∧ (∀ j (h : j < c.ax.length), axQ c l (bsF l.length (c.ax.take j)) c.ax[j]) ∧
  (∀ j (h : j < c.is.length), formP c.is[j].f c.nn l (bsF l.length c.ax)) ∧ (∀ j (h : j < c.ts.length), tstP c.ts[j] ∧ txtP c.ts[j].v c.nn l) ∧ prP c.sm c.nn l ∧ prP c.df c.nn l
theorem asc_len (l : List Int) (z : Nz) (vs : List Vr) (hL : l.length ≤ 17592186044000) : Pure Try.prog 48 [iL z l, iC (((vs.map vrT).length : Nat) : Int)] (.c (bC (decide (ascP l (vs.length : Int))))) := by
  rw [List.length_map]; exact asc_any l z _ hL
instance vldDec (c : Cl) (l : List Vr) : Decidable (vldP c l) :=
  @instDecidableAnd _ _ inferInstance (@instDecidableAnd _ _ inferInstance (@instDecidableAnd _ _ (inferInstanceAs (Decidable (∀ j (h : j < c.ax.length), axQ c l (bsF l.length (c.ax.take j)) c.ax[j]))) (@instDecidableAnd _ _ (inferInstanceAs (Decidable (∀ j (h : j < c.is.length), formP c.is[j].f c.nn l (bsF l.length c.ax)))) (@instDecidableAnd _ _ (inferInstanceAs (Decidable (∀ j (h : j < c.ts.length), tstP c.ts[j] ∧ txtP c.ts[j].v c.nn l))) (inferInstanceAs (Decidable (prP c.sm c.nn l ∧ prP c.df c.nn l)))))))
theorem formV_neg {f : Lf} {nn : List Int} {l : List Vr} {bs : List Nat} : formV f nn l bs < 0 ↔ ¬ formP f nn l bs := by
  unfold formV; split <;> rename_i h
  · exact ⟨fun h' => by omega, fun h' => absurd h h'⟩
  · exact ⟨fun _ => h, fun _ => by decide⟩
theorem formV_pos {f : Lf} {nn : List Int} {l : List Vr} {bs : List Nat} (h : formP f nn l bs) : formV f nn l bs = (fsum l.length bs f : Int) := if_pos h
theorem quoB {a : Nat} {b : Int} (ha : a ≤ 1152921504606846977) (h1 : 1 ≤ b) : IntKind.i64.wrap ((a : Int).tdiv b) = ((a / b.toNat : Nat) : Int) := by
  obtain ⟨m, rfl⟩ := Int.eq_ofNat_of_zero_le (show 0 ≤ b by omega)
  have h1 : (a : Int).tdiv (m : Int) = ((a / m : Nat) : Int) := rfl
  have h2 : ((a / m : Nat) : Int) ≤ ((1152921504606846977 : Nat) : Int) := by exact_mod_cast Nat.le_trans (Nat.div_le_self a m) ha
  have h0 : (0 : Int) ≤ ((a / m : Nat) : Int) := Int.natCast_nonneg _
  rw [h1, w64 (by generalize ((a / m : Nat) : Int) = q at *; omega) (by generalize ((a / m : Nat) : Int) = q at *; omega)]; rfl
theorem mlen {α β : Type} (f : α → β) (l : List α) : (l.map f).length = l.length := List.length_map _

set_option maxHeartbeats 8000000 in
set_option maxRecDepth 20000 in
theorem rvalid_any (c : Cl) (l : List Vr) (z : Nz) (hc : rgC c) (hl : l.length ≤ 17592186044000) : Pure Try.prog 20 [clC c, vsC z l] (.c (bC (decide (vldP c l)))) := by
 intro H
 refine Spec.enter Try.func20 rfl ?_
 refine AW.wk (Wk.keep 145 [(0, .c (clC c)), (1, .c (vsC z l))] [] (H) rfl ⟨rfl, rfl, trivial⟩ trivial (fun _ _ h => h) rfl) ?_
 refine sR ?_
 refine SeqK.r (b_box (r := [_, _, _, _, _, _, _]) rfl rfl rfl rfl rfl rfl) rfl ?_
 refine sA ?_
 refine SeqK.nil ?_
 refine AW.seq ?_
 refine AW.seq ?_
 have q1 := hc.ax
 have q2 := hc.is
 have q3 := hc.ts
 refine AW.reg ?_
 refine SeqK.q (q_fieldL _ rfl Fx.fl28_0 rfl rfl) rfl rfl rfl ?_
 refine SeqK.r (b_load (r := .a _) rfl Fx.ty22 rfl rfl rfl rfl rfl rfl) rfl ?_
 refine sM ?_
 refine SeqK.q (q_len rfl Fx.un29 rfl) rfl rfl rfl ?_
 refine SeqK.q (q_call _ rfl Fx.fn48 rfl (asc_len c.nl _ l hc.nl) rfl) rfl rfl rfl ?_
 refine SeqK.q (q_not rfl rfl) rfl rfl rfl ?_
 refine SeqK.qB (q_mvC rfl rfl) rfl rfl rfl (fun g17 => ?_) (fun g17 => ?_)
 ·
  refine SeqK.off rfl rfl rfl rfl rfl rfl ?_
  refine SeqK.off rfl rfl rfl rfl rfl rfl ?_
  refine SeqK.off rfl rfl rfl rfl rfl rfl ?_
  refine SeqK.off rfl rfl rfl rfl rfl rfl ?_
  refine SeqK.off rfl rfl rfl rfl rfl rfl ?_
  refine SeqK.off rfl rfl rfl rfl rfl rfl ?_
  refine SeqK.q (q_pkT rfl rfl rfl) rfl rfl rfl ?_
  refine SeqK.nil ?_
  refine AW.condT rfl ?_
  refine sR ?_
  refine sA ?_
  refine SeqK.nil ?_
  refine AW.ret ?_
  exact fin_x (x := .c _) (H) (.tmp rfl .nil) rfl (fun _ _ h => h) (⟨bCe (dF (fun hv => by first | exact nd_t g17 hv.1 | exact nd_t h24 hv.2.1 | simp_all)), rfl⟩)
 ·
  refine SeqK.on (q_fieldL _ rfl Fx.fl28_1 rfl rfl) rfl rfl rfl rfl rfl ?_
  refine SeqK.rOn (b_load (r := .a _) rfl Fx.ty22 rfl rfl rfl rfl rfl rfl) rfl rfl rfl ?_
  refine SeqK.on (q_mvC rfl rfl) rfl rfl rfl rfl rfl ?_
  refine SeqK.on (q_len rfl Fx.un29 rfl) rfl rfl rfl rfl rfl ?_
  refine SeqK.on (q_call _ rfl Fx.fn48 rfl (asc_len c.nn _ l hc.nn) rfl) rfl rfl rfl rfl rfl ?_
  refine SeqK.on (q_not rfl rfl) rfl rfl rfl rfl rfl ?_
  refine SeqK.q (q_pkF rfl rfl rfl) rfl rfl rfl ?_
  refine SeqK.nil ?_
  refine AW.cond _ rfl (fun h24 => ?_) (fun h24 => ?_)
  ·
   refine sR ?_
   refine sA ?_
   refine SeqK.nil ?_
   refine AW.ret ?_
   exact fin_x (x := .c _) (H) (.tmp rfl .nil) rfl (fun _ _ h => h) (⟨bCe (dF (fun hv => by first | exact nd_t g17 hv.1 | exact nd_t h24 hv.2.1 | simp_all)), rfl⟩)
  ·
   refine AW.skip ?_
   refine AW.seq ?_
   have hA : ascP c.nl (l.length : Int) := by simpa using g17
   have hB : ascP c.nn (l.length : Int) := by simpa using h24
   refine AW.reg ?_
   refine sA ?_
   refine SeqK.nil ?_
   refine AW.seq ?_
   refine sR ?_
   refine sA ?_
   refine SeqK.nil ?_
   refine AW.block ?_
   refine AW.tip 5 2 1 rfl (fun k0 hk0 => ?_)
   refine AW.loop (fun (i : Nat) s => ∃ (kt : Nat) (zs : List (List E.T)), (i ≤ c.ax.length ∧ H kt = none ∧ (∀ j (h : j < c.ax.length), j < i → axQ c l (bsF l.length (c.ax.take j)) c.ax[j]) ∧ zs = (bsF l.length (c.ax.take i)).map fun b : Nat => i64T (b : Int)) ∧ s = ⟨145, sp [(1, .c (vsC z l)), (2, .lp 2 0), (4, .c (bC false)), (5, .c (.a (.ts kt .ne 1 zs))), (6, iX .i64 ((i : Nat) : Int))], lv [(2, .box [.t (.sl .un 1 (c.nl.map i64T)), .t (.sl .un 1 (c.nn.map i64T)), .t (.sl .un 4 (c.ax.map axT)), .t (.sl .un 3 (c.is.map ctT)), .t (.sl .un 4 (c.ts.map tsT)), .t (.sl .un 2 (c.sm.map prT)), .t (.sl .un 2 (c.df.map prT))])], upd H kt (some (.tip 2 1 zs.length))⟩) (fun i => c.ax.length - i) 0 ⟨_, Wk.keep 145 [(1, .c (vsC z l)), (2, .lp 2 0), (4, .c (bC false)), (5, .c (.a (.ts (k0) .ne 1 ([])))), (6, iX .i64 ((((0 : Nat)) : Nat) : Int))] [(2, .box [.t (.sl .un 1 (c.nl.map i64T)), .t (.sl .un 1 (c.nn.map i64T)), .t (.sl .un 4 (c.ax.map axT)), .t (.sl .un 3 (c.is.map ctT)), .t (.sl .un 4 (c.ts.map tsT)), .t (.sl .un 2 (c.sm.map prT)), .t (.sl .un 2 (c.df.map prT))])] (upd H (k0) (some (.tip 2 1 ([]).length))) rfl ⟨rfl, rfl, rfl, rfl, rfl, trivial⟩ ⟨rfl, trivial⟩ (fun _ _ h => h) rfl, k0, [], ⟨Nat.zero_le _, hk0, up0, rfl⟩, rfl⟩ (fun i s hs => ?_)
   obtain ⟨kt, zs, ⟨hi0, hkt, hU, hzs⟩, rfl⟩ := hs
   refine AW.seq ?_
   refine sR ?_
   refine sM ?_
   refine SeqK.q (q_fieldL _ rfl Fx.fl28_2 rfl rfl) rfl rfl rfl ?_
   refine SeqK.r (b_load (r := .a _) rfl Fx.ty23 rfl rfl rfl rfl rfl rfl) rfl ?_
   refine SeqK.q (q_len rfl Fx.un23 rfl) rfl rfl rfl ?_
   refine SeqK.q (q_lss rfl rfl rfl) rfl rfl rfl ?_
   refine SeqK.nil ?_
   refine AW.condD rfl (fun h29 => ?_) (fun h29 => ?_)
   ·
    have hi : i < c.ax.length := by rw [List.length_map] at h29; omega
    refine AW.skip ?_
    refine AW.seq ?_
    refine AW.block ?_
    refine sR ?_
    refine SeqK.q (q_fieldL _ rfl Fx.fl28_2 rfl rfl) rfl rfl rfl ?_
    refine SeqK.r (b_load (r := .a _) rfl Fx.ty23 rfl rfl rfl rfl rfl rfl) rfl ?_
    refine sM ?_
    refine SeqK.q (q_index _ rfl Fx.sl23 rfl rfl (by omega) (idx_map (f := axT) hi)) rfl rfl rfl ?_
    refine SeqK.q (q_load (.g [_, _, _, _]) rfl Fx.ty82 rfl rfl rfl) rfl rfl rfl ?_
    refine SeqK.r (b_alloc (r := [_, _, _, _]) rfl rfl Fx.ze82 rfl rfl rfl rfl) rfl ?_
    refine SeqK.r (b_store (r := [_, _, _, _]) rfl rfl Fx.ty82 rfl rfl rfl rfl rfl rfl) rfl ?_
    refine SeqK.nil ?_
    refine AW.seq ?_
    refine sR ?_
    refine SeqK.q (q_fieldL _ rfl Fx.fl82_1 rfl rfl) rfl rfl rfl ?_
    refine SeqK.r (b_load (r := .a _) rfl Fx.ty2 rfl rfl rfl rfl rfl rfl) rfl ?_
    refine SeqK.q (q_eql rfl rfl rfl) rfl rfl rfl ?_
    refine SeqK.nil ?_
    refine AW.condD rfl (fun h39 => ?_) (fun h39 => ?_)
    ·
     refine AW.seq ?_
     refine sR ?_
     refine SeqK.q (q_fieldL _ rfl Fx.fl82_0 rfl rfl) rfl rfl rfl ?_
     refine SeqK.q (q_fieldL _ rfl Fx.fl74_1 rfl rfl) rfl rfl rfl ?_
     refine SeqK.r (b_load (r := .a _) rfl Fx.ty72 rfl rfl rfl rfl rfl rfl) rfl ?_
     refine SeqK.q (q_len rfl Fx.un72 rfl) rfl rfl rfl ?_
     refine SeqK.q (q_gtr rfl rfl rfl) rfl rfl rfl ?_
     refine SeqK.qD (q_mvC rfl rfl) rfl rfl rfl (fun g45 => ?_) (fun g45 => ?_)
     ·
      refine SeqK.off rfl rfl rfl rfl rfl rfl ?_
      refine SeqK.off rfl rfl rfl rfl rfl rfl ?_
      refine SeqK.off rfl rfl rfl rfl rfl rfl ?_
      refine SeqK.off rfl rfl rfl rfl rfl rfl ?_
      refine SeqK.q (q_pkT rfl rfl rfl) rfl rfl rfl ?_
      refine sM ?_
      refine SeqK.off rfl rfl rfl rfl rfl rfl ?_
      refine SeqK.off rfl rfl rfl rfl rfl rfl ?_
      refine SeqK.off rfl rfl rfl rfl rfl rfl ?_
      refine SeqK.off rfl rfl rfl rfl rfl rfl ?_
      refine SeqK.off rfl rfl rfl rfl rfl rfl ?_
      refine SeqK.off rfl rfl rfl rfl rfl rfl ?_
      refine SeqK.q (q_pkT rfl rfl rfl) rfl rfl rfl ?_
      refine SeqK.nil ?_
      refine AW.condT rfl ?_
      refine sR ?_
      refine sA ?_
      refine SeqK.nil ?_
      refine AW.ret ?_
      exact fin_x (x := .c _) (H) (.tmp rfl .nil) rfl (fun j o h => by show upd H _ _ j = _; rw [upd_ne _ _ (fun e => by subst e; simp_all)]; exact h) (⟨bCe (dF (fun hv => by have := hv.2.2.1 i hi; rcases this with ⟨k1, k2, k3, k4⟩ | ⟨k1, _⟩ <;> first | exact absurd h39 k1 | exact nd_t h58 k4 | (simp only [List.length_map] at *; omega))), rfl⟩)
     ·
      refine SeqK.on (q_fieldL _ rfl Fx.fl82_0 rfl rfl) rfl rfl rfl rfl rfl ?_
      refine SeqK.on (q_fieldL _ rfl Fx.fl74_0 rfl rfl) rfl rfl rfl rfl rfl ?_
      refine SeqK.rOn (b_load (r := .a _) rfl Fx.ty2 rfl rfl rfl rfl rfl rfl) rfl rfl rfl ?_
      refine SeqK.on (q_neq rfl rfl rfl) rfl rfl rfl rfl rfl ?_
      refine SeqK.q (q_pkF rfl rfl rfl) rfl rfl rfl ?_
      refine SeqK.qD (q_mvC rfl rfl) rfl rfl rfl (fun g51 => ?_) (fun g51 => ?_)
      ·
       refine SeqK.off rfl rfl rfl rfl rfl rfl ?_
       refine SeqK.off rfl rfl rfl rfl rfl rfl ?_
       refine SeqK.off rfl rfl rfl rfl rfl rfl ?_
       refine SeqK.off rfl rfl rfl rfl rfl rfl ?_
       refine SeqK.off rfl rfl rfl rfl rfl rfl ?_
       refine SeqK.off rfl rfl rfl rfl rfl rfl ?_
       refine SeqK.q (q_pkT rfl rfl rfl) rfl rfl rfl ?_
       refine SeqK.nil ?_
       refine AW.condT rfl ?_
       refine sR ?_
       refine sA ?_
       refine SeqK.nil ?_
       refine AW.ret ?_
       exact fin_x (x := .c _) (H) (.tmp rfl .nil) rfl (fun j o h => by show upd H _ _ j = _; rw [upd_ne _ _ (fun e => by subst e; simp_all)]; exact h) (⟨bCe (dF (fun hv => by have := hv.2.2.1 i hi; rcases this with ⟨k1, k2, k3, k4⟩ | ⟨k1, _⟩ <;> first | exact absurd h39 k1 | exact nd_t h58 k4 | (simp only [List.length_map] at *; omega))), rfl⟩)
      ·
       refine SeqK.on (q_fieldL _ rfl Fx.fl82_2 rfl rfl) rfl rfl rfl rfl rfl ?_
       refine SeqK.rOn (b_load (r := .a _) rfl Fx.ty3 rfl rfl rfl rfl rfl rfl) rfl rfl rfl ?_
       refine SeqK.rOn (b_load (r := .g [_, _, _, _, _, _, _]) rfl Fx.ty28 rfl rfl rfl rfl rfl rfl) rfl rfl rfl ?_
       refine SeqK.on (q_mvC rfl rfl) rfl rfl rfl rfl rfl ?_
       refine SeqK.on (q_call _ rfl Fx.fn49 rfl (text_any _ _ _ _ hc.nn) rfl) rfl rfl rfl rfl rfl ?_
       refine SeqK.on (q_not rfl rfl) rfl rfl rfl rfl rfl ?_
       refine SeqK.q (q_pkF rfl rfl rfl) rfl rfl rfl ?_
       refine SeqK.nil ?_
       refine AW.cond _ rfl (fun h58 => ?_) (fun h58 => ?_)
       ·
        refine sR ?_
        refine sA ?_
        refine SeqK.nil ?_
        refine AW.ret ?_
        exact fin_x (x := .c _) (H) (.tmp rfl .nil) rfl (fun j o h => by show upd H _ _ j = _; rw [upd_ne _ _ (fun e => by subst e; simp_all)]; exact h) (⟨bCe (dF (fun hv => by have := hv.2.2.1 i hi; rcases this with ⟨k1, k2, k3, k4⟩ | ⟨k1, _⟩ <;> first | exact absurd h39 k1 | exact nd_t h58 k4 | (simp only [List.length_map] at *; omega))), rfl⟩)
       ·
        refine AW.skip ?_
        refine AW.seq ?_
        have hax : axQ c l (bsF l.length (c.ax.take i)) c.ax[i] := .inl ⟨h39, by simp only [List.length_map] at *; omega, by omega, nd_f h58⟩
        have hnb : nb l.length (bsF l.length (c.ax.take i)) c.ax[i] = 16 := if_pos h39
        refine AW.reg ?_
        refine sM ?_
        refine SeqK.q (q_buildSlice _ rfl Fx.el35 rfl (by decide) rfl) rfl rfl rfl ?_
        refine SeqK.app1 rfl (hkt) rfl Fx.el35 rfl rfl (by have h1 := hc.ax; have h2 : zs.length = i := (by rw [hzs, List.length_map, bsF_len, List.length_take]; omega); simp; omega) rfl rfl (fun k61 hk61 => ?_)
        refine sA ?_
        refine SeqK.nil ?_
        refine AW.exit ?_
        refine eth_e ?_
        refine exit_here ?_
        refine AW.reg ?_
        refine sM ?_
        refine SeqK.q (q_add _ rfl rfl rfl (w64 (by omega) (by omega))) rfl rfl rfl ?_
        refine sA ?_
        refine SeqK.nil ?_
        exact ⟨i + 1, _, Wk.keep 145 [(1, .c (vsC z l)), (2, .lp 2 0), (4, .c (bC false)), (5, .c (.a (.ts (k61) .ne 1 (zs ++ [i64T 16])))), (6, iX .i64 (((i + 1) : Nat) : Int))] [(2, .box [.t (.sl .un 1 (c.nl.map i64T)), .t (.sl .un 1 (c.nn.map i64T)), .t (.sl .un 4 (c.ax.map axT)), .t (.sl .un 3 (c.is.map ctT)), .t (.sl .un 4 (c.ts.map tsT)), .t (.sl .un 2 (c.sm.map prT)), .t (.sl .un 2 (c.df.map prT))])] (upd H (k61) (some (.tip 2 1 (zs ++ [i64T 16]).length))) rfl ⟨rfl, rfl, rfl, rfl, rfl, trivial⟩ ⟨rfl, trivial⟩ (fun _ _ h => h) rfl, by omega, k61, zs ++ [i64T 16], ⟨hi, hk61, upS hi hU hax, by rw [hzs, bsF_take hi, List.map_append, hnb]; rfl⟩, rfl⟩
    ·
     refine AW.skip ?_
     refine sR ?_
     refine SeqK.q (q_fieldL _ rfl Fx.fl82_0 rfl rfl) rfl rfl rfl ?_
     refine SeqK.r (b_load (r := .g [_, _]) rfl Fx.ty74 rfl rfl rfl rfl rfl rfl) rfl ?_
     refine SeqK.r (b_load (r := .g [_, _, _, _, _, _, _]) rfl Fx.ty28 rfl rfl rfl rfl rfl rfl) rfl ?_
     refine sM ?_
     refine sM ?_
     refine SeqK.xw 66 rfl (XW.ts.trans (XW.es hzs)) ?_
     refine SeqK.q (q_call _ rfl Fx.fn50 rfl (form_any _ _ _ _ .un _ hc.nn (by first | exact hc.axf _ (List.getElem_mem hi) | exact hc.isf _ (List.getElem_mem hi)) hl (by rw [bsF_len]; first | exact hc.ax | (rw [List.length_take]; have := hc.ax; omega))) rfl) rfl rfl rfl ?_
     refine sA ?_
     refine SeqK.nil ?_
     refine AW.seq ?_
     refine sR ?_
     refine SeqK.q (q_fieldL _ rfl Fx.fl82_1 rfl rfl) rfl rfl rfl ?_
     refine SeqK.r (b_load (r := .a _) rfl Fx.ty2 rfl rfl rfl rfl rfl rfl) rfl ?_
     refine SeqK.q (q_call _ rfl Fx.fn51 rfl (within_any _ _ _) rfl) rfl rfl rfl ?_
     refine SeqK.q (q_not rfl rfl) rfl rfl rfl ?_
     refine SeqK.qB (q_mvC rfl rfl) rfl rfl rfl (fun g72 => ?_) (fun g72 => ?_)
     ·
      refine SeqK.off rfl rfl rfl rfl rfl rfl ?_
      refine SeqK.off rfl rfl rfl rfl rfl rfl ?_
      refine SeqK.off rfl rfl rfl rfl rfl rfl ?_
      refine SeqK.q (q_pkT rfl rfl rfl) rfl rfl rfl ?_
      refine sM ?_
      refine SeqK.off rfl rfl rfl rfl rfl rfl ?_
      refine SeqK.off rfl rfl rfl rfl rfl rfl ?_
      refine SeqK.q (q_pkT rfl rfl rfl) rfl rfl rfl ?_
      refine SeqK.nil ?_
      refine AW.condT rfl ?_
      refine sR ?_
      refine sA ?_
      refine SeqK.nil ?_
      refine AW.ret ?_
      exact fin_x (x := .c _) (H) (.tmp rfl .nil) rfl (fun j o h => by show upd H _ _ j = _; rw [upd_ne _ _ (fun e => by subst e; simp_all)]; exact h) (⟨bCe (dF (fun hv => by have := hv.2.2.1 i hi; rcases this with ⟨k1, _⟩ | ⟨k1, k2, k3, k4⟩ <;> first | exact h39 k1 | exact nd_t g72 k3 | omega | exact formV_neg.1 h80 k2)), rfl⟩)
     ·
      refine SeqK.on (q_fieldL _ rfl Fx.fl82_2 rfl rfl) rfl rfl rfl rfl rfl ?_
      refine SeqK.rOn (b_load (r := .a _) rfl Fx.ty3 rfl rfl rfl rfl rfl rfl) rfl rfl rfl ?_
      refine SeqK.on (q_neq rfl rfl rfl) rfl rfl rfl rfl rfl ?_
      refine SeqK.q (q_pkF rfl rfl rfl) rfl rfl rfl ?_
      refine SeqK.qD (q_mvC rfl rfl) rfl rfl rfl (fun g77 => ?_) (fun g77 => ?_)
      ·
       refine SeqK.off rfl rfl rfl rfl rfl rfl ?_
       refine SeqK.off rfl rfl rfl rfl rfl rfl ?_
       refine SeqK.q (q_pkT rfl rfl rfl) rfl rfl rfl ?_
       refine SeqK.nil ?_
       refine AW.condT rfl ?_
       refine sR ?_
       refine sA ?_
       refine SeqK.nil ?_
       refine AW.ret ?_
       exact fin_x (x := .c _) (H) (.tmp rfl .nil) rfl (fun j o h => by show upd H _ _ j = _; rw [upd_ne _ _ (fun e => by subst e; simp_all)]; exact h) (⟨bCe (dF (fun hv => by have := hv.2.2.1 i hi; rcases this with ⟨k1, _⟩ | ⟨k1, k2, k3, k4⟩ <;> first | exact h39 k1 | exact nd_t g72 k3 | omega | exact formV_neg.1 h80 k2)), rfl⟩)
      ·
       refine SeqK.on (q_mvC rfl rfl) rfl rfl rfl rfl rfl ?_
       refine SeqK.on (q_lss rfl rfl rfl) rfl rfl rfl rfl rfl ?_
       refine SeqK.q (q_pkF rfl rfl rfl) rfl rfl rfl ?_
       refine SeqK.nil ?_
       refine AW.condD rfl (fun h80 => ?_) (fun h80 => ?_)
       ·
        refine sR ?_
        refine sA ?_
        refine SeqK.nil ?_
        refine AW.ret ?_
        exact fin_x (x := .c _) (H) (.tmp rfl .nil) rfl (fun j o h => by show upd H _ _ j = _; rw [upd_ne _ _ (fun e => by subst e; simp_all)]; exact h) (⟨bCe (dF (fun hv => by have := hv.2.2.1 i hi; rcases this with ⟨k1, _⟩ | ⟨k1, k2, k3, k4⟩ <;> first | exact h39 k1 | exact nd_t g72 k3 | omega | exact formV_neg.1 h80 k2)), rfl⟩)
       ·
        refine AW.skip ?_
        have hfp : formP c.ax[i].f c.nn l (bsF l.length (c.ax.take i)) := Classical.not_not.1 fun hn => by have := formV_neg.2 hn; omega
        have hax : axQ c l (bsF l.length (c.ax.take i)) c.ax[i] := .inr ⟨h39, hfp, nd_f g72, by omega⟩
        have hb1 := (nd_f g72).1
        have hnb : nb l.length (bsF l.length (c.ax.take i)) c.ax[i] = fsum l.length (bsF l.length (c.ax.take i)) c.ax[i].f / c.ax[i].b.toNat + 1 := if_neg h39
        have hdl : fsum l.length (bsF l.length (c.ax.take i)) c.ax[i].f / c.ax[i].b.toNat ≤ 1152921504606846977 := Nat.le_trans (Nat.div_le_self _ _) hfp.2.2
        refine AW.reg ?_
        refine sM ?_
        refine sM ?_
        refine SeqK.q (q_fieldL _ rfl Fx.fl82_1 rfl rfl) rfl rfl rfl ?_
        refine SeqK.r (b_load (r := .a _) rfl Fx.ty2 rfl rfl rfl rfl rfl rfl) rfl ?_
        refine SeqK.q (q_quo _ rfl rfl rfl (by omega) ((formV_pos hfp).symm ▸ quoB hfp.2.2 (by omega))) rfl rfl rfl ?_
        refine SeqK.q (q_add _ rfl rfl rfl (w64 (by omega) (by omega))) rfl rfl rfl ?_
        refine SeqK.q (q_buildSlice _ rfl Fx.el35 rfl (by decide) rfl) rfl rfl rfl ?_
        refine SeqK.app1 rfl (hkt) rfl Fx.el35 rfl rfl (by have h1 := hc.ax; have h2 : zs.length = i := (by rw [hzs, List.length_map, bsF_len, List.length_take]; omega); simp; omega) rfl rfl (fun k88 hk88 => ?_)
        refine sA ?_
        refine SeqK.nil ?_
        refine AW.reg ?_
        refine sM ?_
        refine SeqK.q (q_add _ rfl rfl rfl (w64 (by omega) (by omega))) rfl rfl rfl ?_
        refine sA ?_
        refine SeqK.nil ?_
        exact ⟨i + 1, _, Wk.keep 145 [(1, .c (vsC z l)), (2, .lp 2 0), (4, .c (bC false)), (5, .c (.a (.ts (k88) .ne 1 (zs ++ [i64T ((fsum l.length (bsF l.length (c.ax.take i)) c.ax[i].f / c.ax[i].b.toNat : Nat) + 1 : Int)])))), (6, iX .i64 (((i + 1) : Nat) : Int))] [(2, .box [.t (.sl .un 1 (c.nl.map i64T)), .t (.sl .un 1 (c.nn.map i64T)), .t (.sl .un 4 (c.ax.map axT)), .t (.sl .un 3 (c.is.map ctT)), .t (.sl .un 4 (c.ts.map tsT)), .t (.sl .un 2 (c.sm.map prT)), .t (.sl .un 2 (c.df.map prT))])] (upd H (k88) (some (.tip 2 1 (zs ++ [i64T ((fsum l.length (bsF l.length (c.ax.take i)) c.ax[i].f / c.ax[i].b.toNat : Nat) + 1 : Int)]).length))) rfl ⟨rfl, rfl, rfl, rfl, rfl, trivial⟩ ⟨rfl, trivial⟩ (fun _ _ h => h) rfl, by omega, k88, zs ++ [i64T ((fsum l.length (bsF l.length (c.ax.take i)) c.ax[i].f / c.ax[i].b.toNat : Nat) + 1 : Int)], ⟨hi, hk88, upS hi hU hax, by rw [hzs, bsF_take hi, List.map_append, hnb]; rfl⟩, rfl⟩
   ·
    refine AW.exit ?_
    refine eth_e ?_
    refine eth_e ?_
    refine exit_here ?_
    refine AW.seq ?_
    refine AW.seq ?_
    have hti : c.ax.take i = c.ax := List.take_of_length_le (by rw [List.length_map] at h29; omega)
    rw [hti] at hzs
    have hU' := upE hU (by rw [List.length_map] at h29; omega)
    refine AW.xw 5 rfl (XW.ts.trans (XW.es hzs)) ?_
    refine AW.wk (Wk.keep 145 [(1, .c (vsC z l)), (2, .lp 2 0), (4, .c (bC false)), (5, .c (bsC .un (bsF l.length c.ax)))] [(2, .box [.t (.sl .un 1 (c.nl.map i64T)), .t (.sl .un 1 (c.nn.map i64T)), .t (.sl .un 4 (c.ax.map axT)), .t (.sl .un 3 (c.is.map ctT)), .t (.sl .un 4 (c.ts.map tsT)), .t (.sl .un 2 (c.sm.map prT)), .t (.sl .un 2 (c.df.map prT))])] (H) rfl ⟨rfl, rfl, rfl, rfl, trivial⟩ ⟨rfl, trivial⟩ (fun j o h => by show upd H _ _ j = _; rw [upd_ne _ _ (fun e => by subst e; simp_all)]; exact h) rfl) ?_
    refine AW.reg ?_
    refine sA ?_
    refine SeqK.nil ?_
    refine AW.block ?_
    refine AW.loop (fun (i : Nat) s => (i ≤ c.is.length ∧ (∀ j (h : j < c.is.length), j < i → formP c.is[j].f c.nn l (bsF l.length c.ax))) ∧ s = ⟨145, sp [(1, .c (vsC z l)), (2, .lp 2 0), (4, .c (bC false)), (5, .c (bsC .un (bsF l.length c.ax))), (9, iX .i64 ((i : Nat) : Int))], lv [(2, .box [.t (.sl .un 1 (c.nl.map i64T)), .t (.sl .un 1 (c.nn.map i64T)), .t (.sl .un 4 (c.ax.map axT)), .t (.sl .un 3 (c.is.map ctT)), .t (.sl .un 4 (c.ts.map tsT)), .t (.sl .un 2 (c.sm.map prT)), .t (.sl .un 2 (c.df.map prT))])], H⟩) (fun i => c.is.length - i) 0 ⟨_, Wk.keep 145 [(1, .c (vsC z l)), (2, .lp 2 0), (4, .c (bC false)), (5, .c (bsC .un (bsF l.length c.ax))), (9, iX .i64 ((((0 : Nat)) : Nat) : Int))] [(2, .box [.t (.sl .un 1 (c.nl.map i64T)), .t (.sl .un 1 (c.nn.map i64T)), .t (.sl .un 4 (c.ax.map axT)), .t (.sl .un 3 (c.is.map ctT)), .t (.sl .un 4 (c.ts.map tsT)), .t (.sl .un 2 (c.sm.map prT)), .t (.sl .un 2 (c.df.map prT))])] (H) rfl ⟨rfl, rfl, rfl, rfl, rfl, trivial⟩ ⟨rfl, trivial⟩ (fun _ _ h => h) rfl, ⟨Nat.zero_le _, up0⟩, rfl⟩ (fun i s hs => ?_)
    obtain ⟨⟨hi0, hV⟩, rfl⟩ := hs
    refine AW.seq ?_
    refine sR ?_
    refine sM ?_
    refine SeqK.q (q_fieldL _ rfl Fx.fl28_3 rfl rfl) rfl rfl rfl ?_
    refine SeqK.r (b_load (r := .a _) rfl Fx.ty24 rfl rfl rfl rfl rfl rfl) rfl ?_
    refine SeqK.q (q_len rfl Fx.un24 rfl) rfl rfl rfl ?_
    refine SeqK.q (q_lss rfl rfl rfl) rfl rfl rfl ?_
    refine SeqK.nil ?_
    refine AW.condD rfl (fun h93 => ?_) (fun h93 => ?_)
    ·
     have hi : i < c.is.length := by rw [List.length_map] at h93; omega
     refine AW.skip ?_
     refine AW.seq ?_
     refine AW.block ?_
     refine AW.seq ?_
     refine AW.draw Fx.mo ?_
     refine LexK.q (q_fieldL _ rfl Fx.fl28_3 rfl rfl) rfl rfl rfl ?_
     refine LexK.r (b_load (r := .a _) rfl Fx.ty24 rfl rfl rfl rfl rfl rfl) rfl ?_
     refine LexK.q (q_mvC rfl rfl) rfl rfl rfl ?_
     refine LexK.q (q_index _ rfl Fx.sl24 rfl rfl (by omega) (idx_map (f := ctT) hi)) rfl rfl rfl ?_
     refine LexK.q (q_fieldP _ rfl Fx.fl76_0 rfl rfl) rfl rfl rfl ?_
     refine LexK.q (q_load (.g [_, _]) rfl Fx.ty74 rfl rfl rfl) rfl rfl rfl ?_
     refine LexK.r (b_load (r := .g [_, _, _, _, _, _, _]) rfl Fx.ty28 rfl rfl rfl rfl rfl rfl) rfl ?_
     refine LexK.q (q_mvC rfl rfl) rfl rfl rfl ?_
     refine LexK.q (q_mvC rfl rfl) rfl rfl rfl ?_
     refine LexK.q (q_call _ rfl Fx.fn50 rfl (form_any _ _ _ _ .un _ hc.nn (by first | exact hc.axf _ (List.getElem_mem hi) | exact hc.isf _ (List.getElem_mem hi)) hl (by rw [bsF_len]; first | exact hc.ax | (rw [List.length_take]; have := hc.ax; omega))) rfl) rfl rfl rfl ?_
     refine LexK.q (q_lss rfl rfl rfl) rfl rfl rfl ?_
     refine LexK.nil (by kernel_rfl) ?_
     refine AW.condD rfl (fun h106 => ?_) (fun h106 => ?_)
     ·
      refine sR ?_
      refine sA ?_
      refine SeqK.nil ?_
      refine AW.ret ?_
      exact fin_x (x := .c _) (H) (.tmp rfl .nil) rfl (fun _ _ h => h) (⟨bCe (dF (fun hv => formV_neg.1 h106 (hv.2.2.2.1 i hi))), rfl⟩)
     ·
      refine AW.skip ?_
      refine AW.reg ?_
      refine sM ?_
      refine SeqK.q (q_add _ rfl rfl rfl (w64 (by omega) (by omega))) rfl rfl rfl ?_
      refine sA ?_
      refine SeqK.nil ?_
      exact ⟨i + 1, _, Wk.keep 145 [(1, .c (vsC z l)), (2, .lp 2 0), (4, .c (bC false)), (5, .c (bsC .un (bsF l.length c.ax))), (9, iX .i64 (((i + 1) : Nat) : Int))] [(2, .box [.t (.sl .un 1 (c.nl.map i64T)), .t (.sl .un 1 (c.nn.map i64T)), .t (.sl .un 4 (c.ax.map axT)), .t (.sl .un 3 (c.is.map ctT)), .t (.sl .un 4 (c.ts.map tsT)), .t (.sl .un 2 (c.sm.map prT)), .t (.sl .un 2 (c.df.map prT))])] (H) rfl ⟨rfl, rfl, rfl, rfl, rfl, trivial⟩ ⟨rfl, trivial⟩ (fun _ _ h => h) rfl, by omega, ⟨hi, upS hi hV (Classical.not_not.1 fun hn => by have := formV_neg.2 hn; omega)⟩, rfl⟩
    ·
     refine AW.exit ?_
     refine eth_e ?_
     refine eth_e ?_
     refine exit_here ?_
     refine AW.seq ?_
     refine AW.seq ?_
     have hV := upE hV (by rw [List.length_map] at h93; omega)
     refine AW.reg ?_
     refine sA ?_
     refine SeqK.nil ?_
     refine AW.block ?_
     refine AW.loop (fun (i : Nat) s => (i ≤ c.ts.length ∧ (∀ j (h : j < c.ts.length), j < i → tstP c.ts[j] ∧ txtP c.ts[j].v c.nn l)) ∧ s = ⟨145, sp [(1, .c (vsC z l)), (2, .lp 2 0), (4, .c (bC false)), (10, iX .i64 ((i : Nat) : Int))], lv [(2, .box [.t (.sl .un 1 (c.nl.map i64T)), .t (.sl .un 1 (c.nn.map i64T)), .t (.sl .un 4 (c.ax.map axT)), .t (.sl .un 3 (c.is.map ctT)), .t (.sl .un 4 (c.ts.map tsT)), .t (.sl .un 2 (c.sm.map prT)), .t (.sl .un 2 (c.df.map prT))])], H⟩) (fun i => c.ts.length - i) 0 ⟨_, Wk.keep 145 [(1, .c (vsC z l)), (2, .lp 2 0), (4, .c (bC false)), (10, iX .i64 ((((0 : Nat)) : Nat) : Int))] [(2, .box [.t (.sl .un 1 (c.nl.map i64T)), .t (.sl .un 1 (c.nn.map i64T)), .t (.sl .un 4 (c.ax.map axT)), .t (.sl .un 3 (c.is.map ctT)), .t (.sl .un 4 (c.ts.map tsT)), .t (.sl .un 2 (c.sm.map prT)), .t (.sl .un 2 (c.df.map prT))])] (H) rfl ⟨rfl, rfl, rfl, rfl, trivial⟩ ⟨rfl, trivial⟩ (fun _ _ h => h) rfl, ⟨Nat.zero_le _, up0⟩, rfl⟩ (fun i s hs => ?_)
     obtain ⟨⟨hi0, hW⟩, rfl⟩ := hs
     refine AW.seq ?_
     refine sR ?_
     refine sM ?_
     refine SeqK.q (q_fieldL _ rfl Fx.fl28_4 rfl rfl) rfl rfl rfl ?_
     refine SeqK.r (b_load (r := .a _) rfl Fx.ty25 rfl rfl rfl rfl rfl rfl) rfl ?_
     refine SeqK.q (q_len rfl Fx.un25 rfl) rfl rfl rfl ?_
     refine SeqK.q (q_lss rfl rfl rfl) rfl rfl rfl ?_
     refine SeqK.nil ?_
     refine AW.condD rfl (fun h111 => ?_) (fun h111 => ?_)
     ·
      have hi : i < c.ts.length := by rw [List.length_map] at h111; omega
      refine AW.skip ?_
      refine AW.seq ?_
      refine AW.block ?_
      refine AW.seq ?_
      refine AW.draw Fx.mo ?_
      refine LexK.q (q_fieldL _ rfl Fx.fl28_4 rfl rfl) rfl rfl rfl ?_
      refine LexK.r (b_load (r := .a _) rfl Fx.ty25 rfl rfl rfl rfl rfl rfl) rfl ?_
      refine LexK.q (q_mvC rfl rfl) rfl rfl rfl ?_
      refine LexK.q (q_index _ rfl Fx.sl25 rfl rfl (by omega) (idx_map (f := tsT) hi)) rfl rfl rfl ?_
      refine LexK.q (q_load (.g [_, _, _, _]) rfl Fx.ty61 rfl rfl rfl) rfl rfl rfl ?_
      refine LexK.q (q_call _ rfl Fx.fn52 rfl (tested_any _ (hc.tss _ (List.getElem_mem hi))) rfl) rfl rfl rfl ?_
      refine LexK.q (q_not rfl rfl) rfl rfl rfl ?_
      refine LexK.qB (q_mvC rfl rfl) rfl rfl rfl (fun g121 => ?_) (fun g121 => ?_)
      ·
       refine LexK.off rfl rfl rfl rfl rfl rfl ?_
       refine LexK.off rfl rfl rfl rfl rfl rfl ?_
       refine LexK.off rfl rfl rfl rfl rfl rfl ?_
       refine LexK.off rfl rfl rfl rfl rfl rfl ?_
       refine LexK.off rfl rfl rfl rfl rfl rfl ?_
       refine LexK.off rfl rfl rfl rfl rfl rfl ?_
       refine LexK.off rfl rfl rfl rfl rfl rfl ?_
       refine LexK.off rfl rfl rfl rfl rfl rfl ?_
       refine LexK.off rfl rfl rfl rfl rfl rfl ?_
       refine LexK.off rfl rfl rfl rfl rfl rfl ?_
       refine LexK.q (q_pkT rfl rfl rfl) rfl rfl rfl ?_
       refine LexK.nil (by kernel_rfl) ?_
       refine AW.condT rfl ?_
       refine sR ?_
       refine sA ?_
       refine SeqK.nil ?_
       refine AW.ret ?_
       exact fin_x (x := .c _) (H) (.tmp rfl .nil) rfl (fun _ _ h => h) (⟨bCe (dF (fun hv => by have := hv.2.2.2.2.1 i hi; first | exact nd_t g121 this.1 | exact nd_t h132 this.2 | simp_all)), rfl⟩)
      ·
       refine LexK.on (q_fieldL _ rfl Fx.fl28_4 rfl rfl) rfl rfl rfl rfl rfl ?_
       refine LexK.rOn (b_load (r := .a _) rfl Fx.ty25 rfl rfl rfl rfl rfl rfl) rfl rfl rfl ?_
       refine LexK.on (q_mvC rfl rfl) rfl rfl rfl rfl rfl ?_
       refine LexK.on (q_index _ rfl Fx.sl25 rfl rfl (by omega) (idx_map (f := tsT) hi)) rfl rfl rfl rfl rfl ?_
       refine LexK.on (q_fieldP _ rfl Fx.fl61_0 rfl rfl) rfl rfl rfl rfl rfl ?_
       refine LexK.on (q_load (.a _) rfl Fx.ty3 rfl rfl rfl) rfl rfl rfl rfl rfl ?_
       refine LexK.rOn (b_load (r := .g [_, _, _, _, _, _, _]) rfl Fx.ty28 rfl rfl rfl rfl rfl rfl) rfl rfl rfl ?_
       refine LexK.on (q_mvC rfl rfl) rfl rfl rfl rfl rfl ?_
       refine LexK.on (q_call _ rfl Fx.fn49 rfl (text_any _ _ _ _ hc.nn) rfl) rfl rfl rfl rfl rfl ?_
       refine LexK.on (q_not rfl rfl) rfl rfl rfl rfl rfl ?_
       refine LexK.q (q_pkF rfl rfl rfl) rfl rfl rfl ?_
       refine LexK.nil (by kernel_rfl) ?_
       refine AW.cond _ rfl (fun h132 => ?_) (fun h132 => ?_)
       ·
        refine sR ?_
        refine sA ?_
        refine SeqK.nil ?_
        refine AW.ret ?_
        exact fin_x (x := .c _) (H) (.tmp rfl .nil) rfl (fun _ _ h => h) (⟨bCe (dF (fun hv => by have := hv.2.2.2.2.1 i hi; first | exact nd_t g121 this.1 | exact nd_t h132 this.2 | simp_all)), rfl⟩)
       ·
        refine AW.skip ?_
        refine AW.reg ?_
        refine sM ?_
        refine SeqK.q (q_add _ rfl rfl rfl (w64 (by omega) (by omega))) rfl rfl rfl ?_
        refine sA ?_
        refine SeqK.nil ?_
        exact ⟨i + 1, _, Wk.keep 145 [(1, .c (vsC z l)), (2, .lp 2 0), (4, .c (bC false)), (10, iX .i64 (((i + 1) : Nat) : Int))] [(2, .box [.t (.sl .un 1 (c.nl.map i64T)), .t (.sl .un 1 (c.nn.map i64T)), .t (.sl .un 4 (c.ax.map axT)), .t (.sl .un 3 (c.is.map ctT)), .t (.sl .un 4 (c.ts.map tsT)), .t (.sl .un 2 (c.sm.map prT)), .t (.sl .un 2 (c.df.map prT))])] (H) rfl ⟨rfl, rfl, rfl, rfl, trivial⟩ ⟨rfl, trivial⟩ (fun _ _ h => h) rfl, by omega, ⟨hi, upS hi hW ⟨by simpa using g121, by simpa using h132⟩⟩, rfl⟩
     ·
      refine AW.exit ?_
      refine eth_e ?_
      refine eth_e ?_
      refine exit_here ?_
      refine AW.seq ?_
      have hW := upE hW (by rw [List.length_map] at h111; omega)
      refine AW.reg ?_
      refine SeqK.q (q_fieldL _ rfl Fx.fl28_5 rfl rfl) rfl rfl rfl ?_
      refine SeqK.r (b_load (r := .a _) rfl Fx.ty26 rfl rfl rfl rfl rfl rfl) rfl ?_
      refine SeqK.r (b_load (r := .g [_, _, _, _, _, _, _]) rfl Fx.ty28 rfl rfl rfl rfl rfl rfl) rfl ?_
      refine sM ?_
      refine SeqK.q (q_call _ rfl Fx.fn53 rfl (pairs_any _ _ _ _ _ hc.nn (by first | exact hc.sm | exact hc.df)) rfl) rfl rfl rfl ?_
      refine SeqK.qB (q_mvC rfl rfl) rfl rfl rfl (fun g138 => ?_) (fun g138 => ?_)
      ·
       refine SeqK.on (q_fieldL _ rfl Fx.fl28_6 rfl rfl) rfl rfl rfl rfl rfl ?_
       refine SeqK.rOn (b_load (r := .a _) rfl Fx.ty26 rfl rfl rfl rfl rfl rfl) rfl rfl rfl ?_
       refine SeqK.rOn (b_load (r := .g [_, _, _, _, _, _, _]) rfl Fx.ty28 rfl rfl rfl rfl rfl rfl) rfl rfl rfl ?_
       refine SeqK.on (q_mvC rfl rfl) rfl rfl rfl rfl rfl ?_
       refine SeqK.on (q_call _ rfl Fx.fn53 rfl (pairs_any _ _ _ _ _ hc.nn (by first | exact hc.sm | exact hc.df)) rfl) rfl rfl rfl rfl rfl ?_
       refine SeqK.q (q_pkT rfl rfl rfl) rfl rfl rfl ?_
       refine sA ?_
       refine SeqK.nil ?_
       refine AW.ret ?_
       exact fin_x (x := .c _) (H) (.tmp rfl .nil) rfl (fun _ _ h => h) (⟨bCe (by first | exact dF (fun hv => by have := hv.2.2.2.2.2.1; simp_all) | exact dI ⟨fun hd => ⟨hA, hB, hU', hV, hW, by simpa using g138, hd⟩, fun hv => hv.2.2.2.2.2.2⟩), rfl⟩)
      ·
       refine SeqK.off rfl rfl rfl rfl rfl rfl ?_
       refine SeqK.off rfl rfl rfl rfl rfl rfl ?_
       refine SeqK.off rfl rfl rfl rfl rfl rfl ?_
       refine SeqK.off rfl rfl rfl rfl rfl rfl ?_
       refine SeqK.off rfl rfl rfl rfl rfl rfl ?_
       refine SeqK.q (q_pkF rfl rfl rfl) rfl rfl rfl ?_
       refine sA ?_
       refine SeqK.nil ?_
       refine AW.ret ?_
       exact fin_x (x := .c _) (H) (.tmp rfl .nil) rfl (fun _ _ h => h) (⟨bCe (by first | exact dF (fun hv => by have := hv.2.2.2.2.2.1; simp_all) | exact dI ⟨fun hd => ⟨hA, hB, hU', hV, hW, by simpa using g138, hd⟩, fun hv => hv.2.2.2.2.2.2⟩), rfl⟩)

end Go.Proofs.Ytnmfjojhgfipcaa.W
