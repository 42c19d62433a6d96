/- Parts of the proof, one after the other: Shelf, B1, W1, W2, W3, W4, W5, W6, W7. No condition. -/
import Derived.Test.YtihlgigaejhilaaM13
import Derived.Shelf.Small.Bits
import Derived.Shelf.Small.Wraps
import Derived.Shelf.Strconv.Itoa0
import Derived.Shelf.Sort.Plain
import Derived.Shelf.Slices.Turned
import Derived.Shelf.Slices.SearchI
import Derived.Shelf.Slices.In.SortNone
import Derived.Test.YtihlgigaejhilaaProg
set_option linter.unusedSectionVars false
set_option linter.unusedSimpArgs false
set_option linter.unusedVariables false
/-
  DERIVED: THE SHELF's CONTRACTS AT THIS DUMP, IN PLAIN WORDS (tools/lay-plain.mjs out of 'TryShelf.lean', which tools/lay-shelf.mjs wrote): THE SAME DECLARATIONS UNDER THE SAME NAMES: 'import', 'namespace', 'open', 'def', 'theorem' AND NOTHING ELSE: no command of the shelf's: FOR A HAND-IN. Each laying: the table of numbers ('.._ren') and one theorem, a field a fact of the dump's own or the kernel's comparison; each contract: ONE APPLICATION.
-/
namespace Go.Proofs
open Go.Shelf
def Try.lays189_ren : Go.Shelf.Ren := ⟨fun | 189 => 33 | 125 => 62 | 257 => 61 | 128 => 88 | 129 => 89 | 294 => 79 | 295 => 80 | 296 => 81 | 297 => 82 | 298 => 83 | 299 => 84 | 216 => 85 | 300 => 86 | 301 => 87 | 328 => 101 | 329 => 102 | 330 => 103 | 331 => 104 | 332 => 105 | 215 => 106 | 343 => 110 | n => n, fun | 28 => 22 | 3 => 3 | 46 => 118 | 0 => 0 | 51 => 141 | 53 => 143 | 4 => 4 | 183 => 133 | 182 => 132 | 131 => 138 | 5 => 5 | 9 => 9 | 218 => 156 | 222 => 160 | 228 => 165 | 229 => 166 | n => n, fun | n => n⟩
theorem Try.lays189 : Go.Proofs.Lays.n189 Try.prog Try.lays189_ren := {
  mixed := by kernel_rfl
  f125 := Try.func62.trans (congrArg some (by kernel_rfl))
  f128 := Try.func88.trans (congrArg some (by kernel_rfl))
  f129 := Try.func89.trans (congrArg some (by kernel_rfl))
  f189 := Try.func33.trans (congrArg some (by kernel_rfl))
  f215 := Try.func106.trans (congrArg some (by kernel_rfl))
  f216 := Try.func85.trans (congrArg some (by kernel_rfl))
  f257 := Try.func61.trans (congrArg some (by kernel_rfl))
  f294 := Try.func79.trans (congrArg some (by kernel_rfl))
  f295 := Try.func80.trans (congrArg some (by kernel_rfl))
  f296 := Try.func81.trans (congrArg some (by kernel_rfl))
  f297 := Try.func82.trans (congrArg some (by kernel_rfl))
  f298 := Try.func83.trans (congrArg some (by kernel_rfl))
  f299 := Try.func84.trans (congrArg some (by kernel_rfl))
  f300 := Try.func86.trans (congrArg some (by kernel_rfl))
  f301 := Try.func87.trans (congrArg some (by kernel_rfl))
  f328 := Try.func101.trans (congrArg some (by kernel_rfl))
  f329 := Try.func102.trans (congrArg some (by kernel_rfl))
  f330 := Try.func103.trans (congrArg some (by kernel_rfl))
  f331 := Try.func104.trans (congrArg some (by kernel_rfl))
  f332 := Try.func105.trans (congrArg some (by kernel_rfl))
  f343 := Try.func110.trans (congrArg some (by kernel_rfl))
  t0 := Try.underlying0
  a0 := Try.isAgg0
  z0 := Try.sizeOf0
  v0 := Try.zeroValue0
  t3 := Try.underlying3
  a3 := Try.isAgg3
  z3 := Try.sizeOf3
  v3 := Try.zeroValue3
  t4 := Try.underlying4
  a4 := Try.isAgg4
  z4 := Try.sizeOf4
  v4 := Try.zeroValue4
  t5 := Try.underlying5
  a5 := Try.isAgg5
  z5 := Try.sizeOf5
  v5 := Try.zeroValue5
  t9 := Try.underlying9
  a9 := Try.isAgg9
  z9 := Try.sizeOf9
  v9 := Try.zeroValue9
  t28 := Try.underlying22
  a28 := Try.isAgg22
  z28 := Try.sizeOf22
  v28 := Try.zeroValue22
  t46 := Try.underlying118
  a46 := Try.isAgg118
  z46 := Try.sizeOf118
  v46 := Try.zeroValue118
  t51 := Try.underlying141
  a51 := Try.isAgg141
  z51 := Try.sizeOf141
  v51 := Try.zeroValue141
  t53 := Try.underlying143
  a53 := Try.isAgg143
  z53 := Try.sizeOf143
  v53 := Try.zeroValue143
  t131 := Try.underlying138
  a131 := Try.isAgg138
  z131 := Try.sizeOf138
  v131 := Try.zeroValue138
  t182 := Try.underlying132
  a182 := Try.isAgg132
  z182 := Try.sizeOf132
  v182 := Try.zeroValue132
  t183 := Try.underlying133
  a183 := Try.isAgg133
  z183 := Try.sizeOf133
  v183 := Try.zeroValue133
  t218 := Try.underlying156
  a218 := Try.isAgg156
  z218 := Try.sizeOf156
  v218 := Try.zeroValue156
  t222 := Try.underlying160
  a222 := Try.isAgg160
  z222 := Try.sizeOf160
  v222 := Try.zeroValue160
  t228 := Try.underlying165
  a228 := Try.isAgg165
  z228 := Try.sizeOf165
  v228 := Try.zeroValue165
  t229 := Try.underlying166
  a229 := Try.isAgg166
  z229 := Try.sizeOf166
  v229 := Try.zeroValue166 }
open Go.Sort Go.RowKit in
theorem Try.slices_Sort_int (blk off cap : Nat) (zs : List Int) (w : World) (hH : Holds (Value.int .i64) w blk off zs.toArray) (hblk : blk < w.heap.size) (hsz : zs.length < 4611686018427387904) :
    Calls Try.prog 33 #[.slice (some ⟨blk, off, none⟩) zs.length cap] w fun e w' =>
      e = .returned (.tuple #[]) ∧ ∃ n os, w' = grow (putRow (Value.int .i64) (Sort.ahead w n) blk off (zs.mergeSort fun x y => decide (x ≤ y)).toArray) os := Any.slices_Sort_int Try.lays189 blk off cap zs w hH hblk hsz
open Go.RowKit Go.Sort in
/-- .. and plain. (LAID: no walk: one application.) -/
theorem Try.slices_Sort_int_none (p : Option Addr) (cap : Nat) (w : World) :
    Calls Try.prog 33 #[.slice p 0 cap] w fun e w' => e = .returned (.tuple #[]) ∧ w' = w := Any.slices_Sort_int_none Try.lays189 p cap w
end Go.Proofs
/- Expressions, tables, plans as trees. -/
namespace Go.Proofs.Ytihlgigaejhilaa.E
open Go.RowKit
section
variable {P : Program} {all : Array Oper} {o : Oper} {K : S → Prop} {rest : List Oper} {n d : Nat} {t : Nat → X} {L : Nat → Option AO} {H : Heap} {cd : Code} {Q : Exit → S → Prop} {s : S}
theorem sM {y : Operand} {z : C} (k : SeqK P all K rest ⟨n, upd t d (.c z), L, H⟩) (ho : o.op = .move y := by exact rfl) (hy : S.eval ⟨n, t, L, H⟩ y = .c z := by exact rfl) (hg : o.guard = none := by exact rfl) (hdst : o.dst = some d := by exact rfl) (hd : Nat.blt d n = true := by exact rfl) : SeqK P all K (o :: rest) ⟨n, t, L, H⟩ := SeqK.q (q_mvC ho hy) hg hdst hd k
theorem sA {y : Operand} {z : C} (k : SeqK P all K rest ⟨n, upd t d (.c z), L, H⟩) (ho : o.op = .assign y := by exact rfl) (hy : S.eval ⟨n, t, L, H⟩ y = .c z := by exact rfl) (hg : o.guard = none := by exact rfl) (hdst : o.dst = some d := by exact rfl) (hd : Nat.blt d n = true := by exact rfl) : SeqK P all K (o :: rest) ⟨n, t, L, H⟩ := SeqK.q (q_asC ho hy) hg hdst hd k
theorem sR {id : Nat} {l : List Oper} (h : SeqK P l.toArray ((Eth (AW P cd Q) Q) .normal) l s) : AW P (.seq (.region id l.toArray false) cd) Q s := AW.seq (AW.reg h)
end
end Go.Proofs.Ytihlgigaejhilaa.E
namespace Go.Proofs.Ytihlgigaejhilaa.W
open Go.RowKit E
abbrev iC (n : Int) : C := .a (.t (.v (.int .i64 n)))
abbrev bC (b : Bool) : C := .a (.t (.v (.bool b)))
abbrev sC (s : ByteArray) : C := .a (.t (.v (.string s)))
abbrev i64T (n : Int) : List E.T := [.v (.int .i64 n)]
abbrev sT (s : ByteArray) : List E.T := [.v (.string s)]
abbrev iLT (l : List Int) : List E.T := [.sl .un 1 (l.map i64T)]
abbrev iL (z : Nz) (l : List Int) : C := .a (.t (.sl z 1 (l.map i64T)))
abbrev sL (z : Nz) (l : List ByteArray) : C := .a (.t (.sl z 1 (l.map sT)))
theorem w64 {n : Int} (h : -9223372036854775808 ≤ n) (h' : n ≤ 9223372036854775807) : IntKind.i64.wrap n = n := IntWalk.i64_in n ⟨h, h'⟩
theorem bCe {a b : Bool} (h : a = b) : X.c (bC a) = X.c (bC b) := by rw [h]
theorem iCe {a b : Int} (h : a = b) : X.c (iC a) = X.c (iC b) := by rw [h]
theorem nd_t {p : Prop} [Decidable p] (h : (!decide p) = true) : ¬ p := by simpa using h
theorem nd_f {p : Prop} [Decidable p] (h : (!decide p) = false) : p := by simpa using h
theorem idx_map {α : Type} {f : α → List E.T} {l : List α} {i : Nat} (h : i < l.length) : (l.map f)[i]? = some (f l[i]) := by rw [List.getElem?_map, List.getElem?_eq_getElem h]; rfl
theorem take_put {α : Type} {l : List α} {i : Nat} (hi : i < l.length) : l.take (i + 1) = l.take i ++ [l[i]] := List.take_succ_eq_append_getElem hi
theorem ba_len (s : ByteArray) : s.data.toList.length = s.size := by rw [Array.length_toList]; rfl
inductive Ex where
  | mk (op : Int) (tb nm : ByteArray) (ix vk vn : Int) (vs : ByteArray) (args : List Ex)
@[reducible] def Ex.op : Ex → Int | .mk a _ _ _ _ _ _ _ => a
@[reducible] def Ex.tb : Ex → ByteArray | .mk _ a _ _ _ _ _ _ => a
@[reducible] def Ex.nm : Ex → ByteArray | .mk _ _ a _ _ _ _ _ => a
@[reducible] def Ex.ix : Ex → Int | .mk _ _ _ a _ _ _ _ => a
@[reducible] def Ex.vk : Ex → Int | .mk _ _ _ _ a _ _ _ => a
@[reducible] def Ex.vn : Ex → Int | .mk _ _ _ _ _ a _ _ => a
@[reducible] def Ex.vs : Ex → ByteArray | .mk _ _ _ _ _ _ a _ => a
@[reducible] def Ex.args : Ex → List Ex | .mk _ _ _ _ _ _ _ a => a
mutual
def exT' : Ex → List E.T
  | .mk op tb nm ix vk vn vs args => [.v (.int .i64 op), .v (.string tb), .v (.string nm), .v (.int .i64 ix), .v (.int .i64 vk), .v (.int .i64 vn), .v (.string vs), .sl .un 8 (exTs args)]
def exTs : List Ex → List (List E.T)
  | [] => []
  | e :: r => exT' e :: exTs r
end
theorem exTs_map : ∀ l, exTs l = l.map exT'
  | [] => rfl
  | t :: r => by rw [exTs, exTs_map r, List.map_cons]
abbrev exL (e : Ex) : List E.T := [.v (.int .i64 e.op), .v (.string e.tb), .v (.string e.nm), .v (.int .i64 e.ix), .v (.int .i64 e.vk), .v (.int .i64 e.vn), .v (.string e.vs), .sl .un 8 (e.args.map exT')]
theorem exT_eq (e : Ex) : exT' e = exL e := by cases e; rw [exT', exTs_map]
abbrev exC (e : Ex) : C := .g [.t (.v (.int .i64 e.op)), .t (.v (.string e.tb)), .t (.v (.string e.nm)), .t (.v (.int .i64 e.ix)), .t (.v (.int .i64 e.vk)), .t (.v (.int .i64 e.vn)), .t (.v (.string e.vs)), .t (.sl .un 8 (e.args.map exT'))]
abbrev exsC (z : Nz) (l : List Ex) : C := .a (.t (.sl z 8 (l.map exT')))
theorem idx_ex {l : List Ex} {i : Nat} (h : i < l.length) : (l.map exT')[i]? = some (exL l[i]) := by rw [List.getElem?_map, List.getElem?_eq_getElem h, Option.map_some, exT_eq]
theorem args_lt {e a : Ex} (h : a ∈ e.args) : SizeOf.sizeOf a < SizeOf.sizeOf e := by
  cases e with | mk op tb nm ix vk vn vs args =>
  have : SizeOf.sizeOf a < SizeOf.sizeOf args := List.sizeOf_lt_of_mem h
  simp only [Ex.mk.sizeOf_spec]; omega
structure Co where (nm : ByteArray) (ty lo hi mx : Int) (nn : Bool)
structure Fk where (cols : List Int) (tab key : Int)
structure Tb where (nm : ByteArray) (cols : List Co) (keys : List (List Int)) (fks : List Fk) (chks : List Ex)
structure Vr where (ty lo hi mx : Int) (nu : Bool)
structure Rf where (cols : List ByteArray) (tab : ByteArray) (tgt : List ByteArray)
abbrev coT (c : Co) : List E.T := [.v (.string c.nm), .v (.int .i64 c.ty), .v (.int .i64 c.lo), .v (.int .i64 c.hi), .v (.int .i64 c.mx), .v (.bool c.nn)]
abbrev fkT (f : Fk) : List E.T := [.sl .un 1 (f.cols.map i64T), .v (.int .i64 f.tab), .v (.int .i64 f.key)]
abbrev tbT (t : Tb) : List E.T := [.v (.string t.nm), .sl .un 6 (t.cols.map coT), .sl .un 1 (t.keys.map iLT), .sl .un 3 (t.fks.map fkT), .sl .un 8 (t.chks.map exT')]
abbrev vrT (v : Vr) : List E.T := [.v (.int .i64 v.ty), .v (.int .i64 v.lo), .v (.int .i64 v.hi), .v (.int .i64 v.mx), .v (.bool v.nu)]
abbrev sLT (l : List ByteArray) : List E.T := [.sl .un 1 (l.map sT)]
abbrev rfT (f : Rf) : List E.T := [.sl .un 1 (f.cols.map sT), .v (.string f.tab), .sl .un 1 (f.tgt.map sT)]
abbrev coC (c : Co) : C := .g [.t (.v (.string c.nm)), .t (.v (.int .i64 c.ty)), .t (.v (.int .i64 c.lo)), .t (.v (.int .i64 c.hi)), .t (.v (.int .i64 c.mx)), .t (.v (.bool c.nn))]
abbrev tbC (t : Tb) : C := .g [.t (.v (.string t.nm)), .t (.sl .un 6 (t.cols.map coT)), .t (.sl .un 1 (t.keys.map iLT)), .t (.sl .un 3 (t.fks.map fkT)), .t (.sl .un 8 (t.chks.map exT'))]
abbrev scC (z : Nz) (l : List Tb) : C := .a (.t (.sl z 5 (l.map tbT)))
abbrev vsC (z : Nz) (l : List Vr) : C := .a (.t (.sl z 5 (l.map vrT)))
end Go.Proofs.Ytihlgigaejhilaa.W
namespace Go.Proofs.Ytihlgigaejhilaa.W
open Go.RowKit E
theorem eq_up {α : Type} {a b : List α} (hl : a.length = b.length) (h : ∀ j (h : j < a.length), a[j]? = b[j]?) : a = b := List.ext_getElem? fun j => by
  by_cases hj : j < a.length
  · exact h j hj
  · rw [List.getElem?_eq_none (by omega), List.getElem?_eq_none (by omega)]
abbrev insP (t : Tb) (l : List Int) : Prop := ∀ j (h : j < l.length), 0 ≤ l[j] ∧ l[j] < t.cols.length

set_option maxRecDepth 20000 in
theorem inside_any (t : Tb) (l : List Int) (z : Nz) (hl : l.length ≤ 17592186044000) : Pure Try.prog 38 [tbC t, iL z l] (.c (bC (decide (insP t l)))) := by
 intro H
 refine Spec.enter Try.func38 rfl ?_
 refine AW.wk (Wk.keep 27 [(0, .c (tbC t)), (1, .c (iL z l))] [] (H) rfl ⟨rfl, rfl, trivial⟩ trivial (fun _ _ h => h) rfl) ?_
 refine sR ?_
 refine SeqK.r (b_box (r := [_, _, _, _, _]) rfl rfl rfl rfl rfl rfl) rfl ?_
 refine sA ?_
 refine SeqK.nil ?_
 refine AW.seq ?_
 refine sR ?_
 refine sA ?_
 refine SeqK.nil ?_
 refine AW.block ?_
 refine AW.loop (fun (i : Nat) s => (i ≤ l.length ∧ ∀ j (h : j < l.length), j < i → 0 ≤ l[j] ∧ l[j] < t.cols.length) ∧ s = ⟨27, sp [(1, .c (iL z l)), (2, .lp 2 0), (4, .c (bC false)), (5, iX .i64 ((i : Nat) : Int))], lv [(2, .box [.t (.v (.string t.nm)), .t (.sl .un 6 (t.cols.map coT)), .t (.sl .un 1 (t.keys.map iLT)), .t (.sl .un 3 (t.fks.map fkT)), .t (.sl .un 8 (t.chks.map exT'))])], H⟩) (fun i => l.length - i) 0 ⟨_, Wk.keep 27 [(1, .c (iL z l)), (2, .lp 2 0), (4, .c (bC false)), (5, iX .i64 ((((0 : Nat)) : Nat) : Int))] [(2, .box [.t (.v (.string t.nm)), .t (.sl .un 6 (t.cols.map coT)), .t (.sl .un 1 (t.keys.map iLT)), .t (.sl .un 3 (t.fks.map fkT)), .t (.sl .un 8 (t.chks.map exT'))])] (H) rfl ⟨rfl, rfl, rfl, rfl, trivial⟩ ⟨rfl, trivial⟩ (fun _ _ h => h) rfl, ⟨Nat.zero_le _, up0⟩, rfl⟩ (fun i s hs => ?_)
 obtain ⟨⟨hi0, hU⟩, rfl⟩ := hs
 refine AW.seq ?_
 refine sR ?_
 refine sM ?_
 refine sM ?_
 refine SeqK.q (q_len rfl Fx.un22 rfl) rfl rfl rfl ?_
 refine SeqK.q (q_lss rfl rfl rfl) rfl rfl rfl ?_
 refine SeqK.nil ?_
 refine AW.condD rfl (fun h9 => ?_) (fun h9 => ?_)
 ·
  have hi : i < l.length := by rw [List.length_map] at h9; omega
  refine AW.skip ?_
  refine AW.seq ?_
  refine AW.block ?_
  refine AW.seq ?_
  refine AW.draw Fx.mo ?_
  refine LexK.q (q_mvC rfl rfl) rfl rfl rfl ?_
  refine LexK.q (q_mvC rfl rfl) rfl rfl rfl ?_
  refine LexK.q (q_index _ rfl Fx.sl22 rfl rfl (by omega) (idx_map (f := i64T) hi)) rfl rfl rfl ?_
  refine LexK.q (q_load (.a _) rfl Fx.ty3 rfl rfl rfl) rfl rfl rfl ?_
  refine LexK.q (q_lss rfl rfl rfl) rfl rfl rfl ?_
  refine LexK.qD (q_mvC rfl rfl) rfl rfl rfl (fun g17 => ?_) (fun g17 => ?_)
  ·
   iterate 8 refine LexK.off rfl rfl rfl rfl rfl rfl ?_
   refine LexK.q (q_pkT rfl rfl rfl) rfl rfl rfl ?_
   refine LexK.nil (by kernel_rfl) ?_
   refine AW.condT rfl ?_
   refine sR ?_
   refine sA ?_
   refine SeqK.nil ?_
   refine AW.ret ?_
   exact fin_x (x := .c _) (H) (.tmp rfl .nil) rfl (fun _ _ h => h) (⟨bCe (dF (fun h => by have := h i hi; first | omega | (rw [List.length_map] at *; omega))), rfl⟩)
  refine LexK.on (q_mvC rfl rfl) rfl rfl rfl rfl rfl ?_
  refine LexK.on (q_mvC rfl rfl) rfl rfl rfl rfl rfl ?_
  refine LexK.on (q_index _ rfl Fx.sl22 rfl rfl (by omega) (idx_map (f := i64T) hi)) rfl rfl rfl rfl rfl ?_
  refine LexK.on (q_load (.a _) rfl Fx.ty3 rfl rfl rfl) rfl rfl rfl rfl rfl ?_
  refine LexK.on (q_fieldL _ rfl Fx.fl71_1 rfl rfl) rfl rfl rfl rfl rfl ?_
  refine LexK.rOn (b_load (r := .a _) rfl Fx.ty39 rfl rfl rfl rfl rfl rfl) rfl rfl rfl ?_
  refine LexK.on (q_len rfl Fx.un39 rfl) rfl rfl rfl rfl rfl ?_
  refine LexK.on (q_geq rfl rfl rfl) rfl rfl rfl rfl rfl ?_
  refine LexK.q (q_pkF rfl rfl rfl) rfl rfl rfl ?_
  refine LexK.nil (by kernel_rfl) ?_
  refine AW.condD rfl (fun h26 => ?_) (fun h26 => ?_)
  ·
   refine sR ?_
   refine sA ?_
   refine SeqK.nil ?_
   refine AW.ret ?_
   exact fin_x (x := .c _) (H) (.tmp rfl .nil) rfl (fun _ _ h => h) (⟨bCe (dF (fun h => by have := h i hi; first | omega | (rw [List.length_map] at *; omega))), rfl⟩)
  refine AW.skip ?_
  refine AW.reg ?_
  refine sM ?_
  refine SeqK.q (q_add _ rfl rfl rfl (w64 (by omega) (by omega))) rfl rfl rfl ?_
  refine sA ?_
  refine SeqK.nil ?_
  exact ⟨i + 1, _, Wk.keep 27 [(1, .c (iL z l)), (2, .lp 2 0), (4, .c (bC false)), (5, iX .i64 (((i + 1) : Nat) : Int))] [(2, .box [.t (.v (.string t.nm)), .t (.sl .un 6 (t.cols.map coT)), .t (.sl .un 1 (t.keys.map iLT)), .t (.sl .un 3 (t.fks.map fkT)), .t (.sl .un 8 (t.chks.map exT'))])] (H) rfl ⟨rfl, rfl, rfl, rfl, trivial⟩ ⟨rfl, trivial⟩ (fun _ _ h => h) rfl, by omega, ⟨hi, upS hi hU (by first | omega | (rw [List.length_map] at *; omega) | (simp only [List.length_map] at *; omega))⟩, rfl⟩
 refine AW.exit ?_
 refine eth_e ?_
 refine eth_e ?_
 refine exit_here ?_
 refine sR ?_
 refine sA ?_
 refine SeqK.nil ?_
 refine AW.ret ?_
 exact fin_x (x := .c _) (H) (.tmp rfl .nil) rfl (fun _ _ h => h) (⟨bCe (dT (upE hU (by rw [List.length_map] at h9; omega))), rfl⟩)

set_option maxRecDepth 20000 in
theorem texts_any (a b : List ByteArray) (z z2 : Nz) (hl : a.length ≤ 17592186044000) : Pure Try.prog 94 [.a (.t (.sl z 1 (a.map sT))), .a (.t (.sl z2 1 (b.map sT)))] (.c (bC (decide (a = b)))) := by
 intro H
 refine Spec.enter Try.func94 rfl ?_
 refine AW.wk (Wk.keep 26 [(0, .c (.a (.t (.sl z 1 (a.map sT))))), (1, .c (.a (.t (.sl z2 1 (b.map sT)))))] [] (H) rfl ⟨rfl, rfl, trivial⟩ trivial (fun _ _ h => h) rfl) ?_
 refine sR ?_
 refine sA ?_
 refine SeqK.nil ?_
 refine AW.seq ?_
 refine sR ?_
 refine sM ?_
 refine SeqK.q (q_len rfl Fx.un36 rfl) rfl rfl rfl ?_
 refine sM ?_
 refine SeqK.q (q_len rfl Fx.un36 rfl) rfl rfl rfl ?_
 refine SeqK.q (q_neq rfl rfl rfl) rfl rfl rfl ?_
 refine SeqK.nil ?_
 refine AW.condD rfl (fun h10 => ?_) (fun h10 => ?_)
 ·
  refine sR ?_
  refine sA ?_
  refine SeqK.nil ?_
  refine AW.ret ?_
  exact fin_x (x := .c _) (H) (.tmp rfl .nil) rfl (fun _ _ h => h) (⟨bCe (dF (fun h => h10 (by subst h; simp))), rfl⟩)
 refine AW.skip ?_
 refine AW.seq ?_
 refine AW.seq ?_
 have hlen : a.length = b.length := by simp only [List.length_map] at h10; omega
 refine AW.reg ?_
 refine sA ?_
 refine SeqK.nil ?_
 refine AW.block ?_
 refine AW.loop (fun (i : Nat) s => (i ≤ a.length ∧ ∀ j (h : j < a.length), j < i → a[j]? = b[j]?) ∧ s = ⟨26, sp [(0, .c (.a (.t (.sl z 1 (a.map sT))))), (1, .c (.a (.t (.sl z2 1 (b.map sT))))), (4, .c (bC false)), (5, iX .i64 ((i : Nat) : Int))], lv [], H⟩) (fun i => a.length - i) 0 ⟨_, Wk.keep 26 [(0, .c (.a (.t (.sl z 1 (a.map sT))))), (1, .c (.a (.t (.sl z2 1 (b.map sT))))), (4, .c (bC false)), (5, iX .i64 ((((0 : Nat)) : Nat) : Int))] [] (H) rfl ⟨rfl, rfl, rfl, rfl, trivial⟩ trivial (fun _ _ h => h) rfl, ⟨Nat.zero_le _, up0⟩, rfl⟩ (fun i s hs => ?_)
 obtain ⟨⟨hi0, hU⟩, rfl⟩ := hs
 refine AW.seq ?_
 refine sR ?_
 refine sM ?_
 refine sM ?_
 refine SeqK.q (q_len rfl Fx.un36 rfl) rfl rfl rfl ?_
 refine SeqK.q (q_lss rfl rfl rfl) rfl rfl rfl ?_
 refine SeqK.nil ?_
 refine AW.condD rfl (fun h14 => ?_) (fun h14 => ?_)
 ·
  have hi : i < a.length := by rw [List.length_map] at h14; omega
  have hib : i < b.length := by omega
  refine AW.skip ?_
  refine AW.seq ?_
  refine AW.block ?_
  refine AW.seq ?_
  refine AW.draw Fx.mo ?_
  refine LexK.q (q_mvC rfl rfl) rfl rfl rfl ?_
  refine LexK.q (q_mvC rfl rfl) rfl rfl rfl ?_
  refine LexK.q (q_index _ rfl Fx.sl36 rfl rfl (by omega) (idx_map (f := sT) hi)) rfl rfl rfl ?_
  refine LexK.q (q_load (.a _) rfl Fx.ty9 rfl rfl rfl) rfl rfl rfl ?_
  refine LexK.q (q_mvC rfl rfl) rfl rfl rfl ?_
  refine LexK.q (q_mvC rfl rfl) rfl rfl rfl ?_
  refine LexK.q (q_index _ rfl Fx.sl36 rfl rfl (by omega) (idx_map (f := sT) hib)) rfl rfl rfl ?_
  refine LexK.q (q_load (.a _) rfl Fx.ty9 rfl rfl rfl) rfl rfl rfl ?_
  refine LexK.q (q_neqS rfl rfl rfl) rfl rfl rfl ?_
  refine LexK.nil (by kernel_rfl) ?_
  refine AW.condD rfl (fun h25 => ?_) (fun h25 => ?_)
  ·
   refine sR ?_
   refine sA ?_
   refine SeqK.nil ?_
   refine AW.ret ?_
   exact fin_x (x := .c _) (H) (.tmp rfl .nil) rfl (fun _ _ h => h) (⟨bCe (dF (fun h => h25 (by subst h; rfl))), rfl⟩)
  refine AW.skip ?_
  refine AW.reg ?_
  refine sM ?_
  refine SeqK.q (q_add _ rfl rfl rfl (w64 (by omega) (by omega))) rfl rfl rfl ?_
  refine sA ?_
  refine SeqK.nil ?_
  exact ⟨i + 1, _, Wk.keep 26 [(0, .c (.a (.t (.sl z 1 (a.map sT))))), (1, .c (.a (.t (.sl z2 1 (b.map sT))))), (4, .c (bC false)), (5, iX .i64 (((i + 1) : Nat) : Int))] [] (H) rfl ⟨rfl, rfl, rfl, rfl, trivial⟩ trivial (fun _ _ h => h) rfl, by omega, ⟨hi, upS hi hU (by rw [List.getElem?_eq_getElem hi, List.getElem?_eq_getElem hib, show a[i] = b[i] from Classical.not_not.1 h25])⟩, rfl⟩
 refine AW.exit ?_
 refine eth_e ?_
 refine eth_e ?_
 refine exit_here ?_
 refine sR ?_
 refine sA ?_
 refine SeqK.nil ?_
 refine AW.ret ?_
 exact fin_x (x := .c _) (H) (.tmp rfl .nil) rfl (fun _ _ h => h) (⟨bCe (dT (eq_up hlen (upE hU (by rw [List.length_map] at h14; omega)))), rfl⟩)

set_option maxRecDepth 20000 in
theorem ints_any (a b : List Int) (z z2 : Nz) (hl : a.length ≤ 17592186044000) : Pure Try.prog 96 [.a (.t (.sl z 1 (a.map i64T))), .a (.t (.sl z2 1 (b.map i64T)))] (.c (bC (decide (a = b)))) := by
 intro H
 refine Spec.enter Try.func96 rfl ?_
 refine AW.wk (Wk.keep 26 [(0, .c (.a (.t (.sl z 1 (a.map i64T))))), (1, .c (.a (.t (.sl z2 1 (b.map i64T)))))] [] (H) rfl ⟨rfl, rfl, trivial⟩ trivial (fun _ _ h => h) rfl) ?_
 refine sR ?_
 refine sA ?_
 refine SeqK.nil ?_
 refine AW.seq ?_
 refine sR ?_
 refine sM ?_
 refine SeqK.q (q_len rfl Fx.un22 rfl) rfl rfl rfl ?_
 refine sM ?_
 refine SeqK.q (q_len rfl Fx.un22 rfl) rfl rfl rfl ?_
 refine SeqK.q (q_neq rfl rfl rfl) rfl rfl rfl ?_
 refine SeqK.nil ?_
 refine AW.condD rfl (fun h10 => ?_) (fun h10 => ?_)
 ·
  refine sR ?_
  refine sA ?_
  refine SeqK.nil ?_
  refine AW.ret ?_
  exact fin_x (x := .c _) (H) (.tmp rfl .nil) rfl (fun _ _ h => h) (⟨bCe (dF (fun h => h10 (by subst h; simp))), rfl⟩)
 refine AW.skip ?_
 refine AW.seq ?_
 refine AW.seq ?_
 have hlen : a.length = b.length := by simp only [List.length_map] at h10; omega
 refine AW.reg ?_
 refine sA ?_
 refine SeqK.nil ?_
 refine AW.block ?_
 refine AW.loop (fun (i : Nat) s => (i ≤ a.length ∧ ∀ j (h : j < a.length), j < i → a[j]? = b[j]?) ∧ s = ⟨26, sp [(0, .c (.a (.t (.sl z 1 (a.map i64T))))), (1, .c (.a (.t (.sl z2 1 (b.map i64T))))), (4, .c (bC false)), (5, iX .i64 ((i : Nat) : Int))], lv [], H⟩) (fun i => a.length - i) 0 ⟨_, Wk.keep 26 [(0, .c (.a (.t (.sl z 1 (a.map i64T))))), (1, .c (.a (.t (.sl z2 1 (b.map i64T))))), (4, .c (bC false)), (5, iX .i64 ((((0 : Nat)) : Nat) : Int))] [] (H) rfl ⟨rfl, rfl, rfl, rfl, trivial⟩ trivial (fun _ _ h => h) rfl, ⟨Nat.zero_le _, up0⟩, rfl⟩ (fun i s hs => ?_)
 obtain ⟨⟨hi0, hU⟩, rfl⟩ := hs
 refine AW.seq ?_
 refine sR ?_
 refine sM ?_
 refine sM ?_
 refine SeqK.q (q_len rfl Fx.un22 rfl) rfl rfl rfl ?_
 refine SeqK.q (q_lss rfl rfl rfl) rfl rfl rfl ?_
 refine SeqK.nil ?_
 refine AW.condD rfl (fun h14 => ?_) (fun h14 => ?_)
 ·
  have hi : i < a.length := by rw [List.length_map] at h14; omega
  have hib : i < b.length := by omega
  refine AW.skip ?_
  refine AW.seq ?_
  refine AW.block ?_
  refine AW.seq ?_
  refine AW.draw Fx.mo ?_
  refine LexK.q (q_mvC rfl rfl) rfl rfl rfl ?_
  refine LexK.q (q_mvC rfl rfl) rfl rfl rfl ?_
  refine LexK.q (q_index _ rfl Fx.sl22 rfl rfl (by omega) (idx_map (f := i64T) hi)) rfl rfl rfl ?_
  refine LexK.q (q_load (.a _) rfl Fx.ty3 rfl rfl rfl) rfl rfl rfl ?_
  refine LexK.q (q_mvC rfl rfl) rfl rfl rfl ?_
  refine LexK.q (q_mvC rfl rfl) rfl rfl rfl ?_
  refine LexK.q (q_index _ rfl Fx.sl22 rfl rfl (by omega) (idx_map (f := i64T) hib)) rfl rfl rfl ?_
  refine LexK.q (q_load (.a _) rfl Fx.ty3 rfl rfl rfl) rfl rfl rfl ?_
  refine LexK.q (q_neq rfl rfl rfl) rfl rfl rfl ?_
  refine LexK.nil (by kernel_rfl) ?_
  refine AW.condD rfl (fun h25 => ?_) (fun h25 => ?_)
  ·
   refine sR ?_
   refine sA ?_
   refine SeqK.nil ?_
   refine AW.ret ?_
   exact fin_x (x := .c _) (H) (.tmp rfl .nil) rfl (fun _ _ h => h) (⟨bCe (dF (fun h => h25 (by subst h; rfl))), rfl⟩)
  refine AW.skip ?_
  refine AW.reg ?_
  refine sM ?_
  refine SeqK.q (q_add _ rfl rfl rfl (w64 (by omega) (by omega))) rfl rfl rfl ?_
  refine sA ?_
  refine SeqK.nil ?_
  exact ⟨i + 1, _, Wk.keep 26 [(0, .c (.a (.t (.sl z 1 (a.map i64T))))), (1, .c (.a (.t (.sl z2 1 (b.map i64T))))), (4, .c (bC false)), (5, iX .i64 (((i + 1) : Nat) : Int))] [] (H) rfl ⟨rfl, rfl, rfl, rfl, trivial⟩ trivial (fun _ _ h => h) rfl, by omega, ⟨hi, upS hi hU (by rw [List.getElem?_eq_getElem hi, List.getElem?_eq_getElem hib, show a[i] = b[i] from Classical.not_not.1 h25])⟩, rfl⟩
 refine AW.exit ?_
 refine eth_e ?_
 refine eth_e ?_
 refine exit_here ?_
 refine sR ?_
 refine sA ?_
 refine SeqK.nil ?_
 refine AW.ret ?_
 exact fin_x (x := .c _) (H) (.tmp rfl .nil) rfl (fun _ _ h => h) (⟨bCe (dT (eq_up hlen (upE hU (by rw [List.length_map] at h14; omega)))), rfl⟩)

abbrev ndP (l : List ByteArray) : Prop := ∀ j (h : j < l.length), ∀ k (hk : k < j), l[j] ≠ l[k]'(by omega)

set_option maxRecDepth 20000 in
theorem twice_any (l : List ByteArray) (z : Nz) (hl : l.length ≤ 17592186044000) : Pure Try.prog 93 [sL z l] (.c (bC (decide (¬ ndP l)))) := by
  intro H
  refine Spec.enter Try.func93 rfl ?_
  refine AW.wk (Wk.keep 25 [(0, .c (sL z l))] [] (H) rfl ⟨rfl, trivial⟩ trivial (fun _ _ h => h) rfl) ?_
  refine sR ?_
  refine sA ?_
  refine SeqK.nil ?_
  refine AW.seq ?_
  refine sR ?_
  refine sA ?_
  refine SeqK.nil ?_
  refine AW.block ?_
  refine AW.loop (fun (i : Nat) s => (i ≤ l.length ∧ ∀ j (h : j < l.length), j < i → ∀ k (hk : k < j), l[j] ≠ l[k]'(by omega)) ∧ s = ⟨25, sp [(0, .c (sL z l)), (2, .c (bC false)), (3, iX .i64 ((i : Nat) : Int))], lv [], H⟩) (fun i => l.length - i) 0 ⟨_, Wk.keep 25 [(0, .c (sL z l)), (2, .c (bC false)), (3, iX .i64 ((((0 : Nat)) : Nat) : Int))] [] (H) rfl ⟨rfl, rfl, rfl, trivial⟩ trivial (fun _ _ h => h) rfl, ⟨Nat.zero_le _, up0⟩, rfl⟩ (fun i s hs => ?_)
  obtain ⟨⟨hi0, hU⟩, rfl⟩ := hs
  refine AW.seq ?_
  refine sR ?_
  refine sM ?_
  refine sM ?_
  refine SeqK.q (q_len rfl Fx.un36 rfl) rfl rfl rfl ?_
  refine SeqK.q (q_lss rfl rfl rfl) rfl rfl rfl ?_
  refine SeqK.nil ?_
  refine AW.condD rfl (fun h8 => ?_) (fun h8 => ?_)
  ·
    have hi : i < l.length := by rw [List.length_map] at h8; omega
    refine AW.skip ?_
    refine AW.seq ?_
    refine AW.block ?_
    refine sR ?_
    refine sA ?_
    refine SeqK.nil ?_
    refine AW.block ?_
    refine AW.loop (fun (j : Nat) s => (j ≤ i ∧ ∀ k (hk : k < j) (hi : k < i), l[i] ≠ l[k]'(by omega)) ∧ s = ⟨25, sp [(0, .c (sL z l)), (2, .c (bC false)), (3, iX .i64 ((i : Nat) : Int)), (4, iX .i64 ((j : Nat) : Int))], lv [], H⟩) (fun j => i - j) 0 ⟨_, Wk.keep 25 [(0, .c (sL z l)), (2, .c (bC false)), (3, iX .i64 ((i : Nat) : Int)), (4, iX .i64 ((((0 : Nat)) : Nat) : Int))] [] (H) rfl ⟨rfl, rfl, rfl, rfl, trivial⟩ trivial (fun _ _ h => h) rfl, ⟨Nat.zero_le _, fun k hk => absurd hk (Nat.not_lt_zero k)⟩, rfl⟩ (fun j s hs => ?_)
    obtain ⟨⟨hj0, hV⟩, rfl⟩ := hs
    refine AW.seq ?_
    refine sR ?_
    refine sM ?_
    refine sM ?_
    refine SeqK.q (q_lss rfl rfl rfl) rfl rfl rfl ?_
    refine SeqK.nil ?_
    refine AW.condD rfl (fun h13 => ?_) (fun h13 => ?_)
    ·
      have hj : j < i := by omega
      have hjl : j < l.length := by omega
      refine AW.skip ?_
      refine AW.seq ?_
      refine AW.block ?_
      refine AW.seq ?_
      refine AW.draw Fx.mo ?_
      refine LexK.q (q_mvC rfl rfl) rfl rfl rfl ?_
      refine LexK.q (q_mvC rfl rfl) rfl rfl rfl ?_
      refine LexK.q (q_index _ rfl Fx.sl36 rfl rfl (by omega) (idx_map (f := sT) hi)) rfl rfl rfl ?_
      refine LexK.q (q_load (.a _) rfl Fx.ty9 rfl rfl rfl) rfl rfl rfl ?_
      refine LexK.q (q_mvC rfl rfl) rfl rfl rfl ?_
      refine LexK.q (q_mvC rfl rfl) rfl rfl rfl ?_
      refine LexK.q (q_index _ rfl Fx.sl36 rfl rfl (by omega) (idx_map (f := sT) hjl)) rfl rfl rfl ?_
      refine LexK.q (q_load (.a _) rfl Fx.ty9 rfl rfl rfl) rfl rfl rfl ?_
      refine LexK.q (q_eqlS rfl rfl rfl) rfl rfl rfl ?_
      refine LexK.nil (by kernel_rfl) ?_
      refine AW.condD rfl (fun h24 => ?_) (fun h24 => ?_)
      ·
        refine sR ?_
        refine sA ?_
        refine SeqK.nil ?_
        refine AW.ret ?_
        exact fin_x (x := .c _) (H) (.tmp rfl .nil) rfl (fun _ _ h => h) (⟨bCe (dT (fun h => h i hi j hj h24)), rfl⟩)
      ·
        refine AW.skip ?_
        refine AW.reg ?_
        refine sM ?_
        refine SeqK.q (q_add _ rfl rfl rfl (w64 (by omega) (by omega))) rfl rfl rfl ?_
        refine sA ?_
        refine SeqK.nil ?_
        exact ⟨j + 1, _, Wk.keep 25 [(0, .c (sL z l)), (2, .c (bC false)), (3, iX .i64 ((i : Nat) : Int)), (4, iX .i64 (((j + 1) : Nat) : Int))] [] (H) rfl ⟨rfl, rfl, rfl, rfl, trivial⟩ trivial (fun _ _ h => h) rfl, by omega, ⟨by omega, fun k hk hki => by
          by_cases e : k = j
          · subst e; exact h24
          · exact hV k (by omega) hki⟩, rfl⟩
    ·
      refine AW.exit ?_
      refine eth_e ?_
      refine eth_e ?_
      refine exit_here ?_
      have hVV : ∀ k (hk : k < i), l[i] ≠ l[k]'(by omega) := fun k hk => hV k (by omega) hk
      refine AW.reg ?_
      refine sM ?_
      refine SeqK.q (q_add _ rfl rfl rfl (w64 (by omega) (by omega))) rfl rfl rfl ?_
      refine sA ?_
      refine SeqK.nil ?_
      exact ⟨i + 1, _, Wk.keep 25 [(0, .c (sL z l)), (2, .c (bC false)), (3, iX .i64 (((i + 1) : Nat) : Int))] [] (H) rfl ⟨rfl, rfl, rfl, trivial⟩ trivial (fun _ _ h => h) rfl, by omega, ⟨hi, upS hi hU (hVV)⟩, rfl⟩
  ·
    refine AW.exit ?_
    refine eth_e ?_
    refine eth_e ?_
    refine exit_here ?_
    refine sR ?_
    refine sA ?_
    refine SeqK.nil ?_
    refine AW.ret ?_
    exact fin_x (x := .c _) (H) (.tmp rfl .nil) rfl (fun _ _ h => h) (⟨bCe (dF (fun h => h (upE hU (by rw [List.length_map] at h8; omega)))), rfl⟩)

abbrev fewP (n : Int) (l : List ByteArray) : Prop := (∀ j (h : j < l.length), l[j].size ≤ 60) ∧ n ≤ 20 ∧ l.length ≤ 20

set_option maxRecDepth 20000 in
theorem few_any (n : Int) (l : List ByteArray) (z : Nz) (hl : l.length ≤ 17592186044000) : Pure Try.prog 37 [iC n, sL z l] (.c (bC (decide (fewP n l)))) := by
 intro H
 refine Spec.enter Try.func37 rfl ?_
 refine AW.wk (Wk.keep 25 [(0, .c (iC n)), (1, .c (sL z l))] [] (H) rfl ⟨rfl, rfl, trivial⟩ trivial (fun _ _ h => h) rfl) ?_
 refine sR ?_
 refine sA ?_
 refine SeqK.nil ?_
 refine AW.seq ?_
 refine sR ?_
 refine sA ?_
 refine SeqK.nil ?_
 refine AW.block ?_
 refine AW.loop (fun (i : Nat) s => (i ≤ l.length ∧ ∀ j (h : j < l.length), j < i → l[j].size ≤ 60) ∧ s = ⟨25, sp [(0, .c (iC n)), (1, .c (sL z l)), (4, .c (bC false)), (5, iX .i64 ((i : Nat) : Int))], lv [], H⟩) (fun i => l.length - i) 0 ⟨_, Wk.keep 25 [(0, .c (iC n)), (1, .c (sL z l)), (4, .c (bC false)), (5, iX .i64 ((((0 : Nat)) : Nat) : Int))] [] (H) rfl ⟨rfl, rfl, rfl, rfl, trivial⟩ trivial (fun _ _ h => h) rfl, ⟨Nat.zero_le _, up0⟩, rfl⟩ (fun i s hs => ?_)
 obtain ⟨⟨hi0, hU⟩, rfl⟩ := hs
 refine AW.seq ?_
 refine sR ?_
 refine sM ?_
 refine sM ?_
 refine SeqK.q (q_len rfl Fx.un36 rfl) rfl rfl rfl ?_
 refine SeqK.q (q_lss rfl rfl rfl) rfl rfl rfl ?_
 refine SeqK.nil ?_
 refine AW.condD rfl (fun h9 => ?_) (fun h9 => ?_)
 ·
  have hi : i < l.length := by rw [List.length_map] at h9; omega
  refine AW.skip ?_
  refine AW.seq ?_
  refine AW.block ?_
  refine sR ?_
  refine sM ?_
  refine sM ?_
  refine SeqK.q (q_index _ rfl Fx.sl36 rfl rfl (by omega) (idx_map (f := sT) hi)) rfl rfl rfl ?_
  refine SeqK.q (q_load (.a _) rfl Fx.ty9 rfl rfl rfl) rfl rfl rfl ?_
  refine SeqK.q (q_lenS rfl Fx.un9 rfl) rfl rfl rfl ?_
  refine SeqK.q (q_gtr rfl rfl rfl) rfl rfl rfl ?_
  refine SeqK.nil ?_
  refine AW.condD rfl (fun h17 => ?_) (fun h17 => ?_)
  ·
   refine sR ?_
   refine sA ?_
   refine SeqK.nil ?_
   refine AW.ret ?_
   exact fin_x (x := .c _) (H) (.tmp rfl .nil) rfl (fun _ _ h => h) (⟨bCe (dF (fun h => by have := h.1 i hi; omega)), rfl⟩)
  refine AW.skip ?_
  refine AW.reg ?_
  refine sM ?_
  refine SeqK.q (q_add _ rfl rfl rfl (w64 (by omega) (by omega))) rfl rfl rfl ?_
  refine sA ?_
  refine SeqK.nil ?_
  exact ⟨i + 1, _, Wk.keep 25 [(0, .c (iC n)), (1, .c (sL z l)), (4, .c (bC false)), (5, iX .i64 (((i + 1) : Nat) : Int))] [] (H) rfl ⟨rfl, rfl, rfl, rfl, trivial⟩ trivial (fun _ _ h => h) rfl, by omega, ⟨hi, upS hi hU (by omega)⟩, rfl⟩
 refine AW.exit ?_
 refine eth_e ?_
 refine eth_e ?_
 refine exit_here ?_
 refine AW.seq ?_
 have hA := upE hU (by rw [List.length_map] at h9; omega)
 refine AW.reg ?_
 refine sM ?_
 refine SeqK.q (q_leq rfl rfl rfl) rfl rfl rfl ?_
 refine SeqK.qD (q_mvC rfl rfl) rfl rfl rfl (fun g20 => ?_) (fun g20 => ?_)
 ·
  refine SeqK.on (q_mvC rfl rfl) rfl rfl rfl rfl rfl ?_
  refine SeqK.on (q_len rfl Fx.un36 rfl) rfl rfl rfl rfl rfl ?_
  refine SeqK.on (q_leq rfl rfl rfl) rfl rfl rfl rfl rfl ?_
  refine SeqK.q (q_pkT rfl rfl rfl) rfl rfl rfl ?_
  refine sA ?_
  refine SeqK.nil ?_
  refine AW.ret ?_
  exact fin_x (x := .c _) (H) (.tmp rfl .nil) rfl (fun _ _ h => h) (⟨bCe (dI ⟨fun h => ⟨hA, by omega, by rw [List.length_map] at h; omega⟩, fun h => by have := h.2.2; rw [List.length_map]; omega⟩), rfl⟩)
 iterate 3 refine SeqK.off rfl rfl rfl rfl rfl rfl ?_
 refine SeqK.q (q_pkF rfl rfl rfl) rfl rfl rfl ?_
 refine sA ?_
 refine SeqK.nil ?_
 refine AW.ret ?_
 exact fin_x (x := .c _) (H) (.tmp rfl .nil) rfl (fun _ _ h => h) (⟨bCe (dF (fun h => by have := h.2.1; omega)), rfl⟩)

end Go.Proofs.Ytihlgigaejhilaa.W
namespace Go.Proofs.Ytihlgigaejhilaa.W
open Go.RowKit E
/-- the number of the first one -/
def fstI {α : Type} (f : α → ByteArray) (s : ByteArray) : List α → Option Nat
  | [] => none
  | a :: r => if f a = s then some 0 else (fstI f s r).map (· + 1)
theorem fstI_app {α : Type} {f : α → ByteArray} {s : ByteArray} {b : List α} : ∀ {a : List α}, (∀ x ∈ a, f x ≠ s) → fstI f s (a ++ b) = (fstI f s b).map (a.length + ·)
  | [], _ => by simp
  | x :: a, h => by
    rw [List.cons_append, fstI, if_neg (h x (by simp)), fstI_app fun y hy => h y (by simp [hy]), Option.map_map]
    congr 1
    funext n; simp only [Function.comp, List.length_cons]; omega
theorem fstI_hit {α : Type} {f : α → ByteArray} {s : ByteArray} {l : List α} {i : Nat} (hi : i < l.length) (h : ∀ j (hj : j < l.length), j < i → f l[j] ≠ s) (e : f l[i] = s) : fstI f s l = some i := by
  have h1 : l = l.take i ++ l.drop i := (List.take_append_drop i l).symm
  rw [h1, fstI_app (fun x hx => by
    obtain ⟨j, hj, rfl⟩ := List.mem_iff_getElem.1 hx
    rw [List.length_take] at hj
    rw [List.getElem_take]; exact h j (by omega) (by omega)), List.drop_eq_getElem_cons hi, fstI, if_pos e, Option.map_some, List.length_take, Nat.min_eq_left (by omega)]
  rfl
theorem fstI_no {α : Type} {f : α → ByteArray} {s : ByteArray} {l : List α} (h : ∀ j (hj : j < l.length), f l[j] ≠ s) : fstI f s l = none := by
  have := fstI_app (f := f) (s := s) (a := l) (b := []) fun x hx => by
    obtain ⟨j, hj, rfl⟩ := List.mem_iff_getElem.1 hx; exact h j hj
  rw [List.append_nil] at this
  rw [this]; rfl
abbrev optX (o : Option Nat) : X := .tup [iC ((o.getD 0 : Nat) : Int), bC o.isSome]

set_option maxRecDepth 20000 in
theorem find_any (d : List Tb) (z : Nz) (u : ByteArray) (hl : d.length ≤ 17592186044000) : Pure Try.prog 92 [scC z d, sC u] (optX (fstI Tb.nm u d)) := by
 intro H
 refine Spec.enter Try.func92 rfl ?_
 refine AW.wk (Wk.keep 21 [(0, .c (scC z d)), (1, .c (sC u))] [] (H) rfl ⟨rfl, rfl, trivial⟩ trivial (fun _ _ h => h) rfl) ?_
 refine sR ?_
 refine sA ?_
 refine sA ?_
 refine SeqK.nil ?_
 refine AW.seq ?_
 refine sR ?_
 refine sA ?_
 refine SeqK.nil ?_
 refine AW.block ?_
 refine AW.loop (fun (i : Nat) s => (i ≤ d.length ∧ ∀ j (h : j < d.length), j < i → Tb.nm d[j] ≠ u) ∧ s = ⟨21, sp [(0, .c (scC z d)), (1, .c (sC u)), (4, .c (iC 0)), (5, .c (bC false)), (6, iX .i64 ((i : Nat) : Int))], lv [], H⟩) (fun i => d.length - i) 0 ⟨_, Wk.keep 21 [(0, .c (scC z d)), (1, .c (sC u)), (4, .c (iC 0)), (5, .c (bC false)), (6, iX .i64 ((((0 : Nat)) : Nat) : Int))] [] (H) rfl ⟨rfl, rfl, rfl, rfl, rfl, trivial⟩ trivial (fun _ _ h => h) rfl, ⟨Nat.zero_le _, up0⟩, rfl⟩ (fun i s hs => ?_)
 obtain ⟨⟨hi0, hU⟩, rfl⟩ := hs
 refine AW.seq ?_
 refine sR ?_
 refine sM ?_
 refine sM ?_
 refine SeqK.q (q_len rfl Fx.un35 rfl) rfl rfl rfl ?_
 refine SeqK.q (q_lss rfl rfl rfl) rfl rfl rfl ?_
 refine SeqK.nil ?_
 refine AW.condD rfl (fun h10 => ?_) (fun h10 => ?_)
 ·
  have hi : i < d.length := by rw [List.length_map] at h10; omega
  refine AW.skip ?_
  refine AW.seq ?_
  refine AW.block ?_
  refine sR ?_
  refine sM ?_
  refine sM ?_
  refine SeqK.q (q_index _ rfl Fx.sl35 rfl rfl (by omega) (idx_map (f := tbT) hi)) rfl rfl rfl ?_
  refine SeqK.q (q_fieldP _ rfl Fx.fl71_0 rfl rfl) rfl rfl rfl ?_
  refine SeqK.q (q_load (.a _) rfl Fx.ty9 rfl rfl rfl) rfl rfl rfl ?_
  refine sM ?_
  refine SeqK.q (q_eqlS rfl rfl rfl) rfl rfl rfl ?_
  refine SeqK.nil ?_
  refine AW.condD rfl (fun h19 => ?_) (fun h19 => ?_)
  ·
   refine sR ?_
   refine sM ?_
   refine sA ?_
   refine sA ?_
   refine SeqK.nil ?_
   refine AW.ret ?_
   exact fin_x (x := .tup [_, _]) (H) (.tmp rfl (.tmp rfl .nil)) rfl (fun _ _ h => h) (⟨by rw [fstI_hit (f := Tb.nm) hi hU h19]; rfl, rfl⟩)
  refine AW.skip ?_
  refine AW.reg ?_
  refine sM ?_
  refine SeqK.q (q_add _ rfl rfl rfl (w64 (by omega) (by omega))) rfl rfl rfl ?_
  refine sA ?_
  refine SeqK.nil ?_
  exact ⟨i + 1, _, Wk.keep 21 [(0, .c (scC z d)), (1, .c (sC u)), (4, .c (iC 0)), (5, .c (bC false)), (6, iX .i64 (((i + 1) : Nat) : Int))] [] (H) rfl ⟨rfl, rfl, rfl, rfl, rfl, trivial⟩ trivial (fun _ _ h => h) rfl, by omega, ⟨hi, upS hi hU (h19)⟩, rfl⟩
 refine AW.exit ?_
 refine eth_e ?_
 refine eth_e ?_
 refine exit_here ?_
 refine sR ?_
 refine sA ?_
 refine sA ?_
 refine SeqK.nil ?_
 refine AW.ret ?_
 exact fin_x (x := .tup [_, _]) (H) (.tmp rfl (.tmp rfl .nil)) rfl (fun _ _ h => h) (⟨by rw [fstI_no (f := Tb.nm) (upE hU (by rw [List.length_map] at h10; omega))]; rfl, rfl⟩)

set_option maxRecDepth 20000 in
theorem column_no (t : Tb) (u : ByteArray) (hl : t.cols.length ≤ 17592186044000) : Pure Try.prog 109 [tbC t, sC u] (optX (fstI Co.nm u t.cols)) := by
 intro H
 refine Spec.enter Try.func109 rfl ?_
 refine AW.wk (Wk.keep 23 [(0, .c (tbC t)), (1, .c (sC u))] [] (H) rfl ⟨rfl, rfl, trivial⟩ trivial (fun _ _ h => h) rfl) ?_
 refine sR ?_
 refine SeqK.r (b_box (r := [_, _, _, _, _]) rfl rfl rfl rfl rfl rfl) rfl ?_
 refine sA ?_
 refine sA ?_
 refine SeqK.nil ?_
 refine AW.seq ?_
 refine sR ?_
 refine sA ?_
 refine SeqK.nil ?_
 refine AW.block ?_
 refine AW.loop (fun (i : Nat) s => (i ≤ t.cols.length ∧ ∀ j (h : j < t.cols.length), j < i → Co.nm t.cols[j] ≠ u) ∧ s = ⟨23, sp [(1, .c (sC u)), (2, .lp 2 0), (4, .c (iC 0)), (5, .c (bC false)), (6, iX .i64 ((i : Nat) : Int))], lv [(2, .box [.t (.v (.string t.nm)), .t (.sl .un 6 (t.cols.map coT)), .t (.sl .un 1 (t.keys.map iLT)), .t (.sl .un 3 (t.fks.map fkT)), .t (.sl .un 8 (t.chks.map exT'))])], H⟩) (fun i => t.cols.length - i) 0 ⟨_, Wk.keep 23 [(1, .c (sC u)), (2, .lp 2 0), (4, .c (iC 0)), (5, .c (bC false)), (6, iX .i64 ((((0 : Nat)) : Nat) : Int))] [(2, .box [.t (.v (.string t.nm)), .t (.sl .un 6 (t.cols.map coT)), .t (.sl .un 1 (t.keys.map iLT)), .t (.sl .un 3 (t.fks.map fkT)), .t (.sl .un 8 (t.chks.map exT'))])] (H) rfl ⟨rfl, rfl, rfl, rfl, rfl, trivial⟩ ⟨rfl, trivial⟩ (fun _ _ h => h) rfl, ⟨Nat.zero_le _, up0⟩, rfl⟩ (fun i s hs => ?_)
 obtain ⟨⟨hi0, hU⟩, rfl⟩ := hs
 refine AW.seq ?_
 refine sR ?_
 refine sM ?_
 refine SeqK.q (q_fieldL _ rfl Fx.fl71_1 rfl rfl) rfl rfl rfl ?_
 refine SeqK.r (b_load (r := .a _) rfl Fx.ty39 rfl rfl rfl rfl rfl rfl) rfl ?_
 refine SeqK.q (q_len rfl Fx.un39 rfl) rfl rfl rfl ?_
 refine SeqK.q (q_lss rfl rfl rfl) rfl rfl rfl ?_
 refine SeqK.nil ?_
 refine AW.condD rfl (fun h11 => ?_) (fun h11 => ?_)
 ·
  have hi : i < t.cols.length := by rw [List.length_map] at h11; omega
  refine AW.skip ?_
  refine AW.seq ?_
  refine AW.block ?_
  refine sR ?_
  refine SeqK.q (q_fieldL _ rfl Fx.fl71_1 rfl rfl) rfl rfl rfl ?_
  refine SeqK.r (b_load (r := .a _) rfl Fx.ty39 rfl rfl rfl rfl rfl rfl) rfl ?_
  refine sM ?_
  refine SeqK.q (q_index _ rfl Fx.sl39 rfl rfl (by omega) (idx_map (f := coT) hi)) rfl rfl rfl ?_
  refine SeqK.q (q_fieldP _ rfl Fx.fl89_0 rfl rfl) rfl rfl rfl ?_
  refine SeqK.q (q_load (.a _) rfl Fx.ty9 rfl rfl rfl) rfl rfl rfl ?_
  refine sM ?_
  refine SeqK.q (q_eqlS rfl rfl rfl) rfl rfl rfl ?_
  refine SeqK.nil ?_
  refine AW.condD rfl (fun h21 => ?_) (fun h21 => ?_)
  ·
   refine sR ?_
   refine sM ?_
   refine sA ?_
   refine sA ?_
   refine SeqK.nil ?_
   refine AW.ret ?_
   exact fin_x (x := .tup [_, _]) (H) (.tmp rfl (.tmp rfl .nil)) rfl (fun _ _ h => h) (⟨by rw [fstI_hit (f := Co.nm) hi hU h21]; rfl, rfl⟩)
  refine AW.skip ?_
  refine AW.reg ?_
  refine sM ?_
  refine SeqK.q (q_add _ rfl rfl rfl (w64 (by omega) (by omega))) rfl rfl rfl ?_
  refine sA ?_
  refine SeqK.nil ?_
  exact ⟨i + 1, _, Wk.keep 23 [(1, .c (sC u)), (2, .lp 2 0), (4, .c (iC 0)), (5, .c (bC false)), (6, iX .i64 (((i + 1) : Nat) : Int))] [(2, .box [.t (.v (.string t.nm)), .t (.sl .un 6 (t.cols.map coT)), .t (.sl .un 1 (t.keys.map iLT)), .t (.sl .un 3 (t.fks.map fkT)), .t (.sl .un 8 (t.chks.map exT'))])] (H) rfl ⟨rfl, rfl, rfl, rfl, rfl, trivial⟩ ⟨rfl, trivial⟩ (fun _ _ h => h) rfl, by omega, ⟨hi, upS hi hU (h21)⟩, rfl⟩
 refine AW.exit ?_
 refine eth_e ?_
 refine eth_e ?_
 refine exit_here ?_
 refine sR ?_
 refine sA ?_
 refine sA ?_
 refine SeqK.nil ?_
 refine AW.ret ?_
 exact fin_x (x := .tup [_, _]) (H) (.tmp rfl (.tmp rfl .nil)) rfl (fun _ _ h => h) (⟨by rw [fstI_no (f := Co.nm) (upE hU (by rw [List.length_map] at h11; omega))]; rfl, rfl⟩)

/-- whether a text contains another -/
abbrev ctnAt (s t : ByteArray) (i : Nat) : Prop := (s.extract i (i + t.size)) = t
abbrev ctnP (s t : ByteArray) : Prop := ∀ j (h : j < s.size + 1 - t.size), ¬ ctnAt s t j

set_option maxRecDepth 20000 in
theorem contains_any (u t : ByteArray) (hs : u.size ≤ 1000000) (ht : t.size ≤ 1000000) : Pure Try.prog 107 [sC u, sC t] (.c (bC (decide (¬ ctnP u t)))) := by
 intro H
 refine Spec.enter Try.func107 rfl ?_
 refine AW.wk (Wk.keep 24 [(0, .c (sC u)), (1, .c (sC t))] [] (H) rfl ⟨rfl, rfl, trivial⟩ trivial (fun _ _ h => h) rfl) ?_
 refine sR ?_
 refine sA ?_
 refine SeqK.nil ?_
 refine AW.seq ?_
 refine sR ?_
 refine sA ?_
 refine SeqK.nil ?_
 refine AW.block ?_
 refine AW.loop (fun (i : Nat) s => (i ≤ u.size + 1 - t.size ∧ ∀ j (h : j < u.size + 1 - t.size), j < i → ¬ ctnAt u t j) ∧ s = ⟨24, sp [(0, .c (sC u)), (1, .c (sC t)), (4, .c (bC false)), (5, iX .i64 ((i : Nat) : Int))], lv [], H⟩) (fun i => u.size + 1 - t.size - i) 0 ⟨_, Wk.keep 24 [(0, .c (sC u)), (1, .c (sC t)), (4, .c (bC false)), (5, iX .i64 ((((0 : Nat)) : Nat) : Int))] [] (H) rfl ⟨rfl, rfl, rfl, rfl, trivial⟩ trivial (fun _ _ h => h) rfl, ⟨Nat.zero_le _, up0⟩, rfl⟩ (fun i s hs => ?_)
 obtain ⟨⟨hi0, hU⟩, rfl⟩ := hs
 refine AW.seq ?_
 refine sR ?_
 refine sM ?_
 refine sM ?_
 refine SeqK.q (q_lenS rfl Fx.un9 rfl) rfl rfl rfl ?_
 refine SeqK.q (q_add _ rfl rfl rfl (w64 (by omega) (by omega))) rfl rfl rfl ?_
 refine sM ?_
 refine SeqK.q (q_lenS rfl Fx.un9 rfl) rfl rfl rfl ?_
 refine SeqK.q (q_leq rfl rfl rfl) rfl rfl rfl ?_
 refine SeqK.nil ?_
 refine AW.condD rfl (fun h12 => ?_) (fun h12 => ?_)
 ·
  have hi : i < u.size + 1 - t.size := by omega
  refine AW.skip ?_
  refine AW.seq ?_
  refine AW.block ?_
  refine sR ?_
  refine sM ?_
  refine sM ?_
  refine sM ?_
  refine sM ?_
  refine SeqK.q (q_lenS rfl Fx.un9 rfl) rfl rfl rfl ?_
  refine SeqK.q (q_add _ rfl rfl rfl ((by rw [w64 (by omega) (by omega)]; omega : IntKind.i64.wrap _ = ((i + t.size : Nat) : Int)))) rfl rfl rfl ?_
  refine SeqK.q (q_cutS i (i + t.size) (u.extract i (i + t.size)) rfl Fx.un9 rfl (by first | rfl | exact ⟨_, rfl⟩) (by first | rfl | exact ⟨_, rfl⟩) (by omega) (by omega) rfl) rfl rfl rfl ?_
  refine sM ?_
  refine SeqK.q (q_eqlS rfl rfl rfl) rfl rfl rfl ?_
  refine SeqK.nil ?_
  refine AW.condD rfl (fun h23 => ?_) (fun h23 => ?_)
  ·
   refine sR ?_
   refine sA ?_
   refine SeqK.nil ?_
   refine AW.ret ?_
   exact fin_x (x := .c _) (H) (.tmp rfl .nil) rfl (fun _ _ h => h) (⟨bCe (dT (fun h => h i hi h23)), rfl⟩)
  refine AW.skip ?_
  refine AW.reg ?_
  refine sM ?_
  refine SeqK.q (q_add _ rfl rfl rfl (w64 (by omega) (by omega))) rfl rfl rfl ?_
  refine sA ?_
  refine SeqK.nil ?_
  exact ⟨i + 1, _, Wk.keep 24 [(0, .c (sC u)), (1, .c (sC t)), (4, .c (bC false)), (5, iX .i64 (((i + 1) : Nat) : Int))] [] (H) rfl ⟨rfl, rfl, rfl, rfl, trivial⟩ trivial (fun _ _ h => h) rfl, by omega, ⟨hi, upS hi hU h23⟩, rfl⟩
 refine AW.exit ?_
 refine eth_e ?_
 refine eth_e ?_
 refine exit_here ?_
 refine sR ?_
 refine sA ?_
 refine SeqK.nil ?_
 refine AW.ret ?_
 exact fin_x (x := .c _) (H) (.tmp rfl .nil) rfl (fun _ _ h => h) (⟨bCe (dF (fun h => h (upE hU (by omega)))), rfl⟩)

end Go.Proofs.Ytihlgigaejhilaa.W
namespace Go.Proofs.Ytihlgigaejhilaa.W
open Go.RowKit E
def kwd : ByteArray := ⟨#[32, 97, 110, 100, 32, 97, 115, 32, 97, 115, 99, 32, 98, 101, 103, 105, 110, 32, 98, 101, 116, 119, 101, 101, 110, 32, 98, 121, 32, 99, 104, 101, 99, 107, 32, 99, 111, 109, 109, 105, 116, 32, 99, 111, 117, 110, 116, 32, 99, 114, 101, 97, 116, 101, 32, 100, 101, 108, 101, 116, 101, 32, 100, 101, 115, 99, 32, 102, 111, 114, 101, 105, 103, 110, 32, 102, 114, 111, 109, 32, 103, 114, 111, 117, 112, 32, 105, 110, 32, 105, 110, 115, 101, 114, 116, 32, 105, 110, 116, 101, 103, 101, 114, 32, 105, 110, 116, 111, 32, 105, 115, 32, 106, 111, 105, 110, 32, 107, 101, 121, 32, 108, 101, 110, 103, 116, 104, 32, 108, 105, 107, 101, 32, 108, 105, 109, 105, 116, 32, 109, 97, 120, 32, 109, 105, 110, 32, 110, 111, 116, 32, 110, 117, 108, 108, 32, 111, 110, 32, 111, 114, 32, 111, 114, 100, 101, 114, 32, 112, 114, 105, 109, 97, 114, 121, 32, 114, 101, 102, 101, 114, 101, 110, 99, 101, 115, 32, 114, 101, 108, 101, 97, 115, 101, 32, 114, 111, 108, 108, 98, 97, 99, 107, 32, 115, 97, 118, 101, 112, 111, 105, 110, 116, 32, 115, 101, 108, 101, 99, 116, 32, 115, 101, 116, 32, 115, 117, 109, 32, 116, 97, 98, 108, 101, 32, 116, 101, 120, 116, 32, 116, 111, 32, 117, 110, 105, 113, 117, 101, 32, 117, 112, 100, 97, 116, 101, 32, 118, 97, 108, 117, 101, 115, 32, 119, 104, 101, 114, 101, 32]⟩
def spc : ByteArray := ⟨#[32]⟩
theorem kwd_size : kwd.size = 270 := by decide +kernel
theorem idx_ba {u : ByteArray} {i : Nat} (h : i < u.data.toList.length) : u.data.toList[((i : Nat) : Int).toNat]? = some u.data.toList[i] := by
  rw [Int.toNat_natCast]; exact List.getElem?_eq_getElem h
abbrev chrP (b : UInt8) : Prop := (97 ≤ b.toNat ∧ b.toNat ≤ 122) ∨ (48 ≤ b.toNat ∧ b.toNat ≤ 57) ∨ b.toNat = 95
abbrev nmeP (u : ByteArray) : Prop := (1 ≤ u.size ∧ u.size ≤ 24) ∧ (∀ h : 0 < u.data.toList.length, 97 ≤ u.data.toList[0].toNat ∧ u.data.toList[0].toNat ≤ 122) ∧ (∀ j (h : j < u.data.toList.length), chrP u.data.toList[j]) ∧ ctnP kwd (spc ++ u ++ spc)
instance : DecidablePred nmeP := fun u => @instDecidableAnd _ _ inferInstance (@instDecidableAnd _ _ inferInstance inferInstance)

set_option maxRecDepth 20000 in
theorem keywords_any  : Pure Try.prog 108 [] (.c (sC kwd)) := by
 intro H
 refine Spec.enter Try.func108 rfl ?_
 refine AW.wk (Wk.keep 1 [] [] (H) rfl trivial trivial (fun _ _ h => h) rfl) ?_
 refine sR ?_
 refine sA ?_
 refine SeqK.nil ?_
 refine sR ?_
 refine sA ?_
 refine SeqK.nil ?_
 refine AW.ret ?_
 exact fin_x (x := .c _) H (.tmp rfl .nil) rfl (fun _ _ h => h) ⟨rfl, rfl⟩

set_option maxHeartbeats 4000000 in
set_option maxRecDepth 20000 in
theorem name_any (u : ByteArray) (hu : u.size ≤ 1000000000000000) : Pure Try.prog 90 [sC u] (.c (bC (decide (nmeP u)))) := by
  intro H
  refine Spec.enter Try.func90 rfl ?_
  refine AW.wk (Wk.keep 63 [(0, .c (sC u))] [] (H) rfl ⟨rfl, trivial⟩ trivial (fun _ _ h => h) rfl) ?_
  refine sR ?_
  refine sA ?_
  refine SeqK.nil ?_
  refine AW.seq ?_
  refine AW.seq ?_
  have hl := ba_len u
  have e1 : spc.size = 1 := rfl
  have e2 : (⟨#[32]⟩ : ByteArray).size = 1 := rfl
  refine AW.reg ?_
  refine sM ?_
  refine SeqK.q (q_lenS rfl Fx.un9 rfl) rfl rfl rfl ?_
  refine SeqK.q (q_lss rfl rfl rfl) rfl rfl rfl ?_
  refine SeqK.qD (q_mvC rfl rfl) rfl rfl rfl (fun g7 => ?_) (fun g7 => ?_)
  ·
    iterate 3 refine SeqK.off rfl rfl rfl rfl rfl rfl ?_
    refine SeqK.q (q_pkT rfl rfl rfl) rfl rfl rfl ?_
    refine sM ?_
    iterate 3 refine SeqK.off rfl rfl rfl rfl rfl rfl ?_
    refine SeqK.q (q_pkT rfl rfl rfl) rfl rfl rfl ?_
    refine sM ?_
    iterate 3 refine SeqK.off rfl rfl rfl rfl rfl rfl ?_
    refine SeqK.q (q_pkT rfl rfl rfl) rfl rfl rfl ?_
    refine SeqK.nil ?_
    refine AW.condT rfl ?_
    refine sR ?_
    refine sA ?_
    refine SeqK.nil ?_
    refine AW.ret ?_
    exact fin_x (x := .c _) (H) (.tmp rfl .nil) rfl (fun _ _ h => h) (⟨bCe (dF (fun h => by first | (have := h.1; omega) | (have h9 := h.2.1 h0; omega))), rfl⟩)
  ·
    refine SeqK.on (q_mvC rfl rfl) rfl rfl rfl rfl rfl ?_
    refine SeqK.on (q_lenS rfl Fx.un9 rfl) rfl rfl rfl rfl rfl ?_
    refine SeqK.on (q_gtr rfl rfl rfl) rfl rfl rfl rfl rfl ?_
    refine SeqK.q (q_pkF rfl rfl rfl) rfl rfl rfl ?_
    refine SeqK.qD (q_mvC rfl rfl) rfl rfl rfl (fun g12 => ?_) (fun g12 => ?_)
    ·
      iterate 3 refine SeqK.off rfl rfl rfl rfl rfl rfl ?_
      refine SeqK.q (q_pkT rfl rfl rfl) rfl rfl rfl ?_
      refine sM ?_
      iterate 3 refine SeqK.off rfl rfl rfl rfl rfl rfl ?_
      refine SeqK.q (q_pkT rfl rfl rfl) rfl rfl rfl ?_
      refine SeqK.nil ?_
      refine AW.condT rfl ?_
      refine sR ?_
      refine sA ?_
      refine SeqK.nil ?_
      refine AW.ret ?_
      exact fin_x (x := .c _) (H) (.tmp rfl .nil) rfl (fun _ _ h => h) (⟨bCe (dF (fun h => by first | (have := h.1; omega) | (have h9 := h.2.1 h0; omega))), rfl⟩)
    ·
      have h0 : 0 < u.data.toList.length := by omega
      refine SeqK.on (q_mvC rfl rfl) rfl rfl rfl rfl rfl ?_
      refine SeqK.on (q_indexS _ rfl Fx.un9 rfl rfl (by omega) (idx_ba (i := 0) h0)) rfl rfl rfl rfl rfl ?_
      refine SeqK.on (q_lss rfl rfl rfl) rfl rfl rfl rfl rfl ?_
      refine SeqK.q (q_pkF rfl rfl rfl) rfl rfl rfl ?_
      refine SeqK.qD (q_mvC rfl rfl) rfl rfl rfl (fun g17 => ?_) (fun g17 => ?_)
      ·
        iterate 3 refine SeqK.off rfl rfl rfl rfl rfl rfl ?_
        refine SeqK.q (q_pkT rfl rfl rfl) rfl rfl rfl ?_
        refine SeqK.nil ?_
        refine AW.condT rfl ?_
        refine sR ?_
        refine sA ?_
        refine SeqK.nil ?_
        refine AW.ret ?_
        exact fin_x (x := .c _) (H) (.tmp rfl .nil) rfl (fun _ _ h => h) (⟨bCe (dF (fun h => by first | (have := h.1; omega) | (have h9 := h.2.1 h0; omega))), rfl⟩)
      ·
        refine SeqK.on (q_mvC rfl rfl) rfl rfl rfl rfl rfl ?_
        refine SeqK.on (q_indexS _ rfl Fx.un9 rfl rfl (by omega) (idx_ba (i := 0) h0)) rfl rfl rfl rfl rfl ?_
        refine SeqK.on (q_gtr rfl rfl rfl) rfl rfl rfl rfl rfl ?_
        refine SeqK.q (q_pkF rfl rfl rfl) rfl rfl rfl ?_
        refine SeqK.nil ?_
        refine AW.condD rfl (fun h21 => ?_) (fun h21 => ?_)
        ·
          refine sR ?_
          refine sA ?_
          refine SeqK.nil ?_
          refine AW.ret ?_
          exact fin_x (x := .c _) (H) (.tmp rfl .nil) rfl (fun _ _ h => h) (⟨bCe (dF (fun h => by first | (have := h.1; omega) | (have h9 := h.2.1 h0; omega))), rfl⟩)
        ·
          refine AW.skip ?_
          refine AW.seq ?_
          refine AW.seq ?_
          have hsz : 1 ≤ u.size ∧ u.size ≤ 24 := by omega
          have hfst : 97 ≤ u.data.toList[0].toNat ∧ u.data.toList[0].toNat ≤ 122 := by omega
          refine AW.reg ?_
          refine sA ?_
          refine SeqK.nil ?_
          refine AW.block ?_
          refine AW.loop (fun (i : Nat) s => (i ≤ u.data.toList.length ∧ ∀ j (h : j < u.data.toList.length), j < i → chrP u.data.toList[j]) ∧ s = ⟨63, sp [(0, .c (sC u)), (2, .c (bC false)), (3, iX .i64 ((i : Nat) : Int))], lv [], H⟩) (fun i => u.data.toList.length - i) 0 ⟨_, Wk.keep 63 [(0, .c (sC u)), (2, .c (bC false)), (3, iX .i64 ((((0 : Nat)) : Nat) : Int))] [] (H) rfl ⟨rfl, rfl, rfl, trivial⟩ trivial (fun _ _ h => h) rfl, ⟨Nat.zero_le _, up0⟩, rfl⟩ (fun i s hs => ?_)
          obtain ⟨⟨hi0, hU⟩, rfl⟩ := hs
          refine AW.seq ?_
          refine sR ?_
          refine sM ?_
          refine sM ?_
          refine SeqK.q (q_lenS rfl Fx.un9 rfl) rfl rfl rfl ?_
          refine SeqK.q (q_lss rfl rfl rfl) rfl rfl rfl ?_
          refine SeqK.nil ?_
          refine AW.condD rfl (fun h25 => ?_) (fun h25 => ?_)
          ·
            have hi : i < u.data.toList.length := by omega
            refine AW.skip ?_
            refine AW.seq ?_
            refine AW.block ?_
            refine sR ?_
            refine sM ?_
            refine sM ?_
            refine SeqK.q (q_indexS _ rfl Fx.un9 rfl rfl (by omega) (idx_ba hi)) rfl rfl rfl ?_
            refine SeqK.q (q_geq rfl rfl rfl) rfl rfl rfl ?_
            refine SeqK.qD (q_mvC rfl rfl) rfl rfl rfl (fun g32 => ?_) (fun g32 => ?_)
            ·
              refine SeqK.on (q_mvC rfl rfl) rfl rfl rfl rfl rfl ?_
              refine SeqK.on (q_mvC rfl rfl) rfl rfl rfl rfl rfl ?_
              refine SeqK.on (q_indexS _ rfl Fx.un9 rfl rfl (by omega) (idx_ba hi)) rfl rfl rfl rfl rfl ?_
              refine SeqK.on (q_leq rfl rfl rfl) rfl rfl rfl rfl rfl ?_
              refine SeqK.q (q_pkT rfl rfl rfl) rfl rfl rfl ?_
              refine SeqK.qD (q_mvC rfl rfl) rfl rfl rfl (fun g38 => ?_) (fun g38 => ?_)
              ·
                iterate 5 refine SeqK.off rfl rfl rfl rfl rfl rfl ?_
                iterate 4 refine SeqK.offU rfl rfl rfl rfl rfl ?_
                refine SeqK.off rfl rfl rfl rfl rfl rfl ?_
                refine SeqK.q (q_pkT rfl rfl rfl) rfl rfl rfl ?_
                refine sM ?_
                iterate 4 refine SeqK.off rfl rfl rfl rfl rfl rfl ?_
                refine SeqK.q (q_pkT rfl rfl rfl) rfl rfl rfl ?_
                refine SeqK.q (q_not rfl rfl) rfl rfl rfl ?_
                refine SeqK.nil ?_
                refine AW.condF rfl ?_
                refine AW.skip ?_
                refine AW.reg ?_
                refine sM ?_
                refine SeqK.q (q_add _ rfl rfl rfl (w64 (by omega) (by omega))) rfl rfl rfl ?_
                refine sA ?_
                refine SeqK.nil ?_
                exact ⟨i + 1, _, Wk.keep 63 [(0, .c (sC u)), (2, .c (bC false)), (3, iX .i64 (((i + 1) : Nat) : Int))] [] (H) rfl ⟨rfl, rfl, rfl, trivial⟩ trivial (fun _ _ h => h) rfl, by omega, ⟨hi, upS hi hU (by show (_ ∧ _) ∨ (_ ∧ _) ∨ _ = _; omega)⟩, rfl⟩
              ·
                refine SeqK.on (q_mvC rfl rfl) rfl rfl rfl rfl rfl ?_
                refine SeqK.on (q_mvC rfl rfl) rfl rfl rfl rfl rfl ?_
                refine SeqK.on (q_indexS _ rfl Fx.un9 rfl rfl (by omega) (idx_ba hi)) rfl rfl rfl rfl rfl ?_
                refine SeqK.on (q_geq rfl rfl rfl) rfl rfl rfl rfl rfl ?_
                refine SeqK.onD (q_mvC rfl rfl) rfl rfl rfl rfl rfl (fun g43 => ?_) (fun g43 => ?_)
                ·
                  refine SeqK.on (q_mvC rfl rfl) rfl rfl rfl rfl rfl ?_
                  refine SeqK.on (q_mvC rfl rfl) rfl rfl rfl rfl rfl ?_
                  refine SeqK.on (q_indexS _ rfl Fx.un9 rfl rfl (by omega) (idx_ba hi)) rfl rfl rfl rfl rfl ?_
                  refine SeqK.on (q_leq rfl rfl rfl) rfl rfl rfl rfl rfl ?_
                  refine SeqK.on (q_pkT rfl rfl rfl) rfl rfl rfl rfl rfl ?_
                  refine SeqK.q (q_pkF rfl rfl rfl) rfl rfl rfl ?_
                  refine SeqK.qD (q_mvC rfl rfl) rfl rfl rfl (fun g50 => ?_) (fun g50 => ?_)
                  ·
                    iterate 4 refine SeqK.off rfl rfl rfl rfl rfl rfl ?_
                    refine SeqK.q (q_pkT rfl rfl rfl) rfl rfl rfl ?_
                    refine SeqK.q (q_not rfl rfl) rfl rfl rfl ?_
                    refine SeqK.nil ?_
                    refine AW.condF rfl ?_
                    refine AW.skip ?_
                    refine AW.reg ?_
                    refine sM ?_
                    refine SeqK.q (q_add _ rfl rfl rfl (w64 (by omega) (by omega))) rfl rfl rfl ?_
                    refine sA ?_
                    refine SeqK.nil ?_
                    exact ⟨i + 1, _, Wk.keep 63 [(0, .c (sC u)), (2, .c (bC false)), (3, iX .i64 (((i + 1) : Nat) : Int))] [] (H) rfl ⟨rfl, rfl, rfl, trivial⟩ trivial (fun _ _ h => h) rfl, by omega, ⟨hi, upS hi hU (by show (_ ∧ _) ∨ (_ ∧ _) ∨ _ = _; omega)⟩, rfl⟩
                  ·
                    refine SeqK.on (q_mvC rfl rfl) rfl rfl rfl rfl rfl ?_
                    refine SeqK.on (q_mvC rfl rfl) rfl rfl rfl rfl rfl ?_
                    refine SeqK.on (q_indexS _ rfl Fx.un9 rfl rfl (by omega) (idx_ba hi)) rfl rfl rfl rfl rfl ?_
                    refine SeqK.on (q_eql rfl rfl rfl) rfl rfl rfl rfl rfl ?_
                    refine SeqK.q (q_pkF rfl rfl rfl) rfl rfl rfl ?_
                    refine SeqK.q (q_not rfl rfl) rfl rfl rfl ?_
                    refine SeqK.nil ?_
                    refine AW.cond _ rfl (fun h56 => ?_) (fun h56 => ?_)
                    ·
                      have h57 := nd_t h56
                      refine sR ?_
                      refine sA ?_
                      refine SeqK.nil ?_
                      refine AW.ret ?_
                      exact fin_x (x := .c _) (H) (.tmp rfl .nil) rfl (fun _ _ h => h) (⟨bCe (dF (fun h => by have h9 : (97 ≤ u.data.toList[i].toNat ∧ u.data.toList[i].toNat ≤ 122) ∨ (48 ≤ u.data.toList[i].toNat ∧ u.data.toList[i].toNat ≤ 57) ∨ u.data.toList[i].toNat = 95 := h.2.2.1 i hi; omega)), rfl⟩)
                    ·
                      have h57 := nd_f h56
                      refine AW.skip ?_
                      refine AW.reg ?_
                      refine sM ?_
                      refine SeqK.q (q_add _ rfl rfl rfl (w64 (by omega) (by omega))) rfl rfl rfl ?_
                      refine sA ?_
                      refine SeqK.nil ?_
                      exact ⟨i + 1, _, Wk.keep 63 [(0, .c (sC u)), (2, .c (bC false)), (3, iX .i64 (((i + 1) : Nat) : Int))] [] (H) rfl ⟨rfl, rfl, rfl, trivial⟩ trivial (fun _ _ h => h) rfl, by omega, ⟨hi, upS hi hU (by show (_ ∧ _) ∨ (_ ∧ _) ∨ _ = _; omega)⟩, rfl⟩
                ·
                  iterate 4 refine SeqK.off rfl rfl rfl rfl rfl rfl ?_
                  refine SeqK.on (q_pkF rfl rfl rfl) rfl rfl rfl rfl rfl ?_
                  refine SeqK.q (q_pkF rfl rfl rfl) rfl rfl rfl ?_
                  refine sM ?_
                  refine SeqK.on (q_mvC rfl rfl) rfl rfl rfl rfl rfl ?_
                  refine SeqK.on (q_mvC rfl rfl) rfl rfl rfl rfl rfl ?_
                  refine SeqK.on (q_indexS _ rfl Fx.un9 rfl rfl (by omega) (idx_ba hi)) rfl rfl rfl rfl rfl ?_
                  refine SeqK.on (q_eql rfl rfl rfl) rfl rfl rfl rfl rfl ?_
                  refine SeqK.q (q_pkF rfl rfl rfl) rfl rfl rfl ?_
                  refine SeqK.q (q_not rfl rfl) rfl rfl rfl ?_
                  refine SeqK.nil ?_
                  refine AW.cond _ rfl (fun h56 => ?_) (fun h56 => ?_)
                  ·
                    have h57 := nd_t h56
                    refine sR ?_
                    refine sA ?_
                    refine SeqK.nil ?_
                    refine AW.ret ?_
                    exact fin_x (x := .c _) (H) (.tmp rfl .nil) rfl (fun _ _ h => h) (⟨bCe (dF (fun h => by have h9 : (97 ≤ u.data.toList[i].toNat ∧ u.data.toList[i].toNat ≤ 122) ∨ (48 ≤ u.data.toList[i].toNat ∧ u.data.toList[i].toNat ≤ 57) ∨ u.data.toList[i].toNat = 95 := h.2.2.1 i hi; omega)), rfl⟩)
                  ·
                    have h57 := nd_f h56
                    refine AW.skip ?_
                    refine AW.reg ?_
                    refine sM ?_
                    refine SeqK.q (q_add _ rfl rfl rfl (w64 (by omega) (by omega))) rfl rfl rfl ?_
                    refine sA ?_
                    refine SeqK.nil ?_
                    exact ⟨i + 1, _, Wk.keep 63 [(0, .c (sC u)), (2, .c (bC false)), (3, iX .i64 (((i + 1) : Nat) : Int))] [] (H) rfl ⟨rfl, rfl, rfl, trivial⟩ trivial (fun _ _ h => h) rfl, by omega, ⟨hi, upS hi hU (by show (_ ∧ _) ∨ (_ ∧ _) ∨ _ = _; omega)⟩, rfl⟩
            ·
              iterate 4 refine SeqK.off rfl rfl rfl rfl rfl rfl ?_
              refine SeqK.q (q_pkF rfl rfl rfl) rfl rfl rfl ?_
              refine sM ?_
              refine SeqK.on (q_mvC rfl rfl) rfl rfl rfl rfl rfl ?_
              refine SeqK.on (q_mvC rfl rfl) rfl rfl rfl rfl rfl ?_
              refine SeqK.on (q_indexS _ rfl Fx.un9 rfl rfl (by omega) (idx_ba hi)) rfl rfl rfl rfl rfl ?_
              refine SeqK.on (q_geq rfl rfl rfl) rfl rfl rfl rfl rfl ?_
              refine SeqK.onD (q_mvC rfl rfl) rfl rfl rfl rfl rfl (fun g43 => ?_) (fun g43 => ?_)
              ·
                refine SeqK.on (q_mvC rfl rfl) rfl rfl rfl rfl rfl ?_
                refine SeqK.on (q_mvC rfl rfl) rfl rfl rfl rfl rfl ?_
                refine SeqK.on (q_indexS _ rfl Fx.un9 rfl rfl (by omega) (idx_ba hi)) rfl rfl rfl rfl rfl ?_
                refine SeqK.on (q_leq rfl rfl rfl) rfl rfl rfl rfl rfl ?_
                refine SeqK.on (q_pkT rfl rfl rfl) rfl rfl rfl rfl rfl ?_
                refine SeqK.q (q_pkF rfl rfl rfl) rfl rfl rfl ?_
                refine SeqK.qD (q_mvC rfl rfl) rfl rfl rfl (fun g50 => ?_) (fun g50 => ?_)
                ·
                  iterate 4 refine SeqK.off rfl rfl rfl rfl rfl rfl ?_
                  refine SeqK.q (q_pkT rfl rfl rfl) rfl rfl rfl ?_
                  refine SeqK.q (q_not rfl rfl) rfl rfl rfl ?_
                  refine SeqK.nil ?_
                  refine AW.condF rfl ?_
                  refine AW.skip ?_
                  refine AW.reg ?_
                  refine sM ?_
                  refine SeqK.q (q_add _ rfl rfl rfl (w64 (by omega) (by omega))) rfl rfl rfl ?_
                  refine sA ?_
                  refine SeqK.nil ?_
                  exact ⟨i + 1, _, Wk.keep 63 [(0, .c (sC u)), (2, .c (bC false)), (3, iX .i64 (((i + 1) : Nat) : Int))] [] (H) rfl ⟨rfl, rfl, rfl, trivial⟩ trivial (fun _ _ h => h) rfl, by omega, ⟨hi, upS hi hU (by show (_ ∧ _) ∨ (_ ∧ _) ∨ _ = _; omega)⟩, rfl⟩
                ·
                  refine SeqK.on (q_mvC rfl rfl) rfl rfl rfl rfl rfl ?_
                  refine SeqK.on (q_mvC rfl rfl) rfl rfl rfl rfl rfl ?_
                  refine SeqK.on (q_indexS _ rfl Fx.un9 rfl rfl (by omega) (idx_ba hi)) rfl rfl rfl rfl rfl ?_
                  refine SeqK.on (q_eql rfl rfl rfl) rfl rfl rfl rfl rfl ?_
                  refine SeqK.q (q_pkF rfl rfl rfl) rfl rfl rfl ?_
                  refine SeqK.q (q_not rfl rfl) rfl rfl rfl ?_
                  refine SeqK.nil ?_
                  refine AW.cond _ rfl (fun h56 => ?_) (fun h56 => ?_)
                  ·
                    have h57 := nd_t h56
                    refine sR ?_
                    refine sA ?_
                    refine SeqK.nil ?_
                    refine AW.ret ?_
                    exact fin_x (x := .c _) (H) (.tmp rfl .nil) rfl (fun _ _ h => h) (⟨bCe (dF (fun h => by have h9 : (97 ≤ u.data.toList[i].toNat ∧ u.data.toList[i].toNat ≤ 122) ∨ (48 ≤ u.data.toList[i].toNat ∧ u.data.toList[i].toNat ≤ 57) ∨ u.data.toList[i].toNat = 95 := h.2.2.1 i hi; omega)), rfl⟩)
                  ·
                    have h57 := nd_f h56
                    refine AW.skip ?_
                    refine AW.reg ?_
                    refine sM ?_
                    refine SeqK.q (q_add _ rfl rfl rfl (w64 (by omega) (by omega))) rfl rfl rfl ?_
                    refine sA ?_
                    refine SeqK.nil ?_
                    exact ⟨i + 1, _, Wk.keep 63 [(0, .c (sC u)), (2, .c (bC false)), (3, iX .i64 (((i + 1) : Nat) : Int))] [] (H) rfl ⟨rfl, rfl, rfl, trivial⟩ trivial (fun _ _ h => h) rfl, by omega, ⟨hi, upS hi hU (by show (_ ∧ _) ∨ (_ ∧ _) ∨ _ = _; omega)⟩, rfl⟩
              ·
                iterate 4 refine SeqK.off rfl rfl rfl rfl rfl rfl ?_
                refine SeqK.on (q_pkF rfl rfl rfl) rfl rfl rfl rfl rfl ?_
                refine SeqK.q (q_pkF rfl rfl rfl) rfl rfl rfl ?_
                refine sM ?_
                refine SeqK.on (q_mvC rfl rfl) rfl rfl rfl rfl rfl ?_
                refine SeqK.on (q_mvC rfl rfl) rfl rfl rfl rfl rfl ?_
                refine SeqK.on (q_indexS _ rfl Fx.un9 rfl rfl (by omega) (idx_ba hi)) rfl rfl rfl rfl rfl ?_
                refine SeqK.on (q_eql rfl rfl rfl) rfl rfl rfl rfl rfl ?_
                refine SeqK.q (q_pkF rfl rfl rfl) rfl rfl rfl ?_
                refine SeqK.q (q_not rfl rfl) rfl rfl rfl ?_
                refine SeqK.nil ?_
                refine AW.cond _ rfl (fun h56 => ?_) (fun h56 => ?_)
                ·
                  have h57 := nd_t h56
                  refine sR ?_
                  refine sA ?_
                  refine SeqK.nil ?_
                  refine AW.ret ?_
                  exact fin_x (x := .c _) (H) (.tmp rfl .nil) rfl (fun _ _ h => h) (⟨bCe (dF (fun h => by have h9 : (97 ≤ u.data.toList[i].toNat ∧ u.data.toList[i].toNat ≤ 122) ∨ (48 ≤ u.data.toList[i].toNat ∧ u.data.toList[i].toNat ≤ 57) ∨ u.data.toList[i].toNat = 95 := h.2.2.1 i hi; omega)), rfl⟩)
                ·
                  have h57 := nd_f h56
                  refine AW.skip ?_
                  refine AW.reg ?_
                  refine sM ?_
                  refine SeqK.q (q_add _ rfl rfl rfl (w64 (by omega) (by omega))) rfl rfl rfl ?_
                  refine sA ?_
                  refine SeqK.nil ?_
                  exact ⟨i + 1, _, Wk.keep 63 [(0, .c (sC u)), (2, .c (bC false)), (3, iX .i64 (((i + 1) : Nat) : Int))] [] (H) rfl ⟨rfl, rfl, rfl, trivial⟩ trivial (fun _ _ h => h) rfl, by omega, ⟨hi, upS hi hU (by show (_ ∧ _) ∨ (_ ∧ _) ∨ _ = _; omega)⟩, rfl⟩
          ·
            refine AW.exit ?_
            refine eth_e ?_
            refine eth_e ?_
            refine exit_here ?_
            refine AW.seq ?_
            have hA := upE hU (by omega)
            refine AW.reg ?_
            refine SeqK.q (q_call _ rfl Fx.fn108 rfl (keywords_any) rfl) rfl rfl rfl ?_
            refine sM ?_
            refine SeqK.q (q_addS rfl rfl rfl (by omega)) rfl rfl rfl ?_
            refine SeqK.q (q_addS rfl rfl rfl (by simp only [ByteArray.size_append]; omega)) rfl rfl rfl ?_
            refine SeqK.q (q_call _ rfl Fx.fn107 rfl (contains_any kwd (spc ++ u ++ spc) (by rw [kwd_size]; omega) (by rw [ByteArray.size_append, ByteArray.size_append]; omega)) rfl) rfl rfl rfl ?_
            refine SeqK.q (q_not rfl rfl) rfl rfl rfl ?_
            refine sA ?_
            refine SeqK.nil ?_
            refine AW.ret ?_
            exact fin_x (x := .c _) (H) (.tmp rfl .nil) rfl (fun _ _ h => h) (⟨bCe (by
              by_cases hk : ctnP kwd (spc ++ u ++ spc)
              · rw [decide_eq_false (fun h => h hk)]; exact dT ⟨hsz, fun _ => hfst, hA, hk⟩
              · rw [decide_eq_true hk]; exact dF (fun h => hk h.2.2.2)), rfl⟩)

abbrev colP (c : Co) : Prop := nmeP c.nm ∧ ((c.ty = 1 ∧ -2147483648 ≤ c.lo ∧ c.lo ≤ c.hi ∧ c.hi ≤ 2147483647 ∧ c.mx = 0) ∨ (c.ty = 2 ∧ 1 ≤ c.mx ∧ c.mx ≤ 16 ∧ c.lo = 0 ∧ c.hi = 0))

set_option maxHeartbeats 4000000 in
set_option maxRecDepth 20000 in
theorem column_any (c : Co) (hs : c.nm.size ≤ 1000000000000000) : Pure Try.prog 91 [coC c] (.c (bC (decide (colP c)))) := by
 intro H
 refine Spec.enter Try.func91 rfl ?_
 refine AW.wk (Wk.keep 53 [(0, .c (coC c))] [] (H) rfl ⟨rfl, trivial⟩ trivial (fun _ _ h => h) rfl) ?_
 refine sR ?_
 refine SeqK.r (b_box (r := [_, _, _, _, _, _]) rfl rfl rfl rfl rfl rfl) rfl ?_
 refine sA ?_
 refine SeqK.nil ?_
 refine AW.seq ?_
 refine sR ?_
 refine SeqK.q (q_fieldL _ rfl Fx.fl89_0 rfl rfl) rfl rfl rfl ?_
 refine SeqK.r (b_load (r := .a _) rfl Fx.ty9 rfl rfl rfl rfl rfl rfl) rfl ?_
 refine SeqK.q (q_call _ rfl Fx.fn90 rfl (name_any c.nm hs) rfl) rfl rfl rfl ?_
 refine SeqK.q (q_not rfl rfl) rfl rfl rfl ?_
 refine SeqK.nil ?_
 refine AW.cond _ rfl (fun h6 => ?_) (fun h6 => ?_)
 ·
  have hN : ¬ nmeP c.nm := nd_t h6
  refine sR ?_
  refine sA ?_
  refine SeqK.nil ?_
  refine AW.ret ?_
  exact fin_x (x := .c _) (H) (.tmp rfl .nil) rfl (fun _ _ h => h) (⟨bCe (dF (fun h => hN h.1)), rfl⟩)
 have hN : nmeP c.nm := nd_f h6
 refine AW.skip ?_
 refine AW.seq ?_
 refine sR ?_
 refine SeqK.q (q_fieldL _ rfl Fx.fl89_1 rfl rfl) rfl rfl rfl ?_
 refine SeqK.r (b_load (r := .a _) rfl Fx.ty3 rfl rfl rfl rfl rfl rfl) rfl ?_
 refine SeqK.q (q_eql rfl rfl rfl) rfl rfl rfl ?_
 refine SeqK.nil ?_
 refine AW.condD rfl (fun h9 => ?_) (fun h9 => ?_)
 ·
  refine sR ?_
  refine SeqK.q (q_fieldL _ rfl Fx.fl89_2 rfl rfl) rfl rfl rfl ?_
  refine SeqK.r (b_load (r := .a _) rfl Fx.ty2 rfl rfl rfl rfl rfl rfl) rfl ?_
  refine SeqK.q (q_geq rfl rfl rfl) rfl rfl rfl ?_
  refine SeqK.qD (q_mvC rfl rfl) rfl rfl rfl (fun g13 => ?_) (fun g13 => ?_)
  ·
   refine SeqK.on (q_fieldL _ rfl Fx.fl89_2 rfl rfl) rfl rfl rfl rfl rfl ?_
   refine SeqK.rOn (b_load (r := .a _) rfl Fx.ty2 rfl rfl rfl rfl rfl rfl) rfl rfl rfl ?_
   refine SeqK.on (q_fieldL _ rfl Fx.fl89_3 rfl rfl) rfl rfl rfl rfl rfl ?_
   refine SeqK.rOn (b_load (r := .a _) rfl Fx.ty2 rfl rfl rfl rfl rfl rfl) rfl rfl rfl ?_
   refine SeqK.on (q_leq rfl rfl rfl) rfl rfl rfl rfl rfl ?_
   refine SeqK.q (q_pkT rfl rfl rfl) rfl rfl rfl ?_
   refine SeqK.qD (q_mvC rfl rfl) rfl rfl rfl (fun g20 => ?_) (fun g20 => ?_)
   ·
    refine SeqK.on (q_fieldL _ rfl Fx.fl89_3 rfl rfl) rfl rfl rfl rfl rfl ?_
    refine SeqK.rOn (b_load (r := .a _) rfl Fx.ty2 rfl rfl rfl rfl rfl rfl) rfl rfl rfl ?_
    refine SeqK.on (q_leq rfl rfl rfl) rfl rfl rfl rfl rfl ?_
    refine SeqK.q (q_pkT rfl rfl rfl) rfl rfl rfl ?_
    refine SeqK.qD (q_mvC rfl rfl) rfl rfl rfl (fun g25 => ?_) (fun g25 => ?_)
    ·
     refine SeqK.on (q_fieldL _ rfl Fx.fl89_4 rfl rfl) rfl rfl rfl rfl rfl ?_
     refine SeqK.rOn (b_load (r := .a _) rfl Fx.ty3 rfl rfl rfl rfl rfl rfl) rfl rfl rfl ?_
     refine SeqK.on (q_eql rfl rfl rfl) rfl rfl rfl rfl rfl ?_
     refine SeqK.q (q_pkT rfl rfl rfl) rfl rfl rfl ?_
     refine sA ?_
     refine SeqK.nil ?_
     refine AW.ret ?_
     exact fin_x (x := .c _) (H) (.tmp rfl .nil) rfl (fun _ _ h => h) (⟨bCe (by first | exact dF (fun h => by have := h.2; omega) | exact dI ⟨fun h => ⟨hN, by omega⟩, fun h => by have := h.2; omega⟩), rfl⟩)
    iterate 3 refine SeqK.off rfl rfl rfl rfl rfl rfl ?_
    refine SeqK.q (q_pkF rfl rfl rfl) rfl rfl rfl ?_
    refine sA ?_
    refine SeqK.nil ?_
    refine AW.ret ?_
    exact fin_x (x := .c _) (H) (.tmp rfl .nil) rfl (fun _ _ h => h) (⟨bCe (by first | exact dF (fun h => by have := h.2; omega) | exact dI ⟨fun h => ⟨hN, by omega⟩, fun h => by have := h.2; omega⟩), rfl⟩)
   iterate 3 refine SeqK.off rfl rfl rfl rfl rfl rfl ?_
   refine SeqK.q (q_pkF rfl rfl rfl) rfl rfl rfl ?_
   refine sM ?_
   iterate 3 refine SeqK.off rfl rfl rfl rfl rfl rfl ?_
   refine SeqK.q (q_pkF rfl rfl rfl) rfl rfl rfl ?_
   refine sA ?_
   refine SeqK.nil ?_
   refine AW.ret ?_
   exact fin_x (x := .c _) (H) (.tmp rfl .nil) rfl (fun _ _ h => h) (⟨bCe (by first | exact dF (fun h => by have := h.2; omega) | exact dI ⟨fun h => ⟨hN, by omega⟩, fun h => by have := h.2; omega⟩), rfl⟩)
  iterate 5 refine SeqK.off rfl rfl rfl rfl rfl rfl ?_
  refine SeqK.q (q_pkF rfl rfl rfl) rfl rfl rfl ?_
  refine sM ?_
  iterate 3 refine SeqK.off rfl rfl rfl rfl rfl rfl ?_
  refine SeqK.q (q_pkF rfl rfl rfl) rfl rfl rfl ?_
  refine sM ?_
  iterate 3 refine SeqK.off rfl rfl rfl rfl rfl rfl ?_
  refine SeqK.q (q_pkF rfl rfl rfl) rfl rfl rfl ?_
  refine sA ?_
  refine SeqK.nil ?_
  refine AW.ret ?_
  exact fin_x (x := .c _) (H) (.tmp rfl .nil) rfl (fun _ _ h => h) (⟨bCe (by first | exact dF (fun h => by have := h.2; omega) | exact dI ⟨fun h => ⟨hN, by omega⟩, fun h => by have := h.2; omega⟩), rfl⟩)
 refine AW.skip ?_
 refine sR ?_
 refine SeqK.q (q_fieldL _ rfl Fx.fl89_1 rfl rfl) rfl rfl rfl ?_
 refine SeqK.r (b_load (r := .a _) rfl Fx.ty3 rfl rfl rfl rfl rfl rfl) rfl ?_
 refine SeqK.q (q_eql rfl rfl rfl) rfl rfl rfl ?_
 refine SeqK.qD (q_mvC rfl rfl) rfl rfl rfl (fun g33 => ?_) (fun g33 => ?_)
 ·
  refine SeqK.on (q_fieldL _ rfl Fx.fl89_4 rfl rfl) rfl rfl rfl rfl rfl ?_
  refine SeqK.rOn (b_load (r := .a _) rfl Fx.ty3 rfl rfl rfl rfl rfl rfl) rfl rfl rfl ?_
  refine SeqK.on (q_geq rfl rfl rfl) rfl rfl rfl rfl rfl ?_
  refine SeqK.q (q_pkT rfl rfl rfl) rfl rfl rfl ?_
  refine SeqK.qD (q_mvC rfl rfl) rfl rfl rfl (fun g38 => ?_) (fun g38 => ?_)
  ·
   refine SeqK.on (q_fieldL _ rfl Fx.fl89_4 rfl rfl) rfl rfl rfl rfl rfl ?_
   refine SeqK.rOn (b_load (r := .a _) rfl Fx.ty3 rfl rfl rfl rfl rfl rfl) rfl rfl rfl ?_
   refine SeqK.on (q_leq rfl rfl rfl) rfl rfl rfl rfl rfl ?_
   refine SeqK.q (q_pkT rfl rfl rfl) rfl rfl rfl ?_
   refine SeqK.qD (q_mvC rfl rfl) rfl rfl rfl (fun g43 => ?_) (fun g43 => ?_)
   ·
    refine SeqK.on (q_fieldL _ rfl Fx.fl89_2 rfl rfl) rfl rfl rfl rfl rfl ?_
    refine SeqK.rOn (b_load (r := .a _) rfl Fx.ty2 rfl rfl rfl rfl rfl rfl) rfl rfl rfl ?_
    refine SeqK.on (q_eql rfl rfl rfl) rfl rfl rfl rfl rfl ?_
    refine SeqK.q (q_pkT rfl rfl rfl) rfl rfl rfl ?_
    refine SeqK.qD (q_mvC rfl rfl) rfl rfl rfl (fun g48 => ?_) (fun g48 => ?_)
    ·
     refine SeqK.on (q_fieldL _ rfl Fx.fl89_3 rfl rfl) rfl rfl rfl rfl rfl ?_
     refine SeqK.rOn (b_load (r := .a _) rfl Fx.ty2 rfl rfl rfl rfl rfl rfl) rfl rfl rfl ?_
     refine SeqK.on (q_eql rfl rfl rfl) rfl rfl rfl rfl rfl ?_
     refine SeqK.q (q_pkT rfl rfl rfl) rfl rfl rfl ?_
     refine sA ?_
     refine SeqK.nil ?_
     refine AW.ret ?_
     exact fin_x (x := .c _) (H) (.tmp rfl .nil) rfl (fun _ _ h => h) (⟨bCe (by first | exact dF (fun h => by have := h.2; omega) | exact dI ⟨fun h => ⟨hN, by omega⟩, fun h => by have := h.2; omega⟩), rfl⟩)
    iterate 3 refine SeqK.off rfl rfl rfl rfl rfl rfl ?_
    refine SeqK.q (q_pkF rfl rfl rfl) rfl rfl rfl ?_
    refine sA ?_
    refine SeqK.nil ?_
    refine AW.ret ?_
    exact fin_x (x := .c _) (H) (.tmp rfl .nil) rfl (fun _ _ h => h) (⟨bCe (by first | exact dF (fun h => by have := h.2; omega) | exact dI ⟨fun h => ⟨hN, by omega⟩, fun h => by have := h.2; omega⟩), rfl⟩)
   iterate 3 refine SeqK.off rfl rfl rfl rfl rfl rfl ?_
   refine SeqK.q (q_pkF rfl rfl rfl) rfl rfl rfl ?_
   refine sM ?_
   iterate 3 refine SeqK.off rfl rfl rfl rfl rfl rfl ?_
   refine SeqK.q (q_pkF rfl rfl rfl) rfl rfl rfl ?_
   refine sA ?_
   refine SeqK.nil ?_
   refine AW.ret ?_
   exact fin_x (x := .c _) (H) (.tmp rfl .nil) rfl (fun _ _ h => h) (⟨bCe (by first | exact dF (fun h => by have := h.2; omega) | exact dI ⟨fun h => ⟨hN, by omega⟩, fun h => by have := h.2; omega⟩), rfl⟩)
  iterate 3 refine SeqK.off rfl rfl rfl rfl rfl rfl ?_
  refine SeqK.q (q_pkF rfl rfl rfl) rfl rfl rfl ?_
  refine sM ?_
  iterate 3 refine SeqK.off rfl rfl rfl rfl rfl rfl ?_
  refine SeqK.q (q_pkF rfl rfl rfl) rfl rfl rfl ?_
  refine sM ?_
  iterate 3 refine SeqK.off rfl rfl rfl rfl rfl rfl ?_
  refine SeqK.q (q_pkF rfl rfl rfl) rfl rfl rfl ?_
  refine sA ?_
  refine SeqK.nil ?_
  refine AW.ret ?_
  exact fin_x (x := .c _) (H) (.tmp rfl .nil) rfl (fun _ _ h => h) (⟨bCe (by first | exact dF (fun h => by have := h.2; omega) | exact dI ⟨fun h => ⟨hN, by omega⟩, fun h => by have := h.2; omega⟩), rfl⟩)
 iterate 3 refine SeqK.off rfl rfl rfl rfl rfl rfl ?_
 refine SeqK.q (q_pkF rfl rfl rfl) rfl rfl rfl ?_
 refine sM ?_
 iterate 3 refine SeqK.off rfl rfl rfl rfl rfl rfl ?_
 refine SeqK.q (q_pkF rfl rfl rfl) rfl rfl rfl ?_
 refine sM ?_
 iterate 3 refine SeqK.off rfl rfl rfl rfl rfl rfl ?_
 refine SeqK.q (q_pkF rfl rfl rfl) rfl rfl rfl ?_
 refine sM ?_
 iterate 3 refine SeqK.off rfl rfl rfl rfl rfl rfl ?_
 refine SeqK.q (q_pkF rfl rfl rfl) rfl rfl rfl ?_
 refine sA ?_
 refine SeqK.nil ?_
 refine AW.ret ?_
 exact fin_x (x := .c _) (H) (.tmp rfl .nil) rfl (fun _ _ h => h) (⟨bCe (by first | exact dF (fun h => by have := h.2; omega) | exact dI ⟨fun h => ⟨hN, by omega⟩, fun h => by have := h.2; omega⟩), rfl⟩)

end Go.Proofs.Ytihlgigaejhilaa.W
namespace Go.Proofs.Ytihlgigaejhilaa.W
open Go.RowKit E
abbrev co0 : Co := ⟨⟨#[]⟩, 0, 0, 0, 0, false⟩
abbrev colAt (t : Tb) (v : Int) : Co := t.cols.getD v.toNat co0
theorem colAt_get {t : Tb} {v : Int} (h : v.toNat < t.cols.length) : colAt t v = t.cols[v.toNat] := by
  show t.cols.getD v.toNat co0 = _; rw [List.getD_eq_getElem?_getD, List.getElem?_eq_getElem h]; rfl
/-- numbers of columns, if there are such -/
abbrev nbP (cs : List Co) (l : List ByteArray) : Prop := ∀ j (h : j < l.length), (fstI Co.nm l[j] cs).isSome = true
abbrev nbL (cs : List Co) (l : List ByteArray) : List Int := l.map fun u => (((fstI Co.nm u cs).getD 0 : Nat) : Int)
abbrev nbX (cs : List Co) (l : List ByteArray) : X := if nbP cs l then .tup [iL .un (nbL cs l), bC true] else .tup [iL .un [], bC false]

set_option maxRecDepth 20000 in
theorem names_any (t : Tb) (l : List Int) (z : Nz) (hl : l.length ≤ 1000000) (hin : insP t l) (hc : t.cols.length ≤ 17592186044000) : Pure Try.prog 64 [tbC t, iL z l] (.c (sL .un (l.map fun v => (colAt t v).nm))) := by
 intro H
 refine Spec.enter Try.func64 rfl ?_
 refine AW.wk (Wk.keep 26 [(0, .c (tbC t)), (1, .c (iL z l))] [] (H) rfl ⟨rfl, rfl, trivial⟩ trivial (fun _ _ h => h) rfl) ?_
 refine sR ?_
 refine SeqK.r (b_box (r := [_, _, _, _, _]) rfl rfl rfl rfl rfl rfl) rfl ?_
 refine sA ?_
 refine SeqK.nil ?_
 refine sR ?_
 refine sA ?_
 refine SeqK.nil ?_
 refine AW.seq ?_
 refine sR ?_
 refine sA ?_
 refine SeqK.nil ?_
 refine AW.block ?_
 refine AW.tip 5 9 1 rfl (fun k0 hk0 => ?_)
 refine AW.loop (fun (i : Nat) s => ∃ (kt : Nat) (zs : List (List E.T)), (i ≤ l.length ∧ H kt = none ∧ zs = ((l.take i).map fun v => (colAt t v).nm).map sT) ∧ s = ⟨26, sp [(1, .c (iL z l)), (2, .lp 2 0), (5, .c (.a (.ts kt .ne 1 zs))), (6, iX .i64 ((i : Nat) : Int))], lv [(2, .box [.t (.v (.string t.nm)), .t (.sl .un 6 (t.cols.map coT)), .t (.sl .un 1 (t.keys.map iLT)), .t (.sl .un 3 (t.fks.map fkT)), .t (.sl .un 8 (t.chks.map exT'))])], upd H kt (some (.tip 9 1 zs.length))⟩) (fun i => l.length - i) 0 ⟨_, Wk.keep 26 [(1, .c (iL z l)), (2, .lp 2 0), (5, .c (.a (.ts (k0) .ne 1 ([])))), (6, iX .i64 ((((0 : Nat)) : Nat) : Int))] [(2, .box [.t (.v (.string t.nm)), .t (.sl .un 6 (t.cols.map coT)), .t (.sl .un 1 (t.keys.map iLT)), .t (.sl .un 3 (t.fks.map fkT)), .t (.sl .un 8 (t.chks.map exT'))])] (upd H (k0) (some (.tip 9 1 ([]).length))) rfl ⟨rfl, rfl, rfl, rfl, trivial⟩ ⟨rfl, trivial⟩ (fun _ _ h => h) rfl, k0, [], ⟨Nat.zero_le _, hk0, rfl⟩, rfl⟩ (fun i s hs => ?_)
 obtain ⟨kt, zs, ⟨hi0, hkt, hzs⟩, rfl⟩ := hs
 refine AW.seq ?_
 refine sR ?_
 refine sM ?_
 refine sM ?_
 refine SeqK.q (q_len rfl Fx.un22 rfl) rfl rfl rfl ?_
 refine SeqK.q (q_lss rfl rfl rfl) rfl rfl rfl ?_
 refine SeqK.nil ?_
 refine AW.condD rfl (fun h10 => ?_) (fun h10 => ?_)
 ·
  have hi : i < l.length := by rw [List.length_map] at h10; omega
  have hiv := hin i hi
  have hv : l[i].toNat < t.cols.length := by omega
  have hca := colAt_get hv
  refine AW.skip ?_
  refine AW.seq ?_
  refine AW.block ?_
  refine AW.drawO [0, 1, 2, 3, 4, 5, 6, 7, 8, 9, 10, 11, 12] Fx.mo (by kernel_rfl) ?_
  refine LexO.q rfl (by kernel_rfl) (q_mvC rfl rfl) rfl rfl rfl ?_
  refine LexO.q rfl (by kernel_rfl) (q_fieldL _ rfl Fx.fl71_1 rfl rfl) rfl rfl rfl ?_
  refine LexO.r rfl (by kernel_rfl) (b_load (r := .a _) rfl Fx.ty39 rfl rfl rfl rfl rfl rfl) rfl ?_
  refine LexO.q rfl (by kernel_rfl) (q_mvC rfl rfl) rfl rfl rfl ?_
  refine LexO.q rfl (by kernel_rfl) (q_mvC rfl rfl) rfl rfl rfl ?_
  refine LexO.q rfl (by kernel_rfl) (q_index _ rfl Fx.sl22 rfl rfl (by omega) (idx_map (f := i64T) hi)) rfl rfl rfl ?_
  refine LexO.q rfl (by kernel_rfl) (q_load (.a _) rfl Fx.ty3 rfl rfl rfl) rfl rfl rfl ?_
  refine LexO.q rfl (by kernel_rfl) (q_index _ rfl Fx.sl39 rfl rfl (by omega) (idx_map (f := coT) hv)) rfl rfl rfl ?_
  refine LexO.q rfl (by kernel_rfl) (q_fieldP _ rfl Fx.fl89_0 rfl rfl) rfl rfl rfl ?_
  refine LexO.q rfl (by kernel_rfl) (q_load (.a _) rfl Fx.ty9 rfl rfl rfl) rfl rfl rfl ?_
  refine LexO.q rfl (by kernel_rfl) (q_buildSlice _ rfl Fx.el36 rfl (by decide) rfl) rfl rfl rfl ?_
  refine LexO.app1 rfl (by kernel_rfl) (by kernel_rfl) (by kernel_rfl) rfl (hkt) rfl Fx.el36 rfl rfl (by simp [hzs]; omega) rfl rfl (fun k24 hk24 => ?_)
  refine LexO.q rfl (by kernel_rfl) (q_asC rfl rfl) rfl rfl rfl ?_
  refine LexO.nil (by kernel_rfl) ?_
  refine AW.reg ?_
  refine sM ?_
  refine SeqK.q (q_add _ rfl rfl rfl (w64 (by omega) (by omega))) rfl rfl rfl ?_
  refine sA ?_
  refine SeqK.nil ?_
  exact ⟨i + 1, _, Wk.keep 26 [(1, .c (iL z l)), (2, .lp 2 0), (5, .c (.a (.ts (k24) .ne 1 (zs ++ [sT t.cols[l[i].toNat].nm])))), (6, iX .i64 (((i + 1) : Nat) : Int))] [(2, .box [.t (.v (.string t.nm)), .t (.sl .un 6 (t.cols.map coT)), .t (.sl .un 1 (t.keys.map iLT)), .t (.sl .un 3 (t.fks.map fkT)), .t (.sl .un 8 (t.chks.map exT'))])] (upd H (k24) (some (.tip 9 1 (zs ++ [sT t.cols[l[i].toNat].nm]).length))) rfl ⟨rfl, rfl, rfl, rfl, trivial⟩ ⟨rfl, trivial⟩ (fun _ _ h => h) rfl, by omega, k24, zs ++ [sT t.cols[l[i].toNat].nm], ⟨hi, hk24, by rw [hzs, take_put hi, List.map_append, List.map_append, List.map_singleton, List.map_singleton, hca]⟩, rfl⟩
 refine AW.exit ?_
 refine eth_e ?_
 refine eth_e ?_
 refine exit_here ?_
 refine AW.seq ?_
 obtain rfl : i = l.length := by rw [List.length_map] at h10; omega
 rw [List.take_length] at hzs
 refine AW.xw 5 rfl (XW.ts.trans (XW.es hzs)) ?_
 refine AW.reg ?_
 refine sM ?_
 refine sA ?_
 refine SeqK.nil ?_
 refine AW.ret ?_
 exact fin_x (x := .c _) (H) (.tmp rfl .nil) rfl ((fun j o h => upd_sub hkt j o h)) (⟨rfl, rfl⟩)

set_option maxRecDepth 20000 in
theorem numbers_any (t : Tb) (l : List ByteArray) (z : Nz) (hl : l.length ≤ 1000000) (hc : t.cols.length ≤ 17592186044000) : Pure Try.prog 95 [tbC t, sL z l] (nbX t.cols l) := by
 intro H
 refine Spec.enter Try.func95 rfl ?_
 refine AW.wk (Wk.keep 32 [(0, .c (tbC t)), (1, .c (sL z l))] [] (H) rfl ⟨rfl, rfl, trivial⟩ trivial (fun _ _ h => h) rfl) ?_
 refine sR ?_
 refine SeqK.r (b_box (r := [_, _, _, _, _]) rfl rfl rfl rfl rfl rfl) rfl ?_
 refine sA ?_
 refine sA ?_
 refine SeqK.nil ?_
 refine sR ?_
 refine sA ?_
 refine SeqK.nil ?_
 refine AW.seq ?_
 refine sR ?_
 refine sA ?_
 refine SeqK.nil ?_
 refine AW.block ?_
 refine AW.tip 6 3 1 rfl (fun k0 hk0 => ?_)
 refine AW.loop (fun (i : Nat) s => ∃ (kt : Nat) (zs : List (List E.T)), (i ≤ l.length ∧ H kt = none ∧ zs = (nbL t.cols (l.take i)).map i64T ∧ ∀ j (h : j < l.length), j < i → (fstI Co.nm l[j] t.cols).isSome = true) ∧ s = ⟨32, sp [(1, .c (sL z l)), (2, .lp 2 0), (4, .c (.a (.t (.v (.slice none 0 0))))), (5, .c (bC false)), (6, .c (.a (.ts kt .ne 1 zs))), (7, iX .i64 ((i : Nat) : Int))], lv [(2, .box [.t (.v (.string t.nm)), .t (.sl .un 6 (t.cols.map coT)), .t (.sl .un 1 (t.keys.map iLT)), .t (.sl .un 3 (t.fks.map fkT)), .t (.sl .un 8 (t.chks.map exT'))])], upd H kt (some (.tip 3 1 zs.length))⟩) (fun i => l.length - i) 0 ⟨_, Wk.keep 32 [(1, .c (sL z l)), (2, .lp 2 0), (4, .c (.a (.t (.v (.slice none 0 0))))), (5, .c (bC false)), (6, .c (.a (.ts (k0) .ne 1 ([])))), (7, iX .i64 ((((0 : Nat)) : Nat) : Int))] [(2, .box [.t (.v (.string t.nm)), .t (.sl .un 6 (t.cols.map coT)), .t (.sl .un 1 (t.keys.map iLT)), .t (.sl .un 3 (t.fks.map fkT)), .t (.sl .un 8 (t.chks.map exT'))])] (upd H (k0) (some (.tip 3 1 ([]).length))) rfl ⟨rfl, rfl, rfl, rfl, rfl, rfl, trivial⟩ ⟨rfl, trivial⟩ (fun _ _ h => h) rfl, k0, [], ⟨Nat.zero_le _, hk0, rfl, up0⟩, rfl⟩ (fun i s hs => ?_)
 obtain ⟨kt, zs, ⟨hi0, hkt, hzs, hU⟩, rfl⟩ := hs
 refine AW.seq ?_
 refine sR ?_
 refine sM ?_
 refine sM ?_
 refine SeqK.q (q_len rfl Fx.un36 rfl) rfl rfl rfl ?_
 refine SeqK.q (q_lss rfl rfl rfl) rfl rfl rfl ?_
 refine SeqK.nil ?_
 refine AW.condD rfl (fun h13 => ?_) (fun h13 => ?_)
 ·
  have hi : i < l.length := by rw [List.length_map] at h13; omega
  refine AW.skip ?_
  refine AW.seq ?_
  refine AW.block ?_
  refine AW.seq ?_
  refine AW.draw Fx.mo ?_
  refine LexK.r (b_load (r := .g [_, _, _, _, _]) rfl Fx.ty71 rfl rfl rfl rfl rfl rfl) rfl ?_
  refine LexK.q (q_mvC rfl rfl) rfl rfl rfl ?_
  refine LexK.q (q_mvC rfl rfl) rfl rfl rfl ?_
  refine LexK.q (q_index _ rfl Fx.sl36 rfl rfl (by omega) (idx_map (f := sT) hi)) rfl rfl rfl ?_
  refine LexK.q (q_load (.a _) rfl Fx.ty9 rfl rfl rfl) rfl rfl rfl ?_
  refine LexK.q (q_call _ rfl Fx.fn109 rfl (column_no t l[i] hc) rfl) rfl rfl rfl ?_
  refine LexK.q (q_mvT rfl rfl) rfl rfl rfl ?_
  refine LexK.q (q_extract _ rfl rfl rfl) rfl rfl rfl ?_
  refine LexK.q (q_extract _ rfl rfl rfl) rfl rfl rfl ?_
  refine LexK.q (q_asC rfl rfl) rfl rfl rfl ?_
  refine LexK.q (q_asC rfl rfl) rfl rfl rfl ?_
  refine LexK.nil (by kernel_rfl) ?_
  refine AW.seq ?_
  refine sR ?_
  refine sM ?_
  refine SeqK.q (q_not rfl rfl) rfl rfl rfl ?_
  refine SeqK.nil ?_
  refine AW.cond _ rfl (fun h26 => ?_) (fun h26 => ?_)
  ·
   have hno : ¬ (fstI Co.nm l[i] t.cols).isSome = true := by simpa using h26
   refine sR ?_
   refine sA ?_
   refine sA ?_
   refine SeqK.nil ?_
   refine AW.xw 4 rfl (XW.nilU (sz := 1)) ?_
   refine AW.ret ?_
   exact fin_x (x := .tup [_, _]) (H) (.tmp rfl (.tmp rfl .nil)) rfl ((fun j o h => upd_sub hkt j o h)) (⟨by rw [nbX, if_neg (fun h => hno (h i hi))]; rfl, rfl⟩)
  have hyes : (fstI Co.nm l[i] t.cols).isSome = true := by simpa using h26
  refine AW.skip ?_
  refine AW.reg ?_
  refine sM ?_
  refine sM ?_
  refine SeqK.q (q_buildSlice _ rfl Fx.el22 rfl (by decide) rfl) rfl rfl rfl ?_
  refine SeqK.app1 rfl (hkt) rfl Fx.el22 rfl rfl (by simp [hzs]; omega) rfl rfl (fun k30 hk30 => ?_)
  refine sA ?_
  refine SeqK.nil ?_
  refine AW.reg ?_
  refine sM ?_
  refine SeqK.q (q_add _ rfl rfl rfl (w64 (by omega) (by omega))) rfl rfl rfl ?_
  refine sA ?_
  refine SeqK.nil ?_
  exact ⟨i + 1, _, Wk.keep 32 [(1, .c (sL z l)), (2, .lp 2 0), (4, .c (.a (.t (.v (.slice none 0 0))))), (5, .c (bC false)), (6, .c (.a (.ts (k30) .ne 1 (zs ++ [i64T (((fstI Co.nm l[i] t.cols).getD 0 : Nat) : Int)])))), (7, iX .i64 (((i + 1) : Nat) : Int))] [(2, .box [.t (.v (.string t.nm)), .t (.sl .un 6 (t.cols.map coT)), .t (.sl .un 1 (t.keys.map iLT)), .t (.sl .un 3 (t.fks.map fkT)), .t (.sl .un 8 (t.chks.map exT'))])] (upd H (k30) (some (.tip 3 1 (zs ++ [i64T (((fstI Co.nm l[i] t.cols).getD 0 : Nat) : Int)]).length))) rfl ⟨rfl, rfl, rfl, rfl, rfl, rfl, trivial⟩ ⟨rfl, trivial⟩ (fun _ _ h => h) rfl, by omega, k30, zs ++ [i64T (((fstI Co.nm l[i] t.cols).getD 0 : Nat) : Int)], ⟨hi, hk30, by rw [hzs]; simp only [nbL, take_put hi, List.map_append, List.map_singleton], upS hi hU hyes⟩, rfl⟩
 refine AW.exit ?_
 refine eth_e ?_
 refine eth_e ?_
 refine exit_here ?_
 refine AW.seq ?_
 obtain rfl : i = l.length := by rw [List.length_map] at h13; omega
 rw [List.take_length] at hzs
 refine AW.xw 6 rfl (XW.ts.trans (XW.es hzs)) ?_
 refine AW.reg ?_
 refine sM ?_
 refine sA ?_
 refine sA ?_
 refine SeqK.nil ?_
 refine AW.ret ?_
 exact fin_x (x := .tup [_, _]) (H) (.tmp rfl (.tmp rfl .nil)) rfl ((fun j o h => upd_sub hkt j o h)) (⟨by rw [nbX, if_pos (upE hU (by rw [List.length_map] at h13; omega))], rfl⟩)

abbrev tysP (t u : Tb) (a b : List Int) : Prop := ∀ j (h : j < a.length), (colAt t a[j]).ty = (colAt u (b.getD j 0)).ty

set_option maxRecDepth 20000 in
theorem types_any (t u : Tb) (a b : List Int) (z z2 : Nz) (ha : a.length ≤ 17592186044000) (hab : a.length ≤ b.length) (hia : insP t a) (hib : insP u b) : Pure Try.prog 97 [tbC t, tbC u, iL z a, iL z2 b] (.c (bC (decide (tysP t u a b)))) := by
 intro H
 refine Spec.enter Try.func97 rfl ?_
 refine AW.wk (Wk.keep 35 [(0, .c (tbC t)), (1, .c (tbC u)), (2, .c (iL z a)), (3, .c (iL z2 b))] [] (H) rfl ⟨rfl, rfl, rfl, rfl, trivial⟩ trivial (fun _ _ h => h) rfl) ?_
 refine sR ?_
 refine SeqK.r (b_box (r := [_, _, _, _, _]) rfl rfl rfl rfl rfl rfl) rfl ?_
 refine SeqK.r (b_box (r := [_, _, _, _, _]) rfl rfl rfl rfl rfl rfl) rfl ?_
 refine sA ?_
 refine SeqK.nil ?_
 refine AW.seq ?_
 refine sR ?_
 refine sA ?_
 refine SeqK.nil ?_
 refine AW.block ?_
 refine AW.loop (fun (i : Nat) s => (i ≤ a.length ∧ ∀ j (h : j < a.length), j < i → (colAt t a[j]).ty = (colAt u (b.getD j 0)).ty) ∧ s = ⟨35, sp [(2, .c (iL z a)), (3, .c (iL z2 b)), (4, .lp 4 0), (5, .lp 5 0), (8, .c (bC false)), (9, iX .i64 ((i : Nat) : Int))], lv [(4, .box [.t (.v (.string t.nm)), .t (.sl .un 6 (t.cols.map coT)), .t (.sl .un 1 (t.keys.map iLT)), .t (.sl .un 3 (t.fks.map fkT)), .t (.sl .un 8 (t.chks.map exT'))]), (5, .box [.t (.v (.string u.nm)), .t (.sl .un 6 (u.cols.map coT)), .t (.sl .un 1 (u.keys.map iLT)), .t (.sl .un 3 (u.fks.map fkT)), .t (.sl .un 8 (u.chks.map exT'))])], H⟩) (fun i => a.length - i) 0 ⟨_, Wk.keep 35 [(2, .c (iL z a)), (3, .c (iL z2 b)), (4, .lp 4 0), (5, .lp 5 0), (8, .c (bC false)), (9, iX .i64 ((((0 : Nat)) : Nat) : Int))] [(4, .box [.t (.v (.string t.nm)), .t (.sl .un 6 (t.cols.map coT)), .t (.sl .un 1 (t.keys.map iLT)), .t (.sl .un 3 (t.fks.map fkT)), .t (.sl .un 8 (t.chks.map exT'))]), (5, .box [.t (.v (.string u.nm)), .t (.sl .un 6 (u.cols.map coT)), .t (.sl .un 1 (u.keys.map iLT)), .t (.sl .un 3 (u.fks.map fkT)), .t (.sl .un 8 (u.chks.map exT'))])] (H) rfl ⟨rfl, rfl, rfl, rfl, rfl, rfl, trivial⟩ ⟨rfl, rfl, trivial⟩ (fun _ _ h => h) rfl, ⟨Nat.zero_le _, up0⟩, rfl⟩ (fun i s hs => ?_)
 obtain ⟨⟨hi0, hU⟩, rfl⟩ := hs
 refine AW.seq ?_
 refine sR ?_
 refine sM ?_
 refine sM ?_
 refine SeqK.q (q_len rfl Fx.un22 rfl) rfl rfl rfl ?_
 refine SeqK.q (q_lss rfl rfl rfl) rfl rfl rfl ?_
 refine SeqK.nil ?_
 refine AW.condD rfl (fun h13 => ?_) (fun h13 => ?_)
 ·
  have hi : i < a.length := by rw [List.length_map] at h13; omega
  have hi2 : i < b.length := by omega
  have hv := hia i hi
  have hw := hib i hi2
  have hv2 : a[i].toNat < t.cols.length := by omega
  have hw2 : b[i].toNat < u.cols.length := by omega
  have e1 := colAt_get hv2
  have e2 := colAt_get hw2
  have e3 : b.getD i 0 = b[i] := by rw [List.getD_eq_getElem?_getD, List.getElem?_eq_getElem hi2]; rfl
  refine AW.skip ?_
  refine AW.seq ?_
  refine AW.block ?_
  refine AW.seq ?_
  refine AW.draw Fx.mo ?_
  refine LexK.q (q_fieldL _ rfl Fx.fl71_1 rfl rfl) rfl rfl rfl ?_
  refine LexK.r (b_load (r := .a _) rfl Fx.ty39 rfl rfl rfl rfl rfl rfl) rfl ?_
  refine LexK.q (q_mvC rfl rfl) rfl rfl rfl ?_
  refine LexK.q (q_mvC rfl rfl) rfl rfl rfl ?_
  refine LexK.q (q_index _ rfl Fx.sl22 rfl rfl (by omega) (idx_map (f := i64T) hi)) rfl rfl rfl ?_
  refine LexK.q (q_load (.a _) rfl Fx.ty3 rfl rfl rfl) rfl rfl rfl ?_
  refine LexK.q (q_index _ rfl Fx.sl39 rfl rfl (by omega) (idx_map (f := coT) hv2)) rfl rfl rfl ?_
  refine LexK.q (q_fieldP _ rfl Fx.fl89_1 rfl rfl) rfl rfl rfl ?_
  refine LexK.q (q_load (.a _) rfl Fx.ty3 rfl rfl rfl) rfl rfl rfl ?_
  refine LexK.q (q_fieldL _ rfl Fx.fl71_1 rfl rfl) rfl rfl rfl ?_
  refine LexK.r (b_load (r := .a _) rfl Fx.ty39 rfl rfl rfl rfl rfl rfl) rfl ?_
  refine LexK.q (q_mvC rfl rfl) rfl rfl rfl ?_
  refine LexK.q (q_mvC rfl rfl) rfl rfl rfl ?_
  refine LexK.q (q_index _ rfl Fx.sl22 rfl rfl (by omega) (idx_map (f := i64T) hi2)) rfl rfl rfl ?_
  refine LexK.q (q_load (.a _) rfl Fx.ty3 rfl rfl rfl) rfl rfl rfl ?_
  refine LexK.q (q_index _ rfl Fx.sl39 rfl rfl (by omega) (idx_map (f := coT) hw2)) rfl rfl rfl ?_
  refine LexK.q (q_fieldP _ rfl Fx.fl89_1 rfl rfl) rfl rfl rfl ?_
  refine LexK.q (q_load (.a _) rfl Fx.ty3 rfl rfl rfl) rfl rfl rfl ?_
  refine LexK.q (q_neq rfl rfl rfl) rfl rfl rfl ?_
  refine LexK.nil (by kernel_rfl) ?_
  refine AW.condD rfl (fun h34 => ?_) (fun h34 => ?_)
  ·
   refine sR ?_
   refine sA ?_
   refine SeqK.nil ?_
   refine AW.ret ?_
   exact fin_x (x := .c _) (H) (.tmp rfl .nil) rfl (fun _ _ h => h) (⟨bCe (dF (fun h => h34 (by have := h i hi; rw [e1, e3, e2] at this; exact this))), rfl⟩)
  refine AW.skip ?_
  refine AW.reg ?_
  refine sM ?_
  refine SeqK.q (q_add _ rfl rfl rfl (w64 (by omega) (by omega))) rfl rfl rfl ?_
  refine sA ?_
  refine SeqK.nil ?_
  exact ⟨i + 1, _, Wk.keep 35 [(2, .c (iL z a)), (3, .c (iL z2 b)), (4, .lp 4 0), (5, .lp 5 0), (8, .c (bC false)), (9, iX .i64 (((i + 1) : Nat) : Int))] [(4, .box [.t (.v (.string t.nm)), .t (.sl .un 6 (t.cols.map coT)), .t (.sl .un 1 (t.keys.map iLT)), .t (.sl .un 3 (t.fks.map fkT)), .t (.sl .un 8 (t.chks.map exT'))]), (5, .box [.t (.v (.string u.nm)), .t (.sl .un 6 (u.cols.map coT)), .t (.sl .un 1 (u.keys.map iLT)), .t (.sl .un 3 (u.fks.map fkT)), .t (.sl .un 8 (u.chks.map exT'))])] (H) rfl ⟨rfl, rfl, rfl, rfl, rfl, rfl, trivial⟩ ⟨rfl, rfl, trivial⟩ (fun _ _ h => h) rfl, by omega, ⟨hi, upS hi hU (by rw [e1, e3, e2]; exact Classical.not_not.1 h34)⟩, rfl⟩
 refine AW.exit ?_
 refine eth_e ?_
 refine eth_e ?_
 refine exit_here ?_
 refine sR ?_
 refine sA ?_
 refine SeqK.nil ?_
 refine AW.ret ?_
 exact fin_x (x := .c _) (H) (.tmp rfl .nil) rfl (fun _ _ h => h) (⟨bCe (dT (upE hU (by rw [List.length_map] at h13; omega))), rfl⟩)

end Go.Proofs.Ytihlgigaejhilaa.W
namespace Go.Proofs.Ytihlgigaejhilaa.W
open Go.RowKit E
/-! expressions and statements that are small -/
mutual
def okE : Ex → Prop
  | .mk _ tb nm _ _ _ vs args => (tb.size ≤ 1000000000000000 ∧ nm.size ≤ 1000000000000000 ∧ vs.size ≤ 1000000000000000 ∧ args.length ≤ 17592186044000) ∧ okEs args
def okEs : List Ex → Prop
  | [] => True
  | e :: r => okE e ∧ okEs r
end
theorem okEs_iff : ∀ {l : List Ex}, okEs l ↔ ∀ a ∈ l, okE a
  | [] => by simp [okEs]
  | e :: r => by rw [okEs, okEs_iff]; simp
theorem okE_iff {e : Ex} : okE e ↔ (e.tb.size ≤ 1000000000000000 ∧ e.nm.size ≤ 1000000000000000 ∧ e.vs.size ≤ 1000000000000000 ∧ e.args.length ≤ 17592186044000) ∧ ∀ a ∈ e.args, okE a := by
  cases e; rw [okE, okEs_iff]
def finB : Nat → Ex → Bool
  | 0, _ => false
  | d + 1, e => decide (e.args.length ≤ 8) && (decide (e.tb.size + e.nm.size + e.vs.size ≤ 100) && e.args.all (finB d))
theorem fin0 {d : Nat} {e : Ex} (h : d = 0) : false = finB d e := by subst h; rw [finB]
theorem finB_pos {d : Nat} {e : Ex} (h : 0 < d) : finB d e = (decide (e.args.length ≤ 8) && (decide (e.tb.size + e.nm.size + e.vs.size ≤ 100) && e.args.all (finB (d - 1)))) := by
  cases d with
  | zero => omega
  | succ d => rw [finB]; rfl

set_option maxRecDepth 20000 in
theorem fine_of (e : Ex) (d : Nat) (hd : d ≤ 1000) (ho : okE e) (ih : 0 < d → ∀ a ∈ e.args, Pure Try.prog 63 [exC a, iC ((d - 1 : Nat) : Int)] (.c (bC (finB (d - 1) a)))) : Pure Try.prog 63 [exC e, iC (d : Int)] (.c (bC (finB d e))) := by
 intro H
 refine Spec.enter Try.func63 rfl ?_
 refine AW.wk (Wk.keep 45 [(0, .c (exC e)), (1, .c (iC (d : Int)))] [] (H) rfl ⟨rfl, rfl, trivial⟩ trivial (fun _ _ h => h) rfl) ?_
 refine sR ?_
 refine SeqK.r (b_box (r := [_, _, _, _, _, _, _, _]) rfl rfl rfl rfl rfl rfl) rfl ?_
 refine sA ?_
 refine SeqK.nil ?_
 refine AW.seq ?_
 refine AW.seq ?_
 obtain ⟨⟨k1, k2, k3, k4⟩, k5⟩ := okE_iff.1 ho
 refine AW.reg ?_
 refine sM ?_
 refine SeqK.q (q_eql rfl rfl rfl) rfl rfl rfl ?_
 refine SeqK.qD (q_mvC rfl rfl) rfl rfl rfl (fun g8 => ?_) (fun g8 => ?_)
 ·
  iterate 4 refine SeqK.off rfl rfl rfl rfl rfl rfl ?_
  refine SeqK.q (q_pkT rfl rfl rfl) rfl rfl rfl ?_
  refine sM ?_
  iterate 13 refine SeqK.off rfl rfl rfl rfl rfl rfl ?_
  refine SeqK.q (q_pkT rfl rfl rfl) rfl rfl rfl ?_
  refine SeqK.nil ?_
  refine AW.condT rfl ?_
  refine sR ?_
  refine sA ?_
  refine SeqK.nil ?_
  refine AW.ret ?_
  exact fin_x (x := .c _) (H) (.tmp rfl .nil) rfl (fun _ _ h => h) (⟨bCe (fin0 (by omega)), rfl⟩)
 have hd0 : 0 < d := by omega
 have hp := finB_pos (e := e) hd0
 refine SeqK.on (q_fieldL _ rfl Fx.fl27_5 rfl rfl) rfl rfl rfl rfl rfl ?_
 refine SeqK.rOn (b_load (r := .a _) rfl Fx.ty23 rfl rfl rfl rfl rfl rfl) rfl rfl rfl ?_
 refine SeqK.on (q_len rfl Fx.un23 rfl) rfl rfl rfl rfl rfl ?_
 refine SeqK.on (q_gtr rfl rfl rfl) rfl rfl rfl rfl rfl ?_
 refine SeqK.q (q_pkF rfl rfl rfl) rfl rfl rfl ?_
 refine SeqK.qD (q_mvC rfl rfl) rfl rfl rfl (fun g14 => ?_) (fun g14 => ?_)
 ·
  iterate 13 refine SeqK.off rfl rfl rfl rfl rfl rfl ?_
  refine SeqK.q (q_pkT rfl rfl rfl) rfl rfl rfl ?_
  refine SeqK.nil ?_
  refine AW.condT rfl ?_
  refine sR ?_
  refine sA ?_
  refine SeqK.nil ?_
  refine AW.ret ?_
  exact fin_x (x := .c _) (H) (.tmp rfl .nil) rfl (fun _ _ h => h) (⟨bCe (by rw [hp, decide_eq_false (p := e.args.length ≤ 8) (by rw [List.length_map] at g14; omega)]; rfl), rfl⟩)
 refine SeqK.on (q_fieldL _ rfl Fx.fl27_1 rfl rfl) rfl rfl rfl rfl rfl ?_
 refine SeqK.rOn (b_load (r := .a _) rfl Fx.ty9 rfl rfl rfl rfl rfl rfl) rfl rfl rfl ?_
 refine SeqK.on (q_lenS rfl Fx.un9 rfl) rfl rfl rfl rfl rfl ?_
 refine SeqK.on (q_fieldL _ rfl Fx.fl27_2 rfl rfl) rfl rfl rfl rfl rfl ?_
 refine SeqK.rOn (b_load (r := .a _) rfl Fx.ty9 rfl rfl rfl rfl rfl rfl) rfl rfl rfl ?_
 refine SeqK.on (q_lenS rfl Fx.un9 rfl) rfl rfl rfl rfl rfl ?_
 refine SeqK.on (q_add _ rfl rfl rfl (w64 (by omega) (by omega))) rfl rfl rfl rfl rfl ?_
 refine SeqK.on (q_fieldL _ rfl Fx.fl27_4 rfl rfl) rfl rfl rfl rfl rfl ?_
 refine SeqK.on (q_fieldL _ rfl Fx.fl25_2 rfl rfl) rfl rfl rfl rfl rfl ?_
 refine SeqK.rOn (b_load (r := .a _) rfl Fx.ty9 rfl rfl rfl rfl rfl rfl) rfl rfl rfl ?_
 refine SeqK.on (q_lenS rfl Fx.un9 rfl) rfl rfl rfl rfl rfl ?_
 refine SeqK.on (q_add _ rfl rfl rfl (w64 (by omega) (by omega))) rfl rfl rfl rfl rfl ?_
 refine SeqK.on (q_gtr rfl rfl rfl) rfl rfl rfl rfl rfl ?_
 refine SeqK.q (q_pkF rfl rfl rfl) rfl rfl rfl ?_
 refine SeqK.nil ?_
 refine AW.condD rfl (fun h28 => ?_) (fun h28 => ?_)
 ·
  refine sR ?_
  refine sA ?_
  refine SeqK.nil ?_
  refine AW.ret ?_
  exact fin_x (x := .c _) (H) (.tmp rfl .nil) rfl (fun _ _ h => h) (⟨bCe (by rw [hp, decide_eq_false (p := _ ≤ 100) (by omega)]; simp), rfl⟩)
 refine AW.skip ?_
 refine AW.seq ?_
 refine AW.seq ?_
 have hA8 : e.args.length ≤ 8 := by rw [List.length_map] at g14; omega
 have hA9 : e.tb.size + e.nm.size + e.vs.size ≤ 100 := by omega
 refine AW.reg ?_
 refine sA ?_
 refine SeqK.nil ?_
 refine AW.block ?_
 refine AW.loop (fun (i : Nat) s => (i ≤ e.args.length ∧ ∀ j (h : j < e.args.length), j < i → finB (d - 1) e.args[j] = true) ∧ s = ⟨45, sp [(1, .c (iC (d : Int))), (2, .lp 2 0), (4, .c (bC false)), (5, iX .i64 ((i : Nat) : Int))], lv [(2, .box [.t (.v (.int .i64 e.op)), .t (.v (.string e.tb)), .t (.v (.string e.nm)), .t (.v (.int .i64 e.ix)), .t (.v (.int .i64 e.vk)), .t (.v (.int .i64 e.vn)), .t (.v (.string e.vs)), .t (.sl .un 8 (e.args.map exT'))])], H⟩) (fun i => e.args.length - i) 0 ⟨_, Wk.keep 45 [(1, .c (iC (d : Int))), (2, .lp 2 0), (4, .c (bC false)), (5, iX .i64 ((((0 : Nat)) : Nat) : Int))] [(2, .box [.t (.v (.int .i64 e.op)), .t (.v (.string e.tb)), .t (.v (.string e.nm)), .t (.v (.int .i64 e.ix)), .t (.v (.int .i64 e.vk)), .t (.v (.int .i64 e.vn)), .t (.v (.string e.vs)), .t (.sl .un 8 (e.args.map exT'))])] (H) rfl ⟨rfl, rfl, rfl, rfl, trivial⟩ ⟨rfl, trivial⟩ (fun _ _ h => h) rfl, ⟨Nat.zero_le _, up0⟩, rfl⟩ (fun i s hs => ?_)
 obtain ⟨⟨hi0, hU⟩, rfl⟩ := hs
 refine AW.seq ?_
 refine sR ?_
 refine sM ?_
 refine SeqK.q (q_fieldL _ rfl Fx.fl27_5 rfl rfl) rfl rfl rfl ?_
 refine SeqK.r (b_load (r := .a _) rfl Fx.ty23 rfl rfl rfl rfl rfl rfl) rfl ?_
 refine SeqK.q (q_len rfl Fx.un23 rfl) rfl rfl rfl ?_
 refine SeqK.q (q_lss rfl rfl rfl) rfl rfl rfl ?_
 refine SeqK.nil ?_
 refine AW.condD rfl (fun h33 => ?_) (fun h33 => ?_)
 ·
  have hi : i < e.args.length := by rw [List.length_map] at h33; omega
  refine AW.skip ?_
  refine AW.seq ?_
  refine AW.block ?_
  refine sR ?_
  refine SeqK.q (q_fieldL _ rfl Fx.fl27_5 rfl rfl) rfl rfl rfl ?_
  refine SeqK.r (b_load (r := .a _) rfl Fx.ty23 rfl rfl rfl rfl rfl rfl) rfl ?_
  refine sM ?_
  refine SeqK.q (q_index _ rfl Fx.sl23 rfl rfl (by omega) (idx_ex hi)) rfl rfl rfl ?_
  refine SeqK.q (q_load (.g [_, _, _, _, _, _, _, _]) rfl Fx.ty27 rfl rfl rfl) rfl rfl rfl ?_
  refine sM ?_
  refine SeqK.q (q_sub _ rfl rfl rfl ((by rw [w64 (by omega) (by omega)]; omega : IntKind.i64.wrap _ = ((d - 1 : Nat) : Int)))) rfl rfl rfl ?_
  refine SeqK.q (q_call _ rfl Fx.fn63 rfl (ih hd0 _ (List.getElem_mem hi)) rfl) rfl rfl rfl ?_
  refine SeqK.q (q_not rfl rfl) rfl rfl rfl ?_
  refine SeqK.nil ?_
  refine AW.cond _ rfl (fun h44 => ?_) (fun h44 => ?_)
  ·
   have hno : finB (d - 1) e.args[i] = false := by simpa using h44
   refine sR ?_
   refine sA ?_
   refine SeqK.nil ?_
   refine AW.ret ?_
   exact fin_x (x := .c _) (H) (.tmp rfl .nil) rfl (fun _ _ h => h) (⟨bCe (by rw [hp, List.all_eq_false.2 ⟨_, List.getElem_mem hi, by simp [hno]⟩]; simp), rfl⟩)
  have hyes : finB (d - 1) e.args[i] = true := by simpa using h44
  refine AW.skip ?_
  refine AW.reg ?_
  refine sM ?_
  refine SeqK.q (q_add _ rfl rfl rfl (w64 (by omega) (by omega))) rfl rfl rfl ?_
  refine sA ?_
  refine SeqK.nil ?_
  exact ⟨i + 1, _, Wk.keep 45 [(1, .c (iC (d : Int))), (2, .lp 2 0), (4, .c (bC false)), (5, iX .i64 (((i + 1) : Nat) : Int))] [(2, .box [.t (.v (.int .i64 e.op)), .t (.v (.string e.tb)), .t (.v (.string e.nm)), .t (.v (.int .i64 e.ix)), .t (.v (.int .i64 e.vk)), .t (.v (.int .i64 e.vn)), .t (.v (.string e.vs)), .t (.sl .un 8 (e.args.map exT'))])] (H) rfl ⟨rfl, rfl, rfl, rfl, trivial⟩ ⟨rfl, trivial⟩ (fun _ _ h => h) rfl, by omega, ⟨hi, upS hi hU (hyes)⟩, rfl⟩
 refine AW.exit ?_
 refine eth_e ?_
 refine eth_e ?_
 refine exit_here ?_
 refine sR ?_
 refine sA ?_
 refine SeqK.nil ?_
 refine AW.ret ?_
 exact fin_x (x := .c _) (H) (.tmp rfl .nil) rfl (fun _ _ h => h) (⟨bCe (by rw [hp, decide_eq_true hA8, decide_eq_true hA9, List.all_eq_true.2 fun x hx => by obtain ⟨j, hj, rfl⟩ := List.mem_iff_getElem.1 hx; exact upE hU (by rw [List.length_map] at h33; omega) j hj]; rfl), rfl⟩)

theorem fine_any : ∀ (d : Nat) (e : Ex), d ≤ 1000 → okE e → Pure Try.prog 63 [exC e, iC (d : Int)] (.c (bC (finB d e)))
  | 0, e, hd, ho => fine_of e 0 hd ho fun h => absurd h (by omega)
  | d + 1, e, hd, ho => fine_of e (d + 1) hd ho fun _ a ha => fine_any d a (by omega) ((okE_iff.1 ho).2 a ha)
/-- CREATE TABLE statements -/
structure Df where (k : Int) (nm : ByteArray) (cols : List Co) (keys : List (List ByteArray)) (fks : List Rf) (chks : List Ex)
abbrev dfT (d : Df) : List E.T := [.v (.int .i64 d.k), .v (.string d.nm), .sl .un 6 (d.cols.map coT), .sl .un 1 (d.keys.map sLT), .sl .un 3 (d.fks.map rfT), .sl .un 8 (d.chks.map exT'), .v (.slice none 0 0), .v (.slice none 0 0), .v (.slice none 0 0), .v (.slice none 0 0), .v (.int .i64 0), .v (.string ⟨#[]⟩), .v (.string ⟨#[]⟩), .v (.int .i64 0), .v (.int .i64 0), .v (.int .i64 0), .v (.string ⟨#[]⟩), .v (.slice none 0 0), .v (.slice none 0 0), .v (.slice none 0 0), .v (.int .i64 0), .v (.string ⟨#[]⟩)]
end Go.Proofs.Ytihlgigaejhilaa.W
namespace Go.Proofs.Ytihlgigaejhilaa.W
open Go.RowKit E
abbrev smD (d : Df) : Prop := (d.nm.size ≤ 60 ∧ d.cols.length ≤ 20 ∧ d.keys.length ≤ 10 ∧ d.fks.length ≤ 10 ∧ d.chks.length ≤ 10) ∧ (∀ j (h : j < d.cols.length), d.cols[j].nm.size ≤ 60) ∧ (∀ j (h : j < d.keys.length), fewP 0 d.keys[j]) ∧
  (∀ j (h : j < d.fks.length), d.fks[j].tab.size ≤ 60 ∧ fewP 0 d.fks[j].cols ∧ fewP 0 d.fks[j].tgt) ∧ ∀ j (h : j < d.chks.length), finB 4 d.chks[j] = true
abbrev smlP (l : List Df) : Prop := (∀ j (h : j < l.length), smD l[j]) ∧ l.length ≤ 12
structure okD (d : Df) : Prop where
  nm : d.nm.size ≤ 1000000000000000
  cols : d.cols.length ≤ 17592186044000
  colsn : ∀ c ∈ d.cols, c.nm.size ≤ 1000000000000000
  keys : d.keys.length ≤ 17592186044000
  keysl : ∀ k ∈ d.keys, k.length ≤ 1000000
  keysn : ∀ k ∈ d.keys, ∀ u ∈ k, u.size ≤ 1000000000000000
  fks : d.fks.length ≤ 17592186044000
  fksl : ∀ f ∈ d.fks, f.cols.length ≤ 1000000 ∧ f.tgt.length ≤ 1000000
  fksn : ∀ f ∈ d.fks, f.tab.size ≤ 1000000000000000
  chks : d.chks.length ≤ 17592186044000
  chkso : ∀ e ∈ d.chks, okE e

set_option maxHeartbeats 8000000 in
set_option maxRecDepth 20000 in
theorem small_any (l : List Df) (z : Nz) (hl : l.length ≤ 17592186044000) (hok : ∀ d ∈ l, okD d) : Pure Try.prog 36 [.a (.t (.sl z 22 (l.map dfT)))] (.c (bC (decide (smlP l)))) := by
 intro H
 refine Spec.enter Try.func36 rfl ?_
 refine AW.wk (Wk.keep 132 [(0, .c (.a (.t (.sl z 22 (l.map dfT)))))] [] (H) rfl ⟨rfl, trivial⟩ trivial (fun _ _ h => h) rfl) ?_
 refine sR ?_
 refine sA ?_
 refine SeqK.nil ?_
 refine AW.seq ?_
 refine sR ?_
 refine sA ?_
 refine SeqK.nil ?_
 refine AW.block ?_
 refine AW.loop (fun (i : Nat) s => (i ≤ l.length ∧ ∀ j (h : j < l.length), j < i → smD l[j]) ∧ s = ⟨132, sp [(0, .c (.a (.t (.sl z 22 (l.map dfT))))), (2, .c (bC false)), (3, iX .i64 ((i : Nat) : Int))], lv [], H⟩) (fun i => l.length - i) 0 ⟨_, Wk.keep 132 [(0, .c (.a (.t (.sl z 22 (l.map dfT))))), (2, .c (bC false)), (3, iX .i64 ((((0 : Nat)) : Nat) : Int))] [] (H) rfl ⟨rfl, rfl, rfl, trivial⟩ trivial (fun _ _ h => h) rfl, ⟨Nat.zero_le _, up0⟩, rfl⟩ (fun i s hs => ?_)
 obtain ⟨⟨hi0, hU⟩, rfl⟩ := hs
 refine AW.seq ?_
 refine sR ?_
 refine sM ?_
 refine sM ?_
 refine SeqK.q (q_len rfl Fx.un95 rfl) rfl rfl rfl ?_
 refine SeqK.q (q_lss rfl rfl rfl) rfl rfl rfl ?_
 refine SeqK.nil ?_
 refine AW.condD rfl (fun h12 => ?_) (fun h12 => ?_)
 ·
  have hi : i < l.length := by rw [List.length_map] at h12; omega
  have hk := hok _ (List.getElem_mem hi)
  have k1 := hk.nm
  have k2 := hk.cols
  have k3 := hk.keys
  have k4 := hk.fks
  have k5 := hk.chks
  refine AW.skip ?_
  refine AW.seq ?_
  refine AW.block ?_
  refine sR ?_
  refine sM ?_
  refine sM ?_
  refine SeqK.q (q_index _ rfl Fx.sl95 rfl rfl (by omega) (idx_map (f := dfT) hi)) rfl rfl rfl ?_
  refine SeqK.q (q_fieldP _ rfl Fx.fl50_2 rfl rfl) rfl rfl rfl ?_
  refine SeqK.q (q_load (.g [_, _, _, _]) rfl Fx.ty43 rfl rfl rfl) rfl rfl rfl ?_
  refine SeqK.r (b_alloc (r := [_, _, _, _]) rfl rfl Fx.ze43 rfl rfl rfl rfl) rfl ?_
  refine SeqK.r (b_store (r := [_, _, _, _]) rfl rfl Fx.ty43 rfl rfl rfl rfl rfl rfl) rfl ?_
  refine SeqK.nil ?_
  refine AW.seq ?_
  refine sR ?_
  refine sM ?_
  refine sM ?_
  refine SeqK.q (q_index _ rfl Fx.sl95 rfl rfl (by omega) (idx_map (f := dfT) hi)) rfl rfl rfl ?_
  refine SeqK.q (q_fieldP _ rfl Fx.fl50_1 rfl rfl) rfl rfl rfl ?_
  refine SeqK.q (q_load (.a _) rfl Fx.ty9 rfl rfl rfl) rfl rfl rfl ?_
  refine SeqK.q (q_lenS rfl Fx.un9 rfl) rfl rfl rfl ?_
  refine SeqK.q (q_gtr rfl rfl rfl) rfl rfl rfl ?_
  refine SeqK.qD (q_mvC rfl rfl) rfl rfl rfl (fun g27 => ?_) (fun g27 => ?_)
  ·
   iterate 4 refine SeqK.off rfl rfl rfl rfl rfl rfl ?_
   refine SeqK.q (q_pkT rfl rfl rfl) rfl rfl rfl ?_
   refine sM ?_
   iterate 4 refine SeqK.off rfl rfl rfl rfl rfl rfl ?_
   refine SeqK.q (q_pkT rfl rfl rfl) rfl rfl rfl ?_
   refine sM ?_
   iterate 4 refine SeqK.off rfl rfl rfl rfl rfl rfl ?_
   refine SeqK.q (q_pkT rfl rfl rfl) rfl rfl rfl ?_
   refine sM ?_
   iterate 4 refine SeqK.off rfl rfl rfl rfl rfl rfl ?_
   refine SeqK.q (q_pkT rfl rfl rfl) rfl rfl rfl ?_
   refine SeqK.nil ?_
   refine AW.condT rfl ?_
   refine sR ?_
   refine sA ?_
   refine SeqK.nil ?_
   refine AW.ret ?_
   exact fin_x (x := .c _) (H) (.tmp rfl .nil) rfl (fun _ _ h => h) (⟨bCe (dF (fun h => by have h9 := (h.1 i hi).1; simp only [List.length_map] at *; omega)), rfl⟩)
  refine SeqK.on (q_fieldL _ rfl Fx.fl43_0 rfl rfl) rfl rfl rfl rfl rfl ?_
  refine SeqK.rOn (b_load (r := .a _) rfl Fx.ty39 rfl rfl rfl rfl rfl rfl) rfl rfl rfl ?_
  refine SeqK.on (q_len rfl Fx.un39 rfl) rfl rfl rfl rfl rfl ?_
  refine SeqK.on (q_gtr rfl rfl rfl) rfl rfl rfl rfl rfl ?_
  refine SeqK.q (q_pkF rfl rfl rfl) rfl rfl rfl ?_
  refine SeqK.qD (q_mvC rfl rfl) rfl rfl rfl (fun g33 => ?_) (fun g33 => ?_)
  ·
   iterate 4 refine SeqK.off rfl rfl rfl rfl rfl rfl ?_
   refine SeqK.q (q_pkT rfl rfl rfl) rfl rfl rfl ?_
   refine sM ?_
   iterate 4 refine SeqK.off rfl rfl rfl rfl rfl rfl ?_
   refine SeqK.q (q_pkT rfl rfl rfl) rfl rfl rfl ?_
   refine sM ?_
   iterate 4 refine SeqK.off rfl rfl rfl rfl rfl rfl ?_
   refine SeqK.q (q_pkT rfl rfl rfl) rfl rfl rfl ?_
   refine SeqK.nil ?_
   refine AW.condT rfl ?_
   refine sR ?_
   refine sA ?_
   refine SeqK.nil ?_
   refine AW.ret ?_
   exact fin_x (x := .c _) (H) (.tmp rfl .nil) rfl (fun _ _ h => h) (⟨bCe (dF (fun h => by have h9 := (h.1 i hi).1; simp only [List.length_map] at *; omega)), rfl⟩)
  refine SeqK.on (q_fieldL _ rfl Fx.fl43_1 rfl rfl) rfl rfl rfl rfl rfl ?_
  refine SeqK.rOn (b_load (r := .a _) rfl Fx.ty40 rfl rfl rfl rfl rfl rfl) rfl rfl rfl ?_
  refine SeqK.on (q_len rfl Fx.un40 rfl) rfl rfl rfl rfl rfl ?_
  refine SeqK.on (q_gtr rfl rfl rfl) rfl rfl rfl rfl rfl ?_
  refine SeqK.q (q_pkF rfl rfl rfl) rfl rfl rfl ?_
  refine SeqK.qD (q_mvC rfl rfl) rfl rfl rfl (fun g39 => ?_) (fun g39 => ?_)
  ·
   iterate 4 refine SeqK.off rfl rfl rfl rfl rfl rfl ?_
   refine SeqK.q (q_pkT rfl rfl rfl) rfl rfl rfl ?_
   refine sM ?_
   iterate 4 refine SeqK.off rfl rfl rfl rfl rfl rfl ?_
   refine SeqK.q (q_pkT rfl rfl rfl) rfl rfl rfl ?_
   refine SeqK.nil ?_
   refine AW.condT rfl ?_
   refine sR ?_
   refine sA ?_
   refine SeqK.nil ?_
   refine AW.ret ?_
   exact fin_x (x := .c _) (H) (.tmp rfl .nil) rfl (fun _ _ h => h) (⟨bCe (dF (fun h => by have h9 := (h.1 i hi).1; simp only [List.length_map] at *; omega)), rfl⟩)
  refine SeqK.on (q_fieldL _ rfl Fx.fl43_2 rfl rfl) rfl rfl rfl rfl rfl ?_
  refine SeqK.rOn (b_load (r := .a _) rfl Fx.ty41 rfl rfl rfl rfl rfl rfl) rfl rfl rfl ?_
  refine SeqK.on (q_len rfl Fx.un41 rfl) rfl rfl rfl rfl rfl ?_
  refine SeqK.on (q_gtr rfl rfl rfl) rfl rfl rfl rfl rfl ?_
  refine SeqK.q (q_pkF rfl rfl rfl) rfl rfl rfl ?_
  refine SeqK.qD (q_mvC rfl rfl) rfl rfl rfl (fun g45 => ?_) (fun g45 => ?_)
  ·
   iterate 4 refine SeqK.off rfl rfl rfl rfl rfl rfl ?_
   refine SeqK.q (q_pkT rfl rfl rfl) rfl rfl rfl ?_
   refine SeqK.nil ?_
   refine AW.condT rfl ?_
   refine sR ?_
   refine sA ?_
   refine SeqK.nil ?_
   refine AW.ret ?_
   exact fin_x (x := .c _) (H) (.tmp rfl .nil) rfl (fun _ _ h => h) (⟨bCe (dF (fun h => by have h9 := (h.1 i hi).1; simp only [List.length_map] at *; omega)), rfl⟩)
  refine SeqK.on (q_fieldL _ rfl Fx.fl43_3 rfl rfl) rfl rfl rfl rfl rfl ?_
  refine SeqK.rOn (b_load (r := .a _) rfl Fx.ty23 rfl rfl rfl rfl rfl rfl) rfl rfl rfl ?_
  refine SeqK.on (q_len rfl Fx.un23 rfl) rfl rfl rfl rfl rfl ?_
  refine SeqK.on (q_gtr rfl rfl rfl) rfl rfl rfl rfl rfl ?_
  refine SeqK.q (q_pkF rfl rfl rfl) rfl rfl rfl ?_
  refine SeqK.nil ?_
  refine AW.condD rfl (fun h50 => ?_) (fun h50 => ?_)
  ·
   refine sR ?_
   refine sA ?_
   refine SeqK.nil ?_
   refine AW.ret ?_
   exact fin_x (x := .c _) (H) (.tmp rfl .nil) rfl (fun _ _ h => h) (⟨bCe (dF (fun h => by have h9 := (h.1 i hi).1; simp only [List.length_map] at *; omega)), rfl⟩)
  refine AW.skip ?_
  refine AW.seq ?_
  refine AW.seq ?_
  have hF : l[i].nm.size ≤ 60 ∧ l[i].cols.length ≤ 20 ∧ l[i].keys.length ≤ 10 ∧ l[i].fks.length ≤ 10 ∧ l[i].chks.length ≤ 10 := by simp only [List.length_map] at *; omega
  refine AW.reg ?_
  refine sA ?_
  refine SeqK.nil ?_
  refine AW.block ?_
  refine AW.loop (fun (j : Nat) s => (j ≤ l[i].cols.length ∧ ∀ k (h : k < l[i].cols.length), k < j → l[i].cols[k].nm.size ≤ 60) ∧ s = ⟨132, sp [(0, .c (.a (.t (.sl z 22 (l.map dfT))))), (2, .c (bC false)), (3, iX .i64 ((i : Nat) : Int)), (4, .lp 4 0), (5, iX .i64 ((j : Nat) : Int))], lv [(4, .box [.t (.sl .un 6 (l[i].cols.map coT)), .t (.sl .un 1 (l[i].keys.map sLT)), .t (.sl .un 3 (l[i].fks.map rfT)), .t (.sl .un 8 (l[i].chks.map exT'))])], H⟩) (fun j => l[i].cols.length - j) 0 ⟨_, Wk.keep 132 [(0, .c (.a (.t (.sl z 22 (l.map dfT))))), (2, .c (bC false)), (3, iX .i64 ((i : Nat) : Int)), (4, .lp 4 0), (5, iX .i64 ((((0 : Nat)) : Nat) : Int))] [(4, .box [.t (.sl .un 6 (l[i].cols.map coT)), .t (.sl .un 1 (l[i].keys.map sLT)), .t (.sl .un 3 (l[i].fks.map rfT)), .t (.sl .un 8 (l[i].chks.map exT'))])] (H) rfl ⟨rfl, rfl, rfl, rfl, rfl, trivial⟩ ⟨rfl, trivial⟩ (fun _ _ h => h) rfl, ⟨Nat.zero_le _, up0⟩, rfl⟩ (fun j s hs => ?_)
  obtain ⟨⟨hj0, hU1⟩, rfl⟩ := hs
  refine AW.seq ?_
  refine sR ?_
  refine sM ?_
  refine SeqK.q (q_fieldL _ rfl Fx.fl43_0 rfl rfl) rfl rfl rfl ?_
  refine SeqK.r (b_load (r := .a _) rfl Fx.ty39 rfl rfl rfl rfl rfl rfl) rfl ?_
  refine SeqK.q (q_len rfl Fx.un39 rfl) rfl rfl rfl ?_
  refine SeqK.q (q_lss rfl rfl rfl) rfl rfl rfl ?_
  refine SeqK.nil ?_
  refine AW.condD rfl (fun h55 => ?_) (fun h55 => ?_)
  ·
   have hj : j < l[i].cols.length := by rw [List.length_map] at h55; omega
   have kc := hk.colsn _ (List.getElem_mem hj)
   refine AW.skip ?_
   refine AW.seq ?_
   refine AW.block ?_
   refine sR ?_
   refine SeqK.q (q_fieldL _ rfl Fx.fl43_0 rfl rfl) rfl rfl rfl ?_
   refine SeqK.r (b_load (r := .a _) rfl Fx.ty39 rfl rfl rfl rfl rfl rfl) rfl ?_
   refine sM ?_
   refine SeqK.q (q_index _ rfl Fx.sl39 rfl rfl (by omega) (idx_map (f := coT) hj)) rfl rfl rfl ?_
   refine SeqK.q (q_fieldP _ rfl Fx.fl89_0 rfl rfl) rfl rfl rfl ?_
   refine SeqK.q (q_load (.a _) rfl Fx.ty9 rfl rfl rfl) rfl rfl rfl ?_
   refine SeqK.q (q_lenS rfl Fx.un9 rfl) rfl rfl rfl ?_
   refine SeqK.q (q_gtr rfl rfl rfl) rfl rfl rfl ?_
   refine SeqK.nil ?_
   refine AW.condD rfl (fun h65 => ?_) (fun h65 => ?_)
   ·
    refine sR ?_
    refine sA ?_
    refine SeqK.nil ?_
    refine AW.ret ?_
    exact fin_x (x := .c _) (H) (.tmp rfl .nil) rfl (fun _ _ h => h) (⟨bCe (dF (fun h => by have h9 := (h.1 i hi).2.1 j hj; omega)), rfl⟩)
   refine AW.skip ?_
   refine AW.reg ?_
   refine sM ?_
   refine SeqK.q (q_add _ rfl rfl rfl (w64 (by omega) (by omega))) rfl rfl rfl ?_
   refine sA ?_
   refine SeqK.nil ?_
   exact ⟨j + 1, _, Wk.keep 132 [(0, .c (.a (.t (.sl z 22 (l.map dfT))))), (2, .c (bC false)), (3, iX .i64 ((i : Nat) : Int)), (4, .lp 4 0), (5, iX .i64 (((j + 1) : Nat) : Int))] [(4, .box [.t (.sl .un 6 (l[i].cols.map coT)), .t (.sl .un 1 (l[i].keys.map sLT)), .t (.sl .un 3 (l[i].fks.map rfT)), .t (.sl .un 8 (l[i].chks.map exT'))])] (H) rfl ⟨rfl, rfl, rfl, rfl, rfl, trivial⟩ ⟨rfl, trivial⟩ (fun _ _ h => h) rfl, by omega, ⟨hj, upS hj hU1 (by omega)⟩, rfl⟩
  refine AW.exit ?_
  refine eth_e ?_
  refine eth_e ?_
  refine exit_here ?_
  refine AW.seq ?_
  refine AW.seq ?_
  have hA := upE hU1 (by rw [List.length_map] at h55; omega)
  refine AW.reg ?_
  refine sA ?_
  refine SeqK.nil ?_
  refine AW.block ?_
  refine AW.loop (fun (j : Nat) s => (j ≤ l[i].keys.length ∧ ∀ k (h : k < l[i].keys.length), k < j → fewP 0 l[i].keys[k]) ∧ s = ⟨132, sp [(0, .c (.a (.t (.sl z 22 (l.map dfT))))), (2, .c (bC false)), (3, iX .i64 ((i : Nat) : Int)), (4, .lp 4 0), (6, iX .i64 ((j : Nat) : Int))], lv [(4, .box [.t (.sl .un 6 (l[i].cols.map coT)), .t (.sl .un 1 (l[i].keys.map sLT)), .t (.sl .un 3 (l[i].fks.map rfT)), .t (.sl .un 8 (l[i].chks.map exT'))])], H⟩) (fun j => l[i].keys.length - j) 0 ⟨_, Wk.keep 132 [(0, .c (.a (.t (.sl z 22 (l.map dfT))))), (2, .c (bC false)), (3, iX .i64 ((i : Nat) : Int)), (4, .lp 4 0), (6, iX .i64 ((((0 : Nat)) : Nat) : Int))] [(4, .box [.t (.sl .un 6 (l[i].cols.map coT)), .t (.sl .un 1 (l[i].keys.map sLT)), .t (.sl .un 3 (l[i].fks.map rfT)), .t (.sl .un 8 (l[i].chks.map exT'))])] (H) rfl ⟨rfl, rfl, rfl, rfl, rfl, trivial⟩ ⟨rfl, trivial⟩ (fun _ _ h => h) rfl, ⟨Nat.zero_le _, up0⟩, rfl⟩ (fun j s hs => ?_)
  obtain ⟨⟨hj0, hU2⟩, rfl⟩ := hs
  refine AW.seq ?_
  refine sR ?_
  refine sM ?_
  refine SeqK.q (q_fieldL _ rfl Fx.fl43_1 rfl rfl) rfl rfl rfl ?_
  refine SeqK.r (b_load (r := .a _) rfl Fx.ty40 rfl rfl rfl rfl rfl rfl) rfl ?_
  refine SeqK.q (q_len rfl Fx.un40 rfl) rfl rfl rfl ?_
  refine SeqK.q (q_lss rfl rfl rfl) rfl rfl rfl ?_
  refine SeqK.nil ?_
  refine AW.condD rfl (fun h70 => ?_) (fun h70 => ?_)
  ·
   have hj : j < l[i].keys.length := by rw [List.length_map] at h70; omega
   refine AW.skip ?_
   refine AW.seq ?_
   refine AW.block ?_
   refine sR ?_
   refine SeqK.q (q_fieldL _ rfl Fx.fl43_1 rfl rfl) rfl rfl rfl ?_
   refine SeqK.r (b_load (r := .a _) rfl Fx.ty40 rfl rfl rfl rfl rfl rfl) rfl ?_
   refine sM ?_
   refine SeqK.q (q_index _ rfl Fx.sl40 rfl rfl (by omega) (idx_map (f := sLT) hj)) rfl rfl rfl ?_
   refine SeqK.q (q_load (.a _) rfl Fx.ty36 rfl rfl rfl) rfl rfl rfl ?_
   refine SeqK.q (q_call _ rfl Fx.fn37 rfl (few_any 0 _ .un (by have := hk.keysl _ (List.getElem_mem hj); omega)) rfl) rfl rfl rfl ?_
   refine SeqK.q (q_not rfl rfl) rfl rfl rfl ?_
   refine SeqK.nil ?_
   refine AW.cond _ rfl (fun h79 => ?_) (fun h79 => ?_)
   ·
    refine sR ?_
    refine sA ?_
    refine SeqK.nil ?_
    refine AW.ret ?_
    exact fin_x (x := .c _) (H) (.tmp rfl .nil) rfl (fun _ _ h => h) (⟨bCe (dF (fun h => nd_t h79 ((h.1 i hi).2.2.1 j hj))), rfl⟩)
   refine AW.skip ?_
   refine AW.reg ?_
   refine sM ?_
   refine SeqK.q (q_add _ rfl rfl rfl (w64 (by omega) (by omega))) rfl rfl rfl ?_
   refine sA ?_
   refine SeqK.nil ?_
   exact ⟨j + 1, _, Wk.keep 132 [(0, .c (.a (.t (.sl z 22 (l.map dfT))))), (2, .c (bC false)), (3, iX .i64 ((i : Nat) : Int)), (4, .lp 4 0), (6, iX .i64 (((j + 1) : Nat) : Int))] [(4, .box [.t (.sl .un 6 (l[i].cols.map coT)), .t (.sl .un 1 (l[i].keys.map sLT)), .t (.sl .un 3 (l[i].fks.map rfT)), .t (.sl .un 8 (l[i].chks.map exT'))])] (H) rfl ⟨rfl, rfl, rfl, rfl, rfl, trivial⟩ ⟨rfl, trivial⟩ (fun _ _ h => h) rfl, by omega, ⟨hj, upS hj hU2 (nd_f h79)⟩, rfl⟩
  refine AW.exit ?_
  refine eth_e ?_
  refine eth_e ?_
  refine exit_here ?_
  refine AW.seq ?_
  refine AW.seq ?_
  have hB := upE hU2 (by rw [List.length_map] at h70; omega)
  refine AW.reg ?_
  refine sA ?_
  refine SeqK.nil ?_
  refine AW.block ?_
  refine AW.loop (fun (j : Nat) s => (j ≤ l[i].fks.length ∧ ∀ k (h : k < l[i].fks.length), k < j → l[i].fks[k].tab.size ≤ 60 ∧ fewP 0 l[i].fks[k].cols ∧ fewP 0 l[i].fks[k].tgt) ∧ s = ⟨132, sp [(0, .c (.a (.t (.sl z 22 (l.map dfT))))), (2, .c (bC false)), (3, iX .i64 ((i : Nat) : Int)), (4, .lp 4 0), (7, iX .i64 ((j : Nat) : Int))], lv [(4, .box [.t (.sl .un 6 (l[i].cols.map coT)), .t (.sl .un 1 (l[i].keys.map sLT)), .t (.sl .un 3 (l[i].fks.map rfT)), .t (.sl .un 8 (l[i].chks.map exT'))])], H⟩) (fun j => l[i].fks.length - j) 0 ⟨_, Wk.keep 132 [(0, .c (.a (.t (.sl z 22 (l.map dfT))))), (2, .c (bC false)), (3, iX .i64 ((i : Nat) : Int)), (4, .lp 4 0), (7, iX .i64 ((((0 : Nat)) : Nat) : Int))] [(4, .box [.t (.sl .un 6 (l[i].cols.map coT)), .t (.sl .un 1 (l[i].keys.map sLT)), .t (.sl .un 3 (l[i].fks.map rfT)), .t (.sl .un 8 (l[i].chks.map exT'))])] (H) rfl ⟨rfl, rfl, rfl, rfl, rfl, trivial⟩ ⟨rfl, trivial⟩ (fun _ _ h => h) rfl, ⟨Nat.zero_le _, up0⟩, rfl⟩ (fun j s hs => ?_)
  obtain ⟨⟨hj0, hU3⟩, rfl⟩ := hs
  refine AW.seq ?_
  refine sR ?_
  refine sM ?_
  refine SeqK.q (q_fieldL _ rfl Fx.fl43_2 rfl rfl) rfl rfl rfl ?_
  refine SeqK.r (b_load (r := .a _) rfl Fx.ty41 rfl rfl rfl rfl rfl rfl) rfl ?_
  refine SeqK.q (q_len rfl Fx.un41 rfl) rfl rfl rfl ?_
  refine SeqK.q (q_lss rfl rfl rfl) rfl rfl rfl ?_
  refine SeqK.nil ?_
  refine AW.condD rfl (fun h84 => ?_) (fun h84 => ?_)
  ·
   have hj : j < l[i].fks.length := by rw [List.length_map] at h84; omega
   have kf := hk.fksn _ (List.getElem_mem hj)
   refine AW.skip ?_
   refine AW.seq ?_
   refine AW.block ?_
   refine sR ?_
   refine SeqK.q (q_fieldL _ rfl Fx.fl43_2 rfl rfl) rfl rfl rfl ?_
   refine SeqK.r (b_load (r := .a _) rfl Fx.ty41 rfl rfl rfl rfl rfl rfl) rfl ?_
   refine sM ?_
   refine SeqK.q (q_index _ rfl Fx.sl41 rfl rfl (by omega) (idx_map (f := rfT) hj)) rfl rfl rfl ?_
   refine SeqK.q (q_fieldP _ rfl Fx.fl120_1 rfl rfl) rfl rfl rfl ?_
   refine SeqK.q (q_load (.a _) rfl Fx.ty9 rfl rfl rfl) rfl rfl rfl ?_
   refine SeqK.q (q_lenS rfl Fx.un9 rfl) rfl rfl rfl ?_
   refine SeqK.q (q_gtr rfl rfl rfl) rfl rfl rfl ?_
   refine SeqK.qD (q_mvC rfl rfl) rfl rfl rfl (fun g95 => ?_) (fun g95 => ?_)
   ·
    iterate 8 refine SeqK.off rfl rfl rfl rfl rfl rfl ?_
    refine SeqK.q (q_pkT rfl rfl rfl) rfl rfl rfl ?_
    refine sM ?_
    iterate 8 refine SeqK.off rfl rfl rfl rfl rfl rfl ?_
    refine SeqK.q (q_pkT rfl rfl rfl) rfl rfl rfl ?_
    refine SeqK.nil ?_
    refine AW.condT rfl ?_
    refine sR ?_
    refine sA ?_
    refine SeqK.nil ?_
    refine AW.ret ?_
    exact fin_x (x := .c _) (H) (.tmp rfl .nil) rfl (fun _ _ h => h) (⟨bCe (dF (fun h => by have h9 := (h.1 i hi).2.2.2.1 j hj; first | omega | exact nd_t g105 h9.2.1 | exact nd_t h114 h9.2.2)), rfl⟩)
   refine SeqK.on (q_fieldL _ rfl Fx.fl43_2 rfl rfl) rfl rfl rfl rfl rfl ?_
   refine SeqK.rOn (b_load (r := .a _) rfl Fx.ty41 rfl rfl rfl rfl rfl rfl) rfl rfl rfl ?_
   refine SeqK.on (q_mvC rfl rfl) rfl rfl rfl rfl rfl ?_
   refine SeqK.on (q_index _ rfl Fx.sl41 rfl rfl (by omega) (idx_map (f := rfT) hj)) rfl rfl rfl rfl rfl ?_
   refine SeqK.on (q_fieldP _ rfl Fx.fl120_0 rfl rfl) rfl rfl rfl rfl rfl ?_
   refine SeqK.on (q_load (.a _) rfl Fx.ty36 rfl rfl rfl) rfl rfl rfl rfl rfl ?_
   refine SeqK.on (q_call _ rfl Fx.fn37 rfl (few_any 0 l[i].fks[j].cols .un (by have := hk.fksl _ (List.getElem_mem hj); omega)) rfl) rfl rfl rfl rfl rfl ?_
   refine SeqK.on (q_not rfl rfl) rfl rfl rfl rfl rfl ?_
   refine SeqK.q (q_pkF rfl rfl rfl) rfl rfl rfl ?_
   refine SeqK.qB (q_mvC rfl rfl) rfl rfl rfl (fun g105 => ?_) (fun g105 => ?_)
   ·
    iterate 8 refine SeqK.off rfl rfl rfl rfl rfl rfl ?_
    refine SeqK.q (q_pkT rfl rfl rfl) rfl rfl rfl ?_
    refine SeqK.nil ?_
    refine AW.condT rfl ?_
    refine sR ?_
    refine sA ?_
    refine SeqK.nil ?_
    refine AW.ret ?_
    exact fin_x (x := .c _) (H) (.tmp rfl .nil) rfl (fun _ _ h => h) (⟨bCe (dF (fun h => by have h9 := (h.1 i hi).2.2.2.1 j hj; first | omega | exact nd_t g105 h9.2.1 | exact nd_t h114 h9.2.2)), rfl⟩)
   refine SeqK.on (q_fieldL _ rfl Fx.fl43_2 rfl rfl) rfl rfl rfl rfl rfl ?_
   refine SeqK.rOn (b_load (r := .a _) rfl Fx.ty41 rfl rfl rfl rfl rfl rfl) rfl rfl rfl ?_
   refine SeqK.on (q_mvC rfl rfl) rfl rfl rfl rfl rfl ?_
   refine SeqK.on (q_index _ rfl Fx.sl41 rfl rfl (by omega) (idx_map (f := rfT) hj)) rfl rfl rfl rfl rfl ?_
   refine SeqK.on (q_fieldP _ rfl Fx.fl120_2 rfl rfl) rfl rfl rfl rfl rfl ?_
   refine SeqK.on (q_load (.a _) rfl Fx.ty36 rfl rfl rfl) rfl rfl rfl rfl rfl ?_
   refine SeqK.on (q_call _ rfl Fx.fn37 rfl (few_any 0 l[i].fks[j].tgt .un (by have := hk.fksl _ (List.getElem_mem hj); omega)) rfl) rfl rfl rfl rfl rfl ?_
   refine SeqK.on (q_not rfl rfl) rfl rfl rfl rfl rfl ?_
   refine SeqK.q (q_pkF rfl rfl rfl) rfl rfl rfl ?_
   refine SeqK.nil ?_
   refine AW.cond _ rfl (fun h114 => ?_) (fun h114 => ?_)
   ·
    refine sR ?_
    refine sA ?_
    refine SeqK.nil ?_
    refine AW.ret ?_
    exact fin_x (x := .c _) (H) (.tmp rfl .nil) rfl (fun _ _ h => h) (⟨bCe (dF (fun h => by have h9 := (h.1 i hi).2.2.2.1 j hj; first | omega | exact nd_t g105 h9.2.1 | exact nd_t h114 h9.2.2)), rfl⟩)
   refine AW.skip ?_
   refine AW.reg ?_
   refine sM ?_
   refine SeqK.q (q_add _ rfl rfl rfl (w64 (by omega) (by omega))) rfl rfl rfl ?_
   refine sA ?_
   refine SeqK.nil ?_
   exact ⟨j + 1, _, Wk.keep 132 [(0, .c (.a (.t (.sl z 22 (l.map dfT))))), (2, .c (bC false)), (3, iX .i64 ((i : Nat) : Int)), (4, .lp 4 0), (7, iX .i64 (((j + 1) : Nat) : Int))] [(4, .box [.t (.sl .un 6 (l[i].cols.map coT)), .t (.sl .un 1 (l[i].keys.map sLT)), .t (.sl .un 3 (l[i].fks.map rfT)), .t (.sl .un 8 (l[i].chks.map exT'))])] (H) rfl ⟨rfl, rfl, rfl, rfl, rfl, trivial⟩ ⟨rfl, trivial⟩ (fun _ _ h => h) rfl, by omega, ⟨hj, upS hj hU3 (⟨by omega, nd_f g105, nd_f h114⟩)⟩, rfl⟩
  refine AW.exit ?_
  refine eth_e ?_
  refine eth_e ?_
  refine exit_here ?_
  refine AW.seq ?_
  have hC := upE hU3 (by rw [List.length_map] at h84; omega)
  refine AW.reg ?_
  refine sA ?_
  refine SeqK.nil ?_
  refine AW.block ?_
  refine AW.loop (fun (j : Nat) s => (j ≤ l[i].chks.length ∧ ∀ k (h : k < l[i].chks.length), k < j → finB 4 l[i].chks[k] = true) ∧ s = ⟨132, sp [(0, .c (.a (.t (.sl z 22 (l.map dfT))))), (2, .c (bC false)), (3, iX .i64 ((i : Nat) : Int)), (4, .lp 4 0), (8, iX .i64 ((j : Nat) : Int))], lv [(4, .box [.t (.sl .un 6 (l[i].cols.map coT)), .t (.sl .un 1 (l[i].keys.map sLT)), .t (.sl .un 3 (l[i].fks.map rfT)), .t (.sl .un 8 (l[i].chks.map exT'))])], H⟩) (fun j => l[i].chks.length - j) 0 ⟨_, Wk.keep 132 [(0, .c (.a (.t (.sl z 22 (l.map dfT))))), (2, .c (bC false)), (3, iX .i64 ((i : Nat) : Int)), (4, .lp 4 0), (8, iX .i64 ((((0 : Nat)) : Nat) : Int))] [(4, .box [.t (.sl .un 6 (l[i].cols.map coT)), .t (.sl .un 1 (l[i].keys.map sLT)), .t (.sl .un 3 (l[i].fks.map rfT)), .t (.sl .un 8 (l[i].chks.map exT'))])] (H) rfl ⟨rfl, rfl, rfl, rfl, rfl, trivial⟩ ⟨rfl, trivial⟩ (fun _ _ h => h) rfl, ⟨Nat.zero_le _, up0⟩, rfl⟩ (fun j s hs => ?_)
  obtain ⟨⟨hj0, hU4⟩, rfl⟩ := hs
  refine AW.seq ?_
  refine sR ?_
  refine sM ?_
  refine SeqK.q (q_fieldL _ rfl Fx.fl43_3 rfl rfl) rfl rfl rfl ?_
  refine SeqK.r (b_load (r := .a _) rfl Fx.ty23 rfl rfl rfl rfl rfl rfl) rfl ?_
  refine SeqK.q (q_len rfl Fx.un23 rfl) rfl rfl rfl ?_
  refine SeqK.q (q_lss rfl rfl rfl) rfl rfl rfl ?_
  refine SeqK.nil ?_
  refine AW.condD rfl (fun h119 => ?_) (fun h119 => ?_)
  ·
   have hj : j < l[i].chks.length := by rw [List.length_map] at h119; omega
   refine AW.skip ?_
   refine AW.seq ?_
   refine AW.block ?_
   refine sR ?_
   refine SeqK.q (q_fieldL _ rfl Fx.fl43_3 rfl rfl) rfl rfl rfl ?_
   refine SeqK.r (b_load (r := .a _) rfl Fx.ty23 rfl rfl rfl rfl rfl rfl) rfl ?_
   refine sM ?_
   refine SeqK.q (q_index _ rfl Fx.sl23 rfl rfl (by omega) (idx_ex hj)) rfl rfl rfl ?_
   refine SeqK.q (q_load (.g [_, _, _, _, _, _, _, _]) rfl Fx.ty27 rfl rfl rfl) rfl rfl rfl ?_
   refine SeqK.q (q_call _ rfl Fx.fn63 rfl (fine_any 4 _ (by omega) (hk.chkso _ (List.getElem_mem hj))) rfl) rfl rfl rfl ?_
   refine SeqK.q (q_not rfl rfl) rfl rfl rfl ?_
   refine SeqK.nil ?_
   refine AW.cond _ rfl (fun h128 => ?_) (fun h128 => ?_)
   ·
    refine sR ?_
    refine sA ?_
    refine SeqK.nil ?_
    refine AW.ret ?_
    exact fin_x (x := .c _) (H) (.tmp rfl .nil) rfl (fun _ _ h => h) (⟨bCe (dF (fun h => by have h9 := (h.1 i hi).2.2.2.2 j hj; rw [h9] at h128; cases h128)), rfl⟩)
   refine AW.skip ?_
   refine AW.reg ?_
   refine sM ?_
   refine SeqK.q (q_add _ rfl rfl rfl (w64 (by omega) (by omega))) rfl rfl rfl ?_
   refine sA ?_
   refine SeqK.nil ?_
   exact ⟨j + 1, _, Wk.keep 132 [(0, .c (.a (.t (.sl z 22 (l.map dfT))))), (2, .c (bC false)), (3, iX .i64 ((i : Nat) : Int)), (4, .lp 4 0), (8, iX .i64 (((j + 1) : Nat) : Int))] [(4, .box [.t (.sl .un 6 (l[i].cols.map coT)), .t (.sl .un 1 (l[i].keys.map sLT)), .t (.sl .un 3 (l[i].fks.map rfT)), .t (.sl .un 8 (l[i].chks.map exT'))])] (H) rfl ⟨rfl, rfl, rfl, rfl, rfl, trivial⟩ ⟨rfl, trivial⟩ (fun _ _ h => h) rfl, by omega, ⟨hj, upS hj hU4 (by simpa using h128)⟩, rfl⟩
  refine AW.exit ?_
  refine eth_e ?_
  refine eth_e ?_
  refine exit_here ?_
  have hE := upE hU4 (by rw [List.length_map] at h119; omega)
  refine AW.reg ?_
  refine sM ?_
  refine SeqK.q (q_add _ rfl rfl rfl (w64 (by omega) (by omega))) rfl rfl rfl ?_
  refine sA ?_
  refine SeqK.nil ?_
  exact ⟨i + 1, _, Wk.keep 132 [(0, .c (.a (.t (.sl z 22 (l.map dfT))))), (2, .c (bC false)), (3, iX .i64 (((i + 1) : Nat) : Int))] [] (H) rfl ⟨rfl, rfl, rfl, trivial⟩ trivial (fun _ _ h => h) rfl, by omega, ⟨hi, upS hi hU (⟨hF, hA, hB, hC, hE⟩)⟩, rfl⟩
 refine AW.exit ?_
 refine eth_e ?_
 refine eth_e ?_
 refine exit_here ?_
 refine AW.seq ?_
 have hW := upE hU (by rw [List.length_map] at h12; omega)
 refine AW.reg ?_
 refine sM ?_
 refine SeqK.q (q_len rfl Fx.un95 rfl) rfl rfl rfl ?_
 refine SeqK.q (q_leq rfl rfl rfl) rfl rfl rfl ?_
 refine sA ?_
 refine SeqK.nil ?_
 refine AW.ret ?_
 exact fin_x (x := .c _) (H) (.tmp rfl .nil) rfl (fun _ _ h => h) (⟨bCe (dI ⟨fun h => ⟨hW, by rw [List.length_map] at h; omega⟩, fun h => by have := h.2; rw [List.length_map]; omega⟩), rfl⟩)

abbrev vrOf (c : Co) : Vr := ⟨c.ty, c.lo, c.hi, c.mx, !c.nn⟩

set_option maxRecDepth 20000 in
theorem variables_any (t : Tb) (hc : t.cols.length ≤ 1000000) : Pure Try.prog 25 [tbC t] (.c (vsC .un (t.cols.map vrOf))) := by
 intro H
 refine Spec.enter Try.func25 rfl ?_
 refine AW.wk (Wk.keep 34 [(0, .c (tbC t))] [] (H) rfl ⟨rfl, trivial⟩ trivial (fun _ _ h => h) rfl) ?_
 refine sR ?_
 refine SeqK.r (b_box (r := [_, _, _, _, _]) rfl rfl rfl rfl rfl rfl) rfl ?_
 refine sA ?_
 refine SeqK.nil ?_
 refine sR ?_
 refine sA ?_
 refine SeqK.nil ?_
 refine AW.seq ?_
 refine sR ?_
 refine sA ?_
 refine SeqK.nil ?_
 refine AW.block ?_
 refine AW.tip 3 105 5 rfl (fun k0 hk0 => ?_)
 refine AW.loop (fun (i : Nat) s => ∃ (kt : Nat) (zs : List (List E.T)), (i ≤ t.cols.length ∧ H kt = none ∧ zs = ((t.cols.take i).map vrOf).map vrT) ∧ s = ⟨34, sp [(1, .lp 1 0), (3, .c (.a (.ts kt .ne 5 zs))), (4, iX .i64 ((i : Nat) : Int))], lv [(1, .box [.t (.v (.string t.nm)), .t (.sl .un 6 (t.cols.map coT)), .t (.sl .un 1 (t.keys.map iLT)), .t (.sl .un 3 (t.fks.map fkT)), .t (.sl .un 8 (t.chks.map exT'))])], upd H kt (some (.tip 105 5 zs.length))⟩) (fun i => t.cols.length - i) 0 ⟨_, Wk.keep 34 [(1, .lp 1 0), (3, .c (.a (.ts (k0) .ne 5 ([])))), (4, iX .i64 ((((0 : Nat)) : Nat) : Int))] [(1, .box [.t (.v (.string t.nm)), .t (.sl .un 6 (t.cols.map coT)), .t (.sl .un 1 (t.keys.map iLT)), .t (.sl .un 3 (t.fks.map fkT)), .t (.sl .un 8 (t.chks.map exT'))])] (upd H (k0) (some (.tip 105 5 ([]).length))) rfl ⟨rfl, rfl, rfl, trivial⟩ ⟨rfl, trivial⟩ (fun _ _ h => h) rfl, k0, [], ⟨Nat.zero_le _, hk0, rfl⟩, rfl⟩ (fun i s hs => ?_)
 obtain ⟨kt, zs, ⟨hi0, hkt, hzs⟩, rfl⟩ := hs
 refine AW.seq ?_
 refine sR ?_
 refine sM ?_
 refine SeqK.q (q_fieldL _ rfl Fx.fl71_1 rfl rfl) rfl rfl rfl ?_
 refine SeqK.r (b_load (r := .a _) rfl Fx.ty39 rfl rfl rfl rfl rfl rfl) rfl ?_
 refine SeqK.q (q_len rfl Fx.un39 rfl) rfl rfl rfl ?_
 refine SeqK.q (q_lss rfl rfl rfl) rfl rfl rfl ?_
 refine SeqK.nil ?_
 refine AW.condD rfl (fun h10 => ?_) (fun h10 => ?_)
 ·
  have hi : i < t.cols.length := by rw [List.length_map] at h10; omega
  refine AW.skip ?_
  refine AW.seq ?_
  refine AW.block ?_
  refine sR ?_
  refine SeqK.q (q_fieldL _ rfl Fx.fl71_1 rfl rfl) rfl rfl rfl ?_
  refine SeqK.r (b_load (r := .a _) rfl Fx.ty39 rfl rfl rfl rfl rfl rfl) rfl ?_
  refine sM ?_
  refine SeqK.q (q_index _ rfl Fx.sl39 rfl rfl (by omega) (idx_map (f := coT) hi)) rfl rfl rfl ?_
  refine SeqK.q (q_load (.g [_, _, _, _, _, _]) rfl Fx.ty89 rfl rfl rfl) rfl rfl rfl ?_
  refine SeqK.r (b_alloc (r := [_, _, _, _, _, _]) rfl rfl Fx.ze89 rfl rfl rfl rfl) rfl ?_
  refine SeqK.r (b_store (r := [_, _, _, _, _, _]) rfl rfl Fx.ty89 rfl rfl rfl rfl rfl rfl) rfl ?_
  refine SeqK.nil ?_
  refine AW.reg ?_
  refine sM ?_
  refine SeqK.q (q_fieldL _ rfl Fx.fl89_1 rfl rfl) rfl rfl rfl ?_
  refine SeqK.r (b_load (r := .a _) rfl Fx.ty3 rfl rfl rfl rfl rfl rfl) rfl ?_
  refine SeqK.q (q_fieldL _ rfl Fx.fl89_2 rfl rfl) rfl rfl rfl ?_
  refine SeqK.r (b_load (r := .a _) rfl Fx.ty2 rfl rfl rfl rfl rfl rfl) rfl ?_
  refine SeqK.q (q_fieldL _ rfl Fx.fl89_3 rfl rfl) rfl rfl rfl ?_
  refine SeqK.r (b_load (r := .a _) rfl Fx.ty2 rfl rfl rfl rfl rfl rfl) rfl ?_
  refine SeqK.q (q_fieldL _ rfl Fx.fl89_4 rfl rfl) rfl rfl rfl ?_
  refine SeqK.r (b_load (r := .a _) rfl Fx.ty3 rfl rfl rfl rfl rfl rfl) rfl ?_
  refine SeqK.q (q_fieldL _ rfl Fx.fl89_5 rfl rfl) rfl rfl rfl ?_
  refine SeqK.r (b_load (r := .a _) rfl Fx.ty4 rfl rfl rfl rfl rfl rfl) rfl ?_
  refine SeqK.q (q_not rfl rfl) rfl rfl rfl ?_
  refine SeqK.q (q_build2 (zs := [_, _, _, _, _]) (r := [_, _, _, _, _]) [(0, 1), (1, 1), (2, 1), (3, 1), (4, 1)] _ rfl Fx.ze105 rfl Fx.bp105 rfl rfl rfl rfl) rfl rfl rfl ?_
  refine SeqK.q (q_buildSlice _ rfl Fx.el51 rfl (by decide) rfl) rfl rfl rfl ?_
  refine SeqK.app1 rfl (hkt) rfl Fx.el51 rfl rfl (by simp [hzs]; omega) rfl rfl (fun k32 hk32 => ?_)
  refine sA ?_
  refine SeqK.nil ?_
  refine AW.reg ?_
  refine sM ?_
  refine SeqK.q (q_add _ rfl rfl rfl (w64 (by omega) (by omega))) rfl rfl rfl ?_
  refine sA ?_
  refine SeqK.nil ?_
  exact ⟨i + 1, _, Wk.keep 34 [(1, .lp 1 0), (3, .c (.a (.ts (k32) .ne 5 (zs ++ [vrT (vrOf t.cols[i])])))), (4, iX .i64 (((i + 1) : Nat) : Int))] [(1, .box [.t (.v (.string t.nm)), .t (.sl .un 6 (t.cols.map coT)), .t (.sl .un 1 (t.keys.map iLT)), .t (.sl .un 3 (t.fks.map fkT)), .t (.sl .un 8 (t.chks.map exT'))])] (upd H (k32) (some (.tip 105 5 (zs ++ [vrT (vrOf t.cols[i])]).length))) rfl ⟨rfl, rfl, rfl, trivial⟩ ⟨rfl, trivial⟩ (fun _ _ h => h) rfl, by omega, k32, zs ++ [vrT (vrOf t.cols[i])], ⟨hi, hk32, by rw [hzs, take_put hi, List.map_append, List.map_append]; rfl⟩, rfl⟩
 refine AW.exit ?_
 refine eth_e ?_
 refine eth_e ?_
 refine exit_here ?_
 refine AW.seq ?_
 obtain rfl : i = t.cols.length := by rw [List.length_map] at h10; omega
 rw [List.take_length] at hzs
 refine AW.xw 3 rfl (XW.ts.trans (XW.es hzs)) ?_
 refine AW.reg ?_
 refine sM ?_
 refine sA ?_
 refine SeqK.nil ?_
 refine AW.ret ?_
 exact fin_x (x := .c _) (H) (.tmp rfl .nil) rfl ((fun j o h => upd_sub hkt j o h)) (⟨rfl, rfl⟩)

end Go.Proofs.Ytihlgigaejhilaa.W
namespace Go.Proofs.Ytihlgigaejhilaa.W
open Go.RowKit E
theorem few_nil (n : Int) : Pure Try.prog 37 [iC n, .a (.t (.v (.slice none 0 0)))] (.c (bC (decide (fewP n [])))) := Pure.arg (l := [iC n]) (r := []) (XW.nilU (sz := 1)) (few_any n [] .un (by simp))
abbrev ssD (t : Tb) : Prop := (t.keys.length ≤ 10 ∧ t.fks.length ≤ 10 ∧ smlP [⟨0, t.nm, t.cols, [], [], t.chks⟩]) ∧ (∀ j (h : j < t.keys.length), fewP (t.keys[j].length : Int) []) ∧ ∀ j (h : j < t.fks.length), fewP (t.fks[j].cols.length : Int) []
abbrev ssP (s : List Tb) : Prop := (∀ j (h : j < s.length), ssD s[j]) ∧ s.length ≤ 12
structure okT (t : Tb) : Prop where
  nm : t.nm.size ≤ 1000000000000000
  cols : t.cols.length ≤ 17592186044000
  colsn : ∀ c ∈ t.cols, c.nm.size ≤ 1000000000000000
  keys : t.keys.length ≤ 17592186044000
  keysl : ∀ k ∈ t.keys, k.length ≤ 17592186044000
  fks : t.fks.length ≤ 17592186044000
  fksl : ∀ f ∈ t.fks, f.cols.length ≤ 17592186044000
  chks : t.chks.length ≤ 17592186044000
  chkso : ∀ e ∈ t.chks, okE e
theorem okD_of {t : Tb} (h : okT t) : ∀ d ∈ [(⟨0, t.nm, t.cols, [], [], t.chks⟩ : Df)], okD d := fun d hd => by
  rw [List.mem_singleton.1 hd]
  exact ⟨h.nm, h.cols, h.colsn, by simp, by simp, by simp, by simp, by simp, by simp, h.chks, h.chkso⟩

set_option maxHeartbeats 8000000 in
set_option maxRecDepth 20000 in
theorem smallSchema_any (d : List Tb) (z : Nz) (hl : d.length ≤ 17592186044000) (hok : ∀ t ∈ d, okT t) : Pure Try.prog 22 [scC z d] (.c (bC (decide (ssP d)))) := by
 intro H
 refine Spec.enter Try.func22 rfl ?_
 refine AW.wk (Wk.keep 74 [(0, .c (scC z d))] [] (H) rfl ⟨rfl, trivial⟩ trivial (fun _ _ h => h) rfl) ?_
 refine sR ?_
 refine sA ?_
 refine SeqK.nil ?_
 refine AW.seq ?_
 refine sR ?_
 refine sA ?_
 refine SeqK.nil ?_
 refine AW.block ?_
 refine AW.loop (fun (i : Nat) s => (i ≤ d.length ∧ ∀ j (h : j < d.length), j < i → ssD d[j]) ∧ s = ⟨74, sp [(0, .c (scC z d)), (2, .c (bC false)), (3, iX .i64 ((i : Nat) : Int))], lv [], H⟩) (fun i => d.length - i) 0 ⟨_, Wk.keep 74 [(0, .c (scC z d)), (2, .c (bC false)), (3, iX .i64 ((((0 : Nat)) : Nat) : Int))] [] (H) rfl ⟨rfl, rfl, rfl, trivial⟩ trivial (fun _ _ h => h) rfl, ⟨Nat.zero_le _, up0⟩, rfl⟩ (fun i s hs => ?_)
 obtain ⟨⟨hi0, hU⟩, rfl⟩ := hs
 refine AW.seq ?_
 refine sR ?_
 refine sM ?_
 refine sM ?_
 refine SeqK.q (q_len rfl Fx.un35 rfl) rfl rfl rfl ?_
 refine SeqK.q (q_lss rfl rfl rfl) rfl rfl rfl ?_
 refine SeqK.nil ?_
 refine AW.condD rfl (fun h10 => ?_) (fun h10 => ?_)
 ·
  have hi : i < d.length := by rw [List.length_map] at h10; omega
  have hk := hok _ (List.getElem_mem hi)
  refine AW.skip ?_
  refine AW.seq ?_
  refine AW.block ?_
  refine sR ?_
  refine sM ?_
  refine sM ?_
  refine SeqK.q (q_index _ rfl Fx.sl35 rfl rfl (by omega) (idx_map (f := tbT) hi)) rfl rfl rfl ?_
  refine SeqK.q (q_load (.g [_, _, _, _, _]) rfl Fx.ty71 rfl rfl rfl) rfl rfl rfl ?_
  refine SeqK.r (b_alloc (r := [_, _, _, _, _]) rfl rfl Fx.ze71 rfl rfl rfl rfl) rfl ?_
  refine SeqK.r (b_store (r := [_, _, _, _, _]) rfl rfl Fx.ty71 rfl rfl rfl rfl rfl rfl) rfl ?_
  refine SeqK.nil ?_
  refine AW.seq ?_
  refine sR ?_
  refine SeqK.q (q_fieldL _ rfl Fx.fl71_2 rfl rfl) rfl rfl rfl ?_
  refine SeqK.r (b_load (r := .a _) rfl Fx.ty68 rfl rfl rfl rfl rfl rfl) rfl ?_
  refine SeqK.q (q_len rfl Fx.un68 rfl) rfl rfl rfl ?_
  refine SeqK.q (q_gtr rfl rfl rfl) rfl rfl rfl ?_
  refine SeqK.qD (q_mvC rfl rfl) rfl rfl rfl (fun g21 => ?_) (fun g21 => ?_)
  ·
   iterate 4 refine SeqK.off rfl rfl rfl rfl rfl rfl ?_
   refine SeqK.q (q_pkT rfl rfl rfl) rfl rfl rfl ?_
   refine sM ?_
   iterate 11 refine SeqK.off rfl rfl rfl rfl rfl rfl ?_
   refine SeqK.q (q_pkT rfl rfl rfl) rfl rfl rfl ?_
   refine SeqK.nil ?_
   refine AW.condT rfl ?_
   refine sR ?_
   refine sA ?_
   refine SeqK.nil ?_
   refine AW.ret ?_
   exact fin_x (x := .c _) (H) (.tmp rfl .nil) rfl (fun _ _ h => h) (⟨bCe (dF (fun h => by have h9 := (h.1 i hi).1; first | exact nd_t h39 h9.2.2 | (simp only [List.length_map] at *; omega))), rfl⟩)
  refine SeqK.on (q_fieldL _ rfl Fx.fl71_3 rfl rfl) rfl rfl rfl rfl rfl ?_
  refine SeqK.rOn (b_load (r := .a _) rfl Fx.ty69 rfl rfl rfl rfl rfl rfl) rfl rfl rfl ?_
  refine SeqK.on (q_len rfl Fx.un69 rfl) rfl rfl rfl rfl rfl ?_
  refine SeqK.on (q_gtr rfl rfl rfl) rfl rfl rfl rfl rfl ?_
  refine SeqK.q (q_pkF rfl rfl rfl) rfl rfl rfl ?_
  refine SeqK.qD (q_mvC rfl rfl) rfl rfl rfl (fun g27 => ?_) (fun g27 => ?_)
  ·
   iterate 11 refine SeqK.off rfl rfl rfl rfl rfl rfl ?_
   refine SeqK.q (q_pkT rfl rfl rfl) rfl rfl rfl ?_
   refine SeqK.nil ?_
   refine AW.condT rfl ?_
   refine sR ?_
   refine sA ?_
   refine SeqK.nil ?_
   refine AW.ret ?_
   exact fin_x (x := .c _) (H) (.tmp rfl .nil) rfl (fun _ _ h => h) (⟨bCe (dF (fun h => by have h9 := (h.1 i hi).1; first | exact nd_t h39 h9.2.2 | (simp only [List.length_map] at *; omega))), rfl⟩)
  refine SeqK.on (q_fieldL _ rfl Fx.fl71_0 rfl rfl) rfl rfl rfl rfl rfl ?_
  refine SeqK.rOn (b_load (r := .a _) rfl Fx.ty9 rfl rfl rfl rfl rfl rfl) rfl rfl rfl ?_
  refine SeqK.on (q_fieldL _ rfl Fx.fl71_1 rfl rfl) rfl rfl rfl rfl rfl ?_
  refine SeqK.rOn (b_load (r := .a _) rfl Fx.ty39 rfl rfl rfl rfl rfl rfl) rfl rfl rfl ?_
  refine SeqK.on (q_fieldL _ rfl Fx.fl71_4 rfl rfl) rfl rfl rfl rfl rfl ?_
  refine SeqK.rOn (b_load (r := .a _) rfl Fx.ty23 rfl rfl rfl rfl rfl rfl) rfl rfl rfl ?_
  refine SeqK.on (q_build2 (zs := [_, _, _, _]) (r := [_, _, _, _]) [(0, 1), (1, 1), (2, 1), (3, 1)] _ rfl Fx.ze43 rfl Fx.bp43 rfl rfl rfl rfl) rfl rfl rfl rfl rfl ?_
  refine SeqK.xw 34 rfl (XW.g (.cons XW.reA (.cons (XW.nilU (sz := 1)) (.cons (XW.nilU (sz := 3)) (.cons XW.reA .nil))))) ?_
  refine SeqK.on (q_build2 (zs := [_, _, _, _, _, _, _, _, _, _, _, _, _, _, _, _, _, _, _, _, _, _]) (r := [_, _, _, _, _, _, _, _, _, _, _, _, _, _, _, _, _, _, _, _, _, _]) [(0, 1), (1, 1), (2, 4), (6, 1), (7, 1), (8, 1), (9, 1), (10, 8), (18, 1), (19, 1), (20, 1), (21, 1)] _ rfl Fx.ze50 rfl Fx.bp50 rfl rfl rfl rfl) rfl rfl rfl rfl rfl ?_
  refine SeqK.on (q_buildSlice _ rfl Fx.el95 rfl (by decide) rfl) rfl rfl rfl rfl rfl ?_
  refine SeqK.on (q_call _ rfl Fx.fn36 rfl (small_any [⟨0, d[i].nm, d[i].cols, [], [], d[i].chks⟩] .nn (by simp) (okD_of hk)) rfl) rfl rfl rfl rfl rfl ?_
  refine SeqK.on (q_not rfl rfl) rfl rfl rfl rfl rfl ?_
  refine SeqK.q (q_pkF rfl rfl rfl) rfl rfl rfl ?_
  refine SeqK.nil ?_
  refine AW.cond _ rfl (fun h39 => ?_) (fun h39 => ?_)
  ·
   refine sR ?_
   refine sA ?_
   refine SeqK.nil ?_
   refine AW.ret ?_
   exact fin_x (x := .c _) (H) (.tmp rfl .nil) rfl (fun _ _ h => h) (⟨bCe (dF (fun h => by have h9 := (h.1 i hi).1; first | exact nd_t h39 h9.2.2 | (simp only [List.length_map] at *; omega))), rfl⟩)
  refine AW.skip ?_
  refine AW.seq ?_
  refine AW.seq ?_
  have hF : d[i].keys.length ≤ 10 ∧ d[i].fks.length ≤ 10 := by simp only [List.length_map] at *; omega
  have hS := nd_f h39
  refine AW.reg ?_
  refine sA ?_
  refine SeqK.nil ?_
  refine AW.block ?_
  refine AW.loop (fun (j : Nat) s => (j ≤ d[i].keys.length ∧ ∀ k (h : k < d[i].keys.length), k < j → fewP (d[i].keys[k].length : Int) []) ∧ s = ⟨74, sp [(0, .c (scC z d)), (2, .c (bC false)), (3, iX .i64 ((i : Nat) : Int)), (4, .lp 4 0), (5, iX .i64 ((j : Nat) : Int))], lv [(4, .box [.t (.v (.string d[i].nm)), .t (.sl .un 6 (d[i].cols.map coT)), .t (.sl .un 1 (d[i].keys.map iLT)), .t (.sl .un 3 (d[i].fks.map fkT)), .t (.sl .un 8 (d[i].chks.map exT'))])], H⟩) (fun j => d[i].keys.length - j) 0 ⟨_, Wk.keep 74 [(0, .c (scC z d)), (2, .c (bC false)), (3, iX .i64 ((i : Nat) : Int)), (4, .lp 4 0), (5, iX .i64 ((((0 : Nat)) : Nat) : Int))] [(4, .box [.t (.v (.string d[i].nm)), .t (.sl .un 6 (d[i].cols.map coT)), .t (.sl .un 1 (d[i].keys.map iLT)), .t (.sl .un 3 (d[i].fks.map fkT)), .t (.sl .un 8 (d[i].chks.map exT'))])] (H) rfl ⟨rfl, rfl, rfl, rfl, rfl, trivial⟩ ⟨rfl, trivial⟩ (fun _ _ h => h) rfl, ⟨Nat.zero_le _, up0⟩, rfl⟩ (fun j s hs => ?_)
  obtain ⟨⟨hj0, hU1⟩, rfl⟩ := hs
  refine AW.seq ?_
  refine sR ?_
  refine sM ?_
  refine SeqK.q (q_fieldL _ rfl Fx.fl71_2 rfl rfl) rfl rfl rfl ?_
  refine SeqK.r (b_load (r := .a _) rfl Fx.ty68 rfl rfl rfl rfl rfl rfl) rfl ?_
  refine SeqK.q (q_len rfl Fx.un68 rfl) rfl rfl rfl ?_
  refine SeqK.q (q_lss rfl rfl rfl) rfl rfl rfl ?_
  refine SeqK.nil ?_
  refine AW.condD rfl (fun h44 => ?_) (fun h44 => ?_)
  ·
   have hj : j < d[i].keys.length := by rw [List.length_map] at h44; omega
   refine AW.skip ?_
   refine AW.seq ?_
   refine AW.block ?_
   refine sR ?_
   refine SeqK.q (q_fieldL _ rfl Fx.fl71_2 rfl rfl) rfl rfl rfl ?_
   refine SeqK.r (b_load (r := .a _) rfl Fx.ty68 rfl rfl rfl rfl rfl rfl) rfl ?_
   refine sM ?_
   refine SeqK.q (q_index _ rfl Fx.sl68 rfl rfl (by omega) (idx_map (f := iLT) hj)) rfl rfl rfl ?_
   refine SeqK.q (q_load (.a _) rfl Fx.ty22 rfl rfl rfl) rfl rfl rfl ?_
   refine SeqK.q (q_len rfl Fx.un22 rfl) rfl rfl rfl ?_
   refine SeqK.q (q_call _ rfl Fx.fn37 rfl (few_nil _) rfl) rfl rfl rfl ?_
   refine SeqK.q (q_not rfl rfl) rfl rfl rfl ?_
   refine SeqK.nil ?_
   refine AW.cond _ rfl (fun h54 => ?_) (fun h54 => ?_)
   ·
    refine sR ?_
    refine sA ?_
    refine SeqK.nil ?_
    refine AW.ret ?_
    exact fin_x (x := .c _) (H) (.tmp rfl .nil) rfl (fun _ _ h => h) (⟨bCe (dF (fun h => nd_t h54 (by have h9 := (h.1 i hi).2.1 j hj; rw [List.length_map]; exact h9))), rfl⟩)
   refine AW.skip ?_
   refine AW.reg ?_
   refine sM ?_
   refine SeqK.q (q_add _ rfl rfl rfl (w64 (by omega) (by omega))) rfl rfl rfl ?_
   refine sA ?_
   refine SeqK.nil ?_
   exact ⟨j + 1, _, Wk.keep 74 [(0, .c (scC z d)), (2, .c (bC false)), (3, iX .i64 ((i : Nat) : Int)), (4, .lp 4 0), (5, iX .i64 (((j + 1) : Nat) : Int))] [(4, .box [.t (.v (.string d[i].nm)), .t (.sl .un 6 (d[i].cols.map coT)), .t (.sl .un 1 (d[i].keys.map iLT)), .t (.sl .un 3 (d[i].fks.map fkT)), .t (.sl .un 8 (d[i].chks.map exT'))])] (H) rfl ⟨rfl, rfl, rfl, rfl, rfl, trivial⟩ ⟨rfl, trivial⟩ (fun _ _ h => h) rfl, by omega, ⟨hj, upS hj hU1 (by have h9 := nd_f h54; rw [List.length_map] at h9; exact h9)⟩, rfl⟩
  refine AW.exit ?_
  refine eth_e ?_
  refine eth_e ?_
  refine exit_here ?_
  refine AW.seq ?_
  have hA := upE hU1 (by rw [List.length_map] at h44; omega)
  refine AW.reg ?_
  refine sA ?_
  refine SeqK.nil ?_
  refine AW.block ?_
  refine AW.loop (fun (j : Nat) s => (j ≤ d[i].fks.length ∧ ∀ k (h : k < d[i].fks.length), k < j → fewP (d[i].fks[k].cols.length : Int) []) ∧ s = ⟨74, sp [(0, .c (scC z d)), (2, .c (bC false)), (3, iX .i64 ((i : Nat) : Int)), (4, .lp 4 0), (6, iX .i64 ((j : Nat) : Int))], lv [(4, .box [.t (.v (.string d[i].nm)), .t (.sl .un 6 (d[i].cols.map coT)), .t (.sl .un 1 (d[i].keys.map iLT)), .t (.sl .un 3 (d[i].fks.map fkT)), .t (.sl .un 8 (d[i].chks.map exT'))])], H⟩) (fun j => d[i].fks.length - j) 0 ⟨_, Wk.keep 74 [(0, .c (scC z d)), (2, .c (bC false)), (3, iX .i64 ((i : Nat) : Int)), (4, .lp 4 0), (6, iX .i64 ((((0 : Nat)) : Nat) : Int))] [(4, .box [.t (.v (.string d[i].nm)), .t (.sl .un 6 (d[i].cols.map coT)), .t (.sl .un 1 (d[i].keys.map iLT)), .t (.sl .un 3 (d[i].fks.map fkT)), .t (.sl .un 8 (d[i].chks.map exT'))])] (H) rfl ⟨rfl, rfl, rfl, rfl, rfl, trivial⟩ ⟨rfl, trivial⟩ (fun _ _ h => h) rfl, ⟨Nat.zero_le _, up0⟩, rfl⟩ (fun j s hs => ?_)
  obtain ⟨⟨hj0, hU2⟩, rfl⟩ := hs
  refine AW.seq ?_
  refine sR ?_
  refine sM ?_
  refine SeqK.q (q_fieldL _ rfl Fx.fl71_3 rfl rfl) rfl rfl rfl ?_
  refine SeqK.r (b_load (r := .a _) rfl Fx.ty69 rfl rfl rfl rfl rfl rfl) rfl ?_
  refine SeqK.q (q_len rfl Fx.un69 rfl) rfl rfl rfl ?_
  refine SeqK.q (q_lss rfl rfl rfl) rfl rfl rfl ?_
  refine SeqK.nil ?_
  refine AW.condD rfl (fun h59 => ?_) (fun h59 => ?_)
  ·
   have hj : j < d[i].fks.length := by rw [List.length_map] at h59; omega
   refine AW.skip ?_
   refine AW.seq ?_
   refine AW.block ?_
   refine sR ?_
   refine SeqK.q (q_fieldL _ rfl Fx.fl71_3 rfl rfl) rfl rfl rfl ?_
   refine SeqK.r (b_load (r := .a _) rfl Fx.ty69 rfl rfl rfl rfl rfl rfl) rfl ?_
   refine sM ?_
   refine SeqK.q (q_index _ rfl Fx.sl69 rfl rfl (by omega) (idx_map (f := fkT) hj)) rfl rfl rfl ?_
   refine SeqK.q (q_fieldP _ rfl Fx.fl98_0 rfl rfl) rfl rfl rfl ?_
   refine SeqK.q (q_load (.a _) rfl Fx.ty22 rfl rfl rfl) rfl rfl rfl ?_
   refine SeqK.q (q_len rfl Fx.un22 rfl) rfl rfl rfl ?_
   refine SeqK.q (q_call _ rfl Fx.fn37 rfl (few_nil _) rfl) rfl rfl rfl ?_
   refine SeqK.q (q_not rfl rfl) rfl rfl rfl ?_
   refine SeqK.nil ?_
   refine AW.cond _ rfl (fun h70 => ?_) (fun h70 => ?_)
   ·
    refine sR ?_
    refine sA ?_
    refine SeqK.nil ?_
    refine AW.ret ?_
    exact fin_x (x := .c _) (H) (.tmp rfl .nil) rfl (fun _ _ h => h) (⟨bCe (dF (fun h => nd_t h70 (by have h9 := (h.1 i hi).2.2 j hj; rw [List.length_map]; exact h9))), rfl⟩)
   refine AW.skip ?_
   refine AW.reg ?_
   refine sM ?_
   refine SeqK.q (q_add _ rfl rfl rfl (w64 (by omega) (by omega))) rfl rfl rfl ?_
   refine sA ?_
   refine SeqK.nil ?_
   exact ⟨j + 1, _, Wk.keep 74 [(0, .c (scC z d)), (2, .c (bC false)), (3, iX .i64 ((i : Nat) : Int)), (4, .lp 4 0), (6, iX .i64 (((j + 1) : Nat) : Int))] [(4, .box [.t (.v (.string d[i].nm)), .t (.sl .un 6 (d[i].cols.map coT)), .t (.sl .un 1 (d[i].keys.map iLT)), .t (.sl .un 3 (d[i].fks.map fkT)), .t (.sl .un 8 (d[i].chks.map exT'))])] (H) rfl ⟨rfl, rfl, rfl, rfl, rfl, trivial⟩ ⟨rfl, trivial⟩ (fun _ _ h => h) rfl, by omega, ⟨hj, upS hj hU2 (by have h9 := nd_f h70; rw [List.length_map] at h9; exact h9)⟩, rfl⟩
  refine AW.exit ?_
  refine eth_e ?_
  refine eth_e ?_
  refine exit_here ?_
  have hB := upE hU2 (by rw [List.length_map] at h59; omega)
  refine AW.reg ?_
  refine sM ?_
  refine SeqK.q (q_add _ rfl rfl rfl (w64 (by omega) (by omega))) rfl rfl rfl ?_
  refine sA ?_
  refine SeqK.nil ?_
  exact ⟨i + 1, _, Wk.keep 74 [(0, .c (scC z d)), (2, .c (bC false)), (3, iX .i64 (((i + 1) : Nat) : Int))] [] (H) rfl ⟨rfl, rfl, rfl, trivial⟩ trivial (fun _ _ h => h) rfl, by omega, ⟨hi, upS hi hU (⟨⟨hF.1, hF.2, hS⟩, hA, hB⟩)⟩, rfl⟩
 refine AW.exit ?_
 refine eth_e ?_
 refine eth_e ?_
 refine exit_here ?_
 refine AW.seq ?_
 have hW := upE hU (by rw [List.length_map] at h10; omega)
 refine AW.reg ?_
 refine sM ?_
 refine SeqK.q (q_len rfl Fx.un35 rfl) rfl rfl rfl ?_
 refine SeqK.q (q_leq rfl rfl rfl) rfl rfl rfl ?_
 refine sA ?_
 refine SeqK.nil ?_
 refine AW.ret ?_
 exact fin_x (x := .c _) (H) (.tmp rfl .nil) rfl (fun _ _ h => h) (⟨bCe (dI ⟨fun h => ⟨hW, by rw [List.length_map] at h; omega⟩, fun h => by have := h.2; rw [List.length_map]; omega⟩), rfl⟩)

end Go.Proofs.Ytihlgigaejhilaa.W
