/- Parts of the proof, one after the other: W26, W27, W28, W29, W30, W31, W32, W33, W34, W35. No condition. -/
import Derived.Test.YtihlgigaejhilaaM18
set_option linter.unusedSectionVars false
set_option linter.unusedSimpArgs false
set_option linter.unusedVariables false
namespace Go.Proofs.Ytihlgigaejhilaa.W
open Go.RowKit E
/-! comparisons that give keys and bounds -/
abbrev sameB (n : Int) : Bool := decide (n = 10)
abbrev lowB (n : Int) : Bool := decide (n = 15 ∨ n = 14)
abbrev uppB (n : Int) : Bool := decide (n = 13 ∨ n = 12)
abbrev isVP (a : Ex) (v : Int) : Prop := a.op = 2 ∧ a.ix = v
def gvB (e : Ex) (v : Int) (key : Ex) (lt rt : Int → Bool) : Bool :=
  if h : e.args.length = 2 then (lt e.op && (decide (isVP e.args[0] v) && decide (e.args[1] = key))) || (rt e.op && (decide (isVP e.args[1] v) && decide (e.args[0] = key))) else false

set_option maxRecDepth 20000 in
theorem same_fn (n : Int) : Pure Try.prog 49 [iC n] (.c (bC (sameB n))) := by
 intro H
 refine Spec.enter Try.func49 rfl ?_
 refine AW.wk (Wk.keep 5 [(0, .c (iC n))] [] (H) rfl ⟨rfl, trivial⟩ trivial (fun _ _ h => h) rfl) ?_
 refine sR ?_
 refine sA ?_
 refine SeqK.nil ?_
 refine sR ?_
 refine sM ?_
 refine SeqK.q (q_eql rfl rfl rfl) rfl rfl rfl ?_
 refine sA ?_
 refine SeqK.nil ?_
 refine AW.ret ?_
 exact fin_x (x := .c _) (H) (.tmp rfl .nil) rfl (fun _ _ h => h) (⟨rfl, rfl⟩)

set_option maxRecDepth 20000 in
theorem low_fn (n : Int) : Pure Try.prog 50 [iC n] (.c (bC (lowB n))) := by
 intro H
 refine Spec.enter Try.func50 rfl ?_
 refine AW.wk (Wk.keep 9 [(0, .c (iC n))] [] (H) rfl ⟨rfl, trivial⟩ trivial (fun _ _ h => h) rfl) ?_
 refine sR ?_
 refine sA ?_
 refine SeqK.nil ?_
 refine sR ?_
 refine sM ?_
 refine SeqK.q (q_eql rfl rfl rfl) rfl rfl rfl ?_
 refine SeqK.qD (q_mvC rfl rfl) rfl rfl rfl (fun g5 => ?_) (fun g5 => ?_)
 ·
  iterate 2 refine SeqK.off rfl rfl rfl rfl rfl rfl ?_
  refine SeqK.q (q_pkT rfl rfl rfl) rfl rfl rfl ?_
  refine sA ?_
  refine SeqK.nil ?_
  refine AW.ret ?_
  exact fin_x (x := .c _) (H) (.tmp rfl .nil) rfl (fun _ _ h => h) (⟨bCe (by first | exact dT (.inl g5) | exact dI ⟨.inr, fun h => h.resolve_left g5⟩), rfl⟩)
 refine SeqK.on (q_mvC rfl rfl) rfl rfl rfl rfl rfl ?_
 refine SeqK.on (q_eql rfl rfl rfl) rfl rfl rfl rfl rfl ?_
 refine SeqK.q (q_pkF rfl rfl rfl) rfl rfl rfl ?_
 refine sA ?_
 refine SeqK.nil ?_
 refine AW.ret ?_
 exact fin_x (x := .c _) (H) (.tmp rfl .nil) rfl (fun _ _ h => h) (⟨bCe (by first | exact dT (.inl g5) | exact dI ⟨.inr, fun h => h.resolve_left g5⟩), rfl⟩)

set_option maxRecDepth 20000 in
theorem upp_fn (n : Int) : Pure Try.prog 51 [iC n] (.c (bC (uppB n))) := by
 intro H
 refine Spec.enter Try.func51 rfl ?_
 refine AW.wk (Wk.keep 9 [(0, .c (iC n))] [] (H) rfl ⟨rfl, trivial⟩ trivial (fun _ _ h => h) rfl) ?_
 refine sR ?_
 refine sA ?_
 refine SeqK.nil ?_
 refine sR ?_
 refine sM ?_
 refine SeqK.q (q_eql rfl rfl rfl) rfl rfl rfl ?_
 refine SeqK.qD (q_mvC rfl rfl) rfl rfl rfl (fun g5 => ?_) (fun g5 => ?_)
 ·
  iterate 2 refine SeqK.off rfl rfl rfl rfl rfl rfl ?_
  refine SeqK.q (q_pkT rfl rfl rfl) rfl rfl rfl ?_
  refine sA ?_
  refine SeqK.nil ?_
  refine AW.ret ?_
  exact fin_x (x := .c _) (H) (.tmp rfl .nil) rfl (fun _ _ h => h) (⟨bCe (by first | exact dT (.inl g5) | exact dI ⟨.inr, fun h => h.resolve_left g5⟩), rfl⟩)
 refine SeqK.on (q_mvC rfl rfl) rfl rfl rfl rfl rfl ?_
 refine SeqK.on (q_eql rfl rfl rfl) rfl rfl rfl rfl rfl ?_
 refine SeqK.q (q_pkF rfl rfl rfl) rfl rfl rfl ?_
 refine sA ?_
 refine SeqK.nil ?_
 refine AW.ret ?_
 exact fin_x (x := .c _) (H) (.tmp rfl .nil) rfl (fun _ _ h => h) (⟨bCe (by first | exact dT (.inl g5) | exact dI ⟨.inr, fun h => h.resolve_left g5⟩), rfl⟩)

set_option maxHeartbeats 8000000 in
set_option maxRecDepth 20000 in
theorem isV_any (H : Heap) (k : Nat) (v : Int) (hk : H k = some (.box [.t (.v (.int .i64 v))])) (a : Ex) : E.Spec Try.prog 70 [exC a, .a (.bp k 0)] H fun x H' => x = .c (bC (decide (isVP a v))) ∧ H' = H := by
 refine Spec.enter Try.func70 rfl ?_
 refine AW.wk (Wk.keep 13 [(0, .c (exC a)), (1, .c (.a (.bp k 0)))] [] (H) rfl ⟨rfl, rfl, trivial⟩ trivial (fun _ _ h => h) rfl) ?_
 refine sR ?_
 refine SeqK.r (b_box (r := [_, _, _, _, _, _, _, _]) rfl rfl rfl rfl rfl rfl) rfl ?_
 refine sA ?_
 refine SeqK.nil ?_
 refine sR ?_
 refine SeqK.q (q_fieldL _ rfl Fx.fl27_0 rfl rfl) rfl rfl rfl ?_
 refine SeqK.r (b_load (r := .a _) rfl Fx.ty3 rfl rfl rfl rfl rfl rfl) rfl ?_
 refine SeqK.q (q_eql rfl rfl rfl) rfl rfl rfl ?_
 refine SeqK.qD (q_mvC rfl rfl) rfl rfl rfl (fun g7 => ?_) (fun g7 => ?_)
 ·
  refine SeqK.on (q_fieldL _ rfl Fx.fl27_3 rfl rfl) rfl rfl rfl rfl rfl ?_
  refine SeqK.rOn (b_load (r := .a _) rfl Fx.ty3 rfl rfl rfl rfl rfl rfl) rfl rfl rfl ?_
  refine SeqK.rOn (g_load (r := .a _) rfl Fx.ty3 rfl (by (repeat rw [upd_ne _ _ (by first | assumption | exact Ne.symm (by assumption))]); first | assumption | exact upd_same _ _ _) rfl rfl rfl rfl) rfl rfl rfl ?_
  refine SeqK.on (q_eql rfl rfl rfl) rfl rfl rfl rfl rfl ?_
  refine SeqK.q (q_pkT rfl rfl rfl) rfl rfl rfl ?_
  refine sA ?_
  refine SeqK.nil ?_
  refine AW.ret ?_
  exact fin_x (x := .c _) (H) (.tmp rfl .nil) rfl (fun _ _ h => h) (⟨bCe (by first | exact dI ⟨fun h => ⟨g7, h⟩, fun h => h.2⟩ | exact dF (fun h => g7 h.1)), rfl⟩)
 iterate 4 refine SeqK.off rfl rfl rfl rfl rfl rfl ?_
 refine SeqK.q (q_pkF rfl rfl rfl) rfl rfl rfl ?_
 refine sA ?_
 refine SeqK.nil ?_
 refine AW.ret ?_
 exact fin_x (x := .c _) (H) (.tmp rfl .nil) rfl (fun _ _ h => h) (⟨bCe (by first | exact dI ⟨fun h => ⟨g7, h⟩, fun h => h.2⟩ | exact dF (fun h => g7 h.1)), rfl⟩)

set_option maxHeartbeats 8000000 in
set_option maxRecDepth 20000 in
theorem gives_any (H : Heap) (fl fr : FuncId) (lt rt : Int → Bool) (hfl : fnB Try.prog fl = true) (hfr : fnB Try.prog fr = true) (hl : ∀ n, Pure Try.prog fl [iC n] (.c (bC (lt n)))) (hr : ∀ n, Pure Try.prog fr [iC n] (.c (bC (rt n)))) (e : Ex) (v : Int) (key : Ex) (ho : okE e) : E.Spec Try.prog 55 [exC e, iC v, exC key, .a (.fn fl []), .a (.fn fr [])] H fun x H' => x = .c (bC (gvB e v key lt rt)) ∧ H' = H := by
 refine Spec.enter Try.func55 rfl ?_
 refine AW.wk (Wk.keep 59 [(0, .c (exC e)), (1, .c (iC v)), (2, .c (exC key)), (3, .c (.a (.fn fl []))), (4, .c (.a (.fn fr [])))] [] (H) rfl ⟨rfl, rfl, rfl, rfl, rfl, trivial⟩ trivial (fun _ _ h => h) rfl) ?_
 refine sR ?_
 refine SeqK.r (b_box (r := [_, _, _, _, _, _, _, _]) rfl rfl rfl rfl rfl rfl) rfl ?_
 refine SeqK.newBox (r := [_]) rfl rfl rfl rfl rfl rfl (fun k6 hk6 => ?_)
 refine SeqK.r (b_box (r := [_, _, _, _, _, _, _, _]) rfl rfl rfl rfl rfl rfl) rfl ?_
 refine sA ?_
 refine SeqK.nil ?_
 refine sR ?_
 refine SeqK.q (q_mkFn rfl rfl rfl) rfl rfl rfl ?_
 refine sA ?_
 refine SeqK.nil ?_
 refine AW.seq ?_
 refine sR ?_
 refine SeqK.q (q_fieldL _ rfl Fx.fl27_5 rfl rfl) rfl rfl rfl ?_
 refine SeqK.r (b_load (r := .a _) rfl Fx.ty23 rfl rfl rfl rfl rfl rfl) rfl ?_
 refine SeqK.q (q_len rfl Fx.un23 rfl) rfl rfl rfl ?_
 refine SeqK.q (q_neq rfl rfl rfl) rfl rfl rfl ?_
 refine SeqK.nil ?_
 refine AW.condD rfl (fun h16 => ?_) (fun h16 => ?_)
 ·
  refine sR ?_
  refine sA ?_
  refine SeqK.nil ?_
  refine AW.ret ?_
  exact fin_x (x := .c _) (H) (.tmp rfl .nil) rfl ((fun j o h => upd_sub hk6 j o h)) (⟨bCe (by rw [gvB, dif_neg (by rw [List.length_map] at h16; omega)]), rfl⟩)
 refine AW.skip ?_
 refine AW.seq ?_
 have h2 : e.args.length = 2 := by rw [List.length_map] at h16; omega
 have hi0 : 0 < e.args.length := by omega
 have hi1 : 1 < e.args.length := by omega
 obtain ⟨_, ha⟩ := okE_iff.1 ho
 have hgv : gvB e v key lt rt = ((lt e.op && (decide (isVP e.args[0] v) && decide (e.args[1] = key))) || (rt e.op && (decide (isVP e.args[1] v) && decide (e.args[0] = key)))) := dif_pos h2
 refine AW.draw Fx.mo ?_
 refine LexK.q (q_mvC rfl rfl) rfl rfl rfl ?_
 refine LexK.q (q_fieldL _ rfl Fx.fl27_0 rfl rfl) rfl rfl rfl ?_
 refine LexK.r (b_load (r := .a _) rfl Fx.ty3 rfl rfl rfl rfl rfl rfl) rfl ?_
 refine LexK.r (g_callV (f := fl) (cs := []) rfl rfl hfl rfl (hl _ _) rfl rfl rfl) rfl ?_
 refine LexK.qB (q_mvC rfl rfl) rfl rfl rfl (fun g21 => ?_) (fun g21 => ?_)
 ·
  refine LexK.on (q_mvC rfl rfl) rfl rfl rfl rfl rfl ?_
  refine LexK.on (q_fieldL _ rfl Fx.fl27_5 rfl rfl) rfl rfl rfl rfl rfl ?_
  refine LexK.rOn (b_load (r := .a _) rfl Fx.ty23 rfl rfl rfl rfl rfl rfl) rfl rfl rfl ?_
  refine LexK.on (q_index _ rfl Fx.sl23 rfl rfl (by omega) (idx_ex hi0)) rfl rfl rfl rfl rfl ?_
  refine LexK.on (q_load (.g [_, _, _, _, _, _, _, _]) rfl Fx.ty27 rfl rfl rfl) rfl rfl rfl rfl rfl ?_
  refine LexK.rOn (g_callV (f := 70) (cs := [.bp k6 0]) rfl rfl Fx.fn70 rfl (isV_any _ k6 v (upd_same _ _ _) _) rfl rfl rfl) rfl rfl rfl ?_
  refine LexK.q (q_pkT rfl rfl rfl) rfl rfl rfl ?_
  refine LexK.qB (q_mvC rfl rfl) rfl rfl rfl (fun g29 => ?_) (fun g29 => ?_)
  ·
   refine LexK.on (q_fieldL _ rfl Fx.fl27_5 rfl rfl) rfl rfl rfl rfl rfl ?_
   refine LexK.rOn (b_load (r := .a _) rfl Fx.ty23 rfl rfl rfl rfl rfl rfl) rfl rfl rfl ?_
   refine LexK.on (q_index _ rfl Fx.sl23 rfl rfl (by omega) (idx_ex hi1)) rfl rfl rfl rfl rfl ?_
   refine LexK.on (q_load (.g [_, _, _, _, _, _, _, _]) rfl Fx.ty27 rfl rfl rfl) rfl rfl rfl rfl rfl ?_
   refine LexK.rOn (b_load (r := .g [_, _, _, _, _, _, _, _]) rfl Fx.ty27 rfl rfl rfl rfl rfl rfl) rfl rfl rfl ?_
   refine LexK.on (q_call _ rfl Fx.fn48 rfl (equal_any _ _ (ha _ (List.getElem_mem hi1))) rfl) rfl rfl rfl rfl rfl ?_
   refine LexK.q (q_pkT rfl rfl rfl) rfl rfl rfl ?_
   refine LexK.qB (q_mvC rfl rfl) rfl rfl rfl (fun g37 => ?_) (fun g37 => ?_)
   ·
    iterate 5 refine LexK.off rfl rfl rfl rfl rfl rfl ?_
    iterate 6 refine LexK.offU rfl rfl rfl rfl rfl ?_
    iterate 2 refine LexK.off rfl rfl rfl rfl rfl rfl ?_
    iterate 6 refine LexK.offU rfl rfl rfl rfl rfl ?_
    refine LexK.off rfl rfl rfl rfl rfl rfl ?_
    refine LexK.q (q_pkT rfl rfl rfl) rfl rfl rfl ?_
    refine LexK.q (q_asC rfl rfl) rfl rfl rfl ?_
    refine LexK.nil (by kernel_rfl) ?_
    refine AW.ret ?_
    exact fin_x (x := .c _) (H) (.tmp rfl .nil) rfl ((fun j o h => upd_sub hk6 j o h)) (⟨bCe (by rw [hgv]; simp [*]), rfl⟩)
   refine LexK.on (q_mvC rfl rfl) rfl rfl rfl rfl rfl ?_
   refine LexK.on (q_fieldL _ rfl Fx.fl27_0 rfl rfl) rfl rfl rfl rfl rfl ?_
   refine LexK.rOn (b_load (r := .a _) rfl Fx.ty3 rfl rfl rfl rfl rfl rfl) rfl rfl rfl ?_
   refine LexK.rOn (g_callV (f := fr) (cs := []) rfl rfl hfr rfl (hr _ _) rfl rfl rfl) rfl rfl rfl ?_
   refine LexK.onB (q_mvC rfl rfl) rfl rfl rfl rfl rfl (fun g42 => ?_) (fun g42 => ?_)
   ·
    refine LexK.on (q_mvC rfl rfl) rfl rfl rfl rfl rfl ?_
    refine LexK.on (q_fieldL _ rfl Fx.fl27_5 rfl rfl) rfl rfl rfl rfl rfl ?_
    refine LexK.rOn (b_load (r := .a _) rfl Fx.ty23 rfl rfl rfl rfl rfl rfl) rfl rfl rfl ?_
    refine LexK.on (q_index _ rfl Fx.sl23 rfl rfl (by omega) (idx_ex hi1)) rfl rfl rfl rfl rfl ?_
    refine LexK.on (q_load (.g [_, _, _, _, _, _, _, _]) rfl Fx.ty27 rfl rfl rfl) rfl rfl rfl rfl rfl ?_
    refine LexK.rOn (g_callV (f := 70) (cs := [.bp k6 0]) rfl rfl Fx.fn70 rfl (isV_any _ k6 v (upd_same _ _ _) _) rfl rfl rfl) rfl rfl rfl ?_
    refine LexK.on (q_pkT rfl rfl rfl) rfl rfl rfl rfl rfl ?_
    refine LexK.onB (q_mvC rfl rfl) rfl rfl rfl rfl rfl (fun g50 => ?_) (fun g50 => ?_)
    ·
     refine LexK.on (q_fieldL _ rfl Fx.fl27_5 rfl rfl) rfl rfl rfl rfl rfl ?_
     refine LexK.rOn (b_load (r := .a _) rfl Fx.ty23 rfl rfl rfl rfl rfl rfl) rfl rfl rfl ?_
     refine LexK.on (q_index _ rfl Fx.sl23 rfl rfl (by omega) (idx_ex hi0)) rfl rfl rfl rfl rfl ?_
     refine LexK.on (q_load (.g [_, _, _, _, _, _, _, _]) rfl Fx.ty27 rfl rfl rfl) rfl rfl rfl rfl rfl ?_
     refine LexK.rOn (b_load (r := .g [_, _, _, _, _, _, _, _]) rfl Fx.ty27 rfl rfl rfl rfl rfl rfl) rfl rfl rfl ?_
     refine LexK.on (q_call _ rfl Fx.fn48 rfl (equal_any _ _ (ha _ (List.getElem_mem hi0))) rfl) rfl rfl rfl rfl rfl ?_
     refine LexK.on (q_pkT rfl rfl rfl) rfl rfl rfl rfl rfl ?_
     refine LexK.q (q_pkF rfl rfl rfl) rfl rfl rfl ?_
     refine LexK.q (q_asC rfl rfl) rfl rfl rfl ?_
     refine LexK.nil (by kernel_rfl) ?_
     refine AW.ret ?_
     exact fin_x (x := .c _) (H) (.tmp rfl .nil) rfl ((fun j o h => upd_sub hk6 j o h)) (⟨bCe (by rw [hgv]; simp [*]), rfl⟩)
    iterate 6 refine LexK.off rfl rfl rfl rfl rfl rfl ?_
    refine LexK.on (q_pkF rfl rfl rfl) rfl rfl rfl rfl rfl ?_
    refine LexK.q (q_pkF rfl rfl rfl) rfl rfl rfl ?_
    refine LexK.q (q_asC rfl rfl) rfl rfl rfl ?_
    refine LexK.nil (by kernel_rfl) ?_
    refine AW.ret ?_
    exact fin_x (x := .c _) (H) (.tmp rfl .nil) rfl ((fun j o h => upd_sub hk6 j o h)) (⟨bCe (by rw [hgv]; simp [*]), rfl⟩)
   iterate 6 refine LexK.off rfl rfl rfl rfl rfl rfl ?_
   refine LexK.on (q_pkF rfl rfl rfl) rfl rfl rfl rfl rfl ?_
   refine LexK.on (q_mvC rfl rfl) rfl rfl rfl rfl rfl ?_
   iterate 6 refine LexK.off rfl rfl rfl rfl rfl rfl ?_
   refine LexK.on (q_pkF rfl rfl rfl) rfl rfl rfl rfl rfl ?_
   refine LexK.q (q_pkF rfl rfl rfl) rfl rfl rfl ?_
   refine LexK.q (q_asC rfl rfl) rfl rfl rfl ?_
   refine LexK.nil (by kernel_rfl) ?_
   refine AW.ret ?_
   exact fin_x (x := .c _) (H) (.tmp rfl .nil) rfl ((fun j o h => upd_sub hk6 j o h)) (⟨bCe (by rw [hgv]; simp [*]), rfl⟩)
  iterate 6 refine LexK.off rfl rfl rfl rfl rfl rfl ?_
  refine LexK.q (q_pkF rfl rfl rfl) rfl rfl rfl ?_
  refine LexK.q (q_mvC rfl rfl) rfl rfl rfl ?_
  refine LexK.on (q_mvC rfl rfl) rfl rfl rfl rfl rfl ?_
  refine LexK.on (q_fieldL _ rfl Fx.fl27_0 rfl rfl) rfl rfl rfl rfl rfl ?_
  refine LexK.rOn (b_load (r := .a _) rfl Fx.ty3 rfl rfl rfl rfl rfl rfl) rfl rfl rfl ?_
  refine LexK.rOn (g_callV (f := fr) (cs := []) rfl rfl hfr rfl (hr _ _) rfl rfl rfl) rfl rfl rfl ?_
  refine LexK.onB (q_mvC rfl rfl) rfl rfl rfl rfl rfl (fun g42 => ?_) (fun g42 => ?_)
  ·
   refine LexK.on (q_mvC rfl rfl) rfl rfl rfl rfl rfl ?_
   refine LexK.on (q_fieldL _ rfl Fx.fl27_5 rfl rfl) rfl rfl rfl rfl rfl ?_
   refine LexK.rOn (b_load (r := .a _) rfl Fx.ty23 rfl rfl rfl rfl rfl rfl) rfl rfl rfl ?_
   refine LexK.on (q_index _ rfl Fx.sl23 rfl rfl (by omega) (idx_ex hi1)) rfl rfl rfl rfl rfl ?_
   refine LexK.on (q_load (.g [_, _, _, _, _, _, _, _]) rfl Fx.ty27 rfl rfl rfl) rfl rfl rfl rfl rfl ?_
   refine LexK.rOn (g_callV (f := 70) (cs := [.bp k6 0]) rfl rfl Fx.fn70 rfl (isV_any _ k6 v (upd_same _ _ _) _) rfl rfl rfl) rfl rfl rfl ?_
   refine LexK.on (q_pkT rfl rfl rfl) rfl rfl rfl rfl rfl ?_
   refine LexK.onB (q_mvC rfl rfl) rfl rfl rfl rfl rfl (fun g50 => ?_) (fun g50 => ?_)
   ·
    refine LexK.on (q_fieldL _ rfl Fx.fl27_5 rfl rfl) rfl rfl rfl rfl rfl ?_
    refine LexK.rOn (b_load (r := .a _) rfl Fx.ty23 rfl rfl rfl rfl rfl rfl) rfl rfl rfl ?_
    refine LexK.on (q_index _ rfl Fx.sl23 rfl rfl (by omega) (idx_ex hi0)) rfl rfl rfl rfl rfl ?_
    refine LexK.on (q_load (.g [_, _, _, _, _, _, _, _]) rfl Fx.ty27 rfl rfl rfl) rfl rfl rfl rfl rfl ?_
    refine LexK.rOn (b_load (r := .g [_, _, _, _, _, _, _, _]) rfl Fx.ty27 rfl rfl rfl rfl rfl rfl) rfl rfl rfl ?_
    refine LexK.on (q_call _ rfl Fx.fn48 rfl (equal_any _ _ (ha _ (List.getElem_mem hi0))) rfl) rfl rfl rfl rfl rfl ?_
    refine LexK.on (q_pkT rfl rfl rfl) rfl rfl rfl rfl rfl ?_
    refine LexK.q (q_pkF rfl rfl rfl) rfl rfl rfl ?_
    refine LexK.q (q_asC rfl rfl) rfl rfl rfl ?_
    refine LexK.nil (by kernel_rfl) ?_
    refine AW.ret ?_
    exact fin_x (x := .c _) (H) (.tmp rfl .nil) rfl ((fun j o h => upd_sub hk6 j o h)) (⟨bCe (by rw [hgv]; simp [*]), rfl⟩)
   iterate 6 refine LexK.off rfl rfl rfl rfl rfl rfl ?_
   refine LexK.on (q_pkF rfl rfl rfl) rfl rfl rfl rfl rfl ?_
   refine LexK.q (q_pkF rfl rfl rfl) rfl rfl rfl ?_
   refine LexK.q (q_asC rfl rfl) rfl rfl rfl ?_
   refine LexK.nil (by kernel_rfl) ?_
   refine AW.ret ?_
   exact fin_x (x := .c _) (H) (.tmp rfl .nil) rfl ((fun j o h => upd_sub hk6 j o h)) (⟨bCe (by rw [hgv]; simp [*]), rfl⟩)
  iterate 6 refine LexK.off rfl rfl rfl rfl rfl rfl ?_
  refine LexK.on (q_pkF rfl rfl rfl) rfl rfl rfl rfl rfl ?_
  refine LexK.on (q_mvC rfl rfl) rfl rfl rfl rfl rfl ?_
  iterate 6 refine LexK.off rfl rfl rfl rfl rfl rfl ?_
  refine LexK.on (q_pkF rfl rfl rfl) rfl rfl rfl rfl rfl ?_
  refine LexK.q (q_pkF rfl rfl rfl) rfl rfl rfl ?_
  refine LexK.q (q_asC rfl rfl) rfl rfl rfl ?_
  refine LexK.nil (by kernel_rfl) ?_
  refine AW.ret ?_
  exact fin_x (x := .c _) (H) (.tmp rfl .nil) rfl ((fun j o h => upd_sub hk6 j o h)) (⟨bCe (by rw [hgv]; simp [*]), rfl⟩)
 iterate 6 refine LexK.off rfl rfl rfl rfl rfl rfl ?_
 refine LexK.q (q_pkF rfl rfl rfl) rfl rfl rfl ?_
 refine LexK.q (q_mvC rfl rfl) rfl rfl rfl ?_
 iterate 6 refine LexK.off rfl rfl rfl rfl rfl rfl ?_
 refine LexK.q (q_pkF rfl rfl rfl) rfl rfl rfl ?_
 refine LexK.q (q_mvC rfl rfl) rfl rfl rfl ?_
 refine LexK.on (q_mvC rfl rfl) rfl rfl rfl rfl rfl ?_
 refine LexK.on (q_fieldL _ rfl Fx.fl27_0 rfl rfl) rfl rfl rfl rfl rfl ?_
 refine LexK.rOn (b_load (r := .a _) rfl Fx.ty3 rfl rfl rfl rfl rfl rfl) rfl rfl rfl ?_
 refine LexK.rOn (g_callV (f := fr) (cs := []) rfl rfl hfr rfl (hr _ _) rfl rfl rfl) rfl rfl rfl ?_
 refine LexK.onB (q_mvC rfl rfl) rfl rfl rfl rfl rfl (fun g42 => ?_) (fun g42 => ?_)
 ·
  refine LexK.on (q_mvC rfl rfl) rfl rfl rfl rfl rfl ?_
  refine LexK.on (q_fieldL _ rfl Fx.fl27_5 rfl rfl) rfl rfl rfl rfl rfl ?_
  refine LexK.rOn (b_load (r := .a _) rfl Fx.ty23 rfl rfl rfl rfl rfl rfl) rfl rfl rfl ?_
  refine LexK.on (q_index _ rfl Fx.sl23 rfl rfl (by omega) (idx_ex hi1)) rfl rfl rfl rfl rfl ?_
  refine LexK.on (q_load (.g [_, _, _, _, _, _, _, _]) rfl Fx.ty27 rfl rfl rfl) rfl rfl rfl rfl rfl ?_
  refine LexK.rOn (g_callV (f := 70) (cs := [.bp k6 0]) rfl rfl Fx.fn70 rfl (isV_any _ k6 v (upd_same _ _ _) _) rfl rfl rfl) rfl rfl rfl ?_
  refine LexK.on (q_pkT rfl rfl rfl) rfl rfl rfl rfl rfl ?_
  refine LexK.onB (q_mvC rfl rfl) rfl rfl rfl rfl rfl (fun g50 => ?_) (fun g50 => ?_)
  ·
   refine LexK.on (q_fieldL _ rfl Fx.fl27_5 rfl rfl) rfl rfl rfl rfl rfl ?_
   refine LexK.rOn (b_load (r := .a _) rfl Fx.ty23 rfl rfl rfl rfl rfl rfl) rfl rfl rfl ?_
   refine LexK.on (q_index _ rfl Fx.sl23 rfl rfl (by omega) (idx_ex hi0)) rfl rfl rfl rfl rfl ?_
   refine LexK.on (q_load (.g [_, _, _, _, _, _, _, _]) rfl Fx.ty27 rfl rfl rfl) rfl rfl rfl rfl rfl ?_
   refine LexK.rOn (b_load (r := .g [_, _, _, _, _, _, _, _]) rfl Fx.ty27 rfl rfl rfl rfl rfl rfl) rfl rfl rfl ?_
   refine LexK.on (q_call _ rfl Fx.fn48 rfl (equal_any _ _ (ha _ (List.getElem_mem hi0))) rfl) rfl rfl rfl rfl rfl ?_
   refine LexK.on (q_pkT rfl rfl rfl) rfl rfl rfl rfl rfl ?_
   refine LexK.q (q_pkF rfl rfl rfl) rfl rfl rfl ?_
   refine LexK.q (q_asC rfl rfl) rfl rfl rfl ?_
   refine LexK.nil (by kernel_rfl) ?_
   refine AW.ret ?_
   exact fin_x (x := .c _) (H) (.tmp rfl .nil) rfl ((fun j o h => upd_sub hk6 j o h)) (⟨bCe (by rw [hgv]; simp [*]), rfl⟩)
  iterate 6 refine LexK.off rfl rfl rfl rfl rfl rfl ?_
  refine LexK.on (q_pkF rfl rfl rfl) rfl rfl rfl rfl rfl ?_
  refine LexK.q (q_pkF rfl rfl rfl) rfl rfl rfl ?_
  refine LexK.q (q_asC rfl rfl) rfl rfl rfl ?_
  refine LexK.nil (by kernel_rfl) ?_
  refine AW.ret ?_
  exact fin_x (x := .c _) (H) (.tmp rfl .nil) rfl ((fun j o h => upd_sub hk6 j o h)) (⟨bCe (by rw [hgv]; simp [*]), rfl⟩)
 iterate 6 refine LexK.off rfl rfl rfl rfl rfl rfl ?_
 refine LexK.on (q_pkF rfl rfl rfl) rfl rfl rfl rfl rfl ?_
 refine LexK.on (q_mvC rfl rfl) rfl rfl rfl rfl rfl ?_
 iterate 6 refine LexK.off rfl rfl rfl rfl rfl rfl ?_
 refine LexK.on (q_pkF rfl rfl rfl) rfl rfl rfl rfl rfl ?_
 refine LexK.q (q_pkF rfl rfl rfl) rfl rfl rfl ?_
 refine LexK.q (q_asC rfl rfl) rfl rfl rfl ?_
 refine LexK.nil (by kernel_rfl) ?_
 refine AW.ret ?_
 exact fin_x (x := .c _) (H) (.tmp rfl .nil) rfl ((fun j o h => upd_sub hk6 j o h)) (⟨bCe (by rw [hgv]; simp [*]), rfl⟩)

end Go.Proofs.Ytihlgigaejhilaa.W
namespace Go.Proofs.Ytihlgigaejhilaa.W
open Go.RowKit E
/-! the conjuncts that have a property are added -/
def hitF (gv ge : Ex → Bool) : List Ex → Nat → List (Int × Bool)
  | [], _ => []
  | e :: r, i => (if gv e = true then [((i : Int), ge e)] else []) ++ hitF gv ge r (i + 1)
theorem hitF_app {gv ge : Ex → Bool} : ∀ (a b : List Ex) (n : Nat), hitF gv ge (a ++ b) n = hitF gv ge a n ++ hitF gv ge b (n + a.length)
  | [], b, n => by simp [hitF]
  | e :: r, b, n => by
    rw [List.cons_append, hitF, hitF_app r b (n + 1), hitF, List.append_assoc, List.length_cons, show n + 1 + r.length = n + (r.length + 1) by omega]
theorem hitF_take {gv ge : Ex → Bool} {l : List Ex} {i : Nat} (hi : i < l.length) : hitF gv ge (l.take (i + 1)) 0 = hitF gv ge (l.take i) 0 ++ if gv l[i] = true then [((i : Int), ge l[i])] else [] := by
  rw [take_put hi, hitF_app, List.length_take, Nat.min_eq_left (by omega), Nat.zero_add]; simp [hitF]
theorem hitF_len {gv ge : Ex → Bool} : ∀ (l : List Ex) (n : Nat), (hitF gv ge l n).length ≤ l.length
  | [], _ => by simp [hitF]
  | e :: r, n => by
    have := hitF_len (gv := gv) (ge := ge) r (n + 1)
    rw [hitF, List.length_append, List.length_cons]
    split <;> simp <;> omega
theorem any_take {gv : Ex → Bool} {l : List Ex} {i : Nat} (hi : i < l.length) : (l.take (i + 1)).any gv = ((l.take i).any gv || gv l[i]) := by
  rw [take_put hi, List.any_append]; simp
theorem upd_swap {α : Type} (f : Nat → α) {i j : Nat} (x y : α) (h : i ≠ j) : upd (upd f i x) j y = upd (upd f j y) i x := by
  funext n
  by_cases e1 : n = i
  · subst e1; rw [upd_ne _ _ h, upd_same, upd_same]
  · by_cases e2 : n = j
    · subst e2; rw [upd_same, upd_ne _ _ e1, upd_same]
    · rw [upd_ne _ _ e2, upd_ne _ _ e1, upd_ne _ _ e1, upd_ne _ _ e2]
abbrev HU (H : Heap) (k8 kt : Nat) (zs : List (List E.T)) : Heap := upd (upd H k8 (some (.box [.ts kt .ne 2 zs]))) kt (some (.tip 85 2 zs.length))

set_option maxRecDepth 20000 in
theorem always_fn (e : Ex) : Pure Try.prog 46 [exC e] (.c (bC true)) := by
 intro H
 refine Spec.enter Try.func46 rfl ?_
 refine AW.wk (Wk.keep 3 [(0, .c (exC e))] [] (H) rfl ⟨rfl, trivial⟩ trivial (fun _ _ h => h) rfl) ?_
 refine sR ?_
 refine SeqK.r (b_box (r := [_, _, _, _, _, _, _, _]) rfl rfl rfl rfl rfl rfl) rfl ?_
 refine sA ?_
 refine SeqK.nil ?_
 refine sR ?_
 refine sA ?_
 refine SeqK.nil ?_
 refine AW.ret ?_
 exact fin_x (x := .c _) (H) (.tmp rfl .nil) rfl (fun _ _ h => h) (⟨rfl, rfl⟩)

set_option maxHeartbeats 8000000 in
set_option maxRecDepth 20000 in
theorem eqTo_any (H : Heap) (k : Nat) (f : Ex) (hk : H k = some (.box (exA f))) (e : Ex) (ho : okE e) : E.Spec Try.prog 47 [exC e, .a (.bp k 0)] H fun x H' => x = .c (bC (decide (e = f))) ∧ H' = H := by
 refine Spec.enter Try.func47 rfl ?_
 refine AW.wk (Wk.keep 7 [(0, .c (exC e)), (1, .c (.a (.bp k 0)))] [] (H) rfl ⟨rfl, rfl, trivial⟩ trivial (fun _ _ h => h) rfl) ?_
 refine sR ?_
 refine SeqK.r (b_box (r := [_, _, _, _, _, _, _, _]) rfl rfl rfl rfl rfl rfl) rfl ?_
 refine sA ?_
 refine SeqK.nil ?_
 refine sR ?_
 refine SeqK.r (b_load (r := .g [_, _, _, _, _, _, _, _]) rfl Fx.ty27 rfl rfl rfl rfl rfl rfl) rfl ?_
 refine SeqK.r (g_load (r := .g [_, _, _, _, _, _, _, _]) rfl Fx.ty27 rfl (by (repeat rw [upd_ne _ _ (by first | assumption | exact Ne.symm (by assumption))]); first | assumption | exact upd_same _ _ _) rfl rfl rfl rfl) rfl ?_
 refine SeqK.q (q_call _ rfl Fx.fn48 rfl (equal_any e f ho) rfl) rfl rfl rfl ?_
 refine sA ?_
 refine SeqK.nil ?_
 refine AW.ret ?_
 exact fin_x (x := .c _) (H) (.tmp rfl .nil) rfl (fun _ _ h => h) (⟨rfl, rfl⟩)

abbrev exaB (e : Ex) : Bool := decide (e.op = 15 ∨ e.op = 13)

set_option maxRecDepth 20000 in
theorem exact_fn (e : Ex) : Pure Try.prog 52 [exC e] (.c (bC (exaB e))) := by
 intro H
 refine Spec.enter Try.func52 rfl ?_
 refine AW.wk (Wk.keep 11 [(0, .c (exC e))] [] (H) rfl ⟨rfl, trivial⟩ trivial (fun _ _ h => h) rfl) ?_
 refine sR ?_
 refine SeqK.r (b_box (r := [_, _, _, _, _, _, _, _]) rfl rfl rfl rfl rfl rfl) rfl ?_
 refine sA ?_
 refine SeqK.nil ?_
 refine sR ?_
 refine SeqK.q (q_fieldL _ rfl Fx.fl27_0 rfl rfl) rfl rfl rfl ?_
 refine SeqK.r (b_load (r := .a _) rfl Fx.ty3 rfl rfl rfl rfl rfl rfl) rfl ?_
 refine SeqK.q (q_eql rfl rfl rfl) rfl rfl rfl ?_
 refine SeqK.qD (q_mvC rfl rfl) rfl rfl rfl (fun g6 => ?_) (fun g6 => ?_)
 ·
  iterate 3 refine SeqK.off rfl rfl rfl rfl rfl rfl ?_
  refine SeqK.q (q_pkT rfl rfl rfl) rfl rfl rfl ?_
  refine sA ?_
  refine SeqK.nil ?_
  refine AW.ret ?_
  exact fin_x (x := .c _) (H) (.tmp rfl .nil) rfl (fun _ _ h => h) (⟨bCe (by first | exact dT (.inl g6) | exact dI ⟨.inr, fun h => h.resolve_left g6⟩), rfl⟩)
 refine SeqK.on (q_fieldL _ rfl Fx.fl27_0 rfl rfl) rfl rfl rfl rfl rfl ?_
 refine SeqK.rOn (b_load (r := .a _) rfl Fx.ty3 rfl rfl rfl rfl rfl rfl) rfl rfl rfl ?_
 refine SeqK.on (q_eql rfl rfl rfl) rfl rfl rfl rfl rfl ?_
 refine SeqK.q (q_pkF rfl rfl rfl) rfl rfl rfl ?_
 refine sA ?_
 refine SeqK.nil ?_
 refine AW.ret ?_
 exact fin_x (x := .c _) (H) (.tmp rfl .nil) rfl (fun _ _ h => h) (⟨bCe (by first | exact dT (.inl g6) | exact dI ⟨.inr, fun h => h.resolve_left g6⟩), rfl⟩)

set_option maxHeartbeats 8000000 in
set_option maxRecDepth 20000 in
theorem givesTo_any (H : Heap) (k1 k2 k3 k4 : Nat) (fl fr : FuncId) (lt rt : Int → Bool) (hfl : fnB Try.prog fl = true) (hfr : fnB Try.prog fr = true) (hl : ∀ n, Pure Try.prog fl [iC n] (.c (bC (lt n)))) (hr : ∀ n, Pure Try.prog fr [iC n] (.c (bC (rt n)))) (v : Int) (key : Ex) (h1 : H k1 = some (.box [.t (.v (.int .i64 v))])) (h2 : H k2 = some (.box (exA key))) (h3 : H k3 = some (.box [.fn fl []])) (h4 : H k4 = some (.box [.fn fr []])) (e : Ex) (ho : okE e) : E.Spec Try.prog 54 [exC e, .a (.bp k1 0), .a (.bp k2 0), .a (.bp k3 0), .a (.bp k4 0)] H fun x H' => x = .c (bC (gvB e v key lt rt)) ∧ H' = H := by
 refine Spec.enter Try.func54 rfl ?_
 refine AW.wk (Wk.keep 13 [(0, .c (exC e)), (1, .c (.a (.bp k1 0))), (2, .c (.a (.bp k2 0))), (3, .c (.a (.bp k3 0))), (4, .c (.a (.bp k4 0)))] [] (H) rfl ⟨rfl, rfl, rfl, rfl, rfl, trivial⟩ trivial (fun _ _ h => h) rfl) ?_
 refine sR ?_
 refine SeqK.r (b_box (r := [_, _, _, _, _, _, _, _]) rfl rfl rfl rfl rfl rfl) rfl ?_
 refine sA ?_
 refine SeqK.nil ?_
 refine sR ?_
 refine SeqK.r (b_load (r := .g [_, _, _, _, _, _, _, _]) rfl Fx.ty27 rfl rfl rfl rfl rfl rfl) rfl ?_
 refine SeqK.r (g_load (r := .a _) rfl Fx.ty3 rfl (by (repeat rw [upd_ne _ _ (by first | assumption | exact Ne.symm (by assumption))]); first | assumption | exact upd_same _ _ _) rfl rfl rfl rfl) rfl ?_
 refine SeqK.r (g_load (r := .g [_, _, _, _, _, _, _, _]) rfl Fx.ty27 rfl (by (repeat rw [upd_ne _ _ (by first | assumption | exact Ne.symm (by assumption))]); first | assumption | exact upd_same _ _ _) rfl rfl rfl rfl) rfl ?_
 refine SeqK.r (g_load (r := .a _) rfl Fx.ty110 rfl (by (repeat rw [upd_ne _ _ (by first | assumption | exact Ne.symm (by assumption))]); first | assumption | exact upd_same _ _ _) rfl rfl rfl rfl) rfl ?_
 refine SeqK.r (g_load (r := .a _) rfl Fx.ty110 rfl (by (repeat rw [upd_ne _ _ (by first | assumption | exact Ne.symm (by assumption))]); first | assumption | exact upd_same _ _ _) rfl rfl rfl rfl) rfl ?_
 refine SeqK.r (g_call rfl Fx.fn55 rfl (gives_any H fl fr lt rt hfl hfr hl hr e v key ho) rfl rfl rfl) rfl ?_
 refine sA ?_
 refine SeqK.nil ?_
 refine AW.ret ?_
 exact fin_x (x := .c _) (H) (.tmp rfl .nil) rfl (fun _ _ h => h) (⟨rfl, rfl⟩)

set_option maxHeartbeats 8000000 in
set_option maxRecDepth 20000 in
theorem findU_any (H : Heap) (k5 k8 kt : Nat) (cj : List Ex) (us : List (Int × Bool)) (f1 f2 : FuncId) (c1 c2 : List A) (gv ge : Ex → Bool) (h5 : H k5 = some (.box [.t (.sl .un 8 (cj.map exT'))])) (h8 : H k8 = none) (ht : H kt = none) (n8t : k8 ≠ kt) (hf1 : fnB Try.prog f1 = true) (hf2 : fnB Try.prog f2 = true) (hc1 : ∀ x ∈ cj, FB f1 c1 H (exC x) (gv x)) (hc2 : ∀ x ∈ cj, FB f2 c2 H (exC x) (ge x)) (hl : us.length + cj.length ≤ 1000000000000) : E.Spec Try.prog 45 [.a (.fn f1 c1), .a (.fn f2 c2), .a (.bp k5 0), .a (.bp k8 0)] (HU H k8 kt (us.map usT)) fun x H' => x = .c (bC (cj.any gv)) ∧ ∃ k9, H k9 = none ∧ k8 ≠ k9 ∧ H' = HU H k8 k9 ((us ++ hitF gv ge cj 0).map usT) := by
 have n58 : k5 ≠ k8 := fun e => by rw [e, h8] at h5; cases h5
 have n5t : k5 ≠ kt := fun e => by rw [e, ht] at h5; cases h5
 refine Spec.enter Try.func45 rfl ?_
 refine AW.wk (Wk.keep 30 [(0, .c (.a (.fn f1 c1))), (1, .c (.a (.fn f2 c2))), (2, .c (.a (.bp k5 0))), (3, .c (.a (.bp k8 0)))] [] (upd (upd H k8 (some (.box [.ts kt .ne 2 (us.map usT)]))) kt (some (.tip 85 2 (us.map usT).length))) rfl ⟨rfl, rfl, rfl, rfl, trivial⟩ trivial (fun _ _ h => h) rfl) ?_
 refine sR ?_
 refine sA ?_
 refine SeqK.nil ?_
 refine sR ?_
 refine sA ?_
 refine SeqK.nil ?_
 refine AW.seq ?_
 refine sR ?_
 refine SeqK.r (g_load (r := .a _) rfl Fx.ty23 rfl (by (repeat rw [upd_ne _ _ (by first | assumption | exact Ne.symm (by assumption))]); first | assumption | exact upd_same _ _ _) rfl rfl rfl rfl) rfl ?_
 refine SeqK.q (q_len rfl Fx.un23 rfl) rfl rfl rfl ?_
 refine sM ?_
 refine SeqK.nil ?_
 refine AW.block ?_
 refine AW.loop (fun (i : Nat) s => ∃ (k9 : Nat) (zs : List (List E.T)) (sm : Bool), (i ≤ cj.length ∧ (H k9 = none ∧ k8 ≠ k9) ∧ sm = (cj.take i).any gv ∧ zs = (us ++ hitF gv ge (cj.take i) 0).map usT) ∧ s = ⟨30, sp [(0, .c (.a (.fn f1 c1))), (1, .c (.a (.fn f2 c2))), (3, .c (.a (.bp k8 0))), (7, .c (.a (.t (.v (.bool sm))))), (10, .c (exsC .un cj)), (11, iX .i64 (((cj.map exT').length : Nat) : Int)), (12, iX .i64 ((i : Nat) : Int))], lv [], upd (upd H k8 (some (.box [.ts k9 .ne 2 zs]))) k9 (some (.tip 85 2 zs.length))⟩) (fun i => cj.length - i) 0 ⟨_, Wk.keep 30 [(0, .c (.a (.fn f1 c1))), (1, .c (.a (.fn f2 c2))), (3, .c (.a (.bp k8 0))), (7, .c (.a (.t (.v (.bool (false)))))), (10, .c (exsC .un cj)), (11, iX .i64 (((cj.map exT').length : Nat) : Int)), (12, iX .i64 ((((0 : Nat)) : Nat) : Int))] [] (upd (upd H k8 (some (.box [.ts (kt) .ne 2 (us.map usT)]))) (kt) (some (.tip 85 2 (us.map usT).length))) rfl ⟨rfl, rfl, rfl, rfl, rfl, rfl, rfl, trivial⟩ trivial (fun _ _ h => h) rfl, kt, us.map usT, false, ⟨Nat.zero_le _, ⟨ht, n8t⟩, rfl, by simp [hitF]⟩, rfl⟩ (fun i s hs => ?_)
 obtain ⟨k9, zs, sm, ⟨hi0, ⟨hk9, n89⟩, hsm, hzs⟩, rfl⟩ := hs
 have hk9b : upd H k8 (some (.box [.ts k9 .ne 2 zs])) k9 = none := by rw [upd_ne _ _ n89.symm]; exact hk9
 refine sR ?_
 refine SeqK.q (q_lss rfl rfl rfl) rfl rfl rfl ?_
 refine SeqK.nil ?_
 refine AW.seq ?_
 refine AW.condD rfl (fun h13 => ?_) (fun h13 => ?_)
 ·
  have hi : i < cj.length := by rw [List.length_map] at h13; omega
  refine AW.skip ?_
  refine AW.seq ?_
  refine AW.block ?_
  refine sR ?_
  refine sM ?_
  refine SeqK.q (q_index _ rfl Fx.sl23 rfl rfl (by omega) (idx_ex hi)) rfl rfl rfl ?_
  refine SeqK.q (q_load (.g [_, _, _, _, _, _, _, _]) rfl Fx.ty27 rfl rfl rfl) rfl rfl rfl ?_
  refine SeqK.r (b_alloc (r := [_, _, _, _, _, _, _, _]) rfl rfl Fx.ze27 rfl rfl rfl rfl) rfl ?_
  refine sA ?_
  refine SeqK.r (b_store (r := [_, _, _, _, _, _, _, _]) rfl rfl Fx.ty27 rfl rfl rfl rfl rfl rfl) rfl ?_
  refine SeqK.nil ?_
  refine sR ?_
  refine sM ?_
  refine SeqK.r (b_load (r := .g [_, _, _, _, _, _, _, _]) rfl Fx.ty27 rfl rfl rfl rfl rfl rfl) rfl ?_
  refine SeqK.r (g_callV (f := f1) (cs := c1) rfl rfl hf1 rfl (hc1 _ (List.getElem_mem hi) _ (fun j o h => upd_sub hk9b j o (upd_sub h8 j o h))) rfl rfl rfl) rfl ?_
  refine SeqK.nil ?_
  refine AW.cond _ rfl (fun h19 => ?_) (fun h19 => ?_)
  ·
   refine sR ?_
   refine sA ?_
   refine SeqK.nil ?_
   refine AW.drawO [0, 1, 2, 3, 4, 5, 6, 7, 8] Fx.mo (by kernel_rfl) ?_
   refine LexO.r rfl (by kernel_rfl) (g_load (r := .a _) rfl Fx.ty77 rfl (by (repeat rw [upd_ne _ _ (by first | assumption | exact Ne.symm (by assumption))]); first | assumption | exact upd_same _ _ _) rfl rfl rfl rfl) rfl ?_
   refine LexO.q rfl (by kernel_rfl) (q_mvC rfl rfl) rfl rfl rfl ?_
   refine LexO.q rfl (by kernel_rfl) (q_mvC rfl rfl) rfl rfl rfl ?_
   refine LexO.r rfl (by kernel_rfl) (b_load (r := .g [_, _, _, _, _, _, _, _]) rfl Fx.ty27 rfl rfl rfl rfl rfl rfl) rfl ?_
   refine LexO.r rfl (by kernel_rfl) (g_callV (f := f2) (cs := c2) rfl rfl hf2 rfl (hc2 _ (List.getElem_mem hi) _ (fun j o h => upd_sub hk9b j o (upd_sub h8 j o h))) rfl rfl rfl) rfl ?_
   refine LexO.q rfl (by kernel_rfl) (q_build2 (zs := [_, _]) (r := [_, _]) [(0, 1), (1, 1)] _ rfl Fx.ze85 rfl Fx.bp85 rfl rfl rfl rfl) rfl rfl rfl ?_
   refine LexO.q rfl (by kernel_rfl) (q_buildSlice _ rfl Fx.el77 rfl (by decide) rfl) rfl rfl rfl ?_
   refine LexO.app1 rfl (by kernel_rfl) (by kernel_rfl) (by kernel_rfl) rfl (hk9b) rfl Fx.el77 rfl rfl (by have h7 := congrArg List.length hzs; have h9 := hitF_len (gv := gv) (ge := ge) (cj.take i) 0; rw [List.length_take] at h9; simp only [List.length_map, List.length_append] at h7; simp only [List.length_cons, List.length_nil]; omega) rfl rfl (fun k27 hk27 => ?_)
   refine LexO.r rfl (by kernel_rfl) (g_store rfl rfl Fx.ty77 rfl rfl (by rw [upd_ne _ _ (upd_lt hk27).1.symm]; exact upd_same _ _ _) rfl rfl rfl) rfl ?_
   refine LexO.nil (by kernel_rfl) ?_
   refine AW.reg ?_
   refine SeqK.q (q_add _ rfl rfl rfl (w64 (by omega) (by omega))) rfl rfl rfl ?_
   refine sM ?_
   refine SeqK.nil ?_
   exact ⟨i + 1, _, Wk.keep 30 [(0, .c (.a (.fn f1 c1))), (1, .c (.a (.fn f2 c2))), (3, .c (.a (.bp k8 0))), (7, .c (.a (.t (.v (.bool (true)))))), (10, .c (exsC .un cj)), (11, iX .i64 (((cj.map exT').length : Nat) : Int)), (12, iX .i64 (((i + 1) : Nat) : Int))] [] (upd (upd H k8 (some (.box [.ts (k27) .ne 2 (zs ++ [usT ((i : Int), ge cj[i])])]))) (k27) (some (.tip 85 2 (zs ++ [usT ((i : Int), ge cj[i])]).length))) rfl ⟨rfl, rfl, rfl, rfl, rfl, rfl, rfl, trivial⟩ trivial (fun j o h => by show upd (upd (upd H k8 _) k27 _) k8 _ j = some o; rw [upd_swap _ _ _ (upd_lt hk27).1, upd_upd]; exact h) rfl, by omega, k27, zs ++ [usT ((i : Int), ge cj[i])], true, ⟨hi, ⟨(upd_lt hk27).2, (upd_lt hk27).1.symm⟩, by rw [any_take hi, h19, Bool.or_true], by rw [hzs, hitF_take hi, if_pos h19]; simp⟩, rfl⟩
  refine AW.skip ?_
  refine AW.reg ?_
  refine SeqK.q (q_add _ rfl rfl rfl (w64 (by omega) (by omega))) rfl rfl rfl ?_
  refine sM ?_
  refine SeqK.nil ?_
  exact ⟨i + 1, _, Wk.keep 30 [(0, .c (.a (.fn f1 c1))), (1, .c (.a (.fn f2 c2))), (3, .c (.a (.bp k8 0))), (7, .c (.a (.t (.v (.bool (sm)))))), (10, .c (exsC .un cj)), (11, iX .i64 (((cj.map exT').length : Nat) : Int)), (12, iX .i64 (((i + 1) : Nat) : Int))] [] (upd (upd H k8 (some (.box [.ts (k9) .ne 2 (zs)]))) (k9) (some (.tip 85 2 (zs).length))) rfl ⟨rfl, rfl, rfl, rfl, rfl, rfl, rfl, trivial⟩ trivial (fun _ _ h => h) rfl, by omega, k9, zs, sm, ⟨hi, ⟨hk9, n89⟩, by rw [any_take hi, h19, Bool.or_false]; exact hsm, by rw [hzs, hitF_take hi, if_neg (by rw [h19]; simp)]; simp⟩, rfl⟩
 refine AW.exit ?_
 refine eth_e ?_
 refine eth_e ?_
 refine exit_here ?_
 refine sR ?_
 refine sM ?_
 refine sA ?_
 refine SeqK.nil ?_
 refine AW.ret ?_
 exact fin_x (x := .c _) (_) (.tmp rfl .nil) rfl (fun _ _ h => h) (⟨bCe (by rw [hsm, List.take_of_length_le (by rw [List.length_map] at h13; omega)]), k9, hk9, n89, by rw [hzs, List.take_of_length_le (by rw [List.length_map] at h13; omega)]⟩)

end Go.Proofs.Ytihlgigaejhilaa.W
namespace Go.Proofs.Ytihlgigaejhilaa.W
open Go.RowKit E
/-! what a plan uses -/
theorem nods_ge : ∀ (l : List Ex) (m n : Nat), n ≤ nods l m n
  | [], m, n => by rw [nods]; exact Nat.le_refl _
  | e :: r, m, n => by
    rw [nods]; split
    · exact Nat.le_trans (Nat.le_add_right _ _) (nods_ge r m _)
    · exact Nat.le_refl _
mutual
theorem cnj_nod : ∀ (e : Ex) (m : Nat), nod e m ≤ m → (cnj e).length ≤ nod e m
  | .mk op tb nm ix vk vn vs xs, m, h => by
    rw [nod] at h ⊢
    split at h
    · omega
    · rename_i hb
      rw [if_neg hb, cnj]
      have h1 := cnjs_nod xs m 1 h
      split
      · simp
      · split
        · rw [cnjs_flat]; omega
        · simp only [List.length_cons, List.length_nil]; omega
theorem cnjs_nod : ∀ (l : List Ex) (m n : Nat), nods l m n ≤ m → n + (l.flatMap cnj).length ≤ nods l m n
  | [], m, n, h => by rw [nods]; simp
  | e :: r, m, n, h => by
    rw [nods] at h ⊢
    split at h
    · rename_i hn
      rw [if_pos hn]
      have h2 := nods_ge r m (n + nod e (m - n))
      have h3 := cnj_nod e (m - n) (by omega)
      have h4 := cnjs_nod r m _ h
      rw [List.flatMap_cons, List.length_append]; omega
    · omega
end
/-- the conjuncts of a filter -/
def addC (cj : List Ex) : List Ex → List (Int × Bool) → Option (List (Int × Bool))
  | [], out => some out
  | f :: r, out => if (cj.any fun e => decide (e = f)) = true then addC cj r (out ++ hitF (fun e => decide (e = f)) (fun _ => true) cj 0) else none
abbrev colK (p : Pl) (i : Nat) : Int := if p.k = 2 then p.cols.getD i 0 else p.cols.getD 0 0
abbrev varK (d0 : List Tb) (b : Bd) (p : Pl) (i : Nat) : Int := (offM d0 (b.tabs.take p.src.toNat) : Int) + colK p i
abbrev ltK (p : Pl) (i : Nat) : Int → Bool := if p.k = 2 then sameB else if i = 0 then lowB else uppB
abbrev rtK (p : Pl) (i : Nat) : Int → Bool := if p.k = 2 then sameB else if i = 0 then uppB else lowB
abbrev geK (p : Pl) : Ex → Bool := if p.k = 3 then exaB else fun _ => true
abbrev gvK (d0 : List Tb) (b : Bd) (p : Pl) (i : Nat) (k : Ex) : Ex → Bool := fun e => gvB e (varK d0 b p i) k (ltK p i) (rtK p i)
/-- the keys of a leaf -/
def addK (d0 : List Tb) (b : Bd) (cj : List Ex) (p : Pl) : List Ex → Nat → List (Int × Bool) → Option (List (Int × Bool))
  | [], _, out => some out
  | k :: r, i, out => if k.op = 0 then addK d0 b cj p r (i + 1) out else if cj.any (gvK d0 b p i k) = true then addK d0 b cj p r (i + 1) (out ++ hitF (gvK d0 b p i k) (geK p) cj 0) else none
mutual
def usM (d0 : List Tb) (b : Bd) (cj : List Ex) : Pl → Option (List (Int × Bool))
  | .mk k src cols keys flt xs => (usMs d0 b cj xs []).bind fun o1 => (addC cj (cnj flt) o1).bind fun o2 => addK d0 b cj (.mk k src cols keys flt xs) keys 0 o2
def usMs (d0 : List Tb) (b : Bd) (cj : List Ex) : List Pl → List (Int × Bool) → Option (List (Int × Bool))
  | [], out => some out
  | e :: r, out => (usM d0 b cj e).bind fun l => usMs d0 b cj r (out ++ l)
end
mutual
def usN (n : Nat) : Pl → Nat
  | .mk _ _ _ keys flt xs => ((cnj flt).length + keys.length) * n + usNs n xs
def usNs (n : Nat) : List Pl → Nat
  | [] => 0
  | e :: r => usN n e + usNs n r
end
section
variable {d0 : List Tb} {b : Bd} {cj : List Ex}
theorem usM_eq (p : Pl) : usM d0 b cj p = (usMs d0 b cj p.args []).bind fun o1 => (addC cj (cnj p.flt) o1).bind fun o2 => addK d0 b cj p p.keys 0 o2 := by
  cases p; rw [usM]
theorem usN_eq (n : Nat) (p : Pl) : usN n p = ((cnj p.flt).length + p.keys.length) * n + usNs n p.args := by
  cases p; rw [usN]
theorem addC_le : ∀ (fs : List Ex) (us l : List (Int × Bool)), addC cj fs us = some l → l.length ≤ us.length + fs.length * cj.length
  | [], us, l, h => by rw [addC] at h; injection h with h; rw [h]; omega
  | f :: r, us, l, h => by
    rw [addC] at h
    split at h
    · have h1 := addC_le r _ l h
      have h2 := hitF_len (gv := fun e => decide (e = f)) (ge := fun _ => true) cj 0
      rw [List.length_append] at h1
      rw [List.length_cons, Nat.add_mul, Nat.one_mul]; omega
    · cases h
theorem addK_le {p : Pl} : ∀ (ks : List Ex) (i : Nat) (us l : List (Int × Bool)), addK d0 b cj p ks i us = some l → l.length ≤ us.length + ks.length * cj.length
  | [], i, us, l, h => by rw [addK] at h; injection h with h; rw [h]; omega
  | k :: r, i, us, l, h => by
    rw [addK] at h
    rw [List.length_cons, Nat.add_mul, Nat.one_mul]
    split at h
    · have h1 := addK_le r _ _ l h; omega
    · split at h
      · have h1 := addK_le r _ _ l h
        have h2 := hitF_len (gv := gvK d0 b p i k) (ge := geK p) cj 0
        rw [List.length_append] at h1; omega
      · cases h
mutual
theorem usM_le : ∀ (p : Pl) (l : List (Int × Bool)), usM d0 b cj p = some l → l.length ≤ usN cj.length p
  | .mk k src cols keys flt xs, l, h => by
    rw [usM] at h
    cases h1 : usMs d0 b cj xs [] with
    | none => rw [h1] at h; cases h
    | some o1 =>
      rw [h1, Option.bind_some] at h
      cases h2 : addC cj (cnj flt) o1 with
      | none => rw [h2] at h; cases h
      | some o2 =>
        rw [h2, Option.bind_some] at h
        have e1 := usMs_le xs [] o1 h1
        have e2 := addC_le _ _ _ h2
        have e3 := addK_le _ _ _ _ h
        rw [usN, Nat.add_mul]; simp only [List.length_nil] at e1; omega
theorem usMs_le : ∀ (xs : List Pl) (us l : List (Int × Bool)), usMs d0 b cj xs us = some l → l.length ≤ us.length + usNs cj.length xs
  | [], us, l, h => by rw [usMs] at h; injection h with h; rw [h]; omega
  | e :: r, us, l, h => by
    rw [usMs] at h
    cases h1 : usM d0 b cj e with
    | none => rw [h1] at h; cases h
    | some o1 =>
      rw [h1, Option.bind_some] at h
      have e1 := usM_le e o1 h1
      have e2 := usMs_le r _ l h
      rw [List.length_append] at e2
      rw [usNs]; omega
end
theorem usMs_go {l : List Pl} {i : Nat} {us x : List (Int × Bool)} (hi : i < l.length) (h : usM d0 b cj l[i] = some x) : usMs d0 b cj (l.drop i) us = usMs d0 b cj (l.drop (i + 1)) (us ++ x) := by
  rw [List.drop_eq_getElem_cons hi, usMs, h, Option.bind_some]
theorem usMs_no {l : List Pl} {i : Nat} {us : List (Int × Bool)} (hi : i < l.length) (h : usM d0 b cj l[i] = none) : usMs d0 b cj (l.drop i) us = none := by
  rw [List.drop_eq_getElem_cons hi, usMs, h]; rfl
theorem usNs_go {n : Nat} {l : List Pl} {i : Nat} (hi : i < l.length) : usNs n (l.drop i) = usN n l[i] + usNs n (l.drop (i + 1)) := by
  rw [List.drop_eq_getElem_cons hi, usNs]
theorem addC_go {l : List Ex} {i : Nat} {us : List (Int × Bool)} (hi : i < l.length) (h : (cj.any fun e => decide (e = l[i])) = true) : addC cj (l.drop i) us = addC cj (l.drop (i + 1)) (us ++ hitF (fun e => decide (e = l[i])) (fun _ => true) cj 0) := by
  rw [List.drop_eq_getElem_cons hi, addC, if_pos h]
theorem addC_no {l : List Ex} {i : Nat} {us : List (Int × Bool)} (hi : i < l.length) (h : (cj.any fun e => decide (e = l[i])) = false) : addC cj (l.drop i) us = none := by
  rw [List.drop_eq_getElem_cons hi, addC, if_neg (by rw [h]; simp)]
theorem addK_skip {p : Pl} {l : List Ex} {i : Nat} {us : List (Int × Bool)} (hi : i < l.length) (h : l[i].op = 0) : addK d0 b cj p (l.drop i) i us = addK d0 b cj p (l.drop (i + 1)) (i + 1) us := by
  rw [List.drop_eq_getElem_cons hi, addK, if_pos h]
theorem addK_go {p : Pl} {l : List Ex} {i : Nat} {us : List (Int × Bool)} (hi : i < l.length) (h0 : ¬ l[i].op = 0) (h : cj.any (gvK d0 b p i l[i]) = true) : addK d0 b cj p (l.drop i) i us = addK d0 b cj p (l.drop (i + 1)) (i + 1) (us ++ hitF (gvK d0 b p i l[i]) (geK p) cj 0) := by
  rw [List.drop_eq_getElem_cons hi, addK, if_neg h0, if_pos h]
theorem addK_no {p : Pl} {l : List Ex} {i : Nat} {us : List (Int × Bool)} (hi : i < l.length) (h0 : ¬ l[i].op = 0) (h : cj.any (gvK d0 b p i l[i]) = false) : addK d0 b cj p (l.drop i) i us = none := by
  rw [List.drop_eq_getElem_cons hi, addK, if_neg h0, if_neg (by rw [h]; simp)]
theorem mul_go {m i n : Nat} (h : i < m) : (m - i) * n = n + (m - (i + 1)) * n := by
  rw [show m - i = (m - (i + 1)) + 1 by omega, Nat.add_mul, Nat.one_mul, Nat.add_comm]
end
/-- what the shape of a part says of its keys -/
structure nfP (d0 : List Tb) (b : Bd) (p : Pl) : Prop where
  k : p.k = 2 ∨ p.k = 3
  src : 0 ≤ p.src ∧ p.src < b.tabs.length
  c0 : 0 < p.cols.length
  c2 : p.k = 2 → p.keys.length = p.cols.length
  cc : ∀ j (h : j < p.cols.length), 0 ≤ p.cols[j] ∧ p.cols[j] < ncol d0 (tabI b.tabs p.src)
theorem nfP_of {d0 : List Tb} {b : Bd} {p : Pl} {l : List Int} (h : shB d0 b p l = true) (hk : 0 < p.keys.length) : nfP d0 b p := by
  by_cases hl : lfK p
  · rw [shB_leaf hl] at h
    obtain ⟨h1, h2, h3, h4⟩ := of_decide_eq_true h
    unfold lf4 at h4
    rcases hl with e | e | e
    · rw [if_pos e] at h4; omega
    · rw [if_neg (by omega), if_pos e] at h4
      exact ⟨.inl e, h1.1, h4.1, fun _ => h4.2.1, fun j hj => (h2 j hj).1⟩
    · rw [if_neg (by omega), if_neg (by omega)] at h4
      exact ⟨.inr e, h1.1, by omega, fun e2 => by omega, fun j hj => (h2 j hj).1⟩
  · by_cases hn : npP p
    · have := hn.2.2.2; omega
    · rw [shB_no hl hn] at h; cases h
theorem sh_arg {d0 : List Tb} {b : Bd} {p a : Pl} {l : List Int} (h : shB d0 b p l = true) (ha : a ∈ p.args) : ∃ l', shB d0 b a l' = true := by
  obtain ⟨i, hi, rfl⟩ := List.mem_iff_getElem.1 ha
  by_cases hl : lfK p
  · rw [shB_leaf hl] at h
    have := (of_decide_eq_true h).1.2.1; omega
  · by_cases hn : npP p
    · by_cases h4 : p.k = 4
      · by_cases h5 : p.args.length = 1
        · rw [shB_4 hn h4 h5, Bool.and_eq_true, Bool.and_eq_true] at h
          obtain rfl : i = 0 := by omega
          exact ⟨_, h.2.1⟩
        · rw [shB_4n hn h4 h5] at h; cases h
      · by_cases h5 : p.args.length = 2
        · rw [shB_5 hn h4 h5, Bool.and_eq_true, Bool.and_eq_true] at h
          rcases Nat.lt_or_ge 0 i with h0 | h0
          · obtain rfl : i = 1 := by omega
            exact ⟨_, h.2.2⟩
          · obtain rfl : i = 0 := by omega
            exact ⟨_, h.2.1⟩
        · rw [shB_5n hn h4 h5] at h; cases h
    · rw [shB_no hl hn] at h; cases h
theorem few_flt {d : Nat} {p : Pl} (h : fewB d p = true) : (cnj p.flt).length ≤ 400 := by
  cases d with
  | zero => rw [fewB] at h; cases h
  | succ d =>
    rw [fewB, Bool.and_eq_true] at h
    have h1 := (of_decide_eq_true h.1).2.2.2
    exact Nat.le_trans (cnj_nod _ _ h1) h1
theorem few_arg {d : Nat} {p a : Pl} (h : fewB d p = true) (ha : a ∈ p.args) : ∃ d', fewB d' a = true := by
  cases d with
  | zero => rw [fewB] at h; cases h
  | succ d =>
    rw [fewB, Bool.and_eq_true, Bool.and_eq_true, List.all_eq_true, List.all_eq_true] at h
    exact ⟨d, h.2.2 a ha⟩
theorem usN_arg {n : Nat} {p a : Pl} (ha : a ∈ p.args) : usN n a ≤ usN n p := by
  have key : ∀ l : List Pl, a ∈ l → usN n a ≤ usNs n l := by
    intro l
    induction l with
    | nil => intro h; cases h
    | cons x r ih =>
      intro h
      rw [usNs]
      rcases List.mem_cons.1 h with e | e
      · rw [e]; omega
      · have := ih e; omega
  rw [usN_eq n p]
  have := key _ ha; omega

end Go.Proofs.Ytihlgigaejhilaa.W
namespace Go.Proofs.Ytihlgigaejhilaa.W
open Go.RowKit E
/-! uses -/
structure okU (d0 : List Tb) (b : Bd) (cj : List Ex) (p : Pl) : Prop where
  ok : okP p
  few : ∃ d, fewB d p = true
  sh : ∃ l, shB d0 b p l = true
  n : usN cj.length p ≤ 1000000000000
theorem okU.arg {d0 : List Tb} {b : Bd} {cj : List Ex} {p a : Pl} (h : okU d0 b cj p) (ha : a ∈ p.args) : okU d0 b cj a :=
  ⟨(okP_iff.1 h.ok).2 a ha, h.few.elim fun d hd => few_arg hd ha, h.sh.elim fun l hl => sh_arg hl ha, Nat.le_trans (usN_arg ha) h.n⟩
abbrev usX (d0 : List Tb) (b : Bd) (cj : List Ex) (p : Pl) : X := .tup [ussC .un ((usM d0 b cj p).getD []), bC (usM d0 b cj p).isSome]
abbrev US (d0 : List Tb) (b : Bd) (kx : Nat) (cj : List Ex) (p : Pl) : Prop := ∀ H : Heap, H kx = some (.box (stA d0 b)) → E.Spec Try.prog 28 [.a (.bp kx 0), plC p, exsC .un cj] H fun x H' => x = usX d0 b cj p ∧ H' = H
theorem updM {f g : Heap} {a : Nat} {x : Option AO} (h : ∀ j o, f j = some o → g j = some o) : ∀ j o, upd f a x j = some o → upd g a x j = some o := fun j o q => by
  by_cases e : j = a
  · subst e; rw [upd_same] at q ⊢; exact q
  · rw [upd_ne _ _ e] at q ⊢; exact h j o q
theorem usX_no {d0 : List Tb} {b : Bd} {cj : List Ex} {p : Pl} (h : usM d0 b cj p = none) : X.tup [ussC .un [], bC false] = usX d0 b cj p := by rw [usX, h]; rfl
theorem usX_yes {d0 : List Tb} {b : Bd} {cj : List Ex} {p : Pl} {us : List (Int × Bool)} (h : usM d0 b cj p = some us) : X.tup [ussC .un us, bC true] = usX d0 b cj p := by rw [usX, h]; rfl

theorem lt4 {f : Heap} {a b c d e : Nat} {x y z u : AO} (h : upd (upd (upd (upd f a (some x)) b (some y)) c (some z)) d (some u) e = none) : f e = none := (upd_lt (upd_lt (upd_lt (upd_lt h).2).2).2).2

set_option maxHeartbeats 16000000 in
set_option maxRecDepth 20000 in
theorem uses_of (H : Heap) (kx : Nat) (d0 : List Tb) (b : Bd) (hx : H kx = some (.box (stA d0 b))) (hb : okB d0 b) (cj : List Ex) (hcj : ∀ e ∈ cj, okE e) (p : Pl) (hu : okU d0 b cj p) (ih : ∀ a ∈ p.args, US d0 b kx cj a) : E.Spec Try.prog 28 [.a (.bp kx 0), plC p, exsC .un cj] H fun x H' => x = usX d0 b cj p ∧ H' = H := by
 refine Spec.enter Try.func28 rfl ?_
 refine AW.wk (Wk.keep 103 [(0, .c (.a (.bp kx 0))), (1, .c (plC p)), (2, .c (exsC .un cj))] [] (H) rfl ⟨rfl, rfl, rfl, trivial⟩ trivial (fun _ _ h => h) rfl) ?_
 refine sR ?_
 refine SeqK.r (b_box (r := [_, _, _, _, _, _, _, _, _, _, _, _, _]) rfl rfl rfl rfl rfl rfl) rfl ?_
 refine SeqK.newBox (r := [_]) rfl rfl rfl rfl rfl rfl (fun k5 hk5 => ?_)
 refine sA ?_
 refine sA ?_
 refine SeqK.nil ?_
 refine AW.seq ?_
 obtain ⟨ho, ⟨d9, hfw⟩, ⟨l9, hsh⟩, hun⟩ := hu
 obtain ⟨⟨k1, k2, k3, kf, kk⟩, kA⟩ := okP_iff.1 ho
 have hft := few_flt hfw
 rw [usN_eq] at hun
 have hpe := usM_eq (d0 := d0) (b := b) (cj := cj) p
 refine AW.reg ?_
 refine SeqK.r (b_alloc (r := [_]) rfl rfl Fx.ze77 rfl rfl rfl rfl) rfl ?_
 refine SeqK.nil ?_
 refine AW.seq ?_
 refine sR ?_
 refine SeqK.q (q_fieldL _ rfl Fx.fl30_5 rfl rfl) rfl rfl rfl ?_
 refine SeqK.r (b_load (r := .a _) rfl Fx.ty28 rfl rfl rfl rfl rfl rfl) rfl ?_
 refine SeqK.q (q_len rfl Fx.un28 rfl) rfl rfl rfl ?_
 refine sM ?_
 refine SeqK.nil ?_
 refine AW.block ?_
 refine AW.tipL 8 0 85 2 rfl rfl (fun kt hkt => ?_)
 refine AW.exp 8 rfl (fun _ _ _ _ h => by cases h) (fun k8 hk8b => ?_)
 obtain ⟨n8t, hk8⟩ := upd_lt hk8b
 rw [upd_swap _ _ _ n8t.symm]
 refine AW.loop (fun (i : Nat) s => ∃ (k9 : Nat) (us : List (Int × Bool)), (i ≤ p.args.length ∧ ((upd H k5 (some (.box [.t (.sl .un 8 (cj.map exT'))]))) k9 = none ∧ k8 ≠ k9) ∧ us.length + usNs cj.length (p.args.drop i) + ((cnj p.flt).length + p.keys.length) * cj.length ≤ 1000000000000 ∧ usMs d0 b cj (p.args.drop i) us = usMs d0 b cj p.args []) ∧ s = ⟨103, sp [(0, .c (.a (.bp kx 0))), (4, .lp 4 0), (5, .c (.a (.bp k5 0))), (6, .c (.a (.t (.v (.slice none 0 0))))), (7, .c (bC false)), (8, .c (.a (.bp k8 0))), (25, .c (plsC .un p.args)), (26, iX .i64 (((p.args.map plT').length : Nat) : Int)), (27, iX .i64 ((i : Nat) : Int))], lv [(4, .box [.t (.v (.int .i64 p.k)), .t (.v (.int .i64 p.src)), .t (.sl .un 1 (p.cols.map i64T)), .t (.sl .un 8 (p.keys.map exT')), .t (.v (.int .i64 p.flt.op)), .t (.v (.string p.flt.tb)), .t (.v (.string p.flt.nm)), .t (.v (.int .i64 p.flt.ix)), .t (.v (.int .i64 p.flt.vk)), .t (.v (.int .i64 p.flt.vn)), .t (.v (.string p.flt.vs)), .t (.sl .un 8 (p.flt.args.map exT')), .t (.sl .un 13 (p.args.map plT'))])], upd (upd (upd H k5 (some (.box [.t (.sl .un 8 (cj.map exT'))]))) k8 (some (.box [.ts k9 .ne 2 (us.map usT)]))) k9 (some (.tip 85 2 (us.map usT).length))⟩) (fun i => p.args.length - i) 0 ⟨_, Wk.keep 103 [(0, .c (.a (.bp kx 0))), (4, .lp 4 0), (5, .c (.a (.bp k5 0))), (6, .c (.a (.t (.v (.slice none 0 0))))), (7, .c (bC false)), (8, .c (.a (.bp k8 0))), (25, .c (plsC .un p.args)), (26, iX .i64 (((p.args.map plT').length : Nat) : Int)), (27, iX .i64 ((((0 : Nat)) : Nat) : Int))] [(4, .box [.t (.v (.int .i64 p.k)), .t (.v (.int .i64 p.src)), .t (.sl .un 1 (p.cols.map i64T)), .t (.sl .un 8 (p.keys.map exT')), .t (.v (.int .i64 p.flt.op)), .t (.v (.string p.flt.tb)), .t (.v (.string p.flt.nm)), .t (.v (.int .i64 p.flt.ix)), .t (.v (.int .i64 p.flt.vk)), .t (.v (.int .i64 p.flt.vn)), .t (.v (.string p.flt.vs)), .t (.sl .un 8 (p.flt.args.map exT')), .t (.sl .un 13 (p.args.map plT'))])] (upd (upd (upd H k5 (some (.box [.t (.sl .un 8 (cj.map exT'))]))) k8 (some (.box [.ts (kt) .ne 2 (([]).map usT)]))) (kt) (some (.tip 85 2 (([]).map usT).length))) rfl ⟨rfl, rfl, rfl, rfl, rfl, rfl, rfl, rfl, rfl, trivial⟩ ⟨rfl, trivial⟩ (fun _ _ h => h) rfl, kt, [], ⟨Nat.zero_le _, ⟨hkt, n8t⟩, by simpa using (by omega : usNs cj.length p.args + ((cnj p.flt).length + p.keys.length) * cj.length ≤ 1000000000000), rfl⟩, rfl⟩ (fun i s hs => ?_)
 obtain ⟨k9, us, ⟨hi0, ⟨hk9, n89⟩, hB, hI⟩, rfl⟩ := hs
 have hk9b : upd (upd H k5 (some (.box [.t (.sl .un 8 (cj.map exT'))]))) k8 (some (.box [.ts k9 .ne 2 (us.map usT)])) k9 = none := by rw [upd_ne _ _ n89.symm]; exact hk9
 have n85 := (upd_lt hk8).1.symm
 have n95 := (upd_lt hk9).1.symm
 refine sR ?_
 refine SeqK.q (q_lss rfl rfl rfl) rfl rfl rfl ?_
 refine SeqK.nil ?_
 refine AW.seq ?_
 refine AW.condD rfl (fun h28 => ?_) (fun h28 => ?_)
 ·
  have hi : i < p.args.length := by rw [List.length_map] at h28; omega
  have hng := usNs_go (n := cj.length) hi
  refine AW.skip ?_
  refine AW.seq ?_
  refine AW.block ?_
  refine sR ?_
  refine SeqK.q (q_index _ rfl Fx.sl28 rfl rfl (by omega) (idx_pl hi)) rfl rfl rfl ?_
  refine SeqK.q (q_load (.g [_, _, _, _, _, _, _, _, _, _, _, _, _]) rfl Fx.ty30 rfl rfl rfl) rfl rfl rfl ?_
  refine SeqK.r (b_alloc (r := [_, _, _, _, _, _, _, _, _, _, _, _, _]) rfl rfl Fx.ze30 rfl rfl rfl rfl) rfl ?_
  refine SeqK.r (b_store (r := [_, _, _, _, _, _, _, _, _, _, _, _, _]) rfl rfl Fx.ty30 rfl rfl rfl rfl rfl rfl) rfl ?_
  refine SeqK.nil ?_
  refine sR ?_
  refine sM ?_
  refine SeqK.r (b_load (r := .g [_, _, _, _, _, _, _, _, _, _, _, _, _]) rfl Fx.ty30 rfl rfl rfl rfl rfl rfl) rfl ?_
  refine SeqK.r (g_load (r := .a _) rfl Fx.ty23 rfl (by (repeat rw [upd_ne _ _ (by first | assumption | exact Ne.symm (by assumption))]); first | assumption | exact upd_same _ _ _) rfl rfl rfl rfl) rfl ?_
  refine SeqK.r (g_call rfl Fx.fn28 rfl (ih p.args[i] (List.getElem_mem hi) _ ((fun j o h => upd_sub hk9b j o (upd_sub hk8 j o (upd_sub hk5 j o h))) _ _ hx)) rfl rfl rfl) rfl ?_
  refine SeqK.q (q_mvT rfl rfl) rfl rfl rfl ?_
  refine SeqK.q (q_extract _ rfl rfl rfl) rfl rfl rfl ?_
  refine SeqK.q (q_extract _ rfl rfl rfl) rfl rfl rfl ?_
  refine sA ?_
  refine sA ?_
  refine SeqK.nil ?_
  refine AW.seq ?_
  refine sR ?_
  refine sM ?_
  refine SeqK.q (q_not rfl rfl) rfl rfl rfl ?_
  refine SeqK.nil ?_
  refine AW.cond _ rfl (fun h39 => ?_) (fun h39 => ?_)
  ·
   have hno : usM d0 b cj p.args[i] = none := by cases hq : usM d0 b cj p.args[i] with
    | none => rfl
    | some _ => rw [hq] at h39; cases h39
   refine AW.seq ?_
   have hnone : usM d0 b cj p = none := by rw [hpe, ← hI, usMs_no hi hno]; rfl
   refine AW.reg ?_
   refine sA ?_
   refine sA ?_
   refine SeqK.nil ?_
   refine AW.xw 6 rfl (XW.nilU (sz := 2)) ?_
   refine AW.ret ?_
   exact fin_x (x := .tup [_, _]) (H) (.tmp rfl (.tmp rfl .nil)) rfl ((fun j o h => upd_sub hk9b j o (upd_sub hk8 j o (upd_sub hk5 j o h)))) (⟨usX_no hnone, rfl⟩)
  have hso : usM d0 b cj p.args[i] = some ((usM d0 b cj p.args[i]).getD []) := by cases hq : usM d0 b cj p.args[i] with
   | none => rw [hq] at h39; cases h39
   | some _ => rfl
  have hle := usM_le _ _ hso
  refine AW.skip ?_
  refine AW.reg ?_
  refine SeqK.r (g_load (r := .a _) rfl Fx.ty77 rfl (by (repeat rw [upd_ne _ _ (by first | assumption | exact Ne.symm (by assumption))]); first | assumption | exact upd_same _ _ _) rfl rfl rfl rfl) rfl ?_
  refine sM ?_
  refine SeqK.app1 rfl (hk9b) rfl Fx.el77 rfl rfl (by rw [List.length_map, List.length_map]; omega) rfl rfl (fun k42 hk42 => ?_)
  refine SeqK.r (g_store rfl rfl Fx.ty77 rfl rfl (by rw [upd_ne _ _ (upd_lt hk42).1.symm]; exact upd_same _ _ _) rfl rfl rfl) rfl ?_
  refine SeqK.nil ?_
  refine AW.reg ?_
  refine SeqK.q (q_add _ rfl rfl rfl (w64 (by omega) (by omega))) rfl rfl rfl ?_
  refine sM ?_
  refine SeqK.nil ?_
  exact ⟨i + 1, _, Wk.keep 103 [(0, .c (.a (.bp kx 0))), (4, .lp 4 0), (5, .c (.a (.bp k5 0))), (6, .c (.a (.t (.v (.slice none 0 0))))), (7, .c (bC false)), (8, .c (.a (.bp k8 0))), (25, .c (plsC .un p.args)), (26, iX .i64 (((p.args.map plT').length : Nat) : Int)), (27, iX .i64 (((i + 1) : Nat) : Int))] [(4, .box [.t (.v (.int .i64 p.k)), .t (.v (.int .i64 p.src)), .t (.sl .un 1 (p.cols.map i64T)), .t (.sl .un 8 (p.keys.map exT')), .t (.v (.int .i64 p.flt.op)), .t (.v (.string p.flt.tb)), .t (.v (.string p.flt.nm)), .t (.v (.int .i64 p.flt.ix)), .t (.v (.int .i64 p.flt.vk)), .t (.v (.int .i64 p.flt.vn)), .t (.v (.string p.flt.vs)), .t (.sl .un 8 (p.flt.args.map exT')), .t (.sl .un 13 (p.args.map plT'))])] (upd (upd (upd H k5 (some (.box [.t (.sl .un 8 (cj.map exT'))]))) k8 (some (.box [.ts (k42) .ne 2 ((us ++ ((usM d0 b cj p.args[i]).getD [])).map usT)]))) (k42) (some (.tip 85 2 ((us ++ ((usM d0 b cj p.args[i]).getD [])).map usT).length))) rfl ⟨rfl, rfl, rfl, rfl, rfl, rfl, rfl, rfl, rfl, trivial⟩ ⟨rfl, trivial⟩ (fun j o h => by rw [List.map_append] at h; show upd (upd (upd (upd H k5 (some (.box [.t (.sl .un 8 (cj.map exT'))]))) k8 _) k42 _) k8 _ j = some o; rw [upd_swap _ _ _ (upd_lt hk42).1, upd_upd]; exact h) rfl, by omega, k42, us ++ ((usM d0 b cj p.args[i]).getD []), ⟨hi, ⟨(upd_lt hk42).2, (upd_lt hk42).1.symm⟩, by rw [List.length_append]; omega, by rw [← hI, usMs_go hi hso]⟩, rfl⟩
 refine AW.exit ?_
 refine eth_e ?_
 refine eth_e ?_
 refine exit_here ?_
 refine AW.seq ?_
 obtain rfl : i = p.args.length := by rw [List.length_map] at h28; omega
 have hA : usMs d0 b cj p.args [] = some us := by rw [← hI, List.drop_length, usMs]
 have hI2 : (addC cj ((cnj p.flt).drop 0) us).bind (fun o2 => addK d0 b cj p p.keys 0 o2) = usM d0 b cj p := by rw [hpe, hA]; rfl
 have hB2 : us.length + ((cnj p.flt).length - 0) * cj.length + p.keys.length * cj.length ≤ 1000000000000 := by rw [Nat.add_mul] at hB; rw [Nat.sub_zero]; omega
 refine AW.reg ?_
 refine SeqK.q (q_mkFn rfl rfl rfl) rfl rfl rfl ?_
 refine sA ?_
 refine SeqK.nil ?_
 refine sR ?_
 refine sA ?_
 refine SeqK.nil ?_
 refine AW.seq ?_
 refine AW.seq ?_
 refine AW.xw 14 rfl XW.fn0 ?_
 refine AW.reg ?_
 refine SeqK.q (q_fieldL _ rfl Fx.fl30_4 rfl rfl) rfl rfl rfl ?_
 refine SeqK.r (b_load (r := .g [_, _, _, _, _, _, _, _]) rfl Fx.ty27 rfl rfl rfl rfl rfl rfl) rfl ?_
 refine SeqK.q (q_call _ rfl Fx.fn11 rfl (conj_any p.flt kf (by omega)) rfl) rfl rfl rfl ?_
 refine SeqK.q (q_len rfl Fx.un23 rfl) rfl rfl rfl ?_
 refine sM ?_
 refine SeqK.nil ?_
 refine AW.block ?_
 refine AW.loop (fun (i : Nat) s => ∃ (k9 : Nat) (us : List (Int × Bool)), (i ≤ (cnj p.flt).length ∧ ((upd H k5 (some (.box [.t (.sl .un 8 (cj.map exT'))]))) k9 = none ∧ k8 ≠ k9) ∧ us.length + ((cnj p.flt).length - i) * cj.length + p.keys.length * cj.length ≤ 1000000000000 ∧ (addC cj ((cnj p.flt).drop i) us).bind (fun o2 => addK d0 b cj p p.keys 0 o2) = usM d0 b cj p) ∧ s = ⟨103, sp [(0, .c (.a (.bp kx 0))), (4, .lp 4 0), (5, .c (.a (.bp k5 0))), (6, .c (.a (.t (.v (.slice none 0 0))))), (7, .c (bC false)), (8, .c (.a (.bp k8 0))), (13, .c (.a (.fn 45 [.bp k5 0, .bp k8 0]))), (14, .c (.a (.fn 46 []))), (47, .c (exsC .un (cnj p.flt))), (48, iX .i64 ((((cnj p.flt).map exT').length : Nat) : Int)), (49, iX .i64 ((i : Nat) : Int))], lv [(4, .box [.t (.v (.int .i64 p.k)), .t (.v (.int .i64 p.src)), .t (.sl .un 1 (p.cols.map i64T)), .t (.sl .un 8 (p.keys.map exT')), .t (.v (.int .i64 p.flt.op)), .t (.v (.string p.flt.tb)), .t (.v (.string p.flt.nm)), .t (.v (.int .i64 p.flt.ix)), .t (.v (.int .i64 p.flt.vk)), .t (.v (.int .i64 p.flt.vn)), .t (.v (.string p.flt.vs)), .t (.sl .un 8 (p.flt.args.map exT')), .t (.sl .un 13 (p.args.map plT'))])], upd (upd (upd H k5 (some (.box [.t (.sl .un 8 (cj.map exT'))]))) k8 (some (.box [.ts k9 .ne 2 (us.map usT)]))) k9 (some (.tip 85 2 (us.map usT).length))⟩) (fun i => (cnj p.flt).length - i) 0 ⟨_, Wk.keep 103 [(0, .c (.a (.bp kx 0))), (4, .lp 4 0), (5, .c (.a (.bp k5 0))), (6, .c (.a (.t (.v (.slice none 0 0))))), (7, .c (bC false)), (8, .c (.a (.bp k8 0))), (13, .c (.a (.fn 45 [.bp k5 0, .bp k8 0]))), (14, .c (.a (.fn 46 []))), (47, .c (exsC .un (cnj p.flt))), (48, iX .i64 ((((cnj p.flt).map exT').length : Nat) : Int)), (49, iX .i64 ((((0 : Nat)) : Nat) : Int))] [(4, .box [.t (.v (.int .i64 p.k)), .t (.v (.int .i64 p.src)), .t (.sl .un 1 (p.cols.map i64T)), .t (.sl .un 8 (p.keys.map exT')), .t (.v (.int .i64 p.flt.op)), .t (.v (.string p.flt.tb)), .t (.v (.string p.flt.nm)), .t (.v (.int .i64 p.flt.ix)), .t (.v (.int .i64 p.flt.vk)), .t (.v (.int .i64 p.flt.vn)), .t (.v (.string p.flt.vs)), .t (.sl .un 8 (p.flt.args.map exT')), .t (.sl .un 13 (p.args.map plT'))])] (upd (upd (upd H k5 (some (.box [.t (.sl .un 8 (cj.map exT'))]))) k8 (some (.box [.ts (k9) .ne 2 ((us).map usT)]))) (k9) (some (.tip 85 2 ((us).map usT).length))) rfl ⟨rfl, rfl, rfl, rfl, rfl, rfl, rfl, rfl, rfl, rfl, rfl, trivial⟩ ⟨rfl, trivial⟩ (fun _ _ h => h) rfl, k9, us, ⟨Nat.zero_le _, ⟨hk9, n89⟩, hB2, hI2⟩, rfl⟩ (fun i s hs => ?_)
 obtain ⟨k9, us, ⟨hi0, ⟨hk9, n89⟩, hB, hI⟩, rfl⟩ := hs
 have hk9b : upd (upd H k5 (some (.box [.t (.sl .un 8 (cj.map exT'))]))) k8 (some (.box [.ts k9 .ne 2 (us.map usT)])) k9 = none := by rw [upd_ne _ _ n89.symm]; exact hk9
 have n85 := (upd_lt hk8).1.symm
 have n95 := (upd_lt hk9).1.symm
 refine sR ?_
 refine SeqK.q (q_lss rfl rfl rfl) rfl rfl rfl ?_
 refine SeqK.nil ?_
 refine AW.seq ?_
 refine AW.condD rfl (fun h50 => ?_) (fun h50 => ?_)
 ·
  have hi : i < (cnj p.flt).length := by rw [List.length_map] at h50; omega
  have hmg := mul_go (n := cj.length) hi
  refine AW.skip ?_
  refine AW.seq ?_
  refine AW.block ?_
  refine sR ?_
  refine SeqK.q (q_index _ rfl Fx.sl23 rfl rfl (by omega) (idx_ex hi)) rfl rfl rfl ?_
  refine SeqK.q (q_load (.g [_, _, _, _, _, _, _, _]) rfl Fx.ty27 rfl rfl rfl) rfl rfl rfl ?_
  refine SeqK.newAlloc (r := [_, _, _, _, _, _, _, _]) rfl rfl rfl Fx.ze27 rfl rfl rfl (fun k16 hk16 => ?_)
  refine SeqK.r (g_store rfl rfl Fx.ty27 rfl rfl (by (repeat rw [upd_ne _ _ (by first | assumption | exact Ne.symm (by assumption))]); first | assumption | exact upd_same _ _ _) rfl rfl rfl) rfl ?_
  refine SeqK.nil ?_
  refine AW.seq ?_
  obtain ⟨r16, r168, r169⟩ := lt3 hk16
  rw [upd_upd, ← rot (a := k16) r168 r169]
  refine AW.reg ?_
  refine sM ?_
  refine SeqK.q (q_mkFn rfl rfl rfl) rfl rfl rfl ?_
  refine sM ?_
  refine SeqK.callV (f := 45) (cs := [.bp k5 0, .bp k8 0]) rfl rfl rfl rfl rfl Fx.fn45 rfl (findU_any (upd (upd H k5 (some (.box [.t (.sl .un 8 (cj.map exT'))]))) k16 (some (.box [.t (.v (.int .i64 (cnj p.flt)[i].op)), .t (.v (.string (cnj p.flt)[i].tb)), .t (.v (.string (cnj p.flt)[i].nm)), .t (.v (.int .i64 (cnj p.flt)[i].ix)), .t (.v (.int .i64 (cnj p.flt)[i].vk)), .t (.v (.int .i64 (cnj p.flt)[i].vn)), .t (.v (.string (cnj p.flt)[i].vs)), .t (.sl .un 8 ((cnj p.flt)[i].args.map exT'))]))) k5 k8 k9 cj us 47 46 [.bp k16 0] [] (fun e => decide (e = (cnj p.flt)[i])) (fun _ => true) (upd_sub r16 _ _ (upd_same _ _ _)) (by rw [upd_ne _ _ r168.symm]; exact hk8) (by rw [upd_ne _ _ r169.symm]; exact hk9) n89 Fx.fn47 Fx.fn46 (fun x hxm H1 h1 => eqTo_any H1 k16 (cnj p.flt)[i] (h1 _ _ (upd_same _ _ _)) x (hcj x hxm)) (fun x _ H1 _ => always_fn x H1) (by omega)) (fun _ _ h => by rw [h.1]; rfl) (fun x56 H56 q56 => ?_)
  obtain ⟨rfl, k56, hk56, n86, hHs⟩ := q56
  subst hHs
  have v8 : (upd (upd H k5 (some (.box [.t (.sl .un 8 (cj.map exT'))]))) k16 (some (.box [.t (.v (.int .i64 (cnj p.flt)[i].op)), .t (.v (.string (cnj p.flt)[i].tb)), .t (.v (.string (cnj p.flt)[i].nm)), .t (.v (.int .i64 (cnj p.flt)[i].ix)), .t (.v (.int .i64 (cnj p.flt)[i].vk)), .t (.v (.int .i64 (cnj p.flt)[i].vn)), .t (.v (.string (cnj p.flt)[i].vs)), .t (.sl .un 8 ((cnj p.flt)[i].args.map exT'))]))) k8 = none := by rw [upd_ne _ _ r168.symm]; exact hk8
  have w56 : ∀ x, upd (upd (upd H k5 (some (.box [.t (.sl .un 8 (cj.map exT'))]))) k16 (some (.box [.t (.v (.int .i64 (cnj p.flt)[i].op)), .t (.v (.string (cnj p.flt)[i].tb)), .t (.v (.string (cnj p.flt)[i].nm)), .t (.v (.int .i64 (cnj p.flt)[i].ix)), .t (.v (.int .i64 (cnj p.flt)[i].vk)), .t (.v (.int .i64 (cnj p.flt)[i].vn)), .t (.v (.string (cnj p.flt)[i].vs)), .t (.sl .un 8 ((cnj p.flt)[i].args.map exT'))]))) k8 x k56 = none := fun x => by rw [upd_ne _ _ n86.symm]; exact hk56
  refine SeqK.q (q_not rfl rfl) rfl rfl rfl ?_
  refine SeqK.nil ?_
  refine AW.cond _ rfl (fun h57 => ?_) (fun h57 => ?_)
  ·
   refine AW.seq ?_
   have hnone : usM d0 b cj p = none := by rw [← hI, addC_no hi (by simpa using h57)]; rfl
   refine AW.reg ?_
   refine sA ?_
   refine sA ?_
   refine SeqK.nil ?_
   refine AW.xw 6 rfl (XW.nilU (sz := 2)) ?_
   refine AW.ret ?_
   exact fin_x (x := .tup [_, _]) (H) (.tmp rfl (.tmp rfl .nil)) rfl ((fun j o h => upd_sub (w56 _) j o (upd_sub v8 j o (upd_sub r16 j o (upd_sub hk5 j o h))))) (⟨usX_no hnone, rfl⟩)
  refine AW.skip ?_
  refine AW.reg ?_
  refine SeqK.q (q_add _ rfl rfl rfl (w64 (by omega) (by omega))) rfl rfl rfl ?_
  refine sM ?_
  refine SeqK.nil ?_
  exact ⟨i + 1, _, Wk.keep 103 [(0, .c (.a (.bp kx 0))), (4, .lp 4 0), (5, .c (.a (.bp k5 0))), (6, .c (.a (.t (.v (.slice none 0 0))))), (7, .c (bC false)), (8, .c (.a (.bp k8 0))), (13, .c (.a (.fn 45 [.bp k5 0, .bp k8 0]))), (14, .c (.a (.fn 46 []))), (47, .c (exsC .un (cnj p.flt))), (48, iX .i64 ((((cnj p.flt).map exT').length : Nat) : Int)), (49, iX .i64 (((i + 1) : Nat) : Int))] [(4, .box [.t (.v (.int .i64 p.k)), .t (.v (.int .i64 p.src)), .t (.sl .un 1 (p.cols.map i64T)), .t (.sl .un 8 (p.keys.map exT')), .t (.v (.int .i64 p.flt.op)), .t (.v (.string p.flt.tb)), .t (.v (.string p.flt.nm)), .t (.v (.int .i64 p.flt.ix)), .t (.v (.int .i64 p.flt.vk)), .t (.v (.int .i64 p.flt.vn)), .t (.v (.string p.flt.vs)), .t (.sl .un 8 (p.flt.args.map exT')), .t (.sl .un 13 (p.args.map plT'))])] (upd (upd (upd H k5 (some (.box [.t (.sl .un 8 (cj.map exT'))]))) k8 (some (.box [.ts (k56) .ne 2 ((us ++ hitF (fun e => decide (e = (cnj p.flt)[i])) (fun _ => true) cj 0).map usT)]))) (k56) (some (.tip 85 2 ((us ++ hitF (fun e => decide (e = (cnj p.flt)[i])) (fun _ => true) cj 0).map usT).length))) rfl ⟨rfl, rfl, rfl, rfl, rfl, rfl, rfl, rfl, rfl, rfl, rfl, trivial⟩ ⟨rfl, trivial⟩ (updM (updM (upd_sub r16))) rfl, by omega, k56, us ++ hitF (fun e => decide (e = (cnj p.flt)[i])) (fun _ => true) cj 0, ⟨hi, ⟨(upd_lt hk56).2, n86⟩, by rw [List.length_append]; have h9 := hitF_len (gv := fun e => decide (e = (cnj p.flt)[i])) (ge := fun _ => true) cj 0; omega, by rw [← hI, addC_go hi (by simpa using h57)]⟩, rfl⟩
 refine AW.exit ?_
 refine eth_e ?_
 refine eth_e ?_
 refine exit_here ?_
 refine AW.seq ?_
 refine AW.seq ?_
 obtain rfl : i = (cnj p.flt).length := by rw [List.length_map] at h50; omega
 have hI3 : addK d0 b cj p (p.keys.drop 0) 0 us = usM d0 b cj p := by rw [← hI, List.drop_length, addC]; rfl
 have hB3 : us.length + (p.keys.length - 0) * cj.length ≤ 1000000000000 := by rw [Nat.sub_zero]; omega
 refine AW.reg ?_
 refine SeqK.q (q_fieldL _ rfl Fx.fl30_3 rfl rfl) rfl rfl rfl ?_
 refine SeqK.r (b_load (r := .a _) rfl Fx.ty23 rfl rfl rfl rfl rfl rfl) rfl ?_
 refine SeqK.q (q_len rfl Fx.un23 rfl) rfl rfl rfl ?_
 refine sM ?_
 refine SeqK.nil ?_
 refine AW.block ?_
 refine AW.loop (fun (i : Nat) s => ∃ (k9 : Nat) (us : List (Int × Bool)), (i ≤ p.keys.length ∧ ((upd H k5 (some (.box [.t (.sl .un 8 (cj.map exT'))]))) k9 = none ∧ k8 ≠ k9) ∧ us.length + (p.keys.length - i) * cj.length ≤ 1000000000000 ∧ addK d0 b cj p (p.keys.drop i) i us = usM d0 b cj p) ∧ s = ⟨103, sp [(0, .c (.a (.bp kx 0))), (4, .lp 4 0), (5, .c (.a (.bp k5 0))), (6, .c (.a (.t (.v (.slice none 0 0))))), (7, .c (bC false)), (8, .c (.a (.bp k8 0))), (13, .c (.a (.fn 45 [.bp k5 0, .bp k8 0]))), (14, .c (.a (.fn 46 []))), (60, .c (exsC .un p.keys)), (61, iX .i64 (((p.keys.map exT').length : Nat) : Int)), (62, iX .i64 ((i : Nat) : Int))], lv [(4, .box [.t (.v (.int .i64 p.k)), .t (.v (.int .i64 p.src)), .t (.sl .un 1 (p.cols.map i64T)), .t (.sl .un 8 (p.keys.map exT')), .t (.v (.int .i64 p.flt.op)), .t (.v (.string p.flt.tb)), .t (.v (.string p.flt.nm)), .t (.v (.int .i64 p.flt.ix)), .t (.v (.int .i64 p.flt.vk)), .t (.v (.int .i64 p.flt.vn)), .t (.v (.string p.flt.vs)), .t (.sl .un 8 (p.flt.args.map exT')), .t (.sl .un 13 (p.args.map plT'))])], upd (upd (upd H k5 (some (.box [.t (.sl .un 8 (cj.map exT'))]))) k8 (some (.box [.ts k9 .ne 2 (us.map usT)]))) k9 (some (.tip 85 2 (us.map usT).length))⟩) (fun i => p.keys.length - i) 0 ⟨_, Wk.keep 103 [(0, .c (.a (.bp kx 0))), (4, .lp 4 0), (5, .c (.a (.bp k5 0))), (6, .c (.a (.t (.v (.slice none 0 0))))), (7, .c (bC false)), (8, .c (.a (.bp k8 0))), (13, .c (.a (.fn 45 [.bp k5 0, .bp k8 0]))), (14, .c (.a (.fn 46 []))), (60, .c (exsC .un p.keys)), (61, iX .i64 (((p.keys.map exT').length : Nat) : Int)), (62, iX .i64 ((((0 : Nat)) : Nat) : Int))] [(4, .box [.t (.v (.int .i64 p.k)), .t (.v (.int .i64 p.src)), .t (.sl .un 1 (p.cols.map i64T)), .t (.sl .un 8 (p.keys.map exT')), .t (.v (.int .i64 p.flt.op)), .t (.v (.string p.flt.tb)), .t (.v (.string p.flt.nm)), .t (.v (.int .i64 p.flt.ix)), .t (.v (.int .i64 p.flt.vk)), .t (.v (.int .i64 p.flt.vn)), .t (.v (.string p.flt.vs)), .t (.sl .un 8 (p.flt.args.map exT')), .t (.sl .un 13 (p.args.map plT'))])] (upd (upd (upd H k5 (some (.box [.t (.sl .un 8 (cj.map exT'))]))) k8 (some (.box [.ts (k9) .ne 2 ((us).map usT)]))) (k9) (some (.tip 85 2 ((us).map usT).length))) rfl ⟨rfl, rfl, rfl, rfl, rfl, rfl, rfl, rfl, rfl, rfl, rfl, trivial⟩ ⟨rfl, trivial⟩ (fun _ _ h => h) rfl, k9, us, ⟨Nat.zero_le _, ⟨hk9, n89⟩, hB3, hI3⟩, rfl⟩ (fun i s hs => ?_)
 obtain ⟨k9, us, ⟨hi0, ⟨hk9, n89⟩, hB, hI⟩, rfl⟩ := hs
 have hk9b : upd (upd H k5 (some (.box [.t (.sl .un 8 (cj.map exT'))]))) k8 (some (.box [.ts k9 .ne 2 (us.map usT)])) k9 = none := by rw [upd_ne _ _ n89.symm]; exact hk9
 have n85 := (upd_lt hk8).1.symm
 have n95 := (upd_lt hk9).1.symm
 refine sR ?_
 refine SeqK.q (q_lss rfl rfl rfl) rfl rfl rfl ?_
 refine SeqK.nil ?_
 refine AW.seq ?_
 refine AW.condD rfl (fun h63 => ?_) (fun h63 => ?_)
 ·
  have hi : i < p.keys.length := by rw [List.length_map] at h63; omega
  have hmg := mul_go (n := cj.length) hi
  have nf := nfP_of hsh (by omega)
  have hc0 := nf.c0
  have hcc0 := nf.cc 0 hc0
  have hnc := ncol_le hb.hc (tabI b.tabs p.src)
  have hof := hb.off p.src.toNat
  refine AW.skip ?_
  refine AW.seq ?_
  refine AW.block ?_
  refine sR ?_
  refine sM ?_
  refine SeqK.q (q_index _ rfl Fx.sl23 rfl rfl (by omega) (idx_ex hi)) rfl rfl rfl ?_
  refine SeqK.q (q_load (.g [_, _, _, _, _, _, _, _]) rfl Fx.ty27 rfl rfl rfl) rfl rfl rfl ?_
  refine SeqK.newAlloc (r := [_, _, _, _, _, _, _, _]) rfl rfl rfl Fx.ze27 rfl rfl rfl (fun k18 hk18 => ?_)
  refine sA ?_
  refine SeqK.r (g_store rfl rfl Fx.ty27 rfl rfl (by (repeat rw [upd_ne _ _ (by first | assumption | exact Ne.symm (by assumption))]); first | assumption | exact upd_same _ _ _) rfl rfl rfl) rfl ?_
  refine SeqK.nil ?_
  refine AW.seq ?_
  refine AW.seq ?_
  obtain ⟨r18, r188, r189⟩ := lt3 hk18
  rw [upd_upd]
  refine AW.reg ?_
  refine SeqK.q (q_fieldH _ rfl Fx.fl27_0 rfl rfl) rfl rfl rfl ?_
  refine SeqK.r (g_load (r := .a _) rfl Fx.ty3 rfl (by (repeat rw [upd_ne _ _ (by first | assumption | exact Ne.symm (by assumption))]); first | assumption | exact upd_same _ _ _) rfl rfl rfl rfl) rfl ?_
  refine SeqK.q (q_eql rfl rfl rfl) rfl rfl rfl ?_
  refine SeqK.nil ?_
  refine AW.condD rfl (fun h69 => ?_) (fun h69 => ?_)
  ·
   refine AW.exit ?_
   refine eth_e ?_
   refine exit_here ?_
   refine AW.reg ?_
   refine SeqK.q (q_add _ rfl rfl rfl (w64 (by omega) (by omega))) rfl rfl rfl ?_
   refine sM ?_
   refine SeqK.nil ?_
   exact ⟨i + 1, _, Wk.keep 103 [(0, .c (.a (.bp kx 0))), (4, .lp 4 0), (5, .c (.a (.bp k5 0))), (6, .c (.a (.t (.v (.slice none 0 0))))), (7, .c (bC false)), (8, .c (.a (.bp k8 0))), (13, .c (.a (.fn 45 [.bp k5 0, .bp k8 0]))), (14, .c (.a (.fn 46 []))), (60, .c (exsC .un p.keys)), (61, iX .i64 (((p.keys.map exT').length : Nat) : Int)), (62, iX .i64 (((i + 1) : Nat) : Int))] [(4, .box [.t (.v (.int .i64 p.k)), .t (.v (.int .i64 p.src)), .t (.sl .un 1 (p.cols.map i64T)), .t (.sl .un 8 (p.keys.map exT')), .t (.v (.int .i64 p.flt.op)), .t (.v (.string p.flt.tb)), .t (.v (.string p.flt.nm)), .t (.v (.int .i64 p.flt.ix)), .t (.v (.int .i64 p.flt.vk)), .t (.v (.int .i64 p.flt.vn)), .t (.v (.string p.flt.vs)), .t (.sl .un 8 (p.flt.args.map exT')), .t (.sl .un 13 (p.args.map plT'))])] (upd (upd (upd H k5 (some (.box [.t (.sl .un 8 (cj.map exT'))]))) k8 (some (.box [.ts (k9) .ne 2 ((us).map usT)]))) (k9) (some (.tip 85 2 ((us).map usT).length))) rfl ⟨rfl, rfl, rfl, rfl, rfl, rfl, rfl, rfl, rfl, rfl, rfl, trivial⟩ ⟨rfl, trivial⟩ (upd_sub hk18) rfl, by omega, k9, us, ⟨hi, ⟨hk9, n89⟩, by omega, by rw [← hI, addK_skip hi h69]⟩, rfl⟩
  refine AW.skip ?_
  refine sR ?_
  refine sM ?_
  refine SeqK.r (b_alloc (r := [_]) rfl rfl Fx.ze110 rfl rfl rfl rfl) rfl ?_
  refine SeqK.r (b_alloc (r := [_]) rfl rfl Fx.ze110 rfl rfl rfl rfl) rfl ?_
  refine SeqK.r (b_store (r := [_]) rfl rfl Fx.ty110 rfl rfl rfl rfl rfl rfl) rfl ?_
  refine SeqK.r (b_store (r := [_]) rfl rfl Fx.ty110 rfl rfl rfl rfl rfl rfl) rfl ?_
  refine sA ?_
  refine SeqK.nil ?_
  refine sR ?_
  refine SeqK.q (q_fieldL _ rfl Fx.fl30_2 rfl rfl) rfl rfl rfl ?_
  refine SeqK.r (b_load (r := .a _) rfl Fx.ty22 rfl rfl rfl rfl rfl rfl) rfl ?_
  refine SeqK.q (q_index _ rfl Fx.sl22 rfl rfl (by omega) (idx_map (f := i64T) hc0)) rfl rfl rfl ?_
  refine SeqK.q (q_load (.a _) rfl Fx.ty3 rfl rfl rfl) rfl rfl rfl ?_
  refine sA ?_
  refine SeqK.nil ?_
  refine AW.seq ?_
  refine AW.block ?_
  refine sR ?_
  refine SeqK.q (q_fieldL _ rfl Fx.fl30_0 rfl rfl) rfl rfl rfl ?_
  refine SeqK.r (b_load (r := .a _) rfl Fx.ty3 rfl rfl rfl rfl rfl rfl) rfl ?_
  refine SeqK.q (q_eql rfl rfl rfl) rfl rfl rfl ?_
  refine sA ?_
  refine SeqK.nil ?_
  refine AW.condD rfl (fun h75 => ?_) (fun h75 => ?_)
  ·
   have hic : i < p.cols.length := by rw [← nf.c2 h75]; exact hi
   have hcci := nf.cc i hic
   have hck : colK p i = p.cols[i] := by rw [colK, if_pos h75, List.getD_eq_getElem?_getD, List.getElem?_eq_getElem hic]; rfl
   refine AW.reg ?_
   refine SeqK.q (q_fieldL _ rfl Fx.fl30_2 rfl rfl) rfl rfl rfl ?_
   refine SeqK.r (b_load (r := .a _) rfl Fx.ty22 rfl rfl rfl rfl rfl rfl) rfl ?_
   refine sM ?_
   refine SeqK.q (q_index _ rfl Fx.sl22 rfl rfl (by omega) (idx_map (f := i64T) hic)) rfl rfl rfl ?_
   refine SeqK.q (q_load (.a _) rfl Fx.ty3 rfl rfl rfl) rfl rfl rfl ?_
   refine sA ?_
   refine SeqK.nil ?_
   refine AW.seq ?_
   refine sR ?_
   refine SeqK.q (q_fieldL _ rfl Fx.fl30_0 rfl rfl) rfl rfl rfl ?_
   refine SeqK.r (b_load (r := .a _) rfl Fx.ty3 rfl rfl rfl rfl rfl rfl) rfl ?_
   refine SeqK.q (q_eql rfl rfl rfl) rfl rfl rfl ?_
   refine SeqK.nil ?_
   refine AW.condD rfl (fun h89 => ?_) (fun h89 => ?_)
   ·
    omega
   refine AW.skip ?_
   refine sR ?_
   refine sM ?_
   refine SeqK.q (q_fieldL _ rfl Fx.fl30_1 rfl rfl) rfl rfl rfl ?_
   refine SeqK.r (b_load (r := .a _) rfl Fx.ty3 rfl rfl rfl rfl rfl rfl) rfl ?_
   refine SeqK.r (g_call rfl Fx.fn53 rfl (first_any _ kx d0 b (upd_sub hk18 _ _ ((fun j o h => upd_sub hk9b j o (upd_sub hk8 j o (upd_sub hk5 j o h))) _ _ hx)) hb p.src ⟨nf.src.1, by have := nf.src.2; omega⟩) rfl rfl rfl) rfl ?_
   refine sM ?_
   refine SeqK.q (q_add _ rfl rfl rfl ((by rw [w64 (by omega) (by omega)]; show _ = (offM d0 (b.tabs.take p.src.toNat) : Int) + colK p i; omega : IntKind.i64.wrap _ = varK d0 b p i))) rfl rfl rfl ?_
   refine SeqK.newAlloc (r := [_]) rfl rfl rfl Fx.ze3 rfl rfl rfl (fun k23 hk23 => ?_)
   refine SeqK.r (g_store rfl rfl Fx.ty3 rfl rfl (by (repeat rw [upd_ne _ _ (by first | assumption | exact Ne.symm (by assumption))]); first | assumption | exact upd_same _ _ _) rfl rfl rfl) rfl ?_
   refine SeqK.nil ?_
   refine AW.seq ?_
   rw [upd_upd (k := k23)]
   refine AW.xwL 19 rfl (.cons XW.fn0 .nil) ?_
   refine AW.xwL 20 rfl (.cons XW.fn0 .nil) ?_
   refine AW.exp 19 rfl (fun _ _ _ _ h => by cases h) (fun k19 hk19 => ?_)
   refine AW.exp 20 rfl (fun _ _ _ _ h => by cases h) (fun k20 hk20 => ?_)
   obtain ⟨a1, a2⟩ := upd_lt hk23
   obtain ⟨a3, a4, a5⟩ := lt3 a2
   obtain ⟨b1, b2⟩ := upd_lt hk19
   obtain ⟨b3, b4⟩ := upd_lt b2
   obtain ⟨b5, b6, b7⟩ := lt3 b4
   obtain ⟨c1, c2⟩ := upd_lt hk20
   obtain ⟨c3, c4⟩ := upd_lt c2
   obtain ⟨c5, c6⟩ := upd_lt c4
   obtain ⟨c7, c8, c9⟩ := lt3 c6
   rw [← rot (a := k18) r188 r189, ← rot (a := k23) a4 a5, ← rot (a := k19) b6 b7, ← rot (a := k20) c8 c9]
   have s23 : upd (upd H k5 (some (.box [.t (.sl .un 8 (cj.map exT'))]))) k18 (some (.box [.t (.v (.int .i64 p.keys[i].op)), .t (.v (.string p.keys[i].tb)), .t (.v (.string p.keys[i].nm)), .t (.v (.int .i64 p.keys[i].ix)), .t (.v (.int .i64 p.keys[i].vk)), .t (.v (.int .i64 p.keys[i].vn)), .t (.v (.string p.keys[i].vs)), .t (.sl .un 8 (p.keys[i].args.map exT'))])) k23 = none := by rw [upd_ne _ _ a1]; exact a3
   have s19 : upd (upd (upd H k5 (some (.box [.t (.sl .un 8 (cj.map exT'))]))) k18 (some (.box [.t (.v (.int .i64 p.keys[i].op)), .t (.v (.string p.keys[i].tb)), .t (.v (.string p.keys[i].nm)), .t (.v (.int .i64 p.keys[i].ix)), .t (.v (.int .i64 p.keys[i].vk)), .t (.v (.int .i64 p.keys[i].vn)), .t (.v (.string p.keys[i].vs)), .t (.sl .un 8 (p.keys[i].args.map exT'))]))) k23 (some (.box [.t (.v (.int .i64 (varK d0 b p i)))])) k19 = none := by rw [upd_ne _ _ b1, upd_ne _ _ b3]; exact b5
   have s20 : ∀ x, upd (upd (upd (upd H k5 (some (.box [.t (.sl .un 8 (cj.map exT'))]))) k18 (some (.box [.t (.v (.int .i64 p.keys[i].op)), .t (.v (.string p.keys[i].tb)), .t (.v (.string p.keys[i].nm)), .t (.v (.int .i64 p.keys[i].ix)), .t (.v (.int .i64 p.keys[i].vk)), .t (.v (.int .i64 p.keys[i].vn)), .t (.v (.string p.keys[i].vs)), .t (.sl .un 8 (p.keys[i].args.map exT'))]))) k23 (some (.box [.t (.v (.int .i64 (varK d0 b p i)))]))) k19 x k20 = none := fun x => by rw [upd_ne _ _ c1, upd_ne _ _ c3, upd_ne _ _ c5]; exact c7
   have s20 := s20 (some (.box [.fn 49 []]))
   have u8 : (upd (upd (upd (upd (upd H k5 (some (.box [.t (.sl .un 8 (cj.map exT'))]))) k18 (some (.box [.t (.v (.int .i64 p.keys[i].op)), .t (.v (.string p.keys[i].tb)), .t (.v (.string p.keys[i].nm)), .t (.v (.int .i64 p.keys[i].ix)), .t (.v (.int .i64 p.keys[i].vk)), .t (.v (.int .i64 p.keys[i].vn)), .t (.v (.string p.keys[i].vs)), .t (.sl .un 8 (p.keys[i].args.map exT'))]))) k23 (some (.box [.t (.v (.int .i64 (varK d0 b p i)))]))) k19 (some (.box [.fn 49 []]))) k20 (some (.box [.fn 49 []]))) k8 = none := by rw [upd_ne _ _ c8.symm, upd_ne _ _ b6.symm, upd_ne _ _ a4.symm, upd_ne _ _ r188.symm]; exact hk8
   have u9 : (upd (upd (upd (upd (upd H k5 (some (.box [.t (.sl .un 8 (cj.map exT'))]))) k18 (some (.box [.t (.v (.int .i64 p.keys[i].op)), .t (.v (.string p.keys[i].tb)), .t (.v (.string p.keys[i].nm)), .t (.v (.int .i64 p.keys[i].ix)), .t (.v (.int .i64 p.keys[i].vk)), .t (.v (.int .i64 p.keys[i].vn)), .t (.v (.string p.keys[i].vs)), .t (.sl .un 8 (p.keys[i].args.map exT'))]))) k23 (some (.box [.t (.v (.int .i64 (varK d0 b p i)))]))) k19 (some (.box [.fn 49 []]))) k20 (some (.box [.fn 49 []]))) k9 = none := by rw [upd_ne _ _ c9.symm, upd_ne _ _ b7.symm, upd_ne _ _ a5.symm, upd_ne _ _ r189.symm]; exact hk9
   refine AW.reg ?_
   refine sM ?_
   refine SeqK.q (q_mkFn rfl rfl rfl) rfl rfl rfl ?_
   refine sM ?_
   refine SeqK.callV (f := 45) (cs := [.bp k5 0, .bp k8 0]) rfl rfl rfl rfl rfl Fx.fn45 rfl (findU_any (upd (upd (upd (upd (upd H k5 (some (.box [.t (.sl .un 8 (cj.map exT'))]))) k18 (some (.box [.t (.v (.int .i64 p.keys[i].op)), .t (.v (.string p.keys[i].tb)), .t (.v (.string p.keys[i].nm)), .t (.v (.int .i64 p.keys[i].ix)), .t (.v (.int .i64 p.keys[i].vk)), .t (.v (.int .i64 p.keys[i].vn)), .t (.v (.string p.keys[i].vs)), .t (.sl .un 8 (p.keys[i].args.map exT'))]))) k23 (some (.box [.t (.v (.int .i64 (varK d0 b p i)))]))) k19 (some (.box [.fn 49 []]))) k20 (some (.box [.fn 49 []]))) k5 k8 k9 cj us 54 46 [.bp k23 0, .bp k18 0, .bp k19 0, .bp k20 0] [] (gvK d0 b p i p.keys[i]) (geK p) ((fun j o h => upd_sub s20 j o (upd_sub s19 j o (upd_sub s23 j o (upd_sub r18 j o h)))) _ _ (upd_same _ _ _)) u8 u9 n89 Fx.fn54 Fx.fn46 (fun x hxm H1 h1 => by
    have e1 : ltK p i = sameB := if_pos h75
    have e2 : rtK p i = sameB := if_pos h75
    show E.Spec Try.prog 54 _ H1 fun y H'' => y = .c (bC (gvB x (varK d0 b p i) p.keys[i] (ltK p i) (rtK p i))) ∧ H'' = H1
    rw [e1, e2]
    exact givesTo_any H1 k23 k18 k19 k20 49 49 sameB sameB Fx.fn49 Fx.fn49 same_fn same_fn (varK d0 b p i) p.keys[i] (h1 _ _ (upd_sub s20 _ _ (upd_sub s19 _ _ (upd_same _ _ _)))) (h1 _ _ (upd_sub s20 _ _ (upd_sub s19 _ _ (upd_sub s23 _ _ (upd_same _ _ _))))) (h1 _ _ (upd_sub s20 _ _ (upd_same _ _ _))) (h1 _ _ (upd_same _ _ _)) x (hcj x hxm)) (fun x hxm H1 h1 => by
    show E.Spec Try.prog 46 _ H1 fun y H'' => y = .c (bC (geK p x)) ∧ H'' = H1
    rw [show geK p = fun _ => true from if_neg h89]
    exact always_fn x H1) (by omega)) (fun _ _ h => by rw [h.1]; rfl) (fun x99 H99 q99 => ?_)
   obtain ⟨rfl, k99, hk99, n86, hHs⟩ := q99
   subst hHs
   have f99 := (lt4 hk99)
   have w99 : ∀ x, upd (upd (upd (upd (upd (upd H k5 (some (.box [.t (.sl .un 8 (cj.map exT'))]))) k18 (some (.box [.t (.v (.int .i64 p.keys[i].op)), .t (.v (.string p.keys[i].tb)), .t (.v (.string p.keys[i].nm)), .t (.v (.int .i64 p.keys[i].ix)), .t (.v (.int .i64 p.keys[i].vk)), .t (.v (.int .i64 p.keys[i].vn)), .t (.v (.string p.keys[i].vs)), .t (.sl .un 8 (p.keys[i].args.map exT'))]))) k23 (some (.box [.t (.v (.int .i64 (varK d0 b p i)))]))) k19 (some (.box [.fn 49 []]))) k20 (some (.box [.fn 49 []]))) k8 x k99 = none := fun x => by rw [upd_ne _ _ n86.symm]; exact hk99
   refine SeqK.q (q_not rfl rfl) rfl rfl rfl ?_
   refine SeqK.nil ?_
   refine AW.cond _ rfl (fun h100 => ?_) (fun h100 => ?_)
   ·
    refine AW.seq ?_
    have hnone : usM d0 b cj p = none := by rw [← hI, addK_no hi h69 (by simpa using h100)]
    refine AW.reg ?_
    refine sA ?_
    refine sA ?_
    refine SeqK.nil ?_
    refine AW.xw 6 rfl (XW.nilU (sz := 2)) ?_
    refine AW.ret ?_
    exact fin_x (x := .tup [_, _]) (H) (.tmp rfl (.tmp rfl .nil)) rfl ((fun j o h => upd_sub (w99 _) j o (upd_sub u8 j o ((fun j o h => upd_sub s20 j o (upd_sub s19 j o (upd_sub s23 j o (upd_sub r18 j o h)))) j o (upd_sub hk5 j o h))))) (⟨usX_no hnone, rfl⟩)
   refine AW.skip ?_
   refine AW.reg ?_
   refine SeqK.q (q_add _ rfl rfl rfl (w64 (by omega) (by omega))) rfl rfl rfl ?_
   refine sM ?_
   refine SeqK.nil ?_
   exact ⟨i + 1, _, Wk.keep 103 [(0, .c (.a (.bp kx 0))), (4, .lp 4 0), (5, .c (.a (.bp k5 0))), (6, .c (.a (.t (.v (.slice none 0 0))))), (7, .c (bC false)), (8, .c (.a (.bp k8 0))), (13, .c (.a (.fn 45 [.bp k5 0, .bp k8 0]))), (14, .c (.a (.fn 46 []))), (60, .c (exsC .un p.keys)), (61, iX .i64 (((p.keys.map exT').length : Nat) : Int)), (62, iX .i64 (((i + 1) : Nat) : Int))] [(4, .box [.t (.v (.int .i64 p.k)), .t (.v (.int .i64 p.src)), .t (.sl .un 1 (p.cols.map i64T)), .t (.sl .un 8 (p.keys.map exT')), .t (.v (.int .i64 p.flt.op)), .t (.v (.string p.flt.tb)), .t (.v (.string p.flt.nm)), .t (.v (.int .i64 p.flt.ix)), .t (.v (.int .i64 p.flt.vk)), .t (.v (.int .i64 p.flt.vn)), .t (.v (.string p.flt.vs)), .t (.sl .un 8 (p.flt.args.map exT')), .t (.sl .un 13 (p.args.map plT'))])] (upd (upd (upd H k5 (some (.box [.t (.sl .un 8 (cj.map exT'))]))) k8 (some (.box [.ts (k99) .ne 2 ((us ++ hitF (gvK d0 b p i p.keys[i]) (geK p) cj 0).map usT)]))) (k99) (some (.tip 85 2 ((us ++ hitF (gvK d0 b p i p.keys[i]) (geK p) cj 0).map usT).length))) rfl ⟨rfl, rfl, rfl, rfl, rfl, rfl, rfl, rfl, rfl, rfl, rfl, trivial⟩ ⟨rfl, trivial⟩ (updM (updM (fun j o h => upd_sub s20 j o (upd_sub s19 j o (upd_sub s23 j o (upd_sub r18 j o h)))))) rfl, by omega, k99, us ++ hitF (gvK d0 b p i p.keys[i]) (geK p) cj 0, ⟨hi, ⟨f99, n86⟩, by rw [List.length_append]; have h9 := hitF_len (gv := gvK d0 b p i p.keys[i]) (ge := geK p) cj 0; omega, by rw [← hI, addK_go hi h69 (by simpa using h100)]⟩, rfl⟩
  have hck : colK p i = p.cols[0] := by rw [colK, if_neg h75, List.getD_eq_getElem?_getD, List.getElem?_eq_getElem hc0]; rfl
  refine sR ?_
  refine sM ?_
  refine SeqK.q (q_eql rfl rfl rfl) rfl rfl rfl ?_
  refine sA ?_
  refine SeqK.nil ?_
  refine AW.condD rfl (fun h84 => ?_) (fun h84 => ?_)
  ·
   have hi00 : i = 0 := by omega
   refine AW.reg ?_
   refine SeqK.r (b_store (r := [_]) rfl rfl Fx.ty110 rfl rfl rfl rfl rfl rfl) rfl ?_
   refine SeqK.r (b_store (r := [_]) rfl rfl Fx.ty110 rfl rfl rfl rfl rfl rfl) rfl ?_
   refine SeqK.nil ?_
   refine AW.seq ?_
   refine sR ?_
   refine SeqK.q (q_fieldL _ rfl Fx.fl30_0 rfl rfl) rfl rfl rfl ?_
   refine SeqK.r (b_load (r := .a _) rfl Fx.ty3 rfl rfl rfl rfl rfl rfl) rfl ?_
   refine SeqK.q (q_eql rfl rfl rfl) rfl rfl rfl ?_
   refine SeqK.nil ?_
   refine AW.condD rfl (fun h89 => ?_) (fun h89 => ?_)
   ·
    refine AW.reg ?_
    refine sA ?_
    refine SeqK.nil ?_
    refine AW.xw 21 rfl XW.fn0 ?_
    refine sR ?_
    refine sM ?_
    refine SeqK.q (q_fieldL _ rfl Fx.fl30_1 rfl rfl) rfl rfl rfl ?_
    refine SeqK.r (b_load (r := .a _) rfl Fx.ty3 rfl rfl rfl rfl rfl rfl) rfl ?_
    refine SeqK.r (g_call rfl Fx.fn53 rfl (first_any _ kx d0 b (upd_sub hk18 _ _ ((fun j o h => upd_sub hk9b j o (upd_sub hk8 j o (upd_sub hk5 j o h))) _ _ hx)) hb p.src ⟨nf.src.1, by have := nf.src.2; omega⟩) rfl rfl rfl) rfl ?_
    refine sM ?_
    refine SeqK.q (q_add _ rfl rfl rfl ((by rw [w64 (by omega) (by omega)]; show _ = (offM d0 (b.tabs.take p.src.toNat) : Int) + colK p i; omega : IntKind.i64.wrap _ = varK d0 b p i))) rfl rfl rfl ?_
    refine SeqK.newAlloc (r := [_]) rfl rfl rfl Fx.ze3 rfl rfl rfl (fun k23 hk23 => ?_)
    refine SeqK.r (g_store rfl rfl Fx.ty3 rfl rfl (by (repeat rw [upd_ne _ _ (by first | assumption | exact Ne.symm (by assumption))]); first | assumption | exact upd_same _ _ _) rfl rfl rfl) rfl ?_
    refine SeqK.nil ?_
    refine AW.seq ?_
    rw [upd_upd (k := k23)]
    refine AW.xwL 19 rfl (.cons XW.fn0 .nil) ?_
    refine AW.xwL 20 rfl (.cons XW.fn0 .nil) ?_
    refine AW.exp 19 rfl (fun _ _ _ _ h => by cases h) (fun k19 hk19 => ?_)
    refine AW.exp 20 rfl (fun _ _ _ _ h => by cases h) (fun k20 hk20 => ?_)
    obtain ⟨a1, a2⟩ := upd_lt hk23
    obtain ⟨a3, a4, a5⟩ := lt3 a2
    obtain ⟨b1, b2⟩ := upd_lt hk19
    obtain ⟨b3, b4⟩ := upd_lt b2
    obtain ⟨b5, b6, b7⟩ := lt3 b4
    obtain ⟨c1, c2⟩ := upd_lt hk20
    obtain ⟨c3, c4⟩ := upd_lt c2
    obtain ⟨c5, c6⟩ := upd_lt c4
    obtain ⟨c7, c8, c9⟩ := lt3 c6
    rw [← rot (a := k18) r188 r189, ← rot (a := k23) a4 a5, ← rot (a := k19) b6 b7, ← rot (a := k20) c8 c9]
    have s23 : upd (upd H k5 (some (.box [.t (.sl .un 8 (cj.map exT'))]))) k18 (some (.box [.t (.v (.int .i64 p.keys[i].op)), .t (.v (.string p.keys[i].tb)), .t (.v (.string p.keys[i].nm)), .t (.v (.int .i64 p.keys[i].ix)), .t (.v (.int .i64 p.keys[i].vk)), .t (.v (.int .i64 p.keys[i].vn)), .t (.v (.string p.keys[i].vs)), .t (.sl .un 8 (p.keys[i].args.map exT'))])) k23 = none := by rw [upd_ne _ _ a1]; exact a3
    have s19 : upd (upd (upd H k5 (some (.box [.t (.sl .un 8 (cj.map exT'))]))) k18 (some (.box [.t (.v (.int .i64 p.keys[i].op)), .t (.v (.string p.keys[i].tb)), .t (.v (.string p.keys[i].nm)), .t (.v (.int .i64 p.keys[i].ix)), .t (.v (.int .i64 p.keys[i].vk)), .t (.v (.int .i64 p.keys[i].vn)), .t (.v (.string p.keys[i].vs)), .t (.sl .un 8 (p.keys[i].args.map exT'))]))) k23 (some (.box [.t (.v (.int .i64 (varK d0 b p i)))])) k19 = none := by rw [upd_ne _ _ b1, upd_ne _ _ b3]; exact b5
    have s20 : ∀ x, upd (upd (upd (upd H k5 (some (.box [.t (.sl .un 8 (cj.map exT'))]))) k18 (some (.box [.t (.v (.int .i64 p.keys[i].op)), .t (.v (.string p.keys[i].tb)), .t (.v (.string p.keys[i].nm)), .t (.v (.int .i64 p.keys[i].ix)), .t (.v (.int .i64 p.keys[i].vk)), .t (.v (.int .i64 p.keys[i].vn)), .t (.v (.string p.keys[i].vs)), .t (.sl .un 8 (p.keys[i].args.map exT'))]))) k23 (some (.box [.t (.v (.int .i64 (varK d0 b p i)))]))) k19 x k20 = none := fun x => by rw [upd_ne _ _ c1, upd_ne _ _ c3, upd_ne _ _ c5]; exact c7
    have s20 := s20 (some (.box [.fn 50 []]))
    have u8 : (upd (upd (upd (upd (upd H k5 (some (.box [.t (.sl .un 8 (cj.map exT'))]))) k18 (some (.box [.t (.v (.int .i64 p.keys[i].op)), .t (.v (.string p.keys[i].tb)), .t (.v (.string p.keys[i].nm)), .t (.v (.int .i64 p.keys[i].ix)), .t (.v (.int .i64 p.keys[i].vk)), .t (.v (.int .i64 p.keys[i].vn)), .t (.v (.string p.keys[i].vs)), .t (.sl .un 8 (p.keys[i].args.map exT'))]))) k23 (some (.box [.t (.v (.int .i64 (varK d0 b p i)))]))) k19 (some (.box [.fn 50 []]))) k20 (some (.box [.fn 51 []]))) k8 = none := by rw [upd_ne _ _ c8.symm, upd_ne _ _ b6.symm, upd_ne _ _ a4.symm, upd_ne _ _ r188.symm]; exact hk8
    have u9 : (upd (upd (upd (upd (upd H k5 (some (.box [.t (.sl .un 8 (cj.map exT'))]))) k18 (some (.box [.t (.v (.int .i64 p.keys[i].op)), .t (.v (.string p.keys[i].tb)), .t (.v (.string p.keys[i].nm)), .t (.v (.int .i64 p.keys[i].ix)), .t (.v (.int .i64 p.keys[i].vk)), .t (.v (.int .i64 p.keys[i].vn)), .t (.v (.string p.keys[i].vs)), .t (.sl .un 8 (p.keys[i].args.map exT'))]))) k23 (some (.box [.t (.v (.int .i64 (varK d0 b p i)))]))) k19 (some (.box [.fn 50 []]))) k20 (some (.box [.fn 51 []]))) k9 = none := by rw [upd_ne _ _ c9.symm, upd_ne _ _ b7.symm, upd_ne _ _ a5.symm, upd_ne _ _ r189.symm]; exact hk9
    refine AW.reg ?_
    refine sM ?_
    refine SeqK.q (q_mkFn rfl rfl rfl) rfl rfl rfl ?_
    refine sM ?_
    refine SeqK.callV (f := 45) (cs := [.bp k5 0, .bp k8 0]) rfl rfl rfl rfl rfl Fx.fn45 rfl (findU_any (upd (upd (upd (upd (upd H k5 (some (.box [.t (.sl .un 8 (cj.map exT'))]))) k18 (some (.box [.t (.v (.int .i64 p.keys[i].op)), .t (.v (.string p.keys[i].tb)), .t (.v (.string p.keys[i].nm)), .t (.v (.int .i64 p.keys[i].ix)), .t (.v (.int .i64 p.keys[i].vk)), .t (.v (.int .i64 p.keys[i].vn)), .t (.v (.string p.keys[i].vs)), .t (.sl .un 8 (p.keys[i].args.map exT'))]))) k23 (some (.box [.t (.v (.int .i64 (varK d0 b p i)))]))) k19 (some (.box [.fn 50 []]))) k20 (some (.box [.fn 51 []]))) k5 k8 k9 cj us 54 52 [.bp k23 0, .bp k18 0, .bp k19 0, .bp k20 0] [] (gvK d0 b p i p.keys[i]) (geK p) ((fun j o h => upd_sub s20 j o (upd_sub s19 j o (upd_sub s23 j o (upd_sub r18 j o h)))) _ _ (upd_same _ _ _)) u8 u9 n89 Fx.fn54 Fx.fn52 (fun x hxm H1 h1 => by
     have e1 : ltK p i = lowB := (if_neg h75).trans (if_pos hi00)
     have e2 : rtK p i = uppB := (if_neg h75).trans (if_pos hi00)
     show E.Spec Try.prog 54 _ H1 fun y H'' => y = .c (bC (gvB x (varK d0 b p i) p.keys[i] (ltK p i) (rtK p i))) ∧ H'' = H1
     rw [e1, e2]
     exact givesTo_any H1 k23 k18 k19 k20 50 51 lowB uppB Fx.fn50 Fx.fn51 low_fn upp_fn (varK d0 b p i) p.keys[i] (h1 _ _ (upd_sub s20 _ _ (upd_sub s19 _ _ (upd_same _ _ _)))) (h1 _ _ (upd_sub s20 _ _ (upd_sub s19 _ _ (upd_sub s23 _ _ (upd_same _ _ _))))) (h1 _ _ (upd_sub s20 _ _ (upd_same _ _ _))) (h1 _ _ (upd_same _ _ _)) x (hcj x hxm)) (fun x hxm H1 h1 => by
     show E.Spec Try.prog 52 _ H1 fun y H'' => y = .c (bC (geK p x)) ∧ H'' = H1
     rw [show geK p = exaB from if_pos h89]
     exact exact_fn x H1) (by omega)) (fun _ _ h => by rw [h.1]; rfl) (fun x99 H99 q99 => ?_)
    obtain ⟨rfl, k99, hk99, n86, hHs⟩ := q99
    subst hHs
    have f99 := (lt4 hk99)
    have w99 : ∀ x, upd (upd (upd (upd (upd (upd H k5 (some (.box [.t (.sl .un 8 (cj.map exT'))]))) k18 (some (.box [.t (.v (.int .i64 p.keys[i].op)), .t (.v (.string p.keys[i].tb)), .t (.v (.string p.keys[i].nm)), .t (.v (.int .i64 p.keys[i].ix)), .t (.v (.int .i64 p.keys[i].vk)), .t (.v (.int .i64 p.keys[i].vn)), .t (.v (.string p.keys[i].vs)), .t (.sl .un 8 (p.keys[i].args.map exT'))]))) k23 (some (.box [.t (.v (.int .i64 (varK d0 b p i)))]))) k19 (some (.box [.fn 50 []]))) k20 (some (.box [.fn 51 []]))) k8 x k99 = none := fun x => by rw [upd_ne _ _ n86.symm]; exact hk99
    refine SeqK.q (q_not rfl rfl) rfl rfl rfl ?_
    refine SeqK.nil ?_
    refine AW.cond _ rfl (fun h100 => ?_) (fun h100 => ?_)
    ·
     refine AW.seq ?_
     have hnone : usM d0 b cj p = none := by rw [← hI, addK_no hi h69 (by simpa using h100)]
     refine AW.reg ?_
     refine sA ?_
     refine sA ?_
     refine SeqK.nil ?_
     refine AW.xw 6 rfl (XW.nilU (sz := 2)) ?_
     refine AW.ret ?_
     exact fin_x (x := .tup [_, _]) (H) (.tmp rfl (.tmp rfl .nil)) rfl ((fun j o h => upd_sub (w99 _) j o (upd_sub u8 j o ((fun j o h => upd_sub s20 j o (upd_sub s19 j o (upd_sub s23 j o (upd_sub r18 j o h)))) j o (upd_sub hk5 j o h))))) (⟨usX_no hnone, rfl⟩)
    refine AW.skip ?_
    refine AW.reg ?_
    refine SeqK.q (q_add _ rfl rfl rfl (w64 (by omega) (by omega))) rfl rfl rfl ?_
    refine sM ?_
    refine SeqK.nil ?_
    exact ⟨i + 1, _, Wk.keep 103 [(0, .c (.a (.bp kx 0))), (4, .lp 4 0), (5, .c (.a (.bp k5 0))), (6, .c (.a (.t (.v (.slice none 0 0))))), (7, .c (bC false)), (8, .c (.a (.bp k8 0))), (13, .c (.a (.fn 45 [.bp k5 0, .bp k8 0]))), (14, .c (.a (.fn 46 []))), (60, .c (exsC .un p.keys)), (61, iX .i64 (((p.keys.map exT').length : Nat) : Int)), (62, iX .i64 (((i + 1) : Nat) : Int))] [(4, .box [.t (.v (.int .i64 p.k)), .t (.v (.int .i64 p.src)), .t (.sl .un 1 (p.cols.map i64T)), .t (.sl .un 8 (p.keys.map exT')), .t (.v (.int .i64 p.flt.op)), .t (.v (.string p.flt.tb)), .t (.v (.string p.flt.nm)), .t (.v (.int .i64 p.flt.ix)), .t (.v (.int .i64 p.flt.vk)), .t (.v (.int .i64 p.flt.vn)), .t (.v (.string p.flt.vs)), .t (.sl .un 8 (p.flt.args.map exT')), .t (.sl .un 13 (p.args.map plT'))])] (upd (upd (upd H k5 (some (.box [.t (.sl .un 8 (cj.map exT'))]))) k8 (some (.box [.ts (k99) .ne 2 ((us ++ hitF (gvK d0 b p i p.keys[i]) (geK p) cj 0).map usT)]))) (k99) (some (.tip 85 2 ((us ++ hitF (gvK d0 b p i p.keys[i]) (geK p) cj 0).map usT).length))) rfl ⟨rfl, rfl, rfl, rfl, rfl, rfl, rfl, rfl, rfl, rfl, rfl, trivial⟩ ⟨rfl, trivial⟩ (updM (updM (fun j o h => upd_sub s20 j o (upd_sub s19 j o (upd_sub s23 j o (upd_sub r18 j o h)))))) rfl, by omega, k99, us ++ hitF (gvK d0 b p i p.keys[i]) (geK p) cj 0, ⟨hi, ⟨f99, n86⟩, by rw [List.length_append]; have h9 := hitF_len (gv := gvK d0 b p i p.keys[i]) (ge := geK p) cj 0; omega, by rw [← hI, addK_go hi h69 (by simpa using h100)]⟩, rfl⟩
   exact absurd (nf.k.resolve_left h75) h89
  have hi00 : ¬ i = 0 := by omega
  refine AW.reg ?_
  refine SeqK.r (b_store (r := [_]) rfl rfl Fx.ty110 rfl rfl rfl rfl rfl rfl) rfl ?_
  refine SeqK.r (b_store (r := [_]) rfl rfl Fx.ty110 rfl rfl rfl rfl rfl rfl) rfl ?_
  refine SeqK.nil ?_
  refine AW.seq ?_
  refine sR ?_
  refine SeqK.q (q_fieldL _ rfl Fx.fl30_0 rfl rfl) rfl rfl rfl ?_
  refine SeqK.r (b_load (r := .a _) rfl Fx.ty3 rfl rfl rfl rfl rfl rfl) rfl ?_
  refine SeqK.q (q_eql rfl rfl rfl) rfl rfl rfl ?_
  refine SeqK.nil ?_
  refine AW.condD rfl (fun h89 => ?_) (fun h89 => ?_)
  ·
   refine AW.reg ?_
   refine sA ?_
   refine SeqK.nil ?_
   refine AW.xw 21 rfl XW.fn0 ?_
   refine sR ?_
   refine sM ?_
   refine SeqK.q (q_fieldL _ rfl Fx.fl30_1 rfl rfl) rfl rfl rfl ?_
   refine SeqK.r (b_load (r := .a _) rfl Fx.ty3 rfl rfl rfl rfl rfl rfl) rfl ?_
   refine SeqK.r (g_call rfl Fx.fn53 rfl (first_any _ kx d0 b (upd_sub hk18 _ _ ((fun j o h => upd_sub hk9b j o (upd_sub hk8 j o (upd_sub hk5 j o h))) _ _ hx)) hb p.src ⟨nf.src.1, by have := nf.src.2; omega⟩) rfl rfl rfl) rfl ?_
   refine sM ?_
   refine SeqK.q (q_add _ rfl rfl rfl ((by rw [w64 (by omega) (by omega)]; show _ = (offM d0 (b.tabs.take p.src.toNat) : Int) + colK p i; omega : IntKind.i64.wrap _ = varK d0 b p i))) rfl rfl rfl ?_
   refine SeqK.newAlloc (r := [_]) rfl rfl rfl Fx.ze3 rfl rfl rfl (fun k23 hk23 => ?_)
   refine SeqK.r (g_store rfl rfl Fx.ty3 rfl rfl (by (repeat rw [upd_ne _ _ (by first | assumption | exact Ne.symm (by assumption))]); first | assumption | exact upd_same _ _ _) rfl rfl rfl) rfl ?_
   refine SeqK.nil ?_
   refine AW.seq ?_
   rw [upd_upd (k := k23)]
   refine AW.xwL 19 rfl (.cons XW.fn0 .nil) ?_
   refine AW.xwL 20 rfl (.cons XW.fn0 .nil) ?_
   refine AW.exp 19 rfl (fun _ _ _ _ h => by cases h) (fun k19 hk19 => ?_)
   refine AW.exp 20 rfl (fun _ _ _ _ h => by cases h) (fun k20 hk20 => ?_)
   obtain ⟨a1, a2⟩ := upd_lt hk23
   obtain ⟨a3, a4, a5⟩ := lt3 a2
   obtain ⟨b1, b2⟩ := upd_lt hk19
   obtain ⟨b3, b4⟩ := upd_lt b2
   obtain ⟨b5, b6, b7⟩ := lt3 b4
   obtain ⟨c1, c2⟩ := upd_lt hk20
   obtain ⟨c3, c4⟩ := upd_lt c2
   obtain ⟨c5, c6⟩ := upd_lt c4
   obtain ⟨c7, c8, c9⟩ := lt3 c6
   rw [← rot (a := k18) r188 r189, ← rot (a := k23) a4 a5, ← rot (a := k19) b6 b7, ← rot (a := k20) c8 c9]
   have s23 : upd (upd H k5 (some (.box [.t (.sl .un 8 (cj.map exT'))]))) k18 (some (.box [.t (.v (.int .i64 p.keys[i].op)), .t (.v (.string p.keys[i].tb)), .t (.v (.string p.keys[i].nm)), .t (.v (.int .i64 p.keys[i].ix)), .t (.v (.int .i64 p.keys[i].vk)), .t (.v (.int .i64 p.keys[i].vn)), .t (.v (.string p.keys[i].vs)), .t (.sl .un 8 (p.keys[i].args.map exT'))])) k23 = none := by rw [upd_ne _ _ a1]; exact a3
   have s19 : upd (upd (upd H k5 (some (.box [.t (.sl .un 8 (cj.map exT'))]))) k18 (some (.box [.t (.v (.int .i64 p.keys[i].op)), .t (.v (.string p.keys[i].tb)), .t (.v (.string p.keys[i].nm)), .t (.v (.int .i64 p.keys[i].ix)), .t (.v (.int .i64 p.keys[i].vk)), .t (.v (.int .i64 p.keys[i].vn)), .t (.v (.string p.keys[i].vs)), .t (.sl .un 8 (p.keys[i].args.map exT'))]))) k23 (some (.box [.t (.v (.int .i64 (varK d0 b p i)))])) k19 = none := by rw [upd_ne _ _ b1, upd_ne _ _ b3]; exact b5
   have s20 : ∀ x, upd (upd (upd (upd H k5 (some (.box [.t (.sl .un 8 (cj.map exT'))]))) k18 (some (.box [.t (.v (.int .i64 p.keys[i].op)), .t (.v (.string p.keys[i].tb)), .t (.v (.string p.keys[i].nm)), .t (.v (.int .i64 p.keys[i].ix)), .t (.v (.int .i64 p.keys[i].vk)), .t (.v (.int .i64 p.keys[i].vn)), .t (.v (.string p.keys[i].vs)), .t (.sl .un 8 (p.keys[i].args.map exT'))]))) k23 (some (.box [.t (.v (.int .i64 (varK d0 b p i)))]))) k19 x k20 = none := fun x => by rw [upd_ne _ _ c1, upd_ne _ _ c3, upd_ne _ _ c5]; exact c7
   have s20 := s20 (some (.box [.fn 51 []]))
   have u8 : (upd (upd (upd (upd (upd H k5 (some (.box [.t (.sl .un 8 (cj.map exT'))]))) k18 (some (.box [.t (.v (.int .i64 p.keys[i].op)), .t (.v (.string p.keys[i].tb)), .t (.v (.string p.keys[i].nm)), .t (.v (.int .i64 p.keys[i].ix)), .t (.v (.int .i64 p.keys[i].vk)), .t (.v (.int .i64 p.keys[i].vn)), .t (.v (.string p.keys[i].vs)), .t (.sl .un 8 (p.keys[i].args.map exT'))]))) k23 (some (.box [.t (.v (.int .i64 (varK d0 b p i)))]))) k19 (some (.box [.fn 51 []]))) k20 (some (.box [.fn 50 []]))) k8 = none := by rw [upd_ne _ _ c8.symm, upd_ne _ _ b6.symm, upd_ne _ _ a4.symm, upd_ne _ _ r188.symm]; exact hk8
   have u9 : (upd (upd (upd (upd (upd H k5 (some (.box [.t (.sl .un 8 (cj.map exT'))]))) k18 (some (.box [.t (.v (.int .i64 p.keys[i].op)), .t (.v (.string p.keys[i].tb)), .t (.v (.string p.keys[i].nm)), .t (.v (.int .i64 p.keys[i].ix)), .t (.v (.int .i64 p.keys[i].vk)), .t (.v (.int .i64 p.keys[i].vn)), .t (.v (.string p.keys[i].vs)), .t (.sl .un 8 (p.keys[i].args.map exT'))]))) k23 (some (.box [.t (.v (.int .i64 (varK d0 b p i)))]))) k19 (some (.box [.fn 51 []]))) k20 (some (.box [.fn 50 []]))) k9 = none := by rw [upd_ne _ _ c9.symm, upd_ne _ _ b7.symm, upd_ne _ _ a5.symm, upd_ne _ _ r189.symm]; exact hk9
   refine AW.reg ?_
   refine sM ?_
   refine SeqK.q (q_mkFn rfl rfl rfl) rfl rfl rfl ?_
   refine sM ?_
   refine SeqK.callV (f := 45) (cs := [.bp k5 0, .bp k8 0]) rfl rfl rfl rfl rfl Fx.fn45 rfl (findU_any (upd (upd (upd (upd (upd H k5 (some (.box [.t (.sl .un 8 (cj.map exT'))]))) k18 (some (.box [.t (.v (.int .i64 p.keys[i].op)), .t (.v (.string p.keys[i].tb)), .t (.v (.string p.keys[i].nm)), .t (.v (.int .i64 p.keys[i].ix)), .t (.v (.int .i64 p.keys[i].vk)), .t (.v (.int .i64 p.keys[i].vn)), .t (.v (.string p.keys[i].vs)), .t (.sl .un 8 (p.keys[i].args.map exT'))]))) k23 (some (.box [.t (.v (.int .i64 (varK d0 b p i)))]))) k19 (some (.box [.fn 51 []]))) k20 (some (.box [.fn 50 []]))) k5 k8 k9 cj us 54 52 [.bp k23 0, .bp k18 0, .bp k19 0, .bp k20 0] [] (gvK d0 b p i p.keys[i]) (geK p) ((fun j o h => upd_sub s20 j o (upd_sub s19 j o (upd_sub s23 j o (upd_sub r18 j o h)))) _ _ (upd_same _ _ _)) u8 u9 n89 Fx.fn54 Fx.fn52 (fun x hxm H1 h1 => by
    have e1 : ltK p i = uppB := (if_neg h75).trans (if_neg hi00)
    have e2 : rtK p i = lowB := (if_neg h75).trans (if_neg hi00)
    show E.Spec Try.prog 54 _ H1 fun y H'' => y = .c (bC (gvB x (varK d0 b p i) p.keys[i] (ltK p i) (rtK p i))) ∧ H'' = H1
    rw [e1, e2]
    exact givesTo_any H1 k23 k18 k19 k20 51 50 uppB lowB Fx.fn51 Fx.fn50 upp_fn low_fn (varK d0 b p i) p.keys[i] (h1 _ _ (upd_sub s20 _ _ (upd_sub s19 _ _ (upd_same _ _ _)))) (h1 _ _ (upd_sub s20 _ _ (upd_sub s19 _ _ (upd_sub s23 _ _ (upd_same _ _ _))))) (h1 _ _ (upd_sub s20 _ _ (upd_same _ _ _))) (h1 _ _ (upd_same _ _ _)) x (hcj x hxm)) (fun x hxm H1 h1 => by
    show E.Spec Try.prog 52 _ H1 fun y H'' => y = .c (bC (geK p x)) ∧ H'' = H1
    rw [show geK p = exaB from if_pos h89]
    exact exact_fn x H1) (by omega)) (fun _ _ h => by rw [h.1]; rfl) (fun x99 H99 q99 => ?_)
   obtain ⟨rfl, k99, hk99, n86, hHs⟩ := q99
   subst hHs
   have f99 := (lt4 hk99)
   have w99 : ∀ x, upd (upd (upd (upd (upd (upd H k5 (some (.box [.t (.sl .un 8 (cj.map exT'))]))) k18 (some (.box [.t (.v (.int .i64 p.keys[i].op)), .t (.v (.string p.keys[i].tb)), .t (.v (.string p.keys[i].nm)), .t (.v (.int .i64 p.keys[i].ix)), .t (.v (.int .i64 p.keys[i].vk)), .t (.v (.int .i64 p.keys[i].vn)), .t (.v (.string p.keys[i].vs)), .t (.sl .un 8 (p.keys[i].args.map exT'))]))) k23 (some (.box [.t (.v (.int .i64 (varK d0 b p i)))]))) k19 (some (.box [.fn 51 []]))) k20 (some (.box [.fn 50 []]))) k8 x k99 = none := fun x => by rw [upd_ne _ _ n86.symm]; exact hk99
   refine SeqK.q (q_not rfl rfl) rfl rfl rfl ?_
   refine SeqK.nil ?_
   refine AW.cond _ rfl (fun h100 => ?_) (fun h100 => ?_)
   ·
    refine AW.seq ?_
    have hnone : usM d0 b cj p = none := by rw [← hI, addK_no hi h69 (by simpa using h100)]
    refine AW.reg ?_
    refine sA ?_
    refine sA ?_
    refine SeqK.nil ?_
    refine AW.xw 6 rfl (XW.nilU (sz := 2)) ?_
    refine AW.ret ?_
    exact fin_x (x := .tup [_, _]) (H) (.tmp rfl (.tmp rfl .nil)) rfl ((fun j o h => upd_sub (w99 _) j o (upd_sub u8 j o ((fun j o h => upd_sub s20 j o (upd_sub s19 j o (upd_sub s23 j o (upd_sub r18 j o h)))) j o (upd_sub hk5 j o h))))) (⟨usX_no hnone, rfl⟩)
   refine AW.skip ?_
   refine AW.reg ?_
   refine SeqK.q (q_add _ rfl rfl rfl (w64 (by omega) (by omega))) rfl rfl rfl ?_
   refine sM ?_
   refine SeqK.nil ?_
   exact ⟨i + 1, _, Wk.keep 103 [(0, .c (.a (.bp kx 0))), (4, .lp 4 0), (5, .c (.a (.bp k5 0))), (6, .c (.a (.t (.v (.slice none 0 0))))), (7, .c (bC false)), (8, .c (.a (.bp k8 0))), (13, .c (.a (.fn 45 [.bp k5 0, .bp k8 0]))), (14, .c (.a (.fn 46 []))), (60, .c (exsC .un p.keys)), (61, iX .i64 (((p.keys.map exT').length : Nat) : Int)), (62, iX .i64 (((i + 1) : Nat) : Int))] [(4, .box [.t (.v (.int .i64 p.k)), .t (.v (.int .i64 p.src)), .t (.sl .un 1 (p.cols.map i64T)), .t (.sl .un 8 (p.keys.map exT')), .t (.v (.int .i64 p.flt.op)), .t (.v (.string p.flt.tb)), .t (.v (.string p.flt.nm)), .t (.v (.int .i64 p.flt.ix)), .t (.v (.int .i64 p.flt.vk)), .t (.v (.int .i64 p.flt.vn)), .t (.v (.string p.flt.vs)), .t (.sl .un 8 (p.flt.args.map exT')), .t (.sl .un 13 (p.args.map plT'))])] (upd (upd (upd H k5 (some (.box [.t (.sl .un 8 (cj.map exT'))]))) k8 (some (.box [.ts (k99) .ne 2 ((us ++ hitF (gvK d0 b p i p.keys[i]) (geK p) cj 0).map usT)]))) (k99) (some (.tip 85 2 ((us ++ hitF (gvK d0 b p i p.keys[i]) (geK p) cj 0).map usT).length))) rfl ⟨rfl, rfl, rfl, rfl, rfl, rfl, rfl, rfl, rfl, rfl, rfl, trivial⟩ ⟨rfl, trivial⟩ (updM (updM (fun j o h => upd_sub s20 j o (upd_sub s19 j o (upd_sub s23 j o (upd_sub r18 j o h)))))) rfl, by omega, k99, us ++ hitF (gvK d0 b p i p.keys[i]) (geK p) cj 0, ⟨hi, ⟨f99, n86⟩, by rw [List.length_append]; have h9 := hitF_len (gv := gvK d0 b p i p.keys[i]) (ge := geK p) cj 0; omega, by rw [← hI, addK_go hi h69 (by simpa using h100)]⟩, rfl⟩
  exact absurd (nf.k.resolve_left h75) h89
 refine AW.exit ?_
 refine eth_e ?_
 refine eth_e ?_
 refine exit_here ?_
 refine AW.seq ?_
 obtain rfl : i = p.keys.length := by rw [List.length_map] at h63; omega
 have hfin : usM d0 b cj p = some us := by rw [← hI, List.drop_length, addK]
 refine AW.reg ?_
 refine SeqK.r (g_load (r := .a _) rfl Fx.ty77 rfl (by (repeat rw [upd_ne _ _ (by first | assumption | exact Ne.symm (by assumption))]); first | assumption | exact upd_same _ _ _) rfl rfl rfl rfl) rfl ?_
 refine sA ?_
 refine sA ?_
 refine SeqK.nil ?_
 refine AW.xw 6 rfl (XW.ts.trans XW.un) ?_
 refine AW.ret ?_
 exact fin_x (x := .tup [_, _]) (H) (.tmp rfl (.tmp rfl .nil)) rfl ((fun j o h => upd_sub hk9b j o (upd_sub hk8 j o (upd_sub hk5 j o h)))) (⟨usX_yes hfin, rfl⟩)

end Go.Proofs.Ytihlgigaejhilaa.W
namespace Go.Proofs.Ytihlgigaejhilaa.W
open Go.RowKit E
/-! valid plans -/
theorem uses_any (kx : Nat) (d0 : List Tb) (b : Bd) (hb : okB d0 b) (cj : List Ex) (hcj : ∀ e ∈ cj, okE e) (p : Pl) : okU d0 b cj p → US d0 b kx cj p := by
  induction p using Pl.rec' with
  | h p ih => exact fun hu H hx => uses_of H kx d0 b hx hb cj hcj p hu fun a ha => ih a ha (hu.arg ha)
theorem few_src : ∀ (d : Nat) (p : Pl), fewB d p = true → (srM p).length ≤ 3 ^ d
  | 0, p, h => by rw [fewB] at h; cases h
  | d + 1, p, h => by
    by_cases hl : lfK p
    · rw [srM_leaf hl, List.length_singleton]; exact Nat.one_le_pow _ _ (by omega)
    · rw [srM_in hl]
      rw [fewB, Bool.and_eq_true, Bool.and_eq_true, List.all_eq_true, List.all_eq_true] at h
      have h3 := (of_decide_eq_true h.1).2.2.1
      have key : ∀ l : List Pl, (∀ a ∈ l, fewB d a = true) → (l.flatMap srM).length ≤ l.length * 3 ^ d := by
        intro l
        induction l with
        | nil => simp
        | cons a r ih =>
          intro hr
          have h1 := few_src d a (hr a (by simp))
          have h2 := ih fun x hx => hr x (by simp [hx])
          rw [List.flatMap_cons, List.length_append, List.length_cons, Nat.add_mul, Nat.one_mul]; omega
      have h4 := key p.args h.2.2
      have h5 : p.args.length * 3 ^ d ≤ 3 * 3 ^ d := Nat.mul_le_mul_right _ h3
      rw [Nat.pow_succ]; omega
theorem few_us (n : Nat) : ∀ (d : Nat) (p : Pl), fewB d p = true → usN n p ≤ 410 * n * 4 ^ d
  | 0, p, h => by rw [fewB] at h; cases h
  | d + 1, p, h => by
    have hf := few_flt h
    rw [fewB, Bool.and_eq_true, Bool.and_eq_true, List.all_eq_true, List.all_eq_true] at h
    have h2 := (of_decide_eq_true h.1).2.1
    have h3 := (of_decide_eq_true h.1).2.2.1
    have key : ∀ l : List Pl, (∀ a ∈ l, fewB d a = true) → usNs n l ≤ l.length * (410 * n * 4 ^ d) := by
      intro l
      induction l with
      | nil => intro _; rw [usNs]; omega
      | cons a r ih =>
        intro hr
        have h1 := few_us n d a (hr a (by simp))
        have h2 := ih fun x hx => hr x (by simp [hx])
        rw [usNs, List.length_cons, Nat.add_mul, Nat.one_mul]; omega
    have h4 := key p.args h.2.2
    have h5 : p.args.length * (410 * n * 4 ^ d) ≤ 3 * (410 * n * 4 ^ d) := Nat.mul_le_mul_right _ h3
    have h6 : ((cnj p.flt).length + p.keys.length) * n ≤ 410 * n := Nat.mul_le_mul_right _ (by omega)
    have h7 : 410 * n ≤ 410 * n * 4 ^ d := Nat.le_mul_of_pos_right _ (Nat.pow_pos (by omega))
    rw [usN_eq, Nat.pow_succ, ← Nat.mul_assoc]; omega
/-- plans as large as the laws allow -/
abbrev okF (p : Pl) : Prop := ∃ d, d ≤ 7 ∧ fewB d p = true
theorem okF.src {p : Pl} (h : okF p) : (srM p).length ≤ 1000000 := by
  obtain ⟨d, h1, h2⟩ := h
  have := few_src d p h2
  have h3 : 3 ^ d ≤ 3 ^ 7 := Nat.pow_le_pow_right (by omega) h1
  omega
theorem okF.us {p : Pl} {n : Nat} (h : okF p) (hn : n ≤ 1000) : usN n p ≤ 1000000000000 := by
  obtain ⟨d, h1, h2⟩ := h
  have := few_us n d p h2
  have h3 : 4 ^ d ≤ 4 ^ 7 := Nat.pow_le_pow_right (by omega) h1
  have h4 : 410 * n * 4 ^ d ≤ 410 * n * 4 ^ 7 := Nat.mul_le_mul_left _ h3
  omega
/-- each conjunct is used -/
abbrev cvB (us : List (Int × Bool)) (i : Nat) : Bool := us.any fun u => decide (u.1 = (i : Int)) && u.2
def uvB (d0 : List Tb) (b : Bd) (p : Pl) : Bool := match usM d0 b (cnj b.wh) p with
  | none => false
  | some us => (List.range (cnj b.wh).length).all (cvB us)
theorem upC {us : List (Int × Bool)} {i : Nat} (h : ∀ j, j < i → cvB us j = true) (k : cvB us i = true) : ∀ j, j < i + 1 → cvB us j = true := fun j hj => by
  rcases Nat.lt_succ_iff_lt_or_eq.1 hj with h9 | h9
  · exact h j h9
  · rw [h9]; exact k
theorem uv_none {d0 : List Tb} {b : Bd} {p : Pl} (h : (usM d0 b (cnj b.wh) p).isSome = false) : uvB d0 b p = false := by
  unfold uvB
  cases hq : usM d0 b (cnj b.wh) p with
  | none => rfl
  | some _ => rw [hq] at h; cases h
abbrev pvP (d0 : List Tb) (b : Bd) (p : Pl) : Prop := shpP d0 b p ∧ uvB d0 b p = true
theorem cnj_ok : ∀ (e : Ex), okE e → ∀ a ∈ cnj e, okE a := by
  intro e
  induction e using Ex.rec' with
  | h e ih =>
    intro ho a ha
    by_cases h0 : e.op = 0
    · rw [cnj_0 h0] at ha; cases ha
    · by_cases h1 : e.op = 18
      · rw [cnj_and h1, List.mem_flatMap] at ha
        obtain ⟨c, hc, hac⟩ := ha
        exact ih c hc ((okE_iff.1 ho).2 c hc) a hac
      · rw [cnj_one h0 h1, List.mem_singleton] at ha
        rw [ha]; exact ho

set_option maxHeartbeats 16000000 in
set_option maxRecDepth 20000 in
theorem used_any (H : Heap) (k : Nat) (i : Int) (hk : H k = some (.box [.t (.v (.int .i64 i))])) (u : Int × Bool) : E.Spec Try.prog 30 [usC u, .a (.bp k 0)] H fun x H' => x = .c (bC (decide (u.1 = i) && u.2)) ∧ H' = H := by
 refine Spec.enter Try.func30 rfl ?_
 refine AW.wk (Wk.keep 12 [(0, .c (usC u)), (1, .c (.a (.bp k 0)))] [] (H) rfl ⟨rfl, rfl, trivial⟩ trivial (fun _ _ h => h) rfl) ?_
 refine sR ?_
 refine SeqK.r (b_box (r := [_, _]) rfl rfl rfl rfl rfl rfl) rfl ?_
 refine sA ?_
 refine SeqK.nil ?_
 refine sR ?_
 refine SeqK.q (q_fieldL _ rfl Fx.fl85_0 rfl rfl) rfl rfl rfl ?_
 refine SeqK.r (b_load (r := .a _) rfl Fx.ty3 rfl rfl rfl rfl rfl rfl) rfl ?_
 refine SeqK.r (g_load (r := .a _) rfl Fx.ty3 rfl (by (repeat rw [upd_ne _ _ (by first | assumption | exact Ne.symm (by assumption))]); first | assumption | exact upd_same _ _ _) rfl rfl rfl rfl) rfl ?_
 refine SeqK.q (q_eql rfl rfl rfl) rfl rfl rfl ?_
 refine SeqK.qD (q_mvC rfl rfl) rfl rfl rfl (fun g8 => ?_) (fun g8 => ?_)
 ·
  refine SeqK.on (q_fieldL _ rfl Fx.fl85_1 rfl rfl) rfl rfl rfl rfl rfl ?_
  refine SeqK.rOn (b_load (r := .a _) rfl Fx.ty4 rfl rfl rfl rfl rfl rfl) rfl rfl rfl ?_
  refine SeqK.q (q_pkT rfl rfl rfl) rfl rfl rfl ?_
  refine sA ?_
  refine SeqK.nil ?_
  refine AW.ret ?_
  exact fin_x (x := .c _) (H) (.tmp rfl .nil) rfl (fun _ _ h => h) (⟨bCe (by simp [*]), rfl⟩)
 iterate 2 refine SeqK.off rfl rfl rfl rfl rfl rfl ?_
 refine SeqK.q (q_pkF rfl rfl rfl) rfl rfl rfl ?_
 refine sA ?_
 refine SeqK.nil ?_
 refine AW.ret ?_
 exact fin_x (x := .c _) (H) (.tmp rfl .nil) rfl (fun _ _ h => h) (⟨bCe (by simp [*]), rfl⟩)

set_option maxHeartbeats 16000000 in
set_option maxRecDepth 20000 in
theorem pvalid_any (H : Heap) (d0 : List Tb) (b : Bd) (hb : okB d0 b) (hw : okE b.wh) (hc : (cnj b.wh).length ≤ 1000) (p : Pl) (ho : okP p) (hf : okF p) : E.Spec Try.prog 17 [scC .un d0, bdC b, plC p] H fun x H' => x = .c (bC (decide (pvP d0 b p))) ∧ H' = H := by
 refine Spec.enter Try.func17 rfl ?_
 refine AW.wk (Wk.keep 42 [(0, .c (scC .un d0)), (1, .c (bdC b)), (2, .c (plC p))] [] (H) rfl ⟨rfl, rfl, rfl, trivial⟩ trivial (fun _ _ h => h) rfl) ?_
 refine sR ?_
 refine SeqK.r (b_box (r := [_, _, _, _, _, _, _, _, _, _, _, _, _, _, _, _, _, _, _, _, _, _, _, _, _, _]) rfl rfl rfl rfl rfl rfl) rfl ?_
 refine SeqK.r (b_box (r := [_, _, _, _, _, _, _, _, _, _, _, _, _]) rfl rfl rfl rfl rfl rfl) rfl ?_
 refine sA ?_
 refine SeqK.nil ?_
 refine AW.seq ?_
 refine sR ?_
 refine sM ?_
 refine SeqK.r (b_load (r := .g [_, _, _, _, _, _, _, _, _, _, _, _, _, _, _, _, _, _, _, _, _, _, _, _, _, _]) rfl Fx.ty54 rfl rfl rfl rfl rfl rfl) rfl ?_
 refine SeqK.r (b_load (r := .g [_, _, _, _, _, _, _, _, _, _, _, _, _]) rfl Fx.ty30 rfl rfl rfl rfl rfl rfl) rfl ?_
 refine SeqK.r (g_call rfl Fx.fn19 rfl (shape44_any H d0 b hb p ho hf.src) rfl rfl rfl) rfl ?_
 refine SeqK.q (q_not rfl rfl) rfl rfl rfl ?_
 refine SeqK.nil ?_
 refine AW.cond _ rfl (fun h15 => ?_) (fun h15 => ?_)
 ·
  refine sR ?_
  refine sA ?_
  refine SeqK.nil ?_
  refine AW.ret ?_
  exact fin_x (x := .c _) (H) (.tmp rfl .nil) rfl (fun _ _ h => h) (⟨bCe (dF (fun h => nd_t h15 h.1)), rfl⟩)
 refine AW.skip ?_
 refine AW.seq ?_
 have hsh : shpP d0 b p := nd_f h15
 refine AW.reg ?_
 refine SeqK.q (q_fieldL _ rfl Fx.fl54_0 rfl rfl) rfl rfl rfl ?_
 refine SeqK.q (q_fieldL _ rfl Fx.fl50_7 rfl rfl) rfl rfl rfl ?_
 refine SeqK.r (b_load (r := .g [_, _, _, _, _, _, _, _]) rfl Fx.ty27 rfl rfl rfl rfl rfl rfl) rfl ?_
 refine SeqK.q (q_call _ rfl Fx.fn11 rfl (conj_any b.wh hw (by omega)) rfl) rfl rfl rfl ?_
 refine sA ?_
 refine SeqK.nil ?_
 refine sR ?_
 refine sM ?_
 refine SeqK.r (b_load (r := .g [_, _, _, _, _, _, _, _, _, _, _, _, _, _, _, _, _, _, _, _, _, _, _, _, _, _]) rfl Fx.ty54 rfl rfl rfl rfl rfl rfl) rfl ?_
 refine SeqK.q (q_build2 (zs := [_, _, _, _, _, _, _, _, _, _, _, _, _, _, _, _, _, _, _, _, _, _, _, _, _, _, _]) (r := [_, _, _, _, _, _, _, _, _, _, _, _, _, _, _, _, _, _, _, _, _, _, _, _, _, _, _]) [(0, 1), (1, 26)] _ rfl Fx.ze81 rfl Fx.bp81 rfl rfl rfl rfl) rfl rfl rfl ?_
 refine SeqK.newBox (r := [_, _, _, _, _, _, _, _, _, _, _, _, _, _, _, _, _, _, _, _, _, _, _, _, _, _, _]) rfl rfl rfl rfl rfl rfl (fun k24 hk24 => ?_)
 refine SeqK.r (b_load (r := .g [_, _, _, _, _, _, _, _, _, _, _, _, _]) rfl Fx.ty30 rfl rfl rfl rfl rfl rfl) rfl ?_
 refine sM ?_
 refine SeqK.r (g_call rfl Fx.fn28 rfl (uses_any k24 d0 b hb (cnj b.wh) (cnj_ok _ hw) p ⟨ho, hf.elim fun d h => ⟨d, h.2⟩, ⟨[], hsh.1⟩, hf.us hc⟩ _ (upd_same _ _ _)) rfl rfl rfl) rfl ?_
 refine SeqK.q (q_mvT rfl rfl) rfl rfl rfl ?_
 refine SeqK.q (q_extract _ rfl rfl rfl) rfl rfl rfl ?_
 refine SeqK.q (q_extract _ rfl rfl rfl) rfl rfl rfl ?_
 refine sA ?_
 refine sA ?_
 refine SeqK.nil ?_
 refine AW.seq ?_
 refine sR ?_
 refine sM ?_
 refine SeqK.q (q_not rfl rfl) rfl rfl rfl ?_
 refine SeqK.nil ?_
 refine AW.cond _ rfl (fun h31 => ?_) (fun h31 => ?_)
 ·
  refine sR ?_
  refine sA ?_
  refine SeqK.nil ?_
  refine AW.ret ?_
  exact fin_x (x := .c _) (H) (.tmp rfl .nil) rfl ((upd_sub hk24)) (⟨bCe (dF (fun h => by have h9 := h.2; rw [uv_none (by simpa using h31)] at h9; cases h9)), rfl⟩)
 refine AW.skip ?_
 refine AW.seq ?_
 refine AW.seq ?_
 have hso : usM d0 b (cnj b.wh) p = some ((usM d0 b (cnj b.wh) p).getD []) := by cases hq : usM d0 b (cnj b.wh) p with
  | none => rw [hq] at h31; cases h31
  | some _ => rfl
 have hle := usM_le _ _ hso
 have hun := hf.us (n := (cnj b.wh).length) hc
 have huv : uvB d0 b p = (List.range (cnj b.wh).length).all (cvB ((usM d0 b (cnj b.wh) p).getD [])) := by rw [uvB, hso]; rfl
 refine AW.reg ?_
 refine sM ?_
 refine SeqK.q (q_len rfl Fx.un23 rfl) rfl rfl rfl ?_
 refine sM ?_
 refine SeqK.nil ?_
 refine AW.block ?_
 refine AW.loop (fun (i : Nat) s => (i ≤ (cnj b.wh).length ∧ ∀ j, j < i → cvB ((usM d0 b (cnj b.wh) p).getD []) j = true) ∧ s = ⟨42, sp [(6, .c (bC false)), (7, .c (exsC .un (cnj b.wh))), (8, .c (ussC .un ((usM d0 b (cnj b.wh) p).getD []))), (32, .c (exsC .un (cnj b.wh))), (33, iX .i64 ((((cnj b.wh).map exT').length : Nat) : Int)), (34, iX .i64 ((i : Nat) : Int))], lv [], upd H k24 (some (.box (stA d0 b)))⟩) (fun i => (cnj b.wh).length - i) 0 ⟨_, Wk.keep 42 [(6, .c (bC false)), (7, .c (exsC .un (cnj b.wh))), (8, .c (ussC .un ((usM d0 b (cnj b.wh) p).getD []))), (32, .c (exsC .un (cnj b.wh))), (33, iX .i64 ((((cnj b.wh).map exT').length : Nat) : Int)), (34, iX .i64 ((((0 : Nat)) : Nat) : Int))] [] (upd H k24 (some (.box (stA d0 b)))) rfl ⟨rfl, rfl, rfl, rfl, rfl, rfl, trivial⟩ trivial (fun _ _ h => h) rfl, ⟨Nat.zero_le _, fun j h => absurd h (Nat.not_lt_zero _)⟩, rfl⟩ (fun i s hs => ?_)
 obtain ⟨⟨hi0, hU⟩, rfl⟩ := hs
 refine sR ?_
 refine SeqK.q (q_lss rfl rfl rfl) rfl rfl rfl ?_
 refine SeqK.nil ?_
 refine AW.seq ?_
 refine AW.condD rfl (fun h35 => ?_) (fun h35 => ?_)
 ·
  have hi : i < (cnj b.wh).length := by rw [List.length_map] at h35; omega
  refine AW.skip ?_
  refine AW.seq ?_
  refine AW.block ?_
  refine sR ?_
  refine sM ?_
  refine SeqK.newAlloc (r := [_]) rfl rfl rfl Fx.ze3 rfl rfl rfl (fun k10 hk10 => ?_)
  refine SeqK.r (g_store rfl rfl Fx.ty3 rfl rfl (by (repeat rw [upd_ne _ _ (by first | assumption | exact Ne.symm (by assumption))]); first | assumption | exact upd_same _ _ _) rfl rfl rfl) rfl ?_
  refine SeqK.nil ?_
  refine AW.seq ?_
  rw [upd_upd (k := k10)]
  refine AW.reg ?_
  refine sM ?_
  refine SeqK.q (q_mkFn rfl rfl rfl) rfl rfl rfl ?_
  refine SeqK.r (g_call rfl Fx.fn29 rfl (anyF_us _ 30 [.bp k10 0] (fun u => decide (u.1 = (i : Int)) && u.2) ((usM d0 b (cnj b.wh) p).getD []) .un Fx.fn30 (by omega) (fun u _ H1 h1 => used_any H1 k10 i (h1 _ _ (upd_same _ _ _)) u)) rfl rfl rfl) rfl ?_
  refine SeqK.q (q_not rfl rfl) rfl rfl rfl ?_
  refine SeqK.nil ?_
  refine AW.cond _ rfl (fun h40 => ?_) (fun h40 => ?_)
  ·
   refine sR ?_
   refine sA ?_
   refine SeqK.nil ?_
   refine AW.ret ?_
   exact fin_x (x := .c _) (H) (.tmp rfl .nil) rfl ((fun j o h => upd_sub hk10 j o (upd_sub hk24 j o h))) (⟨bCe (dF (fun h => by have h9 := h.2; rw [huv, List.all_eq_true] at h9; have h8 := h9 i (List.mem_range.2 hi); have h7 : (!cvB ((usM d0 b (cnj b.wh) p).getD []) i) = true := h40; rw [h8] at h7; cases h7)), rfl⟩)
  refine AW.skip ?_
  refine AW.reg ?_
  refine SeqK.q (q_add _ rfl rfl rfl (w64 (by omega) (by omega))) rfl rfl rfl ?_
  refine sM ?_
  refine SeqK.nil ?_
  exact ⟨i + 1, _, Wk.keep 42 [(6, .c (bC false)), (7, .c (exsC .un (cnj b.wh))), (8, .c (ussC .un ((usM d0 b (cnj b.wh) p).getD []))), (32, .c (exsC .un (cnj b.wh))), (33, iX .i64 ((((cnj b.wh).map exT').length : Nat) : Int)), (34, iX .i64 (((i + 1) : Nat) : Int))] [] (upd H k24 (some (.box (stA d0 b)))) rfl ⟨rfl, rfl, rfl, rfl, rfl, rfl, trivial⟩ trivial (upd_sub hk10) rfl, by omega, ⟨hi, upC hU (by simpa using h40)⟩, rfl⟩
 refine AW.exit ?_
 refine eth_e ?_
 refine eth_e ?_
 refine exit_here ?_
 refine sR ?_
 refine sA ?_
 refine SeqK.nil ?_
 refine AW.ret ?_
 exact fin_x (x := .c _) (H) (.tmp rfl .nil) rfl ((upd_sub hk24)) (⟨bCe (dT ⟨hsh, by rw [huv, List.all_eq_true]; exact fun j hj => hU j (by have := List.mem_range.1 hj; rw [List.length_map] at h35; omega)⟩), rfl⟩)

end Go.Proofs.Ytihlgigaejhilaa.W
namespace Go.Proofs.Ytihlgigaejhilaa.W
open Go.RowKit E
/-! the example of the document -/
abbrev xB : ByteArray := ⟨#[120]⟩
abbrev zB : ByteArray := ⟨#[122]⟩
abbrev yB : ByteArray := ⟨#[121]⟩
abbrev colE (n : Int) : Ex := ⟨2, ⟨#[]⟩, xB, n, 0, 0, ⟨#[]⟩, []⟩
abbrev fiveE : Ex := ⟨1, ⟨#[]⟩, ⟨#[]⟩, 0, 1, 5, ⟨#[]⟩, []⟩
abbrev sameE : Ex := ⟨10, ⟨#[]⟩, ⟨#[]⟩, 0, 0, 0, ⟨#[]⟩, [colE 0, colE 2]⟩
abbrev moreE : Ex := ⟨14, ⟨#[]⟩, ⟨#[]⟩, 0, 0, 0, ⟨#[]⟩, [colE 1, fiveE]⟩
abbrev whE : Ex := ⟨18, ⟨#[]⟩, ⟨#[]⟩, 0, 0, 0, ⟨#[]⟩, [sameE, moreE]⟩
abbrev colD (s : ByteArray) : Co := ⟨s, 1, 0, 9, 0, false⟩
abbrev schE : List Tb := [⟨⟨#[97]⟩, [colD xB, colD zB], [], [], []⟩, ⟨⟨#[98]⟩, [colD yB], [], [], []⟩]
abbrev casE : Cs := ⟨schE, [0, 1], [⟨#[]⟩, ⟨#[]⟩], whE⟩
abbrev rngE : Pl := ⟨3, 0, [1], [fiveE, ex0], ex0, []⟩
abbrev lkpE : Pl := ⟨2, 1, [0], [colE 0], ex0, []⟩
abbrev planE : Pl := ⟨5, 0, [], [], ex0, [⟨4, 0, [], [], moreE, [rngE]⟩, lkpE]⟩
abbrev planQ : Pl := ⟨5, 0, [], [], ex0, [rngE, lkpE]⟩
theorem exm_ss : ssP casE.sch := by decide
theorem exm_bin : binB 8 casE.wh = true := by decide
theorem exm_wit : witB casE.sch casE.frm (num3 casE.frm.length) casE.wh = true := by decide
theorem exm_few : fewB 7 planE = true := by decide
theorem exm_fewQ : fewB 7 planQ = true := by decide
theorem exm_vld : vldS casE.sch := by decide +kernel
theorem exm_us : usM schE (bdM casE) (cnj whE) planE = some [(1, false), (1, true), (0, true)] := by decide

theorem exm_fr : frQ casE := by decide
theorem exm_rr : ∀ j (h : j < casE.frm.length), frR casE j h := by decide
theorem bnd_mk {c : Cs} (h1 : ssP c.sch) (h2 : vldS c.sch) (h3 : frQ c) (h4 : binB 8 c.wh = true) (h5 : ∀ j (h : j < c.frm.length), frR c j h) (h6 : witB c.sch c.frm (num3 c.frm.length) c.wh = true) : bndP c := ⟨⟨⟨h1, h2⟩, h3, h4⟩, h5, h6⟩
theorem exm_bnd : bndP casE := bnd_mk exm_ss exm_vld exm_fr exm_bin exm_rr exm_wit
theorem exm_usQ : usM schE (bdM casE) (cnj whE) planQ = some [(1, false), (0, true)] := by decide
theorem exm_lf1 : lfP schE (bdM casE) [] rngE := by decide
theorem exm_lf2 : lfP schE (bdM casE) ([] ++ srM planE.args[0]) lkpE := by decide
theorem exm_lf3 : lfP schE (bdM casE) ([] ++ srM rngE) lkpE := by decide
theorem exm_ov : ovB schE [0, 1] ([] ++ srM rngE) moreE = true := by decide
theorem exm_shF : shB schE (bdM casE) ⟨4, 0, [], [], moreE, [rngE]⟩ [] = true := by
  rw [shB_4 (by decide) rfl rfl]
  show (_ && (shB schE (bdM casE) rngE [] && _)) = true
  rw [shB_leaf (by decide), decide_eq_true exm_lf1]
  exact Bool.and_eq_true_iff.2 ⟨by decide, Bool.and_eq_true_iff.2 ⟨rfl, exm_ov⟩⟩
theorem exm_sh : shB schE (bdM casE) planE [] = true := by
  rw [shB_5 (by decide) (by decide) rfl]
  show (_ && (shB schE (bdM casE) ⟨4, 0, [], [], moreE, [rngE]⟩ [] && shB schE (bdM casE) lkpE ([] ++ srM planE.args[0]))) = true
  rw [exm_shF, shB_leaf (p := lkpE) (by decide), decide_eq_true exm_lf2]; rfl
theorem exm_shQ : shB schE (bdM casE) planQ [] = true := by
  rw [shB_5 (by decide) (by decide) rfl]
  show (_ && (shB schE (bdM casE) rngE [] && shB schE (bdM casE) lkpE ([] ++ srM rngE))) = true
  rw [shB_leaf (p := rngE) (by decide), decide_eq_true exm_lf1, shB_leaf (p := lkpE) (by decide), decide_eq_true exm_lf3]; rfl
theorem srt01 : srtI [0, 1] = [0, 1] := List.mergeSort_of_pairwise (by decide)
theorem exm_shp : shpP schE (bdM casE) planE := by
  refine ⟨exm_sh, ?_⟩
  rw [show srM planE = [0, 1] by decide, srt01]; decide
theorem exm_shpQ : shpP schE (bdM casE) planQ := by
  refine ⟨exm_shQ, ?_⟩
  rw [show srM planQ = [0, 1] by decide, srt01]; decide
theorem exm_pv : pvP schE (bdM casE) planE := ⟨exm_shp, by
  unfold uvB; show (match usM schE (bdM casE) (cnj whE) planE with | none => false | some us => (List.range (cnj whE).length).all (cvB us)) = true
  rw [exm_us]; decide⟩
theorem exm_pvQ : ¬ pvP schE (bdM casE) planQ := fun h => by
  have h9 := h.2
  unfold uvB at h9
  change (match usM schE (bdM casE) (cnj whE) planQ with | none => false | some us => (List.range (cnj whE).length).all (cvB us)) = true at h9
  rw [exm_usQ] at h9; revert h9; decide
theorem exm_okE : okE whE := by simp only [okE, okEs]; decide
theorem exm_okP : okP planE := by simp only [okP, okPs, okE, okEs, List.mem_cons, List.not_mem_nil, or_false, forall_eq_or_imp, forall_eq, false_implies, implies_true, and_true, true_and]; decide
theorem exm_okPQ : okP planQ := by simp only [okP, okPs, okE, okEs, List.mem_cons, List.not_mem_nil, or_false, forall_eq_or_imp, forall_eq, false_implies, implies_true, and_true, true_and]; decide

end Go.Proofs.Ytihlgigaejhilaa.W
namespace Go.Proofs.Ytihlgigaejhilaa.W
open Go.RowKit E
/-! the example, and the check that all laws begin with -/
set_option maxHeartbeats 16000000 in
set_option maxRecDepth 20000 in
theorem exc_fn (n : Int) : Pure Try.prog 31 [iC n] (.c (exC (colE n))) := by
 intro H
 refine Spec.enter Try.func31 rfl ?_
 refine AW.wk (Wk.keep 5 [(0, .c (iC n))] [] (H) rfl ⟨rfl, trivial⟩ trivial (fun _ _ h => h) rfl) ?_
 refine sR ?_
 refine SeqK.r (b_alloc (r := [_, _, _, _, _, _, _, _]) rfl rfl Fx.ze27 rfl rfl rfl rfl) rfl ?_
 refine SeqK.nil ?_
 refine sR ?_
 refine sM ?_
 refine SeqK.q (q_build2 (zs := [_, _, _, _, _, _, _, _]) (r := [_, _, _, _, _, _, _, _]) [(0, 1), (1, 1), (2, 1), (3, 1), (4, 3), (7, 1)] _ rfl Fx.ze27 rfl Fx.bp27 rfl rfl rfl rfl) rfl rfl rfl ?_
 refine SeqK.xw 4 rfl (XW.g (.cons XW.reA (.cons XW.reA (.cons XW.reA (.cons XW.reA (.cons XW.reA (.cons XW.reA (.cons XW.reA (.cons (XW.nilU (sz := 8)) .nil))))))))) ?_
 refine SeqK.r (b_store (r := [_, _, _, _, _, _, _, _]) rfl rfl Fx.ty27 rfl rfl rfl rfl rfl rfl) rfl ?_
 refine SeqK.nil ?_
 refine AW.ret ?_
 exact fin_x (x := .c _) (H) (.cellL rfl rfl Fx.ty27 rfl rfl .nil) rfl (fun _ _ h => h) (⟨rfl, rfl⟩)

theorem exm_okC : okC casE := by
  refine ⟨by decide, fun t ht => ?_, by decide, by decide, by decide, exm_okE⟩
  have ht : t ∈ schE := ht
  simp only [schE, List.mem_cons, List.not_mem_nil, or_false] at ht
  rcases ht with rfl | rfl <;> exact ⟨by decide, by decide, by decide, by decide, by decide, by decide, by decide, by decide, by simp⟩
theorem exm_okB : okB schE (bdM casE) := ⟨by decide, by decide, by decide⟩

set_option maxHeartbeats 16000000 in
set_option maxRecDepth 20000 in
theorem example_any (H : Heap) : E.Spec Try.prog 18 [] H fun x H' => x = .tup [scC .un schE, bdC (bdM casE), plC planE] ∧ H' = H := by
 refine Spec.enter Try.func18 rfl ?_
 refine AW.wk (Wk.keep 69 [] [] (H) rfl trivial trivial (fun _ _ h => h) rfl) ?_
 refine sR ?_
 refine sA ?_
 refine SeqK.r (b_alloc (r := [_, _, _, _, _, _, _, _, _, _, _, _, _, _, _, _, _, _, _, _, _, _, _, _, _, _]) rfl rfl Fx.ze54 rfl rfl rfl rfl) rfl ?_
 refine SeqK.r (b_alloc (r := [_, _, _, _, _, _, _, _, _, _, _, _, _]) rfl rfl Fx.ze30 rfl rfl rfl rfl) rfl ?_
 refine SeqK.nil ?_
 refine sR ?_
 refine sA ?_
 refine SeqK.nil ?_
 refine AW.seq ?_
 refine AW.xw 3 rfl XW.fn0 ?_
 refine AW.reg ?_
 refine SeqK.q (q_build2 (zs := [_, _, _, _, _, _]) (r := [_, _, _, _, _, _]) [(0, 1), (1, 1), (2, 1), (3, 1), (4, 1), (5, 1)] _ rfl Fx.ze89 rfl Fx.bp89 rfl rfl rfl rfl) rfl rfl rfl ?_
 refine SeqK.r (b_alloc (r := [_, _, _, _, _, _]) rfl rfl Fx.ze89 rfl rfl rfl rfl) rfl ?_
 refine SeqK.r (b_store (r := [_, _, _, _, _, _]) rfl rfl Fx.ty89 rfl rfl rfl rfl rfl rfl) rfl ?_
 refine SeqK.nil ?_
 refine sR ?_
 refine SeqK.q (q_build2 (zs := [_, _, _, _, _, _]) (r := [_, _, _, _, _, _]) [(0, 1), (1, 1), (2, 1), (3, 1), (4, 1), (5, 1)] _ rfl Fx.ze89 rfl Fx.bp89 rfl rfl rfl rfl) rfl rfl rfl ?_
 refine SeqK.r (b_alloc (r := [_, _, _, _, _, _]) rfl rfl Fx.ze89 rfl rfl rfl rfl) rfl ?_
 refine SeqK.r (b_store (r := [_, _, _, _, _, _]) rfl rfl Fx.ty89 rfl rfl rfl rfl rfl rfl) rfl ?_
 refine SeqK.nil ?_
 refine sR ?_
 refine SeqK.q (q_build2 (zs := [_, _, _, _, _, _]) (r := [_, _, _, _, _, _]) [(0, 1), (1, 1), (2, 1), (3, 1), (4, 1), (5, 1)] _ rfl Fx.ze89 rfl Fx.bp89 rfl rfl rfl rfl) rfl rfl rfl ?_
 refine SeqK.r (b_alloc (r := [_, _, _, _, _, _]) rfl rfl Fx.ze89 rfl rfl rfl rfl) rfl ?_
 refine SeqK.r (b_store (r := [_, _, _, _, _, _]) rfl rfl Fx.ty89 rfl rfl rfl rfl rfl rfl) rfl ?_
 refine SeqK.nil ?_
 refine sR ?_
 refine SeqK.q (q_build2 (zs := [_, _, _]) (r := [_, _, _]) [(0, 1), (1, 1), (2, 1)] _ rfl Fx.ze25 rfl Fx.bp25 rfl rfl rfl rfl) rfl rfl rfl ?_
 refine SeqK.q (q_build2 (zs := [_, _, _, _, _, _, _, _]) (r := [_, _, _, _, _, _, _, _]) [(0, 1), (1, 1), (2, 1), (3, 1), (4, 3), (7, 1)] _ rfl Fx.ze27 rfl Fx.bp27 rfl rfl rfl rfl) rfl rfl rfl ?_
 refine SeqK.xw 18 rfl (XW.g (.cons XW.reA (.cons XW.reA (.cons XW.reA (.cons XW.reA (.cons XW.reA (.cons XW.reA (.cons XW.reA (.cons (XW.nilU (sz := 8)) .nil))))))))) ?_
 refine SeqK.r (b_alloc (r := [_, _, _, _, _, _, _, _]) rfl rfl Fx.ze27 rfl rfl rfl rfl) rfl ?_
 refine SeqK.r (b_store (r := [_, _, _, _, _, _, _, _]) rfl rfl Fx.ty27 rfl rfl rfl rfl rfl rfl) rfl ?_
 refine SeqK.nil ?_
 refine sR ?_
 refine sM ?_
 refine SeqK.r (g_callV (f := 31) (cs := []) rfl rfl Fx.fn31 rfl (exc_fn 0 _) rfl rfl rfl) rfl ?_
 refine sM ?_
 refine SeqK.r (g_callV (f := 31) (cs := []) rfl rfl Fx.fn31 rfl (exc_fn 2 _) rfl rfl rfl) rfl ?_
 refine SeqK.q (q_buildSlice _ rfl Fx.el23 rfl (by decide) rfl) rfl rfl rfl ?_
 refine SeqK.q (q_build2 (zs := [_, _, _, _, _, _, _, _]) (r := [_, _, _, _, _, _, _, _]) [(0, 1), (1, 1), (2, 1), (3, 1), (4, 3), (7, 1)] _ rfl Fx.ze27 rfl Fx.bp27 rfl rfl rfl rfl) rfl rfl rfl ?_
 refine SeqK.xw 24 rfl (XW.g (.cons XW.reA (.cons XW.reA (.cons XW.reA (.cons XW.reA (.cons XW.reA (.cons XW.reA (.cons XW.reA (.cons (XW.es (es' := [colE 0, colE 2].map exT') rfl) .nil))))))))) ?_
 refine SeqK.r (b_alloc (r := [_, _, _, _, _, _, _, _]) rfl rfl Fx.ze27 rfl rfl rfl rfl) rfl ?_
 refine SeqK.r (b_store (r := [_, _, _, _, _, _, _, _]) rfl rfl Fx.ty27 rfl rfl rfl rfl rfl rfl) rfl ?_
 refine SeqK.nil ?_
 refine AW.seq ?_
 refine AW.draw Fx.mo ?_
 refine LexK.q (q_mvC rfl rfl) rfl rfl rfl ?_
 refine LexK.r (g_callV (f := 31) (cs := []) rfl rfl Fx.fn31 rfl (exc_fn 1 _) rfl rfl rfl) rfl ?_
 refine LexK.r (b_load (r := .g [_, _, _, _, _, _, _, _]) rfl Fx.ty27 rfl rfl rfl rfl rfl rfl) rfl ?_
 refine LexK.q (q_buildSlice _ rfl Fx.el23 rfl (by decide) rfl) rfl rfl rfl ?_
 refine LexK.q (q_build2 (zs := [_, _, _, _, _, _, _, _]) (r := [_, _, _, _, _, _, _, _]) [(0, 1), (1, 1), (2, 1), (3, 1), (4, 3), (7, 1)] _ rfl Fx.ze27 rfl Fx.bp27 rfl rfl rfl rfl) rfl rfl rfl ?_
 refine LexK.r (b_alloc (r := [_, _, _, _, _, _, _, _]) rfl rfl Fx.ze27 rfl rfl rfl rfl) rfl ?_
 refine LexK.r (b_store (r := [_, _, _, _, _, _, _, _]) rfl rfl Fx.ty27 rfl rfl rfl rfl rfl rfl) rfl ?_
 refine LexK.nil (by kernel_rfl) ?_
 refine AW.xwL 9 rfl (.cons XW.reA (.cons XW.reA (.cons XW.reA (.cons XW.reA (.cons XW.reA (.cons XW.reA (.cons XW.reA (.cons (XW.es (es' := [colE 1, fiveE].map exT') rfl) .nil)))))))) ?_
 refine sR ?_
 refine SeqK.r (b_load (r := .g [_, _, _, _, _, _]) rfl Fx.ty89 rfl rfl rfl rfl rfl rfl) rfl ?_
 refine SeqK.r (b_load (r := .g [_, _, _, _, _, _]) rfl Fx.ty89 rfl rfl rfl rfl rfl rfl) rfl ?_
 refine SeqK.q (q_buildSlice _ rfl Fx.el39 rfl (by decide) rfl) rfl rfl rfl ?_
 refine SeqK.q (q_build2 (zs := [_, _, _, _, _]) (r := [_, _, _, _, _]) [(0, 1), (1, 1), (2, 1), (3, 1), (4, 1)] _ rfl Fx.ze71 rfl Fx.bp71 rfl rfl rfl rfl) rfl rfl rfl ?_
 refine SeqK.xw 33 rfl (XW.g (.cons XW.reA (.cons (XW.es (es' := [colD xB, colD zB].map coT) rfl) (.cons (XW.nilU (sz := 1)) (.cons (XW.nilU (sz := 3)) (.cons (XW.nilU (sz := 8)) .nil)))))) ?_
 refine SeqK.r (b_load (r := .g [_, _, _, _, _, _]) rfl Fx.ty89 rfl rfl rfl rfl rfl rfl) rfl ?_
 refine SeqK.q (q_buildSlice _ rfl Fx.el39 rfl (by decide) rfl) rfl rfl rfl ?_
 refine SeqK.q (q_build2 (zs := [_, _, _, _, _]) (r := [_, _, _, _, _]) [(0, 1), (1, 1), (2, 1), (3, 1), (4, 1)] _ rfl Fx.ze71 rfl Fx.bp71 rfl rfl rfl rfl) rfl rfl rfl ?_
 refine SeqK.xw 36 rfl (XW.g (.cons XW.reA (.cons (XW.es (es' := [colD yB].map coT) rfl) (.cons (XW.nilU (sz := 1)) (.cons (XW.nilU (sz := 3)) (.cons (XW.nilU (sz := 8)) .nil)))))) ?_
 refine SeqK.q (q_buildSlice _ rfl Fx.el35 rfl (by decide) rfl) rfl rfl rfl ?_
 refine SeqK.xw 37 rfl (XW.es (es' := schE.map tbT) rfl) ?_
 refine SeqK.q (q_buildSlice _ rfl Fx.el22 rfl (by decide) rfl) rfl rfl rfl ?_
 refine SeqK.xw 38 rfl (XW.es (es' := [0, 1].map i64T) rfl) ?_
 refine SeqK.q (q_buildSlice _ rfl Fx.el36 rfl (by decide) rfl) rfl rfl rfl ?_
 refine SeqK.xw 39 rfl (XW.es (es' := [⟨#[]⟩, ⟨#[]⟩].map sT) rfl) ?_
 refine SeqK.r (b_load (r := .g [_, _, _, _, _, _, _, _]) rfl Fx.ty27 rfl rfl rfl rfl rfl rfl) rfl ?_
 refine SeqK.r (b_load (r := .g [_, _, _, _, _, _, _, _]) rfl Fx.ty27 rfl rfl rfl rfl rfl rfl) rfl ?_
 refine SeqK.q (q_buildSlice _ rfl Fx.el23 rfl (by decide) rfl) rfl rfl rfl ?_
 refine SeqK.xw 42 rfl (XW.es (es' := [sameE, moreE].map exT') rfl) ?_
 refine SeqK.q (q_build2 (zs := [_, _, _, _, _, _, _, _]) (r := [_, _, _, _, _, _, _, _]) [(0, 1), (1, 1), (2, 1), (3, 1), (4, 3), (7, 1)] _ rfl Fx.ze27 rfl Fx.bp27 rfl rfl rfl rfl) rfl rfl rfl ?_
 refine SeqK.q (q_build2 (zs := [_, _, _, _, _, _, _, _, _, _, _]) (r := [_, _, _, _, _, _, _, _, _, _, _]) [(0, 1), (1, 1), (2, 1), (3, 8)] _ rfl Fx.ze38 rfl Fx.bp38 rfl rfl rfl rfl) rfl rfl rfl ?_
 refine SeqK.r (b_alloc (r := [_, _, _, _, _, _, _, _, _, _, _]) rfl rfl Fx.ze38 rfl rfl rfl rfl) rfl ?_
 refine SeqK.r (b_store (r := [_, _, _, _, _, _, _, _, _, _, _]) rfl rfl Fx.ty38 rfl rfl rfl rfl rfl rfl) rfl ?_
 refine SeqK.nil ?_
 refine sR ?_
 refine SeqK.r (b_load (r := .g [_, _, _, _, _, _, _, _, _, _, _]) rfl Fx.ty38 rfl rfl rfl rfl rfl rfl) rfl ?_
 refine SeqK.callE rfl rfl rfl rfl Fx.fn10 rfl (bound_any H casE exm_okC) (fun _ _ ⟨⟨_, h, _⟩, _⟩ => by rw [h]; rfl) (fun x47 H47 q47 => ?_)
 obtain ⟨⟨b, rfl, hok⟩, hHs⟩ := q47
 replace hHs := hHs.symm
 subst hHs
 obtain rfl := hok exm_bnd
 refine SeqK.q (q_mvT rfl rfl) rfl rfl rfl ?_
 refine SeqK.q (q_extract _ rfl rfl rfl) rfl rfl rfl ?_
 refine SeqK.q (q_extract _ rfl rfl rfl) rfl rfl rfl ?_
 refine SeqK.r (b_alloc (r := [_, _, _, _, _, _, _, _, _, _, _, _, _, _, _, _, _, _, _, _, _, _, _, _, _, _]) rfl rfl Fx.ze54 rfl rfl rfl rfl) rfl ?_
 refine SeqK.r (b_store (r := [_, _, _, _, _, _, _, _, _, _, _, _, _, _, _, _, _, _, _, _, _, _, _, _, _, _]) rfl rfl Fx.ty54 rfl rfl rfl rfl rfl rfl) rfl ?_
 refine sA ?_
 refine SeqK.nil ?_
 refine AW.seq ?_
 refine AW.draw Fx.mo ?_
 refine LexK.r (b_load (r := .g [_, _, _, _, _, _, _, _]) rfl Fx.ty27 rfl rfl rfl rfl rfl rfl) rfl ?_
 refine LexK.q (q_buildSlice _ rfl Fx.el22 rfl (by decide) rfl) rfl rfl rfl ?_
 refine LexK.r (b_load (r := .g [_, _, _, _, _, _, _, _]) rfl Fx.ty27 rfl rfl rfl rfl rfl rfl) rfl ?_
 refine LexK.q (q_build2 (zs := [_, _, _, _, _, _, _, _]) (r := [_, _, _, _, _, _, _, _]) [(0, 1), (1, 1), (2, 1), (3, 1), (4, 3), (7, 1)] _ rfl Fx.ze27 rfl Fx.bp27 rfl rfl rfl rfl) rfl rfl rfl ?_
 refine LexK.q (q_buildSlice _ rfl Fx.el23 rfl (by decide) rfl) rfl rfl rfl ?_
 refine LexK.q (q_build2 (zs := [_, _, _, _, _, _, _, _, _, _, _, _, _]) (r := [_, _, _, _, _, _, _, _, _, _, _, _, _]) [(0, 1), (1, 1), (2, 1), (3, 1), (4, 8), (12, 1)] _ rfl Fx.ze30 rfl Fx.bp30 rfl rfl rfl rfl) rfl rfl rfl ?_
 refine LexK.q (q_buildSlice _ rfl Fx.el28 rfl (by decide) rfl) rfl rfl rfl ?_
 refine LexK.q (q_build2 (zs := [_, _, _, _, _, _, _, _, _, _, _, _, _]) (r := [_, _, _, _, _, _, _, _, _, _, _, _, _]) [(0, 1), (1, 1), (2, 1), (3, 1), (4, 8), (12, 1)] _ rfl Fx.ze30 rfl Fx.bp30 rfl rfl rfl rfl) rfl rfl rfl ?_
 refine LexK.q (q_buildSlice _ rfl Fx.el22 rfl (by decide) rfl) rfl rfl rfl ?_
 refine LexK.q (q_mvC rfl rfl) rfl rfl rfl ?_
 refine LexK.r (g_callV (f := 31) (cs := []) rfl rfl Fx.fn31 rfl (exc_fn 0 _) rfl rfl rfl) rfl ?_
 refine LexK.q (q_buildSlice _ rfl Fx.el23 rfl (by decide) rfl) rfl rfl rfl ?_
 refine LexK.q (q_build2 (zs := [_, _, _, _, _, _, _, _, _, _, _, _, _]) (r := [_, _, _, _, _, _, _, _, _, _, _, _, _]) [(0, 1), (1, 1), (2, 1), (3, 1), (4, 8), (12, 1)] _ rfl Fx.ze30 rfl Fx.bp30 rfl rfl rfl rfl) rfl rfl rfl ?_
 refine LexK.q (q_buildSlice _ rfl Fx.el28 rfl (by decide) rfl) rfl rfl rfl ?_
 refine LexK.q (q_build2 (zs := [_, _, _, _, _, _, _, _, _, _, _, _, _]) (r := [_, _, _, _, _, _, _, _, _, _, _, _, _]) [(0, 1), (1, 1), (2, 1), (3, 1), (4, 8), (12, 1)] _ rfl Fx.ze30 rfl Fx.bp30 rfl rfl rfl rfl) rfl rfl rfl ?_
 refine LexK.r (b_alloc (r := [_, _, _, _, _, _, _, _, _, _, _, _, _]) rfl rfl Fx.ze30 rfl rfl rfl rfl) rfl ?_
 refine LexK.r (b_store (r := [_, _, _, _, _, _, _, _, _, _, _, _, _]) rfl rfl Fx.ty30 rfl rfl rfl rfl rfl rfl) rfl ?_
 refine LexK.nil (by kernel_rfl) ?_
 refine AW.xwL 13 rfl (.cons XW.reA (.cons XW.reA (.cons (XW.nilU (sz := 1)) (.cons (XW.nilU (sz := 8)) (.cons XW.reA (.cons XW.reA (.cons XW.reA (.cons XW.reA (.cons XW.reA (.cons XW.reA (.cons XW.reA (.cons (XW.nilU (sz := 8)) (.cons ((XW.tw (TW.sl (.cons (.cons TW.re (.cons TW.re (.cons TW.nil (.cons TW.nil (.cons TW.re (.cons TW.re (.cons TW.re (.cons TW.re (.cons TW.re (.cons TW.re (.cons TW.re (.cons TW.re (.cons (TW.sl (.cons (.cons TW.re (.cons TW.re (.cons (TW.sl (.cons (.cons TW.re .nil) .nil)) (.cons (TW.sl (.cons (.cons TW.re (.cons TW.re (.cons TW.re (.cons TW.re (.cons TW.re (.cons TW.re (.cons TW.re (.cons TW.re .nil)))))))) (.cons (.cons TW.re (.cons TW.re (.cons TW.re (.cons TW.re (.cons TW.re (.cons TW.re (.cons TW.re (.cons TW.nil .nil)))))))) .nil))) (.cons TW.re (.cons TW.re (.cons TW.re (.cons TW.re (.cons TW.re (.cons TW.re (.cons TW.re (.cons TW.nil (.cons TW.nil .nil))))))))))))) .nil)) .nil))))))))))))) (.cons (.cons TW.re (.cons TW.re (.cons (TW.sl (.cons (.cons TW.re .nil) .nil)) (.cons (TW.sl (.cons (.cons TW.re (.cons TW.re (.cons TW.re (.cons TW.re (.cons TW.re (.cons TW.re (.cons TW.re (.cons TW.re .nil)))))))) .nil)) (.cons TW.re (.cons TW.re (.cons TW.re (.cons TW.re (.cons TW.re (.cons TW.re (.cons TW.re (.cons TW.nil (.cons TW.nil .nil))))))))))))) .nil)))).trans (XW.es (es' := planE.args.map plT') rfl)) .nil))))))))))))) ?_
 refine AW.seq ?_
 refine AW.draw Fx.mo ?_
 refine LexK.q (q_fieldL _ rfl Fx.fl38_0 rfl rfl) rfl rfl rfl ?_
 refine LexK.r (b_load (r := .a _) rfl Fx.ty35 rfl rfl rfl rfl rfl rfl) rfl ?_
 refine LexK.r (b_load (r := .g [_, _, _, _, _, _, _, _, _, _, _, _, _, _, _, _, _, _, _, _, _, _, _, _, _, _]) rfl Fx.ty54 rfl rfl rfl rfl rfl rfl) rfl ?_
 refine LexK.r (b_load (r := .g [_, _, _, _, _, _, _, _, _, _, _, _, _]) rfl Fx.ty30 rfl rfl rfl rfl rfl rfl) rfl ?_
 refine LexK.q (q_asC rfl rfl) rfl rfl rfl ?_
 refine LexK.r (b_store (r := [_, _, _, _, _, _, _, _, _, _, _, _, _, _, _, _, _, _, _, _, _, _, _, _, _, _]) rfl rfl Fx.ty54 rfl rfl rfl rfl rfl rfl) rfl ?_
 refine LexK.r (b_store (r := [_, _, _, _, _, _, _, _, _, _, _, _, _]) rfl rfl Fx.ty30 rfl rfl rfl rfl rfl rfl) rfl ?_
 refine LexK.nil (by kernel_rfl) ?_
 refine AW.ret ?_
 exact fin_x (x := .tup [_, _, _]) (H) (.tmp rfl (.cellL rfl rfl Fx.ty54 rfl rfl (.cellL rfl rfl Fx.ty30 rfl rfl .nil))) rfl (fun _ _ h => h) (⟨rfl, rfl⟩)

set_option maxHeartbeats 16000000 in
set_option maxRecDepth 20000 in
theorem awake_any (H : Heap) : E.Spec Try.prog 6 [] H fun x H' => x = .c (bC true) ∧ H' = H := by
 refine Spec.enter Try.func6 rfl ?_
 refine AW.wk (Wk.keep 48 [] [] (H) rfl trivial trivial (fun _ _ h => h) rfl) ?_
 refine sR ?_
 refine sA ?_
 refine SeqK.nil ?_
 refine sR ?_
 refine SeqK.r (g_call rfl Fx.fn18 rfl (example_any H) rfl rfl rfl) rfl ?_
 refine SeqK.q (q_mvT rfl rfl) rfl rfl rfl ?_
 refine SeqK.q (q_extract _ rfl rfl rfl) rfl rfl rfl ?_
 refine SeqK.q (q_extract _ rfl rfl rfl) rfl rfl rfl ?_
 refine SeqK.q (q_extract _ rfl rfl rfl) rfl rfl rfl ?_
 refine SeqK.r (b_alloc (r := [_, _, _, _, _, _, _, _, _, _, _, _, _, _, _, _, _, _, _, _, _, _, _, _, _, _]) rfl rfl Fx.ze54 rfl rfl rfl rfl) rfl ?_
 refine SeqK.r (b_alloc (r := [_, _, _, _, _, _, _, _, _, _, _, _, _]) rfl rfl Fx.ze30 rfl rfl rfl rfl) rfl ?_
 refine sA ?_
 refine SeqK.r (b_store (r := [_, _, _, _, _, _, _, _, _, _, _, _, _, _, _, _, _, _, _, _, _, _, _, _, _, _]) rfl rfl Fx.ty54 rfl rfl rfl rfl rfl rfl) rfl ?_
 refine SeqK.r (b_store (r := [_, _, _, _, _, _, _, _, _, _, _, _, _]) rfl rfl Fx.ty30 rfl rfl rfl rfl rfl rfl) rfl ?_
 refine SeqK.nil ?_
 refine AW.seq ?_
 refine AW.draw Fx.mo ?_
 refine LexK.q (q_fieldL _ rfl Fx.fl30_5 rfl rfl) rfl rfl rfl ?_
 refine LexK.r (b_load (r := .a _) rfl Fx.ty28 rfl rfl rfl rfl rfl rfl) rfl ?_
 refine LexK.q (q_index _ rfl Fx.sl28 rfl rfl (by omega) (idx_pl (l := planE.args) (i := 0) (by decide))) rfl rfl rfl ?_
 refine LexK.q (q_fieldP _ rfl Fx.fl30_5 rfl rfl) rfl rfl rfl ?_
 refine LexK.q (q_load (.a _) rfl Fx.ty28 rfl rfl rfl) rfl rfl rfl ?_
 refine LexK.q (q_index _ rfl Fx.sl28 rfl rfl (by omega) (idx_pl (l := planE.args[0].args) (i := 0) (by decide))) rfl rfl rfl ?_
 refine LexK.q (q_load (.g [_, _, _, _, _, _, _, _, _, _, _, _, _]) rfl Fx.ty30 rfl rfl rfl) rfl rfl rfl ?_
 refine LexK.q (q_fieldL _ rfl Fx.fl30_5 rfl rfl) rfl rfl rfl ?_
 refine LexK.r (b_load (r := .a _) rfl Fx.ty28 rfl rfl rfl rfl rfl rfl) rfl ?_
 refine LexK.q (q_index _ rfl Fx.sl28 rfl rfl (by omega) (idx_pl (l := planE.args) (i := 1) (by decide))) rfl rfl rfl ?_
 refine LexK.q (q_load (.g [_, _, _, _, _, _, _, _, _, _, _, _, _]) rfl Fx.ty30 rfl rfl rfl) rfl rfl rfl ?_
 refine LexK.q (q_buildSlice _ rfl Fx.el28 rfl (by decide) rfl) rfl rfl rfl ?_
 refine LexK.q (q_build2 (zs := [_, _, _, _, _, _, _, _, _, _, _, _, _]) (r := [_, _, _, _, _, _, _, _, _, _, _, _, _]) [(0, 1), (1, 1), (2, 1), (3, 1), (4, 8), (12, 1)] _ rfl Fx.ze30 rfl Fx.bp30 rfl rfl rfl rfl) rfl rfl rfl ?_
 refine LexK.r (b_alloc (r := [_, _, _, _, _, _, _, _, _, _, _, _, _]) rfl rfl Fx.ze30 rfl rfl rfl rfl) rfl ?_
 refine LexK.r (b_store (r := [_, _, _, _, _, _, _, _, _, _, _, _, _]) rfl rfl Fx.ty30 rfl rfl rfl rfl rfl rfl) rfl ?_
 refine LexK.nil (by kernel_rfl) ?_
 refine AW.xwL 4 rfl (.cons XW.reA (.cons XW.reA (.cons (XW.nilU (sz := 1)) (.cons (XW.nilU (sz := 8)) (.cons XW.reA (.cons XW.reA (.cons XW.reA (.cons XW.reA (.cons XW.reA (.cons XW.reA (.cons XW.reA (.cons (XW.nilU (sz := 8)) (.cons (XW.es (es' := planQ.args.map plT') rfl) .nil))))))))))))) ?_
 refine sR ?_
 refine sM ?_
 refine SeqK.r (b_load (r := .g [_, _, _, _, _, _, _, _, _, _, _, _, _, _, _, _, _, _, _, _, _, _, _, _, _, _]) rfl Fx.ty54 rfl rfl rfl rfl rfl rfl) rfl ?_
 refine SeqK.r (b_load (r := .g [_, _, _, _, _, _, _, _, _, _, _, _, _]) rfl Fx.ty30 rfl rfl rfl rfl rfl rfl) rfl ?_
 refine SeqK.r (g_call rfl Fx.fn17 rfl (pvalid_any H schE (bdM casE) exm_okB exm_okE (by decide) planE exm_okP ⟨7, by decide, exm_few⟩) rfl rfl rfl) rfl ?_
 refine SeqK.qB (q_mvC rfl rfl) rfl rfl rfl (fun g27 => ?_) (fun g27 => ?_)
 ·
  refine SeqK.on (q_mvC rfl rfl) rfl rfl rfl rfl rfl ?_
  refine SeqK.rOn (b_load (r := .g [_, _, _, _, _, _, _, _, _, _, _, _, _, _, _, _, _, _, _, _, _, _, _, _, _, _]) rfl Fx.ty54 rfl rfl rfl rfl rfl rfl) rfl rfl rfl ?_
  refine SeqK.rOn (b_load (r := .g [_, _, _, _, _, _, _, _, _, _, _, _, _]) rfl Fx.ty30 rfl rfl rfl rfl rfl rfl) rfl rfl rfl ?_
  refine SeqK.rOn (g_call rfl Fx.fn17 rfl (pvalid_any H schE (bdM casE) exm_okB exm_okE (by decide) planQ exm_okPQ ⟨7, by decide, exm_fewQ⟩) rfl rfl rfl) rfl rfl rfl ?_
  refine SeqK.on (q_not rfl rfl) rfl rfl rfl rfl rfl ?_
  refine SeqK.q (q_pkT rfl rfl rfl) rfl rfl rfl ?_
  refine SeqK.qB (q_mvC rfl rfl) rfl rfl rfl (fun g34 => ?_) (fun g34 => ?_)
  ·
   refine SeqK.on (q_mvC rfl rfl) rfl rfl rfl rfl rfl ?_
   refine SeqK.rOn (b_load (r := .g [_, _, _, _, _, _, _, _, _, _, _, _, _, _, _, _, _, _, _, _, _, _, _, _, _, _]) rfl Fx.ty54 rfl rfl rfl rfl rfl rfl) rfl rfl rfl ?_
   refine SeqK.rOn (b_load (r := .g [_, _, _, _, _, _, _, _, _, _, _, _, _]) rfl Fx.ty30 rfl rfl rfl rfl rfl rfl) rfl rfl rfl ?_
   refine SeqK.rOn (g_call rfl Fx.fn19 rfl (shape44_any H schE (bdM casE) exm_okB planQ exm_okPQ (okF.src ⟨7, by decide, exm_fewQ⟩)) rfl rfl rfl) rfl rfl rfl ?_
   refine SeqK.q (q_pkT rfl rfl rfl) rfl rfl rfl ?_
   refine SeqK.qB (q_mvC rfl rfl) rfl rfl rfl (fun g40 => ?_) (fun g40 => ?_)
   ·
    refine SeqK.on (q_fieldL _ rfl Fx.fl54_0 rfl rfl) rfl rfl rfl rfl rfl ?_
    refine SeqK.on (q_fieldL _ rfl Fx.fl50_7 rfl rfl) rfl rfl rfl rfl rfl ?_
    refine SeqK.rOn (b_load (r := .g [_, _, _, _, _, _, _, _]) rfl Fx.ty27 rfl rfl rfl rfl rfl rfl) rfl rfl rfl ?_
    refine SeqK.on (q_call _ rfl Fx.fn11 rfl (conj_any whE exm_okE (by decide)) rfl) rfl rfl rfl rfl rfl ?_
    refine SeqK.on (q_len rfl Fx.un23 rfl) rfl rfl rfl rfl rfl ?_
    refine SeqK.on (q_eql rfl rfl rfl) rfl rfl rfl rfl rfl ?_
    refine SeqK.q (q_pkT rfl rfl rfl) rfl rfl rfl ?_
    refine sA ?_
    refine SeqK.nil ?_
    refine AW.ret ?_
    exact fin_x (x := .c _) (H) (.tmp rfl .nil) rfl (fun _ _ h => h) (⟨by first | exact bCe (decide_eq_true (by rw [List.length_map]; decide)) | exact absurd exm_shpQ (of_decide_eq_false g40) | exact absurd (nd_f g34) exm_pvQ | exact absurd exm_pv (of_decide_eq_false g27), rfl⟩)
   iterate 6 refine SeqK.off rfl rfl rfl rfl rfl rfl ?_
   refine SeqK.q (q_pkF rfl rfl rfl) rfl rfl rfl ?_
   refine sA ?_
   refine SeqK.nil ?_
   refine AW.ret ?_
   exact fin_x (x := .c _) (H) (.tmp rfl .nil) rfl (fun _ _ h => h) (⟨by first | exact bCe (decide_eq_true (by rw [List.length_map]; decide)) | exact absurd exm_shpQ (of_decide_eq_false g40) | exact absurd (nd_f g34) exm_pvQ | exact absurd exm_pv (of_decide_eq_false g27), rfl⟩)
  iterate 4 refine SeqK.off rfl rfl rfl rfl rfl rfl ?_
  refine SeqK.q (q_pkF rfl rfl rfl) rfl rfl rfl ?_
  refine sM ?_
  iterate 6 refine SeqK.off rfl rfl rfl rfl rfl rfl ?_
  refine SeqK.q (q_pkF rfl rfl rfl) rfl rfl rfl ?_
  refine sA ?_
  refine SeqK.nil ?_
  refine AW.ret ?_
  exact fin_x (x := .c _) (H) (.tmp rfl .nil) rfl (fun _ _ h => h) (⟨by first | exact bCe (decide_eq_true (by rw [List.length_map]; decide)) | exact absurd exm_shpQ (of_decide_eq_false g40) | exact absurd (nd_f g34) exm_pvQ | exact absurd exm_pv (of_decide_eq_false g27), rfl⟩)
 iterate 5 refine SeqK.off rfl rfl rfl rfl rfl rfl ?_
 refine SeqK.q (q_pkF rfl rfl rfl) rfl rfl rfl ?_
 refine sM ?_
 iterate 4 refine SeqK.off rfl rfl rfl rfl rfl rfl ?_
 refine SeqK.q (q_pkF rfl rfl rfl) rfl rfl rfl ?_
 refine sM ?_
 iterate 6 refine SeqK.off rfl rfl rfl rfl rfl rfl ?_
 refine SeqK.q (q_pkF rfl rfl rfl) rfl rfl rfl ?_
 refine sA ?_
 refine SeqK.nil ?_
 refine AW.ret ?_
 exact fin_x (x := .c _) (H) (.tmp rfl .nil) rfl (fun _ _ h => h) (⟨by first | exact bCe (decide_eq_true (by rw [List.length_map]; decide)) | exact absurd exm_shpQ (of_decide_eq_false g40) | exact absurd (nd_f g34) exm_pvQ | exact absurd exm_pv (of_decide_eq_false g27), rfl⟩)

end Go.Proofs.Ytihlgigaejhilaa.W
namespace Go.Proofs.Ytihlgigaejhilaa.W
open Go.RowKit E
/-! the laws of Sources and Conjuncts, walked -/
theorem bin_len : ∀ (d : Nat) (e : Ex), binB d e = true → (cnj e).length ≤ 2 ^ d
  | 0, e, h => by rw [binB] at h; cases h
  | d + 1, e, h => by
    rw [binB, Bool.and_eq_true, Bool.and_eq_true, List.all_eq_true] at h
    have h2 : e.args.length ≤ 2 := by
      have := h.1
      rw [smlB, Bool.and_eq_true] at this
      exact of_decide_eq_true this.1
    have key : ∀ l : List Ex, (∀ a ∈ l, binB d a = true) → (l.flatMap cnj).length ≤ l.length * 2 ^ d := by
      intro l
      induction l with
      | nil => simp
      | cons a r ih =>
        intro hr
        have h1 := bin_len d a (hr a (by simp))
        have h2 := ih fun x hx => hr x (by simp [hx])
        rw [List.flatMap_cons, List.length_append, List.length_cons, Nat.add_mul, Nat.one_mul]; omega
    have h4 := key e.args h.2.2
    have h5 : e.args.length * 2 ^ d ≤ 2 * 2 ^ d := Nat.mul_le_mul_right _ h2
    have h6 : 1 ≤ 2 ^ d := Nat.one_le_pow _ _ (by omega)
    rw [Nat.pow_succ]
    by_cases e0 : e.op = 0
    · rw [cnj_0 e0]; simp
    · by_cases e1 : e.op = 18
      · rw [cnj_and e1]; omega
      · rw [cnj_one e0 e1, List.length_singleton]; omega

end Go.Proofs.Ytihlgigaejhilaa.W
namespace Go.Proofs.Ytihlgigaejhilaa.W
open Go.RowKit E
/-! the naive plan, plain: it is small, well-formed and valid -/
abbrev scP (i : Nat) : Pl := ⟨1, (i : Int), [], [], ex0, []⟩
def jnP : Nat → Pl
  | 0 => scP 0
  | i + 1 => ⟨5, 0, [], [], ex0, [jnP i, scP (i + 1)]⟩
def nvM (n : Nat) (wh : Ex) : Pl := if wh.op = 0 then jnP (n - 1) else ⟨4, 0, [], [], wh, [jnP (n - 1)]⟩
theorem okE_ex0 : okE ex0 := okE_iff.2 ⟨⟨by decide, by decide, by decide, by decide⟩, by simp⟩
theorem okP_sc (i : Nat) : okP (scP i) := okP_iff.2 ⟨⟨by simp, by simp, by simp, okE_ex0, by simp⟩, by simp⟩
theorem okP_jn : ∀ n, okP (jnP n)
  | 0 => okP_sc 0
  | n + 1 => okP_iff.2 ⟨⟨by simp [jnP], by simp [jnP], by simp [jnP], okE_ex0, by simp [jnP]⟩, fun a ha => by
    rcases List.mem_cons.1 ha with rfl | ha
    · exact okP_jn n
    · rw [List.mem_singleton.1 ha]; exact okP_sc _⟩
theorem okP_nv (n : Nat) (wh : Ex) (h : okE wh) : okP (nvM n wh) := by
  rw [nvM]; split
  · exact okP_jn _
  · refine okP_iff.2 ⟨⟨by simp, by simp, by simp, h, by simp⟩, fun a ha => ?_⟩
    rw [List.mem_singleton.1 ha]; exact okP_jn _
theorem nods_lt {K : Nat} : ∀ (l : List Ex) (m n : Nat), (∀ a ∈ l, ∀ m, nod a m ≤ K) → nods l m n ≤ n + l.length * K
  | [], m, n, _ => by rw [nods]; omega
  | e :: r, m, n, h => by
    rw [nods]; split
    · have h1 := nods_lt r m (n + nod e (m - n)) fun a ha => h a (by simp [ha])
      have h2 := h e (by simp) (m - n)
      rw [List.length_cons, Nat.add_mul]; omega
    · omega
theorem nod_sml : ∀ (d : Nat) (e : Ex), smlB d e = true → ∀ m, nod e m ≤ 2 ^ d - 1
  | 0, e, h, _ => by rw [smlB] at h; cases h
  | d + 1, e, h, m => by
    rw [smlB, Bool.and_eq_true, Bool.and_eq_true, List.all_eq_true] at h
    have h1 := of_decide_eq_true h.1
    have h2 := of_decide_eq_true h.2.1
    rw [nod_sm (by show ¬ 100 < e.nm.size + e.tb.size + e.vs.size; omega)]
    refine Nat.le_trans (nods_lt e.args m 1 fun a ha k => nod_sml d a (h.2.2 a ha) k) ?_
    have h3 : e.args.length * (2 ^ d - 1) ≤ 2 * (2 ^ d - 1) := Nat.mul_le_mul_right _ h1
    have h4 : 1 ≤ 2 ^ d := Nat.one_le_pow _ _ (by omega)
    rw [Nat.pow_succ]; omega
theorem bin_sml : ∀ (d : Nat) (e : Ex), binB d e = true → smlB d e = true
  | 0, e, h => by rw [binB] at h; cases h
  | d + 1, e, h => by rw [binB, Bool.and_eq_true] at h; exact h.1
theorem nod_ex0 (m : Nat) : nod ex0 m = 1 := by rw [nod_sm (by decide), nods]
theorem few_sc (d i : Nat) : fewB (d + 1) (scP i) = true := by
  rw [fewB, decide_eq_true (by refine ⟨by simp, by simp, by simp, ?_⟩; show nod ex0 400 ≤ 400; rw [nod_ex0]; omega)]; rfl
theorem few_jn : ∀ n, fewB (n + 1) (jnP n) = true
  | 0 => few_sc 0 0
  | n + 1 => by
    rw [fewB, decide_eq_true (by refine ⟨by simp [jnP], by simp [jnP], by simp [jnP], ?_⟩; show nod ex0 400 ≤ 400; rw [nod_ex0]; omega)]
    show (true && (true && ([jnP n, scP (n + 1)].all (fewB (n + 1))))) = true
    rw [List.all_cons, List.all_cons, few_jn n, few_sc]; rfl
theorem okF_nv (n : Nat) (wh : Ex) (hn : n ≤ 5) (h : binB 8 wh = true) : okF (nvM n wh) := by
  rw [nvM]; split
  · exact ⟨n - 1 + 1, by omega, few_jn _⟩
  · refine ⟨n - 1 + 1 + 1, by omega, ?_⟩
    rw [fewB, decide_eq_true (by refine ⟨by simp, by simp, by simp, Nat.le_trans (nod_sml 8 wh (bin_sml 8 wh h) 400) (by decide)⟩)]
    show (true && (true && [jnP (n - 1)].all (fewB (n - 1 + 1)))) = true
    rw [List.all_cons, few_jn]; rfl
abbrev numI (n : Nat) : List Int := (List.range n).map fun i : Nat => (i : Int)
theorem numI_succ (n : Nat) : numI (n + 1) = numI n ++ [(n : Int)] := by rw [numI, List.range_succ, List.map_append]; rfl
theorem sr_jn : ∀ n, srM (jnP n) = numI (n + 1)
  | 0 => by rw [jnP, srM_leaf (by decide)]; rfl
  | n + 1 => by
    rw [jnP, srM_in (p := ⟨5, 0, [], [], ex0, [jnP n, scP (n + 1)]⟩) (show ¬ ((5 : Int) = 1 ∨ (5 : Int) = 2 ∨ (5 : Int) = 3) by decide)]
    show [jnP n, scP (n + 1)].flatMap srM = _
    rw [List.flatMap_cons, List.flatMap_cons, sr_jn n, srM_leaf (p := scP (n + 1)) (by left; rfl), numI_succ (n + 1)]
    simp
theorem sr_nv (n : Nat) (wh : Ex) (hn : 1 ≤ n) : srM (nvM n wh) = numI n := by
  rw [nvM]; split
  · rw [sr_jn]; congr 1; omega
  · rw [srM_in (p := ⟨4, 0, [], [], wh, [jnP (n - 1)]⟩) (show ¬ ((4 : Int) = 1 ∨ (4 : Int) = 2 ∨ (4 : Int) = 3) by decide)]
    show [jnP (n - 1)].flatMap srM = _
    rw [List.flatMap_cons, List.flatMap_nil, List.append_nil, sr_jn]; congr 1; omega
theorem sh_sc {d0 : List Tb} {b : Bd} {i : Nat} {l : List Int} (h : i < b.tabs.length) : shB d0 b (scP i) l = true := by
  rw [shB_leaf (by left; rfl), decide_eq_true_eq]
  refine ⟨⟨⟨?_, ?_⟩, rfl, rfl⟩, fun j hj => absurd hj (by simp), fun j hj => absurd hj (by simp), ?_⟩
  · show (0 : Int) ≤ (i : Int); omega
  · show (i : Int) < _; omega
  · rw [lf4, if_pos rfl]; exact ⟨rfl, rfl⟩
theorem sh_jn {d0 : List Tb} {b : Bd} : ∀ (n : Nat) (l : List Int), n < b.tabs.length → shB d0 b (jnP n) l = true
  | 0, l, h => sh_sc h
  | n + 1, l, h => by
    rw [shB_5 (p := jnP (n + 1)) ⟨.inr rfl, rfl, rfl, rfl⟩ (show ¬ ((5 : Int) = 4) by decide) rfl]
    show (decide (ex0 = ex0) && (shB d0 b (jnP n) l && shB d0 b (scP (n + 1)) (l ++ srM (jnP n)))) = true
    rw [sh_jn n l (by omega), sh_sc h]; simp

theorem own_ov {s : List Tb} {v : Int} {tabs : List Int} : ∀ (k i : Nat), k = tabs.length - i → i ≤ tabs.length → ownL s v (tabs.drop i) (offM s (tabs.take i)) i = -1 ∨ ∃ j : Nat, j < tabs.length ∧ ownL s v (tabs.drop i) (offM s (tabs.take i)) i = (j : Int) ∧ ovP s tabs v (j : Int)
  | 0, i, hk, hi => by
    left; rw [List.drop_eq_nil_of_le (by omega), ownL]
  | k + 1, i, hk, hi => by
    have hl : i < tabs.length := by omega
    rw [ownL_drop hl]
    split
    · rename_i h
      refine .inr ⟨i, hl, rfl, ?_⟩
      rw [ovP, tabI_eq (by simpa using hl)]
      simpa using h
    · exact own_ov k (i + 1) (by omega) (by omega)
theorem ov_of_wit {s : List Tb} {tabs l : List Int} (hl : ∀ v ∈ l, 0 ≤ v) (e : Ex) : witB s tabs l e = true → ovB s tabs l e = true := by
  induction e using Ex.rec' with
  | h e ih =>
    intro h
    rw [witB_eq, Bool.and_eq_true, List.all_eq_true] at h
    rw [ovB_eq, Bool.and_eq_true, List.all_eq_true]
    refine ⟨?_, fun a ha => ih a ha (h.2 a ha)⟩
    rw [Bool.or_eq_true]
    by_cases h2 : e.op = 2
    · right
      have h3 := of_decide_eq_true h.1 h2
      rcases own_ov (s := s) (v := e.ix) (tabs := tabs) tabs.length 0 (by omega) (Nat.zero_le _) with h4 | ⟨j, hj, h4, h5⟩
      · have h4' : ownM s tabs e.ix = -1 := h4
        rw [h4'] at h3
        have := hl _ h3
        omega
      · have h4' : ownM s tabs e.ix = (j : Int) := h4
        rw [h4'] at h3
        exact List.any_eq_true.2 ⟨_, h3, decide_eq_true h5⟩
    · left; exact decide_eq_true h2
theorem numI_nn {n : Nat} : ∀ v ∈ numI n, 0 ≤ v := fun v hv => by
  obtain ⟨i, _, rfl⟩ := List.mem_map.1 hv; omega
theorem num3_numI {n : Nat} (h : n ≤ 3) : num3 n = numI n := by
  match n, h with
  | 0, _ => rfl
  | 1, _ => rfl
  | 2, _ => rfl
  | 3, _ => rfl
theorem srt_num (n : Nat) : srtI (numI n) = numI n := List.mergeSort_of_pairwise (by
  rw [List.pairwise_map]
  refine List.Pairwise.imp ?_ List.pairwise_lt_range
  intro a b h
  simp; omega)
theorem sh_nv {d0 : List Tb} {b : Bd} {n : Nat} {wh : Ex} (hn : b.tabs.length = n) (h1 : 1 ≤ n) (hw : ovB d0 b.tabs (numI n) wh = true) : shB d0 b (nvM n wh) [] = true := by
  rw [nvM]; split
  · exact sh_jn _ _ (by omega)
  · rename_i h0
    rw [shB_4 (p := ⟨4, 0, [], [], wh, [jnP (n - 1)]⟩) ⟨.inl rfl, rfl, rfl, rfl⟩ rfl rfl]
    show (decide (wh.op ≠ 0) && (shB d0 b (jnP (n - 1)) [] && ovB d0 b.tabs ([] ++ srM (jnP (n - 1))) wh)) = true
    rw [sh_jn _ _ (by omega), sr_jn, Nat.sub_add_cancel h1, List.nil_append, hw, decide_eq_true h0]; rfl
theorem shp_nv {d0 : List Tb} {b : Bd} {n : Nat} {wh : Ex} (hn : b.tabs.length = n) (h1 : 1 ≤ n) (hw : ovB d0 b.tabs (numI n) wh = true) : shpP d0 b (nvM n wh) := by
  refine ⟨sh_nv hn h1 hw, ?_, ?_⟩
  · rw [sr_nv n wh h1, srt_num]
    intro j hj
    simp [numI]
  · rw [sr_nv n wh h1, srt_num]; simp [numI, hn]

theorem us_sc {d0 : List Tb} {b : Bd} {cj : List Ex} {i : Nat} : usM d0 b cj (scP i) = some [] := by
  rw [usM_eq]
  show (usMs d0 b cj [] []).bind _ = _
  rw [usMs]
  show (addC cj (cnj ex0) []).bind _ = _
  rw [cnj_0 rfl, addC]
  show addK d0 b cj (scP i) [] 0 [] = _
  rw [addK]
theorem us_jn {d0 : List Tb} {b : Bd} {cj : List Ex} : ∀ n, usM d0 b cj (jnP n) = some []
  | 0 => us_sc
  | n + 1 => by
    rw [usM_eq]
    show (usMs d0 b cj [jnP n, scP (n + 1)] []).bind _ = _
    rw [usMs, us_jn n]
    show (usMs d0 b cj [scP (n + 1)] ([] ++ [])).bind _ = _
    rw [usMs, us_sc]
    show (usMs d0 b cj [] ([] ++ [] ++ [])).bind _ = _
    rw [usMs]
    show (addC cj (cnj ex0) ([] ++ [] ++ [])).bind _ = _
    rw [cnj_0 rfl, addC]
    show addK d0 b cj (jnP (n + 1)) [] 0 _ = _
    rw [addK]; rfl
theorem hit_mem {gv ge : Ex → Bool} : ∀ (l : List Ex) (n i : Nat) (h : i < l.length), gv l[i] = true → (((n + i : Nat) : Int), ge l[i]) ∈ hitF gv ge l n
  | [], n, i, h, _ => absurd h (by simp)
  | e :: r, n, 0, h, hg => by
    rw [hitF]; refine List.mem_append_left _ ?_
    rw [if_pos (show gv e = true from hg)]; simp
  | e :: r, n, i + 1, h, hg => by
    rw [hitF]; refine List.mem_append_right _ ?_
    have := hit_mem (gv := gv) (ge := ge) r (n + 1) i (by simpa using h) hg
    rw [show n + (i + 1) = n + 1 + i by omega]; exact this
theorem addC_all {cj : List Ex} : ∀ (fs : List Ex) (out : List (Int × Bool)), (∀ f ∈ fs, f ∈ cj) → ∃ us, addC cj fs out = some us ∧ (∀ u ∈ out, u ∈ us) ∧ ∀ (i : Nat) (h : i < cj.length), cj[i] ∈ fs → ((i : Int), true) ∈ us
  | [], out, _ => ⟨out, by rw [addC], fun _ h => h, fun i h hm => by simp at hm⟩
  | f :: r, out, hf => by
    obtain ⟨us, h1, h2, h3⟩ := addC_all r (out ++ hitF (fun e => decide (e = f)) (fun _ => true) cj 0) fun x hx => hf x (by simp [hx])
    refine ⟨us, ?_, fun u hu => h2 u (List.mem_append_left _ hu), fun i hi hm => ?_⟩
    · rw [addC, if_pos (List.any_eq_true.2 ⟨f, hf f (by simp), decide_eq_true rfl⟩)]; exact h1
    · rcases List.mem_cons.1 hm with he | hm
      · refine h2 _ (List.mem_append_right _ ?_)
        have := hit_mem (gv := fun e => decide (e = f)) (ge := fun _ => true) cj 0 i hi (decide_eq_true he)
        rwa [Nat.zero_add] at this
      · exact h3 i hi hm
theorem uv_nv {d0 : List Tb} {b : Bd} (n : Nat) : uvB d0 b (nvM n b.wh) = true := by
  by_cases h0 : b.wh.op = 0
  · have : nvM n b.wh = jnP (n - 1) := by rw [nvM, if_pos h0]
    rw [this, uvB, us_jn, cnj_0 h0]; rfl
  · have : nvM n b.wh = ⟨4, 0, [], [], b.wh, [jnP (n - 1)]⟩ := by rw [nvM, if_neg h0]
    obtain ⟨us, h1, _, h3⟩ := addC_all (cj := cnj b.wh) (cnj b.wh) [] fun f hf => hf
    have e : usM d0 b (cnj b.wh) (nvM n b.wh) = some us := by
      rw [this, usM_eq]
      show (usMs d0 b (cnj b.wh) [jnP (n - 1)] []).bind _ = _
      rw [usMs, us_jn]
      show (usMs d0 b (cnj b.wh) [] ([] ++ [])).bind _ = _
      rw [usMs]
      show (addC (cnj b.wh) (cnj b.wh) []).bind _ = _
      rw [h1]
      show addK d0 b (cnj b.wh) ⟨4, 0, [], [], b.wh, [jnP (n - 1)]⟩ [] 0 us = _
      rw [addK]
    rw [uvB, e]
    refine List.all_eq_true.2 fun i hi => ?_
    have hl := List.mem_range.1 hi
    exact List.any_eq_true.2 ⟨_, h3 i hl (List.getElem_mem hl), by simp⟩
theorem pv_nv {c : Cs} (h : bndP c) : pvP c.sch (bdM c) (nvM c.frm.length c.wh) := by
  obtain ⟨⟨_, ⟨⟨f1, f2⟩, f3⟩, _⟩, _, hw⟩ := h
  refine ⟨shp_nv (b := bdM c) rfl f1 (ov_of_wit numI_nn _ (by rw [← num3_numI f2]; exact hw)), uv_nv (b := bdM c) _⟩

end Go.Proofs.Ytihlgigaejhilaa.W
namespace Go.Proofs.Ytihlgigaejhilaa.W
open Go.RowKit E
/-! a copy of an expression -/
theorem ex_len (e : Ex) : (exT' e).length = 8 := by rw [exT_eq]; rfl
theorem row_ex {l : List Ex} {i : Nat} (hi : i < l.length) : ((rowE exT' l).drop (0 + i * 8)).take 8 = (exL l[i]).map .t := by rw [row_load ex_len hi, exT_eq]
theorem rst_ex {l : List Ex} {i : Nat} (hi : i < l.length) : splice (rowE exT' l) (0 + i * 8) ((exL l[i]).map .t) = rowE exT' l := by
  rw [← exT_eq, row_st ex_len hi, List.set_getElem_self]
theorem upd_back {α : Type} {H : Nat → Option α} {k : Nat} {x : Option α} (h : H k = none) : upd (upd H k x) k none = H := by
  funext j
  by_cases e : j = k
  · subst e; rw [upd_same, h]
  · rw [upd_ne _ _ e, upd_ne _ _ e]

set_option maxHeartbeats 4000000 in
set_option maxRecDepth 20000 in
theorem clone_ex (H : Heap) (z : Nz) (l : List Ex) (hb : l.length ≤ 100000) : E.Spec Try.prog 44 [exsC z l] H fun x H' => ∃ k, H k = none ∧ x = .c (.a (.os k 0 l.length 8)) ∧ H' = upd H k (some (.row 27 8 (rowE exT' l))) := by
 refine Spec.enter Try.func44 rfl ?_
 refine AW.wk (Wk.keep 8 [(0, .c (exsC z l))] [] (H) rfl ⟨rfl, trivial⟩ trivial (fun _ _ h => h) rfl) ?_
 refine sR ?_
 refine sA ?_
 refine SeqK.nil ?_
 refine AW.seq ?_
 refine sR ?_
 refine sM ?_
 refine SeqK.eqlNU rfl rfl rfl rfl rfl rfl Fx.nk23 (fun b4 hb4 => ?_)
 refine SeqK.nil ?_
 refine AW.cond _ rfl (fun h4 => ?_) (fun h4 => ?_)
 ·
  have he := hb4 h4
  have he2 : l = [] := List.map_eq_nil_iff.1 he
  refine sR ?_
  refine sA ?_
  refine SeqK.nil ?_
  refine AW.gh (Gh.row 2 27 8 rfl) ?_
  rintro s1 ⟨k2, hk2, rfl⟩
  refine AW.ret ?_
  exact fin_x (x := .c _) (_) (.tmp rfl .nil) rfl (fun _ _ h => h) (⟨k2, hk2, by rw [he2]; rfl, by rw [he2]; rfl⟩)
 refine AW.skip ?_
 refine sR ?_
 refine SeqK.q (q_build0 rfl Fx.el23) rfl rfl rfl ?_
 refine sM ?_
 refine SeqK.appZR (es := l.map exT') rfl rfl Fx.el23 rfl rfl (by simp; omega) rfl rfl (fun k7 hk7 => ?_)
 rw [show (l.map exT').length = l.length by simp]
 refine sA ?_
 refine SeqK.nil ?_
 refine AW.ret ?_
 exact fin_x (x := .c _) (_) (.tmp rfl .nil) rfl (fun _ _ h => h) (⟨k7, hk7, rfl, rfl⟩)

set_option maxHeartbeats 4000000 in
set_option maxRecDepth 20000 in
theorem copy_of (H : Heap) (e : Ex) (hN : e.args.length ≤ 100000) (ih : ∀ a ∈ e.args, Pure Try.prog 27 [exC a] (.c (exC a))) : E.Spec Try.prog 27 [exC e] H fun x H' => ∃ k7, H k7 = none ∧ x = .c (.g [.t (.v (.int .i64 e.op)), .t (.v (.string e.tb)), .t (.v (.string e.nm)), .t (.v (.int .i64 e.ix)), .t (.v (.int .i64 e.vk)), .t (.v (.int .i64 e.vn)), .t (.v (.string e.vs)), .os k7 0 e.args.length 8]) ∧ H' = upd H k7 (some (.row 27 8 (rowE exT' e.args))) := by
 refine Spec.enter Try.func27 rfl ?_
 refine AW.wk (Wk.keep 26 [(0, .c (exC e))] [] (H) rfl ⟨rfl, trivial⟩ trivial (fun _ _ h => h) rfl) ?_
 refine sR ?_
 refine SeqK.r (b_box (r := [_, _, _, _, _, _, _, _]) rfl rfl rfl rfl rfl rfl) rfl ?_
 refine SeqK.r (b_alloc (r := [_, _, _, _, _, _, _, _]) rfl rfl Fx.ze27 rfl rfl rfl rfl) rfl ?_
 refine SeqK.nil ?_
 refine sR ?_
 refine SeqK.q (q_fieldL _ rfl Fx.fl27_5 rfl rfl) rfl rfl rfl ?_
 refine SeqK.r (b_load (r := .a _) rfl Fx.ty23 rfl rfl rfl rfl rfl rfl) rfl ?_
 refine SeqK.callE rfl rfl rfl rfl Fx.fn44 rfl (clone_ex _ .un e.args (by omega)) (fun _ _ ⟨_, _, h, _⟩ => by rw [h]; rfl) (fun x6 H6 q6 => ?_)
 obtain ⟨k7, hk7, rfl, rfl⟩ := q6
 refine SeqK.q (q_fieldL _ rfl Fx.fl27_5 rfl rfl) rfl rfl rfl ?_
 refine SeqK.r (b_store (r := [_, _, _, _, _, _, _, _]) rfl rfl Fx.ty23 rfl rfl rfl rfl rfl rfl) rfl ?_
 refine SeqK.nil ?_
 refine AW.seq ?_
 refine sR ?_
 refine SeqK.q (q_fieldL _ rfl Fx.fl27_5 rfl rfl) rfl rfl rfl ?_
 refine SeqK.r (b_load (r := .a _) rfl Fx.ty23 rfl rfl rfl rfl rfl rfl) rfl ?_
 refine SeqK.q (q_lenOs rfl Fx.un23 rfl) rfl rfl rfl ?_
 refine sM ?_
 refine SeqK.nil ?_
 refine AW.block ?_
 refine AW.loop (fun (i : Nat) s => (i ≤ e.args.length) ∧ s = ⟨26, sp [(1, .lp 1 0), (2, .lp 2 0), (10, iX .i64 ((e.args.length : Nat) : Int)), (11, iX .i64 ((i : Nat) : Int))], lv [(1, .box [.t (.v (.int .i64 e.op)), .t (.v (.string e.tb)), .t (.v (.string e.nm)), .t (.v (.int .i64 e.ix)), .t (.v (.int .i64 e.vk)), .t (.v (.int .i64 e.vn)), .t (.v (.string e.vs)), .os k7 0 e.args.length 8]), (2, .box [.t (.v (.int .i64 ex0.op)), .t (.v (.string ex0.tb)), .t (.v (.string ex0.nm)), .t (.v (.int .i64 ex0.ix)), .t (.v (.int .i64 ex0.vk)), .t (.v (.int .i64 ex0.vn)), .t (.v (.string ex0.vs)), .t (.v (.slice none 0 0))])], upd H k7 (some (.row 27 8 (rowE exT' e.args)))⟩) (fun i => e.args.length - i) 0 ⟨_, Wk.keep 26 [(1, .lp 1 0), (2, .lp 2 0), (10, iX .i64 ((e.args.length : Nat) : Int)), (11, iX .i64 ((((0 : Nat)) : Nat) : Int))] [(1, .box [.t (.v (.int .i64 e.op)), .t (.v (.string e.tb)), .t (.v (.string e.nm)), .t (.v (.int .i64 e.ix)), .t (.v (.int .i64 e.vk)), .t (.v (.int .i64 e.vn)), .t (.v (.string e.vs)), .os k7 0 e.args.length 8]), (2, .box [.t (.v (.int .i64 ex0.op)), .t (.v (.string ex0.tb)), .t (.v (.string ex0.nm)), .t (.v (.int .i64 ex0.ix)), .t (.v (.int .i64 ex0.vk)), .t (.v (.int .i64 ex0.vn)), .t (.v (.string ex0.vs)), .t (.v (.slice none 0 0))])] (upd H k7 (some (.row 27 8 (rowE exT' e.args)))) rfl ⟨rfl, rfl, rfl, rfl, trivial⟩ ⟨rfl, rfl, trivial⟩ (fun _ _ h => h) rfl, Nat.zero_le _, rfl⟩ (fun i s hs => ?_)
 obtain ⟨hi0, rfl⟩ := hs
 refine sR ?_
 refine SeqK.q (q_lss rfl rfl rfl) rfl rfl rfl ?_
 refine SeqK.nil ?_
 refine AW.seq ?_
 refine AW.condD rfl (fun h12 => ?_) (fun h12 => ?_)
 ·
  have hi : i < e.args.length := by omega
  refine AW.skip ?_
  refine AW.seq ?_
  refine AW.block ?_
  refine sR ?_
  refine sM ?_
  refine sA ?_
  refine SeqK.nil ?_
  refine AW.draw Fx.mo ?_
  refine LexK.q (q_fieldL _ rfl Fx.fl27_5 rfl rfl) rfl rfl rfl ?_
  refine LexK.r (b_load (r := .a _) rfl Fx.ty23 rfl rfl rfl rfl rfl rfl) rfl ?_
  refine LexK.q (q_mvC rfl rfl) rfl rfl rfl ?_
  refine LexK.q (q_fieldL _ rfl Fx.fl27_5 rfl rfl) rfl rfl rfl ?_
  refine LexK.r (b_load (r := .a _) rfl Fx.ty23 rfl rfl rfl rfl rfl rfl) rfl ?_
  refine LexK.q (q_mvC rfl rfl) rfl rfl rfl ?_
  refine LexK.q (q_indexOs _ rfl Fx.sl23 rfl rfl (by omega) (by omega) rfl) rfl rfl rfl ?_
  refine LexK.r (g_loadR rfl Fx.ty27 rfl (upd_same _ _ _) (congrArg (mkC _) (row_ex hi)) (row_in0 ex_len hi) (by decide) rfl rfl) rfl ?_
  refine LexK.q (q_call _ rfl Fx.fn27 rfl (ih _ (List.getElem_mem hi)) rfl) rfl rfl rfl ?_
  refine LexK.q (q_indexOs _ rfl Fx.sl23 rfl rfl (by omega) (by omega) rfl) rfl rfl rfl ?_
  refine LexK.r (g_storeR rfl rfl Fx.ty27 rfl rfl (upd_same _ _ _) (rst_ex hi) rfl (row_in0 ex_len hi) (by decide)) rfl ?_
  refine LexK.nil (by kernel_rfl) ?_
  rw [upd_upd (k := k7)]
  refine AW.reg ?_
  refine SeqK.q (q_add _ rfl rfl rfl (w64 (by omega) (by omega))) rfl rfl rfl ?_
  refine sM ?_
  refine SeqK.nil ?_
  exact ⟨i + 1, _, Wk.keep 26 [(1, .lp 1 0), (2, .lp 2 0), (10, iX .i64 ((e.args.length : Nat) : Int)), (11, iX .i64 (((i + 1) : Nat) : Int))] [(1, .box [.t (.v (.int .i64 e.op)), .t (.v (.string e.tb)), .t (.v (.string e.nm)), .t (.v (.int .i64 e.ix)), .t (.v (.int .i64 e.vk)), .t (.v (.int .i64 e.vn)), .t (.v (.string e.vs)), .os k7 0 e.args.length 8]), (2, .box [.t (.v (.int .i64 ex0.op)), .t (.v (.string ex0.tb)), .t (.v (.string ex0.nm)), .t (.v (.int .i64 ex0.ix)), .t (.v (.int .i64 ex0.vk)), .t (.v (.int .i64 ex0.vn)), .t (.v (.string ex0.vs)), .t (.v (.slice none 0 0))])] (upd H k7 (some (.row 27 8 (rowE exT' e.args)))) rfl ⟨rfl, rfl, rfl, rfl, trivial⟩ ⟨rfl, rfl, trivial⟩ (fun _ _ h => h) rfl, by omega, hi, rfl⟩
 refine AW.exit ?_
 refine eth_e ?_
 refine eth_e ?_
 refine exit_here ?_
 refine sR ?_
 refine SeqK.r (b_load (r := .g [_, _, _, _, _, _, _, _]) rfl Fx.ty27 rfl rfl rfl rfl rfl rfl) rfl ?_
 refine SeqK.r (b_store (r := [_, _, _, _, _, _, _, _]) rfl rfl Fx.ty27 rfl rfl rfl rfl rfl rfl) rfl ?_
 refine SeqK.nil ?_
 refine AW.ret ?_
 exact fin_x (x := .c _) (_) (.cellL rfl rfl Fx.ty27 rfl rfl .nil) rfl (fun _ _ h => h) (⟨k7, hk7, rfl, rfl⟩)

theorem copy_any (e : Ex) : okE e → (∃ d, smlB d e = true) → Pure Try.prog 27 [exC e] (.c (exC e)) := by
  induction e using Ex.rec' with
  | h e ih =>
    intro ho ⟨d, hd⟩ H
    cases d with
    | zero => rw [smlB] at hd; cases hd
    | succ d =>
    rw [smlB, Bool.and_eq_true, Bool.and_eq_true, List.all_eq_true] at hd
    have h1 := of_decide_eq_true hd.1
    refine E.Spec.freeze (copy_of H e (by omega) fun a ha => ih a ha ((okE_iff.1 ho).2 a ha) ⟨d, hd.2.2 a ha⟩) fun x H' ⟨k, hk, hx, hH⟩ => ?_
    subst hx hH
    refine ⟨k, 8, 27, e.args.map exT', upd_same _ _ _, fun x hx => by obtain ⟨p, _, rfl⟩ := List.mem_map.1 hx; exact ex_len p, by decide, ?_, upd_back hk⟩
    simp [fzX, fzC, fzA]

end Go.Proofs.Ytihlgigaejhilaa.W
