/- Parts of the proof, one after the other: W36, W37, R2. No condition. -/
import Derived.Test.YtihlgigaejhilaaM19
set_option linter.unusedSectionVars false
set_option linter.unusedSimpArgs false
set_option linter.unusedVariables false
namespace Go.Proofs.Ytihlgigaejhilaa.W
open Go.RowKit E
/-! the naive plan, walked; plans compared -/
abbrev nvK : Nat → Pl
  | 0 => ⟨0, 0, [], [], ex0, []⟩
  | i + 1 => jnP i

set_option maxHeartbeats 8000000 in
set_option maxRecDepth 20000 in
theorem naive_any (b : Bd) (hn : 1 ≤ b.tabs.length) (hl : b.tabs.length ≤ 1000) (ho : okE b.wh) (hs : ∃ d, smlB d b.wh = true) : Pure Try.prog 14 [bdC b] (.c (plC (nvM b.tabs.length b.wh))) := by
 intro H
 refine Spec.enter Try.func14 rfl ?_
 refine AW.wk (Wk.keep 35 [(0, .c (bdC b))] [] (H) rfl ⟨rfl, trivial⟩ trivial (fun _ _ h => h) rfl) ?_
 refine sR ?_
 refine SeqK.r (b_box (r := [_, _, _, _, _, _, _, _, _, _, _, _, _, _, _, _, _, _, _, _, _, _, _, _, _, _]) rfl rfl rfl rfl rfl rfl) rfl ?_
 refine SeqK.r (b_alloc (r := [_, _, _, _, _, _, _, _, _, _, _, _, _]) rfl rfl Fx.ze30 rfl rfl rfl rfl) rfl ?_
 refine SeqK.nil ?_
 refine sR ?_
 refine SeqK.r (b_alloc (r := [_, _, _, _, _, _, _, _, _, _, _, _, _]) rfl rfl Fx.ze30 rfl rfl rfl rfl) rfl ?_
 refine SeqK.nil ?_
 refine AW.seq ?_
 refine AW.seq ?_
 refine AW.xwL 3 rfl (.cons XW.reA (.cons XW.reA (.cons (XW.nilU (sz := 1)) (.cons (XW.nilU (sz := 8)) (.cons XW.reA (.cons XW.reA (.cons XW.reA (.cons XW.reA (.cons XW.reA (.cons XW.reA (.cons XW.reA (.cons (XW.nilU (sz := 8)) (.cons (XW.nilU (sz := 13)) .nil))))))))))))) ?_
 refine AW.reg ?_
 refine SeqK.q (q_fieldL _ rfl Fx.fl54_2 rfl rfl) rfl rfl rfl ?_
 refine SeqK.r (b_load (r := .a _) rfl Fx.ty22 rfl rfl rfl rfl rfl rfl) rfl ?_
 refine SeqK.q (q_len rfl Fx.un22 rfl) rfl rfl rfl ?_
 refine sM ?_
 refine SeqK.nil ?_
 refine AW.block ?_
 refine AW.loop (fun (i : Nat) s => (i ≤ b.tabs.length) ∧ s = ⟨35, sp [(1, .lp 1 0), (2, .lp 2 0), (3, .lp 3 0), (8, iX .i64 (((b.tabs.map i64T).length : Nat) : Int)), (9, iX .i64 ((i : Nat) : Int))], lv [(1, .box [.t (.v (.int .i64 5)), .t (.v (.string ⟨#[]⟩)), .t (.v (.slice none 0 0)), .t (.v (.slice none 0 0)), .t (.v (.slice none 0 0)), .t (.v (.slice none 0 0)), .t (.v (.slice none 0 0)), .t (.v (.slice none 0 0)), .t (.v (.slice none 0 0)), .t (.sl .un 2 (b.frm.map srT)), .t (.v (.int .i64 b.wh.op)), .t (.v (.string b.wh.tb)), .t (.v (.string b.wh.nm)), .t (.v (.int .i64 b.wh.ix)), .t (.v (.int .i64 b.wh.vk)), .t (.v (.int .i64 b.wh.vn)), .t (.v (.string b.wh.vs)), .t (.sl .un 8 (b.wh.args.map exT')), .t (.v (.slice none 0 0)), .t (.v (.slice none 0 0)), .t (.v (.int .i64 0)), .t (.v (.string ⟨#[]⟩)), .t (.v (.int .i64 0)), .t (.sl .un 1 (b.tabs.map i64T)), .t (.sl .un 5 (b.vars.map vrT)), .t (.v (.slice none 0 0))]), (2, .box [.t (.v (.int .i64 0)), .t (.v (.int .i64 0)), .t (.v (.slice none 0 0)), .t (.v (.slice none 0 0)), .t (.v (.int .i64 ex0.op)), .t (.v (.string ex0.tb)), .t (.v (.string ex0.nm)), .t (.v (.int .i64 ex0.ix)), .t (.v (.int .i64 ex0.vk)), .t (.v (.int .i64 ex0.vn)), .t (.v (.string ex0.vs)), .t (.v (.slice none 0 0)), .t (.v (.slice none 0 0))]), (3, .box [.t (.v (.int .i64 (nvK i).k)), .t (.v (.int .i64 (nvK i).src)), .t (.sl .un 1 ((nvK i).cols.map i64T)), .t (.sl .un 8 ((nvK i).keys.map exT')), .t (.v (.int .i64 (nvK i).flt.op)), .t (.v (.string (nvK i).flt.tb)), .t (.v (.string (nvK i).flt.nm)), .t (.v (.int .i64 (nvK i).flt.ix)), .t (.v (.int .i64 (nvK i).flt.vk)), .t (.v (.int .i64 (nvK i).flt.vn)), .t (.v (.string (nvK i).flt.vs)), .t (.sl .un 8 ((nvK i).flt.args.map exT')), .t (.sl .un 13 ((nvK i).args.map plT'))])], H⟩) (fun i => b.tabs.length - i) 0 ⟨_, Wk.keep 35 [(1, .lp 1 0), (2, .lp 2 0), (3, .lp 3 0), (8, iX .i64 (((b.tabs.map i64T).length : Nat) : Int)), (9, iX .i64 ((((0 : Nat)) : Nat) : Int))] [(1, .box [.t (.v (.int .i64 5)), .t (.v (.string ⟨#[]⟩)), .t (.v (.slice none 0 0)), .t (.v (.slice none 0 0)), .t (.v (.slice none 0 0)), .t (.v (.slice none 0 0)), .t (.v (.slice none 0 0)), .t (.v (.slice none 0 0)), .t (.v (.slice none 0 0)), .t (.sl .un 2 (b.frm.map srT)), .t (.v (.int .i64 b.wh.op)), .t (.v (.string b.wh.tb)), .t (.v (.string b.wh.nm)), .t (.v (.int .i64 b.wh.ix)), .t (.v (.int .i64 b.wh.vk)), .t (.v (.int .i64 b.wh.vn)), .t (.v (.string b.wh.vs)), .t (.sl .un 8 (b.wh.args.map exT')), .t (.v (.slice none 0 0)), .t (.v (.slice none 0 0)), .t (.v (.int .i64 0)), .t (.v (.string ⟨#[]⟩)), .t (.v (.int .i64 0)), .t (.sl .un 1 (b.tabs.map i64T)), .t (.sl .un 5 (b.vars.map vrT)), .t (.v (.slice none 0 0))]), (2, .box [.t (.v (.int .i64 0)), .t (.v (.int .i64 0)), .t (.v (.slice none 0 0)), .t (.v (.slice none 0 0)), .t (.v (.int .i64 ex0.op)), .t (.v (.string ex0.tb)), .t (.v (.string ex0.nm)), .t (.v (.int .i64 ex0.ix)), .t (.v (.int .i64 ex0.vk)), .t (.v (.int .i64 ex0.vn)), .t (.v (.string ex0.vs)), .t (.v (.slice none 0 0)), .t (.v (.slice none 0 0))]), (3, .box [.t (.v (.int .i64 (nvK ((0 : Nat))).k)), .t (.v (.int .i64 (nvK ((0 : Nat))).src)), .t (.sl .un 1 ((nvK ((0 : Nat))).cols.map i64T)), .t (.sl .un 8 ((nvK ((0 : Nat))).keys.map exT')), .t (.v (.int .i64 (nvK ((0 : Nat))).flt.op)), .t (.v (.string (nvK ((0 : Nat))).flt.tb)), .t (.v (.string (nvK ((0 : Nat))).flt.nm)), .t (.v (.int .i64 (nvK ((0 : Nat))).flt.ix)), .t (.v (.int .i64 (nvK ((0 : Nat))).flt.vk)), .t (.v (.int .i64 (nvK ((0 : Nat))).flt.vn)), .t (.v (.string (nvK ((0 : Nat))).flt.vs)), .t (.sl .un 8 ((nvK ((0 : Nat))).flt.args.map exT')), .t (.sl .un 13 ((nvK ((0 : Nat))).args.map plT'))])] (H) rfl ⟨rfl, rfl, rfl, rfl, rfl, trivial⟩ ⟨rfl, rfl, rfl, trivial⟩ (fun _ _ h => h) rfl, Nat.zero_le _, rfl⟩ (fun i s hs => ?_)
 obtain ⟨hi0, rfl⟩ := hs
 refine sR ?_
 refine SeqK.q (q_lss rfl rfl rfl) rfl rfl rfl ?_
 refine SeqK.nil ?_
 refine AW.seq ?_
 refine AW.condD rfl (fun h10 => ?_) (fun h10 => ?_)
 ·
  have hi : i < b.tabs.length := by rw [List.length_map] at h10; omega
  refine AW.skip ?_
  refine AW.seq ?_
  refine AW.block ?_
  refine sR ?_
  refine sM ?_
  refine sA ?_
  refine SeqK.nil ?_
  refine sR ?_
  refine sM ?_
  refine SeqK.q (q_build2 (zs := [_, _, _, _, _, _, _, _, _, _, _, _, _]) (r := [_, _, _, _, _, _, _, _, _, _, _, _, _]) [(0, 1), (1, 1), (2, 1), (3, 1), (4, 8), (12, 1)] _ rfl Fx.ze30 rfl Fx.bp30 rfl rfl rfl rfl) rfl rfl rfl ?_
  refine SeqK.r (b_alloc (r := [_, _, _, _, _, _, _, _, _, _, _, _, _]) rfl rfl Fx.ze30 rfl rfl rfl rfl) rfl ?_
  refine SeqK.r (b_store (r := [_, _, _, _, _, _, _, _, _, _, _, _, _]) rfl rfl Fx.ty30 rfl rfl rfl rfl rfl rfl) rfl ?_
  refine SeqK.nil ?_
  refine sR ?_
  refine sM ?_
  refine SeqK.q (q_eql rfl rfl rfl) rfl rfl rfl ?_
  refine SeqK.nil ?_
  refine AW.condD rfl (fun h15 => ?_) (fun h15 => ?_)
  ·
   obtain rfl : i = 0 := by omega
   refine AW.reg ?_
   refine SeqK.r (b_load (r := .g [_, _, _, _, _, _, _, _, _, _, _, _, _]) rfl Fx.ty30 rfl rfl rfl rfl rfl rfl) rfl ?_
   refine SeqK.r (b_store (r := [_, _, _, _, _, _, _, _, _, _, _, _, _]) rfl rfl Fx.ty30 rfl rfl rfl rfl rfl rfl) rfl ?_
   refine SeqK.nil ?_
   refine AW.xwL 3 rfl (.cons XW.reA (.cons XW.reA (.cons (XW.nilU (sz := 1)) (.cons (XW.nilU (sz := 8)) (.cons XW.reA (.cons XW.reA (.cons XW.reA (.cons XW.reA (.cons XW.reA (.cons XW.reA (.cons XW.reA (.cons (XW.nilU (sz := 8)) (.cons (XW.nilU (sz := 13)) .nil))))))))))))) ?_
   refine AW.reg ?_
   refine SeqK.q (q_add _ rfl rfl rfl (w64 (by omega) (by omega))) rfl rfl rfl ?_
   refine sM ?_
   refine SeqK.nil ?_
   exact ⟨0 + 1, _, Wk.keep 35 [(1, .lp 1 0), (2, .lp 2 0), (3, .lp 3 0), (8, iX .i64 (((b.tabs.map i64T).length : Nat) : Int)), (9, iX .i64 (((0 + 1) : Nat) : Int))] [(1, .box [.t (.v (.int .i64 5)), .t (.v (.string ⟨#[]⟩)), .t (.v (.slice none 0 0)), .t (.v (.slice none 0 0)), .t (.v (.slice none 0 0)), .t (.v (.slice none 0 0)), .t (.v (.slice none 0 0)), .t (.v (.slice none 0 0)), .t (.v (.slice none 0 0)), .t (.sl .un 2 (b.frm.map srT)), .t (.v (.int .i64 b.wh.op)), .t (.v (.string b.wh.tb)), .t (.v (.string b.wh.nm)), .t (.v (.int .i64 b.wh.ix)), .t (.v (.int .i64 b.wh.vk)), .t (.v (.int .i64 b.wh.vn)), .t (.v (.string b.wh.vs)), .t (.sl .un 8 (b.wh.args.map exT')), .t (.v (.slice none 0 0)), .t (.v (.slice none 0 0)), .t (.v (.int .i64 0)), .t (.v (.string ⟨#[]⟩)), .t (.v (.int .i64 0)), .t (.sl .un 1 (b.tabs.map i64T)), .t (.sl .un 5 (b.vars.map vrT)), .t (.v (.slice none 0 0))]), (2, .box [.t (.v (.int .i64 0)), .t (.v (.int .i64 0)), .t (.v (.slice none 0 0)), .t (.v (.slice none 0 0)), .t (.v (.int .i64 ex0.op)), .t (.v (.string ex0.tb)), .t (.v (.string ex0.nm)), .t (.v (.int .i64 ex0.ix)), .t (.v (.int .i64 ex0.vk)), .t (.v (.int .i64 ex0.vn)), .t (.v (.string ex0.vs)), .t (.v (.slice none 0 0)), .t (.v (.slice none 0 0))]), (3, .box [.t (.v (.int .i64 (nvK (0 + 1)).k)), .t (.v (.int .i64 (nvK (0 + 1)).src)), .t (.sl .un 1 ((nvK (0 + 1)).cols.map i64T)), .t (.sl .un 8 ((nvK (0 + 1)).keys.map exT')), .t (.v (.int .i64 (nvK (0 + 1)).flt.op)), .t (.v (.string (nvK (0 + 1)).flt.tb)), .t (.v (.string (nvK (0 + 1)).flt.nm)), .t (.v (.int .i64 (nvK (0 + 1)).flt.ix)), .t (.v (.int .i64 (nvK (0 + 1)).flt.vk)), .t (.v (.int .i64 (nvK (0 + 1)).flt.vn)), .t (.v (.string (nvK (0 + 1)).flt.vs)), .t (.sl .un 8 ((nvK (0 + 1)).flt.args.map exT')), .t (.sl .un 13 ((nvK (0 + 1)).args.map plT'))])] (H) rfl ⟨rfl, rfl, rfl, rfl, rfl, trivial⟩ ⟨rfl, rfl, rfl, trivial⟩ (fun _ _ h => h) rfl, by omega, hi, rfl⟩
  obtain ⟨j, rfl⟩ : ∃ j, i = j + 1 := ⟨i - 1, by omega⟩
  refine AW.reg ?_
  refine SeqK.r (b_load (r := .g [_, _, _, _, _, _, _, _, _, _, _, _, _]) rfl Fx.ty30 rfl rfl rfl rfl rfl rfl) rfl ?_
  refine SeqK.r (b_load (r := .g [_, _, _, _, _, _, _, _, _, _, _, _, _]) rfl Fx.ty30 rfl rfl rfl rfl rfl rfl) rfl ?_
  refine SeqK.q (q_buildSlice _ rfl Fx.el28 rfl (by decide) rfl) rfl rfl rfl ?_
  refine SeqK.q (q_build2 (zs := [_, _, _, _, _, _, _, _, _, _, _, _, _]) (r := [_, _, _, _, _, _, _, _, _, _, _, _, _]) [(0, 1), (1, 1), (2, 1), (3, 1), (4, 8), (12, 1)] _ rfl Fx.ze30 rfl Fx.bp30 rfl rfl rfl rfl) rfl rfl rfl ?_
  refine SeqK.r (b_store (r := [_, _, _, _, _, _, _, _, _, _, _, _, _]) rfl rfl Fx.ty30 rfl rfl rfl rfl rfl rfl) rfl ?_
  refine SeqK.nil ?_
  refine AW.xwL 3 rfl (.cons XW.reA (.cons XW.reA (.cons (XW.nilU (sz := 1)) (.cons (XW.nilU (sz := 8)) (.cons XW.reA (.cons XW.reA (.cons XW.reA (.cons XW.reA (.cons XW.reA (.cons XW.reA (.cons XW.reA (.cons (XW.nilU (sz := 8)) (.cons ((XW.tw (TW.sl (.cons (.cons TW.re (.cons TW.re (.cons TW.re (.cons TW.re (.cons TW.re (.cons TW.re (.cons TW.re (.cons TW.re (.cons TW.re (.cons TW.re (.cons TW.re (.cons TW.re (.cons TW.re .nil))))))))))))) (.cons (.cons TW.re (.cons TW.re (.cons TW.nil (.cons TW.nil (.cons TW.re (.cons TW.re (.cons TW.re (.cons TW.re (.cons TW.re (.cons TW.re (.cons TW.re (.cons TW.nil (.cons TW.nil .nil))))))))))))) .nil)))).trans (XW.es (es' := (jnP (j + 1)).args.map plT') (by show _ = [plT' _, plT' _]; rw [plT_eq, plT_eq]; rfl))) .nil))))))))))))) ?_
  refine AW.reg ?_
  refine SeqK.q (q_add _ rfl rfl rfl (w64 (by omega) (by omega))) rfl rfl rfl ?_
  refine sM ?_
  refine SeqK.nil ?_
  exact ⟨(j + 1) + 1, _, Wk.keep 35 [(1, .lp 1 0), (2, .lp 2 0), (3, .lp 3 0), (8, iX .i64 (((b.tabs.map i64T).length : Nat) : Int)), (9, iX .i64 ((((j + 1) + 1) : Nat) : Int))] [(1, .box [.t (.v (.int .i64 5)), .t (.v (.string ⟨#[]⟩)), .t (.v (.slice none 0 0)), .t (.v (.slice none 0 0)), .t (.v (.slice none 0 0)), .t (.v (.slice none 0 0)), .t (.v (.slice none 0 0)), .t (.v (.slice none 0 0)), .t (.v (.slice none 0 0)), .t (.sl .un 2 (b.frm.map srT)), .t (.v (.int .i64 b.wh.op)), .t (.v (.string b.wh.tb)), .t (.v (.string b.wh.nm)), .t (.v (.int .i64 b.wh.ix)), .t (.v (.int .i64 b.wh.vk)), .t (.v (.int .i64 b.wh.vn)), .t (.v (.string b.wh.vs)), .t (.sl .un 8 (b.wh.args.map exT')), .t (.v (.slice none 0 0)), .t (.v (.slice none 0 0)), .t (.v (.int .i64 0)), .t (.v (.string ⟨#[]⟩)), .t (.v (.int .i64 0)), .t (.sl .un 1 (b.tabs.map i64T)), .t (.sl .un 5 (b.vars.map vrT)), .t (.v (.slice none 0 0))]), (2, .box [.t (.v (.int .i64 0)), .t (.v (.int .i64 0)), .t (.v (.slice none 0 0)), .t (.v (.slice none 0 0)), .t (.v (.int .i64 ex0.op)), .t (.v (.string ex0.tb)), .t (.v (.string ex0.nm)), .t (.v (.int .i64 ex0.ix)), .t (.v (.int .i64 ex0.vk)), .t (.v (.int .i64 ex0.vn)), .t (.v (.string ex0.vs)), .t (.v (.slice none 0 0)), .t (.v (.slice none 0 0))]), (3, .box [.t (.v (.int .i64 (nvK ((j + 1) + 1)).k)), .t (.v (.int .i64 (nvK ((j + 1) + 1)).src)), .t (.sl .un 1 ((nvK ((j + 1) + 1)).cols.map i64T)), .t (.sl .un 8 ((nvK ((j + 1) + 1)).keys.map exT')), .t (.v (.int .i64 (nvK ((j + 1) + 1)).flt.op)), .t (.v (.string (nvK ((j + 1) + 1)).flt.tb)), .t (.v (.string (nvK ((j + 1) + 1)).flt.nm)), .t (.v (.int .i64 (nvK ((j + 1) + 1)).flt.ix)), .t (.v (.int .i64 (nvK ((j + 1) + 1)).flt.vk)), .t (.v (.int .i64 (nvK ((j + 1) + 1)).flt.vn)), .t (.v (.string (nvK ((j + 1) + 1)).flt.vs)), .t (.sl .un 8 ((nvK ((j + 1) + 1)).flt.args.map exT')), .t (.sl .un 13 ((nvK ((j + 1) + 1)).args.map plT'))])] (H) rfl ⟨rfl, rfl, rfl, rfl, rfl, trivial⟩ ⟨rfl, rfl, rfl, trivial⟩ (fun _ _ h => h) rfl, by omega, hi, rfl⟩
 refine AW.exit ?_
 refine eth_e ?_
 refine eth_e ?_
 refine exit_here ?_
 refine AW.seq ?_
 refine AW.seq ?_
 obtain rfl : i = b.tabs.length := by rw [List.length_map] at h10; omega
 obtain ⟨m, hm⟩ : ∃ m, b.tabs.length = m + 1 := ⟨b.tabs.length - 1, by omega⟩
 have hj : nvK b.tabs.length = jnP (b.tabs.length - 1) := by rw [hm]; rfl
 rw [hj]
 refine AW.reg ?_
 refine SeqK.q (q_fieldL _ rfl Fx.fl54_0 rfl rfl) rfl rfl rfl ?_
 refine SeqK.q (q_fieldL _ rfl Fx.fl50_7 rfl rfl) rfl rfl rfl ?_
 refine SeqK.q (q_fieldL _ rfl Fx.fl27_0 rfl rfl) rfl rfl rfl ?_
 refine SeqK.r (b_load (r := .a _) rfl Fx.ty3 rfl rfl rfl rfl rfl rfl) rfl ?_
 refine SeqK.q (q_neq rfl rfl rfl) rfl rfl rfl ?_
 refine SeqK.nil ?_
 refine AW.condD rfl (fun h26 => ?_) (fun h26 => ?_)
 ·
  have hv : nvM b.tabs.length b.wh = ⟨4, 0, [], [], b.wh, [jnP (b.tabs.length - 1)]⟩ := by rw [nvM, if_neg h26]
  refine AW.draw Fx.mo ?_
  refine LexK.q (q_fieldL _ rfl Fx.fl54_0 rfl rfl) rfl rfl rfl ?_
  refine LexK.q (q_fieldL _ rfl Fx.fl50_7 rfl rfl) rfl rfl rfl ?_
  refine LexK.r (b_load (r := .g [_, _, _, _, _, _, _, _]) rfl Fx.ty27 rfl rfl rfl rfl rfl rfl) rfl ?_
  refine LexK.q (q_call _ rfl Fx.fn27 rfl (copy_any b.wh ho hs) rfl) rfl rfl rfl ?_
  refine LexK.r (b_load (r := .g [_, _, _, _, _, _, _, _, _, _, _, _, _]) rfl Fx.ty30 rfl rfl rfl rfl rfl rfl) rfl ?_
  refine LexK.q (q_buildSlice _ rfl Fx.el28 rfl (by decide) rfl) rfl rfl rfl ?_
  refine LexK.q (q_build2 (zs := [_, _, _, _, _, _, _, _, _, _, _, _, _]) (r := [_, _, _, _, _, _, _, _, _, _, _, _, _]) [(0, 1), (1, 1), (2, 1), (3, 1), (4, 8), (12, 1)] _ rfl Fx.ze30 rfl Fx.bp30 rfl rfl rfl rfl) rfl rfl rfl ?_
  refine LexK.r (b_store (r := [_, _, _, _, _, _, _, _, _, _, _, _, _]) rfl rfl Fx.ty30 rfl rfl rfl rfl rfl rfl) rfl ?_
  refine LexK.nil (by kernel_rfl) ?_
  refine AW.xwL 3 rfl (.cons XW.reA (.cons XW.reA (.cons (XW.nilU (sz := 1)) (.cons (XW.nilU (sz := 8)) (.cons XW.reA (.cons XW.reA (.cons XW.reA (.cons XW.reA (.cons XW.reA (.cons XW.reA (.cons XW.reA (.cons XW.reA (.cons ((XW.tw (TW.sl (.cons (.cons TW.re (.cons TW.re (.cons TW.re (.cons TW.re (.cons TW.re (.cons TW.re (.cons TW.re (.cons TW.re (.cons TW.re (.cons TW.re (.cons TW.re (.cons TW.re (.cons TW.re .nil))))))))))))) .nil))).trans (XW.es (es' := [jnP (b.tabs.length - 1)].map plT') (by show _ = [plT' _]; rw [plT_eq]))) .nil))))))))))))) ?_
  refine sR ?_
  refine SeqK.r (b_load (r := .g [_, _, _, _, _, _, _, _, _, _, _, _, _]) rfl Fx.ty30 rfl rfl rfl rfl rfl rfl) rfl ?_
  refine SeqK.r (b_store (r := [_, _, _, _, _, _, _, _, _, _, _, _, _]) rfl rfl Fx.ty30 rfl rfl rfl rfl rfl rfl) rfl ?_
  refine SeqK.nil ?_
  refine AW.ret ?_
  exact fin_x (x := .c _) (H) (.cellL rfl rfl Fx.ty30 rfl rfl .nil) rfl (fun _ _ h => h) (⟨by rw [hv]; rfl, rfl⟩)
 have hv : nvM b.tabs.length b.wh = jnP (b.tabs.length - 1) := by rw [nvM, if_pos (by first | exact h26 | exact Classical.not_not.1 h26)]
 refine AW.skip ?_
 refine sR ?_
 refine SeqK.r (b_load (r := .g [_, _, _, _, _, _, _, _, _, _, _, _, _]) rfl Fx.ty30 rfl rfl rfl rfl rfl rfl) rfl ?_
 refine SeqK.r (b_store (r := [_, _, _, _, _, _, _, _, _, _, _, _, _]) rfl rfl Fx.ty30 rfl rfl rfl rfl rfl rfl) rfl ?_
 refine SeqK.nil ?_
 refine AW.ret ?_
 exact fin_x (x := .c _) (H) (.cellL rfl rfl Fx.ty30 rfl rfl .nil) rfl (fun _ _ h => h) (⟨by rw [hv]; rfl, rfl⟩)

set_option maxHeartbeats 8000000 in
set_option maxRecDepth 20000 in
theorem rnaive_any (b : Bd) (hn : 1 ≤ b.tabs.length) (hl : b.tabs.length ≤ 1000) : Pure Try.prog 16 [bdC b] (.c (plC (nvM b.tabs.length b.wh))) := by
 intro H
 refine Spec.enter Try.func16 rfl ?_
 refine AW.wk (Wk.keep 30 [(0, .c (bdC b))] [] (H) rfl ⟨rfl, trivial⟩ trivial (fun _ _ h => h) rfl) ?_
 refine sR ?_
 refine SeqK.r (b_box (r := [_, _, _, _, _, _, _, _, _, _, _, _, _, _, _, _, _, _, _, _, _, _, _, _, _, _]) rfl rfl rfl rfl rfl rfl) rfl ?_
 refine SeqK.r (b_alloc (r := [_, _, _, _, _, _, _, _, _, _, _, _, _]) rfl rfl Fx.ze30 rfl rfl rfl rfl) rfl ?_
 refine SeqK.nil ?_
 refine sR ?_
 refine SeqK.q (q_build2 (zs := [_, _, _, _, _, _, _, _, _, _, _, _, _]) (r := [_, _, _, _, _, _, _, _, _, _, _, _, _]) [(0, 1), (1, 1), (2, 1), (3, 1), (4, 8), (12, 1)] _ rfl Fx.ze30 rfl Fx.bp30 rfl rfl rfl rfl) rfl rfl rfl ?_
 refine SeqK.r (b_alloc (r := [_, _, _, _, _, _, _, _, _, _, _, _, _]) rfl rfl Fx.ze30 rfl rfl rfl rfl) rfl ?_
 refine SeqK.r (b_store (r := [_, _, _, _, _, _, _, _, _, _, _, _, _]) rfl rfl Fx.ty30 rfl rfl rfl rfl rfl rfl) rfl ?_
 refine SeqK.nil ?_
 refine AW.seq ?_
 refine AW.seq ?_
 refine AW.xwL 3 rfl (.cons XW.reA (.cons XW.reA (.cons (XW.nilU (sz := 1)) (.cons (XW.nilU (sz := 8)) (.cons XW.reA (.cons XW.reA (.cons XW.reA (.cons XW.reA (.cons XW.reA (.cons XW.reA (.cons XW.reA (.cons (XW.nilU (sz := 8)) (.cons (XW.nilU (sz := 13)) .nil))))))))))))) ?_
 refine AW.reg ?_
 refine sA ?_
 refine SeqK.nil ?_
 refine AW.block ?_
 refine AW.loop (fun (j : Nat) s => (j + 1 ≤ b.tabs.length) ∧ s = ⟨30, sp [(1, .lp 1 0), (2, .lp 2 0), (3, .lp 3 0), (4, iX .i64 ((j + 1 : Nat) : Int))], lv [(1, .box [.t (.v (.int .i64 5)), .t (.v (.string ⟨#[]⟩)), .t (.v (.slice none 0 0)), .t (.v (.slice none 0 0)), .t (.v (.slice none 0 0)), .t (.v (.slice none 0 0)), .t (.v (.slice none 0 0)), .t (.v (.slice none 0 0)), .t (.v (.slice none 0 0)), .t (.sl .un 2 (b.frm.map srT)), .t (.v (.int .i64 b.wh.op)), .t (.v (.string b.wh.tb)), .t (.v (.string b.wh.nm)), .t (.v (.int .i64 b.wh.ix)), .t (.v (.int .i64 b.wh.vk)), .t (.v (.int .i64 b.wh.vn)), .t (.v (.string b.wh.vs)), .t (.sl .un 8 (b.wh.args.map exT')), .t (.v (.slice none 0 0)), .t (.v (.slice none 0 0)), .t (.v (.int .i64 0)), .t (.v (.string ⟨#[]⟩)), .t (.v (.int .i64 0)), .t (.sl .un 1 (b.tabs.map i64T)), .t (.sl .un 5 (b.vars.map vrT)), .t (.v (.slice none 0 0))]), (2, .box [.t (.v (.int .i64 0)), .t (.v (.int .i64 0)), .t (.v (.slice none 0 0)), .t (.v (.slice none 0 0)), .t (.v (.int .i64 ex0.op)), .t (.v (.string ex0.tb)), .t (.v (.string ex0.nm)), .t (.v (.int .i64 ex0.ix)), .t (.v (.int .i64 ex0.vk)), .t (.v (.int .i64 ex0.vn)), .t (.v (.string ex0.vs)), .t (.v (.slice none 0 0)), .t (.v (.slice none 0 0))]), (3, .box [.t (.v (.int .i64 (jnP j).k)), .t (.v (.int .i64 (jnP j).src)), .t (.sl .un 1 ((jnP j).cols.map i64T)), .t (.sl .un 8 ((jnP j).keys.map exT')), .t (.v (.int .i64 (jnP j).flt.op)), .t (.v (.string (jnP j).flt.tb)), .t (.v (.string (jnP j).flt.nm)), .t (.v (.int .i64 (jnP j).flt.ix)), .t (.v (.int .i64 (jnP j).flt.vk)), .t (.v (.int .i64 (jnP j).flt.vn)), .t (.v (.string (jnP j).flt.vs)), .t (.sl .un 8 ((jnP j).flt.args.map exT')), .t (.sl .un 13 ((jnP j).args.map plT'))])], H⟩) (fun j => b.tabs.length - j) 0 ⟨_, Wk.keep 30 [(1, .lp 1 0), (2, .lp 2 0), (3, .lp 3 0), (4, iX .i64 ((((0 : Nat)) + 1 : Nat) : Int))] [(1, .box [.t (.v (.int .i64 5)), .t (.v (.string ⟨#[]⟩)), .t (.v (.slice none 0 0)), .t (.v (.slice none 0 0)), .t (.v (.slice none 0 0)), .t (.v (.slice none 0 0)), .t (.v (.slice none 0 0)), .t (.v (.slice none 0 0)), .t (.v (.slice none 0 0)), .t (.sl .un 2 (b.frm.map srT)), .t (.v (.int .i64 b.wh.op)), .t (.v (.string b.wh.tb)), .t (.v (.string b.wh.nm)), .t (.v (.int .i64 b.wh.ix)), .t (.v (.int .i64 b.wh.vk)), .t (.v (.int .i64 b.wh.vn)), .t (.v (.string b.wh.vs)), .t (.sl .un 8 (b.wh.args.map exT')), .t (.v (.slice none 0 0)), .t (.v (.slice none 0 0)), .t (.v (.int .i64 0)), .t (.v (.string ⟨#[]⟩)), .t (.v (.int .i64 0)), .t (.sl .un 1 (b.tabs.map i64T)), .t (.sl .un 5 (b.vars.map vrT)), .t (.v (.slice none 0 0))]), (2, .box [.t (.v (.int .i64 0)), .t (.v (.int .i64 0)), .t (.v (.slice none 0 0)), .t (.v (.slice none 0 0)), .t (.v (.int .i64 ex0.op)), .t (.v (.string ex0.tb)), .t (.v (.string ex0.nm)), .t (.v (.int .i64 ex0.ix)), .t (.v (.int .i64 ex0.vk)), .t (.v (.int .i64 ex0.vn)), .t (.v (.string ex0.vs)), .t (.v (.slice none 0 0)), .t (.v (.slice none 0 0))]), (3, .box [.t (.v (.int .i64 (jnP ((0 : Nat))).k)), .t (.v (.int .i64 (jnP ((0 : Nat))).src)), .t (.sl .un 1 ((jnP ((0 : Nat))).cols.map i64T)), .t (.sl .un 8 ((jnP ((0 : Nat))).keys.map exT')), .t (.v (.int .i64 (jnP ((0 : Nat))).flt.op)), .t (.v (.string (jnP ((0 : Nat))).flt.tb)), .t (.v (.string (jnP ((0 : Nat))).flt.nm)), .t (.v (.int .i64 (jnP ((0 : Nat))).flt.ix)), .t (.v (.int .i64 (jnP ((0 : Nat))).flt.vk)), .t (.v (.int .i64 (jnP ((0 : Nat))).flt.vn)), .t (.v (.string (jnP ((0 : Nat))).flt.vs)), .t (.sl .un 8 ((jnP ((0 : Nat))).flt.args.map exT')), .t (.sl .un 13 ((jnP ((0 : Nat))).args.map plT'))])] (H) rfl ⟨rfl, rfl, rfl, rfl, trivial⟩ ⟨rfl, rfl, rfl, trivial⟩ (fun _ _ h => h) rfl, hn, rfl⟩ (fun j s hs => ?_)
 obtain ⟨hi0, rfl⟩ := hs
 refine AW.seq ?_
 refine sR ?_
 refine sM ?_
 refine SeqK.q (q_fieldL _ rfl Fx.fl54_2 rfl rfl) rfl rfl rfl ?_
 refine SeqK.r (b_load (r := .a _) rfl Fx.ty22 rfl rfl rfl rfl rfl rfl) rfl ?_
 refine SeqK.q (q_len rfl Fx.un22 rfl) rfl rfl rfl ?_
 refine SeqK.q (q_lss rfl rfl rfl) rfl rfl rfl ?_
 refine SeqK.nil ?_
 refine AW.condD rfl (fun h10 => ?_) (fun h10 => ?_)
 ·
  have hi : j + 1 < b.tabs.length := by rw [List.length_map] at h10; omega
  refine AW.skip ?_
  refine AW.seq ?_
  refine AW.block ?_
  refine AW.reg ?_
  refine SeqK.r (b_load (r := .g [_, _, _, _, _, _, _, _, _, _, _, _, _]) rfl Fx.ty30 rfl rfl rfl rfl rfl rfl) rfl ?_
  refine sM ?_
  refine SeqK.q (q_build2 (zs := [_, _, _, _, _, _, _, _, _, _, _, _, _]) (r := [_, _, _, _, _, _, _, _, _, _, _, _, _]) [(0, 1), (1, 1), (2, 1), (3, 1), (4, 8), (12, 1)] _ rfl Fx.ze30 rfl Fx.bp30 rfl rfl rfl rfl) rfl rfl rfl ?_
  refine SeqK.q (q_buildSlice _ rfl Fx.el28 rfl (by decide) rfl) rfl rfl rfl ?_
  refine SeqK.q (q_build2 (zs := [_, _, _, _, _, _, _, _, _, _, _, _, _]) (r := [_, _, _, _, _, _, _, _, _, _, _, _, _]) [(0, 1), (1, 1), (2, 1), (3, 1), (4, 8), (12, 1)] _ rfl Fx.ze30 rfl Fx.bp30 rfl rfl rfl rfl) rfl rfl rfl ?_
  refine SeqK.r (b_store (r := [_, _, _, _, _, _, _, _, _, _, _, _, _]) rfl rfl Fx.ty30 rfl rfl rfl rfl rfl rfl) rfl ?_
  refine SeqK.nil ?_
  refine AW.xwL 3 rfl (.cons XW.reA (.cons XW.reA (.cons (XW.nilU (sz := 1)) (.cons (XW.nilU (sz := 8)) (.cons XW.reA (.cons XW.reA (.cons XW.reA (.cons XW.reA (.cons XW.reA (.cons XW.reA (.cons XW.reA (.cons (XW.nilU (sz := 8)) (.cons ((XW.tw (TW.sl (.cons (.cons TW.re (.cons TW.re (.cons TW.re (.cons TW.re (.cons TW.re (.cons TW.re (.cons TW.re (.cons TW.re (.cons TW.re (.cons TW.re (.cons TW.re (.cons TW.re (.cons TW.re .nil))))))))))))) (.cons (.cons TW.re (.cons TW.re (.cons TW.nil (.cons TW.nil (.cons TW.re (.cons TW.re (.cons TW.re (.cons TW.re (.cons TW.re (.cons TW.re (.cons TW.re (.cons TW.nil (.cons TW.nil .nil))))))))))))) .nil)))).trans (XW.es (es' := (jnP (j + 1)).args.map plT') (by show _ = [plT' _, plT' _]; rw [plT_eq, plT_eq]; rfl))) .nil))))))))))))) ?_
  refine AW.reg ?_
  refine sM ?_
  refine SeqK.q (q_add _ rfl rfl rfl (w64 (by omega) (by omega))) rfl rfl rfl ?_
  refine sA ?_
  refine SeqK.nil ?_
  exact ⟨j + 1, _, Wk.keep 30 [(1, .lp 1 0), (2, .lp 2 0), (3, .lp 3 0), (4, iX .i64 (((j + 1) + 1 : Nat) : Int))] [(1, .box [.t (.v (.int .i64 5)), .t (.v (.string ⟨#[]⟩)), .t (.v (.slice none 0 0)), .t (.v (.slice none 0 0)), .t (.v (.slice none 0 0)), .t (.v (.slice none 0 0)), .t (.v (.slice none 0 0)), .t (.v (.slice none 0 0)), .t (.v (.slice none 0 0)), .t (.sl .un 2 (b.frm.map srT)), .t (.v (.int .i64 b.wh.op)), .t (.v (.string b.wh.tb)), .t (.v (.string b.wh.nm)), .t (.v (.int .i64 b.wh.ix)), .t (.v (.int .i64 b.wh.vk)), .t (.v (.int .i64 b.wh.vn)), .t (.v (.string b.wh.vs)), .t (.sl .un 8 (b.wh.args.map exT')), .t (.v (.slice none 0 0)), .t (.v (.slice none 0 0)), .t (.v (.int .i64 0)), .t (.v (.string ⟨#[]⟩)), .t (.v (.int .i64 0)), .t (.sl .un 1 (b.tabs.map i64T)), .t (.sl .un 5 (b.vars.map vrT)), .t (.v (.slice none 0 0))]), (2, .box [.t (.v (.int .i64 0)), .t (.v (.int .i64 0)), .t (.v (.slice none 0 0)), .t (.v (.slice none 0 0)), .t (.v (.int .i64 ex0.op)), .t (.v (.string ex0.tb)), .t (.v (.string ex0.nm)), .t (.v (.int .i64 ex0.ix)), .t (.v (.int .i64 ex0.vk)), .t (.v (.int .i64 ex0.vn)), .t (.v (.string ex0.vs)), .t (.v (.slice none 0 0)), .t (.v (.slice none 0 0))]), (3, .box [.t (.v (.int .i64 (jnP (j + 1)).k)), .t (.v (.int .i64 (jnP (j + 1)).src)), .t (.sl .un 1 ((jnP (j + 1)).cols.map i64T)), .t (.sl .un 8 ((jnP (j + 1)).keys.map exT')), .t (.v (.int .i64 (jnP (j + 1)).flt.op)), .t (.v (.string (jnP (j + 1)).flt.tb)), .t (.v (.string (jnP (j + 1)).flt.nm)), .t (.v (.int .i64 (jnP (j + 1)).flt.ix)), .t (.v (.int .i64 (jnP (j + 1)).flt.vk)), .t (.v (.int .i64 (jnP (j + 1)).flt.vn)), .t (.v (.string (jnP (j + 1)).flt.vs)), .t (.sl .un 8 ((jnP (j + 1)).flt.args.map exT')), .t (.sl .un 13 ((jnP (j + 1)).args.map plT'))])] (H) rfl ⟨rfl, rfl, rfl, rfl, trivial⟩ ⟨rfl, rfl, rfl, trivial⟩ (fun _ _ h => h) rfl, by omega, hi, rfl⟩
 refine AW.exit ?_
 refine eth_e ?_
 refine eth_e ?_
 refine exit_here ?_
 refine AW.seq ?_
 refine AW.seq ?_
 obtain rfl : j = b.tabs.length - 1 := by rw [List.length_map] at h10; omega
 refine AW.reg ?_
 refine SeqK.q (q_fieldL _ rfl Fx.fl54_0 rfl rfl) rfl rfl rfl ?_
 refine SeqK.q (q_fieldL _ rfl Fx.fl50_7 rfl rfl) rfl rfl rfl ?_
 refine SeqK.q (q_fieldL _ rfl Fx.fl27_0 rfl rfl) rfl rfl rfl ?_
 refine SeqK.r (b_load (r := .a _) rfl Fx.ty3 rfl rfl rfl rfl rfl rfl) rfl ?_
 refine SeqK.q (q_neq rfl rfl rfl) rfl rfl rfl ?_
 refine SeqK.nil ?_
 refine AW.condD rfl (fun h22 => ?_) (fun h22 => ?_)
 ·
  have hv : nvM b.tabs.length b.wh = ⟨4, 0, [], [], b.wh, [jnP (b.tabs.length - 1)]⟩ := by rw [nvM, if_neg h22]
  refine AW.reg ?_
  refine SeqK.q (q_fieldL _ rfl Fx.fl54_0 rfl rfl) rfl rfl rfl ?_
  refine SeqK.q (q_fieldL _ rfl Fx.fl50_7 rfl rfl) rfl rfl rfl ?_
  refine SeqK.r (b_load (r := .g [_, _, _, _, _, _, _, _]) rfl Fx.ty27 rfl rfl rfl rfl rfl rfl) rfl ?_
  refine SeqK.r (b_load (r := .g [_, _, _, _, _, _, _, _, _, _, _, _, _]) rfl Fx.ty30 rfl rfl rfl rfl rfl rfl) rfl ?_
  refine SeqK.q (q_buildSlice _ rfl Fx.el28 rfl (by decide) rfl) rfl rfl rfl ?_
  refine SeqK.q (q_build2 (zs := [_, _, _, _, _, _, _, _, _, _, _, _, _]) (r := [_, _, _, _, _, _, _, _, _, _, _, _, _]) [(0, 1), (1, 1), (2, 1), (3, 1), (4, 8), (12, 1)] _ rfl Fx.ze30 rfl Fx.bp30 rfl rfl rfl rfl) rfl rfl rfl ?_
  refine SeqK.r (b_store (r := [_, _, _, _, _, _, _, _, _, _, _, _, _]) rfl rfl Fx.ty30 rfl rfl rfl rfl rfl rfl) rfl ?_
  refine SeqK.nil ?_
  refine AW.xwL 3 rfl (.cons XW.reA (.cons XW.reA (.cons (XW.nilU (sz := 1)) (.cons (XW.nilU (sz := 8)) (.cons XW.reA (.cons XW.reA (.cons XW.reA (.cons XW.reA (.cons XW.reA (.cons XW.reA (.cons XW.reA (.cons XW.reA (.cons ((XW.tw (TW.sl (.cons (.cons TW.re (.cons TW.re (.cons TW.re (.cons TW.re (.cons TW.re (.cons TW.re (.cons TW.re (.cons TW.re (.cons TW.re (.cons TW.re (.cons TW.re (.cons TW.re (.cons TW.re .nil))))))))))))) .nil))).trans (XW.es (es' := [jnP (b.tabs.length - 1)].map plT') (by show _ = [plT' _]; rw [plT_eq]))) .nil))))))))))))) ?_
  refine sR ?_
  refine SeqK.r (b_load (r := .g [_, _, _, _, _, _, _, _, _, _, _, _, _]) rfl Fx.ty30 rfl rfl rfl rfl rfl rfl) rfl ?_
  refine SeqK.r (b_store (r := [_, _, _, _, _, _, _, _, _, _, _, _, _]) rfl rfl Fx.ty30 rfl rfl rfl rfl rfl rfl) rfl ?_
  refine SeqK.nil ?_
  refine AW.ret ?_
  exact fin_x (x := .c _) (H) (.cellL rfl rfl Fx.ty30 rfl rfl .nil) rfl (fun _ _ h => h) (⟨by rw [hv]; rfl, rfl⟩)
 have hv : nvM b.tabs.length b.wh = jnP (b.tabs.length - 1) := by rw [nvM, if_pos (by first | exact h22 | exact Classical.not_not.1 h22)]
 refine AW.skip ?_
 refine sR ?_
 refine SeqK.r (b_load (r := .g [_, _, _, _, _, _, _, _, _, _, _, _, _]) rfl Fx.ty30 rfl rfl rfl rfl rfl rfl) rfl ?_
 refine SeqK.r (b_store (r := [_, _, _, _, _, _, _, _, _, _, _, _, _]) rfl rfl Fx.ty30 rfl rfl rfl rfl rfl rfl) rfl ?_
 refine SeqK.nil ?_
 refine AW.ret ?_
 exact fin_x (x := .c _) (H) (.cellL rfl rfl Fx.ty30 rfl rfl .nil) rfl (fun _ _ h => h) (⟨by rw [hv]; rfl, rfl⟩)

set_option maxHeartbeats 8000000 in
set_option maxRecDepth 20000 in
theorem same_of (p : Pl) (ho : okP p) (ih : ∀ a ∈ p.args, Pure Try.prog 15 [plC a, plC a] (.c (bC true))) : Pure Try.prog 15 [plC p, plC p] (.c (bC true)) := by
 intro H
 refine Spec.enter Try.func15 rfl ?_
 refine AW.wk (Wk.keep 111 [(0, .c (plC p)), (1, .c (plC p))] [] (H) rfl ⟨rfl, rfl, trivial⟩ trivial (fun _ _ h => h) rfl) ?_
 refine sR ?_
 refine SeqK.r (b_box (r := [_, _, _, _, _, _, _, _, _, _, _, _, _]) rfl rfl rfl rfl rfl rfl) rfl ?_
 refine SeqK.r (b_box (r := [_, _, _, _, _, _, _, _, _, _, _, _, _]) rfl rfl rfl rfl rfl rfl) rfl ?_
 refine sA ?_
 refine SeqK.nil ?_
 refine AW.seq ?_
 refine AW.seq ?_
 obtain ⟨⟨k1, k2, k3, kf, kk⟩, k5⟩ := okP_iff.1 ho
 refine AW.reg ?_
 refine SeqK.q (q_fieldL _ rfl Fx.fl30_0 rfl rfl) rfl rfl rfl ?_
 refine SeqK.r (b_load (r := .a _) rfl Fx.ty3 rfl rfl rfl rfl rfl rfl) rfl ?_
 refine SeqK.q (q_fieldL _ rfl Fx.fl30_0 rfl rfl) rfl rfl rfl ?_
 refine SeqK.r (b_load (r := .a _) rfl Fx.ty3 rfl rfl rfl rfl rfl rfl) rfl ?_
 refine SeqK.q (q_neq rfl rfl rfl) rfl rfl rfl ?_
 refine SeqK.qD (q_mvC rfl rfl) rfl rfl rfl (fun g13 => ?_) (fun g13 => ?_)
 ·
  exact absurd rfl g13
 refine SeqK.on (q_fieldL _ rfl Fx.fl30_1 rfl rfl) rfl rfl rfl rfl rfl ?_
 refine SeqK.rOn (b_load (r := .a _) rfl Fx.ty3 rfl rfl rfl rfl rfl rfl) rfl rfl rfl ?_
 refine SeqK.on (q_fieldL _ rfl Fx.fl30_1 rfl rfl) rfl rfl rfl rfl rfl ?_
 refine SeqK.rOn (b_load (r := .a _) rfl Fx.ty3 rfl rfl rfl rfl rfl rfl) rfl rfl rfl ?_
 refine SeqK.on (q_neq rfl rfl rfl) rfl rfl rfl rfl rfl ?_
 refine SeqK.q (q_pkF rfl rfl rfl) rfl rfl rfl ?_
 refine SeqK.qD (q_mvC rfl rfl) rfl rfl rfl (fun g20 => ?_) (fun g20 => ?_)
 ·
  exact absurd rfl g20
 refine SeqK.on (q_fieldL _ rfl Fx.fl30_2 rfl rfl) rfl rfl rfl rfl rfl ?_
 refine SeqK.rOn (b_load (r := .a _) rfl Fx.ty22 rfl rfl rfl rfl rfl rfl) rfl rfl rfl ?_
 refine SeqK.on (q_len rfl Fx.un22 rfl) rfl rfl rfl rfl rfl ?_
 refine SeqK.on (q_fieldL _ rfl Fx.fl30_2 rfl rfl) rfl rfl rfl rfl rfl ?_
 refine SeqK.rOn (b_load (r := .a _) rfl Fx.ty22 rfl rfl rfl rfl rfl rfl) rfl rfl rfl ?_
 refine SeqK.on (q_len rfl Fx.un22 rfl) rfl rfl rfl rfl rfl ?_
 refine SeqK.on (q_neq rfl rfl rfl) rfl rfl rfl rfl rfl ?_
 refine SeqK.q (q_pkF rfl rfl rfl) rfl rfl rfl ?_
 refine SeqK.qD (q_mvC rfl rfl) rfl rfl rfl (fun g29 => ?_) (fun g29 => ?_)
 ·
  exact absurd rfl g29
 refine SeqK.on (q_fieldL _ rfl Fx.fl30_3 rfl rfl) rfl rfl rfl rfl rfl ?_
 refine SeqK.rOn (b_load (r := .a _) rfl Fx.ty23 rfl rfl rfl rfl rfl rfl) rfl rfl rfl ?_
 refine SeqK.on (q_len rfl Fx.un23 rfl) rfl rfl rfl rfl rfl ?_
 refine SeqK.on (q_fieldL _ rfl Fx.fl30_3 rfl rfl) rfl rfl rfl rfl rfl ?_
 refine SeqK.rOn (b_load (r := .a _) rfl Fx.ty23 rfl rfl rfl rfl rfl rfl) rfl rfl rfl ?_
 refine SeqK.on (q_len rfl Fx.un23 rfl) rfl rfl rfl rfl rfl ?_
 refine SeqK.on (q_neq rfl rfl rfl) rfl rfl rfl rfl rfl ?_
 refine SeqK.q (q_pkF rfl rfl rfl) rfl rfl rfl ?_
 refine SeqK.qD (q_mvC rfl rfl) rfl rfl rfl (fun g38 => ?_) (fun g38 => ?_)
 ·
  exact absurd rfl g38
 refine SeqK.on (q_fieldL _ rfl Fx.fl30_5 rfl rfl) rfl rfl rfl rfl rfl ?_
 refine SeqK.rOn (b_load (r := .a _) rfl Fx.ty28 rfl rfl rfl rfl rfl rfl) rfl rfl rfl ?_
 refine SeqK.on (q_len rfl Fx.un28 rfl) rfl rfl rfl rfl rfl ?_
 refine SeqK.on (q_fieldL _ rfl Fx.fl30_5 rfl rfl) rfl rfl rfl rfl rfl ?_
 refine SeqK.rOn (b_load (r := .a _) rfl Fx.ty28 rfl rfl rfl rfl rfl rfl) rfl rfl rfl ?_
 refine SeqK.on (q_len rfl Fx.un28 rfl) rfl rfl rfl rfl rfl ?_
 refine SeqK.on (q_neq rfl rfl rfl) rfl rfl rfl rfl rfl ?_
 refine SeqK.q (q_pkF rfl rfl rfl) rfl rfl rfl ?_
 refine SeqK.qD (q_mvC rfl rfl) rfl rfl rfl (fun g47 => ?_) (fun g47 => ?_)
 ·
  exact absurd rfl g47
 refine SeqK.on (q_fieldL _ rfl Fx.fl30_4 rfl rfl) rfl rfl rfl rfl rfl ?_
 refine SeqK.rOn (b_load (r := .g [_, _, _, _, _, _, _, _]) rfl Fx.ty27 rfl rfl rfl rfl rfl rfl) rfl rfl rfl ?_
 refine SeqK.on (q_fieldL _ rfl Fx.fl30_4 rfl rfl) rfl rfl rfl rfl rfl ?_
 refine SeqK.rOn (b_load (r := .g [_, _, _, _, _, _, _, _]) rfl Fx.ty27 rfl rfl rfl rfl rfl rfl) rfl rfl rfl ?_
 refine SeqK.on (q_call _ rfl Fx.fn13 rfl (expr_any p.flt p.flt kf) rfl) rfl rfl rfl rfl rfl ?_
 refine SeqK.on (q_not rfl rfl) rfl rfl rfl rfl rfl ?_
 refine SeqK.q (q_pkF rfl rfl rfl) rfl rfl rfl ?_
 refine SeqK.nil ?_
 refine AW.cond _ rfl (fun h54 => ?_) (fun h54 => ?_)
 ·
  simp at h54
 refine AW.skip ?_
 refine AW.seq ?_
 refine sR ?_
 refine sA ?_
 refine SeqK.nil ?_
 refine AW.block ?_
 refine AW.loop (fun (i : Nat) s => (i ≤ p.cols.length) ∧ s = ⟨111, sp [(2, .lp 2 0), (3, .lp 3 0), (4, .c (bC false)), (5, iX .i64 ((i : Nat) : Int))], lv [(2, .box [.t (.v (.int .i64 p.k)), .t (.v (.int .i64 p.src)), .t (.sl .un 1 (p.cols.map i64T)), .t (.sl .un 8 (p.keys.map exT')), .t (.v (.int .i64 p.flt.op)), .t (.v (.string p.flt.tb)), .t (.v (.string p.flt.nm)), .t (.v (.int .i64 p.flt.ix)), .t (.v (.int .i64 p.flt.vk)), .t (.v (.int .i64 p.flt.vn)), .t (.v (.string p.flt.vs)), .t (.sl .un 8 (p.flt.args.map exT')), .t (.sl .un 13 (p.args.map plT'))]), (3, .box [.t (.v (.int .i64 p.k)), .t (.v (.int .i64 p.src)), .t (.sl .un 1 (p.cols.map i64T)), .t (.sl .un 8 (p.keys.map exT')), .t (.v (.int .i64 p.flt.op)), .t (.v (.string p.flt.tb)), .t (.v (.string p.flt.nm)), .t (.v (.int .i64 p.flt.ix)), .t (.v (.int .i64 p.flt.vk)), .t (.v (.int .i64 p.flt.vn)), .t (.v (.string p.flt.vs)), .t (.sl .un 8 (p.flt.args.map exT')), .t (.sl .un 13 (p.args.map plT'))])], H⟩) (fun i => p.cols.length - i) 0 ⟨_, Wk.keep 111 [(2, .lp 2 0), (3, .lp 3 0), (4, .c (bC false)), (5, iX .i64 ((((0 : Nat)) : Nat) : Int))] [(2, .box [.t (.v (.int .i64 p.k)), .t (.v (.int .i64 p.src)), .t (.sl .un 1 (p.cols.map i64T)), .t (.sl .un 8 (p.keys.map exT')), .t (.v (.int .i64 p.flt.op)), .t (.v (.string p.flt.tb)), .t (.v (.string p.flt.nm)), .t (.v (.int .i64 p.flt.ix)), .t (.v (.int .i64 p.flt.vk)), .t (.v (.int .i64 p.flt.vn)), .t (.v (.string p.flt.vs)), .t (.sl .un 8 (p.flt.args.map exT')), .t (.sl .un 13 (p.args.map plT'))]), (3, .box [.t (.v (.int .i64 p.k)), .t (.v (.int .i64 p.src)), .t (.sl .un 1 (p.cols.map i64T)), .t (.sl .un 8 (p.keys.map exT')), .t (.v (.int .i64 p.flt.op)), .t (.v (.string p.flt.tb)), .t (.v (.string p.flt.nm)), .t (.v (.int .i64 p.flt.ix)), .t (.v (.int .i64 p.flt.vk)), .t (.v (.int .i64 p.flt.vn)), .t (.v (.string p.flt.vs)), .t (.sl .un 8 (p.flt.args.map exT')), .t (.sl .un 13 (p.args.map plT'))])] (H) rfl ⟨rfl, rfl, rfl, rfl, trivial⟩ ⟨rfl, rfl, trivial⟩ (fun _ _ h => h) rfl, Nat.zero_le _, rfl⟩ (fun i s hs => ?_)
 obtain ⟨hi0, rfl⟩ := hs
 refine AW.seq ?_
 refine sR ?_
 refine sM ?_
 refine SeqK.q (q_fieldL _ rfl Fx.fl30_2 rfl rfl) rfl rfl rfl ?_
 refine SeqK.r (b_load (r := .a _) rfl Fx.ty22 rfl rfl rfl rfl rfl rfl) rfl ?_
 refine SeqK.q (q_len rfl Fx.un22 rfl) rfl rfl rfl ?_
 refine SeqK.q (q_lss rfl rfl rfl) rfl rfl rfl ?_
 refine SeqK.nil ?_
 refine AW.condD rfl (fun h59 => ?_) (fun h59 => ?_)
 ·
  have hi : i < p.cols.length := by rw [List.length_map] at h59; omega
  refine AW.skip ?_
  refine AW.seq ?_
  refine AW.block ?_
  refine AW.seq ?_
  refine AW.draw Fx.mo ?_
  refine LexK.q (q_fieldL _ rfl Fx.fl30_2 rfl rfl) rfl rfl rfl ?_
  refine LexK.r (b_load (r := .a _) rfl Fx.ty22 rfl rfl rfl rfl rfl rfl) rfl ?_
  refine LexK.q (q_mvC rfl rfl) rfl rfl rfl ?_
  refine LexK.q (q_index _ rfl Fx.sl22 rfl rfl (by omega) (idx_map (f := i64T) hi)) rfl rfl rfl ?_
  refine LexK.q (q_load (.a _) rfl Fx.ty3 rfl rfl rfl) rfl rfl rfl ?_
  refine LexK.q (q_fieldL _ rfl Fx.fl30_2 rfl rfl) rfl rfl rfl ?_
  refine LexK.r (b_load (r := .a _) rfl Fx.ty22 rfl rfl rfl rfl rfl rfl) rfl ?_
  refine LexK.q (q_mvC rfl rfl) rfl rfl rfl ?_
  refine LexK.q (q_index _ rfl Fx.sl22 rfl rfl (by omega) (idx_map (f := i64T) hi)) rfl rfl rfl ?_
  refine LexK.q (q_load (.a _) rfl Fx.ty3 rfl rfl rfl) rfl rfl rfl ?_
  refine LexK.q (q_neq rfl rfl rfl) rfl rfl rfl ?_
  refine LexK.nil (by kernel_rfl) ?_
  refine AW.condD rfl (fun h72 => ?_) (fun h72 => ?_)
  ·
   exact absurd rfl h72
  refine AW.skip ?_
  refine AW.reg ?_
  refine sM ?_
  refine SeqK.q (q_add _ rfl rfl rfl (w64 (by omega) (by omega))) rfl rfl rfl ?_
  refine sA ?_
  refine SeqK.nil ?_
  exact ⟨i + 1, _, Wk.keep 111 [(2, .lp 2 0), (3, .lp 3 0), (4, .c (bC false)), (5, iX .i64 (((i + 1) : Nat) : Int))] [(2, .box [.t (.v (.int .i64 p.k)), .t (.v (.int .i64 p.src)), .t (.sl .un 1 (p.cols.map i64T)), .t (.sl .un 8 (p.keys.map exT')), .t (.v (.int .i64 p.flt.op)), .t (.v (.string p.flt.tb)), .t (.v (.string p.flt.nm)), .t (.v (.int .i64 p.flt.ix)), .t (.v (.int .i64 p.flt.vk)), .t (.v (.int .i64 p.flt.vn)), .t (.v (.string p.flt.vs)), .t (.sl .un 8 (p.flt.args.map exT')), .t (.sl .un 13 (p.args.map plT'))]), (3, .box [.t (.v (.int .i64 p.k)), .t (.v (.int .i64 p.src)), .t (.sl .un 1 (p.cols.map i64T)), .t (.sl .un 8 (p.keys.map exT')), .t (.v (.int .i64 p.flt.op)), .t (.v (.string p.flt.tb)), .t (.v (.string p.flt.nm)), .t (.v (.int .i64 p.flt.ix)), .t (.v (.int .i64 p.flt.vk)), .t (.v (.int .i64 p.flt.vn)), .t (.v (.string p.flt.vs)), .t (.sl .un 8 (p.flt.args.map exT')), .t (.sl .un 13 (p.args.map plT'))])] (H) rfl ⟨rfl, rfl, rfl, rfl, trivial⟩ ⟨rfl, rfl, trivial⟩ (fun _ _ h => h) rfl, by omega, hi, rfl⟩
 refine AW.exit ?_
 refine eth_e ?_
 refine eth_e ?_
 refine exit_here ?_
 refine AW.seq ?_
 refine sR ?_
 refine sA ?_
 refine SeqK.nil ?_
 refine AW.block ?_
 refine AW.loop (fun (i : Nat) s => (i ≤ p.keys.length) ∧ s = ⟨111, sp [(2, .lp 2 0), (3, .lp 3 0), (4, .c (bC false)), (6, iX .i64 ((i : Nat) : Int))], lv [(2, .box [.t (.v (.int .i64 p.k)), .t (.v (.int .i64 p.src)), .t (.sl .un 1 (p.cols.map i64T)), .t (.sl .un 8 (p.keys.map exT')), .t (.v (.int .i64 p.flt.op)), .t (.v (.string p.flt.tb)), .t (.v (.string p.flt.nm)), .t (.v (.int .i64 p.flt.ix)), .t (.v (.int .i64 p.flt.vk)), .t (.v (.int .i64 p.flt.vn)), .t (.v (.string p.flt.vs)), .t (.sl .un 8 (p.flt.args.map exT')), .t (.sl .un 13 (p.args.map plT'))]), (3, .box [.t (.v (.int .i64 p.k)), .t (.v (.int .i64 p.src)), .t (.sl .un 1 (p.cols.map i64T)), .t (.sl .un 8 (p.keys.map exT')), .t (.v (.int .i64 p.flt.op)), .t (.v (.string p.flt.tb)), .t (.v (.string p.flt.nm)), .t (.v (.int .i64 p.flt.ix)), .t (.v (.int .i64 p.flt.vk)), .t (.v (.int .i64 p.flt.vn)), .t (.v (.string p.flt.vs)), .t (.sl .un 8 (p.flt.args.map exT')), .t (.sl .un 13 (p.args.map plT'))])], H⟩) (fun i => p.keys.length - i) 0 ⟨_, Wk.keep 111 [(2, .lp 2 0), (3, .lp 3 0), (4, .c (bC false)), (6, iX .i64 ((((0 : Nat)) : Nat) : Int))] [(2, .box [.t (.v (.int .i64 p.k)), .t (.v (.int .i64 p.src)), .t (.sl .un 1 (p.cols.map i64T)), .t (.sl .un 8 (p.keys.map exT')), .t (.v (.int .i64 p.flt.op)), .t (.v (.string p.flt.tb)), .t (.v (.string p.flt.nm)), .t (.v (.int .i64 p.flt.ix)), .t (.v (.int .i64 p.flt.vk)), .t (.v (.int .i64 p.flt.vn)), .t (.v (.string p.flt.vs)), .t (.sl .un 8 (p.flt.args.map exT')), .t (.sl .un 13 (p.args.map plT'))]), (3, .box [.t (.v (.int .i64 p.k)), .t (.v (.int .i64 p.src)), .t (.sl .un 1 (p.cols.map i64T)), .t (.sl .un 8 (p.keys.map exT')), .t (.v (.int .i64 p.flt.op)), .t (.v (.string p.flt.tb)), .t (.v (.string p.flt.nm)), .t (.v (.int .i64 p.flt.ix)), .t (.v (.int .i64 p.flt.vk)), .t (.v (.int .i64 p.flt.vn)), .t (.v (.string p.flt.vs)), .t (.sl .un 8 (p.flt.args.map exT')), .t (.sl .un 13 (p.args.map plT'))])] (H) rfl ⟨rfl, rfl, rfl, rfl, trivial⟩ ⟨rfl, rfl, trivial⟩ (fun _ _ h => h) rfl, Nat.zero_le _, rfl⟩ (fun i s hs => ?_)
 obtain ⟨hi0, rfl⟩ := hs
 refine AW.seq ?_
 refine sR ?_
 refine sM ?_
 refine SeqK.q (q_fieldL _ rfl Fx.fl30_3 rfl rfl) rfl rfl rfl ?_
 refine SeqK.r (b_load (r := .a _) rfl Fx.ty23 rfl rfl rfl rfl rfl rfl) rfl ?_
 refine SeqK.q (q_len rfl Fx.un23 rfl) rfl rfl rfl ?_
 refine SeqK.q (q_lss rfl rfl rfl) rfl rfl rfl ?_
 refine SeqK.nil ?_
 refine AW.condD rfl (fun h77 => ?_) (fun h77 => ?_)
 ·
  have hi : i < p.keys.length := by rw [List.length_map] at h77; omega
  refine AW.skip ?_
  refine AW.seq ?_
  refine AW.block ?_
  refine AW.seq ?_
  refine AW.draw Fx.mo ?_
  refine LexK.q (q_fieldL _ rfl Fx.fl30_3 rfl rfl) rfl rfl rfl ?_
  refine LexK.r (b_load (r := .a _) rfl Fx.ty23 rfl rfl rfl rfl rfl rfl) rfl ?_
  refine LexK.q (q_mvC rfl rfl) rfl rfl rfl ?_
  refine LexK.q (q_index _ rfl Fx.sl23 rfl rfl (by omega) (idx_ex hi)) rfl rfl rfl ?_
  refine LexK.q (q_load (.g [_, _, _, _, _, _, _, _]) rfl Fx.ty27 rfl rfl rfl) rfl rfl rfl ?_
  refine LexK.q (q_fieldL _ rfl Fx.fl30_3 rfl rfl) rfl rfl rfl ?_
  refine LexK.r (b_load (r := .a _) rfl Fx.ty23 rfl rfl rfl rfl rfl rfl) rfl ?_
  refine LexK.q (q_mvC rfl rfl) rfl rfl rfl ?_
  refine LexK.q (q_index _ rfl Fx.sl23 rfl rfl (by omega) (idx_ex hi)) rfl rfl rfl ?_
  refine LexK.q (q_load (.g [_, _, _, _, _, _, _, _]) rfl Fx.ty27 rfl rfl rfl) rfl rfl rfl ?_
  refine LexK.q (q_call _ rfl Fx.fn13 rfl (expr_any _ _ (kk _ (List.getElem_mem hi))) rfl) rfl rfl rfl ?_
  refine LexK.q (q_not rfl rfl) rfl rfl rfl ?_
  refine LexK.nil (by kernel_rfl) ?_
  refine AW.cond _ rfl (fun h91 => ?_) (fun h91 => ?_)
  ·
   simp at h91
  refine AW.skip ?_
  refine AW.reg ?_
  refine sM ?_
  refine SeqK.q (q_add _ rfl rfl rfl (w64 (by omega) (by omega))) rfl rfl rfl ?_
  refine sA ?_
  refine SeqK.nil ?_
  exact ⟨i + 1, _, Wk.keep 111 [(2, .lp 2 0), (3, .lp 3 0), (4, .c (bC false)), (6, iX .i64 (((i + 1) : Nat) : Int))] [(2, .box [.t (.v (.int .i64 p.k)), .t (.v (.int .i64 p.src)), .t (.sl .un 1 (p.cols.map i64T)), .t (.sl .un 8 (p.keys.map exT')), .t (.v (.int .i64 p.flt.op)), .t (.v (.string p.flt.tb)), .t (.v (.string p.flt.nm)), .t (.v (.int .i64 p.flt.ix)), .t (.v (.int .i64 p.flt.vk)), .t (.v (.int .i64 p.flt.vn)), .t (.v (.string p.flt.vs)), .t (.sl .un 8 (p.flt.args.map exT')), .t (.sl .un 13 (p.args.map plT'))]), (3, .box [.t (.v (.int .i64 p.k)), .t (.v (.int .i64 p.src)), .t (.sl .un 1 (p.cols.map i64T)), .t (.sl .un 8 (p.keys.map exT')), .t (.v (.int .i64 p.flt.op)), .t (.v (.string p.flt.tb)), .t (.v (.string p.flt.nm)), .t (.v (.int .i64 p.flt.ix)), .t (.v (.int .i64 p.flt.vk)), .t (.v (.int .i64 p.flt.vn)), .t (.v (.string p.flt.vs)), .t (.sl .un 8 (p.flt.args.map exT')), .t (.sl .un 13 (p.args.map plT'))])] (H) rfl ⟨rfl, rfl, rfl, rfl, trivial⟩ ⟨rfl, rfl, trivial⟩ (fun _ _ h => h) rfl, by omega, hi, rfl⟩
 refine AW.exit ?_
 refine eth_e ?_
 refine eth_e ?_
 refine exit_here ?_
 refine AW.seq ?_
 refine sR ?_
 refine sA ?_
 refine SeqK.nil ?_
 refine AW.block ?_
 refine AW.loop (fun (i : Nat) s => (i ≤ p.args.length) ∧ s = ⟨111, sp [(2, .lp 2 0), (3, .lp 3 0), (4, .c (bC false)), (7, iX .i64 ((i : Nat) : Int))], lv [(2, .box [.t (.v (.int .i64 p.k)), .t (.v (.int .i64 p.src)), .t (.sl .un 1 (p.cols.map i64T)), .t (.sl .un 8 (p.keys.map exT')), .t (.v (.int .i64 p.flt.op)), .t (.v (.string p.flt.tb)), .t (.v (.string p.flt.nm)), .t (.v (.int .i64 p.flt.ix)), .t (.v (.int .i64 p.flt.vk)), .t (.v (.int .i64 p.flt.vn)), .t (.v (.string p.flt.vs)), .t (.sl .un 8 (p.flt.args.map exT')), .t (.sl .un 13 (p.args.map plT'))]), (3, .box [.t (.v (.int .i64 p.k)), .t (.v (.int .i64 p.src)), .t (.sl .un 1 (p.cols.map i64T)), .t (.sl .un 8 (p.keys.map exT')), .t (.v (.int .i64 p.flt.op)), .t (.v (.string p.flt.tb)), .t (.v (.string p.flt.nm)), .t (.v (.int .i64 p.flt.ix)), .t (.v (.int .i64 p.flt.vk)), .t (.v (.int .i64 p.flt.vn)), .t (.v (.string p.flt.vs)), .t (.sl .un 8 (p.flt.args.map exT')), .t (.sl .un 13 (p.args.map plT'))])], H⟩) (fun i => p.args.length - i) 0 ⟨_, Wk.keep 111 [(2, .lp 2 0), (3, .lp 3 0), (4, .c (bC false)), (7, iX .i64 ((((0 : Nat)) : Nat) : Int))] [(2, .box [.t (.v (.int .i64 p.k)), .t (.v (.int .i64 p.src)), .t (.sl .un 1 (p.cols.map i64T)), .t (.sl .un 8 (p.keys.map exT')), .t (.v (.int .i64 p.flt.op)), .t (.v (.string p.flt.tb)), .t (.v (.string p.flt.nm)), .t (.v (.int .i64 p.flt.ix)), .t (.v (.int .i64 p.flt.vk)), .t (.v (.int .i64 p.flt.vn)), .t (.v (.string p.flt.vs)), .t (.sl .un 8 (p.flt.args.map exT')), .t (.sl .un 13 (p.args.map plT'))]), (3, .box [.t (.v (.int .i64 p.k)), .t (.v (.int .i64 p.src)), .t (.sl .un 1 (p.cols.map i64T)), .t (.sl .un 8 (p.keys.map exT')), .t (.v (.int .i64 p.flt.op)), .t (.v (.string p.flt.tb)), .t (.v (.string p.flt.nm)), .t (.v (.int .i64 p.flt.ix)), .t (.v (.int .i64 p.flt.vk)), .t (.v (.int .i64 p.flt.vn)), .t (.v (.string p.flt.vs)), .t (.sl .un 8 (p.flt.args.map exT')), .t (.sl .un 13 (p.args.map plT'))])] (H) rfl ⟨rfl, rfl, rfl, rfl, trivial⟩ ⟨rfl, rfl, trivial⟩ (fun _ _ h => h) rfl, Nat.zero_le _, rfl⟩ (fun i s hs => ?_)
 obtain ⟨hi0, rfl⟩ := hs
 refine AW.seq ?_
 refine sR ?_
 refine sM ?_
 refine SeqK.q (q_fieldL _ rfl Fx.fl30_5 rfl rfl) rfl rfl rfl ?_
 refine SeqK.r (b_load (r := .a _) rfl Fx.ty28 rfl rfl rfl rfl rfl rfl) rfl ?_
 refine SeqK.q (q_len rfl Fx.un28 rfl) rfl rfl rfl ?_
 refine SeqK.q (q_lss rfl rfl rfl) rfl rfl rfl ?_
 refine SeqK.nil ?_
 refine AW.condD rfl (fun h96 => ?_) (fun h96 => ?_)
 ·
  have hi : i < p.args.length := by rw [List.length_map] at h96; omega
  refine AW.skip ?_
  refine AW.seq ?_
  refine AW.block ?_
  refine AW.seq ?_
  refine AW.draw Fx.mo ?_
  refine LexK.q (q_fieldL _ rfl Fx.fl30_5 rfl rfl) rfl rfl rfl ?_
  refine LexK.r (b_load (r := .a _) rfl Fx.ty28 rfl rfl rfl rfl rfl rfl) rfl ?_
  refine LexK.q (q_mvC rfl rfl) rfl rfl rfl ?_
  refine LexK.q (q_index _ rfl Fx.sl28 rfl rfl (by omega) (idx_pl hi)) rfl rfl rfl ?_
  refine LexK.q (q_load (.g [_, _, _, _, _, _, _, _, _, _, _, _, _]) rfl Fx.ty30 rfl rfl rfl) rfl rfl rfl ?_
  refine LexK.q (q_fieldL _ rfl Fx.fl30_5 rfl rfl) rfl rfl rfl ?_
  refine LexK.r (b_load (r := .a _) rfl Fx.ty28 rfl rfl rfl rfl rfl rfl) rfl ?_
  refine LexK.q (q_mvC rfl rfl) rfl rfl rfl ?_
  refine LexK.q (q_index _ rfl Fx.sl28 rfl rfl (by omega) (idx_pl hi)) rfl rfl rfl ?_
  refine LexK.q (q_load (.g [_, _, _, _, _, _, _, _, _, _, _, _, _]) rfl Fx.ty30 rfl rfl rfl) rfl rfl rfl ?_
  refine LexK.q (q_call _ rfl Fx.fn15 rfl (ih _ (List.getElem_mem hi)) rfl) rfl rfl rfl ?_
  refine LexK.q (q_not rfl rfl) rfl rfl rfl ?_
  refine LexK.nil (by kernel_rfl) ?_
  refine AW.cond _ rfl (fun h110 => ?_) (fun h110 => ?_)
  ·
   simp at h110
  refine AW.skip ?_
  refine AW.reg ?_
  refine sM ?_
  refine SeqK.q (q_add _ rfl rfl rfl (w64 (by omega) (by omega))) rfl rfl rfl ?_
  refine sA ?_
  refine SeqK.nil ?_
  exact ⟨i + 1, _, Wk.keep 111 [(2, .lp 2 0), (3, .lp 3 0), (4, .c (bC false)), (7, iX .i64 (((i + 1) : Nat) : Int))] [(2, .box [.t (.v (.int .i64 p.k)), .t (.v (.int .i64 p.src)), .t (.sl .un 1 (p.cols.map i64T)), .t (.sl .un 8 (p.keys.map exT')), .t (.v (.int .i64 p.flt.op)), .t (.v (.string p.flt.tb)), .t (.v (.string p.flt.nm)), .t (.v (.int .i64 p.flt.ix)), .t (.v (.int .i64 p.flt.vk)), .t (.v (.int .i64 p.flt.vn)), .t (.v (.string p.flt.vs)), .t (.sl .un 8 (p.flt.args.map exT')), .t (.sl .un 13 (p.args.map plT'))]), (3, .box [.t (.v (.int .i64 p.k)), .t (.v (.int .i64 p.src)), .t (.sl .un 1 (p.cols.map i64T)), .t (.sl .un 8 (p.keys.map exT')), .t (.v (.int .i64 p.flt.op)), .t (.v (.string p.flt.tb)), .t (.v (.string p.flt.nm)), .t (.v (.int .i64 p.flt.ix)), .t (.v (.int .i64 p.flt.vk)), .t (.v (.int .i64 p.flt.vn)), .t (.v (.string p.flt.vs)), .t (.sl .un 8 (p.flt.args.map exT')), .t (.sl .un 13 (p.args.map plT'))])] (H) rfl ⟨rfl, rfl, rfl, rfl, trivial⟩ ⟨rfl, rfl, trivial⟩ (fun _ _ h => h) rfl, by omega, hi, rfl⟩
 refine AW.exit ?_
 refine eth_e ?_
 refine eth_e ?_
 refine exit_here ?_
 refine sR ?_
 refine sA ?_
 refine SeqK.nil ?_
 refine AW.ret ?_
 exact fin_x (x := .c _) (H) (.tmp rfl .nil) rfl (fun _ _ h => h) (⟨rfl, rfl⟩)

theorem same_any (p : Pl) : okP p → Pure Try.prog 15 [plC p, plC p] (.c (bC true)) := by
  induction p using Pl.rec' with
  | h p ih => exact fun ho => same_of p ho fun a ha => ih a ha ((okP_iff.1 ho).2 a ha)

end Go.Proofs.Ytihlgigaejhilaa.W
namespace Go.Proofs.Ytihlgigaejhilaa.W
open Go.RowKit E
/-! the law of Naive, walked -/
theorem bnd_okB {c : Cs} (ho : okC c) (h : bndP c) : okB c.sch (bdM c) := by
  obtain ⟨⟨⟨h1, _⟩, h2, _⟩, h3, _⟩ := h
  refine ⟨fun t ht => (ho.tab t ht).cols, fun j hj => (h3 j hj).1, ?_⟩
  show c.frm.length ≤ 1000
  omega

set_option maxHeartbeats 16000000 in
set_option maxRecDepth 20000 in
theorem planNaive_walk (c : Cs) (ho : okC c) : Pure Try.prog 5 [csC c] (.c (bC true)) := by
 intro H
 refine Spec.enter Try.func5 rfl ?_
 refine AW.wk (Wk.keep 31 [(0, .c (csC c))] [] (H) rfl ⟨rfl, trivial⟩ trivial (fun _ _ h => h) rfl) ?_
 refine sR ?_
 refine SeqK.r (b_box (r := [_, _, _, _, _, _, _, _, _, _, _]) rfl rfl rfl rfl rfl rfl) rfl ?_
 refine sA ?_
 refine SeqK.nil ?_
 refine sR ?_
 refine SeqK.r (b_load (r := .g [_, _, _, _, _, _, _, _, _, _, _]) rfl Fx.ty38 rfl rfl rfl rfl rfl rfl) rfl ?_
 refine SeqK.callE rfl rfl rfl rfl Fx.fn10 rfl (bound_any H c ho) (fun _ _ ⟨⟨_, h, _⟩, _⟩ => by rw [h]; rfl) (fun x8 H8 q8 => ?_)
 obtain ⟨⟨b, rfl, hok⟩, hHs⟩ := q8
 replace hHs := hHs.symm
 subst hHs
 refine SeqK.q (q_mvT rfl rfl) rfl rfl rfl ?_
 refine SeqK.q (q_extract _ rfl rfl rfl) rfl rfl rfl ?_
 refine SeqK.q (q_extract _ rfl rfl rfl) rfl rfl rfl ?_
 refine SeqK.r (b_alloc (r := [_, _, _, _, _, _, _, _, _, _, _, _, _, _, _, _, _, _, _, _, _, _, _, _, _, _]) rfl rfl Fx.ze54 rfl rfl rfl rfl) rfl ?_
 refine SeqK.r (b_store (r := [_, _, _, _, _, _, _, _, _, _, _, _, _, _, _, _, _, _, _, _, _, _, _, _, _, _]) rfl rfl Fx.ty54 rfl rfl rfl rfl rfl rfl) rfl ?_
 refine sA ?_
 refine SeqK.nil ?_
 refine AW.seq ?_
 refine sR ?_
 refine SeqK.r (g_call rfl Fx.fn6 rfl (awake_any H) rfl rfl rfl) rfl ?_
 refine SeqK.q (q_not rfl rfl) rfl rfl rfl ?_
 refine SeqK.qB (q_mvC rfl rfl) rfl rfl rfl (fun g13 => ?_) (fun g13 => ?_)
 ·
  iterate 2 refine SeqK.off rfl rfl rfl rfl rfl rfl ?_
  refine SeqK.q (q_pkT rfl rfl rfl) rfl rfl rfl ?_
  refine SeqK.nil ?_
  refine AW.condT rfl ?_
  refine sR ?_
  refine SeqK.r (g_call rfl Fx.fn6 rfl (awake_any H) rfl rfl rfl) rfl ?_
  refine sA ?_
  refine SeqK.nil ?_
  refine AW.ret ?_
  exact fin_x (x := .c _) (H) (.tmp rfl .nil) rfl (fun _ _ h => h) (⟨by first | rfl | exact bCe (decide_eq_true (pv_nv hbp)), rfl⟩)
 refine SeqK.on (q_mvC rfl rfl) rfl rfl rfl rfl rfl ?_
 refine SeqK.on (q_not rfl rfl) rfl rfl rfl rfl rfl ?_
 refine SeqK.q (q_pkF rfl rfl rfl) rfl rfl rfl ?_
 refine SeqK.nil ?_
 refine AW.cond _ rfl (fun h16 => ?_) (fun h16 => ?_)
 ·
  refine sR ?_
  refine SeqK.r (g_call rfl Fx.fn6 rfl (awake_any H) rfl rfl rfl) rfl ?_
  refine sA ?_
  refine SeqK.nil ?_
  refine AW.ret ?_
  exact fin_x (x := .c _) (H) (.tmp rfl .nil) rfl (fun _ _ h => h) (⟨by first | rfl | exact bCe (decide_eq_true (pv_nv hbp)), rfl⟩)
 refine AW.skip ?_
 refine AW.seq ?_
 have hbp : bndP c := nd_f h16
 obtain rfl := hok hbp
 have hfr := hbp.1.2.1
 have hn1 : 1 ≤ (bdM c).tabs.length := hfr.1.1
 have hn3 : c.frm.length ≤ 3 := hfr.1.2
 have hcl : (cnj (bdM c).wh).length ≤ 1000 := Nat.le_trans (bin_len 8 c.wh hbp.1.2.2) (by decide)
 refine AW.reg ?_
 refine SeqK.r (b_load (r := .g [_, _, _, _, _, _, _, _, _, _, _, _, _, _, _, _, _, _, _, _, _, _, _, _, _, _]) rfl Fx.ty54 rfl rfl rfl rfl rfl rfl) rfl ?_
 refine SeqK.q (q_call _ rfl Fx.fn14 rfl (naive_any (bdM c) hn1 (by show c.frm.length ≤ 1000; omega) ho.wh ⟨8, bin_sml 8 c.wh hbp.1.2.2⟩) rfl) rfl rfl rfl ?_
 refine SeqK.r (b_alloc (r := [_, _, _, _, _, _, _, _, _, _, _, _, _]) rfl rfl Fx.ze30 rfl rfl rfl rfl) rfl ?_
 refine SeqK.r (b_store (r := [_, _, _, _, _, _, _, _, _, _, _, _, _]) rfl rfl Fx.ty30 rfl rfl rfl rfl rfl rfl) rfl ?_
 refine SeqK.nil ?_
 refine AW.seq ?_
 refine AW.draw Fx.mo ?_
 refine LexK.r (b_load (r := .g [_, _, _, _, _, _, _, _, _, _, _, _, _]) rfl Fx.ty30 rfl rfl rfl rfl rfl rfl) rfl ?_
 refine LexK.r (b_load (r := .g [_, _, _, _, _, _, _, _, _, _, _, _, _, _, _, _, _, _, _, _, _, _, _, _, _, _]) rfl Fx.ty54 rfl rfl rfl rfl rfl rfl) rfl ?_
 refine LexK.q (q_call _ rfl Fx.fn16 rfl (rnaive_any (bdM c) hn1 (by show c.frm.length ≤ 1000; omega)) rfl) rfl rfl rfl ?_
 refine LexK.q (q_call _ rfl Fx.fn15 rfl (same_any (nvM c.frm.length c.wh) (okP_nv _ _ ho.wh)) rfl) rfl rfl rfl ?_
 refine LexK.qB (q_mvC rfl rfl) rfl rfl rfl (fun g24 => ?_) (fun g24 => ?_)
 ·
  refine LexK.on (q_fieldL _ rfl Fx.fl38_0 rfl rfl) rfl rfl rfl rfl rfl ?_
  refine LexK.rOn (b_load (r := .a _) rfl Fx.ty35 rfl rfl rfl rfl rfl rfl) rfl rfl rfl ?_
  refine LexK.rOn (b_load (r := .g [_, _, _, _, _, _, _, _, _, _, _, _, _, _, _, _, _, _, _, _, _, _, _, _, _, _]) rfl Fx.ty54 rfl rfl rfl rfl rfl rfl) rfl rfl rfl ?_
  refine LexK.rOn (b_load (r := .g [_, _, _, _, _, _, _, _, _, _, _, _, _]) rfl Fx.ty30 rfl rfl rfl rfl rfl rfl) rfl rfl rfl ?_
  refine LexK.rOn (g_call rfl Fx.fn17 rfl (pvalid_any H c.sch (bdM c) (bnd_okB ho hbp) ho.wh hcl (nvM c.frm.length c.wh) (okP_nv _ _ ho.wh) (okF_nv _ _ (by omega) hbp.1.2.2)) rfl rfl rfl) rfl rfl rfl ?_
  refine LexK.q (q_pkT rfl rfl rfl) rfl rfl rfl ?_
  refine LexK.q (q_asC rfl rfl) rfl rfl rfl ?_
  refine LexK.nil (by kernel_rfl) ?_
  refine AW.ret ?_
  exact fin_x (x := .c _) (H) (.tmp rfl .nil) rfl (fun _ _ h => h) (⟨by first | rfl | exact bCe (decide_eq_true (pv_nv hbp)), rfl⟩)
 cases g24

end Go.Proofs.Ytihlgigaejhilaa.W
/- The readers of the laws' arguments: data to trees. -/
namespace Go.Proofs.Ytihlgigaejhilaa.W
open Go.RowKit E
theorem rd27 (N : Nat) : Reads Try.prog N 27 8 exT' okE := by
  induction N using Nat.strongRecOn with
  | ind N ih =>
    exact (Reads.struct Try.underlying27 (ReadsF.cons rfl (by kernel_rfl) (fun _ _ => Reads.int Try.underlying3) (ReadsF.cons rfl (by kernel_rfl) (fun _ _ => Reads.string Try.underlying9) (ReadsF.cons rfl (by kernel_rfl) (fun _ _ => Reads.string Try.underlying9) (ReadsF.cons rfl (by kernel_rfl) (fun _ _ => Reads.int Try.underlying3) (ReadsF.cons rfl (by kernel_rfl) (fun _ _ => Reads.struct Try.underlying25 (ReadsF.cons rfl (by kernel_rfl) (fun _ _ => Reads.int Try.underlying3) (ReadsF.cons rfl (by kernel_rfl) (fun _ _ => Reads.int Try.underlying2) (ReadsF.cons rfl (by kernel_rfl) (fun _ _ => Reads.string Try.underlying9) .nil)))) (ReadsF.cons rfl (by kernel_rfl) (fun M2 hM2 => Reads.slice Try.underlying23 (by kernel_rfl) (by decide) (fun M3 hM3 => ih M3 (by omega))) .nil))))))).conv
        (fun p => Ex.mk p.1 p.2.1 p.2.2.1 p.2.2.2.1 p.2.2.2.2.1.1 p.2.2.2.2.1.2.1 p.2.2.2.2.1.2.2.1 p.2.2.2.2.2.1) (fun p _ => by rw [exT_eq]; rfl) (fun p h => by
          obtain ⟨h1, h2, h3, h4, h5, h6, _⟩ := h
          rw [okE_iff]
          refine ⟨⟨?_, ?_, ?_, ?_⟩, h6.2.2⟩
          · show p.2.1.size ≤ _; omega
          · show p.2.2.1.size ≤ _; omega
          · have := h5.2.2.1; show p.2.2.2.2.1.2.2.1.size ≤ _; omega
          · have := h6.1
            rw [show Try.prog.bytesOf 27 = 104 from by kernel_rfl] at this
            show p.2.2.2.2.2.1.length ≤ _; omega)
abbrev ok89 (s : Co) : Prop := (fun s : ByteArray => s.size ≤ 140737488351232) s.nm ∧ (fun i : Int => (Lit.int .i64 i).wf = true) s.ty ∧ (fun i : Int => (Lit.int .i64 i).wf = true) s.lo ∧ (fun i : Int => (Lit.int .i64 i).wf = true) s.hi ∧ (fun i : Int => (Lit.int .i64 i).wf = true) s.mx ∧ (fun _ : Bool => True) s.nn ∧ True
theorem rd89 (N : Nat) : Reads Try.prog N 89 6 coT ok89 :=
  (Reads.struct Try.underlying89 (ReadsF.cons rfl (by kernel_rfl) (fun M _ => (Reads.string Try.underlying9)) (ReadsF.cons rfl (by kernel_rfl) (fun M _ => (Reads.int Try.underlying3)) (ReadsF.cons rfl (by kernel_rfl) (fun M _ => (Reads.int Try.underlying2)) (ReadsF.cons rfl (by kernel_rfl) (fun M _ => (Reads.int Try.underlying2)) (ReadsF.cons rfl (by kernel_rfl) (fun M _ => (Reads.int Try.underlying3)) (ReadsF.cons rfl (by kernel_rfl) (fun M _ => (Reads.bool Try.underlying4)) .nil))))))).conv (fun p => (⟨p.1, p.2.1, p.2.2.1, p.2.2.2.1, p.2.2.2.2.1, p.2.2.2.2.2.1⟩ : Co)) (fun _ _ => rfl) (fun _ h => h)
abbrev ok39 (l : List Co) : Prop := l.length * 56 ≤ 140737488351232 ∧ l.length ≤ maxLen ∧ ∀ x ∈ l, ok89 x
theorem rd39 (N : Nat) : Reads Try.prog N 39 1 (fun x : List Co => ([.sl .un 6 (x.map coT)] : List T)) ok39 :=
  (Reads.slice Try.underlying39 (by kernel_rfl) (by decide) (fun M _ => (rd89 M))).conv id (fun _ _ => rfl) (fun _ h => by rw [show Try.prog.bytesOf 89 = 56 from by kernel_rfl] at h; exact h)
abbrev ok22 (l : List Int) : Prop := l.length * 8 ≤ 140737488351232 ∧ l.length ≤ maxLen ∧ ∀ x ∈ l, (fun i : Int => (Lit.int .i64 i).wf = true) x
theorem rd22 (N : Nat) : Reads Try.prog N 22 1 (fun x : List Int => ([.sl .un 1 (x.map (fun x : Int => ([.v (.int .i64 x)] : List T)))] : List T)) ok22 :=
  (Reads.slice Try.underlying22 (by kernel_rfl) (by decide) (fun M _ => (Reads.int Try.underlying3))).conv id (fun _ _ => rfl) (fun _ h => by rw [show Try.prog.bytesOf 3 = 8 from by kernel_rfl] at h; exact h)
abbrev ok68 (l : List (List Int)) : Prop := l.length * 24 ≤ 140737488351232 ∧ l.length ≤ maxLen ∧ ∀ x ∈ l, ok22 x
theorem rd68 (N : Nat) : Reads Try.prog N 68 1 (fun x : List (List Int) => ([.sl .un 1 (x.map (fun x : List Int => ([.sl .un 1 (x.map (fun x : Int => ([.v (.int .i64 x)] : List T)))] : List T)))] : List T)) ok68 :=
  (Reads.slice Try.underlying68 (by kernel_rfl) (by decide) (fun M _ => (rd22 M))).conv id (fun _ _ => rfl) (fun _ h => by rw [show Try.prog.bytesOf 22 = 24 from by kernel_rfl] at h; exact h)
abbrev ok98 (s : Fk) : Prop := ok22 s.cols ∧ (fun i : Int => (Lit.int .i64 i).wf = true) s.tab ∧ (fun i : Int => (Lit.int .i64 i).wf = true) s.key ∧ True
theorem rd98 (N : Nat) : Reads Try.prog N 98 3 fkT ok98 :=
  (Reads.struct Try.underlying98 (ReadsF.cons rfl (by kernel_rfl) (fun M _ => (rd22 M)) (ReadsF.cons rfl (by kernel_rfl) (fun M _ => (Reads.int Try.underlying3)) (ReadsF.cons rfl (by kernel_rfl) (fun M _ => (Reads.int Try.underlying3)) .nil)))).conv (fun p => (⟨p.1, p.2.1, p.2.2.1⟩ : Fk)) (fun _ _ => rfl) (fun _ h => h)
abbrev ok69 (l : List Fk) : Prop := l.length * 40 ≤ 140737488351232 ∧ l.length ≤ maxLen ∧ ∀ x ∈ l, ok98 x
theorem rd69 (N : Nat) : Reads Try.prog N 69 1 (fun x : List Fk => ([.sl .un 3 (x.map fkT)] : List T)) ok69 :=
  (Reads.slice Try.underlying69 (by kernel_rfl) (by decide) (fun M _ => (rd98 M))).conv id (fun _ _ => rfl) (fun _ h => by rw [show Try.prog.bytesOf 98 = 40 from by kernel_rfl] at h; exact h)
abbrev ok23 (l : List Ex) : Prop := l.length * 104 ≤ 140737488351232 ∧ l.length ≤ maxLen ∧ ∀ x ∈ l, okE x
theorem rd23 (N : Nat) : Reads Try.prog N 23 1 (fun x : List Ex => ([.sl .un 8 (x.map exT')] : List T)) ok23 :=
  (Reads.slice Try.underlying23 (by kernel_rfl) (by decide) (fun M _ => (rd27 M))).conv id (fun _ _ => rfl) (fun _ h => by rw [show Try.prog.bytesOf 27 = 104 from by kernel_rfl] at h; exact h)
theorem rd71 (N : Nat) : Reads Try.prog N 71 5 tbT okT :=
  (Reads.struct Try.underlying71 (ReadsF.cons rfl (by kernel_rfl) (fun M _ => (Reads.string Try.underlying9)) (ReadsF.cons rfl (by kernel_rfl) (fun M _ => (rd39 M)) (ReadsF.cons rfl (by kernel_rfl) (fun M _ => (rd68 M)) (ReadsF.cons rfl (by kernel_rfl) (fun M _ => (rd69 M)) (ReadsF.cons rfl (by kernel_rfl) (fun M _ => (rd23 M)) .nil)))))).conv (fun p => (⟨p.1, p.2.1, p.2.2.1, p.2.2.2.1, p.2.2.2.2.1⟩ : Tb)) (fun _ _ => rfl) (fun p h => by
    obtain ⟨h1, h2, h3, h4, h5, _⟩ := h
    refine ⟨?_, ?_, fun c hc => ?_, ?_, fun k hk => ?_, ?_, fun f hf => ?_, ?_, h5.2.2⟩
    · show p.1.size ≤ _; omega
    · have := h2.1; show p.2.1.length ≤ _; omega
    · have := (h2.2.2 c hc).1; show c.nm.size ≤ _; omega
    · have := h3.1; show p.2.2.1.length ≤ _; omega
    · have := (h3.2.2 k hk).1; omega
    · have := h4.1; show p.2.2.2.1.length ≤ _; omega
    · have := (h4.2.2 f hf).1.1; omega
    · have := h5.1; show p.2.2.2.2.1.length ≤ _; omega)
abbrev ok35 (l : List Tb) : Prop := l.length * 112 ≤ 140737488351232 ∧ l.length ≤ maxLen ∧ ∀ x ∈ l, okT x
theorem rd35 (N : Nat) : Reads Try.prog N 35 1 (fun x : List Tb => ([.sl .un 5 (x.map tbT)] : List T)) ok35 :=
  (Reads.slice Try.underlying35 (by kernel_rfl) (by decide) (fun M _ => (rd71 M))).conv id (fun _ _ => rfl) (fun _ h => by rw [show Try.prog.bytesOf 71 = 112 from by kernel_rfl] at h; exact h)
abbrev ok36 (l : List ByteArray) : Prop := l.length * 16 ≤ 140737488351232 ∧ l.length ≤ maxLen ∧ ∀ x ∈ l, (fun s : ByteArray => s.size ≤ 140737488351232) x
theorem rd36 (N : Nat) : Reads Try.prog N 36 1 (fun x : List ByteArray => ([.sl .un 1 (x.map (fun x : ByteArray => ([.v (.string x)] : List T)))] : List T)) ok36 :=
  (Reads.slice Try.underlying36 (by kernel_rfl) (by decide) (fun M _ => (Reads.string Try.underlying9))).conv id (fun _ _ => rfl) (fun _ h => by rw [show Try.prog.bytesOf 9 = 16 from by kernel_rfl] at h; exact h)
abbrev csL (c : Cs) : List E.T := [.sl .un 5 (c.sch.map tbT), .sl .un 1 (c.frm.map i64T), .sl .un 1 (c.al.map sT)] ++ exL c.wh
theorem rd38 (N : Nat) : Reads Try.prog N 38 11 csL okC :=
  (Reads.struct Try.underlying38 (ReadsF.cons rfl (by kernel_rfl) (fun M _ => (rd35 M)) (ReadsF.cons rfl (by kernel_rfl) (fun M _ => (rd22 M)) (ReadsF.cons rfl (by kernel_rfl) (fun M _ => (rd36 M)) (ReadsF.cons rfl (by kernel_rfl) (fun M _ => (rd27 M)) .nil))))).conv (fun p => (⟨p.1, p.2.1, p.2.2.1, p.2.2.2.1⟩ : Cs)) (fun p _ => by
    show _ = [_] ++ ([_] ++ ([_] ++ (exT' p.2.2.2.1 ++ [])))
    rw [exT_eq]; rfl) (fun p h => by
    obtain ⟨h1, h2, h3, h4, _⟩ := h
    refine ⟨?_, h1.2.2, ?_, ?_, fun s hs => ?_, h4⟩
    · have := h1.1; show p.1.length ≤ _; omega
    · have := h2.1; show p.2.1.length ≤ _; omega
    · have := h3.1; show p.2.2.1.length ≤ _; omega
    · have := h3.2.2 s hs; omega)
end Go.Proofs.Ytihlgigaejhilaa.W
