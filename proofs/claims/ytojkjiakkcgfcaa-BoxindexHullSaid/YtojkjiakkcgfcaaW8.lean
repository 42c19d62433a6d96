import Derived.Test.YtojkjiakkcgfcaaB3
namespace Go.Proofs.Ytojkjiakkcgfcaa.W
open Go.RowKit E
set_option linter.unusedVariables false
theorem same_true (a : List Int) (z1 z2 : Nz) (ha : a.length ≤ 1000000) : Pure Try.prog 13 [int64Z z1 a, int64Z z2 a] (bX true) := by
  have := same_any a a z1 z2 ha ha
  rwa [decide_eq_true rfl] at this
theorem wantedL_len {l : List (Int × Bx)} {b : Bx} : (wantedL l b).length ≤ l.length := by
  unfold wantedL; rw [List.length_map]; exact List.length_filter_le _ _
abbrev Small (l : List (Int × Bx)) : Prop := ∀ p ∈ l, p.2.ss.length ≤ 1000000
theorem small_del {l : List (Int × Bx)} (h : Small l) (id : Int) : Small (refDel l id) := fun p hp => h p (List.mem_filter.1 hp).1
theorem small_put {l : List (Int × Bx)} (h : Small l) (id : Int) (b : Bx) (hb : b.ss.length ≤ 1000000) : Small (refPut l id b) := fun p hp => by
  obtain ⟨i, c⟩ := p
  rcases mem_ins.1 hp with hp | ⟨rfl, rfl⟩
  · exact small_del h id _ hp
  · exact hb
abbrev Sub (l : List Opn) (its : List (Int × Bx)) : Prop := ∀ p ∈ its, ∃ o ∈ l, o.b = p.2
theorem sub_del {L : List Opn} {l : List (Int × Bx)} (h : Sub L l) (id : Int) : Sub L (refDel l id) := fun p hp => h p (List.mem_filter.1 hp).1
theorem sub_put {L : List Opn} {l : List (Int × Bx)} (h : Sub L l) (id : Int) (b : Bx) (hb : ∃ o ∈ L, o.b = b) : Sub L (refPut l id b) := fun p hp => by
  obtain ⟨i, c⟩ := p
  rcases mem_ins.1 hp with hp | ⟨rfl, rfl⟩
  · exact sub_del h id _ hp
  · exact hb

set_option maxRecDepth 20000 in
theorem play_sub (l : List Opn) (hl : l.length ≤ 1000000) (hs : ∀ o ∈ l, o.b.ss.length ≤ 1000000) (H : Heap) : E.Spec Try.prog 11 [opL l] H fun x H' => ∃ c f its, x = .tup [.a (.bp c 0), itL .ne its, yes] ∧ Idx H' c f its.length ∧ Rel f its ∧ (Small its ∧ Sub l its) ∧ its.length ≤ l.length := by
  refine Spec.enter Try.func11 rfl ?_
  refine AW.wk (Wk.keep 74 [(0, .c (opL l))] [] (H) rfl ⟨rfl, trivial⟩ trivial (fun _ _ h => h) rfl) ?_
  refine AW.seq ?_
  refine AW.reg ?_
  refine SeqK.q (q_asC rfl rfl) rfl rfl rfl ?_
  refine SeqK.q (q_asC rfl rfl) rfl rfl rfl ?_
  refine SeqK.q (q_asC rfl rfl) rfl rfl rfl ?_
  refine SeqK.nil ?_
  refine AW.seq ?_
  refine AW.reg ?_
  refine SeqK.callE rfl rfl rfl rfl Fx.fn17 rfl (new_any H) (fun _ _ h => by obtain ⟨_, h, _⟩ := h; rw [h]; rfl) (fun x11 H11 q11 => ?_)
  obtain ⟨c, rfl, I0, hfr⟩ := q11
  refine SeqK.q (q_asC rfl rfl) rfl rfl rfl ?_
  refine SeqK.nil ?_
  refine AW.seq ?_
  refine AW.reg ?_
  refine SeqK.q (q_asC rfl rfl) rfl rfl rfl ?_
  refine SeqK.nil ?_
  refine AW.seq ?_
  refine AW.seq ?_
  refine AW.reg ?_
  refine SeqK.q (q_mvC rfl rfl) rfl rfl rfl ?_
  refine SeqK.q (q_eqlN rfl rfl rfl Fx.nk25) rfl rfl rfl ?_
  refine SeqK.nil ?_
  refine AW.condF rfl ?_
  refine AW.skip ?_
  refine AW.seq ?_
  refine AW.seq ?_
  refine AW.reg ?_
  refine SeqK.q (q_mvC rfl rfl) rfl rfl rfl ?_
  refine SeqK.q (q_len rfl Fx.un22 rfl) rfl rfl rfl ?_
  refine SeqK.q (q_mvC rfl rfl) rfl rfl rfl ?_
  refine SeqK.nil ?_
  refine AW.block ?_
  refine AW.xw 6 rfl (XW.nil (sz := 3)) ?_
  refine AW.loop (fun (i : Nat) s => ∃ (Hx : Heap) (f : Int → Option Bx) (its : List (Int × Bx)), (i ≤ l.length ∧ Idx Hx c f its.length ∧ Rel f its ∧ (Small its ∧ Sub l its) ∧ its.length ≤ i) ∧ s = ⟨74, sp [(5, .c (.a (.bp c 0))), (6, .c (itL .ne its)), (14, .c (opL l)), (15, iX .i64 ((l.map opT).length : Nat)), (16, iX .i64 ((i : Nat) : Int))], lv [], Hx⟩) (fun i => l.length - i) 0 ⟨_, Wk.keep 74 [(5, .c (.a (.bp c 0))), (6, .c (itL .ne ([]))), (14, .c (opL l)), (15, iX .i64 ((l.map opT).length : Nat)), (16, iX .i64 ((((0 : Nat)) : Nat) : Int))] [] ((H11)) rfl ⟨rfl, rfl, rfl, rfl, rfl, trivial⟩ trivial (fun _ _ h => h) rfl, H11, fun _ => none, [], ⟨Nat.zero_le _, I0, .nil, ⟨fun p hp => by simp at hp, fun p hp => by simp at hp⟩, Nat.le_refl _⟩, rfl⟩ (fun i s hs => ?_)
  obtain ⟨Hx, f, its, ⟨hi, I, R, ⟨hsm, hsub⟩, hil⟩, rfl⟩ := hs
  refine AW.seq ?_
  refine AW.reg ?_
  refine SeqK.q (q_lss rfl rfl rfl) rfl rfl rfl ?_
  refine SeqK.nil ?_
  refine AW.seq ?_
  refine AW.condD rfl (fun h17 => ?_) (fun h17 => ?_)
  ·
    have hka : i < l.length := by simp at h17; omega
    have hsz := hs _ (List.getElem_mem hka)
    refine AW.skip ?_
    refine AW.seq ?_
    refine AW.block ?_
    refine AW.seq ?_
    refine AW.reg ?_
    refine SeqK.q (q_index _ rfl Fx.sl22 rfl rfl (by omega) (idx_map hka)) rfl rfl rfl ?_
    refine SeqK.q (q_load (.g [_, _, _, _]) rfl Fx.ty34 rfl rfl rfl) rfl rfl rfl ?_
    refine SeqK.r (b_alloc (r := [_, _, _, _]) rfl rfl Fx.ze34 rfl rfl rfl rfl) rfl ?_
    refine SeqK.r (b_store (r := [_, _, _, _]) rfl rfl Fx.ty34 rfl rfl rfl rfl rfl rfl) rfl ?_
    refine SeqK.nil ?_
    refine AW.seq ?_
    refine AW.reg ?_
    refine SeqK.q (q_fieldL _ rfl Fx.fl34_0 rfl rfl) rfl rfl rfl ?_
    refine SeqK.r (b_load (r := .a _) rfl Fx.ty5 rfl rfl rfl rfl rfl rfl) rfl ?_
    refine SeqK.q (q_rem rfl rfl rfl (by decide)) rfl rfl rfl ?_
    refine SeqK.nil ?_
    refine AW.block ?_
    refine AW.seq ?_
    refine AW.seq ?_
    refine AW.reg ?_
    refine SeqK.q (q_eql rfl rfl rfl) rfl rfl rfl ?_
    refine SeqK.q (q_asC rfl rfl) rfl rfl rfl ?_
    refine SeqK.nil ?_
    refine AW.condD rfl (fun h37 => ?_) (fun h37 => ?_)
    ·
      refine AW.skip ?_
      refine AW.condD rfl (fun h37 => ?_) (fun h37 => ?_)
      ·
        refine AW.seq ?_
        refine AW.draw Fx.mo ?_
        refine LexK.q (q_mvC rfl rfl) rfl rfl rfl ?_
        refine LexK.q (q_fieldL _ rfl Fx.fl34_1 rfl rfl) rfl rfl rfl ?_
        refine LexK.r (b_load (r := .a _) rfl Fx.ty2 rfl rfl rfl rfl rfl rfl) rfl ?_
        refine LexK.q (q_fieldL _ rfl Fx.fl34_2 rfl rfl) rfl rfl rfl ?_
        refine LexK.r (b_load (r := .g [_, _]) rfl Fx.ty32 rfl rfl rfl rfl rfl rfl) rfl ?_
        refine LexK.q (q_call _ rfl Fx.fn15 rfl (to_any _ _ hsz) rfl) rfl rfl rfl ?_
        refine LexK.callE rfl rfl rfl rfl Fx.fn18 rfl (put_any _ _ _ _ _ _ _ I hsz) (fun _ _ h => by rw [h.1]; rfl) (by kernel_rfl) (by kernel_rfl) (fun x46 H46 q46 => ?_)
        obtain ⟨rfl, I⟩ := q46
        refine LexK.nil (by kernel_rfl) ?_
        refine AW.reg ?_
        refine SeqK.q (q_mvC rfl rfl) rfl rfl rfl ?_
        refine SeqK.q (q_fieldL _ rfl Fx.fl34_1 rfl rfl) rfl rfl rfl ?_
        refine SeqK.r (b_load (r := .a _) rfl Fx.ty2 rfl rfl rfl rfl rfl rfl) rfl ?_
        refine SeqK.q (q_fieldL _ rfl Fx.fl34_2 rfl rfl) rfl rfl rfl ?_
        refine SeqK.r (b_load (r := .g [_, _]) rfl Fx.ty32 rfl rfl rfl rfl rfl rfl) rfl ?_
        refine SeqK.q (q_call _ rfl Fx.fn21 rfl (refPut_any _ _ _ _ (by omega)) rfl) rfl rfl rfl ?_
        refine SeqK.q (q_asC rfl rfl) rfl rfl rfl ?_
        refine SeqK.nil ?_
        refine AW.reg ?_
        refine SeqK.q (q_add _ rfl rfl rfl (w64 (by omega) (by omega))) rfl rfl rfl ?_
        refine SeqK.q (q_mvC rfl rfl) rfl rfl rfl ?_
        refine SeqK.nil ?_
        exact ⟨i + 1, _, Wk.keep 74 [(5, .c (.a (.bp c 0))), (6, .c (itL .ne (_))), (14, .c (opL l)), (15, iX .i64 ((l.map opT).length : Nat)), (16, iX .i64 (((i + 1) : Nat) : Int))] [] ((_)) rfl ⟨rfl, rfl, rfl, rfl, rfl, trivial⟩ trivial (fun _ _ h => h) rfl, by omega, _, _, _, ⟨by omega, by rw [R.put_len]; exact I, R.put _ _, ⟨small_put hsm _ _ hsz, sub_put hsub _ _ ⟨l[i], List.getElem_mem hka, rfl⟩⟩, by rw [R.put_len]; split <;> omega⟩, rfl⟩
      ·
        exact (h37 (by assumption)).elim
    ·
      refine AW.reg ?_
      refine SeqK.q (q_eql rfl rfl rfl) rfl rfl rfl ?_
      refine SeqK.q (q_asC rfl rfl) rfl rfl rfl ?_
      refine SeqK.nil ?_
      refine AW.condD rfl (fun h37 => ?_) (fun h37 => ?_)
      ·
        refine AW.seq ?_
        refine AW.draw Fx.mo ?_
        refine LexK.q (q_mvC rfl rfl) rfl rfl rfl ?_
        refine LexK.q (q_fieldL _ rfl Fx.fl34_1 rfl rfl) rfl rfl rfl ?_
        refine LexK.r (b_load (r := .a _) rfl Fx.ty2 rfl rfl rfl rfl rfl rfl) rfl ?_
        refine LexK.q (q_fieldL _ rfl Fx.fl34_2 rfl rfl) rfl rfl rfl ?_
        refine LexK.r (b_load (r := .g [_, _]) rfl Fx.ty32 rfl rfl rfl rfl rfl rfl) rfl ?_
        refine LexK.q (q_call _ rfl Fx.fn15 rfl (to_any _ _ hsz) rfl) rfl rfl rfl ?_
        refine LexK.callE rfl rfl rfl rfl Fx.fn18 rfl (put_any _ _ _ _ _ _ _ I hsz) (fun _ _ h => by rw [h.1]; rfl) (by kernel_rfl) (by kernel_rfl) (fun x46 H46 q46 => ?_)
        obtain ⟨rfl, I⟩ := q46
        refine LexK.nil (by kernel_rfl) ?_
        refine AW.reg ?_
        refine SeqK.q (q_mvC rfl rfl) rfl rfl rfl ?_
        refine SeqK.q (q_fieldL _ rfl Fx.fl34_1 rfl rfl) rfl rfl rfl ?_
        refine SeqK.r (b_load (r := .a _) rfl Fx.ty2 rfl rfl rfl rfl rfl rfl) rfl ?_
        refine SeqK.q (q_fieldL _ rfl Fx.fl34_2 rfl rfl) rfl rfl rfl ?_
        refine SeqK.r (b_load (r := .g [_, _]) rfl Fx.ty32 rfl rfl rfl rfl rfl rfl) rfl ?_
        refine SeqK.q (q_call _ rfl Fx.fn21 rfl (refPut_any _ _ _ _ (by omega)) rfl) rfl rfl rfl ?_
        refine SeqK.q (q_asC rfl rfl) rfl rfl rfl ?_
        refine SeqK.nil ?_
        refine AW.reg ?_
        refine SeqK.q (q_add _ rfl rfl rfl (w64 (by omega) (by omega))) rfl rfl rfl ?_
        refine SeqK.q (q_mvC rfl rfl) rfl rfl rfl ?_
        refine SeqK.nil ?_
        exact ⟨i + 1, _, Wk.keep 74 [(5, .c (.a (.bp c 0))), (6, .c (itL .ne (_))), (14, .c (opL l)), (15, iX .i64 ((l.map opT).length : Nat)), (16, iX .i64 (((i + 1) : Nat) : Int))] [] ((_)) rfl ⟨rfl, rfl, rfl, rfl, rfl, trivial⟩ trivial (fun _ _ h => h) rfl, by omega, _, _, _, ⟨by omega, by rw [R.put_len]; exact I, R.put _ _, ⟨small_put hsm _ _ hsz, sub_put hsub _ _ ⟨l[i], List.getElem_mem hka, rfl⟩⟩, by rw [R.put_len]; split <;> omega⟩, rfl⟩
      ·
        refine AW.seq ?_
        refine AW.reg ?_
        refine SeqK.q (q_eql rfl rfl rfl) rfl rfl rfl ?_
        refine SeqK.q (q_asC rfl rfl) rfl rfl rfl ?_
        refine SeqK.nil ?_
        refine AW.condD rfl (fun h53 => ?_) (fun h53 => ?_)
        ·
          refine AW.seq ?_
          refine AW.reg ?_
          refine SeqK.q (q_mvC rfl rfl) rfl rfl rfl ?_
          refine SeqK.q (q_fieldL _ rfl Fx.fl34_1 rfl rfl) rfl rfl rfl ?_
          refine SeqK.r (b_load (r := .a _) rfl Fx.ty2 rfl rfl rfl rfl rfl rfl) rfl ?_
          refine SeqK.q (q_call _ rfl Fx.fn19 rfl (refDel_any _ _ _ (by omega)) rfl) rfl rfl rfl ?_
          refine SeqK.q (q_mvT rfl rfl) rfl rfl rfl ?_
          refine SeqK.q (q_extract _ rfl rfl rfl) rfl rfl rfl ?_
          refine SeqK.q (q_extract _ rfl rfl rfl) rfl rfl rfl ?_
          refine SeqK.q (q_asC rfl rfl) rfl rfl rfl ?_
          refine SeqK.q (q_asC rfl rfl) rfl rfl rfl ?_
          refine SeqK.nil ?_
          refine AW.seq ?_
          refine AW.reg ?_
          refine SeqK.q (q_mvC rfl rfl) rfl rfl rfl ?_
          refine SeqK.q (q_asC rfl rfl) rfl rfl rfl ?_
          refine SeqK.nil ?_
          refine AW.seq ?_
          refine AW.reg ?_
          refine SeqK.q (q_mvC rfl rfl) rfl rfl rfl ?_
          refine SeqK.q (q_fieldL _ rfl Fx.fl34_1 rfl rfl) rfl rfl rfl ?_
          refine SeqK.r (b_load (r := .a _) rfl Fx.ty2 rfl rfl rfl rfl rfl rfl) rfl ?_
          refine SeqK.callE rfl rfl rfl rfl Fx.fn20 rfl (del_any _ _ _ _ _ I) (fun _ _ h => by rw [h.1]; rfl) (fun x66 H66 q66 => ?_)
          obtain ⟨rfl, I⟩ := q66
          refine SeqK.q (q_mvC rfl rfl) rfl rfl rfl ?_
          refine SeqK.q (q_neqB rfl Fx.un4 rfl rfl) rfl rfl rfl ?_
          refine SeqK.nil ?_
          refine AW.condD rfl (fun h68 => ?_) (fun h68 => ?_)
          ·
            exact absurd (R.has l[i].id) h68
          ·
            refine AW.skip ?_
            refine AW.reg ?_
            refine SeqK.q (q_add _ rfl rfl rfl (w64 (by omega) (by omega))) rfl rfl rfl ?_
            refine SeqK.q (q_mvC rfl rfl) rfl rfl rfl ?_
            refine SeqK.nil ?_
            exact ⟨i + 1, _, Wk.keep 74 [(5, .c (.a (.bp c 0))), (6, .c (itL .ne (_))), (14, .c (opL l)), (15, iX .i64 ((l.map opT).length : Nat)), (16, iX .i64 (((i + 1) : Nat) : Int))] [] ((_)) rfl ⟨rfl, rfl, rfl, rfl, rfl, trivial⟩ trivial (fun _ _ h => h) rfl, by omega, _, _, _, ⟨by omega, by rw [R.del_len]; exact I, R.del _, ⟨small_del hsm _, sub_del hsub _⟩, by have := refDel_len (l := its) (id := l[i].id); omega⟩, rfl⟩
        ·
          refine AW.seq ?_
          refine AW.draw Fx.mo ?_
          refine LexK.q (q_mvC rfl rfl) rfl rfl rfl ?_
          refine LexK.q (q_fieldL _ rfl Fx.fl34_2 rfl rfl) rfl rfl rfl ?_
          refine LexK.r (b_load (r := .g [_, _]) rfl Fx.ty32 rfl rfl rfl rfl rfl rfl) rfl ?_
          refine LexK.q (q_call _ rfl Fx.fn15 rfl (to_any _ _ hsz) rfl) rfl rfl rfl ?_
          refine LexK.r (g_call rfl Fx.fn14 rfl (cand_pure _ _ _ _ _ _ _ I R (by omega) hsz) rfl rfl rfl) rfl ?_
          refine LexK.q (q_mvC rfl rfl) rfl rfl rfl ?_
          refine LexK.q (q_fieldL _ rfl Fx.fl34_2 rfl rfl) rfl rfl rfl ?_
          refine LexK.r (b_load (r := .g [_, _]) rfl Fx.ty32 rfl rfl rfl rfl rfl rfl) rfl ?_
          refine LexK.q (q_call _ rfl Fx.fn15 rfl (to_any _ _ hsz) rfl) rfl rfl rfl ?_
          refine LexK.q (q_call _ rfl Fx.fn16 rfl (wanted_any its _ .ne .un (by omega) hsm hsz) rfl) rfl rfl rfl ?_
          refine LexK.q (q_call _ rfl Fx.fn13 rfl (same_true _ _ _ (Nat.le_trans wantedL_len (by omega))) rfl) rfl rfl rfl ?_
          refine LexK.q (q_not rfl rfl) rfl rfl rfl ?_
          refine LexK.nil (by kernel_rfl) ?_
          refine AW.condF rfl ?_
          refine AW.skip ?_
          refine AW.reg ?_
          refine SeqK.q (q_add _ rfl rfl rfl (w64 (by omega) (by omega))) rfl rfl rfl ?_
          refine SeqK.q (q_mvC rfl rfl) rfl rfl rfl ?_
          refine SeqK.nil ?_
          exact ⟨i + 1, _, Wk.keep 74 [(5, .c (.a (.bp c 0))), (6, .c (itL .ne (_))), (14, .c (opL l)), (15, iX .i64 ((l.map opT).length : Nat)), (16, iX .i64 (((i + 1) : Nat) : Int))] [] ((_)) rfl ⟨rfl, rfl, rfl, rfl, rfl, trivial⟩ trivial (fun _ _ h => h) rfl, by omega, _, _, _, ⟨by omega, I, R, ⟨hsm, hsub⟩, by omega⟩, rfl⟩
  ·
    refine AW.exit ?_
    refine eth_e ?_
    refine eth_e ?_
    refine exit_here ?_
    refine AW.seq ?_
    refine AW.reg ?_
    refine SeqK.q (q_mvC rfl rfl) rfl rfl rfl ?_
    refine SeqK.q (q_mvC rfl rfl) rfl rfl rfl ?_
    refine SeqK.q (q_asC rfl rfl) rfl rfl rfl ?_
    refine SeqK.q (q_asC rfl rfl) rfl rfl rfl ?_
    refine SeqK.q (q_asC rfl rfl) rfl rfl rfl ?_
    refine SeqK.nil ?_
    refine AW.ret ?_
    exact fin_x (x := .tup [_, _, _]) (_) (.tmp rfl (.tmp rfl (.tmp rfl .nil))) rfl (fun _ _ h => h) (⟨c, f, its, rfl, I, R, ⟨hsm, hsub⟩, by omega⟩)

theorem play_any (l : List Opn) (hl : l.length ≤ 1000000) (hs : ∀ o ∈ l, o.b.ss.length ≤ 1000000) (H : Heap) : E.Spec Try.prog 11 [opL l] H fun x H' => ∃ c f its, x = .tup [.a (.bp c 0), itL .ne its, yes] ∧ Idx H' c f its.length ∧ Rel f its ∧ Small its ∧ its.length ≤ l.length :=
  (play_sub l hl hs H).mono fun x H' ⟨c, f, its, h1, h2, h3, h4, h5⟩ => ⟨c, f, its, h1, h2, h3, h4.1, h5⟩
end Go.Proofs.Ytojkjiakkcgfcaa.W
