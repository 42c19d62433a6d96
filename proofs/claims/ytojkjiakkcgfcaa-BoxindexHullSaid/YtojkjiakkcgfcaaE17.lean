/- Loops over maps; tests for nil. Plain theorems, for any program. -/
import Derived.Test.YtojkjiakkcgfcaaE16
namespace Go.Proofs.Ytojkjiakkcgfcaa.E
open Go.RowKit
set_option linter.unusedVariables false

section
variable {P : Program} {all : Array Oper} {o : Oper} {s s' : S} {K : S → Prop} {rest : List Oper}
variable {t kt et : TypeId} {x y z : Operand} {kk : KK} {es : List ME} {ck k d r n since c0 : Nat} {seen : List Nat}
/-- 'range' over a map with a name -/
theorem l_range (ho : o.op = .range t x) (hdst : o.dst = some d) (ht : P.underlying t = some (.map kt et)) (hx : s.eval x = .c (.a (.mp k))) (hH : s.H k = some (.map kk es ck)) (hL : s.L d = none) (hd : inB o.dst s.n = true) :
    LR P o (.b d :: .h :: lk o) [.t d, .b d] s ((s.setOwn (.l d) (.iter k ck [] ck)).put (some d) (.lp d 0)) := by
  refine ⟨(setOwn_t s (.l d) (.iter k ck [] ck)).2, new_out, fun s1 hl hs c a w g => ?_⟩
  rw [over_new]
  have hL1 : s1.L d = none := Eq.trans (hs (.b d) (by simp)) hL
  have hH1 : s1.own (.e k) = some (.map kk es ck) := Eq.trans (congrFun (hs .h (by simp)) k) hH
  obtain ⟨b, nb, hb, ents, h1, h2⟩ := g.conc.obj (.e k) _ hH1 (by simp [AO.empty])
  have hb : c.β k = some (b, nb) := hb
  have hxv := g.eval x
  rw [evs hs (fun _ h => List.mem_cons_of_mem _ (List.mem_cons_of_mem _ h)) (by rw [ho]; simp [Op.operands]), hx] at hxv
  have hv : a.eval x = .map (some b) := by
    generalize a.eval x = v at hxv
    cases hxv with | mp h => rw [hb] at h; cases h; rfl
  have hrun : (execOp a.eval o).run P w = .ok (.value (.pointer (some ⟨w.heap.size, 0, none⟩))) (w.alloc (.mapIter (some b) ck #[] ck)) := by
    simp [execOp, ho, hv, Instr.range, run_underlying ht, MapKept.run_getObj_map h1]
  unfold Oper.wp
  rw [hrun]
  simp only [Oper.upon, hdst]
  obtain ⟨g', x'⟩ := g.newL (d := d) (x := .iter k ck [] ck) (n := 0) (Mk.alloc g.memOk (.mapIter (some b) ck #[] ck)) hL1 (Nat.le_refl _) ⟨b, nb, hb, heap_new w _⟩
  exact ⟨_, g'.put (some d) (by rw [hdst] at hd; have e : s1.n = s.n := hl; simpa [S.setOwn, e] using hd) (x := .lp d 0) (by simp [RepX, upd_same]) (fun d' e => by injection e with e; subst e; simp [S.setOwn, upd_same]), by rw [own_put]; exact x'⟩
theorem l_range0 (ho : o.op = .range t x) (hdst : o.dst = some d) (ht : P.underlying t = some (.map kt et)) (hx : s.eval x = tv (.map none)) (hL : s.L d = none) (hd : inB o.dst s.n = true) :
    LR P o (.b d :: lk o) [.t d, .b d] s ((s.setOwn (.l d) .iter0).put (some d) (.lp d 0)) :=
  l_new hdst hL hd rfl fun c w a hm hrep => by
    have h0 := hrep x (by rw [ho]; simp [Op.operands])
    rw [hx] at h0
    have h0 := rep_tv h0
    refine ⟨.pointer (some ⟨w.heap.size, 0, none⟩), w.alloc (.mapIter none 0 #[] 0), c, w.heap.size, 0, by simp [execOp, ho, h0, Instr.range, run_underlying ht], Mk.alloc hm _, Nat.le_refl _, heap_new w _, ?_⟩
    simp [RepX, upd_same]
def keyC : Value → C
  | .agg cs => .g (cs.toList.map litA)
  | u => .a (.t (.v u))
theorem keyC_rep {μ : Mem} {β : Pos} {kk : KK} {u : Value} (h : kok kk u = true) : RepC μ β (keyC u) u := by
  cases u with
  | agg cs =>
    cases kk with
    | ints q n =>
      simp only [kok, Bool.and_eq_true, List.all_eq_true] at h
      refine ⟨cs, rfl, by simp, fun i x v h1 h2 => ?_⟩
      rw [List.getElem?_map, h2] at h1
      simp only [Option.map_some, Option.some.injEq] at h1
      subst h1
      have := h.2 v (List.mem_of_getElem? h2)
      cases v <;> simp at this
      exact .t (.v rfl)
    | _ => simp [kok] at h
  | _ =>
    cases kk <;> simp [kok] at h
    all_goals exact RepA.t (.v rfl)
theorem leftOf_mem {ents : Array MapEntry} {seen : List Nat} {e : MapEntry} : e ∈ (leftOf ents seen.toArray).toList ↔ e ∈ ents.toList ∧ e.born ∉ seen := by
  simp [leftOf]
theorem mapIter_nomem {c : Ctx} {w : World} {b : Nat} {m : Option Nat} {i j : Nat} {a : Array Nat} (hm : MemOk c w) (hb : w.heap[b]? = some (.mapIter m i a j)) (q : Nat) : c.μ b q = none := by
  cases h : c.μ b q with
  | none => rfl
  | some u => have := hm.mem b q u h; simp [World.cell?, hb] at this
theorem OneBlk.drew (w : World) (b : Nat) (x : Obj) : OneBlk w (ChangeMaps.setBlock w.drew b x) b :=
  ⟨rfl, rfl, rfl, by simp [ChangeMaps.setBlock], fun j hj => by simp only [ChangeMaps.setBlock]; rw [Array.getElem?_setIfInBounds_ne (Ne.symm hj)]; rfl⟩
/-- the next entry, whichever it is -/
theorem OpW.next {T' : Nat → X} {L : Nat → Option AO} {H : Heap} (ho : o.op = .next x false) (hg : o.guard = none) (hdst : o.dst = some d) (hd : Nat.blt d n = true) (hx : S.eval ⟨n, T', L, H⟩ x = .lp r 0) (hL : L r = some (.iter k since seen c0)) (hH : H k = some (.map kk es ck)) (hs : ∀ m ∈ es, m.b < since) (hc : since ≤ c0)
    (hdone : (∀ m ∈ es, m.b ∈ seen) → K ⟨n, upd T' d (.tup [.a (.t (.v (.bool false)))]), L, H⟩)
    (hmore : ∀ m ∈ es, m.b ∉ seen → K ⟨n, upd T' d (.tup [.a (.t (.v (.bool true))), keyC m.k, m.x]), upd L r (some (.iter k since (seen ++ [m.b]) ck)), H⟩) : OpW P all o K ⟨n, T', L, H⟩ := by
  intro c a w g
  unfold opRun
  rw [if_pos (by simp [Region.wanted, hg])]
  refine wp_to ?_
  obtain ⟨b, nb, hb, ents, h1, h2⟩ := g.conc.obj (.e k) _ hH (by simp [AO.empty])
  have hb : c.β k = some (b, nb) := hb
  obtain ⟨rb, rn, hr, bm, nm, h3, h4⟩ := g.conc.obj (.l r) _ hL (by simp [AO.empty])
  have hrl : c.lam r = (rb, rn) := by injection hr
  rw [hb] at h3; injection h3 with h3; injection h3 with e1 e2; subst e1 e2
  have hxv := g.eval x
  rw [hx] at hxv
  have hxv : a.eval x = .pointer (some ⟨(c.lam r).1, 0, none⟩) := hxv
  rw [hrl] at hxv
  have hold : ∀ e ∈ ents.toList, e.born < since := fun e he => by
    obtain ⟨j, hj⟩ := List.getElem?_of_mem he
    obtain ⟨m, h5, _, h6, _⟩ := h2.at hj
    rw [h6]; exact hs m (List.mem_of_getElem? h5)
  rcases run_next_at (P := P) w o.type rb b since c0 seen.toArray ents ck h4 h1 hold hc with ⟨h5, hrun⟩ | ⟨e, he, w1, hw1, hrun⟩
  · have hall : ∀ m ∈ es, m.b ∈ seen := fun m hm => by
      obtain ⟨e, he, _, h6, _⟩ := h2.at' hm
      rcases Classical.em (m.b ∈ seen) with h | h
      · exact h
      · have : e ∈ (leftOf ents seen.toArray).toList := leftOf_mem.2 ⟨he, by rw [h6]; exact h⟩
        rw [Array.eq_empty_of_size_eq_zero h5] at this
        simp at this
    unfold Oper.wp
    simp only [execOp, ho, hxv, Sem.run_bind, hrun, Result.andThen_ok, Sem.run_pure, Oper.upon]
    refine ⟨_, c, hdone hall, ?_, .refl _ _ _⟩
    have := g.put (some d) (x := .tup [.a (.t (.v (.bool false)))]) (v := .tuple #[.bool false]) (by simpa [inB] using inb hd) ⟨_, rfl, .cons (.t (.v rfl)) .nil⟩ (fun _ h => by cases h)
    rw [hdst]; exact this
  · obtain ⟨he1, he2⟩ := leftOf_mem.1 he
    obtain ⟨j, hj⟩ := List.getElem?_of_mem he1
    obtain ⟨m, h5, h6, h7, h8⟩ := h2.at hj
    have hm := List.mem_of_getElem? h5
    have hone : OneBlk w (ChangeMaps.setBlock w1 rb (.mapIter (some b) since (seen.toArray.push e.born) ck)) rb := by
      rcases hw1 with rfl | rfl
      · exact .setBlock _ _ _
      · exact .drew _ _ _
    have hrlt : rb < w.heap.size := (Array.getElem?_eq_some_iff.1 h4).1
    have hat : (ChangeMaps.setBlock w1 rb (.mapIter (some b) since (seen.toArray.push e.born) ck)).heap[rb]? = some (.mapIter (some b) since (seen.toArray.push e.born) ck) := by
      rcases hw1 with rfl | rfl
      · exact setBlock_at hrlt
      · exact setBlock_at hrlt
    obtain ⟨g', x'⟩ := g.write (c' := c) (w' := ChangeMaps.setBlock w1 rb (.mapIter (some b) since (seen.toArray.push e.born) ck)) (i := .l r) (x' := .iter k since (seen ++ [m.b]) ck) hL (by simp [AO.empty]) hr hone.os hone.tape hone.output hone.size hone.blk rfl rfl (fun _ _ _ h => h) (fun _ _ _ h => .inl h) (fun o u h => by rw [mapIter_nomem g.memOk h4 o] at h; cases h)
      ⟨b, nb, hb, by rw [hat, h7]; simp⟩
    unfold Oper.wp
    simp only [execOp, ho, hxv, Sem.run_bind, hrun, Result.andThen_ok, Sem.run_pure, Oper.upon]
    refine ⟨_, c, hmore m hm (by rw [← h7]; exact he2), ?_, x'⟩
    have := g'.put (some d) (x := .tup [.a (.t (.v (.bool true))), keyC m.k, m.x]) (v := .tuple #[.bool true, e.key, e.val]) (by have h9 := inb' (o := o) hdst hd; rw [hdst] at h9; exact h9) ⟨_, rfl, .cons (.t (.v rfl)) (.cons (by rw [h6]; exact keyC_rep (h2.key m hm)) (.cons h8 .nil))⟩ (fun _ h => by cases h)
    rw [hdst]; exact this
theorem SeqK.next {T' : Nat → X} {L : Nat → Option AO} {H : Heap} (ho : o.op = .next x false) (hg : o.guard = none) (hdst : o.dst = some d) (hd : Nat.blt d n = true) (hx : S.eval ⟨n, T', L, H⟩ x = .lp r 0) (hL : L r = some (.iter k since seen c0)) (hH : H k = some (.map kk es ck)) (hs : ∀ m ∈ es, m.b < since) (hc : since ≤ c0)
    (hdone : (∀ m ∈ es, m.b ∈ seen) → SeqK P all K rest ⟨n, upd T' d (.tup [.a (.t (.v (.bool false)))]), L, H⟩)
    (hmore : ∀ m ∈ es, m.b ∉ seen → SeqK P all K rest ⟨n, upd T' d (.tup [.a (.t (.v (.bool true))), keyC m.k, m.x]), upd L r (some (.iter k since (seen ++ [m.b]) ck)), H⟩) : SeqK P all K (o :: rest) ⟨n, T', L, H⟩ := SeqK.any (OpW.next ho hg hdst hd hx hL hH hs hc hdone hmore)
/-- a map that is nil has none -/
theorem b_next0 (ho : o.op = .next x false) (hx : s.eval x = .lp r 0) (hL : s.L r = some .iter0) (hd : inB o.dst s.n = true) : LR P o (.b r :: lk o) (dstT o) s (s.put o.dst (.tup [.a (.t (.v (.bool false)))])) :=
  .q (pre := fun c w => ORep c w .iter0 (c.lam r).1 (c.lam r).2) (.of_same (fun _ h => by cases h) fun c w a hm hp hrep => by
    have h0 := hrep x (by rw [ho]; simp [Op.operands])
    rw [hx] at h0
    have h0 : a.eval x = .pointer (some ⟨(c.lam r).1, 0, none⟩) := h0
    have hp : w.heap[(c.lam r).1]? = some (.mapIter none 0 #[] 0) := hp
    exact ⟨.tuple #[.bool false], by simp [execOp, ho, h0, Instr.next, getObj, Sem.run, hp, Result.andThen], _, rfl, .cons (.t (.v rfl)) .nil⟩) (fun ℓ h => by simp [lk, h]) hd
    fun s1 hs c a w g => by
      have hb : s1.L r = some .iter0 := Eq.trans (hs (.b r) (by simp)) hL
      obtain ⟨b, n, h1, h2⟩ := g.conc.obj (.l r) _ hb (by simp [AO.empty])
      injection h1 with h1
      rw [h1]; exact h2
theorem l_entry {m : ME} (ho : o.op = .entry x) (hx : s.eval x = .lp r 0) (hL : s.L r = some (.iter k since (seen ++ [m.b]) ck)) (hH : s.H k = some (.map kk es ck)) (hm : m ∈ es) (hd : inB o.dst s.n = true) :
    LR P o (.b r :: .h :: lk o) (dstT o) s (s.put o.dst (.tup [keyC m.k, m.x])) :=
  .q (pre := fun c w => ORep c w (.iter k since (seen ++ [m.b]) ck) (c.lam r).1 (c.lam r).2 ∧ ∃ b n, c.β k = some (b, n) ∧ ORep c w (.map kk es ck) b n) (.of_same (fun _ h => by cases h) fun c w a hmm hp hrep => by
    have h0 := hrep x (by rw [ho]; simp [Op.operands])
    rw [hx] at h0
    have h0 : a.eval x = .pointer (some ⟨(c.lam r).1, 0, none⟩) := h0
    obtain ⟨⟨bm, nm, h1, h2⟩, b, nb, hb, ents, h3, h4⟩ := hp
    rw [hb] at h1; injection h1 with h1; injection h1 with e1 e2; subst e1 e2
    obtain ⟨e, he, h5, h6, h7⟩ := h4.at' hm
    have hnd : (ents.toList.map (·.born)).Nodup := by
      have : ents.toList.map (·.born) = es.map (·.b) := by
        apply List.ext_getElem?
        intro i
        rw [List.getElem?_map, List.getElem?_map]
        cases h8 : ents.toList[i]? with
        | none =>
          have : es[i]? = none := by
            rw [List.getElem?_eq_none_iff] at h8 ⊢
            rw [h4.len]; simpa using h8
          rw [this]; rfl
        | some e' =>
          obtain ⟨m', h9, _, h10, _⟩ := h4.at h8
          rw [h9]; simp [h10]
      rw [this]; exact h4.inj
    have hrun := run_entry_at (P := P) w (c.lam r).1 b since seen.toArray ents ck e (by rw [h2, h6]; simp) h3 he hnd
    refine ⟨.tuple #[e.key, e.val], by simp only [execOp, ho, h0, Sem.run_bind, hrun]; rfl, _, rfl, .cons (by rw [h5]; exact keyC_rep (h4.key m hm)) (.cons h7 .nil)⟩) (fun ℓ h => by simp [lk, h]) hd
    fun s1 hs c a w g => by
      have hb : s1.L r = some (.iter k since (seen ++ [m.b]) ck) := Eq.trans (hs (.b r) (by simp)) hL
      obtain ⟨b, n, h1, h2⟩ := g.conc.obj (.l r) _ hb (by simp [AO.empty])
      injection h1 with h1
      have hb2 : s1.H k = some (.map kk es ck) := Eq.trans (congrFun (hs .h (by simp)) k) hH
      exact ⟨by rw [h1]; exact h2, g.conc.obj (.e k) _ hb2 (by simp [AO.empty])⟩

/-! ### tests for nil -/
inductive NK where
  | sl | mp | pt | fn
def nkB (P : Program) (t : TypeId) : NK → Bool
  | .sl => match P.underlying t with | some (.slice _) => true | _ => false
  | .mp => match P.underlying t with | some (.map _ _) => true | _ => false
  | .pt => match P.underlying t with | some (.pointer _) => true | _ => false
  | .fn => match P.underlying t with | some (.func _ _ _) => true | _ => false
def NV : NK → Bool → Value → Prop
  | .sl, true, v => ∃ n c, v = .slice none n c
  | .sl, false, v => ∃ a n c, v = .slice (some a) n c
  | .mp, true, v => v = .map none
  | .mp, false, v => ∃ b, v = .map (some b)
  | .pt, true, v => v = .pointer none
  | .pt, false, v => ∃ a, v = .pointer (some a)
  | .fn, true, v => v = .nilFunc
  | .fn, false, v => ∃ f a b, v = .func f a b
def nilT : X → Option (NK × Bool)
  | .c (.a (.t (.v (.slice none _ _)))) => some (.sl, true)
  | .c (.a (.t (.v (.map none)))) => some (.mp, true)
  | .c (.a (.t (.v (.pointer none)))) => some (.pt, true)
  | .c (.a (.t (.v .nilFunc))) => some (.fn, true)
  | .c (.a (.t (.sl .ne _ es))) => some (.sl, es.isEmpty)
  | .c (.a (.t (.sl .nn _ _))) => some (.sl, false)
  | .c (.a (.t (.sl .un _ (_ :: _)))) => some (.sl, false)
  | .c (.a (.ts _ .ne _ es)) => some (.sl, es.isEmpty)
  | .c (.a (.bp _ _)) => some (.pt, false)
  | .c (.a (.mp _)) => some (.mp, false)
  | .c (.a (.fn _ _)) => some (.fn, false)
  | .lp _ _ => some (.pt, false)
  | .pc _ => some (.pt, false)
  | .lmp _ => some (.mp, false)
  | _ => none
theorem sl_nv {μ : Mem} {z : Nz} {sz : Nat} {es : List (List T)} {v : Value} (h : RepT μ (.sl z sz es) v) : (es ≠ [] → NV .sl false v) ∧ (es = [] → z = .ne → NV .sl true v) ∧ (es = [] → z = .nn → NV .sl false v) := by
  cases h with
  | nil h => exact ⟨fun h => absurd rfl h, fun _ _ => ⟨_, _, rfl⟩, fun _ e => absurd e h⟩
  | emp h => exact ⟨fun h => absurd rfl h, fun _ e => absurd e h, fun _ _ => ⟨_, _, _, rfl⟩⟩
  | sl u ne => exact ⟨fun _ => ⟨_, _, _, rfl⟩, fun e => absurd e ne, fun e => absurd e ne⟩
theorem nilT_rep {c : Ctx} {x : X} {v : Value} {nk : NK} {b : Bool} (h : RepX c x v) (hn : nilT x = some (nk, b)) : NV nk b v := by
  unfold nilT at hn
  split at hn <;> first | cases hn | skip
  · have := rep_tv h; subst this; exact ⟨_, _, rfl⟩
  · exact rep_tv h
  · exact rep_tv h
  · exact rep_tv h
  · rename_i es
    cases h with | t h =>
    obtain ⟨h1, h2, _⟩ := sl_nv h
    cases es with
    | nil => exact h2 rfl rfl
    | cons => exact h1 (by simp)
  · rename_i es
    cases h with | t h =>
    obtain ⟨h1, _, h3⟩ := sl_nv h
    cases es with
    | nil => exact h3 rfl rfl
    | cons => exact h1 (by simp)
  · cases h with | t h => exact (sl_nv h).1 (by simp)
  · rename_i es
    cases h with
    | ts0 => exact ⟨_, _, rfl⟩
    | ts hk hne hn h =>
      cases es with
      | nil => exact absurd rfl hne
      | cons => exact ⟨_, _, _, rfl⟩
  · cases h with | bp h => exact ⟨_, rfl⟩
  · cases h with | mp h => exact ⟨_, rfl⟩
  · cases h with | fn u hv h => exact ⟨_, _, _, rfl⟩
  · exact ⟨_, h⟩
  · obtain ⟨b, off, h, _⟩ := h; exact ⟨_, h⟩
  · exact ⟨_, h⟩
theorem nil_eqIn {nk : NK} {b : Bool} {v u : Value} (ty : nkB P t nk = true) (hv : NV nk b v) (hu : NV nk true u) (w : World) (dd : Nat) : (Op.equalIn (dd + 1) t v u).run P w = .ok b w := by
  unfold Op.equalIn
  cases nk <;> simp only [nkB] at ty <;> split at ty <;> first | cases ty | skip
  all_goals
    rename_i h
    rw [Sem.run_bind, run_underlying h, Result.andThen_ok]
    cases b <;> simp only [NV] at hv hu
  · obtain ⟨a, n, c, rfl⟩ := hv; obtain ⟨n', c', rfl⟩ := hu; rfl
  · obtain ⟨n, c, rfl⟩ := hv; obtain ⟨n', c', rfl⟩ := hu; rfl
  · obtain ⟨a, rfl⟩ := hv; subst hu; rfl
  · subst hv hu; rfl
  · obtain ⟨a, rfl⟩ := hv; subst hu; rfl
  · subst hv hu; rfl
  · obtain ⟨f, a, b, rfl⟩ := hv; subst hu; rfl
  · subst hv hu; rfl
theorem nil_eq {nk : NK} {b : Bool} {v u : Value} (ty : nkB P t nk = true) (hv : NV nk b v) (hu : NV nk true u) (w : World) : (Op.equal t v u).run P w = .ok b w := nil_eqIn ty hv hu w 9999
theorem bool_eqIn {a b : Bool} (ty : P.underlying t = some .bool) (w : World) (dd : Nat) : (Op.equalIn (dd + 1) t (.bool a) (.bool b)).run P w = .ok (a == b) w := by
  unfold Op.equalIn
  rw [Sem.run_bind, run_underlying ty, Result.andThen_ok]
  rfl
theorem bool_eq {a b : Bool} (ty : P.underlying t = some .bool) (w : World) : (Op.equal t (.bool a) (.bool b)).run P w = .ok (a == b) w := bool_eqIn ty w 9999
theorem nil_guard {op : BinOp} {nk : NK} {b : Bool} {v u : Value} (hv : NV nk b v) (w : World) : (eqGuard op t x y v u).run P w = .ok () w := by
  unfold eqGuard
  cases nk <;> cases b <;> simp only [NV] at hv
  · obtain ⟨a, n, c, rfl⟩ := hv; split <;> rfl
  · obtain ⟨n, c, rfl⟩ := hv; split <;> rfl
  · obtain ⟨a, rfl⟩ := hv; split <;> rfl
  · subst hv; split <;> rfl
  · obtain ⟨a, rfl⟩ := hv; split <;> rfl
  · subst hv; split <;> rfl
  · obtain ⟨f, a, b, rfl⟩ := hv; split <;> rfl
  · subst hv; split <;> rfl
theorem nil_bin {nk : NK} {b : Bool} {v u : Value} (ty : nkB P t nk = true) (hv : NV nk b v) (hu : NV nk true u) (w : World) : (binOp .eql t v u).run P w = .ok (.bool b) w ∧ (binOp .neq t v u).run P w = .ok (.bool (!b)) w := by
  have h := nil_eq ty hv hu w
  cases nk <;> cases b <;> simp only [NV] at hv hu
  · obtain ⟨a, n, c, rfl⟩ := hv; obtain ⟨n', c', rfl⟩ := hu; constructor <;> simp [binOp, h]
  · obtain ⟨n, c, rfl⟩ := hv; obtain ⟨n', c', rfl⟩ := hu; constructor <;> simp [binOp, h]
  · obtain ⟨a, rfl⟩ := hv; subst hu; constructor <;> simp [binOp, h]
  · subst hv hu; constructor <;> simp [binOp, h]
  · obtain ⟨a, rfl⟩ := hv; subst hu; constructor <;> simp [binOp, h]
  · subst hv hu; constructor <;> simp [binOp, h]
  · obtain ⟨f, a, b, rfl⟩ := hv; subst hu; constructor <;> simp [binOp, h]
  · subst hv hu; constructor <;> simp [binOp, h]
theorem q_eqlN {u : TypeId} {nk : NK} {b : Bool} (ho : o.op = .binOp .eql t x y u) (hx : nilT (s.eval x) = some (nk, b)) (hy : nilT (s.eval y) = some (nk, true)) (ty : nkB P t nk = true) : QV P o s (bX b) :=
  .of_same (fun _ => nolp) fun c w a hm hrep => by
    have ha := nilT_rep (hrep x (by rw [ho]; simp [Op.operands])) hx
    have hb := nilT_rep (hrep y (by rw [ho]; simp [Op.operands])) hy
    exact ⟨.bool b, by simp only [execOp, ho, Sem.run_bind, nil_guard ha, Result.andThen_ok, (nil_bin ty ha hb w).1]; rfl, tv_rep rfl⟩
theorem q_neqN {u : TypeId} {nk : NK} {b : Bool} (ho : o.op = .binOp .neq t x y u) (hx : nilT (s.eval x) = some (nk, b)) (hy : nilT (s.eval y) = some (nk, true)) (ty : nkB P t nk = true) : QV P o s (bX (!b)) :=
  .of_same (fun _ => nolp) fun c w a hm hrep => by
    have ha := nilT_rep (hrep x (by rw [ho]; simp [Op.operands])) hx
    have hb := nilT_rep (hrep y (by rw [ho]; simp [Op.operands])) hy
    exact ⟨.bool (!b), by simp only [execOp, ho, Sem.run_bind, nil_guard ha, Result.andThen_ok, (nil_bin ty ha hb w).2]; rfl, tv_rep rfl⟩
theorem q_eqlB {u : TypeId} {a b : Bool} (ho : o.op = .binOp .eql t x y u) (ty : P.underlying t = some .bool) (hx : s.eval x = bX a) (hy : s.eval y = bX b) : QV P o s (bX (decide (a = b))) :=
  q_bin ho hx hy rfl fun w => by
    have : (eqGuard .eql t x y (.bool a) (.bool b)).run P w = .ok () w := by unfold eqGuard; split <;> rfl
    rw [Sem.run_bind, this]
    simp only [Result.andThen_ok, binOp, Sem.run_bind, bool_eq ty, Sem.run_pure]
    cases a <;> cases b <;> rfl
theorem q_neqB {u : TypeId} {a b : Bool} (ho : o.op = .binOp .neq t x y u) (ty : P.underlying t = some .bool) (hx : s.eval x = bX a) (hy : s.eval y = bX b) : QV P o s (bX (decide (a ≠ b))) :=
  q_bin ho hx hy rfl fun w => by
    have : (eqGuard .neq t x y (.bool a) (.bool b)).run P w = .ok () w := by unfold eqGuard; split <;> rfl
    rw [Sem.run_bind, this]
    simp only [Result.andThen_ok, binOp, Sem.run_bind, bool_eq ty, Sem.run_pure]
    cases a <;> cases b <;> rfl
end
end Go.Proofs.Ytojkjiakkcgfcaa.E
