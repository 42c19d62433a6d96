/- More steps on a state that is written out. Plain theorems, for any program. -/
import Derived.Test.YtojkjiakkcgfcaaE17
namespace Go.Proofs.Ytojkjiakkcgfcaa.E
open Go.RowKit
set_option linter.unusedVariables false
section
variable {P : Program} {all : Array Oper} {o : Oper} {K : S → Prop} {rest : List Oper} {p : Nat} {fp : List Fp} {R W : List Loc} {n d : Nat} {t : Nat → X} {L : Nat → Option AO} {H H' : Heap} {x : X}
/-- a value that nobody keeps -/
theorem LOp.q0 {s : S} (h : QV P o s x) (hg : o.guard = none) (hdst : o.dst = none) : LOp P all o (lookT all o) (dstT o) s s := by
  have := LOp.q (all := all) h hg (by rw [hdst]; rfl)
  rw [hdst] at this
  exact this
theorem SeqK.q0 {s : S} (h : QV P o s x) (hg : o.guard = none) (hdst : o.dst = none) (k : SeqK P all K rest s) : SeqK P all K (o :: rest) s := .step (.q0 h hg hdst) k
theorem LexK.q0 {s : S} (h : QV P o s x) (hg : o.guard = none) (hdst : o.dst = none) (k : LexK P all K rest s p (fp ++ [(lookT all o, dstT o)])) : LexK P all K (o :: rest) s p fp := .cons (.q0 h hg hdst) k
section
variable {tt kt et : TypeId} {y z w : Operand} {kk : KK} {es : List ME} {ck k j : Nat} {kv zv : Value} {ok : Bool} {mo : Option C} {u : C} {r : X}
theorem g_lookup (kl : KeyLaw P kt kk) (ho : o.op = .lookup tt y z ok) (ht : P.underlying tt = some (.map kt et)) (hz : zeroIs P et zv) (hx : S.eval ⟨n, t, L, H⟩ y = .c (.a (.mp k))) (hH : H k = some (.map kk es ck)) (hy : keyX (S.eval ⟨n, t, L, H⟩ z) = some kv) (hk : kok kk kv = true) (hm : mget kv es = mo) (hr : lookX mo (constX zv) ok = r) (hdst : o.dst = some d) (hd : Nat.blt d n = true) :
    LR P o (.h :: lk o) (dstT o) ⟨n, t, L, H⟩ ⟨n, upd t d r, L, H⟩ := lr_cast (h_lookup kl r ho ht hz hx hH hy hk hm hr (inb' hdst hd)) (by rw [hdst]; rfl)
theorem b_lookup (kl : KeyLaw P kt kk) (ho : o.op = .lookup tt y z ok) (ht : P.underlying tt = some (.map kt et)) (hz : zeroIs P et zv) (hx : S.eval ⟨n, t, L, H⟩ y = .lmp j) (hL : L j = some (.map kk es ck)) (hy : keyX (S.eval ⟨n, t, L, H⟩ z) = some kv) (hk : kok kk kv = true) (hm : mget kv es = mo) (hr : lookX mo (constX zv) ok = r) (hdst : o.dst = some d) (hd : Nat.blt d n = true) :
    LR P o (.b j :: lk o) (dstT o) ⟨n, t, L, H⟩ ⟨n, upd t d r, L, H⟩ := lr_cast (l_lookup kl r ho ht hz hx hL hy hk hm hr (inb' hdst hd)) (by rw [hdst]; rfl)
theorem g_mapUpdate (kl : KeyLaw P kt kk) (hdst : o.dst = none) (ho : o.op = .mapUpdate tt y z w) (ht : P.underlying tt = some (.map kt et)) (hx : S.eval ⟨n, t, L, H⟩ y = .c (.a (.mp k))) (hH : H k = some (.map kk es ck)) (hy : keyX (S.eval ⟨n, t, L, H⟩ z) = some kv) (hk : kok kk kv = true) (hz : S.eval ⟨n, t, L, H⟩ w = .c u) :
    LR P o (.h :: lk o) [.h] ⟨n, t, L, H⟩ ⟨n, t, L, upd H k (some (.map kk (mset kv u ck es) (mclock kv es ck)))⟩ := h_mapUpdate kl hdst ho ht hx hH hy hk hz
theorem g_insert (kl : KeyLaw P kt kk) (hdst : o.dst = none) (ho : o.op = .insert tt y z w) (ht : P.underlying tt = some (.map kt et)) (hx : S.eval ⟨n, t, L, H⟩ y = .c (.a (.mp k))) (hH : H k = some (.map kk es ck)) (hy : keyX (S.eval ⟨n, t, L, H⟩ z) = some kv) (hk : kok kk kv = true) (hz : S.eval ⟨n, t, L, H⟩ w = .c u) :
    LR P o (.h :: lk o) [.h] ⟨n, t, L, H⟩ ⟨n, t, L, upd H k (some (.map kk (mset kv u ck es) (mclock kv es ck)))⟩ := h_insert kl hdst ho ht hx hH hy hk hz
theorem b_mapUpdate (kl : KeyLaw P kt kk) (hdst : o.dst = none) (ho : o.op = .mapUpdate tt y z w) (ht : P.underlying tt = some (.map kt et)) (hx : S.eval ⟨n, t, L, H⟩ y = .lmp j) (hL : L j = some (.map kk es ck)) (hy : keyX (S.eval ⟨n, t, L, H⟩ z) = some kv) (hk : kok kk kv = true) (hz : S.eval ⟨n, t, L, H⟩ w = .c u) :
    LR P o (.b j :: lk o) [.b j] ⟨n, t, L, H⟩ ⟨n, t, upd L j (some (.map kk (mset kv u ck es) (mclock kv es ck))), H⟩ := l_mapUpdate kl hdst ho ht hx hL hy hk hz
theorem b_insert (kl : KeyLaw P kt kk) (hdst : o.dst = none) (ho : o.op = .insert tt y z w) (ht : P.underlying tt = some (.map kt et)) (hx : S.eval ⟨n, t, L, H⟩ y = .lmp j) (hL : L j = some (.map kk es ck)) (hy : keyX (S.eval ⟨n, t, L, H⟩ z) = some kv) (hk : kok kk kv = true) (hz : S.eval ⟨n, t, L, H⟩ w = .c u) :
    LR P o (.b j :: lk o) [.b j] ⟨n, t, L, H⟩ ⟨n, t, upd L j (some (.map kk (mset kv u ck es) (mclock kv es ck))), H⟩ := l_insert kl hdst ho ht hx hL hy hk hz
theorem g_delete (kl : KeyLaw P kt kk) (hdst : o.dst = none) (ho : o.op = .call { callee := .builtin .delete, args := #[y, z], argTypes := #[tt, kt] }) (ht : P.underlying tt = some (.map kt et)) (hx : S.eval ⟨n, t, L, H⟩ y = .c (.a (.mp k))) (hH : H k = some (.map kk es ck)) (hy : keyX (S.eval ⟨n, t, L, H⟩ z) = some kv) (hk : kok kk kv = true) :
    LR P o (.h :: lk o) [.h] ⟨n, t, L, H⟩ ⟨n, t, L, upd H k (some (.map kk (mdel kv es) ck))⟩ := h_delete kl hdst ho ht hx hH hy hk
theorem g_lenM (ho : o.op = .call { callee := .builtin .len, args := #[y], argTypes := #[tt] }) (ht : P.underlying tt = some (.map kt et)) (hx : S.eval ⟨n, t, L, H⟩ y = .c (.a (.mp k))) (hH : H k = some (.map kk es ck)) (hdst : o.dst = some d) (hd : Nat.blt d n = true) :
    LR P o (.h :: lk o) (dstT o) ⟨n, t, L, H⟩ ⟨n, upd t d (iX .i64 (es.length : Nat)), L, H⟩ := lr_cast (h_lenM ho ht hx hH (inb' hdst hd)) (by rw [hdst]; rfl)
theorem b_range (ho : o.op = .range tt y) (hdst : o.dst = some d) (ht : P.underlying tt = some (.map kt et)) (hx : S.eval ⟨n, t, L, H⟩ y = .c (.a (.mp k))) (hH : H k = some (.map kk es ck)) (hL : L d = none) (hd : Nat.blt d n = true) :
    LR P o (.b d :: .h :: lk o) [.t d, .b d] ⟨n, t, L, H⟩ ⟨n, upd t d (.lp d 0), upd L d (some (.iter k ck [] ck)), H⟩ := l_range ho hdst ht hx hH hL (inb' hdst hd)
theorem b_range0 (ho : o.op = .range tt y) (hdst : o.dst = some d) (ht : P.underlying tt = some (.map kt et)) (hx : S.eval ⟨n, t, L, H⟩ y = tv (.map none)) (hL : L d = none) (hd : Nat.blt d n = true) :
    LR P o (.b d :: lk o) [.t d, .b d] ⟨n, t, L, H⟩ ⟨n, upd t d (.lp d 0), upd L d (some .iter0), H⟩ := l_range0 ho hdst ht hx hL (inb' hdst hd)
theorem g_next0 (ho : o.op = .next y false) (hx : S.eval ⟨n, t, L, H⟩ y = .lp j 0) (hL : L j = some .iter0) (hdst : o.dst = some d) (hd : Nat.blt d n = true) :
    LR P o (.b j :: lk o) (dstT o) ⟨n, t, L, H⟩ ⟨n, upd t d (.tup [.a (.t (.v (.bool false)))]), L, H⟩ := lr_cast (b_next0 ho hx hL (inb' hdst hd)) (by rw [hdst]; rfl)
theorem b_entry {m : ME} {since : Nat} {seen : List Nat} (ho : o.op = .entry y) (hx : S.eval ⟨n, t, L, H⟩ y = .lp j 0) (hL : L j = some (.iter k since (seen ++ [m.b]) ck)) (hH : H k = some (.map kk es ck)) (hm : m ∈ es) (hdst : o.dst = some d) (hd : Nat.blt d n = true) :
    LR P o (.b j :: .h :: lk o) (dstT o) ⟨n, t, L, H⟩ ⟨n, upd t d (.tup [keyC m.k, m.x]), L, H⟩ := lr_cast (l_entry ho hx hL hH hm (inb' hdst hd)) (by rw [hdst]; rfl)
end
section
variable {f : FuncId} {ys : Array Operand} {ts : Array TypeId} {args : List C}
theorem g_call {x : X} (ho : o.op = .call { callee := .value (.func f), args := ys, argTypes := ts }) (hf : fnB P f = true) (ha : argsX ⟨n, t, L, H⟩ ys.toList = some args) (h : Spec P f args H fun y H' => y = x ∧ H' = H) (hx : x.loc = none) (hdst : o.dst = some d) (hd : Nat.blt d n = true) :
    LR P o (.h :: lk o) (dstT o) ⟨n, t, L, H⟩ ⟨n, upd t d x, L, H⟩ := lr_cast (h_call ho hf ha h hx (inb' hdst hd)) (by rw [hdst]; rfl)
theorem LexK.callE {Q : X → Heap → Prop} (ho : o.op = .call { callee := .value (.func f), args := ys, argTypes := ts }) (hg : o.guard = none) (hdst : o.dst = some d) (hd : Nat.blt d n = true) (hf : fnB P f = true) (ha : argsX ⟨n, t, L, H⟩ ys.toList = some args) (h : Spec P f args H Q) (hl : ∀ x H', Q x H' → x.loc = none) (hok : okFp all p fp = true) (hb : okBar all p (p + fp.length) = true)
    (k : ∀ x H', Q x H' → LexK P all K rest ⟨n, upd t d x, L, H'⟩ (p + fp.length + 1) []) : LexK P all K (o :: rest) ⟨n, t, L, H⟩ p fp := .bar hok hb (OpW.callE ho hg hdst hd hf ha h hl k)
end
section
variable {tt et : TypeId} {y z : Operand} {agg : Bool} {m k off sz : Nat} {cells r : List A} {c : C}
theorem g_loadR (ho : o.op = .load tt y) (ty : tyB P tt agg m = true) (hy : S.eval ⟨n, t, L, H⟩ y = .c (.a (.bp k off))) (hH : H k = some (.row et sz cells)) (hr : mkC agg ((cells.drop off).take m) = c) (hn : off + m ≤ cells.length) (h0 : 0 < m) (hdst : o.dst = some d) (hd : Nat.blt d n = true) :
    LR P o (.h :: lk o) (dstT o) ⟨n, t, L, H⟩ ⟨n, upd t d (.c c), L, H⟩ := lr_cast (h_loadR c ho ty hy hH hr hn h0 (inb' hdst hd)) (by rw [hdst]; rfl)
theorem g_storeR (ho : o.op = .store tt y z) (hdst : o.dst = none) (ty : tyB P tt agg m = true) (hy : S.eval ⟨n, t, L, H⟩ y = .c (.a (.bp k off))) (hz : S.eval ⟨n, t, L, H⟩ z = .c c) (hH : H k = some (.row et sz cells)) (hr : splice cells off c.cells = r) (hx : c.cells.length = m) (hn : off + m ≤ cells.length) (h0 : 0 < m) :
    LR P o (.h :: lk o) [.h] ⟨n, t, L, H⟩ ⟨n, t, L, upd H k (some (.row et sz r))⟩ := h_storeR r ho hdst ty hy hz hH hr hx hn h0
end
/-! ### steps of the proof alone -/
theorem AW.tip {cd : Code} {Q : Exit → S → Prop} (i : Nat) (e sz : Nat) (hi : t i = tv (.slice none 0 0)) (k : ∀ k, H k = none → AW P cd Q ⟨n, upd t i (.c (.a (.ts k .ne sz []))), L, upd H k (some (.tip e sz 0))⟩) : AW P cd Q ⟨n, t, L, H⟩ :=
  AW.gh (Gh.tip i e sz hi) fun s' ⟨k', h1, h2⟩ => h2 ▸ k k' h1
theorem AW.row {cd : Code} {Q : Exit → S → Prop} (i : Nat) (e sz : Nat) (hi : t i = tv (.slice none 0 0)) (k : ∀ k, H k = none → AW P cd Q ⟨n, upd t i (.c (.a (.os k 0 0 sz))), L, upd H k (some (.row e sz []))⟩) : AW P cd Q ⟨n, t, L, H⟩ :=
  AW.gh (Gh.row i e sz hi) fun s' ⟨k', h1, h2⟩ => h2 ▸ k k' h1
theorem AW.exp {cd : Code} {Q : Exit → S → Prop} (j : Nat) {o : AO} (hj : L j = some o) (hx : ∀ k a b c, o ≠ .iter k a b c) (k : ∀ k, H k = none → AW P cd Q ⟨n, fun i => expX j k (t i), upd L j none, upd H k (some o)⟩) : AW P cd Q ⟨n, t, L, H⟩ :=
  AW.gh (Gh.exp j hj hx) fun s' ⟨k', h1, h2⟩ => h2 ▸ k k' h1
theorem AW.freeze {cd : Code} {Q : Exit → S → Prop} (k sz : Nat) (e : TypeId) (es : List (List T)) (hk : H k = some (.row e sz (es.flatten.map .t))) (hl : ∀ e ∈ es, e.length = sz) (h0 : 0 < sz) (k' : AW P cd Q ⟨n, fun i => fzX k sz es (t i), L, upd H k none⟩) : AW P cd Q ⟨n, t, L, H⟩ :=
  AW.gh (Gh.freeze k sz e es hk hl h0) fun s' h2 => h2 ▸ k'
theorem OpW.tip (i : Nat) (e sz : Nat) (hi : t i = tv (.slice none 0 0)) (k : ∀ k, H k = none → OpW P all o K ⟨n, upd t i (.c (.a (.ts k .ne sz []))), L, upd H k (some (.tip e sz 0))⟩) : OpW P all o K ⟨n, t, L, H⟩ :=
  OpW.gh (Gh.tip i e sz hi) fun s' ⟨k', h1, h2⟩ => h2 ▸ k k' h1
theorem OpW.exp (j : Nat) {x : AO} (hj : L j = some x) (hx : ∀ k a b c, x ≠ .iter k a b c) (k : ∀ k, H k = none → OpW P all o K ⟨n, fun i => expX j k (t i), upd L j none, upd H k (some x)⟩) : OpW P all o K ⟨n, t, L, H⟩ :=
  OpW.gh (Gh.exp j hj hx) fun s' ⟨k', h1, h2⟩ => h2 ▸ k k' h1
theorem SeqK.exp (j : Nat) {x : AO} (hj : L j = some x) (hx : ∀ k a b c, x ≠ .iter k a b c) (k : ∀ k, H k = none → SeqK P all K (o :: rest) ⟨n, fun i => expX j k (t i), upd L j none, upd H k (some x)⟩) : SeqK P all K (o :: rest) ⟨n, t, L, H⟩ := OpW.exp j hj hx k
theorem SeqK.tip (i : Nat) (e sz : Nat) (hi : t i = tv (.slice none 0 0)) (k : ∀ k, H k = none → SeqK P all K (o :: rest) ⟨n, upd t i (.c (.a (.ts k .ne sz []))), L, upd H k (some (.tip e sz 0))⟩) : SeqK P all K (o :: rest) ⟨n, t, L, H⟩ := OpW.tip i e sz hi k
/-- the last operation of a region that draws, when all before are done -/
theorem LexK.last (h : okFp all p fp = true) (hb : okBar all p (p + fp.length) = true) (k : OpW P all o (fun s' => LexK P all K rest s' (p + fp.length + 1) []) ⟨n, t, L, H⟩) : LexK P all K (o :: rest) ⟨n, t, L, H⟩ p fp := .bar h hb k
theorem OpW.r {s s' : S} (h : LR P o R W s s') (hg : o.guard = none) (k : K s') : OpW P all o K s := (LOp.r (all := all) h hg).opW k
end
end Go.Proofs.Ytojkjiakkcgfcaa.E
