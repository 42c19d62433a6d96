import Derived.Test.YtnnoafgdjjpidaaGreatDoorM12
import Derived.Lib.Join
import Derived.Shelf.Vars
import Derived.HandedShaped
set_option linter.unusedVariables false
namespace Go.Proofs.YtnnoafgdjjpidaaGreatDoor.E
open Go.RowKit
variable {P : Program} {f : FuncId}
theorem TabW.int {w : World} (h : TabW w) {g : Nat} (hg : TAB g = some fun a => ∃ m, a = #[.int .i64 m]) : ∃ m, w.cell? ⟨g, 0, none⟩ = some (.int .i64 m) := by
  obtain ⟨_, ty, fl, e, m, rfl⟩ := h g _ hg
  exact ⟨m, by simp [World.cell?, e]⟩
abbrev txT (x : ByteArray) : List T := [.v (.string x)]
abbrev joinB (l : List ByteArray) (sep : ByteArray) : ByteArray := ⟨(Lib.join (l.map (·.data.toList)) sep.data.toList).toArray⟩
theorem Pure.join (h0 : ∀ (a : Option Addr) (c : Nat) (sep : ByteArray) (w : World), Calls P f #[.slice a 0 c, .string sep] w fun e w' => e = .returned (.string ⟨#[]⟩) ∧ w' = w)
    (h1 : ∀ (bk o c : Nat) (xs : List ByteArray) (sep : ByteArray) (w : World) (hcells : ∀ (j : Nat) x, xs[j]? = some x → w.cell? ⟨bk, o + j, none⟩ = some (.string x)) (hbk : bk < w.heap.size) (hN : xs.length ≤ 140737488355328) (hcap : xs.length ≤ c) (hlen : (Lib.join (xs.map (·.data.toList)) sep.data.toList).length ≤ 140737488355328),
      Calls P f #[.slice (some ⟨bk, o, none⟩) xs.length c, .string sep] w fun e w' => e = .returned (.string ⟨(Lib.join (xs.map (·.data.toList)) sep.data.toList).toArray⟩) ∧ Below w.heap.size w w')
    (z : Nz) (l : List ByteArray) (sep : ByteArray) (hN : l.length ≤ 140737488355328) (hl : (joinB l sep).size ≤ 140737488355328) : Pure P f [.a (.t (.sl z 1 (l.map txT))), .a (.t (.v (.string sep)))] (.c (.a (.t (.v (.string (joinB l sep)))))) := by
  intro H c w vs hc hr
  obtain ⟨v, vs', hv⟩ : ∃ v vs', vs.toList = v :: vs' := by
    have := hr.1
    match hx : vs.toList with
    | [] => rw [hx] at this; simp at this
    | v :: r => exact ⟨v, r, rfl⟩
  rw [hv] at hr
  have ha := hr.2 0 _ _ rfl rfl
  have hr2 : Reps (RepC c.μ c.β) [.a (.t (.v (.string sep)))] vs' := ⟨by have := hr.1; simp at this; simp [this], fun i x u h2 h3 => hr.2 (i + 1) x u (by simpa using h2) (by simpa using h3)⟩
  have h2 := reps_vals (us := [.string sep]) hr2
  have hvs : vs = #[v, .string sep] := by
    have : vs.toList = #[v, .string sep].toList := by rw [hv, h2]
    exact Array.toList_inj.1 this
  rw [hvs]
  have key : ∀ {u : ByteArray} {w' : World}, u = joinB l sep → Below w.heap.size w w' → ∃ y x H' c', (Ending.returned (.string u) = .returned y) ∧ (x = X.c (.a (.t (.v (.string (joinB l sep))))) ∧ H' = H) ∧ RepX c' x y ∧ Conc c' (ownH H') w' ∧ Ext c (ownH H) w c' (ownH H') w' := fun {u w'} e hb => by
    obtain ⟨h3, h4⟩ := hc.far hb.os hb.tape hb.output hb.size hb.block
    exact ⟨_, _, H, c, rfl, ⟨rfl, rfl⟩, by rw [e]; exact tv_rep rfl, h3, h4⟩
  cases ha with
  | t ha =>
  generalize hes : l.map txT = es at ha
  cases ha with
  | nil _ =>
    have hl0 : l = [] := List.map_eq_nil_iff.1 hes
    refine (h0 none 0 sep w).mono ?_
    rintro e w' ⟨rfl, rfl⟩
    exact key (by rw [hl0]; rfl) (Below.refl _ _)
  | emp _ =>
    have hl0 : l = [] := List.map_eq_nil_iff.1 hes
    refine (h0 _ _ sep w).mono ?_
    rintro e w' ⟨rfl, rfl⟩
    exact key (by rw [hl0]; rfl) (Below.refl _ _)
  | sl u ne hn hcap hlen mem rep =>
    rename_i b off n cp
    subst hes
    have hnl : n = l.length := by rw [hn, List.length_map]
    subst hnl
    have hcell : ∀ (j : Nat) x, l[j]? = some x → w.cell? ⟨b, off + j, none⟩ = some (.string x) := fun j x hj => by
      have h5 := mem j (txT x) 0 (.v (.string x)) (by rw [List.getElem?_map, hj]; rfl) rfl
      have h6 := rep j (txT x) 0 (.v (.string x)) (by rw [List.getElem?_map, hj]; rfl) rfl
      have h7 : u j 0 = .string x := by
        generalize u j 0 = y at h6
        cases h6; rfl
      have h8 := hc.mem _ _ _ h5
      rw [h7] at h8
      simpa using h8
    have hpos : 0 < l.length := List.length_pos_iff.2 fun e => ne (by rw [e]; rfl)
    have hbk : b < w.heap.size := by
      have h9 := hcell 0 l[0] (List.getElem?_eq_getElem hpos)
      unfold World.cell? at h9
      cases hq : w.heap[b]? with
      | none => rw [hq] at h9; simp at h9
      | some _ => exact (Array.getElem?_eq_some_iff.1 hq).1
    refine (h1 b off cp l sep w hcell hbk hN hcap (by have h9 : (joinB l sep).size = (Lib.join (l.map (·.data.toList)) sep.data.toList).length := by simp [ByteArray.size]
                                                      omega)).mono ?_
    rintro e w' ⟨rfl, hb⟩
    exact key rfl hb
section
variable {P : Program} {all : Array Oper} {o : Oper} {s : S} {K : S → Prop} {rest : List Oper} {n d : Nat} {t : Nat → X} {L : Nat → Option AO} {H : Heap}
variable {tt e : TypeId} {x y : Operand} {k m l : Nat} {cells : List A}
theorem row_at {c : Ctx} {w : World} {v : Value} {b cp : Nat} (hb : c.β k = some (b, cp)) (ho : ORep c w (.row e 1 cells) b cp) (hm : m ≤ cells.length) (h : RepA c.μ c.β (.os k 0 m 1) v) :
    ∃ a cq, v = .slice a m cq ∧ m ≤ cq ∧ (0 < m → a = some ⟨b, 0, none⟩ ∧ cq = cp) := by
  obtain ⟨us, h3, h4, h5, h6, h7⟩ := ho
  have hl : cells.length ≤ us.size := by have := h6.1; simp at this; omega
  generalize hk : A.os k 0 m 1 = z at h
  cases h with
  | @os0 _ _ _ a => cases hk; exact ⟨a, 0, rfl, Nat.le_refl _, fun h => absurd h (by omega)⟩
  | os hq hn => cases hk; rw [hb] at hq; cases hq; exact ⟨_, _, rfl, by omega, fun _ => ⟨rfl, rfl⟩⟩
  | osub _ h => cases hk; omega
  | _ => cases hk
theorem h_cutLo (ho : o.op = .slice tt x (some y) none none) (ty : slB P tt e 1 = true) (hx : s.eval x = .c (.a (.os k 0 m 1))) (hH : s.H k = some (.row e 1 cells)) (hm : m ≤ cells.length) (hy : s.eval y = iX .i64 (l : Int)) (hl : l < m) (hd : inB o.dst s.n = true) :
    LR P o (.h :: lk o) (dstT o) s (s.put o.dst (.c (.a (.os k l (m - l) 1)))) :=
  .q (pre := fun c w => ∃ b n, c.β k = some (b, n) ∧ ORep c w (.row e 1 cells) b n) (.of_same (fun _ => nolp) fun c w a hm' ⟨b, cp, hb, hR⟩ hrep => by
    obtain ⟨i, h1, h2, h3, h4⟩ := slB_get ty
    have ha := hrep x (by rw [ho]; simp [Op.operands])
    rw [hx] at ha
    obtain ⟨ad, cq, hv, hc, hp⟩ := row_at hb hR hm ha
    obtain ⟨rfl, rfl⟩ := hp (by omega)
    have hb2 := hrep y (by rw [ho]; simp [Op.operands])
    rw [hy] at hb2
    have hb2 := rep_tv hb2
    have hsz : (sizeOf (P.elem tt)).run P w = .ok 1 w := by simp [sizeOf, typeInfo, elem_eq h1, h2, h3]
    refine ⟨sliced (some ⟨b, 0, none⟩) l m cq 1, (by simp [execOp, ho, hv, hb2, cut_run h1, run_slice_l w tt (some ⟨b, 0, none⟩) m cq (elem_of h1) .i64 l (by omega) (by omega), hsz]), ?_⟩
    · have es : sliced (some ⟨b, 0, none⟩) l m cq 1 = .slice (some ⟨b, l, none⟩) (m - l) (cq - l) := by
        unfold sliced; rw [if_neg (by omega)]; simp [Addr.add]; exact fun h => h.symm
      rw [es]
      by_cases h0 : l = 0
      · subst h0; exact RepA.os (c := cq) hb (by omega)
      · exact RepA.osub hb (by omega)) (fun ℓ h => by simp [lk, h]) hd
    fun s1 hs c a w g => by
      have hb : s1.H k = some (.row e 1 cells) := Eq.trans (congrFun (hs .h (by simp)) k) hH
      exact g.conc.obj (.e k) _ hb (fun h => by simp only [AO.empty] at h; subst h; simp at hm; omega)
def cutA (k : Nat) : Nat → A
  | 0 => .t (.sl .un 1 [])
  | l + 1 => .os k 0 (l + 1) 1
theorem h_cutHi (ho : o.op = .slice tt x none (some y) none) (ty : slB P tt e 1 = true) (hx : s.eval x = .c (.a (.os k 0 m 1))) (hH : s.H k = some (.row e 1 cells)) (hm : m ≤ cells.length) (h0 : 0 < m) (hy : s.eval y = iX .i64 (l : Int)) (hl : l ≤ m) (hd : inB o.dst s.n = true) :
    LR P o (.h :: lk o) (dstT o) s (s.put o.dst (.c (.a (cutA k l)))) :=
  .q (pre := fun c w => ∃ b n, c.β k = some (b, n) ∧ ORep c w (.row e 1 cells) b n) (.of_same (fun _ => nolp) fun c w a hm' ⟨b, cp, hb, hR⟩ hrep => by
    obtain ⟨i, h1, h2, h3, h4⟩ := slB_get ty
    have ha := hrep x (by rw [ho]; simp [Op.operands])
    rw [hx] at ha
    obtain ⟨ad, cq, hv, hc, hp⟩ := row_at hb hR hm ha
    obtain ⟨rfl, rfl⟩ := hp (by omega)
    have hb2 := hrep y (by rw [ho]; simp [Op.operands])
    rw [hy] at hb2
    have hb2 := rep_tv hb2
    have hsz : (sizeOf (P.elem tt)).run P w = .ok 1 w := by simp [sizeOf, typeInfo, elem_eq h1, h2, h3]
    refine ⟨sliced (some ⟨b, 0, none⟩) 0 l cq 1, by simp [execOp, ho, hv, hb2, cut_run h1, run_slice_h w tt (some ⟨b, 0, none⟩) m cq (elem_of h1) .i64 l (by omega) (by omega), hsz], ?_⟩
    · have es : sliced (some ⟨b, 0, none⟩) 0 l cq 1 = .slice (some ⟨b, 0, none⟩) l cq := by
        unfold sliced; rw [if_neg (by omega)]; simp [Addr.add]
      rw [es]
      cases l with
      | zero => exact RepA.t (.emp (by simp))
      | succ l => exact RepA.os hb (by omega)) (fun ℓ h => by simp [lk, h]) hd
    fun s1 hs c a w g => by
      have hb : s1.H k = some (.row e 1 cells) := Eq.trans (congrFun (hs .h (by simp)) k) hH
      exact g.conc.obj (.e k) _ hb (fun h => by simp only [AO.empty] at h; subst h; simp at hm; omega)
theorem clear_run {e' : TypeId} {z : Value} (h1 : P.underlying tt = some (.slice e)) (hz : zeroIs P e z) (hzc : z.cells = #[z]) (h2 : z.oneCell' = true) {w : World} {b off c ty : Nat} {us : Array Value} (hb : w.heap[b]? = some (.cells us e' (0, 0))) (h0 : 0 < m) (hn : off + m ≤ us.size) :
    (Builtin.clear_ #[tt] ty #[.slice (some ⟨b, off, none⟩) m c]).run P w = .ok (.tuple #[]) (w.setRow b (splice us.toList off (List.replicate m z)).toArray) := by
  have hzl : (Builtin.zeroCells z.cells m).toList = List.replicate m z := by
    rw [hzc]
    simp [Builtin.zeroCells]
    apply List.ext_getElem
    · simp
    · intro i h1 h2; simp [Nat.mod_one]
  have h6 := run_storeCells_at P b off e' (List.replicate m z) 0 us w hb (by simp; omega) (by intro v hv; rw [List.eq_of_mem_replicate hv]; exact h2)
  obtain ⟨m, rfl⟩ : ∃ q, m = q + 1 := ⟨m - 1, by omega⟩
  simp [Builtin.clear_, run_underlying h1, zero_run hz, hzl, h6, splice]
theorem h_clear {z : Value} {off : Nat} (hdst : o.dst = none) (ho : o.op = .call { callee := .builtin .clear, args := #[x], argTypes := #[tt] }) (h1 : P.underlying tt = some (.slice e)) (hz : zeroIs P e z) (hzc : z.cells = #[z]) (h2 : z.oneCell' = true)
    (hx : s.eval x = .c (.a (.os k off m 1))) (hH : s.H k = some (.row e 1 cells)) (h0 : 0 < m) (hm : off + m ≤ cells.length) :
    LR P o (.h :: lk o) [.h] s (s.setOwn (.e k) (.row e 1 (splice cells off (List.replicate m (.t (.v z)))))) :=
  h_put hdst hH (fun h => by simp only [AO.empty] at h; subst h; simp at hm; omega) fun c w a b n hmo hb hR hrep => by
    obtain ⟨us, h3, h4, h5, h6, h7⟩ := hR
    have hl : cells.length ≤ us.size := by have := h6.1; simp at this; omega
    have ha := hrep x (by rw [ho]; simp [Op.operands, Call.operands])
    rw [hx] at ha
    obtain ⟨cq, hv⟩ : ∃ cq, a.eval x = .slice (some ⟨b, off, none⟩) m cq := by
      have ha : RepA c.μ c.β (.os k off m 1) (a.eval x) := ha
      generalize a.eval x = v at ha
      generalize hk : A.os k off m 1 = q at ha
      cases ha with
      | os0 => cases hk; omega
      | os hq hn => cases hk; rw [hb] at hq; cases hq; exact ⟨_, rfl⟩
      | osub hq hn => cases hk; rw [hb] at hq; cases hq; exact ⟨_, rfl⟩
      | _ => cases hk
    have hrun := clear_run (P := P) (ty := o.type) (c := cq) h1 hz hzc h2 h3 h0 (show off + m ≤ us.size by omega)
    refine ⟨.value (.tuple #[]), w.setRow b (splice us.toList off (List.replicate m z)).toArray, by simp [execOp, ho, hv, resolve, invoke, builtin, hrun], .inr ⟨_, rfl⟩, ⟨rfl, rfl, rfl, by simp, fun j hj => setRow_other w b j _ hj⟩, h7, ?_⟩
    have hlen : (splice us.toList off (List.replicate m z)).length = us.size := by rw [splice_len (by simp; omega)]; simp
    refine ⟨_, setRow_heap w b us _ e (0, 0) h3, by simp only [List.size_toArray, hlen]; exact h4, h5, ?_, h7⟩
    have hrep : Reps (RepA c.μ c.β) (List.replicate m (A.t (.v z))) (List.replicate m z) := ⟨by simp, fun i x v h1 h3 => by
      have e1 := List.eq_of_mem_replicate (List.mem_of_getElem? h1)
      have e2 := List.eq_of_mem_replicate (List.mem_of_getElem? h3)
      subst e1 e2; exact .t (.v h2)⟩
    have h9 := h6.splice (off := off) hrep
    rw [splice_len (by simp; omega)]
    have h8 : (splice us.toList off (List.replicate m z)).take cells.length = splice (us.toList.take cells.length) off (List.replicate m z) := take_splice (by simp; omega) (by simpa using hl)
    rw [h8]; exact h9
end
section
variable {P : Program} {o : Oper} {n d : Nat} {t : Nat → X} {L : Nat → Option AO} {H : Heap}
variable {tt e : TypeId} {x y : Operand} {k m l : Nat} {cells : List A}
theorem g_cutLo (ho : o.op = .slice tt x (some y) none none) (ty : slB P tt e 1 = true) (hx : S.eval ⟨n, t, L, H⟩ x = .c (.a (.os k 0 m 1))) (hH : H k = some (.row e 1 cells)) (hm : m ≤ cells.length) (hy : S.eval ⟨n, t, L, H⟩ y = iX .i64 (l : Int)) (hl : l < m) (hdst : o.dst = some d) (hd : Nat.blt d n = true) :
    LR P o (.h :: lk o) (dstT o) ⟨n, t, L, H⟩ ⟨n, upd t d (.c (.a (.os k l (m - l) 1))), L, H⟩ := lr_cast (h_cutLo ho ty hx hH hm hy hl (inb' hdst hd)) (by rw [hdst]; rfl)
theorem g_cutHi (ho : o.op = .slice tt x none (some y) none) (ty : slB P tt e 1 = true) (hx : S.eval ⟨n, t, L, H⟩ x = .c (.a (.os k 0 m 1))) (hH : H k = some (.row e 1 cells)) (hm : m ≤ cells.length) (h0 : 0 < m) (hy : S.eval ⟨n, t, L, H⟩ y = iX .i64 (l : Int)) (hl : l ≤ m) (hdst : o.dst = some d) (hd : Nat.blt d n = true) :
    LR P o (.h :: lk o) (dstT o) ⟨n, t, L, H⟩ ⟨n, upd t d (.c (.a (cutA k l))), L, H⟩ := lr_cast (h_cutHi ho ty hx hH hm h0 hy hl (inb' hdst hd)) (by rw [hdst]; rfl)
theorem g_clear {z : Value} {off : Nat} (ho : o.op = .call { callee := .builtin .clear, args := #[x], argTypes := #[tt] }) (hdst : o.dst = none) (h1 : P.underlying tt = some (.slice e)) (hz : zeroIs P e z) (hzc : z.cells = #[z]) (h2 : z.oneCell' = true)
    (hx : S.eval ⟨n, t, L, H⟩ x = .c (.a (.os k off m 1))) (hH : H k = some (.row e 1 cells)) (h0 : 0 < m) (hm : off + m ≤ cells.length) :
    LR P o (.h :: lk o) [.h] ⟨n, t, L, H⟩ ⟨n, t, L, upd H k (some (.row e 1 (splice cells off (List.replicate m (.t (.v z))))))⟩ := h_clear hdst ho h1 hz hzc h2 hx hH h0 hm
end
theorem Spec.shrink {P : Program} {f : FuncId} {args : List C} {H : Heap} {Q Q' : X → Heap → Prop} (h : Spec P f args H Q)
    (hq : ∀ x H', Q x H' → Q' x H' ∨ ∃ k e sz cells m, H' k = some (.row e sz cells) ∧ cells ≠ [] ∧ m ≤ cells.length ∧ Q' x (upd H' k (some (.row e sz (cells.take m))))) : Spec P f args H Q' :=
  fun c w vs h1 h2 => (h c w vs h1 h2).mono fun _ w1 ⟨v, x, H', c', e, q, r, hc, hx⟩ => by
    rcases hq x H' q with hd | ⟨k, e0, sz, cells, m, q1, q2, q3, q4⟩
    · exact ⟨v, x, H', c', e, hd, r, hc, hx⟩
    · have hne : ¬ (AO.row e0 sz cells).empty := fun h => q2 (by simpa only [AO.empty] using h)
      obtain ⟨b, n, p1, p2⟩ := hc.obj (.e k) _ q1 hne
      obtain ⟨us, h3, h4, h5, h6, h7⟩ := p2
      obtain ⟨z1, z2⟩ := hc.write (w' := w1) (x' := .row e0 sz (cells.take m)) q1 hne p1 rfl rfl rfl rfl (fun _ _ => rfl) h7
        ⟨us, h3, h4, h5, (by
          have h8 := h6.take m
          rw [List.take_take] at h8
          rw [List.length_take]; exact h8), h7⟩
      exact ⟨v, x, _, c', e, q4, r, z1, hx.trans z2⟩
end Go.Proofs.YtnnoafgdjjpidaaGreatDoor.E
