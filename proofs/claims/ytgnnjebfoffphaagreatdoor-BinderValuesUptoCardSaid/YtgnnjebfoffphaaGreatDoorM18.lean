import Derived.Test.YtgnnjebfoffphaaGreatDoorM17
set_option maxRecDepth 20000
set_option maxHeartbeats 8000000
set_option linter.unusedSectionVars false
set_option linter.unusedSimpArgs false
set_option linter.unusedVariables false
namespace Go.Proofs.YtgnnjebfoffphaaGreatDoor.W
open Fx
open Go.RowKit E M
open Q
structure Sr where (nm : ByteArray) (t : Tb) (f0 : Int)
structure Sp where (sr : List Sr) (vr : List Vr) (nb : Bool)
structure As where (col : ByteArray) (ix : Int) (ex : Ex)
structure It where (ag : Int) (ex : Ex)
structure Fr where (tb al : ByteArray)
structure Od where (it : Int) (ds : Bool)
structure Dn where (cols : List Co) (keys : List (List ByteArray)) (fks : List Rf) (chks : List Ex)
structure St where (k : Int) (tb : ByteArray) (cr : Dn) (vals : List (List Ex)) (sets : List As) (its : List It) (frm : List Fr) (wh : Ex) (grp : List Ex) (ord : List Od) (lim : Int) (nm : ByteArray)
structure Bd where (st : St) (tab : Int) (tabs : List Int) (vars : List Vr) (rows : List (List RV))
abbrev ex0 : Ex := ⟨0, ⟨#[]⟩, ⟨#[]⟩, 0, 0, 0, ⟨#[]⟩, []⟩
abbrev v0 : Vr := ⟨0, 0, 0, 0, false⟩
abbrev co0 : Co := ⟨⟨#[]⟩, 0, 0, 0, 0, false⟩
abbrev tb0 : Tb := ⟨⟨#[]⟩, [], [], [], []⟩
abbrev dn0 : Dn := ⟨[], [], [], []⟩
abbrev st0 : St := ⟨0, ⟨#[]⟩, dn0, [], [], [], [], ex0, [], [], 0, ⟨#[]⟩⟩
abbrev bd0 : Bd := ⟨st0, 0, [], [], []⟩
abbrev sp0 : Sp := ⟨[], [], false⟩
abbrev rv0 : RV := ⟨0, 0, ⟨#[]⟩⟩
def ixF {α : Type} (p : α → Bool) : List α → Nat → Int
  | [], _ => -1
  | a :: r, i => if p a = true then (i : Int) else ixF p r (i + 1)
abbrev fitI (k w : Int) : Bool := decide (k = 0 ∨ k = w)
abbrev allI (ks : List Int) (w : Int) : Bool := ks.all fun k => fitI k w
abbrev icB (e : Ex) : Bool := decide (e.op = 2)
abbrev inuB (e : Ex) : Bool := decide (e.op = 1 ∧ e.vk = 0)
mutual
def cnB (p : Ex → Bool) : Ex → Bool
  | .mk op tb nm ix vk vn vs args => p (.mk op tb nm ix vk vn vs args) || cnBs p args
def cnBs (p : Ex → Bool) : List Ex → Bool
  | [] => false
  | a :: r => cnB p a || cnBs p r
end
theorem cnBs_any (p : Ex → Bool) : ∀ l, cnBs p l = l.any (cnB p)
  | [] => rfl
  | a :: r => by rw [cnBs, cnBs_any p r, List.any_cons]
theorem cnB_eq (p : Ex → Bool) (e : Ex) : cnB p e = (p e || e.args.any (cnB p)) := by cases e; rw [cnB, cnBs_any]
abbrev colI (cols : List Co) (nm : ByteArray) : Int := ixF (fun c => decide (c.nm = nm)) cols 0
def scnS (tb nm : ByteArray) : List Sr → Int → Int → Int → Int × Int × Int
  | [], i, k, f => (i, k, f)
  | x :: r, i, k, f =>
    if tb ≠ ⟨#[]⟩ ∧ tb ≠ x.nm then scnS tb nm r i k f
    else if 0 ≤ colI x.t.cols nm then scnS tb nm r (x.f0 + colI x.t.cols nm) (x.t.cols.getD (colI x.t.cols nm).toNat co0).ty (f + 1)
    else scnS tb nm r i k f
def colS (s : Sp) (e : Ex) : Int × Int × Int :=
  if s.nb = true then (if e.ix < 0 ∨ (s.vr.length : Int) ≤ e.ix then (0, 0, 4) else (e.ix, (s.vr.getD e.ix.toNat v0).ty, 0))
  else
    let r := scnS e.tb e.nm s.sr 0 0 0
    if r.2.2 = 0 then (0, 0, 4) else if r.2.2 = 1 then (r.1, r.2.1, 0) else (0, 0, 1)
abbrev wI (n : Int) : Int := IntKind.i64.wrap n
abbrev flrI (a b : Int) : Int := let q := IntKind.i64.wrap (a.tdiv b); if a.tmod b < 0 then IntKind.i64.wrap (q - 1) else q
def cmpV (op : Int) (v : List RV) : Int :=
  let a := (v.getD 0 rv0).n
  if op = 3 then wI (0 - a)
  else if op = 9 then ((v.getD 0 rv0).s.size : Int)
  else
    let b := (v.getD 1 rv0).n
    if op = 4 then wI (a + b) else if op = 5 then wI (a - b) else if op = 6 then wI (a * b) else if op = 7 then flrI a b else wI (a - wI (b * flrI a b))
def evL (op : Int) : List RV → List RV → RV
  | [], vs => ⟨1, cmpV op vs, ⟨#[]⟩⟩
  | v :: r, vs => if v.k = 0 then rv0 else evL op r (vs ++ [v])
mutual
def evE (r : List RV) : Ex → RV
  | .mk op _ _ ix vk vn vs args => if op = 1 then ⟨vk, vn, vs⟩ else if op = 2 then r.getD ix.toNat rv0 else evL op (evS r args) []
def evS (r : List RV) : List Ex → List RV
  | [] => []
  | a :: l => evE r a :: evS r l
end
theorem evS_map (r : List RV) : ∀ l, evS r l = l.map (evE r)
  | [] => rfl
  | a :: l => by rw [evS, evS_map r l, qL]
theorem evE_eq (r : List RV) (e : Ex) : evE r e = if e.op = 1 then ⟨e.vk, e.vn, e.vs⟩ else if e.op = 2 then r.getD e.ix.toNat rv0 else evL e.op (e.args.map (evE r)) [] := by cases e; rw [evE, evS_map]
def cstE (e : Ex) : RV × Int := if cnB icB e = true then (rv0, 1) else (evE [] e, 0)
def arI (e : Ex) (ks : List Int) : Int :=
  if allI ks 1 = false then 6
  else if e.op = 6 ∧ cnB icB (e.args.getD 0 ex0) = true ∧ cnB icB (e.args.getD 1 ex0) = true then 7
  else if (e.op = 7 ∨ e.op = 8) ∧ ¬ ((cstE (e.args.getD 1 ex0)).2 = 0 ∧ (cstE (e.args.getD 1 ex0)).1.k = 1 ∧ 1 ≤ (cstE (e.args.getD 1 ex0)).1.n ∧ (cstE (e.args.getD 1 ex0)).1.n ≤ 1000) then 7
  else if cnB inuB e = true then 0
  else (ofE e).2
abbrev isI (k : Int) (b : Bool) : Int × Int := if b = true then (k, 0) else (0, 6)
def opI (e : Ex) (ks : List Int) : Int × Int :=
  if e.op = 3 ∨ e.op = 4 ∨ e.op = 5 ∨ e.op = 6 ∨ e.op = 7 ∨ e.op = 8 then (1, arI e ks)
  else if e.op = 9 then isI 1 (allI ks 2)
  else if e.op = 10 ∨ e.op = 11 ∨ e.op = 12 ∨ e.op = 13 ∨ e.op = 14 ∨ e.op = 15 then
    (if allI ks 1 = false ∧ allI ks 2 = false then (0, 6)
     else if e.op ≠ 10 ∧ e.op ≠ 11 ∧ icB (e.args.getD 0 ex0) = true ∧ icB (e.args.getD 1 ex0) = true ∧ ks.getD 0 0 = 2 ∧ ks.getD 1 0 = 2 then (0, 7) else (3, 0))
  else if e.op = 16 then isI 3 (fitI (ks.getD 0 0) 2)
  else if e.op = 17 then isI 3 (decide (ks.getD 0 0 ≠ 3))
  else isI 3 (allI ks 3)
abbrev Ex.wA (e : Ex) (l : List Ex) : Ex := ⟨e.op, e.tb, e.nm, e.ix, e.vk, e.vn, e.vs, l⟩
abbrev Ex.wI (e : Ex) (i : Int) : Ex := ⟨e.op, e.tb, e.nm, i, e.vk, e.vn, e.vs, e.args⟩
def nodeB (s : Sp) (e : Ex) (ks : List Int) : Ex × Int × Int :=
  if e.op = 1 then (e, e.vk, 0)
  else if e.op = 2 then (if (colS s e).2.2 ≠ 0 then (ex0, 0, (colS s e).2.2) else (e.wI (colS s e).1, (colS s e).2.1, 0))
  else if (opI e ks).2 ≠ 0 then (ex0, 0, (opI e ks).2) else (e, (opI e ks).1, 0)
def lsB : List (Ex × Int × Int) → List Ex → List Int → List Ex × List Int × Int
  | [], es, ks => (es, ks, 0)
  | x :: r, es, ks => if x.2.2 ≠ 0 then ([], [], x.2.2) else lsB r (es ++ [x.1]) (ks ++ [x.2.1])
def outB (s : Sp) (e : Ex) (q : List Ex × List Int × Int) : Ex × Int × Int := if q.2.2 ≠ 0 then (ex0, 0, q.2.2) else nodeB s (e.wA q.1) q.2.1
mutual
def bndE (s : Sp) : Ex → Ex × Int × Int
  | .mk op tb nm ix vk vn vs args => outB s (.mk op tb nm ix vk vn vs args) (lsB (bndS s args) [] [])
def bndS (s : Sp) : List Ex → List (Ex × Int × Int)
  | [] => []
  | a :: r => bndE s a :: bndS s r
end
theorem bndS_map (s : Sp) : ∀ l, bndS s l = l.map (bndE s)
  | [] => rfl
  | a :: r => by rw [bndS, bndS_map s r, qL]
theorem bndE_eq (s : Sp) (e : Ex) : bndE s e = outB s e (lsB (e.args.map (bndE s)) [] []) := by cases e; rw [bndE, bndS_map]
def cndB (s : Sp) (e : Ex) : Ex × Int :=
  if e.op = 0 then (ex0, 0)
  else if (bndE s e).2.2 ≠ 0 then (ex0, (bndE s e).2.2)
  else if fitI (bndE s e).2.1 3 = false then (ex0, 6) else ((bndE s e).1, 0)
abbrev alnS (t : Tb) : Sp := ⟨[⟨t.nm, t, 0⟩], [], false⟩
abbrev fndI (s : List Tb) (nm : ByteArray) : Int := ixF (fun t => decide (t.nm = nm)) s 0
abbrev tbA (s : List Tb) (n : Int) : Tb := s.getD n.toNat tb0
abbrev vrsT (t : Tb) : List Vr := t.cols.map fun c => ⟨c.ty, c.lo, c.hi, c.mx, !c.nn⟩
def tplB (t : Tb) : List Ex → Nat → List Ex → List RV → List Ex × List RV × Int
  | [], _, es, vs => (es, vs, 0)
  | e :: r, i, es, vs =>
    if (bndE sp0 e).2.2 ≠ 0 then ([], [], (bndE sp0 e).2.2)
    else if fitI (bndE sp0 e).2.1 (t.cols.getD i co0).ty = false then ([], [], 6)
    else if (cstE (bndE sp0 e).1).2 ≠ 0 then ([], [], (cstE (bndE sp0 e).1).2)
    else tplB t r (i + 1) (es ++ [(bndE sp0 e).1]) (vs ++ [(cstE (bndE sp0 e).1).1])
def tupB (t : Tb) : List (List Ex) → List (List Ex) → List (List RV) → List (List Ex) × List (List RV) × Int
  | [], es, vs => (es, vs, 0)
  | u :: r, es, vs =>
    if u.length ≠ t.cols.length then ([], [], 1)
    else if (tplB t u 0 [] []).2.2 ≠ 0 then ([], [], (tplB t u 0 [] []).2.2)
    else tupB t r (es ++ [(tplB t u 0 [] []).1]) (vs ++ [(tplB t u 0 [] []).2.1])
def asgB (t : Tb) : List As → List As → List As × Int
  | [], out => (out, 0)
  | a :: r, out =>
    if colI t.cols a.col < 0 then ([], 4)
    else if (out.any fun b => decide (b.ix = colI t.cols a.col)) = true then ([], 5)
    else if (bndE (alnS t) a.ex).2.2 ≠ 0 then ([], (bndE (alnS t) a.ex).2.2)
    else if fitI (bndE (alnS t) a.ex).2.1 (t.cols.getD (colI t.cols a.col).toNat co0).ty = false then ([], 6)
    else asgB t r (out ++ [⟨a.col, colI t.cols a.col, (bndE (alnS t) a.ex).1⟩])
def exsB (s : Sp) : List Ex → List Ex → List Ex × Int
  | [], out => (out, 0)
  | e :: r, out => if (bndE s e).2.2 ≠ 0 then ([], (bndE s e).2.2) else exsB s r (out ++ [(bndE s e).1])
def itsB (s : Sp) : List It → List It → List It × Int
  | [], out => (out, 0)
  | x :: r, out =>
    if x.ag = 1 then itsB s r (out ++ [x])
    else if (bndE s x.ex).2.2 ≠ 0 then ([], (bndE s x.ex).2.2)
    else if (bndE s x.ex).2.1 = 3 ∨ (x.ag = 3 ∧ fitI (bndE s x.ex).2.1 1 = false) then ([], 6)
    else itsB s r (out ++ [⟨x.ag, (bndE s x.ex).1⟩])
def grdB (its : List It) (grp : List Ex) : Bool :=
  if grp.length = 0 ∧ (its.any fun x => !decide (x.ag = 0)) = false then true
  else decide (0 < its.length) && !(its.any fun x => decide (x.ag = 0) && (!icB x.ex || !(grp.any fun g => decide (g.ix = x.ex.ix))))
abbrev frN (f : Fr) : ByteArray := if f.al ≠ ⟨#[]⟩ then f.al else f.tb
def frB (s : List Tb) : List Fr → List Sr → List Int → List Vr → List Sr × List Int × List Vr × Int
  | [], ss, ts, vs => (ss, ts, vs, 0)
  | f :: r, ss, ts, vs =>
    if fndI s f.tb < 0 then ([], [], [], 4)
    else if (ss.any fun y => decide (y.nm = frN f)) = true then ([], [], [], 5)
    else frB s r (ss ++ [⟨frN f, tbA s (fndI s f.tb), (vs.length : Int)⟩]) (ts ++ [fndI s f.tb]) (vs ++ vrsT (tbA s (fndI s f.tb)))
def wdB (its : List It) (vs : List Vr) : Int := ((if its.length = 0 then vs.length else its.length : Nat) : Int)
def qryB (s : List Tb) (st : St) : Bd × Int :=
  if 3 < st.frm.length then (bd0, 3)
  else
    let q := frB s st.frm [] [] []
    if q.2.2.2 ≠ 0 then (bd0, q.2.2.2)
    else
      let sp : Sp := ⟨q.1, [], false⟩
      if (itsB sp st.its []).2 ≠ 0 then (bd0, (itsB sp st.its []).2)
      else if (cndB sp st.wh).2 ≠ 0 then (bd0, (cndB sp st.wh).2)
      else if (exsB sp st.grp []).2 ≠ 0 then (bd0, (exsB sp st.grp []).2)
      else if grdB (itsB sp st.its []).1 (exsB sp st.grp []).1 = false then (bd0, 1)
      else if (st.ord.any fun o => decide (wdB st.its q.2.2.1 < o.it)) = true then (bd0, 1)
      else (⟨⟨st.k, st.tb, st.cr, st.vals, st.sets, (itsB sp st.its []).1, st.frm, (cndB sp st.wh).1, (exsB sp st.grp []).1, st.ord, st.lim, st.nm⟩, 0, q.2.1, q.2.2.1, []⟩, 0)
def chgB (s : List Tb) (st : St) : Bd × Int :=
  let n := fndI s st.tb
  if n < 0 then (bd0, 4)
  else
    let t := tbA s n
    if st.k = 2 ∧ (tupB t st.vals [] []).2.2 ≠ 0 then (bd0, (tupB t st.vals [] []).2.2)
    else if st.k = 3 ∧ (asgB t st.sets []).2 ≠ 0 then (bd0, (asgB t st.sets []).2)
    else if (cndB (alnS t) st.wh).2 ≠ 0 then (bd0, (cndB (alnS t) st.wh).2)
    else (⟨⟨st.k, st.tb, st.cr, if st.k = 2 then (tupB t st.vals [] []).1 else st.vals, if st.k = 3 then (asgB t st.sets []).1 else st.sets, st.its, st.frm, (cndB (alnS t) st.wh).1, st.grp, st.ord, st.lim, st.nm⟩, n, [n], vrsT t, if st.k = 2 then (tupB t st.vals [] []).2.1 else []⟩, 0)
def binP (s : List Tb) (st : St) : Bd × Int :=
  if st.k = 1 then (bd0, 13)
  else if st.k = 2 ∨ st.k = 3 ∨ st.k = 4 then chgB s st
  else if st.k = 5 then qryB s st
  else (⟨st, 0, [], [], []⟩, 0)
theorem lsB_ok : ∀ (L : List (Ex × Int × Int)) (es : List Ex) (ks : List Int), (lsB L es ks).2.2 = 0 → (∀ x ∈ L, x.2.2 = 0) ∧ lsB L es ks = (es ++ L.map (fun x => x.1), ks ++ L.map (fun x => x.2.1), 0)
  | [], es, ks, _ => ⟨by simp, by simp [lsB]⟩
  | x :: r, es, ks, h => by
    rw [lsB] at h ⊢
    split at h
    · exact absurd h (by assumption)
    · rename_i k
      rw [if_neg k]
      obtain ⟨h1, h2⟩ := lsB_ok r _ _ h
      refine ⟨fun y hy => ?_, by rw [h2]; simp⟩
      rcases jD.1 hy with rfl | hy
      · exact qY.1 k
      · exact h1 y hy
theorem lsB_all : ∀ (L : List (Ex × Int × Int)) (es : List Ex) (ks : List Int), (∀ x ∈ L, x.2.2 = 0) → lsB L es ks = (es ++ L.map (fun x => x.1), ks ++ L.map (fun x => x.2.1), 0)
  | [], es, ks, _ => by simp [lsB]
  | x :: r, es, ks, h => by
    rw [lsB, if_neg (by rw [h x (by simp)]; simp), lsB_all r _ _ fun y hy => h y (by simp [hy])]; simp
theorem wA_self (e : Ex) : e.wA e.args = e := by cases e; rfl
abbrev agn (s s' : Sp) : Prop := ∀ (e : Ex) (i k : Int), e.op = 2 → colS s e = (i, k, 0) → colS s' (e.wI i) = (i, k, 0)
theorem agn_self {s : Sp} (h : s.nb = false) : agn s s := fun e i k _ h2 => by
  rw [colS, if_neg (by rw [h]; simp)] at h2 ⊢; exact h2
theorem bnd_again {s s' : Sp} (H : agn s s') (e : Ex) : ∀ x k, bndE s e = (x, k, 0) → bndE s' x = (x, k, 0) := by
  induction e using Ex.ind with
  | h e ih =>
    intro x k h
    rw [bndE_eq, outB] at h
    split at h
    · rename_i hc; exact absurd (congrArg (fun q : Ex × Int × Int => q.2.2) h) hc
    · rename_i hc
      obtain ⟨h1, h2⟩ := lsB_ok _ [] [] (qY.1 hc)
      rw [h2] at h
      simp only [List.nil_append, List.map_map] at h
      have hS : ∀ a ∈ e.args, bndE s' (bndE s a).1 = ((bndE s a).1, (bndE s a).2.1, 0) := fun a ha =>
        ih a ha _ _ (by have h3 := h1 _ (jE.2 ⟨a, ha, rfl⟩); exact Prod.ext rfl (Prod.ext rfl h3))
      have hL : lsB ((e.args.map fun a => (bndE s a).1).map (bndE s')) [] [] = (e.args.map fun a => (bndE s a).1, e.args.map fun a => (bndE s a).2.1, 0) := by
        rw [lsB_all _ _ _ fun y hy => by
          obtain ⟨b, hb, rfl⟩ := jE.1 hy
          obtain ⟨a, ha, rfl⟩ := jE.1 hb
          rw [hS a ha]]
        simp only [List.nil_append, List.map_map]
        congr 1
        · exact List.map_congr_left fun a ha => by show (bndE s' (bndE s a).1).1 = _; rw [hS a ha]
        · congr 1
          exact List.map_congr_left fun a ha => by show (bndE s' (bndE s a).1).2.1 = _; rw [hS a ha]
      have key : ∀ y : Ex, y.args = (e.args.map fun a => (bndE s a).1) → bndE s' y = nodeB s' y (e.args.map fun a => (bndE s a).2.1) := fun y hy => by
        rw [bndE_eq, hy, hL, outB, if_neg (by simp)]
        dsimp only
        rw [← hy, wA_self]
      change nodeB s (e.wA (e.args.map fun a => (bndE s a).1)) (e.args.map fun a => (bndE s a).2.1) = _ at h
      unfold nodeB at h
      split at h
      · rename_i h1
        cases h
        rw [key _ rfl, nodeB, if_pos h1]
      · rename_i h1
        split at h
        · rename_i h2
          split at h
          · rename_i h3; exact absurd (congrArg (fun q : Ex × Int × Int => q.2.2) h) h3
          · rename_i h3
            cases h
            have hc := H _ _ _ h2 (show colS s (e.wA (e.args.map fun a => (bndE s a).1)) = (_, _, 0) from Prod.ext rfl (Prod.ext rfl (qY.1 h3)))
            rw [key _ rfl, nodeB, if_neg h1, if_pos h2, hc, if_neg (by simp)]
        · rename_i h2
          split at h
          · rename_i h3; exact absurd (congrArg (fun q : Ex × Int × Int => q.2.2) h) h3
          · rename_i h3
            cases h
            rw [key _ rfl, nodeB, if_neg h1, if_neg h2, if_neg h3]
theorem bnd_ok {s s' : Sp} (H : agn s s') {e : Ex} (h : (bndE s e).2.2 = 0) : bndE s' (bndE s e).1 = ((bndE s e).1, (bndE s e).2.1, 0) :=
  bnd_again H e _ _ (Prod.ext rfl (Prod.ext rfl h))
theorem its_again {s : Sp} (hs : s.nb = false) : ∀ (r out : List It), (itsB s r out).2 = 0 → ∃ a : List It, a.length = r.length ∧ itsB s r out = (out ++ a, 0) ∧ ∀ out', itsB s a out' = (out' ++ a, 0)
  | [], out, _ => ⟨[], rfl, by simp [itsB], by simp [itsB]⟩
  | x :: r, out, h => by
    rw [itsB] at h ⊢
    split at h
    · rename_i h1
      rw [if_pos h1]
      obtain ⟨a, k1, k2, k3⟩ := its_again hs r _ h
      refine ⟨x :: a, by simp [k1], by rw [k2]; simp, fun out' => ?_⟩
      rw [itsB, if_pos h1, k3]; simp
    · rename_i h1
      rw [if_neg h1]
      split at h
      · exact absurd h (by assumption)
      · rename_i h2
        rw [if_neg h2]
        split at h
        · cases h
        · rename_i h3
          rw [if_neg h3]
          obtain ⟨a, k1, k2, k3⟩ := its_again hs r _ h
          have hb := bnd_ok (agn_self hs) (qY.1 h2)
          refine ⟨⟨x.ag, (bndE s x.ex).1⟩ :: a, by simp [k1], by rw [k2]; simp, fun out' => ?_⟩
          rw [itsB, if_neg h1, hb, if_neg (by simp), if_neg h3, k3]; simp
open Q
inductive Sf : Ex → Prop where
  | lit (e : Ex) (h : e.op = 1) : Sf e
  | col (e : Ex) (h : e.op = 2) : Sf e
  | una (e a : Ex) (h : e.op = 3 ∨ e.op = 9) (h2 : e.args = [a]) (ha : Sf a) : Sf e
  | bin (e a b : Ex) (h : e.op = 4 ∨ e.op = 5 ∨ e.op = 6) (h2 : e.args = [a, b]) (ha : Sf a) (hb : Sf b) : Sf e
  | dvd (e a b : Ex) (h : e.op = 7 ∨ e.op = 8) (h2 : e.args = [a, b]) (ha : Sf a) (hb : Sf b) (hc : cnB icB b = false) (hk : (evE [] b).k = 1) (hn : 1 ≤ (evE [] b).n ∧ (evE [] b).n ≤ 1000) : Sf e
abbrev arN (op : Int) (n : Nat) : Prop := ((op = 1 ∨ op = 2) ∧ n = 0) ∨ ((op = 3 ∨ op = 9 ∨ op = 17 ∨ op = 20) ∧ n = 1) ∨ (((4 ≤ op ∧ op ≤ 8) ∨ (10 ≤ op ∧ op ≤ 16) ∨ op = 18 ∨ op = 19) ∧ n = 2)
mutual
def fmE : Ex → Prop
  | .mk op _ _ _ _ _ _ args => arN op args.length ∧ fmS args
def fmS : List Ex → Prop
  | [] => True
  | a :: r => fmE a ∧ fmS r
end
theorem fmS_iff : ∀ {l : List Ex}, fmS l ↔ ∀ a ∈ l, fmE a
  | [] => by simp [fmS]
  | a :: r => by rw [fmS, fmS_iff]; simp
theorem fmE_iff (e : Ex) : fmE e ↔ arN e.op e.args.length ∧ ∀ a ∈ e.args, fmE a := by cases e; rw [fmE, fmS_iff]
theorem list1 {α : Type} {l : List α} (h : l.length = 1) : ∃ a, l = [a] := by
  match l, h with
  | [a], _ => exact ⟨a, rfl⟩
theorem list2 {α : Type} {l : List α} (h : l.length = 2) : ∃ a b, l = [a, b] := by
  match l, h with
  | [a, b], _ => exact ⟨a, b, rfl⟩
structure BndA (s : Sp) (e x : Ex) (k : Int) : Prop where
  op : x.op = e.op
  tb : x.tb = e.tb
  nm : x.nm = e.nm
  vk : x.vk = e.vk
  vn : x.vn = e.vn
  vs : x.vs = e.vs
  args : x.args = e.args.map fun a => (bndE s a).1
  ok : ∀ a ∈ e.args, (bndE s a).2.2 = 0
  lit : e.op = 1 → k = e.vk ∧ x.ix = e.ix
  col : e.op = 2 → colS s e = (x.ix, k, 0)
  nod : e.op ≠ 1 → e.op ≠ 2 → opI x (e.args.map fun a => (bndE s a).2.1) = (k, 0) ∧ x.ix = e.ix
theorem bnd_apart {s : Sp} {e x : Ex} {k : Int} (hs : ∀ (e : Ex) (l : List Ex), colS s (e.wA l) = colS s e) (h : bndE s e = (x, k, 0)) : BndA s e x k := by
  rw [bndE_eq, outB] at h
  split at h
  · rename_i hc; exact absurd (congrArg (fun q : Ex × Int × Int => q.2.2) h) hc
  · rename_i hc
    obtain ⟨h1, h2⟩ := lsB_ok _ [] [] (qY.1 hc)
    rw [h2] at h
    simp only [List.nil_append, List.map_map] at h
    have hok : ∀ a ∈ e.args, (bndE s a).2.2 = 0 := fun a ha => h1 _ (jE.2 ⟨a, ha, rfl⟩)
    change nodeB s (e.wA (e.args.map fun a => (bndE s a).1)) (e.args.map fun a => (bndE s a).2.1) = _ at h
    unfold nodeB at h
    split at h
    · rename_i h1
      cases h
      exact ⟨rfl, rfl, rfl, rfl, rfl, rfl, rfl, hok, fun _ => ⟨rfl, rfl⟩, fun k2 => absurd (show e.op = 1 from h1) (by omega), fun k1 => absurd h1 k1⟩
    · rename_i h1
      split at h
      · rename_i h2
        split at h
        · rename_i h3; exact absurd (congrArg (fun q : Ex × Int × Int => q.2.2) h) h3
        · rename_i h3
          have h3' := qY.1 h3
          rw [hs] at h3' h
          cases h
          exact ⟨rfl, rfl, rfl, rfl, rfl, rfl, rfl, hok, fun k1 => absurd k1 h1, fun _ => Prod.ext rfl (Prod.ext rfl h3'), fun _ k2 => absurd h2 k2⟩
      · rename_i h2
        split at h
        · rename_i h3; exact absurd (congrArg (fun q : Ex × Int × Int => q.2.2) h) h3
        · rename_i h3
          cases h
          exact ⟨rfl, rfl, rfl, rfl, rfl, rfl, rfl, hok, fun k1 => absurd k1 h1, fun k2 => absurd k2 h2, fun _ _ => ⟨Prod.ext rfl (qY.1 h3), rfl⟩⟩
theorem wA_any (s : Sp) (e : Ex) (l : List Ex) : colS s (e.wA l) = colS s e := by unfold colS; rfl
theorem bnd_of {s : Sp} {e : Ex} (h : (bndE s e).2.2 = 0) : BndA s e (bndE s e).1 (bndE s e).2.1 := bnd_apart (wA_any s) (Prod.ext rfl (Prod.ext rfl h))
theorem all_fit {ks : List Int} {w : Int} (h : allI ks w = true) : ∀ k ∈ ks, k = 0 ∨ k = w := fun k hk => jJ (List.all_eq_true.1 h k hk)
theorem arI_ok {e : Ex} {ks : List Int} (h : arI e ks = 0) : allI ks 1 = true ∧ (e.op = 7 ∨ e.op = 8 → (cstE (e.args.getD 1 ex0)).2 = 0 ∧ (cstE (e.args.getD 1 ex0)).1.k = 1 ∧ 1 ≤ (cstE (e.args.getD 1 ex0)).1.n ∧ (cstE (e.args.getD 1 ex0)).1.n ≤ 1000) := by
  unfold arI at h
  split at h
  · cases h
  · rename_i h1
    split at h
    · cases h
    · split at h
      · cases h
      · rename_i h2
        exact ⟨by cases hb : allI ks 1 with
        | true => rfl
        | false => exact absurd hb h1, fun ho => qY.1 fun hn => h2 ⟨ho, hn⟩⟩
theorem isI_ok {k k' : Int} {b : Bool} (h : isI k b = (k', 0)) : b = true ∧ k' = k := by
  unfold isI at h
  split at h
  · rename_i hb; exact ⟨hb, (congrArg Prod.fst h).symm⟩
  · cases h
theorem opI_hi {e : Ex} {ks : List Int} {k : Int} (h : opI e ks = (k, 0)) (h1 : ¬ (3 ≤ e.op ∧ e.op ≤ 9)) : k = 3 := by
  unfold opI at h
  rw [if_neg (by omega), if_neg (by omega)] at h
  split at h
  · split at h
    · cases h
    · split at h
      · cases h
      · exact (congrArg Prod.fst h).symm
  · split at h
    · exact (isI_ok h).2
    · split at h
      · exact (isI_ok h).2
      · exact (isI_ok h).2
theorem opI_lo {e : Ex} {ks : List Int} {k : Int} (h : opI e ks = (k, 0)) (h1 : 3 ≤ e.op ∧ e.op ≤ 8) : k = 1 ∧ arI e ks = 0 := by
  unfold opI at h
  rw [if_pos (by omega)] at h
  exact ⟨(congrArg Prod.fst h).symm, congrArg Prod.snd h⟩
theorem opI_9 {e : Ex} {ks : List Int} {k : Int} (h : opI e ks = (k, 0)) (h1 : e.op = 9) : k = 1 ∧ allI ks 2 = true := by
  unfold opI at h
  rw [if_neg (by omega), if_pos h1] at h
  exact ⟨(isI_ok h).2, (isI_ok h).1⟩
theorem cst_ok {e : Ex} (h : (cstE e).2 = 0) : cnB icB e = false ∧ (cstE e).1 = evE [] e := by
  unfold cstE at h ⊢
  split at h
  · cases h
  · rename_i h1
    rw [if_neg h1]; exact ⟨by simpa using h1, rfl⟩
theorem bnd_sf {s : Sp} (e : Ex) : fmE e → (bndE s e).2.2 = 0 → (bndE s e).2.1 ≠ 3 → Sf (bndE s e).1 := by
  induction e using Ex.ind with
  | h e ih =>
    intro hf h hk
    have B := bnd_of h
    have hF := (fmE_iff e).1 hf
    have hxo := B.op
    by_cases h1 : e.op = 1
    · exact .lit _ (hxo.trans h1)
    · by_cases h2 : e.op = 2
      · exact .col _ (hxo.trans h2)
      · obtain ⟨hop, _⟩ := B.nod h1 h2
        have hr : 3 ≤ e.op ∧ e.op ≤ 9 := Classical.byContradiction fun hn => hk (opI_hi hop (by rw [hxo]; exact hn))
        have ih2 : ∀ a ∈ e.args, ((bndE s a).2.1 = 0 ∨ (bndE s a).2.1 = 1 ∨ (bndE s a).2.1 = 2) → Sf (bndE s a).1 := fun a ha hk => ih a ha (hF.2 a ha) (B.ok a ha) (by omega)
        by_cases h9 : e.op = 9
        · obtain ⟨a, ha⟩ := list1 (show e.args.length = 1 by have := hF.1; omega)
          have hall := all_fit (opI_9 hop (hxo.trans h9)).2
          refine .una _ (bndE s a).1 (.inr (hxo.trans h9)) (by rw [B.args, ha]; rfl) (ih2 a (by rw [ha]; simp) ?_)
          have := hall (bndE s a).2.1 (jE.2 ⟨a, by rw [ha]; simp, rfl⟩)
          omega
        · obtain ⟨_, har⟩ := opI_lo hop (by omega)
          obtain ⟨hal, hdv⟩ := arI_ok har
          have hall := all_fit hal
          have ih3 : ∀ a ∈ e.args, Sf (bndE s a).1 := fun a ha => ih2 a ha (by have := hall (bndE s a).2.1 (jE.2 ⟨a, ha, rfl⟩); omega)
          by_cases h3 : e.op = 3
          · obtain ⟨a, ha⟩ := list1 (show e.args.length = 1 by have := hF.1; omega)
            exact .una _ (bndE s a).1 (.inl (hxo.trans h3)) (by rw [B.args, ha]; rfl) (ih3 a (by rw [ha]; simp))
          · obtain ⟨a, b, hab⟩ := list2 (show e.args.length = 2 by have := hF.1; omega)
            have hx : (bndE s e).1.args = [(bndE s a).1, (bndE s b).1] := by rw [B.args, hab]; rfl
            have sa := ih3 a (by rw [hab]; simp)
            have sb := ih3 b (by rw [hab]; simp)
            by_cases h78 : e.op = 7 ∨ e.op = 8
            · obtain ⟨q1, q2, q3, q4⟩ := hdv (by rw [hxo]; exact h78)
              rw [hx] at q1 q2 q3 q4
              have q1 : (cstE (bndE s b).1).2 = 0 := q1
              obtain ⟨c1, c2⟩ := cst_ok q1
              have q2 : (cstE (bndE s b).1).1.k = 1 := q2
              have q3 : 1 ≤ (cstE (bndE s b).1).1.n := q3
              have q4 : (cstE (bndE s b).1).1.n ≤ 1000 := q4
              rw [c2] at q2 q3 q4
              exact .dvd _ _ _ (by rw [hxo]; exact h78) hx sa sb c1 q2 ⟨q3, q4⟩
            · exact .bin _ _ _ (by rw [hxo]; omega) hx sa sb
abbrev tyR (s : Sp) (r : List RV) : Prop := ∀ (e : Ex) (i k : Int), e.op = 2 → colS s e = (i, k, 0) → (r.getD i.toNat rv0).k = 0 ∨ (r.getD i.toNat rv0).k = k
theorem evL_k (op : Int) : ∀ (l vs : List RV), (evL op l vs).k = 0 ∨ (evL op l vs).k = 1
  | [], _ => .inr rfl
  | v :: r, vs => by
    rw [evL]
    split
    · exact .inl rfl
    · exact evL_k op r _
theorem bnd_ev {s : Sp} {r : List RV} (hr : tyR s r) {e : Ex} (hf : fmE e) (h : (bndE s e).2.2 = 0) (hk : (bndE s e).2.1 ≠ 3) : (evE r (bndE s e).1).k = 0 ∨ (evE r (bndE s e).1).k = (bndE s e).2.1 := by
  have B := bnd_of h
  have hF := (fmE_iff e).1 hf
  have hxo := B.op
  rw [evE_eq]
  by_cases h1 : e.op = 1
  · rw [if_pos (hxo.trans h1)]
    right
    show (bndE s e).1.vk = _
    rw [B.vk, (B.lit h1).1]
  · rw [if_neg (by rw [hxo]; exact h1)]
    by_cases h2 : e.op = 2
    · rw [if_pos (hxo.trans h2)]
      exact hr e _ _ h2 (B.col h2)
    · rw [if_neg (by rw [hxo]; exact h2)]
      obtain ⟨hop, _⟩ := B.nod h1 h2
      have hr : 3 ≤ e.op ∧ e.op ≤ 9 := Classical.byContradiction fun hn => hk (opI_hi hop (by rw [hxo]; exact hn))
      have k1 : (bndE s e).2.1 = 1 := by
        by_cases h9 : e.op = 9
        · exact (opI_9 hop (hxo.trans h9)).1
        · exact (opI_lo hop (by omega)).1
      rw [k1]; exact evL_k _ _ _
structure vN (r : List RV) (e : Ex) : Prop where
  a0 : e.op ≠ 1 → e.op ≠ 2 → 0 < e.args.length
  a1 : e.op ≠ 1 → e.op ≠ 2 → e.op ≠ 3 → e.op ≠ 9 → 1 < e.args.length
  dv : e.op ≠ 1 → e.op ≠ 2 → e.op ≠ 3 → e.op ≠ 9 → e.op ≠ 4 → e.op ≠ 5 → e.op ≠ 6 → ∀ h : 1 < e.args.length, 1 ≤ (evE r e.args[1]).n
  ix : e.op = 2 → 0 ≤ e.ix ∧ e.ix < r.length
  two : e.args.length ≤ 2
mutual
def cixE (n : Nat) : Ex → Prop
  | .mk op _ _ ix _ _ _ args => (op = 2 → 0 ≤ ix ∧ ix < (n : Int)) ∧ cixS n args
def cixS (n : Nat) : List Ex → Prop
  | [] => True
  | a :: r => cixE n a ∧ cixS n r
end
theorem cixS_iff {n : Nat} : ∀ {l : List Ex}, cixS n l ↔ ∀ a ∈ l, cixE n a
  | [] => by simp [cixS]
  | a :: r => by rw [cixS, cixS_iff]; simp
theorem cixE_iff (n : Nat) (e : Ex) : cixE n e ↔ (e.op = 2 → 0 ≤ e.ix ∧ e.ix < (n : Int)) ∧ ∀ a ∈ e.args, cixE n a := by cases e; rw [cixE, cixS_iff]
theorem cn_no {e : Ex} (h : cnB icB e = false) : e.op ≠ 2 ∧ ∀ a ∈ e.args, cnB icB a = false := by
  rw [cnB_eq, Bool.or_eq_false_iff, List.any_eq_false] at h
  exact ⟨jK h.1, fun a ha => by simpa using h.2 a ha⟩
theorem ev_const (r : List RV) (e : Ex) : cnB icB e = false → evE r e = evE [] e := by
  induction e using Ex.ind with
  | h e ih =>
    intro h
    obtain ⟨h1, h2⟩ := cn_no h
    rw [evE_eq, evE_eq, if_neg h1, if_neg h1]
    rw [List.map_congr_left fun a ha => ih a ha (h2 a ha)]
theorem cix_const (n : Nat) (e : Ex) : cnB icB e = false → cixE n e := by
  induction e using Ex.ind with
  | h e ih =>
    intro h
    obtain ⟨h1, h2⟩ := cn_no h
    exact (cixE_iff n e).2 ⟨fun k => absurd k h1, fun a ha => ih a ha (h2 a ha)⟩
inductive Ev (r : List RV) : Ex → Prop where
  | mk (e : Ex) (h : vN r e) (ha : e.op ≠ 1 → e.op ≠ 2 → ∀ a ∈ e.args, Ev r a) : Ev r e
theorem sf_ev {r : List RV} {e : Ex} (h : Sf e) : cixE r.length e → e.args.length ≤ 2 → (∀ a ∈ e.args, a.args.length ≤ 2) → fmE e → Ev r e := by
  induction h with
  | lit e h => exact fun hc h2 _ _ => .mk e ⟨fun k => absurd h k, fun k => absurd h k, fun k => absurd h k, fun k => by omega, h2⟩ fun k => absurd h k
  | col e h => exact fun hc h2 _ _ => .mk e ⟨fun _ k => absurd h k, fun _ k => absurd h k, fun _ k => absurd h k, fun k => ((cixE_iff _ e).1 hc).1 k, h2⟩ fun _ k => absurd h k
  | una e a h h2 ha ih =>
    intro hc hl hl2 hf
    have hc2 := ((cixE_iff _ e).1 hc).2 a (by rw [h2]; simp)
    have hf2 := ((fmE_iff e).1 hf).2 a (by rw [h2]; simp)
    have hf3 := (fmE_iff a).1 hf2
    refine .mk e ⟨fun _ _ => by rw [h2]; simp, fun _ _ _ _ => by omega, fun _ _ _ _ => by omega, fun k => by omega, hl⟩ fun _ _ b hb => ?_
    rw [h2, jF] at hb; subst hb
    exact ih hc2 (by have := hf3.1; omega) (fun c hcm => by have := ((fmE_iff c).1 (hf3.2 c hcm)).1; omega) hf2
  | bin e a b h h2 ha hb iha ihb =>
    intro hc hl hl2 hf
    have hc2 := ((cixE_iff _ e).1 hc).2
    have hf2 := ((fmE_iff e).1 hf).2
    have sub : ∀ c ∈ e.args, (cixE r.length c → c.args.length ≤ 2 → (∀ x ∈ c.args, x.args.length ≤ 2) → fmE c → Ev r c) → Ev r c := fun c hm ih => by
      have hf3 := (fmE_iff c).1 (hf2 c hm)
      exact ih (hc2 c hm) (by have := hf3.1; omega) (fun x hx => by have := ((fmE_iff x).1 (hf3.2 x hx)).1; omega) (hf2 c hm)
    refine .mk e ⟨fun _ _ => by rw [h2]; simp, fun _ _ _ _ => by rw [h2]; simp, fun _ _ _ _ => by omega, fun k => by omega, hl⟩ fun _ _ c hm => ?_
    have hm' := hm
    rw [h2] at hm'
    simp only [jD, List.not_mem_nil, or_false] at hm'
    rcases hm' with rfl | rfl
    · exact sub _ hm iha
    · exact sub _ hm ihb
  | dvd e a b h h2 ha hb hc0 hk hn iha ihb =>
    intro hc hl hl2 hf
    have hc2 := ((cixE_iff _ e).1 hc).2
    have hf2 := ((fmE_iff e).1 hf).2
    have sub : ∀ c ∈ e.args, (cixE r.length c → c.args.length ≤ 2 → (∀ x ∈ c.args, x.args.length ≤ 2) → fmE c → Ev r c) → Ev r c := fun c hm ih => by
      have hf3 := (fmE_iff c).1 (hf2 c hm)
      exact ih (hc2 c hm) (by have := hf3.1; omega) (fun x hx => by have := ((fmE_iff x).1 (hf3.2 x hx)).1; omega) (hf2 c hm)
    refine .mk e ⟨fun _ _ => by rw [h2]; simp, fun _ _ _ _ => by rw [h2]; simp, fun _ _ _ _ _ _ _ h1 => ?_, fun k => by omega, hl⟩ fun _ _ c hm => ?_
    · have e1 : e.args[1] = b := by simp [h2]
      rw [e1, ev_const r b hc0]; exact hn.1
    · have hm' := hm
      rw [h2] at hm'
      simp only [jD, List.not_mem_nil, or_false] at hm'
      rcases hm' with rfl | rfl
      · exact sub _ hm iha
      · exact sub _ hm ihb
theorem getD_at {α : Type} {l : List α} {d : α} {i : Nat} (h : i < l.length) : l.getD i d = l[i] := by
  rw [qI, qF h]; rfl
open Q
abbrev exLT (l : List Ex) : List E.T := [.sl .un 8 (l.map exT')]
abbrev exsC (z : Nz) (l : List Ex) : C := .a (.t (.sl z 8 (l.map exT')))
abbrev rvT (v : RV) : List E.T := [.v (.int .i64 v.k), .v (.int .i64 v.n), .v (.string v.s)]
abbrev rowC (z : Nz) (r : List RV) : C := .a (.t (.sl z 3 (r.map rvT)))
abbrev rvC (v : RV) : C := .g [.t (.v (.int .i64 v.k)), .t (.v (.int .i64 v.n)), .t (.v (.string v.s))]
abbrev rowT (r : List RV) : List E.T := [.sl .un 3 (r.map rvT)]
abbrev rowsC (z : Nz) (l : List (List RV)) : C := .a (.t (.sl z 1 (l.map rowT)))
abbrev srT (s : Sr) : List E.T := [.v (.string s.nm), .v (.string s.t.nm), .sl .un 6 (s.t.cols.map coT), .sl .un 1 (s.t.keys.map iLT), .sl .un 3 (s.t.fks.map fkT), .sl .un 8 (s.t.chks.map exT'), .v (.int .i64 s.f0)]
abbrev srC (s : Sr) : C := .g [.t (.v (.string s.nm)), .t (.v (.string s.t.nm)), .t (.sl .un 6 (s.t.cols.map coT)), .t (.sl .un 1 (s.t.keys.map iLT)), .t (.sl .un 3 (s.t.fks.map fkT)), .t (.sl .un 8 (s.t.chks.map exT')), .t (.v (.int .i64 s.f0))]
abbrev spC (s : Sp) : C := .g [.t (.sl .un 7 (s.sr.map srT)), .t (.sl .un 5 (s.vr.map vrT)), .t (.v (.bool s.nb))]
abbrev asT (a : As) : List E.T := [.v (.string a.col), .v (.int .i64 a.ix), .v (.int .i64 a.ex.op), .v (.string a.ex.tb), .v (.string a.ex.nm), .v (.int .i64 a.ex.ix), .v (.int .i64 a.ex.vk), .v (.int .i64 a.ex.vn), .v (.string a.ex.vs), .sl .un 8 (a.ex.args.map exT')]
abbrev asC (a : As) : C := .g [.t (.v (.string a.col)), .t (.v (.int .i64 a.ix)), .t (.v (.int .i64 a.ex.op)), .t (.v (.string a.ex.tb)), .t (.v (.string a.ex.nm)), .t (.v (.int .i64 a.ex.ix)), .t (.v (.int .i64 a.ex.vk)), .t (.v (.int .i64 a.ex.vn)), .t (.v (.string a.ex.vs)), .t (.sl .un 8 (a.ex.args.map exT'))]
abbrev itT (x : It) : List E.T := [.v (.int .i64 x.ag), .v (.int .i64 x.ex.op), .v (.string x.ex.tb), .v (.string x.ex.nm), .v (.int .i64 x.ex.ix), .v (.int .i64 x.ex.vk), .v (.int .i64 x.ex.vn), .v (.string x.ex.vs), .sl .un 8 (x.ex.args.map exT')]
abbrev itC (x : It) : C := .g [.t (.v (.int .i64 x.ag)), .t (.v (.int .i64 x.ex.op)), .t (.v (.string x.ex.tb)), .t (.v (.string x.ex.nm)), .t (.v (.int .i64 x.ex.ix)), .t (.v (.int .i64 x.ex.vk)), .t (.v (.int .i64 x.ex.vn)), .t (.v (.string x.ex.vs)), .t (.sl .un 8 (x.ex.args.map exT'))]
abbrev frT (f : Fr) : List E.T := [.v (.string f.tb), .v (.string f.al)]
abbrev odT (o : Od) : List E.T := [.v (.int .i64 o.it), .v (.bool o.ds)]
abbrev odC (o : Od) : C := .g [.t (.v (.int .i64 o.it)), .t (.v (.bool o.ds))]
abbrev dnT (d : Dn) : List E.T := [.sl .un 6 (d.cols.map coT), .sl .un 1 (d.keys.map sLT), .sl .un 3 (d.fks.map rfT), .sl .un 8 (d.chks.map exT')]
abbrev dnC (d : Dn) : C := .g [.t (.sl .un 6 (d.cols.map coT)), .t (.sl .un 1 (d.keys.map sLT)), .t (.sl .un 3 (d.fks.map rfT)), .t (.sl .un 8 (d.chks.map exT'))]
abbrev stT (s : St) : List E.T := [.v (.int .i64 s.k), .v (.string s.tb), .sl .un 6 (s.cr.cols.map coT), .sl .un 1 (s.cr.keys.map sLT), .sl .un 3 (s.cr.fks.map rfT), .sl .un 8 (s.cr.chks.map exT'), .sl .un 1 (s.vals.map exLT), .sl .un 10 (s.sets.map asT), .sl .un 9 (s.its.map itT), .sl .un 2 (s.frm.map frT), .v (.int .i64 s.wh.op), .v (.string s.wh.tb), .v (.string s.wh.nm), .v (.int .i64 s.wh.ix), .v (.int .i64 s.wh.vk), .v (.int .i64 s.wh.vn), .v (.string s.wh.vs), .sl .un 8 (s.wh.args.map exT'), .sl .un 8 (s.grp.map exT'), .sl .un 2 (s.ord.map odT), .v (.int .i64 s.lim), .v (.string s.nm)]
abbrev stC (s : St) : C := .g [.t (.v (.int .i64 s.k)), .t (.v (.string s.tb)), .t (.sl .un 6 (s.cr.cols.map coT)), .t (.sl .un 1 (s.cr.keys.map sLT)), .t (.sl .un 3 (s.cr.fks.map rfT)), .t (.sl .un 8 (s.cr.chks.map exT')), .t (.sl .un 1 (s.vals.map exLT)), .t (.sl .un 10 (s.sets.map asT)), .t (.sl .un 9 (s.its.map itT)), .t (.sl .un 2 (s.frm.map frT)), .t (.v (.int .i64 s.wh.op)), .t (.v (.string s.wh.tb)), .t (.v (.string s.wh.nm)), .t (.v (.int .i64 s.wh.ix)), .t (.v (.int .i64 s.wh.vk)), .t (.v (.int .i64 s.wh.vn)), .t (.v (.string s.wh.vs)), .t (.sl .un 8 (s.wh.args.map exT')), .t (.sl .un 8 (s.grp.map exT')), .t (.sl .un 2 (s.ord.map odT)), .t (.v (.int .i64 s.lim)), .t (.v (.string s.nm))]
abbrev bdC (b : Bd) : C := .g [.t (.v (.int .i64 b.st.k)), .t (.v (.string b.st.tb)), .t (.sl .un 6 (b.st.cr.cols.map coT)), .t (.sl .un 1 (b.st.cr.keys.map sLT)), .t (.sl .un 3 (b.st.cr.fks.map rfT)), .t (.sl .un 8 (b.st.cr.chks.map exT')), .t (.sl .un 1 (b.st.vals.map exLT)), .t (.sl .un 10 (b.st.sets.map asT)), .t (.sl .un 9 (b.st.its.map itT)), .t (.sl .un 2 (b.st.frm.map frT)), .t (.v (.int .i64 b.st.wh.op)), .t (.v (.string b.st.wh.tb)), .t (.v (.string b.st.wh.nm)), .t (.v (.int .i64 b.st.wh.ix)), .t (.v (.int .i64 b.st.wh.vk)), .t (.v (.int .i64 b.st.wh.vn)), .t (.v (.string b.st.wh.vs)), .t (.sl .un 8 (b.st.wh.args.map exT')), .t (.sl .un 8 (b.st.grp.map exT')), .t (.sl .un 2 (b.st.ord.map odT)), .t (.v (.int .i64 b.st.lim)), .t (.v (.string b.st.nm)), .t (.v (.int .i64 b.tab)), .t (.sl .un 1 (b.tabs.map i64T)), .t (.sl .un 5 (b.vars.map vrT)), .t (.sl .un 1 (b.rows.map rowT))]
abbrev cV (s : St) : A := .t (.sl .un 1 (s.vals.map exLT))
abbrev cS (s : St) : A := .t (.sl .un 10 (s.sets.map asT))
abbrev cI (s : St) : A := .t (.sl .un 9 (s.its.map itT))
abbrev cG (s : St) : A := .t (.sl .un 8 (s.grp.map exT'))
abbrev zQ (s : St) (c6 c7 c8 : A) (w : Ex) (c18 : A) (n : Int) (c23 c24 c25 : A) : List A := [.t (.v (.int .i64 s.k)), .t (.v (.string s.tb)), .t (.sl .un 6 (s.cr.cols.map coT)), .t (.sl .un 1 (s.cr.keys.map sLT)), .t (.sl .un 3 (s.cr.fks.map rfT)), .t (.sl .un 8 (s.cr.chks.map exT')), c6, c7, c8, .t (.sl .un 2 (s.frm.map frT)), .t (.v (.int .i64 w.op)), .t (.v (.string w.tb)), .t (.v (.string w.nm)), .t (.v (.int .i64 w.ix)), .t (.v (.int .i64 w.vk)), .t (.v (.int .i64 w.vn)), .t (.v (.string w.vs)), .t (.sl .un 8 (w.args.map exT')), c18, .t (.sl .un 2 (s.ord.map odT)), .t (.v (.int .i64 s.lim)), .t (.v (.string s.nm)), .t (.v (.int .i64 n)), c23, c24, c25]
abbrev srsC (z : Nz) (l : List Sr) : C := .a (.t (.sl z 7 (l.map srT)))
abbrev valsC (z : Nz) (l : List (List Ex)) : C := .a (.t (.sl z 1 (l.map exLT)))
abbrev assC (z : Nz) (l : List As) : C := .a (.t (.sl z 10 (l.map asT)))
abbrev itsC (z : Nz) (l : List It) : C := .a (.t (.sl z 9 (l.map itT)))
abbrev frsC (z : Nz) (l : List Fr) : C := .a (.t (.sl z 2 (l.map frT)))
abbrev odsC (z : Nz) (l : List Od) : C := .a (.t (.sl z 2 (l.map odT)))
abbrev bnX (r : Ex × Int × Int) : X := .tup [exC r.1, iC r.2.1, iC r.2.2]
abbrev i2X (r : Int × Int) : X := .tup [iC r.1, iC r.2]
abbrev i3X (r : Int × Int × Int) : X := .tup [iC r.1, iC r.2.1, iC r.2.2]
theorem iCe2 {a b : Int} (h : a = b) : X.c (iC a) = .c (iC b) := by rw [h]
theorem i2e {a b : Int × Int} (h : a = b) : i2X a = i2X b := by rw [h]
theorem i3e {a b : Int × Int × Int} (h : a = b) : i3X a = i3X b := by rw [h]
theorem bne {a b : Ex × Int × Int} (h : a = b) : bnX a = bnX b := by rw [h]
theorem rvCe {a b : RV} (h : a = b) : X.c (rvC a) = .c (rvC b) := by rw [h]
theorem dcE {p q : Prop} [Decidable p] [Decidable q] (h : p ↔ q) : decide p = decide q := by simp [h]
theorem bI {p : Prop} {b : Bool} [Decidable p] (h : b = true ↔ p) : b = decide p := by
  by_cases hp : p
  · rw [jH hp]; exact h.2 hp
  · rw [jI hp]; cases b with
    | false => rfl
    | true => exact absurd (h.1 rfl) hp
theorem bnf {b : Bool} (h : (!b) = false) : b = true := by cases b; cases h; rfl
theorem bnt {b : Bool} (h : (!b) = true) : b = false := by cases b; rfl; cases h
open Q
abbrev FB (f : FuncId) (cs : List A) (H : Heap) (c : C) (b : Bool) : Prop := ∀ H' : Heap, (∀ j o, H j = some o → H' j = some o) → E.Spec Tryz.prog f (c :: cs.map C.a) H' fun x H'' => x = .c (bC b) ∧ H'' = H'
theorem ixF_hit {α : Type} {p : α → Bool} {l : List α} {i : Nat} (hi : i < l.length) (h : p l[i] = true) : ixF p (l.drop i) i = i := by
  rw [qH hi, ixF, if_pos h]
theorem ixF_miss {α : Type} {p : α → Bool} {l : List α} {i : Nat} (hi : i < l.length) (h : p l[i] = false) : ixF p (l.drop i) i = ixF p (l.drop (i + 1)) (i + 1) := by
  rw [qH hi, ixF, if_neg (by rw [h]; simp)]
theorem ixF_any {α : Type} {p : α → Bool} : ∀ (l : List α) (i : Nat), 0 ≤ ixF p l i ↔ l.any p = true
  | [], i => by simp [ixF]
  | a :: r, i => by
    rw [ixF]
    by_cases h : p a = true
    · rw [if_pos h]; simp [h]
    · rw [if_neg h, ixF_any r (i + 1)]; simp [h]
theorem ixF_le {α : Type} {p : α → Bool} : ∀ (l : List α) (i : Nat), ixF p l i < (i + l.length : Nat)
  | [], i => by rw [ixF]; simp; omega
  | a :: r, i => by
    rw [ixF]
    split
    · simp; omega
    · have := ixF_le (p := p) r (i + 1); simp only [qM]; omega
theorem idxF_co (H : Heap) (f : FuncId) (cs : List A) (gv : Co → Bool) (l : List Co) (z : Nz) (hfn : fnB Tryz.prog f = true) (hl : l.length ≤ 1000000000000000000) (hcall : ∀ x ∈ l, FB f cs H (coC x) (gv x)) : E.Spec Tryz.prog 151 [.a (.t (.sl z 6 (l.map coT))), .a (.fn f cs)] H fun x H' => x = .c (iC (ixF gv l 0)) ∧ H' = H := by
 refine Spec.enter Tryz.func151 rfl ?_
 refine AW.wk (wK 19 (l := [(0, .c (.a (.t (.sl z 6 (l.map coT))))), (1, .c (.a (.fn f cs)))]) (ll := []) (H := (H))) ?_
 refine D1 ?_
 refine AW.seq (D4 ?_)
 refine AW.block (AW.loop (fun (i : Nat) s => (i ≤ l.length ∧ ixF gv (l.drop i) i = ixF gv l 0) ∧ s = ⟨19, sp [(0, .c (.a (.t (.sl z 6 (l.map coT))))), (1, .c (.a (.fn f cs))), (4, .c (iC 0)), (7, iX .i64 (((l.map coT).length : Nat) : Int)), (8, nX i)], lv [], H⟩) (fun i => l.length - i) 0 ⟨_, by exact wK 19, ⟨qZ _, rfl⟩, rfl⟩ (fun i s hs => ?_))
 obtain ⟨⟨hi0, hI⟩, rfl⟩ := hs
 refine D2 ?_
 refine AW.seq ?_
 refine cD ?_ ?_ <;> intro h9
 ·
  have hi := oI h9
  refine AW.skip (AW.seq (AW.block (D2 ?_)))
  refine D5 ?_
  refine SeqK.r (g_callV (f := f) (cs := cs) rfl rfl hfn rfl (hcall _ (qC hi) _ (fun _ _ h => h)) rfl rfl rfl) rfl ?_
  refine Z4 ?_
  refine AW.cond _ rfl (fun h16 => ?_) (fun h16 => ?_)
  ·
   refine D2 ?_
   exact aR (fE (e := iCe2 (by rw [← hI, ixF_hit hi h16])))
  refine AW.skip (B3 ?_)
  exact ⟨i + 1, _, by exact wK 19, by omega, ⟨hi, by rw [← hI, ixF_miss hi h16]⟩, rfl⟩
 refine AW.exit ?_
 refine eth_e ?_
 refine eth_e ?_
 refine exit_here ?_
 refine D1 ?_
 exact aR (fE (e := iCe2 (by rw [← hI, qW (by rw [qA] at h9; omega), ixF])))
theorem idxF_tb (H : Heap) (f : FuncId) (cs : List A) (gv : Tb → Bool) (l : List Tb) (z : Nz) (hfn : fnB Tryz.prog f = true) (hl : l.length ≤ 1000000000000000000) (hcall : ∀ x ∈ l, FB f cs H (tbC x) (gv x)) : E.Spec Tryz.prog 108 [scC z l, .a (.fn f cs)] H fun x H' => x = .c (iC (ixF gv l 0)) ∧ H' = H := by
 refine Spec.enter Tryz.func108 rfl ?_
 refine AW.wk (wK 19 (l := [(0, .c (scC z l)), (1, .c (.a (.fn f cs)))]) (ll := []) (H := (H))) ?_
 refine D1 ?_
 refine AW.seq (D4 ?_)
 refine AW.block (AW.loop (fun (i : Nat) s => (i ≤ l.length ∧ ixF gv (l.drop i) i = ixF gv l 0) ∧ s = ⟨19, sp [(0, .c (scC z l)), (1, .c (.a (.fn f cs))), (4, .c (iC 0)), (7, iX .i64 (((l.map tbT).length : Nat) : Int)), (8, nX i)], lv [], H⟩) (fun i => l.length - i) 0 ⟨_, by exact wK 19, ⟨qZ _, rfl⟩, rfl⟩ (fun i s hs => ?_))
 obtain ⟨⟨hi0, hI⟩, rfl⟩ := hs
 refine D2 ?_
 refine AW.seq ?_
 refine cD ?_ ?_ <;> intro h9
 ·
  have hi := oI h9
  refine AW.skip (AW.seq (AW.block (D2 ?_)))
  refine D5 ?_
  refine SeqK.r (g_callV (f := f) (cs := cs) rfl rfl hfn rfl (hcall _ (qC hi) _ (fun _ _ h => h)) rfl rfl rfl) rfl ?_
  refine Z4 ?_
  refine AW.cond _ rfl (fun h16 => ?_) (fun h16 => ?_)
  ·
   refine D2 ?_
   exact aR (fE (e := iCe2 (by rw [← hI, ixF_hit hi h16])))
  refine AW.skip (B3 ?_)
  exact ⟨i + 1, _, by exact wK 19, by omega, ⟨hi, by rw [← hI, ixF_miss hi h16]⟩, rfl⟩
 refine AW.exit ?_
 refine eth_e ?_
 refine eth_e ?_
 refine exit_here ?_
 refine D1 ?_
 exact aR (fE (e := iCe2 (by rw [← hI, qW (by rw [qA] at h9; omega), ixF])))
theorem idxF_it (H : Heap) (f : FuncId) (cs : List A) (gv : Int → Bool) (l : List Int) (z : Nz) (hfn : fnB Tryz.prog f = true) (hl : l.length ≤ 1000000000000000000) (hcall : ∀ x ∈ l, FB f cs H (iC x) (gv x)) : E.Spec Tryz.prog 183 [iL z l, .a (.fn f cs)] H fun x H' => x = .c (iC (ixF gv l 0)) ∧ H' = H := by
 refine Spec.enter Tryz.func183 rfl ?_
 refine AW.wk (wK 19 (l := [(0, .c (iL z l)), (1, .c (.a (.fn f cs)))]) (ll := []) (H := (H))) ?_
 refine D1 ?_
 refine AW.seq (D4 ?_)
 refine AW.block (AW.loop (fun (i : Nat) s => (i ≤ l.length ∧ ixF gv (l.drop i) i = ixF gv l 0) ∧ s = ⟨19, sp [(0, .c (iL z l)), (1, .c (.a (.fn f cs))), (4, .c (iC 0)), (7, iX .i64 (((l.map i64T).length : Nat) : Int)), (8, nX i)], lv [], H⟩) (fun i => l.length - i) 0 ⟨_, by exact wK 19, ⟨qZ _, rfl⟩, rfl⟩ (fun i s hs => ?_))
 obtain ⟨⟨hi0, hI⟩, rfl⟩ := hs
 refine D2 ?_
 refine AW.seq ?_
 refine cD ?_ ?_ <;> intro h9
 ·
  have hi := oI h9
  refine AW.skip (AW.seq (AW.block (D2 ?_)))
  refine D5 ?_
  refine SeqK.r (g_callV (f := f) (cs := cs) rfl rfl hfn rfl (hcall _ (qC hi) _ (fun _ _ h => h)) rfl rfl rfl) rfl ?_
  refine Z4 ?_
  refine AW.cond _ rfl (fun h16 => ?_) (fun h16 => ?_)
  ·
   refine D2 ?_
   exact aR (fE (e := iCe2 (by rw [← hI, ixF_hit hi h16])))
  refine AW.skip (B3 ?_)
  exact ⟨i + 1, _, by exact wK 19, by omega, ⟨hi, by rw [← hI, ixF_miss hi h16]⟩, rfl⟩
 refine AW.exit ?_
 refine eth_e ?_
 refine eth_e ?_
 refine exit_here ?_
 refine D1 ?_
 exact aR (fE (e := iCe2 (by rw [← hI, qW (by rw [qA] at h9; omega), ixF])))
theorem anyF_it (H : Heap) (f : FuncId) (cs : List A) (gv : Int → Bool) (l : List Int) (z : Nz) (hfn : fnB Tryz.prog f = true) (hl : l.length ≤ 1000000000000000000) (hcall : ∀ x ∈ l, FB f cs H (iC x) (gv x)) : E.Spec Tryz.prog 159 [iL z l, .a (.fn f cs)] H fun x H' => x = .c (bC (l.any gv)) ∧ H' = H := by
 refine Spec.enter Tryz.func159 rfl ?_
 refine AW.wk (wK 9 (l := [(0, .c (iL z l)), (1, .c (.a (.fn f cs)))]) (ll := []) (H := (H))) ?_
 refine D1 ?_
 refine D2 ?_
 refine SeqK.r (g_call rfl fn183 rfl (idxF_it H f cs gv l z hfn hl hcall) rfl rfl rfl) rfl ?_
 refine G2 ?_
 exact aR (fE (e := bCe (bI (ixF_any l 0).symm).symm))
theorem idxF_ex (H : Heap) (f : FuncId) (cs : List A) (gv : Ex → Bool) (l : List Ex) (z : Nz) (hfn : fnB Tryz.prog f = true) (hl : l.length ≤ 1000000000000000000) (hcall : ∀ x ∈ l, FB f cs H (exC x) (gv x)) : E.Spec Tryz.prog 155 [exsC z l, .a (.fn f cs)] H fun x H' => x = .c (iC (ixF gv l 0)) ∧ H' = H := by
 refine Spec.enter Tryz.func155 rfl ?_
 refine AW.wk (wK 19 (l := [(0, .c (exsC z l)), (1, .c (.a (.fn f cs)))]) (ll := []) (H := (H))) ?_
 refine D1 ?_
 refine AW.seq (D4 ?_)
 refine AW.block (AW.loop (fun (i : Nat) s => (i ≤ l.length ∧ ixF gv (l.drop i) i = ixF gv l 0) ∧ s = ⟨19, sp [(0, .c (exsC z l)), (1, .c (.a (.fn f cs))), (4, .c (iC 0)), (7, iX .i64 (((l.map exT').length : Nat) : Int)), (8, nX i)], lv [], H⟩) (fun i => l.length - i) 0 ⟨_, by exact wK 19, ⟨qZ _, rfl⟩, rfl⟩ (fun i s hs => ?_))
 obtain ⟨⟨hi0, hI⟩, rfl⟩ := hs
 refine D2 ?_
 refine AW.seq ?_
 refine cD ?_ ?_ <;> intro h9
 ·
  have hi := oI h9
  refine AW.skip (AW.seq (AW.block (D2 ?_)))
  refine D5 ?_
  refine SeqK.r (g_callV (f := f) (cs := cs) rfl rfl hfn rfl (hcall _ (qC hi) _ (fun _ _ h => h)) rfl rfl rfl) rfl ?_
  refine Z4 ?_
  refine AW.cond _ rfl (fun h16 => ?_) (fun h16 => ?_)
  ·
   refine D2 ?_
   exact aR (fE (e := iCe2 (by rw [← hI, ixF_hit hi h16])))
  refine AW.skip (B3 ?_)
  exact ⟨i + 1, _, by exact wK 19, by omega, ⟨hi, by rw [← hI, ixF_miss hi h16]⟩, rfl⟩
 refine AW.exit ?_
 refine eth_e ?_
 refine eth_e ?_
 refine exit_here ?_
 refine D1 ?_
 exact aR (fE (e := iCe2 (by rw [← hI, qW (by rw [qA] at h9; omega), ixF])))
theorem anyF_ex (H : Heap) (f : FuncId) (cs : List A) (gv : Ex → Bool) (l : List Ex) (z : Nz) (hfn : fnB Tryz.prog f = true) (hl : l.length ≤ 1000000000000000000) (hcall : ∀ x ∈ l, FB f cs H (exC x) (gv x)) : E.Spec Tryz.prog 120 [exsC z l, .a (.fn f cs)] H fun x H' => x = .c (bC (l.any gv)) ∧ H' = H := by
 refine Spec.enter Tryz.func120 rfl ?_
 refine AW.wk (wK 9 (l := [(0, .c (exsC z l)), (1, .c (.a (.fn f cs)))]) (ll := []) (H := (H))) ?_
 refine D1 ?_
 refine D2 ?_
 refine SeqK.r (g_call rfl fn155 rfl (idxF_ex H f cs gv l z hfn hl hcall) rfl rfl rfl) rfl ?_
 refine G2 ?_
 exact aR (fE (e := bCe (bI (ixF_any l 0).symm).symm))
theorem idxF_as (H : Heap) (f : FuncId) (cs : List A) (gv : As → Bool) (l : List As) (z : Nz) (hfn : fnB Tryz.prog f = true) (hl : l.length ≤ 1000000000000000000) (hcall : ∀ x ∈ l, FB f cs H (asC x) (gv x)) : E.Spec Tryz.prog 153 [assC z l, .a (.fn f cs)] H fun x H' => x = .c (iC (ixF gv l 0)) ∧ H' = H := by
 refine Spec.enter Tryz.func153 rfl ?_
 refine AW.wk (wK 19 (l := [(0, .c (assC z l)), (1, .c (.a (.fn f cs)))]) (ll := []) (H := (H))) ?_
 refine D1 ?_
 refine AW.seq (D4 ?_)
 refine AW.block (AW.loop (fun (i : Nat) s => (i ≤ l.length ∧ ixF gv (l.drop i) i = ixF gv l 0) ∧ s = ⟨19, sp [(0, .c (assC z l)), (1, .c (.a (.fn f cs))), (4, .c (iC 0)), (7, iX .i64 (((l.map asT).length : Nat) : Int)), (8, nX i)], lv [], H⟩) (fun i => l.length - i) 0 ⟨_, by exact wK 19, ⟨qZ _, rfl⟩, rfl⟩ (fun i s hs => ?_))
 obtain ⟨⟨hi0, hI⟩, rfl⟩ := hs
 refine D2 ?_
 refine AW.seq ?_
 refine cD ?_ ?_ <;> intro h9
 ·
  have hi := oI h9
  refine AW.skip (AW.seq (AW.block (D2 ?_)))
  refine D5 ?_
  refine SeqK.r (g_callV (f := f) (cs := cs) rfl rfl hfn rfl (hcall _ (qC hi) _ (fun _ _ h => h)) rfl rfl rfl) rfl ?_
  refine Z4 ?_
  refine AW.cond _ rfl (fun h16 => ?_) (fun h16 => ?_)
  ·
   refine D2 ?_
   exact aR (fE (e := iCe2 (by rw [← hI, ixF_hit hi h16])))
  refine AW.skip (B3 ?_)
  exact ⟨i + 1, _, by exact wK 19, by omega, ⟨hi, by rw [← hI, ixF_miss hi h16]⟩, rfl⟩
 refine AW.exit ?_
 refine eth_e ?_
 refine eth_e ?_
 refine exit_here ?_
 refine D1 ?_
 exact aR (fE (e := iCe2 (by rw [← hI, qW (by rw [qA] at h9; omega), ixF])))
theorem anyF_as (H : Heap) (f : FuncId) (cs : List A) (gv : As → Bool) (l : List As) (z : Nz) (hfn : fnB Tryz.prog f = true) (hl : l.length ≤ 1000000000000000000) (hcall : ∀ x ∈ l, FB f cs H (asC x) (gv x)) : E.Spec Tryz.prog 113 [assC z l, .a (.fn f cs)] H fun x H' => x = .c (bC (l.any gv)) ∧ H' = H := by
 refine Spec.enter Tryz.func113 rfl ?_
 refine AW.wk (wK 9 (l := [(0, .c (assC z l)), (1, .c (.a (.fn f cs)))]) (ll := []) (H := (H))) ?_
 refine D1 ?_
 refine D2 ?_
 refine SeqK.r (g_call rfl fn153 rfl (idxF_as H f cs gv l z hfn hl hcall) rfl rfl rfl) rfl ?_
 refine G2 ?_
 exact aR (fE (e := bCe (bI (ixF_any l 0).symm).symm))
theorem idxF_sr (H : Heap) (f : FuncId) (cs : List A) (gv : Sr → Bool) (l : List Sr) (z : Nz) (hfn : fnB Tryz.prog f = true) (hl : l.length ≤ 1000000000000000000) (hcall : ∀ x ∈ l, FB f cs H (srC x) (gv x)) : E.Spec Tryz.prog 115 [srsC z l, .a (.fn f cs)] H fun x H' => x = .c (iC (ixF gv l 0)) ∧ H' = H := by
 refine Spec.enter Tryz.func115 rfl ?_
 refine AW.wk (wK 19 (l := [(0, .c (srsC z l)), (1, .c (.a (.fn f cs)))]) (ll := []) (H := (H))) ?_
 refine D1 ?_
 refine AW.seq (D4 ?_)
 refine AW.block (AW.loop (fun (i : Nat) s => (i ≤ l.length ∧ ixF gv (l.drop i) i = ixF gv l 0) ∧ s = ⟨19, sp [(0, .c (srsC z l)), (1, .c (.a (.fn f cs))), (4, .c (iC 0)), (7, iX .i64 (((l.map srT).length : Nat) : Int)), (8, nX i)], lv [], H⟩) (fun i => l.length - i) 0 ⟨_, by exact wK 19, ⟨qZ _, rfl⟩, rfl⟩ (fun i s hs => ?_))
 obtain ⟨⟨hi0, hI⟩, rfl⟩ := hs
 refine D2 ?_
 refine AW.seq ?_
 refine cD ?_ ?_ <;> intro h9
 ·
  have hi := oI h9
  refine AW.skip (AW.seq (AW.block (D2 ?_)))
  refine D5 ?_
  refine SeqK.r (g_callV (f := f) (cs := cs) rfl rfl hfn rfl (hcall _ (qC hi) _ (fun _ _ h => h)) rfl rfl rfl) rfl ?_
  refine Z4 ?_
  refine AW.cond _ rfl (fun h16 => ?_) (fun h16 => ?_)
  ·
   refine D2 ?_
   exact aR (fE (e := iCe2 (by rw [← hI, ixF_hit hi h16])))
  refine AW.skip (B3 ?_)
  exact ⟨i + 1, _, by exact wK 19, by omega, ⟨hi, by rw [← hI, ixF_miss hi h16]⟩, rfl⟩
 refine AW.exit ?_
 refine eth_e ?_
 refine eth_e ?_
 refine exit_here ?_
 refine D1 ?_
 exact aR (fE (e := iCe2 (by rw [← hI, qW (by rw [qA] at h9; omega), ixF])))
theorem anyF_sr (H : Heap) (f : FuncId) (cs : List A) (gv : Sr → Bool) (l : List Sr) (z : Nz) (hfn : fnB Tryz.prog f = true) (hl : l.length ≤ 1000000000000000000) (hcall : ∀ x ∈ l, FB f cs H (srC x) (gv x)) : E.Spec Tryz.prog 68 [srsC z l, .a (.fn f cs)] H fun x H' => x = .c (bC (l.any gv)) ∧ H' = H := by
 refine Spec.enter Tryz.func68 rfl ?_
 refine AW.wk (wK 9 (l := [(0, .c (srsC z l)), (1, .c (.a (.fn f cs)))]) (ll := []) (H := (H))) ?_
 refine D1 ?_
 refine D2 ?_
 refine SeqK.r (g_call rfl fn115 rfl (idxF_sr H f cs gv l z hfn hl hcall) rfl rfl rfl) rfl ?_
 refine G2 ?_
 exact aR (fE (e := bCe (bI (ixF_any l 0).symm).symm))
theorem idxF_tm (H : Heap) (f : FuncId) (cs : List A) (gv : It → Bool) (l : List It) (z : Nz) (hfn : fnB Tryz.prog f = true) (hl : l.length ≤ 1000000000000000000) (hcall : ∀ x ∈ l, FB f cs H (itC x) (gv x)) : E.Spec Tryz.prog 154 [itsC z l, .a (.fn f cs)] H fun x H' => x = .c (iC (ixF gv l 0)) ∧ H' = H := by
 refine Spec.enter Tryz.func154 rfl ?_
 refine AW.wk (wK 19 (l := [(0, .c (itsC z l)), (1, .c (.a (.fn f cs)))]) (ll := []) (H := (H))) ?_
 refine D1 ?_
 refine AW.seq (D4 ?_)
 refine AW.block (AW.loop (fun (i : Nat) s => (i ≤ l.length ∧ ixF gv (l.drop i) i = ixF gv l 0) ∧ s = ⟨19, sp [(0, .c (itsC z l)), (1, .c (.a (.fn f cs))), (4, .c (iC 0)), (7, iX .i64 (((l.map itT).length : Nat) : Int)), (8, nX i)], lv [], H⟩) (fun i => l.length - i) 0 ⟨_, by exact wK 19, ⟨qZ _, rfl⟩, rfl⟩ (fun i s hs => ?_))
 obtain ⟨⟨hi0, hI⟩, rfl⟩ := hs
 refine D2 ?_
 refine AW.seq ?_
 refine cD ?_ ?_ <;> intro h9
 ·
  have hi := oI h9
  refine AW.skip (AW.seq (AW.block (D2 ?_)))
  refine D5 ?_
  refine SeqK.r (g_callV (f := f) (cs := cs) rfl rfl hfn rfl (hcall _ (qC hi) _ (fun _ _ h => h)) rfl rfl rfl) rfl ?_
  refine Z4 ?_
  refine AW.cond _ rfl (fun h16 => ?_) (fun h16 => ?_)
  ·
   refine D2 ?_
   exact aR (fE (e := iCe2 (by rw [← hI, ixF_hit hi h16])))
  refine AW.skip (B3 ?_)
  exact ⟨i + 1, _, by exact wK 19, by omega, ⟨hi, by rw [← hI, ixF_miss hi h16]⟩, rfl⟩
 refine AW.exit ?_
 refine eth_e ?_
 refine eth_e ?_
 refine exit_here ?_
 refine D1 ?_
 exact aR (fE (e := iCe2 (by rw [← hI, qW (by rw [qA] at h9; omega), ixF])))
theorem anyF_tm (H : Heap) (f : FuncId) (cs : List A) (gv : It → Bool) (l : List It) (z : Nz) (hfn : fnB Tryz.prog f = true) (hl : l.length ≤ 1000000000000000000) (hcall : ∀ x ∈ l, FB f cs H (itC x) (gv x)) : E.Spec Tryz.prog 117 [itsC z l, .a (.fn f cs)] H fun x H' => x = .c (bC (l.any gv)) ∧ H' = H := by
 refine Spec.enter Tryz.func117 rfl ?_
 refine AW.wk (wK 9 (l := [(0, .c (itsC z l)), (1, .c (.a (.fn f cs)))]) (ll := []) (H := (H))) ?_
 refine D1 ?_
 refine D2 ?_
 refine SeqK.r (g_call rfl fn154 rfl (idxF_tm H f cs gv l z hfn hl hcall) rfl rfl rfl) rfl ?_
 refine G2 ?_
 exact aR (fE (e := bCe (bI (ixF_any l 0).symm).symm))
theorem idxF_od (H : Heap) (f : FuncId) (cs : List A) (gv : Od → Bool) (l : List Od) (z : Nz) (hfn : fnB Tryz.prog f = true) (hl : l.length ≤ 1000000000000000000) (hcall : ∀ x ∈ l, FB f cs H (odC x) (gv x)) : E.Spec Tryz.prog 122 [odsC z l, .a (.fn f cs)] H fun x H' => x = .c (iC (ixF gv l 0)) ∧ H' = H := by
 refine Spec.enter Tryz.func122 rfl ?_
 refine AW.wk (wK 19 (l := [(0, .c (odsC z l)), (1, .c (.a (.fn f cs)))]) (ll := []) (H := (H))) ?_
 refine D1 ?_
 refine AW.seq (D4 ?_)
 refine AW.block (AW.loop (fun (i : Nat) s => (i ≤ l.length ∧ ixF gv (l.drop i) i = ixF gv l 0) ∧ s = ⟨19, sp [(0, .c (odsC z l)), (1, .c (.a (.fn f cs))), (4, .c (iC 0)), (7, iX .i64 (((l.map odT).length : Nat) : Int)), (8, nX i)], lv [], H⟩) (fun i => l.length - i) 0 ⟨_, by exact wK 19, ⟨qZ _, rfl⟩, rfl⟩ (fun i s hs => ?_))
 obtain ⟨⟨hi0, hI⟩, rfl⟩ := hs
 refine D2 ?_
 refine AW.seq ?_
 refine cD ?_ ?_ <;> intro h9
 ·
  have hi := oI h9
  refine AW.skip (AW.seq (AW.block (D2 ?_)))
  refine D5 ?_
  refine SeqK.r (g_callV (f := f) (cs := cs) rfl rfl hfn rfl (hcall _ (qC hi) _ (fun _ _ h => h)) rfl rfl rfl) rfl ?_
  refine Z4 ?_
  refine AW.cond _ rfl (fun h16 => ?_) (fun h16 => ?_)
  ·
   refine D2 ?_
   exact aR (fE (e := iCe2 (by rw [← hI, ixF_hit hi h16])))
  refine AW.skip (B3 ?_)
  exact ⟨i + 1, _, by exact wK 19, by omega, ⟨hi, by rw [← hI, ixF_miss hi h16]⟩, rfl⟩
 refine AW.exit ?_
 refine eth_e ?_
 refine eth_e ?_
 refine exit_here ?_
 refine D1 ?_
 exact aR (fE (e := iCe2 (by rw [← hI, qW (by rw [qA] at h9; omega), ixF])))
theorem anyF_od (H : Heap) (f : FuncId) (cs : List A) (gv : Od → Bool) (l : List Od) (z : Nz) (hfn : fnB Tryz.prog f = true) (hl : l.length ≤ 1000000000000000000) (hcall : ∀ x ∈ l, FB f cs H (odC x) (gv x)) : E.Spec Tryz.prog 74 [odsC z l, .a (.fn f cs)] H fun x H' => x = .c (bC (l.any gv)) ∧ H' = H := by
 refine Spec.enter Tryz.func74 rfl ?_
 refine AW.wk (wK 9 (l := [(0, .c (odsC z l)), (1, .c (.a (.fn f cs)))]) (ll := []) (H := (H))) ?_
 refine D1 ?_
 refine D2 ?_
 refine SeqK.r (g_call rfl fn122 rfl (idxF_od H f cs gv l z hfn hl hcall) rfl rfl rfl) rfl ?_
 refine G2 ?_
 exact aR (fE (e := bCe (bI (ixF_any l 0).symm).symm))
open Q
theorem colEq_any (H : Heap) (k1 : Nat) (nm : ByteArray) (hp : H k1 = some (.box [.t (.v (.string nm))])) (c : Co) : E.Spec Tryz.prog 152 [coC c, .a (.bp k1 0)] H fun x H' => x = .c (bC (decide (c.nm = nm))) ∧ H' = H := by
 refine Spec.enter Tryz.func152 rfl ?_
 refine AW.wk (wK 8 (l := [(0, .c (coC c)), (1, .c (.a (.bp k1 0)))]) (ll := []) (H := (H))) ?_
 refine D2 ?_
 refine D3 ?_
 refine sQ (q_eqlS rfl rfl rfl) ?_
 refine sB ?_
 exact aR (f1 (q := ⟨rfl, rfl⟩))
theorem tabEq_any (H : Heap) (k1 : Nat) (nm : ByteArray) (hp : H k1 = some (.box [.t (.v (.string nm))])) (t : Tb) : E.Spec Tryz.prog 109 [tbC t, .a (.bp k1 0)] H fun x H' => x = .c (bC (decide (t.nm = nm))) ∧ H' = H := by
 refine Spec.enter Tryz.func109 rfl ?_
 refine AW.wk (wK 8 (l := [(0, .c (tbC t)), (1, .c (.a (.bp k1 0)))]) (ll := []) (H := (H))) ?_
 refine D2 ?_
 refine D3 ?_
 refine sQ (q_eqlS rfl rfl rfl) ?_
 refine sB ?_
 exact aR (f1 (q := ⟨rfl, rfl⟩))
abbrev ibX (r : Int) : X := .tup [iC (max r 0), bC (decide (0 ≤ r))]
theorem column_any (t : Tb) (nm : ByteArray) (hl : t.cols.length ≤ 1000000000) : Pu 112 [tbC t, sC nm] (ibX (colI t.cols nm)) := by
 intro H
 refine Spec.enter Tryz.func112 rfl ?_
 refine AW.wk (wK 15 (l := [(0, .c (tbC t)), (1, .c (sC nm))]) (ll := []) (H := (H))) ?_
 refine D1 ?_
 refine SeqK.newBox (r := [_]) rfl rfl rfl rfl rfl rfl (fun k3 hk3 => ?_)
 refine G2 ?_
 refine D2 ?_
 refine sQ (q_mkFn rfl rfl rfl) ?_
 refine SeqK.r (g_call rfl fn151 rfl (idxF_co (upd H k3 (some (.box [.t (.v (.string nm))]))) 152 [.bp k3 0] (fun c => decide (c.nm = nm)) t.cols .un fn152 (by omega) (fun c hc H1 h1 => colEq_any H1 k3 nm (h1 _ _ (upd_same _ _ _)) c)) rfl rfl rfl) rfl ?_
 refine sB ?_
 refine D1 ?_
 refine sQ (q_max rfl rfl rfl) ?_
 refine G4 ?_
 exact aR (fin_x (x := .tup [_, _]) (H) (.tmp rfl (.tmp rfl .nil)) rfl ((fun j o h => upd_sub hk3 j o h)) (⟨rfl, rfl⟩))
theorem find_any (s : List Tb) (z : Nz) (nm : ByteArray) (hl : s.length ≤ 1000000000) : Pu 63 [scC z s, sC nm] (ibX (fndI s nm)) := by
 intro H
 refine Spec.enter Tryz.func63 rfl ?_
 refine AW.wk (wK 14 (l := [(0, .c (scC z s)), (1, .c (sC nm))]) (ll := []) (H := (H))) ?_
 refine sR (SeqK.newBox (r := [_]) rfl rfl rfl rfl rfl rfl (fun k3 hk3 => ?_))
 refine G2 ?_
 refine D1 ?_
 refine sQ (q_mkFn rfl rfl rfl) ?_
 refine SeqK.r (g_call rfl fn108 rfl (idxF_tb (upd H k3 (some (.box [.t (.v (.string nm))]))) 109 [.bp k3 0] (fun t => decide (t.nm = nm)) s z fn109 (by omega) (fun t ht H1 h1 => tabEq_any H1 k3 nm (h1 _ _ (upd_same _ _ _)) t)) rfl rfl rfl) rfl ?_
 refine sB ?_
 refine D1 ?_
 refine sQ (q_max rfl rfl rfl) ?_
 refine G4 ?_
 exact aR (fin_x (x := .tup [_, _]) (H) (.tmp rfl (.tmp rfl .nil)) rfl ((fun j o h => upd_sub hk3 j o h)) (⟨rfl, rfl⟩))
theorem vr_take {l : List Co} {i : Nat} {zs : List (List E.T)} (hi : i < l.length) (h : zs = ((l.take i).map fun c => (⟨c.ty, c.lo, c.hi, c.mx, !c.nn⟩ : Vr)).map vrT) : zs ++ [vrT ⟨l[i].ty, l[i].lo, l[i].hi, l[i].mx, !l[i].nn⟩] = ((l.take (i + 1)).map fun c => (⟨c.ty, c.lo, c.hi, c.mx, !c.nn⟩ : Vr)).map vrT := by
  rw [qJ hi, qK, qK, h]; rfl
theorem vr_len {l : List Co} {i : Nat} {zs : List (List E.T)} (hi : i ≤ l.length) (h : zs = ((l.take i).map fun c => (⟨c.ty, c.lo, c.hi, c.mx, !c.nn⟩ : Vr)).map vrT) : zs.length = i := by
  rw [h, qA, qA, List.length_take]; omega
theorem variables_any (t : Tb) (hl : t.cols.length ≤ 1000000000) : Pu 64 [tbC t] (.c (vsC .un (vrsT t))) := by
 intro H
 refine Spec.enter Tryz.func64 rfl ?_
 refine AW.wk (wK 30 (l := [(0, .c (tbC t))]) (ll := []) (H := (H))) ?_
 refine D2 ?_
 refine D1 ?_
 refine AW.seq (D5 ?_)
 refine AW.block (AW.tip 3 88 5 rfl (fun k0 hk0 => ?_))
 refine AW.loop (fun (i : Nat) s => ∃ (kt : Nat) (zs : List (List E.T)), (i ≤ t.cols.length ∧ H kt = none ∧ zs = ((t.cols.take i).map fun c => (⟨c.ty, c.lo, c.hi, c.mx, !c.nn⟩ : Vr)).map vrT) ∧ s = ⟨30, sp [(1, .lp 1 0), (2, .c (.a nA)), (3, .c (.a (.ts kt .ne 5 zs))), (7, .c (.a (.t (.sl .un 6 (t.cols.map coT))))), (8, iX .i64 (((t.cols.map coT).length : Nat) : Int)), (9, nX i)], lv [(1, .box (zTb t))], upd H kt (some (.tip 88 5 zs.length))⟩) (fun i => t.cols.length - i) 0 ⟨_, by exact wK 30, k0, [], ⟨qZ _, hk0, rfl⟩, rfl⟩ (fun i s hs => ?_)
 obtain ⟨kt, zs, ⟨hi0, hkt, hzs⟩, rfl⟩ := hs
 refine D2 ?_
 refine AW.seq ?_
 refine cD ?_ ?_ <;> intro h10
 ·
  have hi := oI h10
  have hzl := vr_len (by omega) hzs
  refine AW.skip (AW.seq (AW.block (D5 ?_)))
  refine B14 ?_
  refine SeqK.app1 rfl (hkt) rfl el44 rfl rfl (by simp [hzl]; omega) rfl rfl (fun k27 hk27 => ?_)
  refine sB ?_
  refine B3 ?_
  exact ⟨i + 1, _, by exact wK 30, by omega, k27, zs ++ [vrT ⟨t.cols[i].ty, t.cols[i].lo, t.cols[i].hi, t.cols[i].mx, !t.cols[i].nn⟩], ⟨hi, hk27, vr_take hi hzs⟩, rfl⟩
 refine AW.exit ?_
 refine eth_e ?_
 refine eth_e ?_
 refine exit_here ?_
 refine AW.seq ?_
 obtain rfl := oE h10 hi0
 rw [qT] at hzs
 refine AW.xw 3 rfl (XW.ts.trans (XW.es hzs)) ?_
 refine B2 ?_
 exact aR (fin_x (x := .c _) (H) (.tmp rfl .nil) rfl ((fun j o h => upd_sub hkt j o h)) (⟨rfl, rfl⟩))
theorem alone_any (t : Tb) : Pu 38 [tbC t] (.c (spC (alnS t))) := by
 intro H
 refine Spec.enter Tryz.func38 rfl ?_
 refine AW.wk (wK 9 (l := [(0, .c (tbC t))]) (ll := []) (H := (H))) ?_
 refine D3 ?_
 refine D5 ?_
 refine SeqK.xw 7 rfl .un ?_
 refine G1 ?_
 refine SeqK.xw 8 rfl (XW.g (.cons XW.reA (.cons (XW.nilU (sz := 5)) (.cons XW.reA .nil)))) ?_
 refine G2 ?_
 refine AW.ret ?_
 exact f1 (.cellL rfl rfl ty92 rfl rfl .nil) (⟨rfl, rfl⟩)
theorem fits_any (k w : Int) : Pu 110 [iC k, iC w] (.c (bC (fitI k w))) := by
 intro H
 refine Spec.enter Tryz.func110 rfl ?_
 refine AW.wk (wK 12 (l := [(0, .c (iC k)), (1, .c (iC w))]) (ll := []) (H := (H))) ?_
 refine D1 ?_
 refine D2 ?_
 refine Z17 ?_ ?_ <;> intro g7
 ·
  iterate 3 refine oF ?_
  refine G2 ?_
  exact aR (fE (e := bCe (by first | rfl | exact (jH (by omega)).symm | exact (jI (by omega)).symm | exact dcE (by omega))))
 refine G5 ?_
 exact aR (fE (e := bCe (by first | rfl | exact (jH (by omega)).symm | exact (jI (by omega)).symm | exact dcE (by omega))))
theorem is_any (k : Int) (b : Bool) : Pu 125 [iC k, bC b] (i2X (isI k b)) := by
 intro H
 refine Spec.enter Tryz.func125 rfl ?_
 refine AW.wk (wK 9 (l := [(0, .c (iC k)), (1, .c (bC b))]) (ll := []) (H := (H))) ?_
 refine D2 ?_
 refine AW.seq (D3 ?_)
 refine AW.cond _ rfl (fun h7 => ?_) (fun h7 => ?_)
 ·
  refine D2 ?_
  exact aR (f2 (.tmp rfl (.tmp rfl .nil)) (⟨i2e (a := (0, 6)) (by rw [isI, if_neg (by rw [bnt h7]; simp)]), rfl⟩))
 refine AW.skip (D3 ?_)
 exact aR (f2 (.tmp rfl (.tmp rfl .nil)) (⟨i2e (a := (k, 0)) (by rw [isI, if_pos (bnf h7)]), rfl⟩))
theorem notFit_any (H : Heap) (k1 : Nat) (w : Int) (hp : H k1 = some (.box [.t (.v (.int .i64 w))])) (k : Int) : E.Spec Tryz.prog 160 [iC k, .a (.bp k1 0)] H fun x H' => x = .c (bC (!fitI k w)) ∧ H' = H := by
 refine Spec.enter Tryz.func160 rfl ?_
 refine AW.wk (wK 8 (l := [(0, .c (iC k)), (1, .c (.a (.bp k1 0)))]) (ll := []) (H := (H))) ?_
 refine D1 ?_
 refine D2 ?_
 refine Z16 fn110 (fits_any _ _) ?_
 refine G2 ?_
 exact aR (f1 (q := ⟨rfl, rfl⟩))
theorem all_nn {α : Type} {p : α → Bool} : ∀ l : List α, (!l.any fun g => !p g) = l.all p
  | [] => rfl
  | g :: r => by rw [List.any_cons, List.all_cons, ← all_nn r]; cases p g <;> simp
theorem all_any (ks : List Int) (z : Nz) (wn : Int) (hl : ks.length ≤ 1000000000) : Pu 126 [iL z ks, iC wn] (.c (bC (allI ks wn))) := by
 intro H
 refine Spec.enter Tryz.func126 rfl ?_
 refine AW.wk (wK 9 (l := [(0, .c (iL z ks)), (1, .c (iC wn))]) (ll := []) (H := (H))) ?_
 refine sR (SeqK.newBox (r := [_]) rfl rfl rfl rfl rfl rfl (fun k3 hk3 => ?_))
 refine sB ?_
 refine D1 ?_
 refine sQ (q_mkFn rfl rfl rfl) ?_
 refine SeqK.r (g_call rfl fn159 rfl (anyF_it (upd H k3 (some (.box [.t (.v (.int .i64 wn))]))) 160 [.bp k3 0] (fun k => !fitI k wn) ks z fn160 (by omega) (fun k hk H1 h1 => notFit_any H1 k3 wn (h1 _ _ (upd_same _ _ _)) k)) rfl rfl rfl) rfl ?_
 refine G2 ?_
 exact aR (fin_x (x := .c _) (H) (.tmp rfl .nil) rfl ((fun j o h => upd_sub hk3 j o h)) (⟨bCe (all_nn ks), rfl⟩))
theorem isColumn_any (e : Ex) : Pu 60 [exC e] (.c (bC (icB e))) := by
 intro H
 refine Spec.enter Tryz.func60 rfl ?_
 refine AW.wk (wK 6 (l := [(0, .c (exC e))]) (ll := []) (H := (H))) ?_
 refine D2 ?_
 refine D4 ?_
 exact aR (f1 (q := ⟨rfl, rfl⟩))
theorem isNull_any (e : Ex) : Pu 157 [exC e] (.c (bC (inuB e))) := by
 intro H
 refine Spec.enter Tryz.func157 rfl ?_
 refine AW.wk (wK 12 (l := [(0, .c (exC e))]) (ll := []) (H := (H))) ?_
 refine D2 ?_
 refine D3 ?_
 refine Z17 ?_ ?_ <;> intro g6
 ·
  refine G6 ?_
  exact aR (fE (e := bCe (by first | rfl | exact (jH (by omega)).symm | exact (jI (by omega)).symm | exact dcE (by omega))))
 iterate 4 refine oF ?_
 refine G2 ?_
 exact aR (fE (e := bCe (by first | rfl | exact (jH (by omega)).symm | exact (jI (by omega)).symm | exact dcE (by omega))))
open Q
theorem contC_any (H : Heap) (k1 : Nat) (f : FuncId) (hk : H k1 = some (.box [.fn f []])) (e : Ex) (b : Bool) (hv : ∀ H : Heap, E.Spec Tryz.prog 156 [exC e, .a (.fn f [])] H fun x H' => x = .c (bC b) ∧ H' = H) : E.Spec Tryz.prog 178 [exC e, .a (.bp k1 0)] H fun x H' => x = .c (bC b) ∧ H' = H := by
 refine Spec.enter Tryz.func178 rfl ?_
 refine AW.wk (wK 7 (l := [(0, .c (exC e)), (1, .c (.a (.bp k1 0)))]) (ll := []) (H := (H))) ?_
 refine D2 ?_
 refine D2 ?_
 refine SeqK.r (g_call rfl fn156 rfl (hv _) rfl rfl rfl) rfl ?_
 refine sB ?_
 exact aR (f1 (q := ⟨rfl, rfl⟩))
theorem contains_of (H : Heap) (f : FuncId) (p : Ex → Bool) (hfn : fnB Tryz.prog f = true) (hp : ∀ a : Ex, Pure Tryz.prog f [exC a] (.c (bC (p a)))) (e : Ex) (hl : e.args.length ≤ 1000000000) (ih : ∀ a ∈ e.args, ∀ H : Heap, E.Spec Tryz.prog 156 [exC a, .a (.fn f [])] H fun x H' => x = .c (bC (cnB p a)) ∧ H' = H) : E.Spec Tryz.prog 156 [exC e, .a (.fn f [])] H fun x H' => x = .c (bC (cnB p e)) ∧ H' = H := by
 refine Spec.enter Tryz.func156 rfl ?_
 refine AW.wk (wK 14 (l := [(0, .c (exC e)), (1, .c (.a (.fn f [])))]) (ll := []) (H := (H))) ?_
 refine D1 ?_
 refine SeqK.newBox (r := [_]) rfl rfl rfl rfl rfl rfl (fun k3 hk3 => ?_)
 refine sB ?_
 refine D2 ?_
 refine SeqK.r (g_callV (f := f) (cs := []) rfl rfl hfn rfl (hp e _) rfl rfl rfl) rfl ?_
 refine Z53 ?_ ?_ <;> intro g8
 ·
  iterate 4 refine oF ?_
  refine G2 ?_
  exact aR (fin_x (x := .c _) (H) (.tmp rfl .nil) rfl ((fun j o h => upd_sub hk3 j o h)) (⟨bCe (by rw [cnB_eq]; first | (rw [g8]; simp; done) | (rw [show p e = false by simpa using g8]; simp)), rfl⟩))
 refine G2 ?_
 refine sO (q_mkFn rfl rfl rfl) ?_
 refine SeqK.rOn (g_call rfl fn120 rfl (anyF_ex (upd H k3 (some (.box [.fn f []]))) 178 [.bp k3 0] (cnB p) e.args .un fn178 (by omega) (fun a ha H1 h1 => contC_any H1 k3 f (h1 _ _ (upd_same _ _ _)) a _ (ih a ha))) rfl rfl rfl) rfl rfl rfl ?_
 refine G2 ?_
 exact aR (fin_x (x := .c _) (H) (.tmp rfl .nil) rfl ((fun j o h => upd_sub hk3 j o h)) (⟨bCe (by rw [cnB_eq]; first | (rw [g8]; simp; done) | (rw [show p e = false by simpa using g8]; simp)), rfl⟩))
theorem contains_any {f : FuncId} {p : Ex → Bool} (hfn : fnB Tryz.prog f = true) (hp : ∀ a : Ex, Pure Tryz.prog f [exC a] (.c (bC (p a)))) (e : Ex) : fmE e → ∀ H : Heap, E.Spec Tryz.prog 156 [exC e, .a (.fn f [])] H fun x H' => x = .c (bC (cnB p e)) ∧ H' = H := by
  induction e using Ex.ind with
  | h e ih =>
    intro hf H
    have h := (fmE_iff e).1 hf
    exact contains_of H f p hfn hp e (by have := h.1; omega) fun a ha => ih a ha (h.2 a ha)
theorem columns_of (e : Ex) (hl : e.args.length ≤ 1000000000) (ih : ∀ a ∈ e.args, Pu 149 [exC a] (.c (bC (cnB icB a)))) : Pu 149 [exC e] (.c (bC (cnB icB e))) := by
 intro H
 refine Spec.enter Tryz.func149 rfl ?_
 refine AW.wk (wK 11 (l := [(0, .c (exC e))]) (ll := []) (H := (H))) ?_
 refine D2 ?_
 refine D3 ?_
 refine Z17 ?_ ?_ <;> intro g6
 ·
  iterate 3 refine oF ?_
  refine G2 ?_
  exact aR (fE (e := bCe (by rw [cnB_eq]; first | (rw [show icB e = true from jH (by omega)]; rfl) | (rw [show icB e = false from jI (by omega)]; rfl))))
 refine G2 ?_
 refine SeqK.rOn (g_call rfl fn120 rfl (Spec.arg (l := [exsC .un e.args]) (r := []) XW.fn0 (anyF_ex _ 149 [] (cnB icB) e.args .un fn149 (by omega) fun a ha H1 h1 => ih a ha H1)) rfl rfl rfl) rfl rfl rfl ?_
 refine G2 ?_
 exact aR (fE (e := bCe (by rw [cnB_eq]; first | (rw [show icB e = true from jH (by omega)]; rfl) | (rw [show icB e = false from jI (by omega)]; rfl))))
theorem columns_any (e : Ex) : fmE e → Pu 149 [exC e] (.c (bC (cnB icB e))) := by
  induction e using Ex.ind with
  | h e ih =>
    intro hf
    have h := (fmE_iff e).1 hf
    exact columns_of e (by have := h.1; omega) fun a ha => ih a ha (h.2 a ha)
open Q
theorem fl_t {a b : Int} (h : a.tmod b < 0) : IntKind.i64.wrap (IntKind.i64.wrap (a.tdiv b) - 1) = flrI a b := (if_pos h).symm
theorem fl_f {a b : Int} (h : ¬ a.tmod b < 0) : IntKind.i64.wrap (a.tdiv b) = flrI a b := (if_neg h).symm
theorem floorE_any (a b : Int) (hb : 1 ≤ b) : Pu 194 [iC a, iC b] (.c (iC (flrI a b))) := by
 intro H
 refine Spec.enter Tryz.func194 rfl ?_
 refine AW.wk (wK 16 (l := [(0, .c (iC a)), (1, .c (iC b))]) (ll := []) (H := (H))) ?_
 refine D1 ?_
 refine D2 ?_
 refine sQ (q_quo _ rfl rfl rfl (by omega) (by rfl)) ?_
 refine sB ?_
 refine AW.seq (D2 ?_)
 refine sQ (q_rem rfl rfl rfl (by omega)) ?_
 refine G2 ?_
 refine cD ?_ ?_ <;> intro h12
 ·
  refine B1 ?_
  refine sQ (q_sub _ rfl rfl rfl (rfl)) ?_
  refine sB ?_
  refine D2 ?_
  exact aR (fE (e := iCe2 (by first | exact fl_t (by assumption) | exact fl_f (by assumption))))
 refine AW.skip (D2 ?_)
 exact aR (fE (e := iCe2 (by first | exact fl_t (by assumption) | exact fl_f (by assumption))))
theorem compute_any (op : Int) (v : List RV) (z : Nz) (h0 : 0 < v.length) (h1 : op ≠ 3 → op ≠ 9 → 1 < v.length) (hb1 : op ≠ 3 → op ≠ 9 → op ≠ 4 → op ≠ 5 → op ≠ 6 → ∀ h : 1 < v.length, 1 ≤ v[1].n) (hs : v[0].s.size ≤ 1000000000000000) : Pu 177 [iC op, rowC z v] (.c (iC (cmpV op v))) := by
 have hg0 : v.getD 0 rv0 = v[0] := getD_at h0
 intro H
 refine Spec.enter Tryz.func177 rfl ?_
 refine AW.wk (wK 55 (l := [(0, .c (iC op)), (1, .c (rowC z v))]) (ll := []) (H := (H))) ?_
 refine D1 ?_
 refine D5 ?_
 refine AW.seq (D2 ?_)
 refine AW.block (D2 ?_)
 refine cD ?_ ?_ <;> intro h12
 ·
  refine D1 ?_
  refine sQ (q_neg _ rfl rfl ((rfl : IntKind.i64.wrap _ = wI (0 - v[0].n)))) ?_
  refine sB ?_
  exact aR (fE (e := iCe2 (by rw [cmpV]; simp only [hg0]; repeat (first | rw [if_neg (by assumption)] | rw [if_pos (by assumption)]); try rfl)))
 refine D2 ?_
 refine cD ?_ ?_ <;> intro h16
 ·
  refine D6 ?_
  exact aR (fE (e := iCe2 (by rw [cmpV]; simp only [hg0]; repeat (first | rw [if_neg (by assumption)] | rw [if_pos (by assumption)]); try rfl)))
 refine AW.skip (AW.seq ?_)
 have h12 := h1 (by assumption) (by assumption)
 have hg1 : v.getD 1 rv0 = v[1] := getD_at h12
 refine B5 ?_
 refine AW.seq (D2 ?_)
 refine AW.block (D2 ?_)
 refine cD ?_ ?_ <;> intro h28
 ·
  refine D2 ?_
  refine sQ (q_add _ rfl rfl rfl ((rfl : IntKind.i64.wrap _ = wI (v[0].n + v[1].n)))) ?_
  refine sB ?_
  exact aR (fE (e := iCe2 (by rw [cmpV]; simp only [hg0, hg1]; repeat (first | rw [if_neg (by assumption)] | rw [if_pos (by assumption)]); try rfl)))
 refine D2 ?_
 refine cD ?_ ?_ <;> intro h33
 ·
  refine D2 ?_
  refine sQ (q_sub _ rfl rfl rfl ((rfl : IntKind.i64.wrap _ = wI (v[0].n - v[1].n)))) ?_
  refine sB ?_
  exact aR (fE (e := iCe2 (by rw [cmpV]; simp only [hg0, hg1]; repeat (first | rw [if_neg (by assumption)] | rw [if_pos (by assumption)]); try rfl)))
 refine D2 ?_
 refine cD ?_ ?_ <;> intro h38
 ·
  refine D2 ?_
  refine sQ (q_mul _ rfl rfl rfl ((rfl : IntKind.i64.wrap _ = wI (v[0].n * v[1].n)))) ?_
  refine sB ?_
  exact aR (fE (e := iCe2 (by rw [cmpV]; simp only [hg0, hg1]; repeat (first | rw [if_neg (by assumption)] | rw [if_pos (by assumption)]); try rfl)))
 refine D2 ?_
 refine cD ?_ ?_ <;> intro h43
 ·
  refine AW.seq ?_
  have hb : 1 ≤ v[1].n := hb1 (by assumption) (by assumption) (by assumption) (by assumption) (by assumption) h12
  refine B2 ?_
  refine Z16 fn194 (floorE_any _ _ hb) ?_
  refine sB ?_
  exact aR (fE (e := iCe2 (by rw [cmpV]; simp only [hg0, hg1]; repeat (first | rw [if_neg (by assumption)] | rw [if_pos (by assumption)]); try rfl)))
 refine AW.skip (AW.seq ?_)
 have hb : 1 ≤ v[1].n := hb1 (by assumption) (by assumption) (by assumption) (by assumption) (by assumption) h12
 refine B4 ?_
 refine Z16 fn194 (floorE_any _ _ hb) ?_
 refine sQ (q_mul _ rfl rfl rfl ((rfl : IntKind.i64.wrap _ = wI (v[1].n * flrI v[0].n v[1].n)))) ?_
 refine sQ (q_sub _ rfl rfl rfl ((rfl : IntKind.i64.wrap _ = wI (v[0].n - wI (v[1].n * flrI v[0].n v[1].n))))) ?_
 refine sB ?_
 exact aR (fE (e := iCe2 (by rw [cmpV]; simp only [hg0, hg1]; repeat (first | rw [if_neg (by assumption)] | rw [if_pos (by assumption)]); try rfl)))
theorem ev_step {op : Int} {r : List RV} {l : List Ex} {i : Nat} {R : RV} (hi : i < l.length) (hI : evL op ((l.drop i).map (evE r)) ((l.take i).map (evE r)) = R) (h : ¬ (evE r l[i]).k = 0) : evL op ((l.drop (i + 1)).map (evE r)) ((l.take (i + 1)).map (evE r)) = R := by
  rw [qH hi, qL, evL, if_neg h] at hI
  rw [qJ hi, qK]; exact hI
theorem ev_null {op : Int} {r : List RV} {l : List Ex} {i : Nat} {R : RV} (hi : i < l.length) (hI : evL op ((l.drop i).map (evE r)) ((l.take i).map (evE r)) = R) (h : (evE r l[i]).k = 0) : R = rv0 := by
  rw [qH hi, qL, evL, if_pos h] at hI; exact hI.symm
theorem ev_end {op : Int} {r : List RV} {l : List Ex} {R : RV} (hI : evL op ((l.drop l.length).map (evE r)) ((l.take l.length).map (evE r)) = R) : (⟨1, cmpV op (l.map (evE r)), ⟨#[]⟩⟩ : RV) = R := by
  rw [List.drop_length, qT, List.map_nil, evL] at hI; exact hI
theorem rv_put {r : List RV} {l : List Ex} {i : Nat} {zs : List (List E.T)} (hi : i < l.length) (h : zs = ((l.take i).map (evE r)).map rvT) : zs ++ [rvT (evE r l[i])] = ((l.take (i + 1)).map (evE r)).map rvT := by
  rw [qJ hi, qK, qK, h]; rfl
theorem rv_len {r : List RV} {l : List Ex} {i : Nat} {zs : List (List E.T)} (hi : i ≤ l.length) (h : zs = ((l.take i).map (evE r)).map rvT) : zs.length = i := by
  rw [h, qA, qA, List.length_take]; omega
mutual
def tsE : Ex → Prop
  | .mk _ _ _ _ _ _ vs args => vs.size ≤ 1000000000000000 ∧ tsS args
def tsS : List Ex → Prop
  | [] => True
  | a :: r => tsE a ∧ tsS r
end
theorem tsS_iff : ∀ {l : List Ex}, tsS l ↔ ∀ a ∈ l, tsE a
  | [] => by simp [tsS]
  | a :: r => by rw [tsS, tsS_iff]; simp
theorem tsE_iff (e : Ex) : tsE e ↔ e.vs.size ≤ 1000000000000000 ∧ ∀ a ∈ e.args, tsE a := by cases e; rw [tsE, tsS_iff]
abbrev tsR (r : List RV) : Prop := ∀ v ∈ r, v.s.size ≤ 1000000000000000
theorem evL_s {op : Int} : ∀ (l vs : List RV), (evL op l vs).s = ⟨#[]⟩
  | [], _ => rfl
  | v :: r, vs => by
    rw [evL]; split
    · rfl
    · exact evL_s r _
theorem ev_s {r : List RV} (hr : tsR r) {e : Ex} (h : tsE e) : (evE r e).s.size ≤ 1000000000000000 := by
  rw [evE_eq]
  split
  · exact ((tsE_iff e).1 h).1
  · split
    · rw [qI]
      cases hg : r[e.ix.toNat]? with
      | none => show (0 : Nat) ≤ _; omega
      | some v => exact hr v (List.mem_of_getElem? hg)
    · rw [evL_s]; show (0 : Nat) ≤ _; omega
theorem value_of (r : List RV) (z : Nz) (e : Ex) (hv : vN r e) (hr : tsR r) (ht : tsE e) (ih : e.op ≠ 1 → e.op ≠ 2 → ∀ a ∈ e.args, Pu 150 [exC a, rowC z r] (.c (rvC (evE r a)))) : Pu 150 [exC e, rowC z r] (.c (rvC (evE r e))) := by
 intro H
 refine Spec.enter Tryz.func150 rfl ?_
 refine AW.wk (wK 46 (l := [(0, .c (exC e)), (1, .c (rowC z r))]) (ll := []) (H := (H))) ?_
 refine D3 ?_
 refine AW.seq (D3 ?_)
 refine AW.block (D2 ?_)
 refine cD ?_ ?_ <;> intro h11
 ·
  refine D4 ?_
  refine AW.ret ?_
  exact f1 (.cellL rfl rfl ty35 rfl rfl .nil) (⟨rvCe (a := ⟨e.vk, e.vn, e.vs⟩) (by rw [evE_eq r e, if_pos (by assumption)]), rfl⟩)
 refine D2 ?_
 refine cD ?_ ?_ <;> intro h15
 ·
  refine AW.seq ?_
  obtain ⟨hx0, hx1⟩ := hv.ix (by assumption)
  have hx : e.ix.toNat < r.length := by omega
  refine B7 ?_
  refine AW.ret ?_
  exact f1 (.cellL rfl rfl ty35 rfl rfl .nil) (⟨rvCe (a := r[e.ix.toNat]) (by rw [evE_eq r e, if_neg (by assumption), if_pos (by assumption), getD_at hx]), rfl⟩)
 refine AW.skip (AW.seq ?_)
 have ha0 := hv.a0 (by assumption) (by assumption)
 have hl2 := hv.two
 refine B1 ?_
 refine AW.seq (D5 ?_)
 refine AW.block (AW.tip 5 35 3 rfl (fun k0 hk0 => ?_))
 refine AW.loop (fun (i : Nat) s => ∃ (kt : Nat) (zs : List (List E.T)), (i ≤ e.args.length ∧ H kt = none ∧ zs = ((e.args.take i).map (evE r)).map rvT ∧ evL e.op ((e.args.drop i).map (evE r)) ((e.args.take i).map (evE r)) = evE r e) ∧ s = ⟨46, sp [(1, .c (rowC z r)), (2, .lp 2 0), (4, .lp 4 0), (5, .c (.a (.ts kt .ne 3 zs))), (23, .c (exsC .un e.args)), (24, iX .i64 (((e.args.map exT').length : Nat) : Int)), (25, nX i)], lv [(2, .box (zEx e)), (4, .box zL5)], upd H kt (some (.tip 35 3 zs.length))⟩) (fun i => e.args.length - i) 0 ⟨_, by exact wK 46, k0, [], ⟨qZ _, hk0, rfl, by rw [evE_eq r e, if_neg (by assumption), if_neg (by assumption)]; rfl⟩, rfl⟩ (fun i s hs => ?_)
 obtain ⟨kt, zs, ⟨hi0, hkt, hzs, hI⟩, rfl⟩ := hs
 refine D2 ?_
 refine AW.seq ?_
 refine cD ?_ ?_ <;> intro h26
 ·
  have hi := oI h26
  have hzl := rv_len (by omega) hzs
  refine AW.skip (AW.seq (AW.block (D5 ?_)))
  refine D2 ?_
  refine sQ (q_call _ rfl fn150 rfl (ih (by assumption) (by assumption) _ (qC hi)) rfl) ?_
  refine G3 ?_
  refine AW.seq (D4 ?_)
  refine cD ?_ ?_ <;> intro h34
  ·
   refine D3 ?_
   refine AW.ret ?_
   exact fin_x (x := .c _) (H) (.cellL rfl rfl ty35 rfl rfl .nil) rfl ((fun j o h => upd_sub hkt j o h)) (⟨rvCe (a := rv0) (ev_null hi hI (by assumption)).symm, rfl⟩)
  refine AW.skip (B3 ?_)
  refine SeqK.app1 rfl (hkt) rfl el54 rfl rfl (by simp [hzl]; omega) rfl rfl (fun k39 hk39 => ?_)
  refine sB ?_
  refine B3 ?_
  exact ⟨i + 1, _, by exact wK 46, by omega, k39, zs ++ [rvT (evE r e.args[i])], ⟨hi, hk39, rv_put hi hzs, ev_step hi hI (by assumption)⟩, rfl⟩
 refine AW.exit ?_
 refine eth_e ?_
 refine eth_e ?_
 refine exit_here ?_
 refine AW.seq ?_
 obtain rfl := oE h26 hi0
 have hI2 := ev_end hI
 rw [qT] at hzs
 refine AW.xw 5 rfl (XW.ts.trans (XW.es hzs)) ?_
 refine B3 ?_
 refine sQ (q_call _ rfl fn177 rfl (compute_any e.op (e.args.map (evE r)) .un (by rw [qA]; exact ha0) (fun a b => by rw [qA]; exact hv.a1 (by assumption) (by assumption) a b) (fun a b c d f h => by rw [qV]; exact hv.dv (by assumption) (by assumption) a b c d f (by rw [qA] at h; exact h)) (by rw [qV]; exact ev_s hr (((tsE_iff e).1 ht).2 _ (qC ha0)))) rfl) ?_
 refine G3 ?_
 refine AW.ret ?_
 exact fin_x (x := .c _) (H) (.cellL rfl rfl ty35 rfl rfl .nil) rfl ((fun j o h => upd_sub hkt j o h)) (⟨rvCe hI2, rfl⟩)
theorem value_any (r : List RV) (z : Nz) (hr : tsR r) {e : Ex} (h : Ev r e) : tsE e → Pu 150 [exC e, rowC z r] (.c (rvC (evE r e))) := by
  induction h with
  | mk e hv ha ih => exact fun ht => value_of r z e hv hr ht fun h1 h2 a hm => ih h1 h2 a hm (((tsE_iff e).1 ht).2 a hm)
theorem value_nil {e : Ex} (h : Ev [] e) (ht : tsE e) : Pu 150 [exC e, .a (nA)] (.c (rvC (evE [] e))) := Pure.arg (l := [exC e]) (r := []) (XW.nilU (sz := 3)) (value_any [] .un (fun v hv => by cases hv) h ht)
theorem constant_any (e : Ex) (hf : fmE e) (ht : tsE e) (hev : cnB icB e = false → Ev [] e) : Pu 111 [exC e] (.tup [rvC (cstE e).1, iC (cstE e).2]) := by
 intro H
 refine Spec.enter Tryz.func111 rfl ?_
 refine AW.wk (wK 9 (l := [(0, .c (exC e))]) (ll := []) (H := (H))) ?_
 refine D3 ?_
 refine AW.seq (D1 ?_)
 refine Z16 fn149 (columns_any e hf) ?_
 refine Z4 ?_
 refine AW.cond _ rfl (fun h5 => ?_) (fun h5 => ?_)
 ·
  refine D3 ?_
  exact aR (f2 (.cellL rfl rfl ty35 rfl rfl (.tmp rfl .nil)) (⟨by rw [cstE, if_pos (by assumption)]; rfl, rfl⟩))
 refine AW.skip (D1 ?_)
 refine Z16 fn150 (value_nil (hev h5) ht) ?_
 refine G2 ?_
 exact aR (f2 (.cellL rfl rfl ty35 rfl rfl (.tmp rfl .nil)) (⟨by rw [cstE, if_neg (by rw [h5]; simp)]; rfl, rfl⟩))
open Q
structure okSp (s : Sp) : Prop where
  sr : s.sr.length ≤ 1000000
  vr : s.vr.length ≤ 1000000000
  cols : ∀ x ∈ s.sr, x.t.cols.length ≤ 1000000
  f0 : ∀ x ∈ s.sr, 0 ≤ x.f0 ∧ x.f0 ≤ 1000000000000
theorem scn_step1 {tb nm : ByteArray} {l : List Sr} {i : Nat} {a b c : Int} {R : Int × Int × Int} (hi : i < l.length) (hI : scnS tb nm (l.drop i) a b c = R) (h1 : tb ≠ ⟨#[]⟩) (h2 : tb ≠ l[i].nm) : scnS tb nm (l.drop (i + 1)) a b c = R := by
  rw [qH hi, scnS, if_pos ⟨h1, h2⟩] at hI; exact hI
theorem scn_step2 {tb nm : ByteArray} {l : List Sr} {i : Nat} {a b c : Int} {R : Int × Int × Int} (hi : i < l.length) (hI : scnS tb nm (l.drop i) a b c = R) (h1 : ¬ (tb ≠ ⟨#[]⟩ ∧ tb ≠ l[i].nm)) (h2 : 0 ≤ colI l[i].t.cols nm) (h3 : (colI l[i].t.cols nm).toNat < l[i].t.cols.length) : scnS tb nm (l.drop (i + 1)) (l[i].f0 + colI l[i].t.cols nm) (l[i].t.cols[(colI l[i].t.cols nm).toNat]).ty (c + 1) = R := by
  rw [qH hi, scnS, if_neg h1, if_pos h2, getD_at h3] at hI; exact hI
theorem scn_step3 {tb nm : ByteArray} {l : List Sr} {i : Nat} {a b c : Int} {R : Int × Int × Int} (hi : i < l.length) (hI : scnS tb nm (l.drop i) a b c = R) (h1 : ¬ (tb ≠ ⟨#[]⟩ ∧ tb ≠ l[i].nm)) (h2 : ¬ 0 ≤ colI l[i].t.cols nm) : scnS tb nm (l.drop (i + 1)) a b c = R := by
  rw [qH hi, scnS, if_neg h1, if_neg h2] at hI; exact hI
theorem scn_end {tb nm : ByteArray} {l : List Sr} {a b c : Int} {R : Int × Int × Int} (hI : scnS tb nm (l.drop l.length) a b c = R) : R = (a, b, c) := by
  rw [List.drop_length, scnS] at hI; exact hI.symm
theorem colI_lt {cols : List Co} {nm : ByteArray} : colI cols nm < cols.length := by
  have := ixF_le (p := fun c : Co => decide (c.nm = nm)) cols 0
  simpa using this
theorem colS_n {s : Sp} {e : Ex} (h : ¬ s.nb = true) : colS s e = if (scnS e.tb e.nm s.sr 0 0 0).2.2 = 0 then (0, 0, 4) else if (scnS e.tb e.nm s.sr 0 0 0).2.2 = 1 then ((scnS e.tb e.nm s.sr 0 0 0).1, (scnS e.tb e.nm s.sr 0 0 0).2.1, 0) else (0, 0, 1) := by rw [colS, if_neg h]
abbrev zSp (x : Sp) : List A := [.t (.sl .un 7 (x.sr.map srT)), .t (.sl .un 5 (x.vr.map vrT)), .t (.v (.bool x.nb))]
theorem columnS_any (sc : Sp) (e : Ex) (hs : okSp sc) : Pu 79 [spC sc, exC e] (i3X (colS sc e)) := by
 have hvl := hs.vr
 have hsl := hs.sr
 intro H
 refine Spec.enter Tryz.func79 rfl ?_
 refine AW.wk (wK 83 (l := [(0, .c (spC sc)), (1, .c (exC e))]) (ll := []) (H := (H))) ?_
 refine D5 ?_
 refine AW.seq (D3 ?_)
 refine AW.cond _ rfl (fun h15 => ?_) (fun h15 => ?_)
 ·
  refine AW.seq (D3 ?_)
  refine Z17 ?_ ?_ <;> intro g19
  ·
   iterate 6 refine oF ?_
   refine G2 ?_
   refine AW.condT rfl ?_
   refine D3 ?_
   exact aR (fin_x (x := .tup [_, _, _]) (H) (.tmp rfl (.tmp rfl (.tmp rfl .nil))) rfl (fun _ _ h => h) (⟨i3e (a := (0, 0, 4)) (by rw [colS, if_pos (by assumption), if_pos (by (try simp only [qA] at *); omega)]), rfl⟩))
  refine G5 ?_
  refine sO (q_geq rfl rfl rfl) ?_
  refine G2 ?_
  refine cD ?_ ?_ <;> intro h26
  ·
   refine D3 ?_
   exact aR (fin_x (x := .tup [_, _, _]) (H) (.tmp rfl (.tmp rfl (.tmp rfl .nil))) rfl (fun _ _ h => h) (⟨i3e (a := (0, 0, 4)) (by rw [colS, if_pos (by assumption), if_pos (by (try simp only [qA] at *); omega)]), rfl⟩))
  have hv0 : ¬ (e.ix < 0 ∨ (sc.vr.length : Int) ≤ e.ix) := by (try simp only [qA] at *); omega
  have hv : e.ix.toNat < sc.vr.length := by omega
  refine AW.skip (AW.seq (AW.draw mo ?_))
  refine N7 ?_
  refine lQ (q_fieldP _ rfl fl88_0 rfl rfl) ?_
  refine N5 ?_
  exact aR (fin_x (x := .tup [_, _, _]) (H) (.tmp rfl (.tmp rfl (.tmp rfl .nil))) rfl (fun _ _ h => h) (⟨i3e (a := (e.ix, (sc.vr[e.ix.toNat]).ty, 0)) (by rw [colS, if_pos (by assumption), if_neg hv0, getD_at hv]), rfl⟩))
 refine AW.skip (D3 ?_)
 refine AW.seq (D5 ?_)
 refine AW.block (AW.loop (fun (i : Nat) s => ∃ (ca cb cc : Int), (i ≤ sc.sr.length ∧ (0 ≤ cc ∧ cc ≤ i) ∧ scnS e.tb e.nm (sc.sr.drop i) ca cb cc = (scnS e.tb e.nm sc.sr 0 0 0)) ∧ s = ⟨83, sp [(2, .lp 2 0), (3, .lp 3 0), (4, .c (iC 0)), (5, .c (iC 0)), (6, .c (iC 0)), (7, .c (iC ca)), (8, .c (iC cb)), (9, .c (iC cc)), (37, .c (srsC .un sc.sr)), (38, iX .i64 (((sc.sr.map srT).length : Nat) : Int)), (39, nX i)], lv [(2, .box (zSp sc)), (3, .box (zEx e))], H⟩) (fun i => sc.sr.length - i) 0 ⟨_, by exact wK 83, 0, 0, 0, ⟨qZ _, ⟨by omega, by omega⟩, rfl⟩, rfl⟩ (fun i s hs => ?_))
 obtain ⟨ca, cb, cc, ⟨hi0, hcc, hI⟩, rfl⟩ := hs
 refine D2 ?_
 refine AW.seq ?_
 refine cD ?_ ?_ <;> intro h40
 rotate_left
 ·
  refine AW.exit ?_
  refine eth_e ?_
  refine eth_e ?_
  refine exit_here ?_
  refine AW.seq (AW.seq ?_)
  obtain rfl := oE h40 hi0
  have hE := scn_end hI
  refine B2 ?_
  refine AW.block (D2 ?_)
  refine cD ?_ ?_ <;> intro h77
  ·
   refine D3 ?_
   exact aR (fin_x (x := .tup [_, _, _]) (H) (.tmp rfl (.tmp rfl (.tmp rfl .nil))) rfl (fun _ _ h => h) (⟨i3e (a := (0, 0, 4)) (by rw [colS_n (by rw [h15]; simp), hE, if_pos (by assumption)]), rfl⟩))
  refine D2 ?_
  refine cD ?_ ?_ <;> intro h79
  ·
   refine D5 ?_
   exact aR (fin_x (x := .tup [_, _, _]) (H) (.tmp rfl (.tmp rfl (.tmp rfl .nil))) rfl (fun _ _ h => h) (⟨i3e (a := (ca, cb, 0)) (by rw [colS_n (by rw [h15]; simp), hE, if_neg (by omega), if_pos (by assumption)]), rfl⟩))
  refine AW.skip (D3 ?_)
  exact aR (fin_x (x := .tup [_, _, _]) (H) (.tmp rfl (.tmp rfl (.tmp rfl .nil))) rfl (fun _ _ h => h) (⟨i3e (a := (0, 0, 1)) (by rw [colS_n (by rw [h15]; simp), hE, if_neg (by assumption), if_neg (by assumption)]), rfl⟩))
 have hi := oI h40
 have hsx := hs.cols _ (qC hi)
 have hsf := hs.f0 _ (qC hi)
 refine AW.skip (AW.seq (AW.block (D5 ?_)))
 refine AW.seq (D2 ?_)
 refine sQ (q_neqS rfl rfl rfl) ?_
 refine Z17 ?_ ?_ <;> intro g46
 ·
  refine G4 ?_
  refine sO (q_neqS rfl rfl rfl) ?_
  refine G2 ?_
  refine cD ?_ ?_ <;> intro h52
  ·
   refine AW.exit ?_
   refine eth_e ?_
   refine exit_here ?_
   refine B3 ?_
   exact ⟨i + 1, _, by exact wK 83, by omega, ca, cb, cc, ⟨hi, by omega, scn_step1 hi hI g46 h52⟩, rfl⟩
  refine AW.skip (D4 ?_)
  refine sQ (q_call _ rfl fn112 rfl (column_any _ _ (by omega)) rfl) ?_
  refine G5 ?_
  refine D2 ?_
  refine AW.cond _ rfl (fun h61 => ?_) (fun h61 => ?_)
  rotate_left
  ·
   have hn0 : ¬ 0 ≤ colI sc.sr[i].t.cols e.nm := by simpa using h61
   refine AW.skip (B3 ?_)
   exact ⟨i + 1, _, by exact wK 83, by omega, ca, cb, cc, ⟨hi, by omega, scn_step3 hi hI (fun k => h52 k.2) hn0⟩, rfl⟩
  have hn0 : 0 ≤ colI sc.sr[i].t.cols e.nm := by simpa using h61
  have hnl := colI_lt (cols := sc.sr[i].t.cols) (nm := e.nm)
  have hnm : max (colI sc.sr[i].t.cols e.nm) 0 = colI sc.sr[i].t.cols e.nm := by omega
  have hnt : (colI sc.sr[i].t.cols e.nm).toNat < sc.sr[i].t.cols.length := by omega
  rw [hnm]
  refine AW.seq (AW.draw mo ?_)
  refine N3 ?_
  refine lQ (q_add _ rfl rfl rfl (w64 (by omega) (by omega))) ?_
  refine N5 ?_
  refine lQ (q_fieldP _ rfl fl77_1 rfl rfl) ?_
  refine N4 ?_
  refine B3 ?_
  refine B3 ?_
  exact ⟨i + 1, _, by exact wK 83, by omega, (sc.sr[i].f0 + colI sc.sr[i].t.cols e.nm), (sc.sr[i].t.cols[(colI sc.sr[i].t.cols e.nm).toNat]).ty, (cc + 1), ⟨hi, by omega, scn_step2 hi hI (fun k => h52 k.2) hn0 hnt⟩, rfl⟩
 iterate 5 refine oF ?_
 refine G2 ?_
 refine AW.condF rfl ?_
 refine AW.skip (D4 ?_)
 refine sQ (q_call _ rfl fn112 rfl (column_any _ _ (by omega)) rfl) ?_
 refine G5 ?_
 refine D2 ?_
 refine AW.cond _ rfl (fun h61 => ?_) (fun h61 => ?_)
 rotate_left
 ·
  have hn0 : ¬ 0 ≤ colI sc.sr[i].t.cols e.nm := by simpa using h61
  refine AW.skip (B3 ?_)
  exact ⟨i + 1, _, by exact wK 83, by omega, ca, cb, cc, ⟨hi, by omega, scn_step3 hi hI (fun k => g46 k.1) hn0⟩, rfl⟩
 have hn0 : 0 ≤ colI sc.sr[i].t.cols e.nm := by simpa using h61
 have hnl := colI_lt (cols := sc.sr[i].t.cols) (nm := e.nm)
 have hnm : max (colI sc.sr[i].t.cols e.nm) 0 = colI sc.sr[i].t.cols e.nm := by omega
 have hnt : (colI sc.sr[i].t.cols e.nm).toNat < sc.sr[i].t.cols.length := by omega
 rw [hnm]
 refine AW.seq (AW.draw mo ?_)
 refine N3 ?_
 refine lQ (q_add _ rfl rfl rfl (w64 (by omega) (by omega))) ?_
 refine N5 ?_
 refine lQ (q_fieldP _ rfl fl77_1 rfl rfl) ?_
 refine N4 ?_
 refine B3 ?_
 refine B3 ?_
 exact ⟨i + 1, _, by exact wK 83, by omega, (sc.sr[i].f0 + colI sc.sr[i].t.cols e.nm), (sc.sr[i].t.cols[(colI sc.sr[i].t.cols e.nm).toNat]).ty, (cc + 1), ⟨hi, by omega, scn_step2 hi hI (fun k => g46 k.1) hn0 hnt⟩, rfl⟩
open Q
def fxL (e : Ex) : ByteArray := if vdN e = 0 then e.nm else ⟨#[]⟩
theorem lf_2 {e : Ex} (h0 : e.args = []) (h2 : e.op = 0 ∨ e.op = 2) (hA : opsN e.op = e.args.length) : e.op = 2 := by
  rcases h2 with h | h
  · rw [h, h0] at hA; exact absurd hA (by decide)
  · exact h
theorem lf_v {e : Ex} (h0 : e.args = []) (h2 : e.op = 0 ∨ e.op = 2) (hv : vdN e = 0) : e.op = 2 := by
  refine lf_2 h0 h2 ?_
  have hf : fmB e = true := by
    unfold vdN at hv
    split at hv
    · cases hv
    · split at hv
      · assumption
      · cases hv
  rw [fmB_eq] at hf
  exact jJ (Bool.and_eq_true_iff.1 hf).1
theorem operandsL (n : Int) (h : n = 0 ∨ n = 2) : Pu 171 [iC n] (.c (iC (opsN n))) := by
 intro H
 refine Spec.enter Tryz.func171 rfl ?_
 refine AW.wk (wK 27 (l := [(0, .c (iC n))]) (ll := []) (H := (H))) ?_
 refine D1 ?_
 refine AW.seq (D2 ?_)
 refine AW.block (AW.seq (D2 ?_))
 refine cD ?_ ?_ <;> intro h4
 ·
  exfalso; omega
 refine B2 ?_
 refine cD ?_ ?_ <;> intro h4
 ·
  refine D1 ?_
  exact aR (fE (e := iCe2 (by first | (rw [show n = 2 by omega]; rfl) | (rw [show n = 0 by omega]; rfl))))
 refine AW.seq (D2 ?_)
 refine cD ?_ ?_ <;> intro h7
 ·
  exfalso; omega
 refine D2 ?_
 refine cD ?_ ?_ <;> intro h7
 ·
  exfalso; omega
 refine D2 ?_
 refine cD ?_ ?_ <;> intro h7
 ·
  exfalso; omega
 refine B2 ?_
 refine cD ?_ ?_ <;> intro h7
 ·
  exfalso; omega
 refine AW.seq (D2 ?_)
 refine cD ?_ ?_ <;> intro h12
 ·
  exfalso; omega
 refine D2 ?_
 refine cD ?_ ?_ <;> intro h12
 ·
  exfalso; omega
 refine D2 ?_
 refine cD ?_ ?_ <;> intro h12
 ·
  exfalso; omega
 refine D2 ?_
 refine cD ?_ ?_ <;> intro h12
 ·
  exfalso; omega
 refine D2 ?_
 refine cD ?_ ?_ <;> intro h12
 ·
  exfalso; omega
 refine D2 ?_
 refine cD ?_ ?_ <;> intro h12
 ·
  exfalso; omega
 refine D2 ?_
 refine cD ?_ ?_ <;> intro h12
 ·
  exfalso; omega
 refine D2 ?_
 refine cD ?_ ?_ <;> intro h12
 ·
  exfalso; omega
 refine D2 ?_
 refine cD ?_ ?_ <;> intro h12
 ·
  exfalso; omega
 refine D2 ?_
 refine cD ?_ ?_ <;> intro h12
 ·
  exfalso; omega
 refine D2 ?_
 refine cD ?_ ?_ <;> intro h12
 ·
  exfalso; omega
 refine D2 ?_
 refine cD ?_ ?_ <;> intro h12
 ·
  exfalso; omega
 refine D2 ?_
 refine cD ?_ ?_ <;> intro h12
 ·
  exfalso; omega
 refine B2 ?_
 refine cD ?_ ?_ <;> intro h12
 ·
  exfalso; omega
 refine AW.skip (D1 ?_)
 exact aR (fE (e := iCe2 (by first | (rw [show n = 2 by omega]; rfl) | (rw [show n = 0 by omega]; rfl))))
theorem formedL (e : Ex) (ho : Q.okE e) (h0 : e.args = []) (h2 : e.op = 0 ∨ e.op = 2) (htb : e.tb = ⟨#[]⟩) : Pu 146 [exC e] (.c (bC (fmB e))) := by
 obtain ⟨k1, k2, k3, k4⟩ := (okE_iff.1 ho).1
 have hany : ∀ a ∈ e.args, ∀ H1 : Heap, E.Spec Tryz.prog 172 [exC a] H1 fun x H2 => x = .c (bC (!fmB a)) ∧ H2 = H1 := fun a ha H1 => by rw [h0] at ha; cases ha
 intro H
 refine Spec.enter Tryz.func146 rfl ?_
 refine AW.wk (wK 83 (l := [(0, .c (exC e))]) (ll := []) (H := (H))) ?_
 refine D2 ?_
 refine AW.seq (AW.seq (AW.draw mo ?_))
 refine N2 ?_
 refine Z35 fn171 (operandsL e.op h2) ?_
 refine N2 ?_
 refine lQ (q_len rfl un27 rfl) ?_
 refine lQ (q_neq rfl rfl rfl) ?_
 refine LexK.qD (q_mvC rfl rfl) rfl rfl rfl (fun g11 => ?_) (fun g11 => ?_)
 ·
  iterate 3 refine LexK.off rfl rfl rfl rfl rfl rfl ?_
  refine lQ (q_pkT rfl rfl rfl) ?_
  refine Z43 ?_
  refine AW.condT rfl ?_
  refine D1 ?_
  exact aR (fE (e := bCe (by first | (rw [fm_no1 (by rw [qA] at g11; exact g11)]; done) | (rw [fm_no2 (by rw [← any_not, h15]; rfl)]))))
 refine lO (q_fieldL _ rfl fl37_5 rfl rfl) ?_
 refine LexK.rOn (b_load (r := .a _) rfl ty27 rfl rfl rfl rfl rfl rfl) rfl rfl rfl ?_
 refine LexK.rOn (g_call rfl fn120 rfl (Spec.arg (l := [exsC .un e.args]) (r := []) XW.fn0 (Q.anyF_ex _ 172 [] (fun a => !fmB a) e.args .un fn172 k4 fun a ha H1 h1 => hany a ha H1)) rfl rfl rfl) rfl rfl rfl ?_
 refine lQ (q_pkF rfl rfl rfl) ?_
 refine Z43 ?_
 refine AW.cond _ rfl (fun h15 => ?_) (fun h15 => ?_)
 ·
  refine D1 ?_
  exact aR (fE (e := bCe (by first | (rw [fm_no1 (by rw [qA] at g11; exact g11)]; done) | (rw [fm_no2 (by rw [← any_not, h15]; rfl)]))))
 refine AW.skip (AW.seq (AW.seq ?_))
 have hA : opsN e.op = e.args.length := by rw [qA] at g11; exact qY.1 g11
 have hB : e.args.all fmB = true := by rw [← any_not, h15]; rfl
 have hop := lf_2 h0 h2 hA
 refine B3 ?_
 refine AW.block (D2 ?_)
 refine cD ?_ ?_ <;> intro h18
 rotate_left
 ·
  exact absurd hop h18
 refine D2 ?_
 refine sQ (q_call _ rfl fn173 rfl (aname_any e.nm (by omega)) rfl) ?_
 refine Z53 ?_ ?_ <;> intro g23
 ·
  refine G2 ?_
  refine sO (q_eqlS rfl rfl rfl) ?_
  refine Z48 ?_ ?_ <;> intro g27
  ·
   iterate 3 refine oF ?_
   refine G5 ?_
   refine sO (q_build2 (zs := [_, _, _]) (r := [_, _, _]) [(0, 1), (1, 1), (2, 1)] _ rfl ze35 rfl bp35 rfl rfl rfl rfl) ?_
   refine sO (q_eqlG [.int .i64 e.vk, .int .i64 e.vn, .string e.vs] [.int .i64 0, .int .i64 0, .string ⟨#[]⟩] rfl rfl rfl rfl rfl (by kernel_rfl) (fun w => eq25 _ _ _ _ _ _ w)) ?_
   refine G2 ?_
   exact aR (fE (e := bCe (by rw [fm_of hA hB]; (try simp only [ne_eq, qY] at *); simp [fmN, Bool.and_assoc, *])))
  exact absurd htb g27
 iterate 4 refine oF ?_
 iterate 3 refine oU ?_
 refine G3 ?_
 iterate 4 refine oF ?_
 refine G2 ?_
 exact aR (fE (e := bCe (by rw [fm_of hA hB]; (try simp only [ne_eq, qY] at *); simp [fmN, Bool.and_assoc, *])))
theorem validL (e : Ex) (ho : Q.okE e) (h0 : e.args = []) (h2 : e.op = 0 ∨ e.op = 2) (htb : e.tb = ⟨#[]⟩) (hn : ndE e ≤ 400) : Pu 102 [exC e] (.c (iC (vdN e))) := by
 have hd0 := dep_nd e
 intro H
 refine Spec.enter Tryz.func102 rfl ?_
 refine AW.wk (wK 11 (l := [(0, .c (exC e))]) (ll := []) (H := (H))) ?_
 refine D2 ?_
 refine AW.seq (AW.block (D2 ?_))
 refine SeqK.xw 5 rfl (XW.es (show _ = [e].map exT' by rw [qX, exT_eq])) ?_
 refine sQ (q_call _ rfl fn145 rfl (large_any e .un ho hn (by omega)) rfl) ?_
 refine sB ?_
 refine AW.cond _ rfl (fun h3 => ?_) (fun h3 => ?_)
 ·
  refine D1 ?_
  exact aR (fE (e := iCe2 (by unfold vdN; simp_all)))
 refine D1 ?_
 refine Z16 fn146 (formedL e ho h0 h2 htb) ?_
 refine G2 ?_
 refine AW.cond _ rfl (fun h7 => ?_) (fun h7 => ?_)
 ·
  refine D1 ?_
  exact aR (fE (e := iCe2 (by unfold vdN; simp_all)))
 refine AW.skip (D1 ?_)
 exact aR (fE (e := iCe2 (by unfold vdN; simp_all)))
theorem plainL (e : Ex) (h2 : e.op = 2) (htb : e.tb = ⟨#[]⟩) : Pu 147 [exC e] (.c (sC e.nm)) := by
 intro H
 refine Spec.enter Tryz.func147 rfl ?_
 refine AW.wk (wK 99 (l := [(0, .c (exC e))]) (ll := []) (H := (H))) ?_
 refine D2 ?_
 refine AW.seq (D3 ?_)
 refine AW.block (D2 ?_)
 refine cD ?_ ?_ <;> intro h7
 ·
  exfalso; omega
 refine D2 ?_
 refine cD ?_ ?_ <;> intro h26
 ·
  refine AW.seq (D2 ?_)
  refine sQ (q_neqS rfl rfl rfl) ?_
  refine Z4 ?_
  refine cD ?_ ?_ <;> intro h30
  ·
   exact absurd htb (by assumption)
  refine AW.skip (D3 ?_)
  exact aR (f1 (q := ⟨by first | rfl | (exact absurd htb (by assumption)), rfl⟩))
 exfalso; omega
theorem exprL (e : Ex) (h2 : e.op = 2) (htb : e.tb = ⟨#[]⟩) : Pu 103 [exC e, iC 1] (.c (sC e.nm)) := by
 have hl : lvA e.op = 8 := by rw [h2]; rfl
 intro H
 refine Spec.enter Tryz.func103 rfl ?_
 refine AW.wk (wK 16 (l := [(0, .c (exC e)), (1, .c (iC 1))]) (ll := []) (H := (H))) ?_
 refine D2 ?_
 refine D1 ?_
 refine Z16 fn147 (plainL e h2 htb) ?_
 refine sB ?_
 refine AW.seq (D1 ?_)
 refine Z16 fn148 (level_any e) ?_
 refine G3 ?_
 refine cD ?_ ?_ <;> intro h11
 ·
  exfalso; omega
 refine AW.skip (D2 ?_)
 exact aR (f1 (q := ⟨rfl, rfl⟩))
theorem formatL (e : Ex) (ho : Q.okE e) (h0 : e.args = []) (h2 : e.op = 0 ∨ e.op = 2) (htb : e.tb = ⟨#[]⟩) (hn : ndE e ≤ 400) : Pu 59 [exC e] (tup2 (fxL e) (vdN e)) := by
 intro H
 refine Spec.enter Tryz.func59 rfl ?_
 refine AW.wk (wK 12 (l := [(0, .c (exC e))]) (ll := []) (H := (H))) ?_
 refine D3 ?_
 refine AW.seq (D1 ?_)
 refine Z16 fn102 (validL e ho h0 h2 htb hn) ?_
 refine sB ?_
 refine D3 ?_
 refine cD ?_ ?_ <;> intro h8
 ·
  refine D3 ?_
  exact aR (f2 (.tmp rfl (.tmp rfl .nil)) (⟨by rw [fxL, if_neg h8], rfl⟩))
 have h8b : vdN e = 0 := qY.1 h8
 refine AW.skip (D1 ?_)
 refine Z16 fn103 (exprL e (lf_v h0 h2 h8b) htb) ?_
 refine G2 ?_
 exact aR (f2 (.tmp rfl (.tmp rfl .nil)) (⟨by rw [fxL, if_pos h8b, h8b], rfl⟩))
open Q
theorem okN1 {e : Ex} {ks : List Int} (h : allI ks 1 = true) : ¬ allI ks 1 = false := by rw [h]; simp
theorem arithmetic_any (e : Ex) (ks : List Int) (hf : fmE e) (hkl : ks.length ≤ 1000000000) (hta : ∀ a ∈ e.args, tsE a) (hev : allI ks 1 = true → e.op = 7 ∨ e.op = 8 → ∀ h : 1 < e.args.length, cnB icB e.args[1] = false → Ev [] e.args[1]) (hof : Pu 158 [exC e] (trC (ofE e))) : Pu 124 [exC e, iL .un ks] (.c (iC (arI e ks))) := by
 have hn := ((fmE_iff e).1 hf).1
 have hfa := ((fmE_iff e).1 hf).2
 intro H
 refine Spec.enter Tryz.func124 rfl ?_
 refine AW.wk (wK 64 (l := [(0, .c (exC e)), (1, .c (iL .un ks))]) (ll := []) (H := (H))) ?_
 refine D2 ?_
 refine AW.seq (D1 ?_)
 refine Z16 fn126 (all_any ks .un _ hkl) ?_
 refine G2 ?_
 refine AW.cond _ rfl (fun h11 => ?_) (fun h11 => ?_)
 ·
  refine D1 ?_
  exact aR (fE (e := iCe2 (by rw [arI, if_pos (by simpa using h11)])))
 have hal : allI ks 1 = true := bnf h11
 refine AW.skip (AW.seqM (fun s => (¬ (e.op = 6 ∧ cnB icB (e.args.getD 0 ex0) = true ∧ cnB icB (e.args.getD 1 ex0) = true)) ∧ (¬ ((e.op = 7 ∨ e.op = 8) ∧ ¬ ((cstE (e.args.getD 1 ex0)).2 = 0 ∧ (cstE (e.args.getD 1 ex0)).1.k = 1 ∧ 1 ≤ (cstE (e.args.getD 1 ex0)).1.n ∧ (cstE (e.args.getD 1 ex0)).1.n ≤ 1000))) ∧ s = ⟨64, sp [(2, .lp 2 0), (4, .c (iC 0))], lv [(2, .box (zEx e))], H⟩) ?_ ?_)
 ·
  refine D3 ?_
  refine AW.block (D2 ?_)
  refine cD ?_ ?_ <;> intro h14
  ·
   refine AW.seq ?_
   have hl2 : e.args.length = 2 := by have := hn; omega
   have h01 : 0 < e.args.length := by omega
   have h12 : 1 < e.args.length := by omega
   refine B4 ?_
   refine SeqK.r (g_call rfl fn156 rfl (Spec.arg (l := [exC e.args[0]]) (r := []) XW.fn0 (contains_any fn60 isColumn_any _ (hfa _ (qC h01)) _)) rfl rfl rfl) rfl ?_
   refine Z53 ?_ ?_ <;> intro g21
   ·
    refine G4 ?_
    refine SeqK.rOn (g_call rfl fn156 rfl (Spec.arg (l := [exC e.args[1]]) (r := []) XW.fn0 (contains_any fn60 isColumn_any _ (hfa _ (qC h12)) _)) rfl rfl rfl) rfl rfl rfl ?_
    refine G2 ?_
    refine AW.cond _ rfl (fun h27 => ?_) (fun h27 => ?_)
    ·
     refine D1 ?_
     exact aR (fE (e := iCe2 (by rw [arI, if_neg (okN1 (e := e) hal), if_pos ⟨by assumption, by rw [getD_at h01]; simp_all, by rw [getD_at h12]; simp_all⟩])))
    refine AW.skip ?_
    have hM : ¬ (e.op = 6 ∧ cnB icB (e.args.getD 0 ex0) = true ∧ cnB icB (e.args.getD 1 ex0) = true) := by
     rintro ⟨k1, k2, k3⟩
     first | omega | (rw [getD_at h01] at k2; rw [getD_at h12] at k3; simp_all; done)
    have hD : ¬ ((e.op = 7 ∨ e.op = 8) ∧ ¬ ((cstE (e.args.getD 1 ex0)).2 = 0 ∧ (cstE (e.args.getD 1 ex0)).1.k = 1 ∧ 1 ≤ (cstE (e.args.getD 1 ex0)).1.n ∧ (cstE (e.args.getD 1 ex0)).1.n ≤ 1000)) := by
     rintro ⟨k1, k2⟩
     first | omega | (rw [getD_at h12] at k2; exact k2 ⟨by omega, by omega, by omega, by omega⟩)
    exact ⟨_, by exact wK 64, hM, hD, rfl⟩
   iterate 5 refine oF ?_
   refine G2 ?_
   refine AW.condF rfl ?_
   refine AW.skip ?_
   have hM : ¬ (e.op = 6 ∧ cnB icB (e.args.getD 0 ex0) = true ∧ cnB icB (e.args.getD 1 ex0) = true) := by
    rintro ⟨k1, k2, k3⟩
    first | omega | (rw [getD_at h01] at k2; rw [getD_at h12] at k3; simp_all; done)
   have hD : ¬ ((e.op = 7 ∨ e.op = 8) ∧ ¬ ((cstE (e.args.getD 1 ex0)).2 = 0 ∧ (cstE (e.args.getD 1 ex0)).1.k = 1 ∧ 1 ≤ (cstE (e.args.getD 1 ex0)).1.n ∧ (cstE (e.args.getD 1 ex0)).1.n ≤ 1000)) := by
    rintro ⟨k1, k2⟩
    first | omega | (rw [getD_at h12] at k2; exact k2 ⟨by omega, by omega, by omega, by omega⟩)
   exact ⟨_, by exact wK 64, hM, hD, rfl⟩
  refine AW.seqM (fun s => s = ⟨64, sp [(1, .c (iL .un ks)), (2, .lp 2 0), (4, .c (iC 0)), (13, .c (iC e.op)), (28, .c (bC (decide (e.op = 7 ∨ e.op = 8))))], lv [(2, .box (zEx e))], H⟩) ?_ ?_
  ·
   refine D2 ?_
   refine cD ?_ ?_ <;> intro h28
   ·
    refine AW.skip ?_
    exact ⟨_, by exact Wk.keep 64 _ _ _ rfl ⟨rfl, rfl, rfl, rfl, bCe (by first | exact (jH (by omega)).symm | exact (jI (by omega)).symm | exact dcE (by omega)), trivial⟩ ⟨rfl, trivial⟩ (fun _ _ h => h) rfl, rfl⟩
   refine B2 ?_
   exact ⟨_, by exact Wk.keep 64 _ _ _ rfl ⟨rfl, rfl, rfl, rfl, bCe (by first | exact (jH (by omega)).symm | exact (jI (by omega)).symm | exact dcE (by omega)), trivial⟩ ⟨rfl, trivial⟩ (fun _ _ h => h) rfl, rfl⟩
  rintro s rfl
  refine cD ?_ ?_ <;> intro h28
  rotate_left
  ·
   refine AW.skip ?_
   have hM : ¬ (e.op = 6 ∧ cnB icB (e.args.getD 0 ex0) = true ∧ cnB icB (e.args.getD 1 ex0) = true) := by
    rintro ⟨k1, k2, k3⟩
    first | omega | (rw [getD_at h01] at k2; rw [getD_at h12] at k3; simp_all; done)
   have hD : ¬ ((e.op = 7 ∨ e.op = 8) ∧ ¬ ((cstE (e.args.getD 1 ex0)).2 = 0 ∧ (cstE (e.args.getD 1 ex0)).1.k = 1 ∧ 1 ≤ (cstE (e.args.getD 1 ex0)).1.n ∧ (cstE (e.args.getD 1 ex0)).1.n ≤ 1000)) := by
    rintro ⟨k1, k2⟩
    first | omega | (rw [getD_at h12] at k2; exact k2 ⟨by omega, by omega, by omega, by omega⟩)
   exact ⟨_, by exact wK 64, hM, hD, rfl⟩
  refine AW.seq ?_
  have hl2 : e.args.length = 2 := by have := hn; omega
  have h01 : 0 < e.args.length := by omega
  have h12 : 1 < e.args.length := by omega
  refine B4 ?_
  refine sQ (q_call _ rfl fn111 rfl (constant_any _ (hfa _ (qC h12)) (hta _ (qC h12)) (hev hal (by omega) h12)) rfl) ?_
  refine G6 ?_
  refine D2 ?_
  refine Z17 ?_ ?_ <;> intro g41
  ·
   iterate 3 refine oF ?_
   refine G2 ?_
   iterate 3 refine oF ?_
   refine G2 ?_
   iterate 3 refine oF ?_
   refine G2 ?_
   refine AW.condT rfl ?_
   refine D1 ?_
   exact aR (fE (e := iCe2 (by rw [arI, if_neg (okN1 (e := e) hal), if_neg (by omega), if_pos ⟨by omega, by rw [getD_at h12]; omega⟩])))
  refine G4 ?_
  refine Z17 ?_ ?_ <;> intro g46
  ·
   iterate 3 refine oF ?_
   refine G2 ?_
   iterate 3 refine oF ?_
   refine G2 ?_
   refine AW.condT rfl ?_
   refine D1 ?_
   exact aR (fE (e := iCe2 (by rw [arI, if_neg (okN1 (e := e) hal), if_neg (by omega), if_pos ⟨by omega, by rw [getD_at h12]; omega⟩])))
  refine G2 ?_
  refine sO (q_lss rfl rfl rfl) ?_
  refine Z6 ?_
  refine Z17 ?_ ?_ <;> intro g51
  ·
   iterate 3 refine oF ?_
   refine G2 ?_
   refine AW.condT rfl ?_
   refine D1 ?_
   exact aR (fE (e := iCe2 (by rw [arI, if_neg (okN1 (e := e) hal), if_neg (by omega), if_pos ⟨by omega, by rw [getD_at h12]; omega⟩])))
  refine G5 ?_
  refine cD ?_ ?_ <;> intro h55
  ·
   refine D1 ?_
   exact aR (fE (e := iCe2 (by rw [arI, if_neg (okN1 (e := e) hal), if_neg (by omega), if_pos ⟨by omega, by rw [getD_at h12]; omega⟩])))
  refine AW.skip ?_
  have hM : ¬ (e.op = 6 ∧ cnB icB (e.args.getD 0 ex0) = true ∧ cnB icB (e.args.getD 1 ex0) = true) := by
   rintro ⟨k1, k2, k3⟩
   first | omega | (rw [getD_at h01] at k2; rw [getD_at h12] at k3; simp_all; done)
  have hD : ¬ ((e.op = 7 ∨ e.op = 8) ∧ ¬ ((cstE (e.args.getD 1 ex0)).2 = 0 ∧ (cstE (e.args.getD 1 ex0)).1.k = 1 ∧ 1 ≤ (cstE (e.args.getD 1 ex0)).1.n ∧ (cstE (e.args.getD 1 ex0)).1.n ≤ 1000)) := by
   rintro ⟨k1, k2⟩
   first | omega | (rw [getD_at h12] at k2; exact k2 ⟨by omega, by omega, by omega, by omega⟩)
  exact ⟨_, by exact wK 64, hM, hD, rfl⟩
 rintro s ⟨hM, hD, rfl⟩
 refine AW.seq (D1 ?_)
 refine SeqK.r (g_call rfl fn156 rfl (Spec.arg (l := [exC e]) (r := []) XW.fn0 (contains_any fn157 isNull_any e hf _)) rfl rfl rfl) rfl ?_
 refine Z4 ?_
 refine AW.cond _ rfl (fun h57 => ?_) (fun h57 => ?_)
 ·
  refine D1 ?_
  exact aR (fE (e := iCe2 (by rw [arI, if_neg (okN1 (e := e) hal), if_neg hM, if_neg hD, if_pos h57])))
 refine AW.skip (D1 ?_)
 refine Z16 fn158 (hof) ?_
 refine G6 ?_
 refine D2 ?_
 exact aR (fE (e := iCe2 (by rw [arI, if_neg (okN1 (e := e) hal), if_neg hM, if_neg hD, if_neg (by rw [h57]; simp)])))
end Go.Proofs.YtgnnjebfoffphaaGreatDoor.W
