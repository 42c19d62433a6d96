/- Parts of the proof, one after the other: E61, E62, Fx. No condition. -/
import Derived.Test.YtnmfjojhgfipcaaGreatDoorM12
import Derived.Lib.Join
import Derived.Shelf.Vars
import Derived.HandedShaped
import Derived.Test.YtnmfjojhgfipcaaGreatDoorProg
/- Contracts of the kit that lean on an open package variable, and on a slice of texts. Plain theorems, for any program. -/
namespace Go.Proofs.YtnmfjojhgfipcaaGreatDoor.E
open Go.RowKit
set_option linter.unusedVariables false
variable {P : Program} {f : FuncId}
/-- a package variable of type int, whatever it holds -/
theorem TabW.int {w : World} (h : TabW w) {g : Nat} (hg : TAB g = some fun a => ∃ m, a = #[.int .i64 m]) : ∃ m, w.cell? ⟨g, 0, none⟩ = some (.int .i64 m) := by
  obtain ⟨_, ty, fl, e, m, rfl⟩ := h g _ hg
  exact ⟨m, by simp [World.cell?, e]⟩
/-- a call that leaves the world as it was, but for new blocks -/
theorem Pure.of_below (us : List Value) {v : Value} {x : X} (h : ∀ w, TabW w → Calls P f us.toArray w fun e w' => e = .returned v ∧ Below w.heap.size w w') (hx : ∀ c, RepX c x v) : Pure P f (us.map vC) x := by
  intro H c w vs hc hr
  have h1 := reps_vals hr
  have h2 : vs = us.toArray := by rw [← h1]
  rw [h2]
  refine (h w hc.tabw).mono ?_
  rintro e w' ⟨rfl, hb⟩
  obtain ⟨h3, h4⟩ := hc.far hb.os hb.tape hb.output hb.size hb.block
  exact ⟨v, x, H, c, rfl, ⟨rfl, rfl⟩, hx c, h3, h4⟩
abbrev txT (x : ByteArray) : List T := [.v (.string x)]
/-- the texts of a list, with one between each two -/
abbrev joinB (l : List ByteArray) (sep : ByteArray) : ByteArray := ⟨(Lib.join (l.map (·.data.toList)) sep.data.toList).toArray⟩
theorem Pure.join (h0 : ∀ (a : Option Addr) (c : Nat) (sep : ByteArray) (w : World), Calls P f #[.slice a 0 c, .string sep] w fun e w' => e = .returned (.string ⟨#[]⟩) ∧ w' = w)
    (h1 : ∀ (bk o c : Nat) (xs : List ByteArray) (sep : ByteArray) (w : World) (hcells : ∀ (j : Nat) x, xs[j]? = some x → w.cell? ⟨bk, o + j, none⟩ = some (.string x)) (hbk : bk < w.heap.size) (hN : xs.length ≤ 140737488355328) (hcap : xs.length ≤ c) (hlen : (Lib.join (xs.map (·.data.toList)) sep.data.toList).length ≤ 140737488355328),
      Calls P f #[.slice (some ⟨bk, o, none⟩) xs.length c, .string sep] w fun e w' => e = .returned (.string ⟨(Lib.join (xs.map (·.data.toList)) sep.data.toList).toArray⟩) ∧ Below w.heap.size w w')
    (z : Nz) (l : List ByteArray) (sep : ByteArray) (hN : l.length ≤ 140737488355328) (hl : (joinB l sep).size ≤ 140737488355328) : Pure P f [.a (.t (.sl z 1 (l.map txT))), .a (.t (.v (.string sep)))] (.c (.a (.t (.v (.string (joinB l sep)))))) := by
  intro H c w vs hc hr
  obtain ⟨v, vs', hv⟩ : ∃ v vs', vs.toList = v :: vs' := by
    have := hr.1
    match hx : vs.toList with
    | [] => rw [hx] at this; simp at this
    | v :: r => exact ⟨v, r, rfl⟩
  rw [hv] at hr
  have ha := hr.2 0 _ _ rfl rfl
  have hr2 : Reps (RepC c.μ c.β) [.a (.t (.v (.string sep)))] vs' := ⟨by have := hr.1; simp at this; simp [this], fun i x u h2 h3 => hr.2 (i + 1) x u (by simpa using h2) (by simpa using h3)⟩
  have h2 := reps_vals (us := [.string sep]) hr2
  have hvs : vs = #[v, .string sep] := by
    have : vs.toList = #[v, .string sep].toList := by rw [hv, h2]
    exact Array.toList_inj.1 this
  rw [hvs]
  have key : ∀ {u : ByteArray} {w' : World}, u = joinB l sep → Below w.heap.size w w' → ∃ y x H' c', (Ending.returned (.string u) = .returned y) ∧ (x = X.c (.a (.t (.v (.string (joinB l sep))))) ∧ H' = H) ∧ RepX c' x y ∧ Conc c' (ownH H') w' ∧ Ext c (ownH H) w c' (ownH H') w' := fun {u w'} e hb => by
    obtain ⟨h3, h4⟩ := hc.far hb.os hb.tape hb.output hb.size hb.block
    exact ⟨_, _, H, c, rfl, ⟨rfl, rfl⟩, by rw [e]; exact tv_rep rfl, h3, h4⟩
  cases ha with
  | t ha =>
  generalize hes : l.map txT = es at ha
  cases ha with
  | nil _ =>
    have hl0 : l = [] := List.map_eq_nil_iff.1 hes
    refine (h0 none 0 sep w).mono ?_
    rintro e w' ⟨rfl, rfl⟩
    exact key (by rw [hl0]; rfl) (Below.refl _ _)
  | emp _ =>
    have hl0 : l = [] := List.map_eq_nil_iff.1 hes
    refine (h0 _ _ sep w).mono ?_
    rintro e w' ⟨rfl, rfl⟩
    exact key (by rw [hl0]; rfl) (Below.refl _ _)
  | sl u ne hn hcap hlen mem rep =>
    rename_i b off n cp
    subst hes
    have hnl : n = l.length := by rw [hn, List.length_map]
    subst hnl
    have hcell : ∀ (j : Nat) x, l[j]? = some x → w.cell? ⟨b, off + j, none⟩ = some (.string x) := fun j x hj => by
      have h5 := mem j (txT x) 0 (.v (.string x)) (by rw [List.getElem?_map, hj]; rfl) rfl
      have h6 := rep j (txT x) 0 (.v (.string x)) (by rw [List.getElem?_map, hj]; rfl) rfl
      have h7 : u j 0 = .string x := by
        generalize u j 0 = y at h6
        cases h6; rfl
      have h8 := hc.mem _ _ _ h5
      rw [h7] at h8
      simpa using h8
    have hpos : 0 < l.length := List.length_pos_iff.2 fun e => ne (by rw [e]; rfl)
    have hbk : b < w.heap.size := by
      have h9 := hcell 0 l[0] (List.getElem?_eq_getElem hpos)
      unfold World.cell? at h9
      cases hq : w.heap[b]? with
      | none => rw [hq] at h9; simp at h9
      | some _ => exact (Array.getElem?_eq_some_iff.1 hq).1
    refine (h1 b off cp l sep w hcell hbk hN hcap (by have h9 : (joinB l sep).size = (Lib.join (l.map (·.data.toList)) sep.data.toList).length := by simp [ByteArray.size]
                                                      omega)).mono ?_
    rintro e w' ⟨rfl, hb⟩
    exact key rfl hb
end Go.Proofs.YtnmfjojhgfipcaaGreatDoor.E
/- A claim whose row lists tables and whose text reads an open package variable too: the contract gets both. Plain theorems, for any program. -/
namespace Go.Proofs.YtnmfjojhgfipcaaGreatDoor.E
open Go.RowKit
theorem handed_and_shaped {H : Type} {enc : TypeId × Value → H} {a : Assume} {C : Checked} {os : Os} {f : FuncId} {fn : Func} {s : ChangeSpec} {conds : List PathCond} {apart fresh handsOn again : Bool} {X : World → Array Value → Prop}
    (hX : ∀ (w w' : World) (args : Array Value), w.heap = w'.heap → X w args → X w' args)
    (own : ownKnob C.prog.godebug = none) (started : os.Started) (noInit : C.prog.inits.idxOf? f = none) (hfn : C.prog.funcs[f]? = some fn)
    (witness : ∃ (w : World) (tape : Tape) (i : Input), w.os = os ∧ (w.forCall tape i).Shaped C.prog ∧ i.vars = [] ∧ Input.okWide C.prog (w.forCall tape i) .any w.heap.size f i ∧
      ((s.pre enc C.prog fn conds apart (w.forCall tape i).memory i.args ∧ X (w.forCall tape i).memory i.args) ∧ sizedMet enc C.prog fn (OpenSpec.ofChange s) apart (w.forCall tape i).memory i.args) ∧ a.holds C.prog (lone (Frame.enter C.prog f i.args .normal) [] (w.forCall tape i)))
    (contract : ∀ (W : World) (base : Nat) (args : Array Value) (ds gs : List (DataW H)) (before : List MemPlace),
      (∀ (j : Nat) t v, fn.params[j]? = some t → args[j]? = some v → Value.okWide C.prog W .any base t v) →
      DataW.Whole enc C.prog fn.params.toList s.vars apart W args.toList ds gs before →
      conds.all (PathCond.test C.prog ⟨fn.params.toList, ds, s.plain.varTypes C.prog, gs⟩) = true →
      (DataW.weightsEach C.prog (fn.params.toList ++ s.plain.varTypes C.prog) (ds ++ gs)).all (· ≤ reachBytes) = true → X W args → W.ShapedOpen C.prog →
      a.holds C.prog (lone (Frame.enter C.prog f args .normal) [] W) →
      Calls C.prog f args W fun e W' => ∃ v, e = .returned v ∧ s.post enc C.prog fn apart fresh handsOn again W args v W') :
    ReturnsInHanded a C os f .any (fun w args => (s.pre enc C.prog fn conds apart w args ∧ X w args) ∧ sizedMet enc C.prog fn (OpenSpec.ofChange s) apart w args) (s.post enc C.prog fn apart fresh handsOn again) := by
  refine returnsInHanded_of_calls own started noInit witness ?_
  intro w tape i _ hsh _ hok hpre hholds
  obtain ⟨_, _, _, fn', hfn', _, _, _, _, hval⟩ := hok
  have e : fn' = fn := Option.some.inj (hfn'.symm.trans hfn)
  subst e
  obtain ⟨⟨⟨ds, gs, before, hw, hc⟩, hx⟩, hz⟩ := hpre
  have hw' := DataW.Whole.of_heap (w' := w.forCall tape i) (by rfl) hw
  refine (contract (w.forCall tape i) w.heap.size i.args ds gs before hval hw' hc (hz.weights hw) (hX _ _ _ (by rfl) hx) hsh hholds).mono fun e W' ⟨v, he, hp⟩ => ?_
  subst he
  exact ChangeSpec.post_blind hp
theorem openBlock {P : Program} {w : World} {g : Nat} {t : TypeId} {zero : Array Value} {k : IntKind}
    (h : w.ShapedOpen P) (hg : g < P.globals.size)
    (h0 : ((begin P (fun _ _ => 0) default).world.heap[g]?).bind Obj.row? = some (zero, t)) (hz : zero.size = 1)
    (hb : P.buildable t = true) (hc : P.cellTypes P.depth t = some [t]) (hu : P.underlying t = some (.int k)) :
    IsT w.heap[g]? (fun a => ∃ m, a = #[.int k m]) := by
  obtain ⟨m, hm⟩ := cell_of_shapedOpen_int h hg h0 hz hb hc hu
  obtain ⟨cs, hh, hs, _⟩ := h.1 g zero t hg h0
  have h1 : 0 < cs.size := by omega
  have h2 : cs[0] = .int k m := by
    have := hm
    simp only [World.cell?, hh] at this
    simpa [h1] using this
  refine ⟨cs, t, _, hh, m, ?_⟩
  apply Array.ext
  · simp; omega
  · intro i hi hi'
    have : i = 0 := by omega
    subst this
    simpa using h2
theorem tab2_of {P : Program} {w : World} {name : String} {g g0 : Nat} {k k0 : IntKind} {zs : List Int} (h : Lib.TabIs P w name k zs) (hg : P.globalNamed name = some g)
    (h0 : IsT w.heap[g0]? (fun a => ∃ m, a = #[.int k0 m]))
    (hT : ∀ g' q, TAB g' = some q → (g' = g0 ∧ q = fun a => ∃ m, a = #[.int k0 m]) ∨ (g' = g ∧ q = (· = (zs.map fun z => Value.int k z).toArray))) : TabW w := fun g' q hc => by
  rcases hT g' q hc with ⟨rfl, rfl⟩ | ⟨rfl, rfl⟩
  · exact h0
  · unfold Lib.TabIs World.var? at h
    rw [hg] at h
    simp only [Option.bind_some] at h
    split at h
    · rename_i cs' ty fl e
      injection h with h
      subst h
      exact ⟨_, ty, fl, e, rfl⟩
    · cases h
end Go.Proofs.YtnmfjojhgfipcaaGreatDoor.E
/- Closed facts on the types and functions of the program. -/
namespace Go.Proofs.YtnmfjojhgfipcaaGreatDoor.Fx
open Go.Proofs.YtnmfjojhgfipcaaGreatDoor.E
theorem mo : Tryz.prog.follows .mixedOrders = true := by kernel_rfl
theorem ty2 : tyB Tryz.prog 2 false 1 = true := by kernel_rfl
theorem ze2 : zeroIs Tryz.prog 2 (.int .i64 0) := (by kernel_rfl : (Tryz.prog.info? 2).bind (·.zero) = some (.int .i64 0))
theorem un2 : Tryz.prog.underlying 2 = some (.int .i64) := by kernel_rfl
theorem ty3 : tyB Tryz.prog 3 false 1 = true := by kernel_rfl
theorem un3 : Tryz.prog.underlying 3 = some (.int .i64) := by kernel_rfl
theorem ty4 : tyB Tryz.prog 4 false 1 = true := by kernel_rfl
theorem un4 : Tryz.prog.underlying 4 = some .bool := by kernel_rfl
theorem un5 : Tryz.prog.underlying 5 = some (.int .u8) := by kernel_rfl
theorem ty9 : tyB Tryz.prog 9 false 1 = true := by kernel_rfl
theorem ze9 : zeroIs Tryz.prog 9 (.string ⟨#[]⟩) := (by kernel_rfl : (Tryz.prog.info? 9).bind (·.zero) = some (.string ⟨#[]⟩))
theorem un9 : Tryz.prog.underlying 9 = some .string := by kernel_rfl
theorem ty22 : tyB Tryz.prog 22 false 1 = true := by kernel_rfl
theorem sl22 : slB Tryz.prog 22 3 1 = true := by kernel_rfl
theorem el22 : elB Tryz.prog 22 3 1 8 = true := by kernel_rfl
theorem un22 : Tryz.prog.underlying 22 = some (.slice 3) := by kernel_rfl
theorem ty23 : tyB Tryz.prog 23 false 1 = true := by kernel_rfl
theorem sl23 : slB Tryz.prog 23 63 4 = true := by kernel_rfl
theorem un23 : Tryz.prog.underlying 23 = some (.slice 63) := by kernel_rfl
theorem ty24 : tyB Tryz.prog 24 false 1 = true := by kernel_rfl
theorem sl24 : slB Tryz.prog 24 65 3 = true := by kernel_rfl
theorem el24 : elB Tryz.prog 24 65 3 40 = true := by kernel_rfl
theorem un24 : Tryz.prog.underlying 24 = some (.slice 65) := by kernel_rfl
theorem ty25 : tyB Tryz.prog 25 false 1 = true := by kernel_rfl
theorem sl25 : slB Tryz.prog 25 44 4 = true := by kernel_rfl
theorem un25 : Tryz.prog.underlying 25 = some (.slice 44) := by kernel_rfl
theorem ty26 : tyB Tryz.prog 26 false 1 = true := by kernel_rfl
theorem sl26 : slB Tryz.prog 26 80 2 = true := by kernel_rfl
theorem un26 : Tryz.prog.underlying 26 = some (.slice 80) := by kernel_rfl
theorem ty28 : tyB Tryz.prog 28 true 7 = true := by kernel_rfl
theorem ze28 : zeroIs Tryz.prog 28 (.agg #[.slice none 0 0, .slice none 0 0, .slice none 0 0, .slice none 0 0, .slice none 0 0, .slice none 0 0, .slice none 0 0]) := (by kernel_rfl : (Tryz.prog.info? 28).bind (·.zero) = some (.agg #[.slice none 0 0, .slice none 0 0, .slice none 0 0, .slice none 0 0, .slice none 0 0, .slice none 0 0, .slice none 0 0]))
theorem fl28_0 : fldB Tryz.prog 28 0 0 = true := by kernel_rfl
theorem fl28_1 : fldB Tryz.prog 28 1 1 = true := by kernel_rfl
theorem fl28_2 : fldB Tryz.prog 28 2 2 = true := by kernel_rfl
theorem fl28_3 : fldB Tryz.prog 28 3 3 = true := by kernel_rfl
theorem fl28_4 : fldB Tryz.prog 28 4 4 = true := by kernel_rfl
theorem fl28_5 : fldB Tryz.prog 28 5 5 = true := by kernel_rfl
theorem fl28_6 : fldB Tryz.prog 28 6 6 = true := by kernel_rfl
theorem sl29 : slB Tryz.prog 29 36 5 = true := by kernel_rfl
theorem el29 : elB Tryz.prog 29 36 5 40 = true := by kernel_rfl
theorem un29 : Tryz.prog.underlying 29 = some (.slice 36) := by kernel_rfl
theorem ty36 : tyB Tryz.prog 36 true 5 = true := by kernel_rfl
theorem ze36 : zeroIs Tryz.prog 36 (.agg #[.int .i64 0, .int .i64 0, .int .i64 0, .int .i64 0, .bool false]) := (by kernel_rfl : (Tryz.prog.info? 36).bind (·.zero) = some (.agg #[.int .i64 0, .int .i64 0, .int .i64 0, .int .i64 0, .bool false]))
theorem fl36_0 : fldB Tryz.prog 36 0 0 = true := by kernel_rfl
theorem fl36_1 : fldB Tryz.prog 36 1 1 = true := by kernel_rfl
theorem fl36_2 : fldB Tryz.prog 36 2 2 = true := by kernel_rfl
theorem fl36_3 : fldB Tryz.prog 36 3 3 = true := by kernel_rfl
theorem bp36 : bplB Tryz.prog 36 [(0, 1), (1, 1), (2, 1), (3, 1), (4, 1)] = true := by kernel_rfl
theorem ty39 : tyB Tryz.prog 39 true 5 = true := by kernel_rfl
theorem ze39 : zeroIs Tryz.prog 39 (.agg #[.int .i64 0, .int .i64 0, .int .i64 0, .int .i64 0, .slice none 0 0]) := (by kernel_rfl : (Tryz.prog.info? 39).bind (·.zero) = some (.agg #[.int .i64 0, .int .i64 0, .int .i64 0, .int .i64 0, .slice none 0 0]))
theorem fl39_0 : fldB Tryz.prog 39 0 0 = true := by kernel_rfl
theorem fl39_1 : fldB Tryz.prog 39 1 1 = true := by kernel_rfl
theorem fl39_2 : fldB Tryz.prog 39 2 2 = true := by kernel_rfl
theorem bp39 : bplB Tryz.prog 39 [(0, 1), (1, 1), (2, 1), (3, 1), (4, 1)] = true := by kernel_rfl
theorem ty40 : tyB Tryz.prog 40 false 1 = true := by kernel_rfl
theorem sl40 : slB Tryz.prog 40 39 5 = true := by kernel_rfl
theorem el40 : elB Tryz.prog 40 39 5 56 = true := by kernel_rfl
theorem un40 : Tryz.prog.underlying 40 = some (.slice 39) := by kernel_rfl
theorem ty42 : tyB Tryz.prog 42 true 2 = true := by kernel_rfl
theorem ze42 : zeroIs Tryz.prog 42 (.agg #[.int .i64 0, .slice none 0 0]) := (by kernel_rfl : (Tryz.prog.info? 42).bind (·.zero) = some (.agg #[.int .i64 0, .slice none 0 0]))
theorem fl42_0 : fldB Tryz.prog 42 0 0 = true := by kernel_rfl
theorem fl42_1 : fldB Tryz.prog 42 1 1 = true := by kernel_rfl
theorem bp42 : bplB Tryz.prog 42 [(0, 1), (1, 1)] = true := by kernel_rfl
theorem ty44 : tyB Tryz.prog 44 true 4 = true := by kernel_rfl
theorem ze44 : zeroIs Tryz.prog 44 (.agg #[.int .i64 0, .int .i64 0, .bool false, .string ⟨#[]⟩]) := (by kernel_rfl : (Tryz.prog.info? 44).bind (·.zero) = some (.agg #[.int .i64 0, .int .i64 0, .bool false, .string ⟨#[]⟩]))
theorem fl44_0 : fldB Tryz.prog 44 0 0 = true := by kernel_rfl
theorem fl44_1 : fldB Tryz.prog 44 1 1 = true := by kernel_rfl
theorem fl44_2 : fldB Tryz.prog 44 2 2 = true := by kernel_rfl
theorem fl44_3 : fldB Tryz.prog 44 3 3 = true := by kernel_rfl
theorem ty46 : tyB Tryz.prog 46 true 9 = true := by kernel_rfl
theorem ze46 : zeroIs Tryz.prog 46 (.agg #[.int .i64 0, .int .i64 0, .int .i64 0, .int .i64 0, .slice none 0 0, .int .i64 0, .int .i64 0, .bool false, .string ⟨#[]⟩]) := (by kernel_rfl : (Tryz.prog.info? 46).bind (·.zero) = some (.agg #[.int .i64 0, .int .i64 0, .int .i64 0, .int .i64 0, .slice none 0 0, .int .i64 0, .int .i64 0, .bool false, .string ⟨#[]⟩]))
theorem fl46_0 : fldB Tryz.prog 46 0 0 = true := by kernel_rfl
theorem fl46_3 : fldB Tryz.prog 46 3 3 = true := by kernel_rfl
theorem bp46 : bplB Tryz.prog 46 [(0, 1), (1, 1), (2, 1), (3, 2), (5, 4)] = true := by kernel_rfl
theorem ty49 : tyB Tryz.prog 49 true 11 = true := by kernel_rfl
theorem ze49 : zeroIs Tryz.prog 49 (.agg #[.int .i64 0, .int .i64 0, .int .i64 0, .int .i64 0, .int .i64 0, .slice none 0 0, .int .i64 0, .int .i64 0, .bool false, .string ⟨#[]⟩, .slice none 0 0]) := (by kernel_rfl : (Tryz.prog.info? 49).bind (·.zero) = some (.agg #[.int .i64 0, .int .i64 0, .int .i64 0, .int .i64 0, .int .i64 0, .slice none 0 0, .int .i64 0, .int .i64 0, .bool false, .string ⟨#[]⟩, .slice none 0 0]))
theorem fl49_0 : fldB Tryz.prog 49 0 0 = true := by kernel_rfl
theorem fl49_1 : fldB Tryz.prog 49 1 1 = true := by kernel_rfl
theorem bp49 : bplB Tryz.prog 49 [(0, 1), (1, 9), (10, 1)] = true := by kernel_rfl
theorem sl50 : slB Tryz.prog 50 28 7 = true := by kernel_rfl
theorem el50 : elB Tryz.prog 50 28 7 168 = true := by kernel_rfl
theorem un50 : Tryz.prog.underlying 50 = some (.slice 28) := by kernel_rfl
theorem ty55 : tyB Tryz.prog 55 true 3 = true := by kernel_rfl
theorem ze55 : zeroIs Tryz.prog 55 (.agg #[.int .i64 0, .int .i64 0, .string ⟨#[]⟩]) := (by kernel_rfl : (Tryz.prog.info? 55).bind (·.zero) = some (.agg #[.int .i64 0, .int .i64 0, .string ⟨#[]⟩]))
theorem fl55_0 : fldB Tryz.prog 55 0 0 = true := by kernel_rfl
theorem fl55_1 : fldB Tryz.prog 55 1 1 = true := by kernel_rfl
theorem fl55_2 : fldB Tryz.prog 55 2 2 = true := by kernel_rfl
theorem bp55 : bplB Tryz.prog 55 [(0, 1), (1, 1), (2, 1)] = true := by kernel_rfl
theorem sl57 : slB Tryz.prog 57 55 3 = true := by kernel_rfl
theorem el57 : elB Tryz.prog 57 55 3 32 = true := by kernel_rfl
theorem un57 : Tryz.prog.underlying 57 = some (.slice 55) := by kernel_rfl
theorem ty59 : tyB Tryz.prog 59 false 1 = true := by kernel_rfl
theorem sl59 : slB Tryz.prog 59 96 2 = true := by kernel_rfl
theorem el59 : elB Tryz.prog 59 96 2 16 = true := by kernel_rfl
theorem un59 : Tryz.prog.underlying 59 = some (.slice 96) := by kernel_rfl
theorem ty61 : tyB Tryz.prog 61 true 2 = true := by kernel_rfl
theorem ze61 : zeroIs Tryz.prog 61 (.agg #[.int .i64 0, .slice none 0 0]) := (by kernel_rfl : (Tryz.prog.info? 61).bind (·.zero) = some (.agg #[.int .i64 0, .slice none 0 0]))
theorem fl61_0 : fldB Tryz.prog 61 0 0 = true := by kernel_rfl
theorem fl61_1 : fldB Tryz.prog 61 1 1 = true := by kernel_rfl
theorem bp61 : bplB Tryz.prog 61 [(0, 1), (1, 1)] = true := by kernel_rfl
theorem ty63 : tyB Tryz.prog 63 true 4 = true := by kernel_rfl
theorem ze63 : zeroIs Tryz.prog 63 (.agg #[.int .i64 0, .slice none 0 0, .int .i64 0, .int .i64 0]) := (by kernel_rfl : (Tryz.prog.info? 63).bind (·.zero) = some (.agg #[.int .i64 0, .slice none 0 0, .int .i64 0, .int .i64 0]))
theorem fl63_0 : fldB Tryz.prog 63 0 0 = true := by kernel_rfl
theorem fl63_1 : fldB Tryz.prog 63 1 2 = true := by kernel_rfl
theorem fl63_2 : fldB Tryz.prog 63 2 3 = true := by kernel_rfl
theorem ty65 : tyB Tryz.prog 65 true 3 = true := by kernel_rfl
theorem ze65 : zeroIs Tryz.prog 65 (.agg #[.int .i64 0, .slice none 0 0, .bool false]) := (by kernel_rfl : (Tryz.prog.info? 65).bind (·.zero) = some (.agg #[.int .i64 0, .slice none 0 0, .bool false]))
theorem fl65_0 : fldB Tryz.prog 65 0 0 = true := by kernel_rfl
theorem fl65_1 : fldB Tryz.prog 65 1 2 = true := by kernel_rfl
theorem bp65 : bplB Tryz.prog 65 [(0, 2), (2, 1)] = true := by kernel_rfl
theorem sl67 : slB Tryz.prog 67 2 1 = true := by kernel_rfl
theorem el67 : elB Tryz.prog 67 2 1 8 = true := by kernel_rfl
theorem un67 : Tryz.prog.underlying 67 = some (.slice 2) := by kernel_rfl
theorem sl73 : slB Tryz.prog 73 9 1 = true := by kernel_rfl
theorem el73 : elB Tryz.prog 73 9 1 16 = true := by kernel_rfl
theorem un73 : Tryz.prog.underlying 73 = some (.slice 9) := by kernel_rfl
theorem ty80 : tyB Tryz.prog 80 true 2 = true := by kernel_rfl
theorem ze80 : zeroIs Tryz.prog 80 (.agg #[.int .i64 0, .int .i64 0]) := (by kernel_rfl : (Tryz.prog.info? 80).bind (·.zero) = some (.agg #[.int .i64 0, .int .i64 0]))
theorem ar80 : arB Tryz.prog 80 2 3 1 = true := by kernel_rfl
theorem sl85 : slB Tryz.prog 85 87 1 = true := by kernel_rfl
theorem el85 : elB Tryz.prog 85 87 1 24 = true := by kernel_rfl
theorem un85 : Tryz.prog.underlying 85 = some (.slice 87) := by kernel_rfl
theorem ty87 : tyB Tryz.prog 87 false 1 = true := by kernel_rfl
theorem sl87 : slB Tryz.prog 87 119 10 = true := by kernel_rfl
theorem el87 : elB Tryz.prog 87 119 10 104 = true := by kernel_rfl
theorem un87 : Tryz.prog.underlying 87 = some (.slice 119) := by kernel_rfl
theorem ty96 : tyB Tryz.prog 96 true 2 = true := by kernel_rfl
theorem ze96 : zeroIs Tryz.prog 96 (.agg #[.int .i64 0, .int .i64 0]) := (by kernel_rfl : (Tryz.prog.info? 96).bind (·.zero) = some (.agg #[.int .i64 0, .int .i64 0]))
theorem fl96_0 : fldB Tryz.prog 96 0 0 = true := by kernel_rfl
theorem fl96_1 : fldB Tryz.prog 96 1 1 = true := by kernel_rfl
theorem bp96 : bplB Tryz.prog 96 [(0, 1), (1, 1)] = true := by kernel_rfl
theorem un98 : Tryz.prog.underlying 98 = some (.int .u64) := by kernel_rfl
theorem ze101 : zeroIs Tryz.prog 101 (.agg #[.string ⟨#[]⟩, .string ⟨#[]⟩]) := (by kernel_rfl : (Tryz.prog.info? 101).bind (·.zero) = some (.agg #[.string ⟨#[]⟩, .string ⟨#[]⟩]))
theorem ar101 : arB Tryz.prog 101 2 9 1 = true := by kernel_rfl
theorem bp101 : bplB Tryz.prog 101 [(0, 1), (1, 1)] = true := by kernel_rfl
theorem ty102 : tyB Tryz.prog 102 true 8 = true := by kernel_rfl
theorem ze102 : zeroIs Tryz.prog 102 (.agg #[.string ⟨#[]⟩, .string ⟨#[]⟩, .string ⟨#[]⟩, .string ⟨#[]⟩, .string ⟨#[]⟩, .string ⟨#[]⟩, .string ⟨#[]⟩, .string ⟨#[]⟩]) := (by kernel_rfl : (Tryz.prog.info? 102).bind (·.zero) = some (.agg #[.string ⟨#[]⟩, .string ⟨#[]⟩, .string ⟨#[]⟩, .string ⟨#[]⟩, .string ⟨#[]⟩, .string ⟨#[]⟩, .string ⟨#[]⟩, .string ⟨#[]⟩]))
theorem ar102 : arB Tryz.prog 102 4 101 2 = true := by kernel_rfl
theorem bp102 : bplB Tryz.prog 102 [(0, 2), (2, 2), (4, 2), (6, 2)] = true := by kernel_rfl
theorem el106 : elB Tryz.prog 106 5 1 1 = true := by kernel_rfl
theorem un106 : Tryz.prog.underlying 106 = some (.slice 5) := by kernel_rfl
theorem ty116 : tyB Tryz.prog 116 true 4 = true := by kernel_rfl
theorem ze116 : zeroIs Tryz.prog 116 (.agg #[.string ⟨#[]⟩, .string ⟨#[]⟩, .string ⟨#[]⟩, .string ⟨#[]⟩]) := (by kernel_rfl : (Tryz.prog.info? 116).bind (·.zero) = some (.agg #[.string ⟨#[]⟩, .string ⟨#[]⟩, .string ⟨#[]⟩, .string ⟨#[]⟩]))
theorem ar116 : arB Tryz.prog 116 4 9 1 = true := by kernel_rfl
theorem bp116 : bplB Tryz.prog 116 [(0, 1), (1, 1), (2, 1), (3, 1)] = true := by kernel_rfl
theorem ty119 : tyB Tryz.prog 119 true 10 = true := by kernel_rfl
theorem ze119 : zeroIs Tryz.prog 119 (.agg #[.int .i64 0, .int .i64 0, .int .i64 0, .int .i64 0, .slice none 0 0, .int .i64 0, .int .i64 0, .bool false, .string ⟨#[]⟩, .bool false]) := (by kernel_rfl : (Tryz.prog.info? 119).bind (·.zero) = some (.agg #[.int .i64 0, .int .i64 0, .int .i64 0, .int .i64 0, .slice none 0 0, .int .i64 0, .int .i64 0, .bool false, .string ⟨#[]⟩, .bool false]))
theorem fl119_0 : fldB Tryz.prog 119 0 0 = true := by kernel_rfl
theorem fl119_1 : fldB Tryz.prog 119 1 9 = true := by kernel_rfl
theorem bp119 : bplB Tryz.prog 119 [(0, 9), (9, 1)] = true := by kernel_rfl
theorem ze123 : zeroIs Tryz.prog 123 (.agg #[.int .i64 0, .slice none 0 0, .slice none 0 0, .slice none 0 0, .slice none 0 0, .slice none 0 0, .slice none 0 0, .slice none 0 0]) := (by kernel_rfl : (Tryz.prog.info? 123).bind (·.zero) = some (.agg #[.int .i64 0, .slice none 0 0, .slice none 0 0, .slice none 0 0, .slice none 0 0, .slice none 0 0, .slice none 0 0, .slice none 0 0]))
theorem fl123_1 : fldB Tryz.prog 123 1 1 = true := by kernel_rfl
theorem bp123 : bplB Tryz.prog 123 [(0, 1), (1, 7)] = true := by kernel_rfl
theorem un149 : Tryz.prog.underlying 149 = some (.int .u64) := by kernel_rfl
theorem un157 : Tryz.prog.underlying 157 = some (.map 3 2) := by kernel_rfl
theorem fn4 : fnB Tryz.prog 4 = true := by kernel_rfl
theorem fn5 : fnB Tryz.prog 5 = true := by kernel_rfl
theorem fn6 : fnB Tryz.prog 6 = true := by kernel_rfl
theorem fn7 : fnB Tryz.prog 7 = true := by kernel_rfl
theorem fn8 : fnB Tryz.prog 8 = true := by kernel_rfl
theorem fn9 : fnB Tryz.prog 9 = true := by kernel_rfl
theorem fn10 : fnB Tryz.prog 10 = true := by kernel_rfl
theorem fn11 : fnB Tryz.prog 11 = true := by kernel_rfl
theorem fn12 : fnB Tryz.prog 12 = true := by kernel_rfl
theorem fn13 : fnB Tryz.prog 13 = true := by kernel_rfl
theorem fn14 : fnB Tryz.prog 14 = true := by kernel_rfl
theorem fn15 : fnB Tryz.prog 15 = true := by kernel_rfl
theorem fn16 : fnB Tryz.prog 16 = true := by kernel_rfl
theorem fn17 : fnB Tryz.prog 17 = true := by kernel_rfl
theorem fn18 : fnB Tryz.prog 18 = true := by kernel_rfl
theorem fn19 : fnB Tryz.prog 19 = true := by kernel_rfl
theorem fn20 : fnB Tryz.prog 20 = true := by kernel_rfl
theorem fn21 : fnB Tryz.prog 21 = true := by kernel_rfl
theorem fn22 : fnB Tryz.prog 22 = true := by kernel_rfl
theorem fn23 : fnB Tryz.prog 23 = true := by kernel_rfl
theorem fn24 : fnB Tryz.prog 24 = true := by kernel_rfl
theorem fn25 : fnB Tryz.prog 25 = true := by kernel_rfl
theorem fn26 : fnB Tryz.prog 26 = true := by kernel_rfl
theorem fn27 : fnB Tryz.prog 27 = true := by kernel_rfl
theorem fn28 : fnB Tryz.prog 28 = true := by kernel_rfl
theorem fn29 : fnB Tryz.prog 29 = true := by kernel_rfl
theorem fn30 : fnB Tryz.prog 30 = true := by kernel_rfl
theorem fn31 : fnB Tryz.prog 31 = true := by kernel_rfl
theorem fn32 : fnB Tryz.prog 32 = true := by kernel_rfl
theorem fn33 : fnB Tryz.prog 33 = true := by kernel_rfl
theorem fn34 : fnB Tryz.prog 34 = true := by kernel_rfl
theorem fn35 : fnB Tryz.prog 35 = true := by kernel_rfl
theorem fn36 : fnB Tryz.prog 36 = true := by kernel_rfl
theorem fn37 : fnB Tryz.prog 37 = true := by kernel_rfl
theorem fn38 : fnB Tryz.prog 38 = true := by kernel_rfl
theorem fn39 : fnB Tryz.prog 39 = true := by kernel_rfl
theorem fn40 : fnB Tryz.prog 40 = true := by kernel_rfl
theorem fn41 : fnB Tryz.prog 41 = true := by kernel_rfl
theorem fn43 : fnB Tryz.prog 43 = true := by kernel_rfl
theorem fn44 : fnB Tryz.prog 44 = true := by kernel_rfl
theorem fn48 : fnB Tryz.prog 48 = true := by kernel_rfl
theorem fn49 : fnB Tryz.prog 49 = true := by kernel_rfl
theorem fn51 : fnB Tryz.prog 51 = true := by kernel_rfl
theorem fn52 : fnB Tryz.prog 52 = true := by kernel_rfl
theorem fn53 : fnB Tryz.prog 53 = true := by kernel_rfl
theorem fn56 : fnB Tryz.prog 56 = true := by kernel_rfl
theorem fn57 : fnB Tryz.prog 57 = true := by kernel_rfl
theorem fn61 : fnB Tryz.prog 61 = true := by kernel_rfl
theorem fn65 : fnB Tryz.prog 65 = true := by kernel_rfl
theorem fn66 : fnB Tryz.prog 66 = true := by kernel_rfl
theorem fn67 : fnB Tryz.prog 67 = true := by kernel_rfl
theorem fn69 : fnB Tryz.prog 69 = true := by kernel_rfl
theorem fn70 : fnB Tryz.prog 70 = true := by kernel_rfl
theorem fn71 : fnB Tryz.prog 71 = true := by kernel_rfl
theorem fn72 : fnB Tryz.prog 72 = true := by kernel_rfl
theorem fn73 : fnB Tryz.prog 73 = true := by kernel_rfl
theorem fn76 : fnB Tryz.prog 76 = true := by kernel_rfl
theorem fn86 : fnB Tryz.prog 86 = true := by kernel_rfl
theorem fn87 : fnB Tryz.prog 87 = true := by kernel_rfl
theorem fn88 : fnB Tryz.prog 88 = true := by kernel_rfl
theorem fn96 : fnB Tryz.prog 96 = true := by kernel_rfl
end Go.Proofs.YtnmfjojhgfipcaaGreatDoor.Fx
