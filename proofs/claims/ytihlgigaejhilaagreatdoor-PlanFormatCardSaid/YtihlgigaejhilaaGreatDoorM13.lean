/- Parts of the proof, one after the other: E61, E62, Fx. No condition. -/
import Derived.Test.YtihlgigaejhilaaGreatDoorM12
import Derived.Lib.Join
import Derived.Shelf.Vars
import Derived.HandedShaped
import Derived.Test.YtihlgigaejhilaaGreatDoorProg
set_option linter.unusedVariables false
/- Contracts of the kit that lean on an open package variable, and on a slice of texts. Plain theorems, for any program. -/
namespace Go.Proofs.YtihlgigaejhilaaGreatDoor.E
open Go.RowKit
variable {P : Program} {f : FuncId}
/-- a package variable of type int, whatever it holds -/
theorem TabW.int {w : World} (h : TabW w) {g : Nat} (hg : TAB g = some fun a => ∃ m, a = #[.int .i64 m]) : ∃ m, w.cell? ⟨g, 0, none⟩ = some (.int .i64 m) := by
  obtain ⟨_, ty, fl, e, m, rfl⟩ := h g _ hg
  exact ⟨m, by simp [World.cell?, e]⟩
/-- a call that leaves the world as it was, by what the package variables hold -/
theorem Pure.of_tab (us : List Value) {v : Value} {x : X} (h : ∀ w, TabW w → Calls P f us.toArray w fun e w' => e = .returned v ∧ w' = w) (hx : ∀ c, RepX c x v) : Pure P f (us.map vC) x := by
  intro H c w vs hc hr
  have h1 := reps_vals hr
  have h2 : vs = us.toArray := by rw [← h1]
  rw [h2]
  refine (h w hc.tabw).mono ?_
  rintro e w' ⟨rfl, rfl⟩
  exact ⟨v, x, H, c, rfl, ⟨rfl, rfl⟩, hx c, hc, Ext.refl _ _ _⟩
/-- a call that leaves the world as it was, but for new blocks -/
theorem Pure.of_below (us : List Value) {v : Value} {x : X} (h : ∀ w, TabW w → Calls P f us.toArray w fun e w' => e = .returned v ∧ Below w.heap.size w w') (hx : ∀ c, RepX c x v) : Pure P f (us.map vC) x := by
  intro H c w vs hc hr
  have h1 := reps_vals hr
  have h2 : vs = us.toArray := by rw [← h1]
  rw [h2]
  refine (h w hc.tabw).mono ?_
  rintro e w' ⟨rfl, hb⟩
  obtain ⟨h3, h4⟩ := hc.far hb.os hb.tape hb.output hb.size hb.block
  exact ⟨v, x, H, c, rfl, ⟨rfl, rfl⟩, hx c, h3, h4⟩
abbrev txT (x : ByteArray) : List T := [.v (.string x)]
/-- the texts of a list, with one between each two -/
abbrev joinB (l : List ByteArray) (sep : ByteArray) : ByteArray := ⟨(Lib.join (l.map (·.data.toList)) sep.data.toList).toArray⟩
theorem Pure.join (h0 : ∀ (a : Option Addr) (c : Nat) (sep : ByteArray) (w : World), Calls P f #[.slice a 0 c, .string sep] w fun e w' => e = .returned (.string ⟨#[]⟩) ∧ w' = w)
    (h1 : ∀ (bk o c : Nat) (xs : List ByteArray) (sep : ByteArray) (w : World) (hcells : ∀ (j : Nat) x, xs[j]? = some x → w.cell? ⟨bk, o + j, none⟩ = some (.string x)) (hbk : bk < w.heap.size) (hN : xs.length ≤ 140737488355328) (hcap : xs.length ≤ c) (hlen : (Lib.join (xs.map (·.data.toList)) sep.data.toList).length ≤ 140737488355328),
      Calls P f #[.slice (some ⟨bk, o, none⟩) xs.length c, .string sep] w fun e w' => e = .returned (.string ⟨(Lib.join (xs.map (·.data.toList)) sep.data.toList).toArray⟩) ∧ Below w.heap.size w w')
    (z : Nz) (l : List ByteArray) (sep : ByteArray) (hN : l.length ≤ 140737488355328) (hl : (joinB l sep).size ≤ 140737488355328) : Pure P f [.a (.t (.sl z 1 (l.map txT))), .a (.t (.v (.string sep)))] (.c (.a (.t (.v (.string (joinB l sep)))))) := by
  intro H c w vs hc hr
  obtain ⟨v, vs', hv⟩ : ∃ v vs', vs.toList = v :: vs' := by
    have := hr.1
    match hx : vs.toList with
    | [] => rw [hx] at this; simp at this
    | v :: r => exact ⟨v, r, rfl⟩
  rw [hv] at hr
  have ha := hr.2 0 _ _ rfl rfl
  have hr2 : Reps (RepC c.μ c.β) [.a (.t (.v (.string sep)))] vs' := ⟨by have := hr.1; simp at this; simp [this], fun i x u h2 h3 => hr.2 (i + 1) x u (by simpa using h2) (by simpa using h3)⟩
  have h2 := reps_vals (us := [.string sep]) hr2
  have hvs : vs = #[v, .string sep] := by
    have : vs.toList = #[v, .string sep].toList := by rw [hv, h2]
    exact Array.toList_inj.1 this
  rw [hvs]
  have key : ∀ {u : ByteArray} {w' : World}, u = joinB l sep → Below w.heap.size w w' → ∃ y x H' c', (Ending.returned (.string u) = .returned y) ∧ (x = X.c (.a (.t (.v (.string (joinB l sep))))) ∧ H' = H) ∧ RepX c' x y ∧ Conc c' (ownH H') w' ∧ Ext c (ownH H) w c' (ownH H') w' := fun {u w'} e hb => by
    obtain ⟨h3, h4⟩ := hc.far hb.os hb.tape hb.output hb.size hb.block
    exact ⟨_, _, H, c, rfl, ⟨rfl, rfl⟩, by rw [e]; exact tv_rep rfl, h3, h4⟩
  cases ha with
  | t ha =>
  generalize hes : l.map txT = es at ha
  cases ha with
  | nil _ =>
    have hl0 : l = [] := List.map_eq_nil_iff.1 hes
    refine (h0 none 0 sep w).mono ?_
    rintro e w' ⟨rfl, rfl⟩
    exact key (by rw [hl0]; rfl) (Below.refl _ _)
  | emp _ =>
    have hl0 : l = [] := List.map_eq_nil_iff.1 hes
    refine (h0 _ _ sep w).mono ?_
    rintro e w' ⟨rfl, rfl⟩
    exact key (by rw [hl0]; rfl) (Below.refl _ _)
  | sl u ne hn hcap hlen mem rep =>
    rename_i b off n cp
    subst hes
    have hnl : n = l.length := by rw [hn, List.length_map]
    subst hnl
    have hcell : ∀ (j : Nat) x, l[j]? = some x → w.cell? ⟨b, off + j, none⟩ = some (.string x) := fun j x hj => by
      have h5 := mem j (txT x) 0 (.v (.string x)) (by rw [List.getElem?_map, hj]; rfl) rfl
      have h6 := rep j (txT x) 0 (.v (.string x)) (by rw [List.getElem?_map, hj]; rfl) rfl
      have h7 : u j 0 = .string x := by
        generalize u j 0 = y at h6
        cases h6; rfl
      have h8 := hc.mem _ _ _ h5
      rw [h7] at h8
      simpa using h8
    have hpos : 0 < l.length := List.length_pos_iff.2 fun e => ne (by rw [e]; rfl)
    have hbk : b < w.heap.size := by
      have h9 := hcell 0 l[0] (List.getElem?_eq_getElem hpos)
      unfold World.cell? at h9
      cases hq : w.heap[b]? with
      | none => rw [hq] at h9; simp at h9
      | some _ => exact (Array.getElem?_eq_some_iff.1 hq).1
    refine (h1 b off cp l sep w hcell hbk hN hcap (by have h9 : (joinB l sep).size = (Lib.join (l.map (·.data.toList)) sep.data.toList).length := by simp [ByteArray.size]
                                                      omega)).mono ?_
    rintro e w' ⟨rfl, hb⟩
    exact key rfl hb
end Go.Proofs.YtihlgigaejhilaaGreatDoor.E
/- A claim whose row lists tables and whose text reads an open package variable too: the contract gets both. Plain theorems, for any program. -/
namespace Go.Proofs.YtihlgigaejhilaaGreatDoor.E
open Go.RowKit
theorem handed_and_shaped {H : Type} {enc : TypeId × Value → H} {a : Assume} {C : Checked} {os : Os} {f : FuncId} {fn : Func} {s : ChangeSpec} {conds : List PathCond} {apart fresh handsOn again : Bool} {X : World → Array Value → Prop}
    (hX : ∀ (w w' : World) (args : Array Value), w.heap = w'.heap → X w args → X w' args)
    (own : ownKnob C.prog.godebug = none) (started : os.Started) (noInit : C.prog.inits.idxOf? f = none) (hfn : C.prog.funcs[f]? = some fn)
    (witness : ∃ (w : World) (tape : Tape) (i : Input), w.os = os ∧ (w.forCall tape i).Shaped C.prog ∧ i.vars = [] ∧ Input.okWide C.prog (w.forCall tape i) .any w.heap.size f i ∧
      ((s.pre enc C.prog fn conds apart (w.forCall tape i).memory i.args ∧ X (w.forCall tape i).memory i.args) ∧ sizedMet enc C.prog fn (OpenSpec.ofChange s) apart (w.forCall tape i).memory i.args) ∧ a.holds C.prog (lone (Frame.enter C.prog f i.args .normal) [] (w.forCall tape i)))
    (contract : ∀ (W : World) (base : Nat) (args : Array Value) (ds gs : List (DataW H)) (before : List MemPlace),
      (∀ (j : Nat) t v, fn.params[j]? = some t → args[j]? = some v → Value.okWide C.prog W .any base t v) →
      DataW.Whole enc C.prog fn.params.toList s.vars apart W args.toList ds gs before →
      conds.all (PathCond.test C.prog ⟨fn.params.toList, ds, s.plain.varTypes C.prog, gs⟩) = true →
      (DataW.weightsEach C.prog (fn.params.toList ++ s.plain.varTypes C.prog) (ds ++ gs)).all (· ≤ reachBytes) = true → X W args → W.ShapedOpen C.prog →
      a.holds C.prog (lone (Frame.enter C.prog f args .normal) [] W) →
      Calls C.prog f args W fun e W' => ∃ v, e = .returned v ∧ s.post enc C.prog fn apart fresh handsOn again W args v W') :
    ReturnsInHanded a C os f .any (fun w args => (s.pre enc C.prog fn conds apart w args ∧ X w args) ∧ sizedMet enc C.prog fn (OpenSpec.ofChange s) apart w args) (s.post enc C.prog fn apart fresh handsOn again) := by
  refine returnsInHanded_of_calls own started noInit witness ?_
  intro w tape i _ hsh _ hok hpre hholds
  obtain ⟨_, _, _, fn', hfn', _, _, _, _, hval⟩ := hok
  have e : fn' = fn := Option.some.inj (hfn'.symm.trans hfn)
  subst e
  obtain ⟨⟨⟨ds, gs, before, hw, hc⟩, hx⟩, hz⟩ := hpre
  have hw' := DataW.Whole.of_heap (w' := w.forCall tape i) (by rfl) hw
  refine (contract (w.forCall tape i) w.heap.size i.args ds gs before hval hw' hc (hz.weights hw) (hX _ _ _ (by rfl) hx) hsh hholds).mono fun e W' ⟨v, he, hp⟩ => ?_
  subst he
  exact ChangeSpec.post_blind hp
theorem openBlock {P : Program} {w : World} {g : Nat} {t : TypeId} {zero : Array Value} {k : IntKind}
    (h : w.ShapedOpen P) (hg : g < P.globals.size)
    (h0 : ((begin P (fun _ _ => 0) default).world.heap[g]?).bind Obj.row? = some (zero, t)) (hz : zero.size = 1)
    (hb : P.buildable t = true) (hc : P.cellTypes P.depth t = some [t]) (hu : P.underlying t = some (.int k)) :
    IsT w.heap[g]? (fun a => ∃ m, a = #[.int k m]) := by
  obtain ⟨m, hm⟩ := cell_of_shapedOpen_int h hg h0 hz hb hc hu
  obtain ⟨cs, hh, hs, _⟩ := h.1 g zero t hg h0
  have h1 : 0 < cs.size := by omega
  have h2 : cs[0] = .int k m := by
    have := hm
    simp only [World.cell?, hh] at this
    simpa [h1] using this
  refine ⟨cs, t, _, hh, m, ?_⟩
  apply Array.ext
  · simp; omega
  · intro i hi hi'
    have : i = 0 := by omega
    subst this
    simpa using h2
theorem tab2_of {P : Program} {w : World} {name : String} {g g0 : Nat} {k k0 : IntKind} {zs : List Int} (h : Lib.TabIs P w name k zs) (hg : P.globalNamed name = some g)
    (h0 : IsT w.heap[g0]? (fun a => ∃ m, a = #[.int k0 m]))
    (hT : ∀ g' q, TAB g' = some q → (g' = g0 ∧ q = fun a => ∃ m, a = #[.int k0 m]) ∨ (g' = g ∧ q = (· = (zs.map fun z => Value.int k z).toArray))) : TabW w := fun g' q hc => by
  rcases hT g' q hc with ⟨rfl, rfl⟩ | ⟨rfl, rfl⟩
  · exact h0
  · unfold Lib.TabIs World.var? at h
    rw [hg] at h
    simp only [Option.bind_some] at h
    split at h
    · rename_i cs' ty fl e
      injection h with h
      subst h
      exact ⟨_, ty, fl, e, rfl⟩
    · cases h
end Go.Proofs.YtihlgigaejhilaaGreatDoor.E
/- Closed facts on the types and functions of the program. -/
namespace Go.Proofs.YtihlgigaejhilaaGreatDoor.Fx
open Go.Proofs.YtihlgigaejhilaaGreatDoor.E
theorem mo : Tryz.prog.follows .mixedOrders = true := by kernel_rfl
theorem ty2 : tyB Tryz.prog 2 false 1 = true := by kernel_rfl
theorem un2 : Tryz.prog.underlying 2 = some (.int .i64) := by kernel_rfl
theorem ty3 : tyB Tryz.prog 3 false 1 = true := by kernel_rfl
theorem ze3 : zeroIs Tryz.prog 3 (.int .i64 0) := (by kernel_rfl : (Tryz.prog.info? 3).bind (·.zero) = some (.int .i64 0))
theorem ty4 : tyB Tryz.prog 4 false 1 = true := by kernel_rfl
theorem un5 : Tryz.prog.underlying 5 = some (.int .u8) := by kernel_rfl
theorem ty9 : tyB Tryz.prog 9 false 1 = true := by kernel_rfl
theorem un9 : Tryz.prog.underlying 9 = some .string := by kernel_rfl
theorem ty23 : tyB Tryz.prog 23 false 1 = true := by kernel_rfl
theorem sl23 : slB Tryz.prog 23 64 5 = true := by kernel_rfl
theorem el23 : elB Tryz.prog 23 64 5 112 = true := by kernel_rfl
theorem un23 : Tryz.prog.underlying 23 = some (.slice 64) := by kernel_rfl
theorem ty24 : tyB Tryz.prog 24 false 1 = true := by kernel_rfl
theorem sl24 : slB Tryz.prog 24 3 1 = true := by kernel_rfl
theorem el24 : elB Tryz.prog 24 3 1 8 = true := by kernel_rfl
theorem un24 : Tryz.prog.underlying 24 = some (.slice 3) := by kernel_rfl
theorem ty25 : tyB Tryz.prog 25 false 1 = true := by kernel_rfl
theorem sl25 : slB Tryz.prog 25 9 1 = true := by kernel_rfl
theorem el25 : elB Tryz.prog 25 9 1 16 = true := by kernel_rfl
theorem un25 : Tryz.prog.underlying 25 = some (.slice 9) := by kernel_rfl
theorem ty27 : tyB Tryz.prog 27 true 3 = true := by kernel_rfl
theorem ze27 : zeroIs Tryz.prog 27 (.agg #[.int .i64 0, .int .i64 0, .string ⟨#[]⟩]) := (by kernel_rfl : (Tryz.prog.info? 27).bind (·.zero) = some (.agg #[.int .i64 0, .int .i64 0, .string ⟨#[]⟩]))
theorem fl27_0 : fldB Tryz.prog 27 0 0 = true := by kernel_rfl
theorem fl27_1 : fldB Tryz.prog 27 1 1 = true := by kernel_rfl
theorem fl27_2 : fldB Tryz.prog 27 2 2 = true := by kernel_rfl
theorem bp27 : bplB Tryz.prog 27 [(0, 1), (1, 1), (2, 1)] = true := by kernel_rfl
theorem ty28 : tyB Tryz.prog 28 false 1 = true := by kernel_rfl
theorem sl28 : slB Tryz.prog 28 30 8 = true := by kernel_rfl
theorem el28 : elB Tryz.prog 28 30 8 104 = true := by kernel_rfl
theorem un28 : Tryz.prog.underlying 28 = some (.slice 30) := by kernel_rfl
theorem ty30 : tyB Tryz.prog 30 true 8 = true := by kernel_rfl
theorem ze30 : zeroIs Tryz.prog 30 (.agg #[.int .i64 0, .string ⟨#[]⟩, .string ⟨#[]⟩, .int .i64 0, .int .i64 0, .int .i64 0, .string ⟨#[]⟩, .slice none 0 0]) := (by kernel_rfl : (Tryz.prog.info? 30).bind (·.zero) = some (.agg #[.int .i64 0, .string ⟨#[]⟩, .string ⟨#[]⟩, .int .i64 0, .int .i64 0, .int .i64 0, .string ⟨#[]⟩, .slice none 0 0]))
theorem fl30_0 : fldB Tryz.prog 30 0 0 = true := by kernel_rfl
theorem fl30_1 : fldB Tryz.prog 30 1 1 = true := by kernel_rfl
theorem fl30_2 : fldB Tryz.prog 30 2 2 = true := by kernel_rfl
theorem fl30_3 : fldB Tryz.prog 30 3 3 = true := by kernel_rfl
theorem fl30_4 : fldB Tryz.prog 30 4 4 = true := by kernel_rfl
theorem fl30_5 : fldB Tryz.prog 30 5 7 = true := by kernel_rfl
theorem bp30 : bplB Tryz.prog 30 [(0, 1), (1, 1), (2, 1), (3, 1), (4, 3), (7, 1)] = true := by kernel_rfl
theorem ty32 : tyB Tryz.prog 32 true 11 = true := by kernel_rfl
theorem ze32 : zeroIs Tryz.prog 32 (.agg #[.slice none 0 0, .slice none 0 0, .slice none 0 0, .int .i64 0, .string ⟨#[]⟩, .string ⟨#[]⟩, .int .i64 0, .int .i64 0, .int .i64 0, .string ⟨#[]⟩, .slice none 0 0]) := (by kernel_rfl : (Tryz.prog.info? 32).bind (·.zero) = some (.agg #[.slice none 0 0, .slice none 0 0, .slice none 0 0, .int .i64 0, .string ⟨#[]⟩, .string ⟨#[]⟩, .int .i64 0, .int .i64 0, .int .i64 0, .string ⟨#[]⟩, .slice none 0 0]))
theorem fl32_0 : fldB Tryz.prog 32 0 0 = true := by kernel_rfl
theorem fl32_1 : fldB Tryz.prog 32 1 1 = true := by kernel_rfl
theorem fl32_2 : fldB Tryz.prog 32 2 2 = true := by kernel_rfl
theorem fl32_3 : fldB Tryz.prog 32 3 3 = true := by kernel_rfl
theorem bp32 : bplB Tryz.prog 32 [(0, 1), (1, 1), (2, 1), (3, 8)] = true := by kernel_rfl
theorem ty33 : tyB Tryz.prog 33 false 1 = true := by kernel_rfl
theorem sl33 : slB Tryz.prog 33 35 13 = true := by kernel_rfl
theorem el33 : elB Tryz.prog 33 35 13 192 = true := by kernel_rfl
theorem un33 : Tryz.prog.underlying 33 = some (.slice 35) := by kernel_rfl
theorem ty35 : tyB Tryz.prog 35 true 13 = true := by kernel_rfl
theorem ze35 : zeroIs Tryz.prog 35 (.agg #[.int .i64 0, .int .i64 0, .slice none 0 0, .slice none 0 0, .int .i64 0, .string ⟨#[]⟩, .string ⟨#[]⟩, .int .i64 0, .int .i64 0, .int .i64 0, .string ⟨#[]⟩, .slice none 0 0, .slice none 0 0]) := (by kernel_rfl : (Tryz.prog.info? 35).bind (·.zero) = some (.agg #[.int .i64 0, .int .i64 0, .slice none 0 0, .slice none 0 0, .int .i64 0, .string ⟨#[]⟩, .string ⟨#[]⟩, .int .i64 0, .int .i64 0, .int .i64 0, .string ⟨#[]⟩, .slice none 0 0, .slice none 0 0]))
theorem fl35_0 : fldB Tryz.prog 35 0 0 = true := by kernel_rfl
theorem fl35_1 : fldB Tryz.prog 35 1 1 = true := by kernel_rfl
theorem fl35_2 : fldB Tryz.prog 35 2 2 = true := by kernel_rfl
theorem fl35_3 : fldB Tryz.prog 35 3 3 = true := by kernel_rfl
theorem fl35_4 : fldB Tryz.prog 35 4 4 = true := by kernel_rfl
theorem fl35_5 : fldB Tryz.prog 35 5 12 = true := by kernel_rfl
theorem bp35 : bplB Tryz.prog 35 [(0, 1), (1, 1), (2, 1), (3, 1), (4, 8), (12, 1)] = true := by kernel_rfl
theorem ty36 : tyB Tryz.prog 36 false 1 = true := by kernel_rfl
theorem sl36 : slB Tryz.prog 36 82 6 = true := by kernel_rfl
theorem el36 : elB Tryz.prog 36 82 6 56 = true := by kernel_rfl
theorem un36 : Tryz.prog.underlying 36 = some (.slice 82) := by kernel_rfl
theorem ty37 : tyB Tryz.prog 37 false 1 = true := by kernel_rfl
theorem sl37 : slB Tryz.prog 37 25 1 = true := by kernel_rfl
theorem el37 : elB Tryz.prog 37 25 1 24 = true := by kernel_rfl
theorem un37 : Tryz.prog.underlying 37 = some (.slice 25) := by kernel_rfl
theorem ty38 : tyB Tryz.prog 38 false 1 = true := by kernel_rfl
theorem sl38 : slB Tryz.prog 38 114 3 = true := by kernel_rfl
theorem el38 : elB Tryz.prog 38 114 3 64 = true := by kernel_rfl
theorem un38 : Tryz.prog.underlying 38 = some (.slice 114) := by kernel_rfl
theorem ty40 : tyB Tryz.prog 40 true 4 = true := by kernel_rfl
theorem ze40 : zeroIs Tryz.prog 40 (.agg #[.slice none 0 0, .slice none 0 0, .slice none 0 0, .slice none 0 0]) := (by kernel_rfl : (Tryz.prog.info? 40).bind (·.zero) = some (.agg #[.slice none 0 0, .slice none 0 0, .slice none 0 0, .slice none 0 0]))
theorem fl40_0 : fldB Tryz.prog 40 0 0 = true := by kernel_rfl
theorem fl40_1 : fldB Tryz.prog 40 1 1 = true := by kernel_rfl
theorem fl40_2 : fldB Tryz.prog 40 2 2 = true := by kernel_rfl
theorem fl40_3 : fldB Tryz.prog 40 3 3 = true := by kernel_rfl
theorem bp40 : bplB Tryz.prog 40 [(0, 1), (1, 1), (2, 1), (3, 1)] = true := by kernel_rfl
theorem ty44 : tyB Tryz.prog 44 false 1 = true := by kernel_rfl
theorem sl44 : slB Tryz.prog 44 66 2 = true := by kernel_rfl
theorem el44 : elB Tryz.prog 44 66 2 32 = true := by kernel_rfl
theorem un44 : Tryz.prog.underlying 44 = some (.slice 66) := by kernel_rfl
theorem ty47 : tyB Tryz.prog 47 true 22 = true := by kernel_rfl
theorem ze47 : zeroIs Tryz.prog 47 (.agg #[.int .i64 0, .string ⟨#[]⟩, .slice none 0 0, .slice none 0 0, .slice none 0 0, .slice none 0 0, .slice none 0 0, .slice none 0 0, .slice none 0 0, .slice none 0 0, .int .i64 0, .string ⟨#[]⟩, .string ⟨#[]⟩, .int .i64 0, .int .i64 0, .int .i64 0, .string ⟨#[]⟩, .slice none 0 0, .slice none 0 0, .slice none 0 0, .int .i64 0, .string ⟨#[]⟩]) := (by kernel_rfl : (Tryz.prog.info? 47).bind (·.zero) = some (.agg #[.int .i64 0, .string ⟨#[]⟩, .slice none 0 0, .slice none 0 0, .slice none 0 0, .slice none 0 0, .slice none 0 0, .slice none 0 0, .slice none 0 0, .slice none 0 0, .int .i64 0, .string ⟨#[]⟩, .string ⟨#[]⟩, .int .i64 0, .int .i64 0, .int .i64 0, .string ⟨#[]⟩, .slice none 0 0, .slice none 0 0, .slice none 0 0, .int .i64 0, .string ⟨#[]⟩]))
theorem fl47_0 : fldB Tryz.prog 47 0 0 = true := by kernel_rfl
theorem fl47_1 : fldB Tryz.prog 47 1 1 = true := by kernel_rfl
theorem fl47_2 : fldB Tryz.prog 47 2 2 = true := by kernel_rfl
theorem fl47_6 : fldB Tryz.prog 47 6 9 = true := by kernel_rfl
theorem fl47_7 : fldB Tryz.prog 47 7 10 = true := by kernel_rfl
theorem bp47 : bplB Tryz.prog 47 [(0, 1), (1, 1), (2, 4), (6, 1), (7, 1), (8, 1), (9, 1), (10, 8), (18, 1), (19, 1), (20, 1), (21, 1)] = true := by kernel_rfl
theorem ty48 : tyB Tryz.prog 48 false 1 = true := by kernel_rfl
theorem el48 : elB Tryz.prog 48 95 5 40 = true := by kernel_rfl
theorem ty51 : tyB Tryz.prog 51 true 26 = true := by kernel_rfl
theorem ze51 : zeroIs Tryz.prog 51 (.agg #[.int .i64 0, .string ⟨#[]⟩, .slice none 0 0, .slice none 0 0, .slice none 0 0, .slice none 0 0, .slice none 0 0, .slice none 0 0, .slice none 0 0, .slice none 0 0, .int .i64 0, .string ⟨#[]⟩, .string ⟨#[]⟩, .int .i64 0, .int .i64 0, .int .i64 0, .string ⟨#[]⟩, .slice none 0 0, .slice none 0 0, .slice none 0 0, .int .i64 0, .string ⟨#[]⟩, .int .i64 0, .slice none 0 0, .slice none 0 0, .slice none 0 0]) := (by kernel_rfl : (Tryz.prog.info? 51).bind (·.zero) = some (.agg #[.int .i64 0, .string ⟨#[]⟩, .slice none 0 0, .slice none 0 0, .slice none 0 0, .slice none 0 0, .slice none 0 0, .slice none 0 0, .slice none 0 0, .slice none 0 0, .int .i64 0, .string ⟨#[]⟩, .string ⟨#[]⟩, .int .i64 0, .int .i64 0, .int .i64 0, .string ⟨#[]⟩, .slice none 0 0, .slice none 0 0, .slice none 0 0, .int .i64 0, .string ⟨#[]⟩, .int .i64 0, .slice none 0 0, .slice none 0 0, .slice none 0 0]))
theorem fl51_0 : fldB Tryz.prog 51 0 0 = true := by kernel_rfl
theorem fl51_2 : fldB Tryz.prog 51 2 23 = true := by kernel_rfl
theorem fl51_3 : fldB Tryz.prog 51 3 24 = true := by kernel_rfl
theorem bp51 : bplB Tryz.prog 51 [(0, 22), (22, 1), (23, 1), (24, 1), (25, 1)] = true := by kernel_rfl
theorem ty61 : tyB Tryz.prog 61 false 1 = true := by kernel_rfl
theorem sl61 : slB Tryz.prog 61 24 1 = true := by kernel_rfl
theorem el61 : elB Tryz.prog 61 24 1 24 = true := by kernel_rfl
theorem un61 : Tryz.prog.underlying 61 = some (.slice 24) := by kernel_rfl
theorem ty62 : tyB Tryz.prog 62 false 1 = true := by kernel_rfl
theorem sl62 : slB Tryz.prog 62 88 3 = true := by kernel_rfl
theorem el62 : elB Tryz.prog 62 88 3 40 = true := by kernel_rfl
theorem un62 : Tryz.prog.underlying 62 = some (.slice 88) := by kernel_rfl
theorem ty64 : tyB Tryz.prog 64 true 5 = true := by kernel_rfl
theorem ze64 : zeroIs Tryz.prog 64 (.agg #[.string ⟨#[]⟩, .slice none 0 0, .slice none 0 0, .slice none 0 0, .slice none 0 0]) := (by kernel_rfl : (Tryz.prog.info? 64).bind (·.zero) = some (.agg #[.string ⟨#[]⟩, .slice none 0 0, .slice none 0 0, .slice none 0 0, .slice none 0 0]))
theorem fl64_0 : fldB Tryz.prog 64 0 0 = true := by kernel_rfl
theorem fl64_1 : fldB Tryz.prog 64 1 1 = true := by kernel_rfl
theorem fl64_2 : fldB Tryz.prog 64 2 2 = true := by kernel_rfl
theorem fl64_3 : fldB Tryz.prog 64 3 3 = true := by kernel_rfl
theorem fl64_4 : fldB Tryz.prog 64 4 4 = true := by kernel_rfl
theorem bp64 : bplB Tryz.prog 64 [(0, 1), (1, 1), (2, 1), (3, 1), (4, 1)] = true := by kernel_rfl
theorem ze66 : zeroIs Tryz.prog 66 (.agg #[.string ⟨#[]⟩, .string ⟨#[]⟩]) := (by kernel_rfl : (Tryz.prog.info? 66).bind (·.zero) = some (.agg #[.string ⟨#[]⟩, .string ⟨#[]⟩]))
theorem fl66_1 : fldB Tryz.prog 66 1 1 = true := by kernel_rfl
theorem bp66 : bplB Tryz.prog 66 [(0, 1), (1, 1)] = true := by kernel_rfl
theorem ty76 : tyB Tryz.prog 76 false 1 = true := by kernel_rfl
theorem ze78 : zeroIs Tryz.prog 78 (.agg #[.slice none 0 0, .int .i64 0, .string ⟨#[]⟩, .slice none 0 0, .slice none 0 0, .slice none 0 0, .slice none 0 0, .slice none 0 0, .slice none 0 0, .slice none 0 0, .slice none 0 0, .int .i64 0, .string ⟨#[]⟩, .string ⟨#[]⟩, .int .i64 0, .int .i64 0, .int .i64 0, .string ⟨#[]⟩, .slice none 0 0, .slice none 0 0, .slice none 0 0, .int .i64 0, .string ⟨#[]⟩, .int .i64 0, .slice none 0 0, .slice none 0 0, .slice none 0 0]) := (by kernel_rfl : (Tryz.prog.info? 78).bind (·.zero) = some (.agg #[.slice none 0 0, .int .i64 0, .string ⟨#[]⟩, .slice none 0 0, .slice none 0 0, .slice none 0 0, .slice none 0 0, .slice none 0 0, .slice none 0 0, .slice none 0 0, .slice none 0 0, .int .i64 0, .string ⟨#[]⟩, .string ⟨#[]⟩, .int .i64 0, .int .i64 0, .int .i64 0, .string ⟨#[]⟩, .slice none 0 0, .slice none 0 0, .slice none 0 0, .int .i64 0, .string ⟨#[]⟩, .int .i64 0, .slice none 0 0, .slice none 0 0, .slice none 0 0]))
theorem fl78_0 : fldB Tryz.prog 78 0 0 = true := by kernel_rfl
theorem fl78_1 : fldB Tryz.prog 78 1 1 = true := by kernel_rfl
theorem bp78 : bplB Tryz.prog 78 [(0, 1), (1, 26)] = true := by kernel_rfl
theorem ty82 : tyB Tryz.prog 82 true 6 = true := by kernel_rfl
theorem ze82 : zeroIs Tryz.prog 82 (.agg #[.string ⟨#[]⟩, .int .i64 0, .int .i64 0, .int .i64 0, .int .i64 0, .bool false]) := (by kernel_rfl : (Tryz.prog.info? 82).bind (·.zero) = some (.agg #[.string ⟨#[]⟩, .int .i64 0, .int .i64 0, .int .i64 0, .int .i64 0, .bool false]))
theorem fl82_0 : fldB Tryz.prog 82 0 0 = true := by kernel_rfl
theorem fl82_1 : fldB Tryz.prog 82 1 1 = true := by kernel_rfl
theorem fl82_2 : fldB Tryz.prog 82 2 2 = true := by kernel_rfl
theorem fl82_3 : fldB Tryz.prog 82 3 3 = true := by kernel_rfl
theorem fl82_4 : fldB Tryz.prog 82 4 4 = true := by kernel_rfl
theorem fl82_5 : fldB Tryz.prog 82 5 5 = true := by kernel_rfl
theorem bp82 : bplB Tryz.prog 82 [(0, 1), (1, 1), (2, 1), (3, 1), (4, 1), (5, 1)] = true := by kernel_rfl
theorem sl85 : slB Tryz.prog 85 47 22 = true := by kernel_rfl
theorem el85 : elB Tryz.prog 85 47 22 392 = true := by kernel_rfl
theorem un85 : Tryz.prog.underlying 85 = some (.slice 47) := by kernel_rfl
theorem ty88 : tyB Tryz.prog 88 true 3 = true := by kernel_rfl
theorem ze88 : zeroIs Tryz.prog 88 (.agg #[.slice none 0 0, .int .i64 0, .int .i64 0]) := (by kernel_rfl : (Tryz.prog.info? 88).bind (·.zero) = some (.agg #[.slice none 0 0, .int .i64 0, .int .i64 0]))
theorem fl88_0 : fldB Tryz.prog 88 0 0 = true := by kernel_rfl
theorem fl88_1 : fldB Tryz.prog 88 1 1 = true := by kernel_rfl
theorem fl88_2 : fldB Tryz.prog 88 2 2 = true := by kernel_rfl
theorem bp88 : bplB Tryz.prog 88 [(0, 1), (1, 1), (2, 1)] = true := by kernel_rfl
theorem ze95 : zeroIs Tryz.prog 95 (.agg #[.int .i64 0, .int .i64 0, .int .i64 0, .int .i64 0, .bool false]) := (by kernel_rfl : (Tryz.prog.info? 95).bind (·.zero) = some (.agg #[.int .i64 0, .int .i64 0, .int .i64 0, .int .i64 0, .bool false]))
theorem bp95 : bplB Tryz.prog 95 [(0, 1), (1, 1), (2, 1), (3, 1), (4, 1)] = true := by kernel_rfl
theorem ty98 : tyB Tryz.prog 98 false 1 = true := by kernel_rfl
theorem ze98 : zeroIs Tryz.prog 98 (.slice none 0 0) := (by kernel_rfl : (Tryz.prog.info? 98).bind (·.zero) = some (.slice none 0 0))
theorem sl98 : slB Tryz.prog 98 103 2 = true := by kernel_rfl
theorem el98 : elB Tryz.prog 98 103 2 16 = true := by kernel_rfl
theorem un98 : Tryz.prog.underlying 98 = some (.slice 103) := by kernel_rfl
theorem ty103 : tyB Tryz.prog 103 true 2 = true := by kernel_rfl
theorem ze103 : zeroIs Tryz.prog 103 (.agg #[.int .i64 0, .bool false]) := (by kernel_rfl : (Tryz.prog.info? 103).bind (·.zero) = some (.agg #[.int .i64 0, .bool false]))
theorem fl103_0 : fldB Tryz.prog 103 0 0 = true := by kernel_rfl
theorem fl103_1 : fldB Tryz.prog 103 1 1 = true := by kernel_rfl
theorem bp103 : bplB Tryz.prog 103 [(0, 1), (1, 1)] = true := by kernel_rfl
theorem ty114 : tyB Tryz.prog 114 true 3 = true := by kernel_rfl
theorem ze114 : zeroIs Tryz.prog 114 (.agg #[.slice none 0 0, .string ⟨#[]⟩, .slice none 0 0]) := (by kernel_rfl : (Tryz.prog.info? 114).bind (·.zero) = some (.agg #[.slice none 0 0, .string ⟨#[]⟩, .slice none 0 0]))
theorem fl114_0 : fldB Tryz.prog 114 0 0 = true := by kernel_rfl
theorem fl114_1 : fldB Tryz.prog 114 1 1 = true := by kernel_rfl
theorem fl114_2 : fldB Tryz.prog 114 2 2 = true := by kernel_rfl
theorem bp114 : bplB Tryz.prog 114 [(0, 1), (1, 1), (2, 1)] = true := by kernel_rfl
theorem ty122 : tyB Tryz.prog 122 false 1 = true := by kernel_rfl
theorem ze122 : zeroIs Tryz.prog 122 (.nilFunc) := (by kernel_rfl : (Tryz.prog.info? 122).bind (·.zero) = some (.nilFunc))
theorem el133 : elB Tryz.prog 133 5 1 1 = true := by kernel_rfl
theorem un133 : Tryz.prog.underlying 133 = some (.slice 5) := by kernel_rfl
theorem ty196 : tyB Tryz.prog 196 true 20 = true := by kernel_rfl
theorem ze196 : zeroIs Tryz.prog 196 (.agg #[.string ⟨#[]⟩, .string ⟨#[]⟩, .string ⟨#[]⟩, .string ⟨#[]⟩, .string ⟨#[]⟩, .string ⟨#[]⟩, .string ⟨#[]⟩, .string ⟨#[]⟩, .string ⟨#[]⟩, .string ⟨#[]⟩, .string ⟨#[]⟩, .string ⟨#[]⟩, .string ⟨#[]⟩, .string ⟨#[]⟩, .string ⟨#[]⟩, .string ⟨#[]⟩, .string ⟨#[]⟩, .string ⟨#[]⟩, .string ⟨#[]⟩, .string ⟨#[]⟩]) := (by kernel_rfl : (Tryz.prog.info? 196).bind (·.zero) = some (.agg #[.string ⟨#[]⟩, .string ⟨#[]⟩, .string ⟨#[]⟩, .string ⟨#[]⟩, .string ⟨#[]⟩, .string ⟨#[]⟩, .string ⟨#[]⟩, .string ⟨#[]⟩, .string ⟨#[]⟩, .string ⟨#[]⟩, .string ⟨#[]⟩, .string ⟨#[]⟩, .string ⟨#[]⟩, .string ⟨#[]⟩, .string ⟨#[]⟩, .string ⟨#[]⟩, .string ⟨#[]⟩, .string ⟨#[]⟩, .string ⟨#[]⟩, .string ⟨#[]⟩]))
theorem ar196 : arB Tryz.prog 196 20 9 1 = true := by kernel_rfl
theorem bp196 : bplB Tryz.prog 196 [(0, 1), (1, 1), (2, 1), (3, 1), (4, 1), (5, 1), (6, 1), (7, 1), (8, 1), (9, 1), (10, 1), (11, 1), (12, 1), (13, 1), (14, 1), (15, 1), (16, 1), (17, 1), (18, 1), (19, 1)] = true := by kernel_rfl
theorem fn4 : fnB Tryz.prog 4 = true := by kernel_rfl
theorem fn5 : fnB Tryz.prog 5 = true := by kernel_rfl
theorem fn6 : fnB Tryz.prog 6 = true := by kernel_rfl
theorem fn7 : fnB Tryz.prog 7 = true := by kernel_rfl
theorem fn8 : fnB Tryz.prog 8 = true := by kernel_rfl
theorem fn9 : fnB Tryz.prog 9 = true := by kernel_rfl
theorem fn10 : fnB Tryz.prog 10 = true := by kernel_rfl
theorem fn11 : fnB Tryz.prog 11 = true := by kernel_rfl
theorem fn12 : fnB Tryz.prog 12 = true := by kernel_rfl
theorem fn13 : fnB Tryz.prog 13 = true := by kernel_rfl
theorem fn14 : fnB Tryz.prog 14 = true := by kernel_rfl
theorem fn15 : fnB Tryz.prog 15 = true := by kernel_rfl
theorem fn16 : fnB Tryz.prog 16 = true := by kernel_rfl
theorem fn17 : fnB Tryz.prog 17 = true := by kernel_rfl
theorem fn18 : fnB Tryz.prog 18 = true := by kernel_rfl
theorem fn19 : fnB Tryz.prog 19 = true := by kernel_rfl
theorem fn20 : fnB Tryz.prog 20 = true := by kernel_rfl
theorem fn21 : fnB Tryz.prog 21 = true := by kernel_rfl
theorem fn22 : fnB Tryz.prog 22 = true := by kernel_rfl
theorem fn23 : fnB Tryz.prog 23 = true := by kernel_rfl
theorem fn24 : fnB Tryz.prog 24 = true := by kernel_rfl
theorem fn25 : fnB Tryz.prog 25 = true := by kernel_rfl
theorem fn26 : fnB Tryz.prog 26 = true := by kernel_rfl
theorem fn27 : fnB Tryz.prog 27 = true := by kernel_rfl
theorem fn28 : fnB Tryz.prog 28 = true := by kernel_rfl
theorem fn29 : fnB Tryz.prog 29 = true := by kernel_rfl
theorem fn30 : fnB Tryz.prog 30 = true := by kernel_rfl
theorem fn31 : fnB Tryz.prog 31 = true := by kernel_rfl
theorem fn32 : fnB Tryz.prog 32 = true := by kernel_rfl
theorem fn33 : fnB Tryz.prog 33 = true := by kernel_rfl
theorem fn34 : fnB Tryz.prog 34 = true := by kernel_rfl
theorem fn35 : fnB Tryz.prog 35 = true := by kernel_rfl
theorem fn36 : fnB Tryz.prog 36 = true := by kernel_rfl
theorem fn37 : fnB Tryz.prog 37 = true := by kernel_rfl
theorem fn38 : fnB Tryz.prog 38 = true := by kernel_rfl
theorem fn39 : fnB Tryz.prog 39 = true := by kernel_rfl
theorem fn40 : fnB Tryz.prog 40 = true := by kernel_rfl
theorem fn41 : fnB Tryz.prog 41 = true := by kernel_rfl
theorem fn42 : fnB Tryz.prog 42 = true := by kernel_rfl
theorem fn43 : fnB Tryz.prog 43 = true := by kernel_rfl
theorem fn44 : fnB Tryz.prog 44 = true := by kernel_rfl
theorem fn45 : fnB Tryz.prog 45 = true := by kernel_rfl
theorem fn46 : fnB Tryz.prog 46 = true := by kernel_rfl
theorem fn47 : fnB Tryz.prog 47 = true := by kernel_rfl
theorem fn48 : fnB Tryz.prog 48 = true := by kernel_rfl
theorem fn49 : fnB Tryz.prog 49 = true := by kernel_rfl
theorem fn50 : fnB Tryz.prog 50 = true := by kernel_rfl
theorem fn51 : fnB Tryz.prog 51 = true := by kernel_rfl
theorem fn52 : fnB Tryz.prog 52 = true := by kernel_rfl
theorem fn53 : fnB Tryz.prog 53 = true := by kernel_rfl
theorem fn54 : fnB Tryz.prog 54 = true := by kernel_rfl
theorem fn55 : fnB Tryz.prog 55 = true := by kernel_rfl
theorem fn56 : fnB Tryz.prog 56 = true := by kernel_rfl
theorem fn57 : fnB Tryz.prog 57 = true := by kernel_rfl
theorem fn58 : fnB Tryz.prog 58 = true := by kernel_rfl
theorem fn59 : fnB Tryz.prog 59 = true := by kernel_rfl
theorem fn60 : fnB Tryz.prog 60 = true := by kernel_rfl
theorem fn61 : fnB Tryz.prog 61 = true := by kernel_rfl
theorem fn62 : fnB Tryz.prog 62 = true := by kernel_rfl
theorem fn63 : fnB Tryz.prog 63 = true := by kernel_rfl
theorem fn64 : fnB Tryz.prog 64 = true := by kernel_rfl
theorem fn65 : fnB Tryz.prog 65 = true := by kernel_rfl
theorem fn66 : fnB Tryz.prog 66 = true := by kernel_rfl
theorem fn67 : fnB Tryz.prog 67 = true := by kernel_rfl
theorem fn68 : fnB Tryz.prog 68 = true := by kernel_rfl
theorem fn69 : fnB Tryz.prog 69 = true := by kernel_rfl
theorem fn70 : fnB Tryz.prog 70 = true := by kernel_rfl
theorem fn73 : fnB Tryz.prog 73 = true := by kernel_rfl
theorem fn74 : fnB Tryz.prog 74 = true := by kernel_rfl
theorem fn75 : fnB Tryz.prog 75 = true := by kernel_rfl
theorem fn79 : fnB Tryz.prog 79 = true := by kernel_rfl
theorem fn80 : fnB Tryz.prog 80 = true := by kernel_rfl
theorem fn81 : fnB Tryz.prog 81 = true := by kernel_rfl
theorem fn82 : fnB Tryz.prog 82 = true := by kernel_rfl
theorem fn83 : fnB Tryz.prog 83 = true := by kernel_rfl
theorem fn84 : fnB Tryz.prog 84 = true := by kernel_rfl
theorem fn85 : fnB Tryz.prog 85 = true := by kernel_rfl
theorem fn86 : fnB Tryz.prog 86 = true := by kernel_rfl
theorem fn87 : fnB Tryz.prog 87 = true := by kernel_rfl
theorem fn88 : fnB Tryz.prog 88 = true := by kernel_rfl
theorem fn89 : fnB Tryz.prog 89 = true := by kernel_rfl
theorem fn90 : fnB Tryz.prog 90 = true := by kernel_rfl
theorem fn91 : fnB Tryz.prog 91 = true := by kernel_rfl
theorem fn92 : fnB Tryz.prog 92 = true := by kernel_rfl
theorem fn93 : fnB Tryz.prog 93 = true := by kernel_rfl
theorem fn94 : fnB Tryz.prog 94 = true := by kernel_rfl
theorem fn95 : fnB Tryz.prog 95 = true := by kernel_rfl
theorem fn96 : fnB Tryz.prog 96 = true := by kernel_rfl
theorem fn97 : fnB Tryz.prog 97 = true := by kernel_rfl
theorem fn109 : fnB Tryz.prog 109 = true := by kernel_rfl
theorem fn110 : fnB Tryz.prog 110 = true := by kernel_rfl
theorem fn113 : fnB Tryz.prog 113 = true := by kernel_rfl
theorem fn114 : fnB Tryz.prog 114 = true := by kernel_rfl
theorem fn115 : fnB Tryz.prog 115 = true := by kernel_rfl
theorem fn116 : fnB Tryz.prog 116 = true := by kernel_rfl
theorem fn117 : fnB Tryz.prog 117 = true := by kernel_rfl
theorem fn118 : fnB Tryz.prog 118 = true := by kernel_rfl
theorem fn119 : fnB Tryz.prog 119 = true := by kernel_rfl
theorem fn120 : fnB Tryz.prog 120 = true := by kernel_rfl
theorem fn121 : fnB Tryz.prog 121 = true := by kernel_rfl
theorem fn122 : fnB Tryz.prog 122 = true := by kernel_rfl
theorem fn123 : fnB Tryz.prog 123 = true := by kernel_rfl
theorem fn124 : fnB Tryz.prog 124 = true := by kernel_rfl
theorem fn125 : fnB Tryz.prog 125 = true := by kernel_rfl
theorem fn132 : fnB Tryz.prog 132 = true := by kernel_rfl
theorem fn133 : fnB Tryz.prog 133 = true := by kernel_rfl
theorem fn134 : fnB Tryz.prog 134 = true := by kernel_rfl
theorem fn135 : fnB Tryz.prog 135 = true := by kernel_rfl
theorem fn138 : fnB Tryz.prog 138 = true := by kernel_rfl
theorem fn139 : fnB Tryz.prog 139 = true := by kernel_rfl
theorem fn140 : fnB Tryz.prog 140 = true := by kernel_rfl
theorem fn142 : fnB Tryz.prog 142 = true := by kernel_rfl
theorem fn143 : fnB Tryz.prog 143 = true := by kernel_rfl
theorem fn144 : fnB Tryz.prog 144 = true := by kernel_rfl
theorem fn145 : fnB Tryz.prog 145 = true := by kernel_rfl
theorem fn146 : fnB Tryz.prog 146 = true := by kernel_rfl
theorem fn147 : fnB Tryz.prog 147 = true := by kernel_rfl
theorem fn148 : fnB Tryz.prog 148 = true := by kernel_rfl
theorem fn149 : fnB Tryz.prog 149 = true := by kernel_rfl
theorem fn150 : fnB Tryz.prog 150 = true := by kernel_rfl
theorem fn151 : fnB Tryz.prog 151 = true := by kernel_rfl
theorem fn152 : fnB Tryz.prog 152 = true := by kernel_rfl
theorem fn153 : fnB Tryz.prog 153 = true := by kernel_rfl
theorem fn154 : fnB Tryz.prog 154 = true := by kernel_rfl
theorem fn155 : fnB Tryz.prog 155 = true := by kernel_rfl
theorem fn156 : fnB Tryz.prog 156 = true := by kernel_rfl
theorem fn157 : fnB Tryz.prog 157 = true := by kernel_rfl
end Go.Proofs.YtihlgigaejhilaaGreatDoor.Fx
