/- Parts of the proof, one after the other: E39, Fx, P1, P2. No condition. -/
import Derived.Test.YtikcmjamioopbaaM9
import Derived.Laws.BytesString
import Derived.Test.YtikcmjamioopbaaProg
/- A slice of bytes turned to a string. Plain theorems, for any program. -/
namespace Go.Proofs.Ytikcmjamioopbaa.E
open Go.RowKit
set_option linter.unusedVariables false
abbrev u8T (n : Int) : List T := [.v (.int .u8 n)]
def bStr (l : List Int) : ByteArray := l.foldl (fun r n => r.push (UInt8.ofNat n.toNat)) ByteArray.empty
theorem reps_u8 {μ : Mem} : ∀ {l : List Int} {cs : List Value}, Reps (RepT μ) (l.map u8T).flatten cs → cs = l.map (Value.int .u8)
  | [], cs, h => by
    have := h.1
    simp at this
    cases cs with
    | nil => rfl
    | cons a r => simp at this
  | n :: l, cs, h => by
    match cs, h with
    | [], h => have := h.1; simp at this
    | c :: cs, h =>
      have h0 := h.2 0 _ _ rfl rfl
      cases h0
      have : cs = l.map (Value.int .u8) := reps_u8 ⟨by have := h.1; simpa using this, fun i x v hx hv => h.2 (i + 1) x v (by simpa using hx) (by simpa using hv)⟩
      rw [this]; rfl
theorem rw_nil {μ : Mem} {z : Nz} {sz : Nat} {v : Value} (h : RepT μ (.sl z sz []) v) : ∃ A c, v = .slice A 0 c := by
  cases h with
  | nil h => exact ⟨_, _, rfl⟩
  | emp h => exact ⟨_, _, rfl⟩
  | sl u ne => exact absurd rfl ne
theorem q_convBS {P : Program} {o : Oper} {s : S} {t u e : TypeId} {x : Operand} {z : Nz} {l : List Int} (ho : o.op = .convert t u x) (ty : P.underlying t = some (.slice e)) (te : P.underlying e = some (.int .u8)) (td : P.underlying u = some .string) (hx : s.eval x = .c (.a (.t (.sl z 1 (l.map u8T))))) : QV P o s (sX (bStr l)) :=
  .of_same (fun _ => nolp) fun c w f hm hrep => by
    have ha := hrep x (by rw [ho]; simp [Op.operands])
    rw [hx] at ha
    have hr : RepT c.μ (.sl z 1 (l.map u8T)) (f.eval x) := by cases ha with | t h => exact h
    refine ⟨.string (bStr l), ?_, tv_rep rfl⟩
    simp only [execOp, ho]
    by_cases hne : l = []
    · subst hne
      have h0 := rw_nil hr
      obtain ⟨A, cp, hv⟩ := h0
      rw [hv, Sem.run_bind, run_convert_bytes_string w t u e A 0 cp ty te td]
      cases A with
      | none => simp [Conv.bytesToString, Sem.run_pure, bStr]
      | some a =>
        rw [run_bytesToString w a 0 cp [] (by have := run_loadCells_list (P := P) w a [] (fun j u hu => by simp at hu); simpa using this)]
        rfl
    · obtain ⟨b, off, cp, cs, hv, h1, h2, h3, h4⟩ := sl_flat hr (by simpa using hne) (by decide)
      have h5 := reps_u8 h3
      subst h5
      rw [hv, Sem.run_bind, run_convert_bytes_string w t u e _ _ cp ty te td]
      have h6 := run_loadCells_list (P := P) w ⟨b, off, none⟩ (l.map (Value.int .u8)) (fun j v hj => by rw [Addr.add_mid]; exact hm.mem _ _ _ (h4 j v hj))
      rw [List.length_map] at h6 ⊢
      rw [run_bytesToString w _ _ cp l h6]
      rfl
theorem q_callV {P : Program} {o : Oper} {s : S} {z : Operand} {f : FuncId} {cs : List A} {ys : Array Operand} {ts : Array TypeId} (args : List C) {x : X} (ho : o.op = .call { callee := .value z, args := ys, argTypes := ts }) (hz : fnX (s.eval z) = some (f, cs)) (hf : fnB P f = true) (ha : argsX s ys.toList = some args) (h : Pure P f (args ++ cs.map C.a) x) (hx : x.loc = none) : QV P o s x := by
  refine ⟨fun d e => (by rw [hx] at e; cases e), fun c w a hm hrep => ?_⟩
  have hr : Reps (RepC c.μ c.β) args (ys.map a.eval).toList := by
    have := args_rep (c := c) (f := a.eval) ha fun y hy => hrep y (by rw [ho]; simp [Op.operands, Call.operands]; exact .inr (by simpa using hy))
    simpa using this
  obtain ⟨vs, hv, hvs⟩ := fn_rep (hrep z (by rw [ho]; simp [Op.operands, Call.operands])) hz
  have hc : Conc c (ownH fun _ => none) w := ⟨hm.mem, fun i x hi => (by cases i <;> cases hi), fun i j x y b n m hi => (by cases i <;> cases hi), by obtain ⟨N, hN⟩ := hm.fin; exact ⟨N, fun k hk => ⟨hN k hk, rfl⟩⟩⟩
  have hcall := h (fun _ => none) c w (ys.map a.eval ++ vs) hc (by rw [Array.toList_append]; exact hr.append hvs)
  have hrun : (execOp a.eval o).run P w = .ok (.enter f (ys.map a.eval ++ vs)) w := by
    simp [execOp, ho, resolve, hv, Deferred.ofValue, invoke, enter_run hf]
  unfold Oper.wp
  rw [hrun, Oper.upon_enter]
  refine hcall.mono ?_
  rintro e w' ⟨v, y, H', c', rfl, ⟨rfl, rfl⟩, hrx, hc', hx'⟩
  refine ⟨v, { c' with lam := c.lam }, rfl, hrx.relam hx, ⟨hx'.os, hx'.tape, hx'.output, hx'.size, fun b hb => hx'.blk b hb fun i z n hi => (by cases i <;> cases hi), hx'.mem, fun b o u h => ?_, hx'.ext, rfl, hx'.base, ⟨hc'.mem, ?_⟩⟩⟩
  · rcases hx'.new b o u h with h1 | h1 | ⟨i, z, n, hi, _⟩
    · exact .inl h1
    · exact .inr h1
    · cases i <;> cases hi
  · obtain ⟨N, hN⟩ := hc'.fin
    exact ⟨N, fun k hk => (hN k hk).1⟩
end Go.Proofs.Ytikcmjamioopbaa.E
/- Closed facts on the types and functions of the program. -/
namespace Go.Proofs.Ytikcmjamioopbaa.Fx
open Go.Proofs.Ytikcmjamioopbaa.E
theorem mo : Try.prog.follows .mixedOrders = true := by kernel_rfl
theorem nk1 : nkB Try.prog 1 .fn = true := by kernel_rfl
theorem ty2 : tyB Try.prog 2 false 1 = true := by kernel_rfl
theorem ze2 : zeroIs Try.prog 2 (.int .i64 0) := (by kernel_rfl : (Try.prog.info? 2).bind (·.zero) = some (.int .i64 0))
theorem un2 : Try.prog.underlying 2 = some (.int .i64) := by kernel_rfl
theorem ty3 : tyB Try.prog 3 false 1 = true := by kernel_rfl
theorem ze3 : zeroIs Try.prog 3 (.int .i64 0) := (by kernel_rfl : (Try.prog.info? 3).bind (·.zero) = some (.int .i64 0))
theorem un3 : Try.prog.underlying 3 = some (.int .i64) := by kernel_rfl
theorem ty4 : tyB Try.prog 4 false 1 = true := by kernel_rfl
theorem ze4 : zeroIs Try.prog 4 (.bool false) := (by kernel_rfl : (Try.prog.info? 4).bind (·.zero) = some (.bool false))
theorem un4 : Try.prog.underlying 4 = some .bool := by kernel_rfl
theorem ty5 : tyB Try.prog 5 false 1 = true := by kernel_rfl
theorem ze5 : zeroIs Try.prog 5 (.int .u8 0) := (by kernel_rfl : (Try.prog.info? 5).bind (·.zero) = some (.int .u8 0))
theorem un5 : Try.prog.underlying 5 = some (.int .u8) := by kernel_rfl
theorem ty9 : tyB Try.prog 9 false 1 = true := by kernel_rfl
theorem ze9 : zeroIs Try.prog 9 (.string ⟨#[]⟩) := (by kernel_rfl : (Try.prog.info? 9).bind (·.zero) = some (.string ⟨#[]⟩))
theorem un9 : Try.prog.underlying 9 = some .string := by kernel_rfl
theorem ty12 : tyB Try.prog 12 false 1 = true := by kernel_rfl
theorem ze12 : zeroIs Try.prog 12 (.int .u64 0) := (by kernel_rfl : (Try.prog.info? 12).bind (·.zero) = some (.int .u64 0))
theorem un12 : Try.prog.underlying 12 = some (.int .u64) := by kernel_rfl
theorem ty13 : tyB Try.prog 13 true 2 = true := by kernel_rfl
theorem ze13 : zeroIs Try.prog 13 (.agg #[.string ⟨#[]⟩, .int .u64 0]) := (by kernel_rfl : (Try.prog.info? 13).bind (·.zero) = some (.agg #[.string ⟨#[]⟩, .int .u64 0]))
theorem fl13_0 : fldB Try.prog 13 0 0 = true := by kernel_rfl
theorem fl13_1 : fldB Try.prog 13 1 1 = true := by kernel_rfl
theorem bp13 : bplB Try.prog 13 [(0, 1), (1, 1)] = true := by kernel_rfl
theorem ty19 : tyB Try.prog 19 true 1 = true := by kernel_rfl
theorem ze19 : zeroIs Try.prog 19 (.agg #[.pointer none]) := (by kernel_rfl : (Try.prog.info? 19).bind (·.zero) = some (.agg #[.pointer none]))
theorem fl19_0 : fldB Try.prog 19 0 0 = true := by kernel_rfl
theorem bp19 : bplB Try.prog 19 [(0, 1)] = true := by kernel_rfl
theorem ty21 : tyB Try.prog 21 false 1 = true := by kernel_rfl
theorem ze21 : zeroIs Try.prog 21 (.int .i32 0) := (by kernel_rfl : (Try.prog.info? 21).bind (·.zero) = some (.int .i32 0))
theorem un21 : Try.prog.underlying 21 = some (.int .i32) := by kernel_rfl
theorem ty22 : tyB Try.prog 22 false 1 = true := by kernel_rfl
theorem ze22 : zeroIs Try.prog 22 (.slice none 0 0) := (by kernel_rfl : (Try.prog.info? 22).bind (·.zero) = some (.slice none 0 0))
theorem sl22 : slB Try.prog 22 66 3 = true := by kernel_rfl
theorem el22 : elB Try.prog 22 66 3 3 = true := by kernel_rfl
theorem un22 : Try.prog.underlying 22 = some (.slice 66) := by kernel_rfl
theorem nk22 : nkB Try.prog 22 .sl = true := by kernel_rfl
theorem ty23 : tyB Try.prog 23 false 1 = true := by kernel_rfl
theorem ze23 : zeroIs Try.prog 23 (.pointer none) := (by kernel_rfl : (Try.prog.info? 23).bind (·.zero) = some (.pointer none))
theorem nk23 : nkB Try.prog 23 .pt = true := by kernel_rfl
theorem ty24 : tyB Try.prog 24 false 1 = true := by kernel_rfl
theorem ze24 : zeroIs Try.prog 24 (.slice none 0 0) := (by kernel_rfl : (Try.prog.info? 24).bind (·.zero) = some (.slice none 0 0))
theorem sl24 : slB Try.prog 24 70 2 = true := by kernel_rfl
theorem el24 : elB Try.prog 24 70 2 16 = true := by kernel_rfl
theorem un24 : Try.prog.underlying 24 = some (.slice 70) := by kernel_rfl
theorem nk24 : nkB Try.prog 24 .sl = true := by kernel_rfl
theorem ty25 : tyB Try.prog 25 true 1 = true := by kernel_rfl
theorem ze25 : zeroIs Try.prog 25 (.agg #[.slice none 0 0]) := (by kernel_rfl : (Try.prog.info? 25).bind (·.zero) = some (.agg #[.slice none 0 0]))
theorem fl25_0 : fldB Try.prog 25 0 0 = true := by kernel_rfl
theorem bp25 : bplB Try.prog 25 [(0, 1)] = true := by kernel_rfl
theorem ty26 : tyB Try.prog 26 true 1 = true := by kernel_rfl
theorem ze26 : zeroIs Try.prog 26 (.agg #[.slice none 0 0]) := (by kernel_rfl : (Try.prog.info? 26).bind (·.zero) = some (.agg #[.slice none 0 0]))
theorem fl26_0 : fldB Try.prog 26 0 0 = true := by kernel_rfl
theorem bp26 : bplB Try.prog 26 [(0, 1)] = true := by kernel_rfl
theorem nk28 : nkB Try.prog 28 .fn = true := by kernel_rfl
theorem nk29 : nkB Try.prog 29 .fn = true := by kernel_rfl
theorem ty30 : tyB Try.prog 30 false 1 = true := by kernel_rfl
theorem ze30 : zeroIs Try.prog 30 (.slice none 0 0) := (by kernel_rfl : (Try.prog.info? 30).bind (·.zero) = some (.slice none 0 0))
theorem sl30 : slB Try.prog 30 3 1 = true := by kernel_rfl
theorem el30 : elB Try.prog 30 3 1 8 = true := by kernel_rfl
theorem un30 : Try.prog.underlying 30 = some (.slice 3) := by kernel_rfl
theorem nk30 : nkB Try.prog 30 .sl = true := by kernel_rfl
theorem nk31 : nkB Try.prog 31 .fn = true := by kernel_rfl
theorem nk32 : nkB Try.prog 32 .fn = true := by kernel_rfl
theorem nk33 : nkB Try.prog 33 .fn = true := by kernel_rfl
theorem nk34 : nkB Try.prog 34 .fn = true := by kernel_rfl
theorem nk35 : nkB Try.prog 35 .fn = true := by kernel_rfl
theorem nk36 : nkB Try.prog 36 .fn = true := by kernel_rfl
theorem ty37 : tyB Try.prog 37 false 1 = true := by kernel_rfl
theorem ze37 : zeroIs Try.prog 37 (.int .i8 0) := (by kernel_rfl : (Try.prog.info? 37).bind (·.zero) = some (.int .i8 0))
theorem un37 : Try.prog.underlying 37 = some (.int .i8) := by kernel_rfl
theorem nk38 : nkB Try.prog 38 .fn = true := by kernel_rfl
theorem nk39 : nkB Try.prog 39 .fn = true := by kernel_rfl
theorem nk40 : nkB Try.prog 40 .fn = true := by kernel_rfl
theorem nk41 : nkB Try.prog 41 .fn = true := by kernel_rfl
theorem nk42 : nkB Try.prog 42 .fn = true := by kernel_rfl
theorem ty43 : tyB Try.prog 43 true 3 = true := by kernel_rfl
theorem ze43 : zeroIs Try.prog 43 (.agg #[.int .i8 0, .int .i8 0, .int .i8 0]) := (by kernel_rfl : (Try.prog.info? 43).bind (·.zero) = some (.agg #[.int .i8 0, .int .i8 0, .int .i8 0]))
theorem ar43 : arB Try.prog 43 3 37 1 = true := by kernel_rfl
theorem bp43 : bplB Try.prog 43 [(0, 1), (1, 1), (2, 1)] = true := by kernel_rfl
theorem nk44 : nkB Try.prog 44 .fn = true := by kernel_rfl
theorem nk45 : nkB Try.prog 45 .fn = true := by kernel_rfl
theorem nk46 : nkB Try.prog 46 .fn = true := by kernel_rfl
theorem nk47 : nkB Try.prog 47 .fn = true := by kernel_rfl
theorem ty48 : tyB Try.prog 48 false 1 = true := by kernel_rfl
theorem ze48 : zeroIs Try.prog 48 (.map none) := (by kernel_rfl : (Try.prog.info? 48).bind (·.zero) = some (.map none))
theorem nk48 : nkB Try.prog 48 .mp = true := by kernel_rfl
theorem un48 : Try.prog.underlying 48 = some (.map 3 4) := by kernel_rfl
theorem nk49 : nkB Try.prog 49 .fn = true := by kernel_rfl
theorem nk50 : nkB Try.prog 50 .fn = true := by kernel_rfl
theorem nk51 : nkB Try.prog 51 .fn = true := by kernel_rfl
theorem nk52 : nkB Try.prog 52 .fn = true := by kernel_rfl
theorem ty53 : tyB Try.prog 53 false 1 = true := by kernel_rfl
theorem ze53 : zeroIs Try.prog 53 (.slice none 0 0) := (by kernel_rfl : (Try.prog.info? 53).bind (·.zero) = some (.slice none 0 0))
theorem sl53 : slB Try.prog 53 59 2 = true := by kernel_rfl
theorem el53 : elB Try.prog 53 59 2 2 = true := by kernel_rfl
theorem un53 : Try.prog.underlying 53 = some (.slice 59) := by kernel_rfl
theorem nk53 : nkB Try.prog 53 .sl = true := by kernel_rfl
theorem ty54 : tyB Try.prog 54 false 1 = true := by kernel_rfl
theorem ze54 : zeroIs Try.prog 54 (.pointer none) := (by kernel_rfl : (Try.prog.info? 54).bind (·.zero) = some (.pointer none))
theorem nk54 : nkB Try.prog 54 .pt = true := by kernel_rfl
theorem nk55 : nkB Try.prog 55 .fn = true := by kernel_rfl
theorem nk56 : nkB Try.prog 56 .fn = true := by kernel_rfl
theorem ty57 : tyB Try.prog 57 false 1 = true := by kernel_rfl
theorem ze57 : zeroIs Try.prog 57 (.slice none 0 0) := (by kernel_rfl : (Try.prog.info? 57).bind (·.zero) = some (.slice none 0 0))
theorem sl57 : slB Try.prog 57 5 1 = true := by kernel_rfl
theorem el57 : elB Try.prog 57 5 1 1 = true := by kernel_rfl
theorem un57 : Try.prog.underlying 57 = some (.slice 5) := by kernel_rfl
theorem nk57 : nkB Try.prog 57 .sl = true := by kernel_rfl
theorem nk58 : nkB Try.prog 58 .fn = true := by kernel_rfl
theorem ty59 : tyB Try.prog 59 true 2 = true := by kernel_rfl
theorem ze59 : zeroIs Try.prog 59 (.agg #[.int .u8 0, .int .u8 0]) := (by kernel_rfl : (Try.prog.info? 59).bind (·.zero) = some (.agg #[.int .u8 0, .int .u8 0]))
theorem ar59 : arB Try.prog 59 2 5 1 = true := by kernel_rfl
theorem bp59 : bplB Try.prog 59 [(0, 1), (1, 1)] = true := by kernel_rfl
theorem nk60 : nkB Try.prog 60 .fn = true := by kernel_rfl
theorem ty61 : tyB Try.prog 61 false 1 = true := by kernel_rfl
theorem ze61 : zeroIs Try.prog 61 (.slice none 0 0) := (by kernel_rfl : (Try.prog.info? 61).bind (·.zero) = some (.slice none 0 0))
theorem sl61 : slB Try.prog 61 9 1 = true := by kernel_rfl
theorem el61 : elB Try.prog 61 9 1 16 = true := by kernel_rfl
theorem un61 : Try.prog.underlying 61 = some (.slice 9) := by kernel_rfl
theorem nk61 : nkB Try.prog 61 .sl = true := by kernel_rfl
theorem nk62 : nkB Try.prog 62 .fn = true := by kernel_rfl
theorem nk63 : nkB Try.prog 63 .fn = true := by kernel_rfl
theorem nk64 : nkB Try.prog 64 .fn = true := by kernel_rfl
theorem ty65 : tyB Try.prog 65 true 3 = true := by kernel_rfl
theorem ze65 : zeroIs Try.prog 65 (.agg #[.int .u8 0, .int .i8 0, .int .i8 0]) := (by kernel_rfl : (Try.prog.info? 65).bind (·.zero) = some (.agg #[.int .u8 0, .int .i8 0, .int .i8 0]))
theorem fl65_0 : fldB Try.prog 65 0 0 = true := by kernel_rfl
theorem fl65_1 : fldB Try.prog 65 1 1 = true := by kernel_rfl
theorem fl65_2 : fldB Try.prog 65 2 2 = true := by kernel_rfl
theorem bp65 : bplB Try.prog 65 [(0, 1), (1, 1), (2, 1)] = true := by kernel_rfl
theorem ty66 : tyB Try.prog 66 true 3 = true := by kernel_rfl
theorem ze66 : zeroIs Try.prog 66 (.agg #[.int .u8 0, .int .i8 0, .int .i8 0]) := (by kernel_rfl : (Try.prog.info? 66).bind (·.zero) = some (.agg #[.int .u8 0, .int .i8 0, .int .i8 0]))
theorem fl66_0 : fldB Try.prog 66 0 0 = true := by kernel_rfl
theorem fl66_1 : fldB Try.prog 66 1 1 = true := by kernel_rfl
theorem fl66_2 : fldB Try.prog 66 2 2 = true := by kernel_rfl
theorem bp66 : bplB Try.prog 66 [(0, 1), (1, 1), (2, 1)] = true := by kernel_rfl
theorem nk68 : nkB Try.prog 68 .fn = true := by kernel_rfl
theorem nk69 : nkB Try.prog 69 .fn = true := by kernel_rfl
theorem ty70 : tyB Try.prog 70 true 2 = true := by kernel_rfl
theorem ze70 : zeroIs Try.prog 70 (.agg #[.int .i64 0, .int .i64 0]) := (by kernel_rfl : (Try.prog.info? 70).bind (·.zero) = some (.agg #[.int .i64 0, .int .i64 0]))
theorem ar70 : arB Try.prog 70 2 3 1 = true := by kernel_rfl
theorem bp70 : bplB Try.prog 70 [(0, 1), (1, 1)] = true := by kernel_rfl
theorem nk71 : nkB Try.prog 71 .fn = true := by kernel_rfl
theorem ty72 : tyB Try.prog 72 false 1 = true := by kernel_rfl
theorem ze72 : zeroIs Try.prog 72 (.map none) := (by kernel_rfl : (Try.prog.info? 72).bind (·.zero) = some (.map none))
theorem nk72 : nkB Try.prog 72 .mp = true := by kernel_rfl
theorem un72 : Try.prog.underlying 72 = some (.map 3 48) := by kernel_rfl
theorem ty73 : tyB Try.prog 73 true 1 = true := by kernel_rfl
theorem ze73 : zeroIs Try.prog 73 (.agg #[.map none]) := (by kernel_rfl : (Try.prog.info? 73).bind (·.zero) = some (.agg #[.map none]))
theorem fl73_0 : fldB Try.prog 73 0 0 = true := by kernel_rfl
theorem bp73 : bplB Try.prog 73 [(0, 1)] = true := by kernel_rfl
theorem ty74 : tyB Try.prog 74 true 1 = true := by kernel_rfl
theorem ze74 : zeroIs Try.prog 74 (.agg #[.map none]) := (by kernel_rfl : (Try.prog.info? 74).bind (·.zero) = some (.agg #[.map none]))
theorem fl74_0 : fldB Try.prog 74 0 0 = true := by kernel_rfl
theorem bp74 : bplB Try.prog 74 [(0, 1)] = true := by kernel_rfl
theorem nk75 : nkB Try.prog 75 .fn = true := by kernel_rfl
theorem nk76 : nkB Try.prog 76 .fn = true := by kernel_rfl
theorem nk77 : nkB Try.prog 77 .fn = true := by kernel_rfl
theorem ty78 : tyB Try.prog 78 false 1 = true := by kernel_rfl
theorem ze78 : zeroIs Try.prog 78 (.map none) := (by kernel_rfl : (Try.prog.info? 78).bind (·.zero) = some (.map none))
theorem nk78 : nkB Try.prog 78 .mp = true := by kernel_rfl
theorem un78 : Try.prog.underlying 78 = some (.map 3 3) := by kernel_rfl
theorem nk79 : nkB Try.prog 79 .fn = true := by kernel_rfl
theorem ty80 : tyB Try.prog 80 false 1 = true := by kernel_rfl
theorem ze80 : zeroIs Try.prog 80 (.map none) := (by kernel_rfl : (Try.prog.info? 80).bind (·.zero) = some (.map none))
theorem nk80 : nkB Try.prog 80 .mp = true := by kernel_rfl
theorem un80 : Try.prog.underlying 80 = some (.map 9 83) := by kernel_rfl
theorem ty81 : tyB Try.prog 81 true 1 = true := by kernel_rfl
theorem ze81 : zeroIs Try.prog 81 (.agg #[.map none]) := (by kernel_rfl : (Try.prog.info? 81).bind (·.zero) = some (.agg #[.map none]))
theorem fl81_0 : fldB Try.prog 81 0 0 = true := by kernel_rfl
theorem bp81 : bplB Try.prog 81 [(0, 1)] = true := by kernel_rfl
theorem ty82 : tyB Try.prog 82 true 1 = true := by kernel_rfl
theorem ze82 : zeroIs Try.prog 82 (.agg #[.map none]) := (by kernel_rfl : (Try.prog.info? 82).bind (·.zero) = some (.agg #[.map none]))
theorem fl82_0 : fldB Try.prog 82 0 0 = true := by kernel_rfl
theorem bp82 : bplB Try.prog 82 [(0, 1)] = true := by kernel_rfl
theorem ty83 : tyB Try.prog 83 false 1 = true := by kernel_rfl
theorem ze83 : zeroIs Try.prog 83 (.map none) := (by kernel_rfl : (Try.prog.info? 83).bind (·.zero) = some (.map none))
theorem nk83 : nkB Try.prog 83 .mp = true := by kernel_rfl
theorem un83 : Try.prog.underlying 83 = some (.map 9 4) := by kernel_rfl
theorem ty84 : tyB Try.prog 84 false 1 = true := by kernel_rfl
theorem ze84 : zeroIs Try.prog 84 (.map none) := (by kernel_rfl : (Try.prog.info? 84).bind (·.zero) = some (.map none))
theorem nk84 : nkB Try.prog 84 .mp = true := by kernel_rfl
theorem un84 : Try.prog.underlying 84 = some (.map 9 3) := by kernel_rfl
theorem nk85 : nkB Try.prog 85 .fn = true := by kernel_rfl
theorem nk86 : nkB Try.prog 86 .fn = true := by kernel_rfl
theorem nk87 : nkB Try.prog 87 .fn = true := by kernel_rfl
theorem nk88 : nkB Try.prog 88 .fn = true := by kernel_rfl
theorem nk89 : nkB Try.prog 89 .fn = true := by kernel_rfl
theorem nk90 : nkB Try.prog 90 .fn = true := by kernel_rfl
theorem nk91 : nkB Try.prog 91 .fn = true := by kernel_rfl
theorem nk92 : nkB Try.prog 92 .fn = true := by kernel_rfl
theorem nk93 : nkB Try.prog 93 .fn = true := by kernel_rfl
theorem nk94 : nkB Try.prog 94 .fn = true := by kernel_rfl
theorem nk95 : nkB Try.prog 95 .fn = true := by kernel_rfl
theorem nk96 : nkB Try.prog 96 .fn = true := by kernel_rfl
theorem nk97 : nkB Try.prog 97 .fn = true := by kernel_rfl
theorem nk98 : nkB Try.prog 98 .fn = true := by kernel_rfl
theorem ty99 : tyB Try.prog 99 false 1 = true := by kernel_rfl
theorem ze99 : zeroIs Try.prog 99 (.int .u64 0) := (by kernel_rfl : (Try.prog.info? 99).bind (·.zero) = some (.int .u64 0))
theorem un99 : Try.prog.underlying 99 = some (.int .u64) := by kernel_rfl
theorem nk100 : nkB Try.prog 100 .fn = true := by kernel_rfl
theorem nk101 : nkB Try.prog 101 .fn = true := by kernel_rfl
theorem nk102 : nkB Try.prog 102 .fn = true := by kernel_rfl
theorem nk103 : nkB Try.prog 103 .fn = true := by kernel_rfl
theorem nk104 : nkB Try.prog 104 .fn = true := by kernel_rfl
theorem ty105 : tyB Try.prog 105 false 1 = true := by kernel_rfl
theorem ze105 : zeroIs Try.prog 105 (.int .i64 0) := (by kernel_rfl : (Try.prog.info? 105).bind (·.zero) = some (.int .i64 0))
theorem un105 : Try.prog.underlying 105 = some (.int .i64) := by kernel_rfl
theorem nk107 : nkB Try.prog 107 .fn = true := by kernel_rfl
theorem nk108 : nkB Try.prog 108 .fn = true := by kernel_rfl
theorem nk109 : nkB Try.prog 109 .fn = true := by kernel_rfl
theorem nk111 : nkB Try.prog 111 .fn = true := by kernel_rfl
theorem nk112 : nkB Try.prog 112 .fn = true := by kernel_rfl
theorem ty113 : tyB Try.prog 113 false 1 = true := by kernel_rfl
theorem ze113 : zeroIs Try.prog 113 (.int .u32 0) := (by kernel_rfl : (Try.prog.info? 113).bind (·.zero) = some (.int .u32 0))
theorem un113 : Try.prog.underlying 113 = some (.int .u32) := by kernel_rfl
theorem nk114 : nkB Try.prog 114 .fn = true := by kernel_rfl
theorem ty115 : tyB Try.prog 115 false 1 = true := by kernel_rfl
theorem ze115 : zeroIs Try.prog 115 (.int .u64 0) := (by kernel_rfl : (Try.prog.info? 115).bind (·.zero) = some (.int .u64 0))
theorem un115 : Try.prog.underlying 115 = some (.int .u64) := by kernel_rfl
theorem nk116 : nkB Try.prog 116 .fn = true := by kernel_rfl
theorem nk117 : nkB Try.prog 117 .fn = true := by kernel_rfl
theorem nk118 : nkB Try.prog 118 .fn = true := by kernel_rfl
theorem nk119 : nkB Try.prog 119 .fn = true := by kernel_rfl
theorem nk120 : nkB Try.prog 120 .fn = true := by kernel_rfl
theorem ty121 : tyB Try.prog 121 false 1 = true := by kernel_rfl
theorem ze121 : zeroIs Try.prog 121 (.int .u64 0) := (by kernel_rfl : (Try.prog.info? 121).bind (·.zero) = some (.int .u64 0))
theorem un121 : Try.prog.underlying 121 = some (.int .u64) := by kernel_rfl
theorem nk122 : nkB Try.prog 122 .fn = true := by kernel_rfl
theorem nk123 : nkB Try.prog 123 .fn = true := by kernel_rfl
theorem nk124 : nkB Try.prog 124 .fn = true := by kernel_rfl
theorem ty125 : tyB Try.prog 125 false 1 = true := by kernel_rfl
theorem ze125 : zeroIs Try.prog 125 (.pointer none) := (by kernel_rfl : (Try.prog.info? 125).bind (·.zero) = some (.pointer none))
theorem nk125 : nkB Try.prog 125 .pt = true := by kernel_rfl
theorem nk126 : nkB Try.prog 126 .fn = true := by kernel_rfl
theorem nk127 : nkB Try.prog 127 .fn = true := by kernel_rfl
theorem nk128 : nkB Try.prog 128 .fn = true := by kernel_rfl
theorem ty129 : tyB Try.prog 129 false 1 = true := by kernel_rfl
theorem ze129 : zeroIs Try.prog 129 (.pointer none) := (by kernel_rfl : (Try.prog.info? 129).bind (·.zero) = some (.pointer none))
theorem nk129 : nkB Try.prog 129 .pt = true := by kernel_rfl
theorem nk131 : nkB Try.prog 131 .fn = true := by kernel_rfl
theorem nk132 : nkB Try.prog 132 .fn = true := by kernel_rfl
theorem nk133 : nkB Try.prog 133 .fn = true := by kernel_rfl
theorem ty136 : tyB Try.prog 136 true 0 = true := by kernel_rfl
theorem ze136 : zeroIs Try.prog 136 (.agg #[]) := (by kernel_rfl : (Try.prog.info? 136).bind (·.zero) = some (.agg #[]))
theorem ar136 : arB Try.prog 136 0 16 1 = true := by kernel_rfl
theorem bp136 : bplB Try.prog 136 [] = true := by kernel_rfl
theorem ty137 : tyB Try.prog 137 true 0 = true := by kernel_rfl
theorem ze137 : zeroIs Try.prog 137 (.agg #[]) := (by kernel_rfl : (Try.prog.info? 137).bind (·.zero) = some (.agg #[]))
theorem bp137 : bplB Try.prog 137 [(0, 0)] = true := by kernel_rfl
theorem nk139 : nkB Try.prog 139 .fn = true := by kernel_rfl
theorem nk142 : nkB Try.prog 142 .fn = true := by kernel_rfl
theorem ty143 : tyB Try.prog 143 false 1 = true := by kernel_rfl
theorem ze143 : zeroIs Try.prog 143 (.pointer none) := (by kernel_rfl : (Try.prog.info? 143).bind (·.zero) = some (.pointer none))
theorem nk143 : nkB Try.prog 143 .pt = true := by kernel_rfl
theorem nk148 : nkB Try.prog 148 .fn = true := by kernel_rfl
theorem fn11 : fnB Try.prog 11 = true := by kernel_rfl
theorem fn12 : fnB Try.prog 12 = true := by kernel_rfl
theorem fn13 : fnB Try.prog 13 = true := by kernel_rfl
theorem fn14 : fnB Try.prog 14 = true := by kernel_rfl
theorem fn15 : fnB Try.prog 15 = true := by kernel_rfl
theorem fn16 : fnB Try.prog 16 = true := by kernel_rfl
theorem fn17 : fnB Try.prog 17 = true := by kernel_rfl
theorem fn18 : fnB Try.prog 18 = true := by kernel_rfl
theorem fn19 : fnB Try.prog 19 = true := by kernel_rfl
theorem fn20 : fnB Try.prog 20 = true := by kernel_rfl
theorem fn21 : fnB Try.prog 21 = true := by kernel_rfl
theorem fn22 : fnB Try.prog 22 = true := by kernel_rfl
theorem fn23 : fnB Try.prog 23 = true := by kernel_rfl
theorem fn24 : fnB Try.prog 24 = true := by kernel_rfl
theorem fn25 : fnB Try.prog 25 = true := by kernel_rfl
theorem fn26 : fnB Try.prog 26 = true := by kernel_rfl
theorem fn27 : fnB Try.prog 27 = true := by kernel_rfl
theorem fn28 : fnB Try.prog 28 = true := by kernel_rfl
theorem fn29 : fnB Try.prog 29 = true := by kernel_rfl
theorem fn30 : fnB Try.prog 30 = true := by kernel_rfl
theorem fn31 : fnB Try.prog 31 = true := by kernel_rfl
theorem fn32 : fnB Try.prog 32 = true := by kernel_rfl
theorem fn33 : fnB Try.prog 33 = true := by kernel_rfl
theorem fn34 : fnB Try.prog 34 = true := by kernel_rfl
theorem fn35 : fnB Try.prog 35 = true := by kernel_rfl
theorem fn36 : fnB Try.prog 36 = true := by kernel_rfl
theorem fn37 : fnB Try.prog 37 = true := by kernel_rfl
theorem fn38 : fnB Try.prog 38 = true := by kernel_rfl
theorem fn39 : fnB Try.prog 39 = true := by kernel_rfl
theorem fn40 : fnB Try.prog 40 = true := by kernel_rfl
theorem fn41 : fnB Try.prog 41 = true := by kernel_rfl
theorem fn42 : fnB Try.prog 42 = true := by kernel_rfl
theorem fn43 : fnB Try.prog 43 = true := by kernel_rfl
theorem fn44 : fnB Try.prog 44 = true := by kernel_rfl
theorem fn45 : fnB Try.prog 45 = true := by kernel_rfl
theorem fn46 : fnB Try.prog 46 = true := by kernel_rfl
theorem fn47 : fnB Try.prog 47 = true := by kernel_rfl
theorem fn48 : fnB Try.prog 48 = true := by kernel_rfl
theorem fn49 : fnB Try.prog 49 = true := by kernel_rfl
theorem fn50 : fnB Try.prog 50 = true := by kernel_rfl
theorem fn51 : fnB Try.prog 51 = true := by kernel_rfl
theorem fn52 : fnB Try.prog 52 = true := by kernel_rfl
theorem fn53 : fnB Try.prog 53 = true := by kernel_rfl
theorem fn54 : fnB Try.prog 54 = true := by kernel_rfl
theorem fn55 : fnB Try.prog 55 = true := by kernel_rfl
theorem fn56 : fnB Try.prog 56 = true := by kernel_rfl
theorem fn57 : fnB Try.prog 57 = true := by kernel_rfl
theorem fn58 : fnB Try.prog 58 = true := by kernel_rfl
theorem fn59 : fnB Try.prog 59 = true := by kernel_rfl
theorem fn60 : fnB Try.prog 60 = true := by kernel_rfl
theorem fn61 : fnB Try.prog 61 = true := by kernel_rfl
theorem fn62 : fnB Try.prog 62 = true := by kernel_rfl
theorem fn63 : fnB Try.prog 63 = true := by kernel_rfl
theorem fn64 : fnB Try.prog 64 = true := by kernel_rfl
end Go.Proofs.Ytikcmjamioopbaa.Fx
/- Directed graphs as lists of edges, plainly: ascending lists, walks, distances, shortest cycles. -/
namespace Go.Proofs.Ytikcmjamioopbaa.M
set_option linter.unusedVariables false
set_option linter.unusedSectionVars false
section
variable {α : Type} [DecidableEq α] {lt : α → α → Bool}
structure Ord (lt : α → α → Bool) : Prop where
  irr : ∀ a, lt a a = false
  tr : ∀ a b c, lt a b = true → lt b c = true → lt a c = true
  tot : ∀ a b, lt a b = false → lt b a = false → a = b
def Asc (lt : α → α → Bool) (l : List α) : Prop := l.Pairwise fun a b => lt a b = true
def put (lt : α → α → Bool) : List α → α → List α
  | [], n => [n]
  | x :: r, n => if lt x n = true then x :: put lt r n else if x = n then x :: r else n :: x :: r
theorem mem_put {n y : α} : ∀ {l : List α}, y ∈ put lt l n ↔ y ∈ l ∨ y = n
  | [] => by simp [put]
  | x :: r => by
    unfold put
    split
    · simp only [List.mem_cons, mem_put (l := r)]
      constructor
      · rintro (h | h | h); exact .inl (.inl h); exact .inl (.inr h); exact .inr h
      · rintro ((h | h) | h); exact .inl h; exact .inr (.inl h); exact .inr (.inr h)
    · split
      · rename_i h; subst h
        simp only [List.mem_cons]
        constructor
        · intro h; exact .inl h
        · rintro (h | h); exact h; exact .inl h
      · simp only [List.mem_cons]
        constructor
        · rintro (h | h | h); exact .inr h; exact .inl (.inl h); exact .inl (.inr h)
        · rintro ((h | h) | h); exact .inr (.inl h); exact .inr (.inr h); exact .inl h
theorem put_asc (o : Ord lt) {n : α} : ∀ {l : List α}, Asc lt l → Asc lt (put lt l n)
  | [], _ => by simp [put, Asc]
  | x :: r, h => by
    obtain ⟨h1, h2⟩ := List.pairwise_cons.1 h
    unfold put
    split
    · rename_i hx
      refine List.pairwise_cons.2 ⟨fun y hy => ?_, put_asc o h2⟩
      rcases mem_put.1 hy with hy | rfl
      · exact h1 y hy
      · exact hx
    · rename_i hx
      split
      · exact h
      · rename_i hne
        have hn : lt n x = true := by
          cases hc : lt n x with
          | true => rfl
          | false => exact absurd (o.tot x n (by simpa using hx) hc) hne
        refine List.pairwise_cons.2 ⟨fun y hy => ?_, h⟩
        rcases List.mem_cons.1 hy with rfl | hy
        · exact hn
        · exact o.tr _ _ _ hn (h1 y hy)
theorem put_len {n : α} : ∀ {l : List α}, (put lt l n).length ≤ l.length + 1
  | [] => by simp [put]
  | x :: r => by
    unfold put
    split
    · have := put_len (n := n) (l := r); simp only [List.length_cons]; omega
    · split <;> simp
theorem Asc.nodup (o : Ord lt) {l : List α} (h : Asc lt l) : l.Nodup := h.imp fun {a b} h e => by subst e; rw [o.irr] at h; cases h
theorem asc_ext (o : Ord lt) : ∀ {a b : List α}, Asc lt a → Asc lt b → (∀ i, i ∈ a ↔ i ∈ b) → a = b
  | [], [], _, _, _ => rfl
  | [], y :: b, _, _, h => by have := (h y).2 (by simp); simp at this
  | x :: a, [], _, _, h => by have := (h x).1 (by simp); simp at this
  | x :: a, y :: b, ha, hb, h => by
    obtain ⟨h1, h2⟩ := List.pairwise_cons.1 ha
    obtain ⟨h3, h4⟩ := List.pairwise_cons.1 hb
    have anti : ∀ {p q : α}, lt p q = true → lt q p = true → False := fun {p q} h h' => by
      have := o.tr _ _ _ h h'; rw [o.irr] at this; cases this
    have e : x = y := by
      rcases List.mem_cons.1 ((h x).1 (by simp)) with hx | hx
      · exact hx
      · rcases List.mem_cons.1 ((h y).2 (by simp)) with hy | hy
        · exact hy.symm
        · exact (anti (h1 y hy) (h3 x hx)).elim
    subst e
    rw [asc_ext o h2 h4 fun i => ?_]
    constructor
    · intro hi
      rcases List.mem_cons.1 ((h i).1 (by simp [hi])) with rfl | h5
      · have := h1 i hi; rw [o.irr] at this; cases this
      · exact h5
    · intro hi
      rcases List.mem_cons.1 ((h i).2 (by simp [hi])) with rfl | h5
      · have := h3 i hi; rw [o.irr] at this; cases this
      · exact h5
/-! ### the lists of a graph -/
def succs (lt : α → α → Bool) (L : List (α × α)) (a : α) : List α := L.foldl (fun l e => if e.1 = a then put lt l e.2 else l) []
def nodes (lt : α → α → Bool) (L : List (α × α)) : List α := L.foldl (fun l e => put lt (put lt l e.1) e.2) []
theorem succs_snoc {L : List (α × α)} {e : α × α} {a : α} : succs lt (L ++ [e]) a = if e.1 = a then put lt (succs lt L a) e.2 else succs lt L a := by simp [succs]
theorem nodes_snoc {L : List (α × α)} {e : α × α} : nodes lt (L ++ [e]) = put lt (put lt (nodes lt L) e.1) e.2 := by simp [nodes]
theorem snoc_ind {β : Type} {p : List β → Prop} (h0 : p []) (h1 : ∀ l x, p l → p (l ++ [x])) (l : List β) : p l := by
  have key : ∀ (m : List β), p m.reverse := by
    intro m
    induction m with
    | nil => exact h0
    | cons x m ih => rw [List.reverse_cons]; exact h1 _ x ih
  have := key l.reverse
  rwa [List.reverse_reverse] at this
theorem mem_succs {L : List (α × α)} {a b : α} : b ∈ succs lt L a ↔ (a, b) ∈ L := by
  induction L using snoc_ind with
  | h0 => simp [succs]
  | h1 L e ih =>
    rw [succs_snoc]
    obtain ⟨x, y⟩ := e
    by_cases h : x = a
    · subst h; simp [mem_put, ih]
    · simp [h, ih, Ne.symm h]
theorem succs_asc (o : Ord lt) {L : List (α × α)} {a : α} : Asc lt (succs lt L a) := by
  induction L using snoc_ind with
  | h0 => exact List.Pairwise.nil
  | h1 L e ih => rw [succs_snoc]; split; exact put_asc o ih; exact ih
theorem mem_nodes {L : List (α × α)} {a : α} : a ∈ nodes lt L ↔ ∃ e ∈ L, e.1 = a ∨ e.2 = a := by
  induction L using snoc_ind with
  | h0 => simp [nodes]
  | h1 L e ih =>
    rw [nodes_snoc, mem_put, mem_put, ih]
    constructor
    · rintro ((⟨e', h1, h2⟩ | h) | h)
      · exact ⟨e', by simp [h1], h2⟩
      · exact ⟨e, by simp, .inl h.symm⟩
      · exact ⟨e, by simp, .inr h.symm⟩
    · rintro ⟨e', h1, h2⟩
      rcases List.mem_append.1 h1 with h1 | h1
      · exact .inl (.inl ⟨e', h1, h2⟩)
      · simp at h1; subst h1
        rcases h2 with h2 | h2
        · exact .inl (.inr h2.symm)
        · exact .inr h2.symm
theorem nodes_asc (o : Ord lt) {L : List (α × α)} : Asc lt (nodes lt L) := by
  induction L using snoc_ind with
  | h0 => exact List.Pairwise.nil
  | h1 L e ih => rw [nodes_snoc]; exact put_asc o (put_asc o ih)
theorem succs_len {L : List (α × α)} {a : α} : (succs lt L a).length ≤ L.length := by
  induction L using snoc_ind with
  | h0 => simp [succs]
  | h1 L e ih =>
    rw [succs_snoc]
    split
    · have := put_len (lt := lt) (n := e.2) (l := succs lt L a); simp; omega
    · simp; omega
theorem nodes_len {L : List (α × α)} : (nodes lt L).length ≤ 2 * L.length := by
  induction L using snoc_ind with
  | h0 => simp [nodes]
  | h1 L e ih =>
    rw [nodes_snoc]
    have h1 := put_len (lt := lt) (n := e.2) (l := put lt (nodes lt L) e.1)
    have h2 := put_len (lt := lt) (n := e.1) (l := nodes lt L)
    simp; omega
/-! ### walks and distances -/
def walkB (L : List (α × α)) : Nat → α → α → Bool
  | 0, a, b => decide (a = b)
  | k + 1, a, b => L.any fun e => decide (e.1 = a) && walkB L k e.2 b
theorem walk_succ {L : List (α × α)} {k : Nat} {a b : α} : walkB L (k + 1) a b = true ↔ ∃ x, (a, x) ∈ L ∧ walkB L k x b = true := by
  simp only [walkB, List.any_eq_true, Bool.and_eq_true, decide_eq_true_eq]
  constructor
  · rintro ⟨⟨p, q⟩, h1, rfl, h2⟩; exact ⟨q, h1, h2⟩
  · rintro ⟨x, h1, h2⟩; exact ⟨(a, x), h1, rfl, h2⟩
theorem walk_add {L : List (α × α)} : ∀ {k m : Nat} {a b : α}, walkB L (k + m) a b = true ↔ ∃ x, walkB L k a x = true ∧ walkB L m x b = true
  | 0, m, a, b => by simp [walkB]
  | k + 1, m, a, b => by
    rw [show k + 1 + m = (k + m) + 1 by omega, walk_succ]
    constructor
    · rintro ⟨x, h1, h2⟩
      obtain ⟨y, h3, h4⟩ := walk_add.1 h2
      exact ⟨y, walk_succ.2 ⟨x, h1, h3⟩, h4⟩
    · rintro ⟨y, h1, h2⟩
      obtain ⟨x, h3, h4⟩ := walk_succ.1 h1
      exact ⟨x, h3, walk_add.2 ⟨y, h4, h2⟩⟩
/-- d is the least number of edges, at least one, of a walk from a to b -/
structure Dist (L : List (α × α)) (a b : α) (d : Nat) : Prop where
  pos : 1 ≤ d
  walk : walkB L d a b = true
  least : ∀ k, 1 ≤ k → k < d → walkB L k a b = false
theorem Dist.uniq {L : List (α × α)} {a b : α} {d d' : Nat} (h : Dist L a b d) (h' : Dist L a b d') : d = d' := by
  rcases Nat.lt_trichotomy d d' with h1 | h1 | h1
  · have := h'.least d h.pos h1; rw [h.walk] at this; cases this
  · exact h1
  · have := h.least d' h'.pos h1; rw [h'.walk] at this; cases this
theorem dist_of_walk {L : List (α × α)} {a b : α} : ∀ {k : Nat}, 1 ≤ k → walkB L k a b = true → ∃ d, d ≤ k ∧ Dist L a b d := by
  intro k
  induction k using Nat.strongRecOn with
  | _ k ih =>
    intro h1 h2
    by_cases h : ∃ j, 1 ≤ j ∧ j < k ∧ walkB L j a b = true
    · obtain ⟨j, h3, h4, h5⟩ := h
      obtain ⟨d, h6, h7⟩ := ih j h4 h3 h5
      exact ⟨d, by omega, h7⟩
    · refine ⟨k, Nat.le_refl _, h1, h2, fun j h3 h4 => ?_⟩
      cases hw : walkB L j a b with
      | false => rfl
      | true => exact absurd ⟨j, h3, h4, hw⟩ h
/-- within k edges -/
def within (L : List (α × α)) (b : α) (k : Nat) (a : α) : Bool := (List.range' 1 k).any fun j => walkB L j a b
theorem within_iff {L : List (α × α)} {a b : α} {k : Nat} : within L b k a = true ↔ ∃ j, 1 ≤ j ∧ j ≤ k ∧ walkB L j a b = true := by
  simp only [within, List.any_eq_true, List.mem_range'_1]
  constructor
  · rintro ⟨j, ⟨h1, h2⟩, h3⟩; exact ⟨j, h1, by omega, h3⟩
  · rintro ⟨j, h1, h2, h3⟩; exact ⟨j, ⟨h1, by omega⟩, h3⟩
theorem within_succ {L : List (α × α)} {a b : α} {k : Nat} : within L b (k + 1) a = true ↔ ∃ x, (a, x) ∈ L ∧ (x = b ∨ within L b k x = true) := by
  rw [within_iff]
  constructor
  · rintro ⟨j, h1, h2, h3⟩
    obtain ⟨j, rfl⟩ : ∃ i, j = i + 1 := ⟨j - 1, by omega⟩
    obtain ⟨x, h4, h5⟩ := walk_succ.1 h3
    refine ⟨x, h4, ?_⟩
    by_cases h6 : j = 0
    · subst h6; exact .inl (by simpa [walkB] using h5)
    · exact .inr (within_iff.2 ⟨j, by omega, by omega, h5⟩)
  · rintro ⟨x, h1, h2⟩
    rcases h2 with rfl | h2
    · exact ⟨1, by omega, by omega, walk_succ.2 ⟨x, h1, by simp [walkB]⟩⟩
    · obtain ⟨j, h3, h4, h5⟩ := within_iff.1 h2
      exact ⟨j + 1, by omega, by omega, walk_succ.2 ⟨x, h1, h5⟩⟩
theorem within_mono {L : List (α × α)} {a b : α} {k m : Nat} (h : within L b k a = true) (hk : k ≤ m) : within L b m a = true := by
  obtain ⟨j, h1, h2, h3⟩ := within_iff.1 h
  exact within_iff.2 ⟨j, h1, by omega, h3⟩
theorem filter_len_lt {β : Type} {p q : β → Bool} (h : ∀ x, p x = true → q x = true) : ∀ (l : List β), (l.filter p).length ≤ (l.filter q).length ∧ ((∃ x ∈ l, q x = true ∧ p x = false) → (l.filter p).length < (l.filter q).length)
  | [] => by simp
  | y :: l => by
    obtain ⟨ih1, ih2⟩ := filter_len_lt h l
    cases hp : p y with
    | true =>
      simp only [List.filter_cons, hp, h y hp, if_true, List.length_cons]
      refine ⟨by omega, ?_⟩
      rintro ⟨x, h1, h2, h3⟩
      rcases List.mem_cons.1 h1 with rfl | h1
      · rw [hp] at h3; cases h3
      · have := ih2 ⟨x, h1, h2, h3⟩; omega
    | false =>
      cases hq : q y with
      | true => simp only [List.filter_cons, hp, hq, if_true, List.length_cons]; exact ⟨by simp; omega, fun _ => by simp; omega⟩
      | false =>
        simp only [List.filter_cons, hp, hq]
        refine ⟨by simpa using ih1, ?_⟩
        rintro ⟨x, h1, h2, h3⟩
        rcases List.mem_cons.1 h1 with rfl | h1
        · rw [hq] at h2; cases h2
        · simpa using ih2 ⟨x, h1, h2, h3⟩
/-- who gets there at all does so within as many edges as there are -/
theorem within_stable {L : List (α × α)} {b : α} {k : Nat} (h : ∀ a, within L b (k + 1) a = true → within L b k a = true) : ∀ m a, within L b (k + m) a = true → within L b k a = true
  | 0, a, h1 => h1
  | m + 1, a, h1 => by
    have h2 : within L b (k + 1) a = true := by
      rw [show k + (m + 1) = (k + m) + 1 by omega] at h1
      obtain ⟨x, h3, h4⟩ := within_succ.1 h1
      exact within_succ.2 ⟨x, h3, h4.imp id (within_stable h m x)⟩
    exact h a h2
theorem within_bound {L : List (α × α)} {a b : α} {k : Nat} (h : within L b k a = true) : within L b L.length a = true := by
  have grow : ∀ k, (∃ j, j ≤ k ∧ ∀ a, within L b (j + 1) a = true → within L b j a = true) ∨ k ≤ ((L.map (·.1)).filter (within L b k)).length := by
    intro k
    induction k with
    | zero => exact .inr (Nat.zero_le _)
    | succ k ih =>
      rcases ih with ⟨j, h1, h2⟩ | ih
      · exact .inl ⟨j, by omega, h2⟩
      · by_cases hs : ∀ a, within L b (k + 1) a = true → within L b k a = true
        · exact .inl ⟨k, by omega, hs⟩
        · refine .inr ?_
          have hex : ∃ a, within L b (k + 1) a = true ∧ within L b k a = false := by
            refine Classical.byContradiction fun hn => hs fun a ha => ?_
            cases hw : within L b k a with
            | true => rfl
            | false => exact absurd ⟨a, ha, hw⟩ hn
          obtain ⟨a, h1, h2⟩ := hex
          have hm : a ∈ L.map (·.1) := by
            obtain ⟨x, h3, _⟩ := within_succ.1 h1
            exact List.mem_map.2 ⟨_, h3, rfl⟩
          have := (filter_len_lt (p := within L b k) (q := within L b (k + 1)) (fun x hx => within_mono hx (by omega)) (L.map (·.1))).2 ⟨a, hm, h1, h2⟩
          omega
  rcases grow (L.length + 1) with ⟨j, h1, h2⟩ | h1
  · by_cases hk : k ≤ L.length
    · exact within_mono h hk
    · by_cases hj : j ≤ L.length
      · have := within_stable h2 (k - j) a (by rw [show j + (k - j) = k by omega]; exact h)
        exact within_mono this hj
      · have hj' : j = L.length + 1 := by omega
        subst hj'
        -- then the numbers have grown as far as the length
        rcases grow L.length with ⟨i, h3, h4⟩ | h3
        · have := within_stable h4 (k - i) a (by rw [show i + (k - i) = k by omega]; exact h)
          exact within_mono this h3
        · -- all sources are within
          have hall : ∀ x ∈ L.map (·.1), within L b L.length x = true := by
            intro x hx
            cases hw : within L b L.length x with
            | true => rfl
            | false =>
              have := (filter_len_lt (p := within L b L.length) (q := fun _ => true) (fun _ _ => rfl) (L.map (·.1))).2 ⟨x, hx, rfl, hw⟩
              rw [List.filter_eq_self.2 (fun _ _ => rfl), List.length_map] at this; omega
          refine hall a ?_
          obtain ⟨k', rfl⟩ : ∃ i, k = i + 1 := ⟨k - 1, by omega⟩
          obtain ⟨x, h5, _⟩ := within_succ.1 h
          exact List.mem_map.2 ⟨_, h5, rfl⟩
  · have h2 := List.length_filter_le (within L b (L.length + 1)) (L.map (·.1))
    rw [List.length_map] at h2; omega
def dist (L : List (α × α)) (a b : α) : Option Nat := (List.range' 1 (L.length + 1)).find? fun k => walkB L k a b
theorem find_range {p : Nat → Bool} : ∀ (n s : Nat), (match (List.range' s n).find? p with | some d => s ≤ d ∧ d < s + n ∧ p d = true ∧ ∀ k, s ≤ k → k < d → p k = false | none => ∀ k, s ≤ k → k < s + n → p k = false)
  | 0, s => by simp; intro k h1 h2; omega
  | n + 1, s => by
    rw [List.range'_succ, List.find?_cons]
    cases hp : p s with
    | true => simp; exact ⟨hp, fun k h1 h2 => by omega⟩
    | false =>
      have ih := find_range (p := p) n (s + 1)
      simp only
      revert ih
      cases (List.range' (s + 1) n).find? p with
      | some d =>
        rintro ⟨h1, h2, h3, h4⟩
        refine ⟨by omega, by omega, h3, fun k h5 h6 => ?_⟩
        by_cases e : k = s
        · subst e; exact hp
        · exact h4 k (by omega) h6
      | none =>
        intro h k h5 h6
        by_cases e : k = s
        · subst e; exact hp
        · exact h k (by omega) (by omega)
theorem dist_some {L : List (α × α)} {a b : α} {d : Nat} : dist L a b = some d ↔ Dist L a b d := by
  have h := find_range (p := fun k => walkB L k a b) (L.length + 1) 1
  unfold dist
  constructor
  · intro e; rw [e] at h; exact ⟨h.1, h.2.2.1, h.2.2.2⟩
  · intro hd
    have hw : within L b L.length a = true := within_bound (k := d) (within_iff.2 ⟨d, hd.pos, Nat.le_refl _, hd.walk⟩)
    obtain ⟨j, h1, h2, h3⟩ := within_iff.1 hw
    have hle : d ≤ L.length := by
      rcases Nat.lt_or_ge j d with h4 | h4
      · have := hd.least j h1 h4; rw [h3] at this; cases this
      · omega
    revert h
    cases (List.range' 1 (L.length + 1)).find? (fun k => walkB L k a b) with
    | some d' => rintro ⟨h4, h5, h6, h7⟩; exact congrArg some (Dist.uniq ⟨h4, h6, h7⟩ hd)
    | none => intro h; have := h d hd.pos (by omega); rw [hd.walk] at this; cases this
theorem dist_none {L : List (α × α)} {a b : α} : dist L a b = none ↔ ∀ k, 1 ≤ k → walkB L k a b = false := by
  constructor
  · intro h k hk
    cases hw : walkB L k a b with
    | false => rfl
    | true => obtain ⟨d, _, hd⟩ := dist_of_walk hk hw; rw [dist_some.2 hd] at h; cases h
  · intro h
    cases hd : dist L a b with
    | none => rfl
    | some d => have h2 := dist_some.1 hd; have h3 := h d h2.pos; rw [h2.walk] at h3; cases h3
theorem dist_le {L : List (α × α)} {a b : α} {d : Nat} (h : dist L a b = some d) : d ≤ L.length + 1 := by
  have h1 := find_range (p := fun k => walkB L k a b) (L.length + 1) 1
  unfold dist at h
  rw [h] at h1; omega
theorem dist_trans {L : List (α × α)} {a b c : α} (h1 : dist L a b ≠ none) (h2 : dist L b c ≠ none) : dist L a c ≠ none := by
  obtain ⟨d, hd⟩ := Option.ne_none_iff_exists'.1 h1
  obtain ⟨e, he⟩ := Option.ne_none_iff_exists'.1 h2
  have hd := dist_some.1 hd
  have he := dist_some.1 he
  intro hn
  have := dist_none.1 hn (d + e) (by have := hd.pos; omega)
  rw [walk_add.2 ⟨b, hd.walk, he.walk⟩] at this; cases this
theorem len_sub {β : Type} : ∀ (a b : List β), a.Nodup → (∀ x ∈ a, x ∈ b) → a.length ≤ b.length := by
  classical
  intro a
  induction a with
  | nil => intro b _ _; simp
  | cons x a ih =>
    intro b hn hm
    obtain ⟨h1, h2⟩ := List.nodup_cons.1 hn
    have hx := hm x (by simp)
    have := ih (b.erase x) h2 fun y hy => (List.mem_erase_of_ne (fun e => h1 (by rw [← e]; exact hy))).2 (hm y (by simp [hy]))
    rw [List.length_erase_of_mem hx] at this
    have hpos : 0 < b.length := List.length_pos_of_mem hx
    simp; omega
theorem walk_last {L : List (α × α)} {k : Nat} {a b : α} : walkB L (k + 1) a b = true ↔ ∃ x, walkB L k a x = true ∧ (x, b) ∈ L := by
  rw [walk_add]
  constructor
  · rintro ⟨x, h1, h2⟩
    obtain ⟨y, h3, h4⟩ := walk_succ.1 h2
    have : y = b := by simpa [walkB] using h4
    subst this; exact ⟨x, h1, h3⟩
  · rintro ⟨x, h1, h2⟩; exact ⟨x, h1, walk_succ.2 ⟨b, h2, by simp [walkB]⟩⟩
/-- the nodes within N edges of a, forward -/
structure FS (lt : α → α → Bool) (L : List (α × α)) (a : α) (N : Nat) (s : List α) : Prop where
  asc : Asc lt s
  mem : ∀ x, x ∈ s ↔ ∃ j, 1 ≤ j ∧ j ≤ N ∧ walkB L j a x = true
theorem FS.start (o : Ord lt) {L : List (α × α)} {a : α} : FS lt L a 1 (succs lt L a) := ⟨succs_asc o, fun x => by
  rw [mem_succs]
  constructor
  · intro h; exact ⟨1, by omega, by omega, walk_succ.2 ⟨x, h, by simp [walkB]⟩⟩
  · rintro ⟨j, h1, h2, h3⟩
    obtain rfl : j = 1 := by omega
    obtain ⟨y, h4, h5⟩ := walk_succ.1 h3
    have : y = x := by simpa [walkB] using h5
    subst this; exact h4⟩
theorem FS.next {L : List (α × α)} {a : α} {N : Nat} {s s' : List α} (h : FS lt L a N s) (h1 : 1 ≤ N) (ha : Asc lt s') (hm : ∀ x, x ∈ s' ↔ x ∈ s ∨ ∃ y ∈ s, (y, x) ∈ L) : FS lt L a (N + 1) s' := ⟨ha, fun x => by
  rw [hm, h.mem]
  constructor
  · rintro (⟨j, h2, h3, h4⟩ | ⟨y, hy, h2⟩)
    · exact ⟨j, h2, by omega, h4⟩
    · obtain ⟨j, h3, h4, h5⟩ := (h.mem y).1 hy
      exact ⟨j + 1, by omega, by omega, walk_last.2 ⟨y, h5, h2⟩⟩
  · rintro ⟨j, h2, h3, h4⟩
    by_cases e : j ≤ N
    · exact .inl ⟨j, h2, e, h4⟩
    · obtain rfl : j = N + 1 := by omega
      obtain ⟨y, h5, h6⟩ := walk_last.1 h4
      exact .inr ⟨y, (h.mem y).2 ⟨N, h1, Nat.le_refl _, h5⟩, h6⟩⟩
theorem sub_nodes_len (o : Ord lt) {L : List (α × α)} {s : List α} (ha : Asc lt s) (h : ∀ x ∈ s, ∃ y, (y, x) ∈ L) : s.length ≤ 2 * L.length :=
  Nat.le_trans (len_sub s (nodes lt L) (ha.nodup o) fun x hx => by obtain ⟨y, hy⟩ := h x hx; exact mem_nodes.2 ⟨_, hy, .inr rfl⟩) nodes_len
theorem FS.src {L : List (α × α)} {a : α} {N : Nat} {s : List α} (h : FS lt L a N s) : ∀ x ∈ s, ∃ y, (y, x) ∈ L := fun x hx => by
  obtain ⟨j, h1, h2, h3⟩ := (h.mem x).1 hx
  obtain ⟨k, rfl⟩ : ∃ i, j = i + 1 := ⟨j - 1, by omega⟩
  obtain ⟨y, _, h4⟩ := walk_last.1 h3
  exact ⟨y, h4⟩
def farZ (L : List (α × α)) (a b : α) : Int := match dist L a b with | some d => (d : Nat) | none => -1
theorem farZ_some {L : List (α × α)} {a b : α} {d : Nat} (h : Dist L a b d) : farZ L a b = (d : Nat) := by unfold farZ; rw [dist_some.2 h]
theorem farZ_none {L : List (α × α)} {a b : α} {N : Nat} (hN : L.length + 2 ≤ N) (h : ∀ j, 1 ≤ j → j < N → walkB L j a b = false) : farZ L a b = -1 := by
  unfold farZ
  cases hd : dist L a b with
  | none => rfl
  | some d =>
    have h1 := dist_le hd
    have h2 := dist_some.1 hd
    have := h d h2.pos (by omega)
    rw [h2.walk] at this; cases this
/-! ### the shortest cycle -/
/-- the way down: from a node at distance k + 1 of n -/
def down (lt : α → α → Bool) (L : List (α × α)) (n : α) : Nat → α → List α
  | 0, _ => []
  | k + 1, a => match (succs lt L a).find? fun x => decide (dist L x n = some (k + 1)) with
    | some x => x :: down lt L n k x
    | none => a :: down lt L n k a
def cyc (lt : α → α → Bool) (L : List (α × α)) (n : α) : List α :=
  match dist L n n with
  | none => []
  | some d => n :: down lt L n (d - 1) n
theorem dist_next {L : List (α × α)} {a n : α} {k : Nat} (h : dist L a n = some (k + 2)) : ∃ x ∈ succs lt L a, dist L x n = some (k + 1) := by
  have hd := dist_some.1 h
  obtain ⟨x, h1, h2⟩ := walk_succ.1 hd.walk
  refine ⟨x, mem_succs.2 h1, dist_some.2 ⟨by omega, h2, fun j h3 h4 => ?_⟩⟩
  cases hw : walkB L j x n with
  | false => rfl
  | true => have := hd.least (j + 1) (by omega) (by omega); rw [walk_succ.2 ⟨x, h1, hw⟩] at this; cases this
theorem find_next {L : List (α × α)} {a n : α} {k : Nat} (h : dist L a n = some (k + 2)) : ∃ x, (succs lt L a).find? (fun x => decide (dist L x n = some (k + 1))) = some x ∧ (a, x) ∈ L ∧ dist L x n = some (k + 1) := by
  obtain ⟨x, h1, h2⟩ := dist_next (lt := lt) h
  cases hf : (succs lt L a).find? fun x => decide (dist L x n = some (k + 1)) with
  | none => have := List.find?_eq_none.1 hf x h1; simp [h2] at this
  | some y =>
    have h3 := List.find?_some hf
    have h4 := List.mem_of_find?_eq_some hf
    exact ⟨y, rfl, mem_succs.1 h4, by simpa using h3⟩
theorem down_len {L : List (α × α)} {n : α} : ∀ (k : Nat) (a : α), (down lt L n k a).length = k
  | 0, _ => rfl
  | k + 1, a => by unfold down; split <;> simp [down_len k]
theorem cyc_nil {L : List (α × α)} {n : α} : cyc lt L n = [] ↔ dist L n n = none := by
  unfold cyc
  cases dist L n n <;> simp
theorem cyc_head {L : List (α × α)} {n : α} (h : cyc lt L n ≠ []) : ∃ r, cyc lt L n = n :: r := by
  unfold cyc at *
  cases hd : dist L n n with
  | none => rw [hd] at h; exact absurd rfl h
  | some d => exact ⟨_, rfl⟩
/-- the j-th node of the way down stands at the distance k - j -/
theorem down_dist {L : List (α × α)} {n : α} : ∀ (k : Nat) (a : α), dist L a n = some (k + 1) → ∀ j x, (down lt L n k a)[j]? = some x → dist L x n = some (k - j)
  | 0, a, h, j, x, hx => by simp [down] at hx
  | k + 1, a, h, j, x, hx => by
    obtain ⟨y, h1, h2, h3⟩ := find_next (lt := lt) h
    rw [down, h1] at hx
    cases j with
    | zero => simp at hx; subst hx; exact h3
    | succ j => simp at hx; have := down_dist k y h3 j x hx; rw [this]; congr 1; omega
theorem down_edge {L : List (α × α)} {n : α} : ∀ (k : Nat) (a : α), dist L a n = some (k + 1) → ∀ j x y, (a :: down lt L n k a)[j]? = some x → (a :: down lt L n k a)[j + 1]? = some y → (x, y) ∈ L
  | 0, a, h, j, x, y, hx, hy => by simp [down] at hy
  | k + 1, a, h, j, x, y, hx, hy => by
    obtain ⟨z, h1, h2, h3⟩ := find_next (lt := lt) h
    rw [down, h1] at hx hy
    cases j with
    | zero => simp at hx hy; subst hx hy; exact h2
    | succ j =>
      simp only [List.getElem?_cons_succ] at hx hy
      exact down_edge k z h3 j x y hx hy
theorem dist_one {L : List (α × α)} {a b : α} : dist L a b = some 1 ↔ (a, b) ∈ L := by
  rw [dist_some]
  constructor
  · intro h
    obtain ⟨x, h1, h2⟩ := walk_succ.1 h.walk
    have : x = b := by simpa [walkB] using h2
    subst this; exact h1
  · intro h; exact ⟨Nat.le_refl _, walk_succ.2 ⟨b, h, by simp [walkB]⟩, fun k h1 h2 => by omega⟩
theorem cyc_facts {L : List (α × α)} {n : α} {d : Nat} (h : dist L n n = some d) : (cyc lt L n).length = d ∧ (∀ j x, (cyc lt L n)[j]? = some x → dist L x n = some (d - j)) ∧
    (∀ j x y, (cyc lt L n)[j]? = some x → (cyc lt L n)[(j + 1) % d]? = some y → (x, y) ∈ L) := by
  have hp := (dist_some.1 h).pos
  obtain ⟨k, rfl⟩ : ∃ k, d = k + 1 := ⟨d - 1, by omega⟩
  have e : cyc lt L n = n :: down lt L n k n := by unfold cyc; rw [h]; rfl
  have hdist : ∀ j x, (cyc lt L n)[j]? = some x → dist L x n = some (k + 1 - j) := by
    intro j x hx
    rw [e] at hx
    cases j with
    | zero => simp at hx; subst hx; exact h
    | succ j => simp at hx; rw [down_dist k n h j x hx]; congr 1; omega
  refine ⟨by rw [e]; simp [down_len], hdist, fun j x y hx hy => ?_⟩
  have hj : j < k + 1 := by
    have := (List.getElem?_eq_some_iff.1 hx).1
    rw [e] at this; simpa [down_len] using this
  by_cases hl : j = k
  · subst hl
    rw [Nat.mod_self] at hy
    rw [e] at hy; simp at hy; subst hy
    have := hdist j x hx
    rw [show j + 1 - j = 1 by omega] at this
    exact dist_one.1 this
  · rw [Nat.mod_eq_of_lt (by omega)] at hy
    rw [e] at hx hy
    exact down_edge k n h j x y hx hy
theorem cyc_inj {L : List (α × α)} {n : α} {i j : Nat} {x : α} (hi : (cyc lt L n)[i]? = some x) (hj : (cyc lt L n)[j]? = some x) : i = j := by
  cases hd : dist L n n with
  | none => rw [cyc_nil.2 hd] at hi; simp at hi
  | some d =>
    obtain ⟨h1, h2, _⟩ := cyc_facts (lt := lt) hd
    have h3 := (List.getElem?_eq_some_iff.1 hi).1
    have h4 := (List.getElem?_eq_some_iff.1 hj).1
    have h5 := h2 i x hi
    rw [h2 j x hj] at h5
    injection h5 with h5
    omega
/-! ### edges added and removed -/
def addE (L : List (α × α)) (a b : α) : List (α × α) := if (a, b) ∈ L then L else L ++ [(a, b)]
def rmE (L : List (α × α)) (n : α) : List (α × α) := L.filter fun e => !decide (e.1 = n) && !decide (e.2 = n)
def lvE (L : List (α × α)) (n : α) : List (α × α) := L.filter fun e => !decide (e.1 = n)
theorem mem_addE {L : List (α × α)} {a b : α} {e : α × α} : e ∈ addE L a b ↔ e ∈ L ∨ e = (a, b) := by
  unfold addE; split
  · rename_i h; constructor
    · intro h; exact .inl h
    · rintro (h' | rfl); exact h'; exact h
  · simp
theorem mem_rmE {L : List (α × α)} {n : α} {e : α × α} : e ∈ rmE L n ↔ e ∈ L ∧ e.1 ≠ n ∧ e.2 ≠ n := by simp [rmE]
theorem mem_lvE {L : List (α × α)} {n : α} {e : α × α} : e ∈ lvE L n ↔ e ∈ L ∧ e.1 ≠ n := by simp [lvE]
theorem walk_sub {L L' : List (α × α)} (h : ∀ e ∈ L', e ∈ L) : ∀ {k : Nat} {a b : α}, walkB L' k a b = true → walkB L k a b = true
  | 0, _, _, hw => hw
  | k + 1, a, b, hw => by
    obtain ⟨x, h1, h2⟩ := walk_succ.1 hw
    exact walk_succ.2 ⟨x, h _ h1, walk_sub h h2⟩
theorem dist_sub {L L' : List (α × α)} (h : ∀ e ∈ L', e ∈ L) {a b : α} (hd : dist L a b = none) : dist L' a b = none := by
  rw [dist_none] at *
  intro k hk
  cases hw : walkB L' k a b with
  | false => rfl
  | true => have := hd k hk; rw [walk_sub h hw] at this; cases this
theorem dist_gone {L : List (α × α)} {n : α} (h : ∀ e ∈ L, e.1 ≠ n) {b : α} : dist L n b = none := by
  rw [dist_none]
  intro k hk
  obtain ⟨k, rfl⟩ : ∃ j, k = j + 1 := ⟨k - 1, by omega⟩
  cases hw : walkB L (k + 1) n b with
  | false => rfl
  | true => obtain ⟨x, h1, _⟩ := walk_succ.1 hw; exact absurd rfl (h _ h1)
end
end Go.Proofs.Ytikcmjamioopbaa.M
/- Graphs whose nodes are renamed in order. Plain theorems. -/
namespace Go.Proofs.Ytikcmjamioopbaa.M
set_option linter.unusedVariables false
set_option linter.unusedSectionVars false
section
variable {α β : Type} [DecidableEq α] [DecidableEq β] {lt : α → α → Bool} {lt' : β → β → Bool} {f : α → β}
structure Emb (lt : α → α → Bool) (lt' : β → β → Bool) (f : α → β) : Prop where
  inj : ∀ a b, f a = f b → a = b
  mono : ∀ a b, lt' (f a) (f b) = lt a b
abbrev both (f : α → β) (e : α × α) : β × β := (f e.1, f e.2)
theorem Emb.eq (h : Emb lt lt' f) {a b : α} : f a = f b ↔ a = b := ⟨h.inj a b, fun e => by rw [e]⟩
theorem Emb.put (h : Emb lt lt' f) {n : α} : ∀ {l : List α}, put lt' (l.map f) (f n) = (put lt l n).map f
  | [] => rfl
  | x :: r => by
    have ih := Emb.put h (n := n) (l := r)
    simp only [List.map_cons, M.put, h.mono, h.eq]
    split
    · rw [List.map_cons, ih]
    · split
      · rfl
      · rfl
theorem Emb.succs (h : Emb lt lt' f) {L : List (α × α)} {a : α} : succs lt' (L.map (both f)) (f a) = (succs lt L a).map f := by
  induction L using snoc_ind with
  | h0 => rfl
  | h1 l x ih =>
    rw [List.map_append, List.map_cons, List.map_nil, succs_snoc, succs_snoc, ih]
    simp only [h.eq]
    split
    · rw [h.put]
    · rfl
theorem Emb.nodes (h : Emb lt lt' f) {L : List (α × α)} : nodes lt' (L.map (both f)) = (nodes lt L).map f := by
  induction L using snoc_ind with
  | h0 => rfl
  | h1 l x ih =>
    rw [List.map_append, List.map_cons, List.map_nil, nodes_snoc, nodes_snoc, ih, h.put, h.put]
theorem Emb.walk (h : Emb lt lt' f) {L : List (α × α)} : ∀ {k : Nat} {a b : α}, walkB (L.map (both f)) k (f a) (f b) = walkB L k a b
  | 0, a, b => by simp only [walkB, h.eq]
  | k + 1, a, b => by
    simp only [walkB, List.any_map]
    congr 1
    funext e
    simp only [Function.comp, h.eq, Emb.walk h]
theorem Emb.dist (h : Emb lt lt' f) {L : List (α × α)} {a b : α} : dist (L.map (both f)) (f a) (f b) = dist L a b := by
  unfold M.dist
  rw [List.length_map]
  congr 1
  funext k
  exact h.walk
theorem Emb.down (h : Emb lt lt' f) {L : List (α × α)} {n : α} : ∀ {k : Nat} {a : α}, down lt' (L.map (both f)) (f n) k (f a) = (down lt L n k a).map f
  | 0, a => rfl
  | k + 1, a => by
    unfold M.down
    rw [h.succs, List.find?_map]
    have e : ((fun x => decide (M.dist (L.map (both f)) x (f n) = some (k + 1))) ∘ f) = fun x => decide (M.dist L x n = some (k + 1)) := by
      funext x; simp only [Function.comp, h.dist]
    rw [e]
    cases (M.succs lt L a).find? (fun x => decide (M.dist L x n = some (k + 1))) with
    | none => simp only [Option.map_none, List.map_cons, Emb.down h]
    | some x => simp only [Option.map_some, List.map_cons, Emb.down h]
theorem Emb.cyc (h : Emb lt lt' f) {L : List (α × α)} {n : α} : cyc lt' (L.map (both f)) (f n) = (cyc lt L n).map f := by
  unfold M.cyc
  rw [h.dist]
  cases M.dist L n n with
  | none => rfl
  | some d => simp only [List.map_cons, h.down]
theorem Emb.memE (h : Emb lt lt' f) {L : List (α × α)} {a b : α} : (f a, f b) ∈ L.map (both f) ↔ (a, b) ∈ L := by
  rw [List.mem_map]
  constructor
  · rintro ⟨⟨p, q⟩, h1, h2⟩
    simp only [Prod.mk.injEq, h.eq] at h2
    obtain ⟨rfl, rfl⟩ := h2
    exact h1
  · intro h1; exact ⟨_, h1, rfl⟩
theorem Emb.addE (h : Emb lt lt' f) {L : List (α × α)} {a b : α} : addE (L.map (both f)) (f a) (f b) = (addE L a b).map (both f) := by
  unfold M.addE
  by_cases hm : (a, b) ∈ L
  · rw [if_pos hm, if_pos (h.memE.2 hm)]
  · rw [if_neg hm, if_neg (fun e => hm (h.memE.1 e))]; simp
end
end Go.Proofs.Ytikcmjamioopbaa.M
