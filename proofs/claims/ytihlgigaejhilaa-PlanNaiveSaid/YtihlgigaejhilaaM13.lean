/- Parts of the proof, one after the other: Fx. No condition. -/
import Derived.Test.YtihlgigaejhilaaM12
import Derived.Test.YtihlgigaejhilaaProg
/- Closed facts on the types and functions of the program. -/
namespace Go.Proofs.Ytihlgigaejhilaa.Fx
open Go.Proofs.Ytihlgigaejhilaa.E
theorem mo : Try.prog.follows .mixedOrders = true := by kernel_rfl
theorem ty2 : tyB Try.prog 2 false 1 = true := by kernel_rfl
theorem ty3 : tyB Try.prog 3 false 1 = true := by kernel_rfl
theorem ze3 : zeroIs Try.prog 3 (.int .i64 0) := (by kernel_rfl : (Try.prog.info? 3).bind (·.zero) = some (.int .i64 0))
theorem ty4 : tyB Try.prog 4 false 1 = true := by kernel_rfl
theorem ty9 : tyB Try.prog 9 false 1 = true := by kernel_rfl
theorem un9 : Try.prog.underlying 9 = some .string := by kernel_rfl
theorem ty22 : tyB Try.prog 22 false 1 = true := by kernel_rfl
theorem sl22 : slB Try.prog 22 3 1 = true := by kernel_rfl
theorem el22 : elB Try.prog 22 3 1 8 = true := by kernel_rfl
theorem un22 : Try.prog.underlying 22 = some (.slice 3) := by kernel_rfl
theorem ty23 : tyB Try.prog 23 false 1 = true := by kernel_rfl
theorem sl23 : slB Try.prog 23 27 8 = true := by kernel_rfl
theorem el23 : elB Try.prog 23 27 8 104 = true := by kernel_rfl
theorem un23 : Try.prog.underlying 23 = some (.slice 27) := by kernel_rfl
theorem nk23 : nkB Try.prog 23 .sl = true := by kernel_rfl
theorem ty25 : tyB Try.prog 25 true 3 = true := by kernel_rfl
theorem ze25 : zeroIs Try.prog 25 (.agg #[.int .i64 0, .int .i64 0, .string ⟨#[]⟩]) := (by kernel_rfl : (Try.prog.info? 25).bind (·.zero) = some (.agg #[.int .i64 0, .int .i64 0, .string ⟨#[]⟩]))
theorem fl25_2 : fldB Try.prog 25 2 2 = true := by kernel_rfl
theorem bp25 : bplB Try.prog 25 [(0, 1), (1, 1), (2, 1)] = true := by kernel_rfl
theorem ty27 : tyB Try.prog 27 true 8 = true := by kernel_rfl
theorem ze27 : zeroIs Try.prog 27 (.agg #[.int .i64 0, .string ⟨#[]⟩, .string ⟨#[]⟩, .int .i64 0, .int .i64 0, .int .i64 0, .string ⟨#[]⟩, .slice none 0 0]) := (by kernel_rfl : (Try.prog.info? 27).bind (·.zero) = some (.agg #[.int .i64 0, .string ⟨#[]⟩, .string ⟨#[]⟩, .int .i64 0, .int .i64 0, .int .i64 0, .string ⟨#[]⟩, .slice none 0 0]))
theorem fl27_0 : fldB Try.prog 27 0 0 = true := by kernel_rfl
theorem fl27_1 : fldB Try.prog 27 1 1 = true := by kernel_rfl
theorem fl27_2 : fldB Try.prog 27 2 2 = true := by kernel_rfl
theorem fl27_3 : fldB Try.prog 27 3 3 = true := by kernel_rfl
theorem fl27_4 : fldB Try.prog 27 4 4 = true := by kernel_rfl
theorem fl27_5 : fldB Try.prog 27 5 7 = true := by kernel_rfl
theorem bp27 : bplB Try.prog 27 [(0, 1), (1, 1), (2, 1), (3, 1), (4, 3), (7, 1)] = true := by kernel_rfl
theorem ty28 : tyB Try.prog 28 false 1 = true := by kernel_rfl
theorem sl28 : slB Try.prog 28 30 13 = true := by kernel_rfl
theorem el28 : elB Try.prog 28 30 13 192 = true := by kernel_rfl
theorem un28 : Try.prog.underlying 28 = some (.slice 30) := by kernel_rfl
theorem ty30 : tyB Try.prog 30 true 13 = true := by kernel_rfl
theorem ze30 : zeroIs Try.prog 30 (.agg #[.int .i64 0, .int .i64 0, .slice none 0 0, .slice none 0 0, .int .i64 0, .string ⟨#[]⟩, .string ⟨#[]⟩, .int .i64 0, .int .i64 0, .int .i64 0, .string ⟨#[]⟩, .slice none 0 0, .slice none 0 0]) := (by kernel_rfl : (Try.prog.info? 30).bind (·.zero) = some (.agg #[.int .i64 0, .int .i64 0, .slice none 0 0, .slice none 0 0, .int .i64 0, .string ⟨#[]⟩, .string ⟨#[]⟩, .int .i64 0, .int .i64 0, .int .i64 0, .string ⟨#[]⟩, .slice none 0 0, .slice none 0 0]))
theorem fl30_0 : fldB Try.prog 30 0 0 = true := by kernel_rfl
theorem fl30_1 : fldB Try.prog 30 1 1 = true := by kernel_rfl
theorem fl30_2 : fldB Try.prog 30 2 2 = true := by kernel_rfl
theorem fl30_3 : fldB Try.prog 30 3 3 = true := by kernel_rfl
theorem fl30_4 : fldB Try.prog 30 4 4 = true := by kernel_rfl
theorem fl30_5 : fldB Try.prog 30 5 12 = true := by kernel_rfl
theorem bp30 : bplB Try.prog 30 [(0, 1), (1, 1), (2, 1), (3, 1), (4, 8), (12, 1)] = true := by kernel_rfl
theorem ty35 : tyB Try.prog 35 false 1 = true := by kernel_rfl
theorem sl35 : slB Try.prog 35 71 5 = true := by kernel_rfl
theorem el35 : elB Try.prog 35 71 5 112 = true := by kernel_rfl
theorem un35 : Try.prog.underlying 35 = some (.slice 71) := by kernel_rfl
theorem ty36 : tyB Try.prog 36 false 1 = true := by kernel_rfl
theorem sl36 : slB Try.prog 36 9 1 = true := by kernel_rfl
theorem el36 : elB Try.prog 36 9 1 16 = true := by kernel_rfl
theorem un36 : Try.prog.underlying 36 = some (.slice 9) := by kernel_rfl
theorem ty38 : tyB Try.prog 38 true 11 = true := by kernel_rfl
theorem ze38 : zeroIs Try.prog 38 (.agg #[.slice none 0 0, .slice none 0 0, .slice none 0 0, .int .i64 0, .string ⟨#[]⟩, .string ⟨#[]⟩, .int .i64 0, .int .i64 0, .int .i64 0, .string ⟨#[]⟩, .slice none 0 0]) := (by kernel_rfl : (Try.prog.info? 38).bind (·.zero) = some (.agg #[.slice none 0 0, .slice none 0 0, .slice none 0 0, .int .i64 0, .string ⟨#[]⟩, .string ⟨#[]⟩, .int .i64 0, .int .i64 0, .int .i64 0, .string ⟨#[]⟩, .slice none 0 0]))
theorem fl38_0 : fldB Try.prog 38 0 0 = true := by kernel_rfl
theorem fl38_1 : fldB Try.prog 38 1 1 = true := by kernel_rfl
theorem fl38_2 : fldB Try.prog 38 2 2 = true := by kernel_rfl
theorem fl38_3 : fldB Try.prog 38 3 3 = true := by kernel_rfl
theorem bp38 : bplB Try.prog 38 [(0, 1), (1, 1), (2, 1), (3, 8)] = true := by kernel_rfl
theorem ty39 : tyB Try.prog 39 false 1 = true := by kernel_rfl
theorem sl39 : slB Try.prog 39 89 6 = true := by kernel_rfl
theorem el39 : elB Try.prog 39 89 6 56 = true := by kernel_rfl
theorem un39 : Try.prog.underlying 39 = some (.slice 89) := by kernel_rfl
theorem ty40 : tyB Try.prog 40 false 1 = true := by kernel_rfl
theorem sl40 : slB Try.prog 40 36 1 = true := by kernel_rfl
theorem el40 : elB Try.prog 40 36 1 24 = true := by kernel_rfl
theorem un40 : Try.prog.underlying 40 = some (.slice 36) := by kernel_rfl
theorem ty41 : tyB Try.prog 41 false 1 = true := by kernel_rfl
theorem sl41 : slB Try.prog 41 120 3 = true := by kernel_rfl
theorem el41 : elB Try.prog 41 120 3 64 = true := by kernel_rfl
theorem un41 : Try.prog.underlying 41 = some (.slice 120) := by kernel_rfl
theorem ty43 : tyB Try.prog 43 true 4 = true := by kernel_rfl
theorem ze43 : zeroIs Try.prog 43 (.agg #[.slice none 0 0, .slice none 0 0, .slice none 0 0, .slice none 0 0]) := (by kernel_rfl : (Try.prog.info? 43).bind (·.zero) = some (.agg #[.slice none 0 0, .slice none 0 0, .slice none 0 0, .slice none 0 0]))
theorem fl43_0 : fldB Try.prog 43 0 0 = true := by kernel_rfl
theorem fl43_1 : fldB Try.prog 43 1 1 = true := by kernel_rfl
theorem fl43_2 : fldB Try.prog 43 2 2 = true := by kernel_rfl
theorem fl43_3 : fldB Try.prog 43 3 3 = true := by kernel_rfl
theorem bp43 : bplB Try.prog 43 [(0, 1), (1, 1), (2, 1), (3, 1)] = true := by kernel_rfl
theorem ty47 : tyB Try.prog 47 false 1 = true := by kernel_rfl
theorem el47 : elB Try.prog 47 73 2 32 = true := by kernel_rfl
theorem ty50 : tyB Try.prog 50 true 22 = true := by kernel_rfl
theorem ze50 : zeroIs Try.prog 50 (.agg #[.int .i64 0, .string ⟨#[]⟩, .slice none 0 0, .slice none 0 0, .slice none 0 0, .slice none 0 0, .slice none 0 0, .slice none 0 0, .slice none 0 0, .slice none 0 0, .int .i64 0, .string ⟨#[]⟩, .string ⟨#[]⟩, .int .i64 0, .int .i64 0, .int .i64 0, .string ⟨#[]⟩, .slice none 0 0, .slice none 0 0, .slice none 0 0, .int .i64 0, .string ⟨#[]⟩]) := (by kernel_rfl : (Try.prog.info? 50).bind (·.zero) = some (.agg #[.int .i64 0, .string ⟨#[]⟩, .slice none 0 0, .slice none 0 0, .slice none 0 0, .slice none 0 0, .slice none 0 0, .slice none 0 0, .slice none 0 0, .slice none 0 0, .int .i64 0, .string ⟨#[]⟩, .string ⟨#[]⟩, .int .i64 0, .int .i64 0, .int .i64 0, .string ⟨#[]⟩, .slice none 0 0, .slice none 0 0, .slice none 0 0, .int .i64 0, .string ⟨#[]⟩]))
theorem fl50_0 : fldB Try.prog 50 0 0 = true := by kernel_rfl
theorem fl50_1 : fldB Try.prog 50 1 1 = true := by kernel_rfl
theorem fl50_2 : fldB Try.prog 50 2 2 = true := by kernel_rfl
theorem fl50_6 : fldB Try.prog 50 6 9 = true := by kernel_rfl
theorem fl50_7 : fldB Try.prog 50 7 10 = true := by kernel_rfl
theorem bp50 : bplB Try.prog 50 [(0, 1), (1, 1), (2, 4), (6, 1), (7, 1), (8, 1), (9, 1), (10, 8), (18, 1), (19, 1), (20, 1), (21, 1)] = true := by kernel_rfl
theorem ty51 : tyB Try.prog 51 false 1 = true := by kernel_rfl
theorem el51 : elB Try.prog 51 105 5 40 = true := by kernel_rfl
theorem ty54 : tyB Try.prog 54 true 26 = true := by kernel_rfl
theorem ze54 : zeroIs Try.prog 54 (.agg #[.int .i64 0, .string ⟨#[]⟩, .slice none 0 0, .slice none 0 0, .slice none 0 0, .slice none 0 0, .slice none 0 0, .slice none 0 0, .slice none 0 0, .slice none 0 0, .int .i64 0, .string ⟨#[]⟩, .string ⟨#[]⟩, .int .i64 0, .int .i64 0, .int .i64 0, .string ⟨#[]⟩, .slice none 0 0, .slice none 0 0, .slice none 0 0, .int .i64 0, .string ⟨#[]⟩, .int .i64 0, .slice none 0 0, .slice none 0 0, .slice none 0 0]) := (by kernel_rfl : (Try.prog.info? 54).bind (·.zero) = some (.agg #[.int .i64 0, .string ⟨#[]⟩, .slice none 0 0, .slice none 0 0, .slice none 0 0, .slice none 0 0, .slice none 0 0, .slice none 0 0, .slice none 0 0, .slice none 0 0, .int .i64 0, .string ⟨#[]⟩, .string ⟨#[]⟩, .int .i64 0, .int .i64 0, .int .i64 0, .string ⟨#[]⟩, .slice none 0 0, .slice none 0 0, .slice none 0 0, .int .i64 0, .string ⟨#[]⟩, .int .i64 0, .slice none 0 0, .slice none 0 0, .slice none 0 0]))
theorem fl54_0 : fldB Try.prog 54 0 0 = true := by kernel_rfl
theorem fl54_2 : fldB Try.prog 54 2 23 = true := by kernel_rfl
theorem fl54_3 : fldB Try.prog 54 3 24 = true := by kernel_rfl
theorem bp54 : bplB Try.prog 54 [(0, 22), (22, 1), (23, 1), (24, 1), (25, 1)] = true := by kernel_rfl
theorem ty68 : tyB Try.prog 68 false 1 = true := by kernel_rfl
theorem sl68 : slB Try.prog 68 22 1 = true := by kernel_rfl
theorem el68 : elB Try.prog 68 22 1 24 = true := by kernel_rfl
theorem un68 : Try.prog.underlying 68 = some (.slice 22) := by kernel_rfl
theorem ty69 : tyB Try.prog 69 false 1 = true := by kernel_rfl
theorem sl69 : slB Try.prog 69 98 3 = true := by kernel_rfl
theorem el69 : elB Try.prog 69 98 3 40 = true := by kernel_rfl
theorem un69 : Try.prog.underlying 69 = some (.slice 98) := by kernel_rfl
theorem ty71 : tyB Try.prog 71 true 5 = true := by kernel_rfl
theorem ze71 : zeroIs Try.prog 71 (.agg #[.string ⟨#[]⟩, .slice none 0 0, .slice none 0 0, .slice none 0 0, .slice none 0 0]) := (by kernel_rfl : (Try.prog.info? 71).bind (·.zero) = some (.agg #[.string ⟨#[]⟩, .slice none 0 0, .slice none 0 0, .slice none 0 0, .slice none 0 0]))
theorem fl71_0 : fldB Try.prog 71 0 0 = true := by kernel_rfl
theorem fl71_1 : fldB Try.prog 71 1 1 = true := by kernel_rfl
theorem fl71_2 : fldB Try.prog 71 2 2 = true := by kernel_rfl
theorem fl71_3 : fldB Try.prog 71 3 3 = true := by kernel_rfl
theorem fl71_4 : fldB Try.prog 71 4 4 = true := by kernel_rfl
theorem bp71 : bplB Try.prog 71 [(0, 1), (1, 1), (2, 1), (3, 1), (4, 1)] = true := by kernel_rfl
theorem ze73 : zeroIs Try.prog 73 (.agg #[.string ⟨#[]⟩, .string ⟨#[]⟩]) := (by kernel_rfl : (Try.prog.info? 73).bind (·.zero) = some (.agg #[.string ⟨#[]⟩, .string ⟨#[]⟩]))
theorem bp73 : bplB Try.prog 73 [(0, 1), (1, 1)] = true := by kernel_rfl
theorem ty77 : tyB Try.prog 77 false 1 = true := by kernel_rfl
theorem ze77 : zeroIs Try.prog 77 (.slice none 0 0) := (by kernel_rfl : (Try.prog.info? 77).bind (·.zero) = some (.slice none 0 0))
theorem sl77 : slB Try.prog 77 85 2 = true := by kernel_rfl
theorem el77 : elB Try.prog 77 85 2 16 = true := by kernel_rfl
theorem un77 : Try.prog.underlying 77 = some (.slice 85) := by kernel_rfl
theorem ty79 : tyB Try.prog 79 false 1 = true := by kernel_rfl
theorem ze81 : zeroIs Try.prog 81 (.agg #[.slice none 0 0, .int .i64 0, .string ⟨#[]⟩, .slice none 0 0, .slice none 0 0, .slice none 0 0, .slice none 0 0, .slice none 0 0, .slice none 0 0, .slice none 0 0, .slice none 0 0, .int .i64 0, .string ⟨#[]⟩, .string ⟨#[]⟩, .int .i64 0, .int .i64 0, .int .i64 0, .string ⟨#[]⟩, .slice none 0 0, .slice none 0 0, .slice none 0 0, .int .i64 0, .string ⟨#[]⟩, .int .i64 0, .slice none 0 0, .slice none 0 0, .slice none 0 0]) := (by kernel_rfl : (Try.prog.info? 81).bind (·.zero) = some (.agg #[.slice none 0 0, .int .i64 0, .string ⟨#[]⟩, .slice none 0 0, .slice none 0 0, .slice none 0 0, .slice none 0 0, .slice none 0 0, .slice none 0 0, .slice none 0 0, .slice none 0 0, .int .i64 0, .string ⟨#[]⟩, .string ⟨#[]⟩, .int .i64 0, .int .i64 0, .int .i64 0, .string ⟨#[]⟩, .slice none 0 0, .slice none 0 0, .slice none 0 0, .int .i64 0, .string ⟨#[]⟩, .int .i64 0, .slice none 0 0, .slice none 0 0, .slice none 0 0]))
theorem fl81_0 : fldB Try.prog 81 0 0 = true := by kernel_rfl
theorem fl81_1 : fldB Try.prog 81 1 1 = true := by kernel_rfl
theorem bp81 : bplB Try.prog 81 [(0, 1), (1, 26)] = true := by kernel_rfl
theorem ty85 : tyB Try.prog 85 true 2 = true := by kernel_rfl
theorem ze85 : zeroIs Try.prog 85 (.agg #[.int .i64 0, .bool false]) := (by kernel_rfl : (Try.prog.info? 85).bind (·.zero) = some (.agg #[.int .i64 0, .bool false]))
theorem fl85_0 : fldB Try.prog 85 0 0 = true := by kernel_rfl
theorem fl85_1 : fldB Try.prog 85 1 1 = true := by kernel_rfl
theorem bp85 : bplB Try.prog 85 [(0, 1), (1, 1)] = true := by kernel_rfl
theorem ty89 : tyB Try.prog 89 true 6 = true := by kernel_rfl
theorem ze89 : zeroIs Try.prog 89 (.agg #[.string ⟨#[]⟩, .int .i64 0, .int .i64 0, .int .i64 0, .int .i64 0, .bool false]) := (by kernel_rfl : (Try.prog.info? 89).bind (·.zero) = some (.agg #[.string ⟨#[]⟩, .int .i64 0, .int .i64 0, .int .i64 0, .int .i64 0, .bool false]))
theorem fl89_0 : fldB Try.prog 89 0 0 = true := by kernel_rfl
theorem fl89_1 : fldB Try.prog 89 1 1 = true := by kernel_rfl
theorem fl89_2 : fldB Try.prog 89 2 2 = true := by kernel_rfl
theorem fl89_3 : fldB Try.prog 89 3 3 = true := by kernel_rfl
theorem fl89_4 : fldB Try.prog 89 4 4 = true := by kernel_rfl
theorem fl89_5 : fldB Try.prog 89 5 5 = true := by kernel_rfl
theorem bp89 : bplB Try.prog 89 [(0, 1), (1, 1), (2, 1), (3, 1), (4, 1), (5, 1)] = true := by kernel_rfl
theorem sl95 : slB Try.prog 95 50 22 = true := by kernel_rfl
theorem el95 : elB Try.prog 95 50 22 392 = true := by kernel_rfl
theorem un95 : Try.prog.underlying 95 = some (.slice 50) := by kernel_rfl
theorem ty98 : tyB Try.prog 98 true 3 = true := by kernel_rfl
theorem ze98 : zeroIs Try.prog 98 (.agg #[.slice none 0 0, .int .i64 0, .int .i64 0]) := (by kernel_rfl : (Try.prog.info? 98).bind (·.zero) = some (.agg #[.slice none 0 0, .int .i64 0, .int .i64 0]))
theorem fl98_0 : fldB Try.prog 98 0 0 = true := by kernel_rfl
theorem fl98_1 : fldB Try.prog 98 1 1 = true := by kernel_rfl
theorem fl98_2 : fldB Try.prog 98 2 2 = true := by kernel_rfl
theorem bp98 : bplB Try.prog 98 [(0, 1), (1, 1), (2, 1)] = true := by kernel_rfl
theorem ze105 : zeroIs Try.prog 105 (.agg #[.int .i64 0, .int .i64 0, .int .i64 0, .int .i64 0, .bool false]) := (by kernel_rfl : (Try.prog.info? 105).bind (·.zero) = some (.agg #[.int .i64 0, .int .i64 0, .int .i64 0, .int .i64 0, .bool false]))
theorem bp105 : bplB Try.prog 105 [(0, 1), (1, 1), (2, 1), (3, 1), (4, 1)] = true := by kernel_rfl
theorem ty110 : tyB Try.prog 110 false 1 = true := by kernel_rfl
theorem ze110 : zeroIs Try.prog 110 (.nilFunc) := (by kernel_rfl : (Try.prog.info? 110).bind (·.zero) = some (.nilFunc))
theorem ty120 : tyB Try.prog 120 true 3 = true := by kernel_rfl
theorem ze120 : zeroIs Try.prog 120 (.agg #[.slice none 0 0, .string ⟨#[]⟩, .slice none 0 0]) := (by kernel_rfl : (Try.prog.info? 120).bind (·.zero) = some (.agg #[.slice none 0 0, .string ⟨#[]⟩, .slice none 0 0]))
theorem fl120_0 : fldB Try.prog 120 0 0 = true := by kernel_rfl
theorem fl120_1 : fldB Try.prog 120 1 1 = true := by kernel_rfl
theorem fl120_2 : fldB Try.prog 120 2 2 = true := by kernel_rfl
theorem bp120 : bplB Try.prog 120 [(0, 1), (1, 1), (2, 1)] = true := by kernel_rfl
theorem fn6 : fnB Try.prog 6 = true := by kernel_rfl
theorem fn8 : fnB Try.prog 8 = true := by kernel_rfl
theorem fn10 : fnB Try.prog 10 = true := by kernel_rfl
theorem fn11 : fnB Try.prog 11 = true := by kernel_rfl
theorem fn13 : fnB Try.prog 13 = true := by kernel_rfl
theorem fn14 : fnB Try.prog 14 = true := by kernel_rfl
theorem fn15 : fnB Try.prog 15 = true := by kernel_rfl
theorem fn16 : fnB Try.prog 16 = true := by kernel_rfl
theorem fn17 : fnB Try.prog 17 = true := by kernel_rfl
theorem fn18 : fnB Try.prog 18 = true := by kernel_rfl
theorem fn19 : fnB Try.prog 19 = true := by kernel_rfl
theorem fn22 : fnB Try.prog 22 = true := by kernel_rfl
theorem fn23 : fnB Try.prog 23 = true := by kernel_rfl
theorem fn24 : fnB Try.prog 24 = true := by kernel_rfl
theorem fn25 : fnB Try.prog 25 = true := by kernel_rfl
theorem fn26 : fnB Try.prog 26 = true := by kernel_rfl
theorem fn27 : fnB Try.prog 27 = true := by kernel_rfl
theorem fn28 : fnB Try.prog 28 = true := by kernel_rfl
theorem fn29 : fnB Try.prog 29 = true := by kernel_rfl
theorem fn30 : fnB Try.prog 30 = true := by kernel_rfl
theorem fn31 : fnB Try.prog 31 = true := by kernel_rfl
theorem fn32 : fnB Try.prog 32 = true := by kernel_rfl
theorem fn33 : fnB Try.prog 33 = true := by kernel_rfl
theorem fn36 : fnB Try.prog 36 = true := by kernel_rfl
theorem fn37 : fnB Try.prog 37 = true := by kernel_rfl
theorem fn38 : fnB Try.prog 38 = true := by kernel_rfl
theorem fn39 : fnB Try.prog 39 = true := by kernel_rfl
theorem fn40 : fnB Try.prog 40 = true := by kernel_rfl
theorem fn41 : fnB Try.prog 41 = true := by kernel_rfl
theorem fn42 : fnB Try.prog 42 = true := by kernel_rfl
theorem fn43 : fnB Try.prog 43 = true := by kernel_rfl
theorem fn44 : fnB Try.prog 44 = true := by kernel_rfl
theorem fn45 : fnB Try.prog 45 = true := by kernel_rfl
theorem fn46 : fnB Try.prog 46 = true := by kernel_rfl
theorem fn47 : fnB Try.prog 47 = true := by kernel_rfl
theorem fn48 : fnB Try.prog 48 = true := by kernel_rfl
theorem fn49 : fnB Try.prog 49 = true := by kernel_rfl
theorem fn50 : fnB Try.prog 50 = true := by kernel_rfl
theorem fn51 : fnB Try.prog 51 = true := by kernel_rfl
theorem fn52 : fnB Try.prog 52 = true := by kernel_rfl
theorem fn53 : fnB Try.prog 53 = true := by kernel_rfl
theorem fn54 : fnB Try.prog 54 = true := by kernel_rfl
theorem fn55 : fnB Try.prog 55 = true := by kernel_rfl
theorem fn56 : fnB Try.prog 56 = true := by kernel_rfl
theorem fn57 : fnB Try.prog 57 = true := by kernel_rfl
theorem fn58 : fnB Try.prog 58 = true := by kernel_rfl
theorem fn59 : fnB Try.prog 59 = true := by kernel_rfl
theorem fn60 : fnB Try.prog 60 = true := by kernel_rfl
theorem fn63 : fnB Try.prog 63 = true := by kernel_rfl
theorem fn64 : fnB Try.prog 64 = true := by kernel_rfl
theorem fn65 : fnB Try.prog 65 = true := by kernel_rfl
theorem fn66 : fnB Try.prog 66 = true := by kernel_rfl
theorem fn67 : fnB Try.prog 67 = true := by kernel_rfl
theorem fn68 : fnB Try.prog 68 = true := by kernel_rfl
theorem fn69 : fnB Try.prog 69 = true := by kernel_rfl
theorem fn70 : fnB Try.prog 70 = true := by kernel_rfl
theorem fn71 : fnB Try.prog 71 = true := by kernel_rfl
theorem fn72 : fnB Try.prog 72 = true := by kernel_rfl
theorem fn73 : fnB Try.prog 73 = true := by kernel_rfl
theorem fn74 : fnB Try.prog 74 = true := by kernel_rfl
theorem fn75 : fnB Try.prog 75 = true := by kernel_rfl
theorem fn76 : fnB Try.prog 76 = true := by kernel_rfl
theorem fn77 : fnB Try.prog 77 = true := by kernel_rfl
theorem fn78 : fnB Try.prog 78 = true := by kernel_rfl
theorem fn90 : fnB Try.prog 90 = true := by kernel_rfl
theorem fn91 : fnB Try.prog 91 = true := by kernel_rfl
theorem fn92 : fnB Try.prog 92 = true := by kernel_rfl
theorem fn93 : fnB Try.prog 93 = true := by kernel_rfl
theorem fn94 : fnB Try.prog 94 = true := by kernel_rfl
theorem fn95 : fnB Try.prog 95 = true := by kernel_rfl
theorem fn96 : fnB Try.prog 96 = true := by kernel_rfl
theorem fn97 : fnB Try.prog 97 = true := by kernel_rfl
theorem fn98 : fnB Try.prog 98 = true := by kernel_rfl
theorem fn99 : fnB Try.prog 99 = true := by kernel_rfl
theorem fn100 : fnB Try.prog 100 = true := by kernel_rfl
theorem fn107 : fnB Try.prog 107 = true := by kernel_rfl
theorem fn108 : fnB Try.prog 108 = true := by kernel_rfl
theorem fn109 : fnB Try.prog 109 = true := by kernel_rfl
end Go.Proofs.Ytihlgigaejhilaa.Fx
