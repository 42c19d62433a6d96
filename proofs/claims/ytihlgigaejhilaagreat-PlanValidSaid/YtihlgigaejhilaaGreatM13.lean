/- Parts of the proof, one after the other: Fx. No condition. -/
import Derived.Test.YtihlgigaejhilaaGreatM12
import Derived.Test.YtihlgigaejhilaaGreatProg
/- Closed facts on the types and functions of the program. -/
namespace Go.Proofs.YtihlgigaejhilaaGreat.Fx
open Go.Proofs.YtihlgigaejhilaaGreat.E
theorem mo : Tryz.prog.follows .mixedOrders = true := by kernel_rfl
theorem ty2 : tyB Tryz.prog 2 false 1 = true := by kernel_rfl
theorem ty3 : tyB Tryz.prog 3 false 1 = true := by kernel_rfl
theorem ze3 : zeroIs Tryz.prog 3 (.int .i64 0) := (by kernel_rfl : (Tryz.prog.info? 3).bind (·.zero) = some (.int .i64 0))
theorem ty4 : tyB Tryz.prog 4 false 1 = true := by kernel_rfl
theorem un4 : Tryz.prog.underlying 4 = some .bool := by kernel_rfl
theorem ty9 : tyB Tryz.prog 9 false 1 = true := by kernel_rfl
theorem un9 : Tryz.prog.underlying 9 = some .string := by kernel_rfl
theorem ty23 : tyB Tryz.prog 23 false 1 = true := by kernel_rfl
theorem sl23 : slB Tryz.prog 23 72 5 = true := by kernel_rfl
theorem el23 : elB Tryz.prog 23 72 5 112 = true := by kernel_rfl
theorem un23 : Tryz.prog.underlying 23 = some (.slice 72) := by kernel_rfl
theorem ty24 : tyB Tryz.prog 24 false 1 = true := by kernel_rfl
theorem sl24 : slB Tryz.prog 24 3 1 = true := by kernel_rfl
theorem el24 : elB Tryz.prog 24 3 1 8 = true := by kernel_rfl
theorem un24 : Tryz.prog.underlying 24 = some (.slice 3) := by kernel_rfl
theorem ty25 : tyB Tryz.prog 25 false 1 = true := by kernel_rfl
theorem sl25 : slB Tryz.prog 25 9 1 = true := by kernel_rfl
theorem el25 : elB Tryz.prog 25 9 1 16 = true := by kernel_rfl
theorem un25 : Tryz.prog.underlying 25 = some (.slice 9) := by kernel_rfl
theorem ty27 : tyB Tryz.prog 27 true 3 = true := by kernel_rfl
theorem ze27 : zeroIs Tryz.prog 27 (.agg #[.int .i64 0, .int .i64 0, .string ⟨#[]⟩]) := (by kernel_rfl : (Tryz.prog.info? 27).bind (·.zero) = some (.agg #[.int .i64 0, .int .i64 0, .string ⟨#[]⟩]))
theorem fl27_2 : fldB Tryz.prog 27 2 2 = true := by kernel_rfl
theorem bp27 : bplB Tryz.prog 27 [(0, 1), (1, 1), (2, 1)] = true := by kernel_rfl
theorem ty28 : tyB Tryz.prog 28 false 1 = true := by kernel_rfl
theorem sl28 : slB Tryz.prog 28 30 8 = true := by kernel_rfl
theorem el28 : elB Tryz.prog 28 30 8 104 = true := by kernel_rfl
theorem un28 : Tryz.prog.underlying 28 = some (.slice 30) := by kernel_rfl
theorem ty30 : tyB Tryz.prog 30 true 8 = true := by kernel_rfl
theorem ze30 : zeroIs Tryz.prog 30 (.agg #[.int .i64 0, .string ⟨#[]⟩, .string ⟨#[]⟩, .int .i64 0, .int .i64 0, .int .i64 0, .string ⟨#[]⟩, .slice none 0 0]) := (by kernel_rfl : (Tryz.prog.info? 30).bind (·.zero) = some (.agg #[.int .i64 0, .string ⟨#[]⟩, .string ⟨#[]⟩, .int .i64 0, .int .i64 0, .int .i64 0, .string ⟨#[]⟩, .slice none 0 0]))
theorem fl30_0 : fldB Tryz.prog 30 0 0 = true := by kernel_rfl
theorem fl30_1 : fldB Tryz.prog 30 1 1 = true := by kernel_rfl
theorem fl30_2 : fldB Tryz.prog 30 2 2 = true := by kernel_rfl
theorem fl30_3 : fldB Tryz.prog 30 3 3 = true := by kernel_rfl
theorem fl30_4 : fldB Tryz.prog 30 4 4 = true := by kernel_rfl
theorem fl30_5 : fldB Tryz.prog 30 5 7 = true := by kernel_rfl
theorem bp30 : bplB Tryz.prog 30 [(0, 1), (1, 1), (2, 1), (3, 1), (4, 3), (7, 1)] = true := by kernel_rfl
theorem ty32 : tyB Tryz.prog 32 true 11 = true := by kernel_rfl
theorem ze32 : zeroIs Tryz.prog 32 (.agg #[.slice none 0 0, .slice none 0 0, .slice none 0 0, .int .i64 0, .string ⟨#[]⟩, .string ⟨#[]⟩, .int .i64 0, .int .i64 0, .int .i64 0, .string ⟨#[]⟩, .slice none 0 0]) := (by kernel_rfl : (Tryz.prog.info? 32).bind (·.zero) = some (.agg #[.slice none 0 0, .slice none 0 0, .slice none 0 0, .int .i64 0, .string ⟨#[]⟩, .string ⟨#[]⟩, .int .i64 0, .int .i64 0, .int .i64 0, .string ⟨#[]⟩, .slice none 0 0]))
theorem fl32_0 : fldB Tryz.prog 32 0 0 = true := by kernel_rfl
theorem fl32_1 : fldB Tryz.prog 32 1 1 = true := by kernel_rfl
theorem fl32_2 : fldB Tryz.prog 32 2 2 = true := by kernel_rfl
theorem fl32_3 : fldB Tryz.prog 32 3 3 = true := by kernel_rfl
theorem bp32 : bplB Tryz.prog 32 [(0, 1), (1, 1), (2, 1), (3, 8)] = true := by kernel_rfl
theorem ty33 : tyB Tryz.prog 33 false 1 = true := by kernel_rfl
theorem sl33 : slB Tryz.prog 33 35 13 = true := by kernel_rfl
theorem el33 : elB Tryz.prog 33 35 13 192 = true := by kernel_rfl
theorem un33 : Tryz.prog.underlying 33 = some (.slice 35) := by kernel_rfl
theorem ty35 : tyB Tryz.prog 35 true 13 = true := by kernel_rfl
theorem ze35 : zeroIs Tryz.prog 35 (.agg #[.int .i64 0, .int .i64 0, .slice none 0 0, .slice none 0 0, .int .i64 0, .string ⟨#[]⟩, .string ⟨#[]⟩, .int .i64 0, .int .i64 0, .int .i64 0, .string ⟨#[]⟩, .slice none 0 0, .slice none 0 0]) := (by kernel_rfl : (Tryz.prog.info? 35).bind (·.zero) = some (.agg #[.int .i64 0, .int .i64 0, .slice none 0 0, .slice none 0 0, .int .i64 0, .string ⟨#[]⟩, .string ⟨#[]⟩, .int .i64 0, .int .i64 0, .int .i64 0, .string ⟨#[]⟩, .slice none 0 0, .slice none 0 0]))
theorem fl35_0 : fldB Tryz.prog 35 0 0 = true := by kernel_rfl
theorem fl35_1 : fldB Tryz.prog 35 1 1 = true := by kernel_rfl
theorem fl35_2 : fldB Tryz.prog 35 2 2 = true := by kernel_rfl
theorem fl35_3 : fldB Tryz.prog 35 3 3 = true := by kernel_rfl
theorem fl35_4 : fldB Tryz.prog 35 4 4 = true := by kernel_rfl
theorem fl35_5 : fldB Tryz.prog 35 5 12 = true := by kernel_rfl
theorem bp35 : bplB Tryz.prog 35 [(0, 1), (1, 1), (2, 1), (3, 1), (4, 8), (12, 1)] = true := by kernel_rfl
theorem ty36 : tyB Tryz.prog 36 false 1 = true := by kernel_rfl
theorem sl36 : slB Tryz.prog 36 119 6 = true := by kernel_rfl
theorem el36 : elB Tryz.prog 36 119 6 56 = true := by kernel_rfl
theorem un36 : Tryz.prog.underlying 36 = some (.slice 119) := by kernel_rfl
theorem ty37 : tyB Tryz.prog 37 false 1 = true := by kernel_rfl
theorem sl37 : slB Tryz.prog 37 25 1 = true := by kernel_rfl
theorem el37 : elB Tryz.prog 37 25 1 24 = true := by kernel_rfl
theorem un37 : Tryz.prog.underlying 37 = some (.slice 25) := by kernel_rfl
theorem ty38 : tyB Tryz.prog 38 false 1 = true := by kernel_rfl
theorem sl38 : slB Tryz.prog 38 142 3 = true := by kernel_rfl
theorem el38 : elB Tryz.prog 38 142 3 64 = true := by kernel_rfl
theorem un38 : Tryz.prog.underlying 38 = some (.slice 142) := by kernel_rfl
theorem ty40 : tyB Tryz.prog 40 true 4 = true := by kernel_rfl
theorem ze40 : zeroIs Tryz.prog 40 (.agg #[.slice none 0 0, .slice none 0 0, .slice none 0 0, .slice none 0 0]) := (by kernel_rfl : (Tryz.prog.info? 40).bind (·.zero) = some (.agg #[.slice none 0 0, .slice none 0 0, .slice none 0 0, .slice none 0 0]))
theorem fl40_0 : fldB Tryz.prog 40 0 0 = true := by kernel_rfl
theorem fl40_1 : fldB Tryz.prog 40 1 1 = true := by kernel_rfl
theorem fl40_2 : fldB Tryz.prog 40 2 2 = true := by kernel_rfl
theorem fl40_3 : fldB Tryz.prog 40 3 3 = true := by kernel_rfl
theorem bp40 : bplB Tryz.prog 40 [(0, 1), (1, 1), (2, 1), (3, 1)] = true := by kernel_rfl
theorem ty44 : tyB Tryz.prog 44 false 1 = true := by kernel_rfl
theorem el44 : elB Tryz.prog 44 74 2 32 = true := by kernel_rfl
theorem ty47 : tyB Tryz.prog 47 true 22 = true := by kernel_rfl
theorem ze47 : zeroIs Tryz.prog 47 (.agg #[.int .i64 0, .string ⟨#[]⟩, .slice none 0 0, .slice none 0 0, .slice none 0 0, .slice none 0 0, .slice none 0 0, .slice none 0 0, .slice none 0 0, .slice none 0 0, .int .i64 0, .string ⟨#[]⟩, .string ⟨#[]⟩, .int .i64 0, .int .i64 0, .int .i64 0, .string ⟨#[]⟩, .slice none 0 0, .slice none 0 0, .slice none 0 0, .int .i64 0, .string ⟨#[]⟩]) := (by kernel_rfl : (Tryz.prog.info? 47).bind (·.zero) = some (.agg #[.int .i64 0, .string ⟨#[]⟩, .slice none 0 0, .slice none 0 0, .slice none 0 0, .slice none 0 0, .slice none 0 0, .slice none 0 0, .slice none 0 0, .slice none 0 0, .int .i64 0, .string ⟨#[]⟩, .string ⟨#[]⟩, .int .i64 0, .int .i64 0, .int .i64 0, .string ⟨#[]⟩, .slice none 0 0, .slice none 0 0, .slice none 0 0, .int .i64 0, .string ⟨#[]⟩]))
theorem fl47_0 : fldB Tryz.prog 47 0 0 = true := by kernel_rfl
theorem fl47_1 : fldB Tryz.prog 47 1 1 = true := by kernel_rfl
theorem fl47_2 : fldB Tryz.prog 47 2 2 = true := by kernel_rfl
theorem fl47_6 : fldB Tryz.prog 47 6 9 = true := by kernel_rfl
theorem fl47_7 : fldB Tryz.prog 47 7 10 = true := by kernel_rfl
theorem bp47 : bplB Tryz.prog 47 [(0, 1), (1, 1), (2, 4), (6, 1), (7, 1), (8, 1), (9, 1), (10, 8), (18, 1), (19, 1), (20, 1), (21, 1)] = true := by kernel_rfl
theorem ty48 : tyB Tryz.prog 48 false 1 = true := by kernel_rfl
theorem el48 : elB Tryz.prog 48 121 5 40 = true := by kernel_rfl
theorem ty51 : tyB Tryz.prog 51 true 26 = true := by kernel_rfl
theorem ze51 : zeroIs Tryz.prog 51 (.agg #[.int .i64 0, .string ⟨#[]⟩, .slice none 0 0, .slice none 0 0, .slice none 0 0, .slice none 0 0, .slice none 0 0, .slice none 0 0, .slice none 0 0, .slice none 0 0, .int .i64 0, .string ⟨#[]⟩, .string ⟨#[]⟩, .int .i64 0, .int .i64 0, .int .i64 0, .string ⟨#[]⟩, .slice none 0 0, .slice none 0 0, .slice none 0 0, .int .i64 0, .string ⟨#[]⟩, .int .i64 0, .slice none 0 0, .slice none 0 0, .slice none 0 0]) := (by kernel_rfl : (Tryz.prog.info? 51).bind (·.zero) = some (.agg #[.int .i64 0, .string ⟨#[]⟩, .slice none 0 0, .slice none 0 0, .slice none 0 0, .slice none 0 0, .slice none 0 0, .slice none 0 0, .slice none 0 0, .slice none 0 0, .int .i64 0, .string ⟨#[]⟩, .string ⟨#[]⟩, .int .i64 0, .int .i64 0, .int .i64 0, .string ⟨#[]⟩, .slice none 0 0, .slice none 0 0, .slice none 0 0, .int .i64 0, .string ⟨#[]⟩, .int .i64 0, .slice none 0 0, .slice none 0 0, .slice none 0 0]))
theorem fl51_0 : fldB Tryz.prog 51 0 0 = true := by kernel_rfl
theorem fl51_2 : fldB Tryz.prog 51 2 23 = true := by kernel_rfl
theorem fl51_3 : fldB Tryz.prog 51 3 24 = true := by kernel_rfl
theorem bp51 : bplB Tryz.prog 51 [(0, 22), (22, 1), (23, 1), (24, 1), (25, 1)] = true := by kernel_rfl
theorem ty69 : tyB Tryz.prog 69 false 1 = true := by kernel_rfl
theorem sl69 : slB Tryz.prog 69 24 1 = true := by kernel_rfl
theorem el69 : elB Tryz.prog 69 24 1 24 = true := by kernel_rfl
theorem un69 : Tryz.prog.underlying 69 = some (.slice 24) := by kernel_rfl
theorem ty70 : tyB Tryz.prog 70 false 1 = true := by kernel_rfl
theorem sl70 : slB Tryz.prog 70 112 3 = true := by kernel_rfl
theorem el70 : elB Tryz.prog 70 112 3 40 = true := by kernel_rfl
theorem un70 : Tryz.prog.underlying 70 = some (.slice 112) := by kernel_rfl
theorem ty72 : tyB Tryz.prog 72 true 5 = true := by kernel_rfl
theorem ze72 : zeroIs Tryz.prog 72 (.agg #[.string ⟨#[]⟩, .slice none 0 0, .slice none 0 0, .slice none 0 0, .slice none 0 0]) := (by kernel_rfl : (Tryz.prog.info? 72).bind (·.zero) = some (.agg #[.string ⟨#[]⟩, .slice none 0 0, .slice none 0 0, .slice none 0 0, .slice none 0 0]))
theorem fl72_0 : fldB Tryz.prog 72 0 0 = true := by kernel_rfl
theorem fl72_1 : fldB Tryz.prog 72 1 1 = true := by kernel_rfl
theorem fl72_2 : fldB Tryz.prog 72 2 2 = true := by kernel_rfl
theorem fl72_3 : fldB Tryz.prog 72 3 3 = true := by kernel_rfl
theorem fl72_4 : fldB Tryz.prog 72 4 4 = true := by kernel_rfl
theorem bp72 : bplB Tryz.prog 72 [(0, 1), (1, 1), (2, 1), (3, 1), (4, 1)] = true := by kernel_rfl
theorem ze74 : zeroIs Tryz.prog 74 (.agg #[.string ⟨#[]⟩, .string ⟨#[]⟩]) := (by kernel_rfl : (Tryz.prog.info? 74).bind (·.zero) = some (.agg #[.string ⟨#[]⟩, .string ⟨#[]⟩]))
theorem bp74 : bplB Tryz.prog 74 [(0, 1), (1, 1)] = true := by kernel_rfl
theorem ty80 : tyB Tryz.prog 80 false 1 = true := by kernel_rfl
theorem ze80 : zeroIs Tryz.prog 80 (.slice none 0 0) := (by kernel_rfl : (Tryz.prog.info? 80).bind (·.zero) = some (.slice none 0 0))
theorem sl80 : slB Tryz.prog 80 88 2 = true := by kernel_rfl
theorem el80 : elB Tryz.prog 80 88 2 16 = true := by kernel_rfl
theorem un80 : Tryz.prog.underlying 80 = some (.slice 88) := by kernel_rfl
theorem ty82 : tyB Tryz.prog 82 false 1 = true := by kernel_rfl
theorem ze84 : zeroIs Tryz.prog 84 (.agg #[.slice none 0 0, .int .i64 0, .string ⟨#[]⟩, .slice none 0 0, .slice none 0 0, .slice none 0 0, .slice none 0 0, .slice none 0 0, .slice none 0 0, .slice none 0 0, .slice none 0 0, .int .i64 0, .string ⟨#[]⟩, .string ⟨#[]⟩, .int .i64 0, .int .i64 0, .int .i64 0, .string ⟨#[]⟩, .slice none 0 0, .slice none 0 0, .slice none 0 0, .int .i64 0, .string ⟨#[]⟩, .int .i64 0, .slice none 0 0, .slice none 0 0, .slice none 0 0]) := (by kernel_rfl : (Tryz.prog.info? 84).bind (·.zero) = some (.agg #[.slice none 0 0, .int .i64 0, .string ⟨#[]⟩, .slice none 0 0, .slice none 0 0, .slice none 0 0, .slice none 0 0, .slice none 0 0, .slice none 0 0, .slice none 0 0, .slice none 0 0, .int .i64 0, .string ⟨#[]⟩, .string ⟨#[]⟩, .int .i64 0, .int .i64 0, .int .i64 0, .string ⟨#[]⟩, .slice none 0 0, .slice none 0 0, .slice none 0 0, .int .i64 0, .string ⟨#[]⟩, .int .i64 0, .slice none 0 0, .slice none 0 0, .slice none 0 0]))
theorem fl84_0 : fldB Tryz.prog 84 0 0 = true := by kernel_rfl
theorem fl84_1 : fldB Tryz.prog 84 1 1 = true := by kernel_rfl
theorem bp84 : bplB Tryz.prog 84 [(0, 1), (1, 26)] = true := by kernel_rfl
theorem ty88 : tyB Tryz.prog 88 true 2 = true := by kernel_rfl
theorem ze88 : zeroIs Tryz.prog 88 (.agg #[.int .i64 0, .bool false]) := (by kernel_rfl : (Tryz.prog.info? 88).bind (·.zero) = some (.agg #[.int .i64 0, .bool false]))
theorem fl88_0 : fldB Tryz.prog 88 0 0 = true := by kernel_rfl
theorem fl88_1 : fldB Tryz.prog 88 1 1 = true := by kernel_rfl
theorem bp88 : bplB Tryz.prog 88 [(0, 1), (1, 1)] = true := by kernel_rfl
theorem sl90 : slB Tryz.prog 90 95 11 = true := by kernel_rfl
theorem el90 : elB Tryz.prog 90 95 11 128 = true := by kernel_rfl
theorem un90 : Tryz.prog.underlying 90 = some (.slice 95) := by kernel_rfl
theorem ty95 : tyB Tryz.prog 95 true 11 = true := by kernel_rfl
theorem ze95 : zeroIs Tryz.prog 95 (.agg #[.bool false, .int .i64 0, .int .i64 0, .int .i64 0, .string ⟨#[]⟩, .string ⟨#[]⟩, .int .i64 0, .int .i64 0, .int .i64 0, .string ⟨#[]⟩, .slice none 0 0]) := (by kernel_rfl : (Tryz.prog.info? 95).bind (·.zero) = some (.agg #[.bool false, .int .i64 0, .int .i64 0, .int .i64 0, .string ⟨#[]⟩, .string ⟨#[]⟩, .int .i64 0, .int .i64 0, .int .i64 0, .string ⟨#[]⟩, .slice none 0 0]))
theorem fl95_0 : fldB Tryz.prog 95 0 0 = true := by kernel_rfl
theorem fl95_1 : fldB Tryz.prog 95 1 1 = true := by kernel_rfl
theorem fl95_2 : fldB Tryz.prog 95 2 2 = true := by kernel_rfl
theorem fl95_3 : fldB Tryz.prog 95 3 3 = true := by kernel_rfl
theorem bp95 : bplB Tryz.prog 95 [(0, 1), (1, 1), (2, 1), (3, 8)] = true := by kernel_rfl
theorem sl109 : slB Tryz.prog 109 47 22 = true := by kernel_rfl
theorem el109 : elB Tryz.prog 109 47 22 392 = true := by kernel_rfl
theorem un109 : Tryz.prog.underlying 109 = some (.slice 47) := by kernel_rfl
theorem ty112 : tyB Tryz.prog 112 true 3 = true := by kernel_rfl
theorem ze112 : zeroIs Tryz.prog 112 (.agg #[.slice none 0 0, .int .i64 0, .int .i64 0]) := (by kernel_rfl : (Tryz.prog.info? 112).bind (·.zero) = some (.agg #[.slice none 0 0, .int .i64 0, .int .i64 0]))
theorem fl112_0 : fldB Tryz.prog 112 0 0 = true := by kernel_rfl
theorem fl112_1 : fldB Tryz.prog 112 1 1 = true := by kernel_rfl
theorem fl112_2 : fldB Tryz.prog 112 2 2 = true := by kernel_rfl
theorem bp112 : bplB Tryz.prog 112 [(0, 1), (1, 1), (2, 1)] = true := by kernel_rfl
theorem ty119 : tyB Tryz.prog 119 true 6 = true := by kernel_rfl
theorem ze119 : zeroIs Tryz.prog 119 (.agg #[.string ⟨#[]⟩, .int .i64 0, .int .i64 0, .int .i64 0, .int .i64 0, .bool false]) := (by kernel_rfl : (Tryz.prog.info? 119).bind (·.zero) = some (.agg #[.string ⟨#[]⟩, .int .i64 0, .int .i64 0, .int .i64 0, .int .i64 0, .bool false]))
theorem fl119_0 : fldB Tryz.prog 119 0 0 = true := by kernel_rfl
theorem fl119_1 : fldB Tryz.prog 119 1 1 = true := by kernel_rfl
theorem fl119_2 : fldB Tryz.prog 119 2 2 = true := by kernel_rfl
theorem fl119_3 : fldB Tryz.prog 119 3 3 = true := by kernel_rfl
theorem fl119_4 : fldB Tryz.prog 119 4 4 = true := by kernel_rfl
theorem fl119_5 : fldB Tryz.prog 119 5 5 = true := by kernel_rfl
theorem bp119 : bplB Tryz.prog 119 [(0, 1), (1, 1), (2, 1), (3, 1), (4, 1), (5, 1)] = true := by kernel_rfl
theorem ze121 : zeroIs Tryz.prog 121 (.agg #[.int .i64 0, .int .i64 0, .int .i64 0, .int .i64 0, .bool false]) := (by kernel_rfl : (Tryz.prog.info? 121).bind (·.zero) = some (.agg #[.int .i64 0, .int .i64 0, .int .i64 0, .int .i64 0, .bool false]))
theorem bp121 : bplB Tryz.prog 121 [(0, 1), (1, 1), (2, 1), (3, 1), (4, 1)] = true := by kernel_rfl
theorem ty128 : tyB Tryz.prog 128 false 1 = true := by kernel_rfl
theorem ze128 : zeroIs Tryz.prog 128 (.nilFunc) := (by kernel_rfl : (Tryz.prog.info? 128).bind (·.zero) = some (.nilFunc))
theorem ty142 : tyB Tryz.prog 142 true 3 = true := by kernel_rfl
theorem ze142 : zeroIs Tryz.prog 142 (.agg #[.slice none 0 0, .string ⟨#[]⟩, .slice none 0 0]) := (by kernel_rfl : (Tryz.prog.info? 142).bind (·.zero) = some (.agg #[.slice none 0 0, .string ⟨#[]⟩, .slice none 0 0]))
theorem fl142_0 : fldB Tryz.prog 142 0 0 = true := by kernel_rfl
theorem fl142_1 : fldB Tryz.prog 142 1 1 = true := by kernel_rfl
theorem fl142_2 : fldB Tryz.prog 142 2 2 = true := by kernel_rfl
theorem bp142 : bplB Tryz.prog 142 [(0, 1), (1, 1), (2, 1)] = true := by kernel_rfl
theorem fn6 : fnB Tryz.prog 6 = true := by kernel_rfl
theorem fn7 : fnB Tryz.prog 7 = true := by kernel_rfl
theorem fn8 : fnB Tryz.prog 8 = true := by kernel_rfl
theorem fn9 : fnB Tryz.prog 9 = true := by kernel_rfl
theorem fn10 : fnB Tryz.prog 10 = true := by kernel_rfl
theorem fn11 : fnB Tryz.prog 11 = true := by kernel_rfl
theorem fn12 : fnB Tryz.prog 12 = true := by kernel_rfl
theorem fn14 : fnB Tryz.prog 14 = true := by kernel_rfl
theorem fn16 : fnB Tryz.prog 16 = true := by kernel_rfl
theorem fn19 : fnB Tryz.prog 19 = true := by kernel_rfl
theorem fn20 : fnB Tryz.prog 20 = true := by kernel_rfl
theorem fn21 : fnB Tryz.prog 21 = true := by kernel_rfl
theorem fn22 : fnB Tryz.prog 22 = true := by kernel_rfl
theorem fn23 : fnB Tryz.prog 23 = true := by kernel_rfl
theorem fn24 : fnB Tryz.prog 24 = true := by kernel_rfl
theorem fn25 : fnB Tryz.prog 25 = true := by kernel_rfl
theorem fn26 : fnB Tryz.prog 26 = true := by kernel_rfl
theorem fn27 : fnB Tryz.prog 27 = true := by kernel_rfl
theorem fn28 : fnB Tryz.prog 28 = true := by kernel_rfl
theorem fn29 : fnB Tryz.prog 29 = true := by kernel_rfl
theorem fn30 : fnB Tryz.prog 30 = true := by kernel_rfl
theorem fn31 : fnB Tryz.prog 31 = true := by kernel_rfl
theorem fn32 : fnB Tryz.prog 32 = true := by kernel_rfl
theorem fn35 : fnB Tryz.prog 35 = true := by kernel_rfl
theorem fn36 : fnB Tryz.prog 36 = true := by kernel_rfl
theorem fn37 : fnB Tryz.prog 37 = true := by kernel_rfl
theorem fn39 : fnB Tryz.prog 39 = true := by kernel_rfl
theorem fn43 : fnB Tryz.prog 43 = true := by kernel_rfl
theorem fn44 : fnB Tryz.prog 44 = true := by kernel_rfl
theorem fn45 : fnB Tryz.prog 45 = true := by kernel_rfl
theorem fn46 : fnB Tryz.prog 46 = true := by kernel_rfl
theorem fn47 : fnB Tryz.prog 47 = true := by kernel_rfl
theorem fn48 : fnB Tryz.prog 48 = true := by kernel_rfl
theorem fn49 : fnB Tryz.prog 49 = true := by kernel_rfl
theorem fn50 : fnB Tryz.prog 50 = true := by kernel_rfl
theorem fn51 : fnB Tryz.prog 51 = true := by kernel_rfl
theorem fn52 : fnB Tryz.prog 52 = true := by kernel_rfl
theorem fn53 : fnB Tryz.prog 53 = true := by kernel_rfl
theorem fn54 : fnB Tryz.prog 54 = true := by kernel_rfl
theorem fn55 : fnB Tryz.prog 55 = true := by kernel_rfl
theorem fn56 : fnB Tryz.prog 56 = true := by kernel_rfl
theorem fn57 : fnB Tryz.prog 57 = true := by kernel_rfl
theorem fn58 : fnB Tryz.prog 58 = true := by kernel_rfl
theorem fn59 : fnB Tryz.prog 59 = true := by kernel_rfl
theorem fn60 : fnB Tryz.prog 60 = true := by kernel_rfl
theorem fn61 : fnB Tryz.prog 61 = true := by kernel_rfl
theorem fn62 : fnB Tryz.prog 62 = true := by kernel_rfl
theorem fn63 : fnB Tryz.prog 63 = true := by kernel_rfl
theorem fn64 : fnB Tryz.prog 64 = true := by kernel_rfl
theorem fn65 : fnB Tryz.prog 65 = true := by kernel_rfl
theorem fn66 : fnB Tryz.prog 66 = true := by kernel_rfl
theorem fn67 : fnB Tryz.prog 67 = true := by kernel_rfl
theorem fn68 : fnB Tryz.prog 68 = true := by kernel_rfl
theorem fn73 : fnB Tryz.prog 73 = true := by kernel_rfl
theorem fn74 : fnB Tryz.prog 74 = true := by kernel_rfl
theorem fn80 : fnB Tryz.prog 80 = true := by kernel_rfl
theorem fn81 : fnB Tryz.prog 81 = true := by kernel_rfl
theorem fn82 : fnB Tryz.prog 82 = true := by kernel_rfl
theorem fn83 : fnB Tryz.prog 83 = true := by kernel_rfl
theorem fn84 : fnB Tryz.prog 84 = true := by kernel_rfl
theorem fn85 : fnB Tryz.prog 85 = true := by kernel_rfl
theorem fn86 : fnB Tryz.prog 86 = true := by kernel_rfl
theorem fn87 : fnB Tryz.prog 87 = true := by kernel_rfl
theorem fn88 : fnB Tryz.prog 88 = true := by kernel_rfl
theorem fn91 : fnB Tryz.prog 91 = true := by kernel_rfl
theorem fn92 : fnB Tryz.prog 92 = true := by kernel_rfl
theorem fn95 : fnB Tryz.prog 95 = true := by kernel_rfl
theorem fn102 : fnB Tryz.prog 102 = true := by kernel_rfl
theorem fn103 : fnB Tryz.prog 103 = true := by kernel_rfl
theorem fn104 : fnB Tryz.prog 104 = true := by kernel_rfl
theorem fn105 : fnB Tryz.prog 105 = true := by kernel_rfl
theorem fn106 : fnB Tryz.prog 106 = true := by kernel_rfl
theorem fn107 : fnB Tryz.prog 107 = true := by kernel_rfl
theorem fn108 : fnB Tryz.prog 108 = true := by kernel_rfl
theorem fn109 : fnB Tryz.prog 109 = true := by kernel_rfl
theorem fn110 : fnB Tryz.prog 110 = true := by kernel_rfl
theorem fn111 : fnB Tryz.prog 111 = true := by kernel_rfl
theorem fn112 : fnB Tryz.prog 112 = true := by kernel_rfl
theorem fn113 : fnB Tryz.prog 113 = true := by kernel_rfl
theorem fn114 : fnB Tryz.prog 114 = true := by kernel_rfl
theorem fn115 : fnB Tryz.prog 115 = true := by kernel_rfl
theorem fn116 : fnB Tryz.prog 116 = true := by kernel_rfl
theorem fn117 : fnB Tryz.prog 117 = true := by kernel_rfl
theorem fn134 : fnB Tryz.prog 134 = true := by kernel_rfl
theorem fn135 : fnB Tryz.prog 135 = true := by kernel_rfl
theorem fn136 : fnB Tryz.prog 136 = true := by kernel_rfl
theorem fn137 : fnB Tryz.prog 137 = true := by kernel_rfl
theorem fn138 : fnB Tryz.prog 138 = true := by kernel_rfl
theorem fn139 : fnB Tryz.prog 139 = true := by kernel_rfl
end Go.Proofs.YtihlgigaejhilaaGreat.Fx
