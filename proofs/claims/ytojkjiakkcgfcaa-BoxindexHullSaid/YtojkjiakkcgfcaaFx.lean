/- Closed facts on the types and functions of the program. -/
import Derived.Test.YtojkjiakkcgfcaaE22
import Derived.Test.YtojkjiakkcgfcaaProg
namespace Go.Proofs.Ytojkjiakkcgfcaa.Fx
open Go.Proofs.Ytojkjiakkcgfcaa.E
theorem mo : Try.prog.follows .mixedOrders = true := by kernel_rfl
theorem ty2 : tyB Try.prog 2 false 1 = true := by kernel_rfl
theorem ze2 : zeroIs Try.prog 2 (.int .i64 0) := (by kernel_rfl : (Try.prog.info? 2).bind (·.zero) = some (.int .i64 0))
theorem un2 : Try.prog.underlying 2 = some (.int .i64) := by kernel_rfl
theorem ty3 : tyB Try.prog 3 false 1 = true := by kernel_rfl
theorem ze3 : zeroIs Try.prog 3 (.int .i64 0) := (by kernel_rfl : (Try.prog.info? 3).bind (·.zero) = some (.int .i64 0))
theorem un3 : Try.prog.underlying 3 = some (.int .i64) := by kernel_rfl
theorem ty4 : tyB Try.prog 4 false 1 = true := by kernel_rfl
theorem ze4 : zeroIs Try.prog 4 (.bool false) := (by kernel_rfl : (Try.prog.info? 4).bind (·.zero) = some (.bool false))
theorem un4 : Try.prog.underlying 4 = some .bool := by kernel_rfl
theorem ty5 : tyB Try.prog 5 false 1 = true := by kernel_rfl
theorem ze5 : zeroIs Try.prog 5 (.int .u8 0) := (by kernel_rfl : (Try.prog.info? 5).bind (·.zero) = some (.int .u8 0))
theorem un5 : Try.prog.underlying 5 = some (.int .u8) := by kernel_rfl
theorem ty9 : tyB Try.prog 9 false 1 = true := by kernel_rfl
theorem ze9 : zeroIs Try.prog 9 (.string ⟨#[]⟩) := (by kernel_rfl : (Try.prog.info? 9).bind (·.zero) = some (.string ⟨#[]⟩))
theorem un9 : Try.prog.underlying 9 = some .string := by kernel_rfl
theorem ty12 : tyB Try.prog 12 false 1 = true := by kernel_rfl
theorem ze12 : zeroIs Try.prog 12 (.int .u64 0) := (by kernel_rfl : (Try.prog.info? 12).bind (·.zero) = some (.int .u64 0))
theorem un12 : Try.prog.underlying 12 = some (.int .u64) := by kernel_rfl
theorem ty13 : tyB Try.prog 13 true 2 = true := by kernel_rfl
theorem ze13 : zeroIs Try.prog 13 (.agg #[.string ⟨#[]⟩, .int .u64 0]) := (by kernel_rfl : (Try.prog.info? 13).bind (·.zero) = some (.agg #[.string ⟨#[]⟩, .int .u64 0]))
theorem fl13_0 : fldB Try.prog 13 0 0 = true := by kernel_rfl
theorem fl13_1 : fldB Try.prog 13 1 1 = true := by kernel_rfl
theorem bp13 : bplB Try.prog 13 [(0, 1), (1, 1)] = true := by kernel_rfl
theorem ty19 : tyB Try.prog 19 true 1 = true := by kernel_rfl
theorem ze19 : zeroIs Try.prog 19 (.agg #[.pointer none]) := (by kernel_rfl : (Try.prog.info? 19).bind (·.zero) = some (.agg #[.pointer none]))
theorem fl19_0 : fldB Try.prog 19 0 0 = true := by kernel_rfl
theorem bp19 : bplB Try.prog 19 [(0, 1)] = true := by kernel_rfl
theorem ty21 : tyB Try.prog 21 false 1 = true := by kernel_rfl
theorem ze21 : zeroIs Try.prog 21 (.int .i32 0) := (by kernel_rfl : (Try.prog.info? 21).bind (·.zero) = some (.int .i32 0))
theorem un21 : Try.prog.underlying 21 = some (.int .i32) := by kernel_rfl
theorem ty22 : tyB Try.prog 22 false 1 = true := by kernel_rfl
theorem ze22 : zeroIs Try.prog 22 (.slice none 0 0) := (by kernel_rfl : (Try.prog.info? 22).bind (·.zero) = some (.slice none 0 0))
theorem sl22 : slB Try.prog 22 34 4 = true := by kernel_rfl
theorem el22 : elB Try.prog 22 34 4 48 = true := by kernel_rfl
theorem un22 : Try.prog.underlying 22 = some (.slice 34) := by kernel_rfl
theorem nk22 : nkB Try.prog 22 .sl = true := by kernel_rfl
theorem ty25 : tyB Try.prog 25 false 1 = true := by kernel_rfl
theorem ze25 : zeroIs Try.prog 25 (.pointer none) := (by kernel_rfl : (Try.prog.info? 25).bind (·.zero) = some (.pointer none))
theorem nk25 : nkB Try.prog 25 .pt = true := by kernel_rfl
theorem ty26 : tyB Try.prog 26 false 1 = true := by kernel_rfl
theorem ze26 : zeroIs Try.prog 26 (.slice none 0 0) := (by kernel_rfl : (Try.prog.info? 26).bind (·.zero) = some (.slice none 0 0))
theorem sl26 : slB Try.prog 26 47 3 = true := by kernel_rfl
theorem el26 : elB Try.prog 26 47 3 40 = true := by kernel_rfl
theorem un26 : Try.prog.underlying 26 = some (.slice 47) := by kernel_rfl
theorem nk26 : nkB Try.prog 26 .sl = true := by kernel_rfl
theorem ty30 : tyB Try.prog 30 false 1 = true := by kernel_rfl
theorem ze30 : zeroIs Try.prog 30 (.slice none 0 0) := (by kernel_rfl : (Try.prog.info? 30).bind (·.zero) = some (.slice none 0 0))
theorem sl30 : slB Try.prog 30 67 6 = true := by kernel_rfl
theorem el30 : elB Try.prog 30 67 6 56 = true := by kernel_rfl
theorem un30 : Try.prog.underlying 30 = some (.slice 67) := by kernel_rfl
theorem nk30 : nkB Try.prog 30 .sl = true := by kernel_rfl
theorem ty31 : tyB Try.prog 31 true 2 = true := by kernel_rfl
theorem ze31 : zeroIs Try.prog 31 (.agg #[.int .i64 0, .slice none 0 0]) := (by kernel_rfl : (Try.prog.info? 31).bind (·.zero) = some (.agg #[.int .i64 0, .slice none 0 0]))
theorem fl31_0 : fldB Try.prog 31 0 0 = true := by kernel_rfl
theorem fl31_1 : fldB Try.prog 31 1 1 = true := by kernel_rfl
theorem bp31 : bplB Try.prog 31 [(0, 1), (1, 1)] = true := by kernel_rfl
theorem ty32 : tyB Try.prog 32 true 2 = true := by kernel_rfl
theorem ze32 : zeroIs Try.prog 32 (.agg #[.int .i64 0, .slice none 0 0]) := (by kernel_rfl : (Try.prog.info? 32).bind (·.zero) = some (.agg #[.int .i64 0, .slice none 0 0]))
theorem fl32_0 : fldB Try.prog 32 0 0 = true := by kernel_rfl
theorem fl32_1 : fldB Try.prog 32 1 1 = true := by kernel_rfl
theorem bp32 : bplB Try.prog 32 [(0, 1), (1, 1)] = true := by kernel_rfl
theorem ty33 : tyB Try.prog 33 true 4 = true := by kernel_rfl
theorem ze33 : zeroIs Try.prog 33 (.agg #[.int .u8 0, .int .i64 0, .int .i64 0, .slice none 0 0]) := (by kernel_rfl : (Try.prog.info? 33).bind (·.zero) = some (.agg #[.int .u8 0, .int .i64 0, .int .i64 0, .slice none 0 0]))
theorem fl33_0 : fldB Try.prog 33 0 0 = true := by kernel_rfl
theorem fl33_1 : fldB Try.prog 33 1 1 = true := by kernel_rfl
theorem fl33_2 : fldB Try.prog 33 2 2 = true := by kernel_rfl
theorem bp33 : bplB Try.prog 33 [(0, 1), (1, 1), (2, 2)] = true := by kernel_rfl
theorem ty34 : tyB Try.prog 34 true 4 = true := by kernel_rfl
theorem ze34 : zeroIs Try.prog 34 (.agg #[.int .u8 0, .int .i64 0, .int .i64 0, .slice none 0 0]) := (by kernel_rfl : (Try.prog.info? 34).bind (·.zero) = some (.agg #[.int .u8 0, .int .i64 0, .int .i64 0, .slice none 0 0]))
theorem fl34_0 : fldB Try.prog 34 0 0 = true := by kernel_rfl
theorem fl34_1 : fldB Try.prog 34 1 1 = true := by kernel_rfl
theorem fl34_2 : fldB Try.prog 34 2 2 = true := by kernel_rfl
theorem bp34 : bplB Try.prog 34 [(0, 1), (1, 1), (2, 2)] = true := by kernel_rfl
theorem ty36 : tyB Try.prog 36 false 1 = true := by kernel_rfl
theorem ze36 : zeroIs Try.prog 36 (.slice none 0 0) := (by kernel_rfl : (Try.prog.info? 36).bind (·.zero) = some (.slice none 0 0))
theorem sl36 : slB Try.prog 36 2 1 = true := by kernel_rfl
theorem el36 : elB Try.prog 36 2 1 8 = true := by kernel_rfl
theorem un36 : Try.prog.underlying 36 = some (.slice 2) := by kernel_rfl
theorem nk36 : nkB Try.prog 36 .sl = true := by kernel_rfl
theorem ty38 : tyB Try.prog 38 false 1 = true := by kernel_rfl
theorem ze38 : zeroIs Try.prog 38 (.slice none 0 0) := (by kernel_rfl : (Try.prog.info? 38).bind (·.zero) = some (.slice none 0 0))
theorem sl38 : slB Try.prog 38 55 6 = true := by kernel_rfl
theorem el38 : elB Try.prog 38 55 6 56 = true := by kernel_rfl
theorem un38 : Try.prog.underlying 38 = some (.slice 55) := by kernel_rfl
theorem nk38 : nkB Try.prog 38 .sl = true := by kernel_rfl
theorem ty39 : tyB Try.prog 39 true 2 = true := by kernel_rfl
theorem ze39 : zeroIs Try.prog 39 (.agg #[.int .i64 0, .slice none 0 0]) := (by kernel_rfl : (Try.prog.info? 39).bind (·.zero) = some (.agg #[.int .i64 0, .slice none 0 0]))
theorem fl39_0 : fldB Try.prog 39 0 0 = true := by kernel_rfl
theorem fl39_1 : fldB Try.prog 39 1 1 = true := by kernel_rfl
theorem bp39 : bplB Try.prog 39 [(0, 1), (1, 1)] = true := by kernel_rfl
theorem ty40 : tyB Try.prog 40 true 2 = true := by kernel_rfl
theorem ze40 : zeroIs Try.prog 40 (.agg #[.int .i64 0, .slice none 0 0]) := (by kernel_rfl : (Try.prog.info? 40).bind (·.zero) = some (.agg #[.int .i64 0, .slice none 0 0]))
theorem fl40_0 : fldB Try.prog 40 0 0 = true := by kernel_rfl
theorem fl40_1 : fldB Try.prog 40 1 1 = true := by kernel_rfl
theorem bp40 : bplB Try.prog 40 [(0, 1), (1, 1)] = true := by kernel_rfl
theorem ty46 : tyB Try.prog 46 true 3 = true := by kernel_rfl
theorem ze46 : zeroIs Try.prog 46 (.agg #[.int .i64 0, .int .i64 0, .slice none 0 0]) := (by kernel_rfl : (Try.prog.info? 46).bind (·.zero) = some (.agg #[.int .i64 0, .int .i64 0, .slice none 0 0]))
theorem fl46_0 : fldB Try.prog 46 0 0 = true := by kernel_rfl
theorem fl46_1 : fldB Try.prog 46 1 1 = true := by kernel_rfl
theorem bp46 : bplB Try.prog 46 [(0, 1), (1, 2)] = true := by kernel_rfl
theorem ty47 : tyB Try.prog 47 true 3 = true := by kernel_rfl
theorem ze47 : zeroIs Try.prog 47 (.agg #[.int .i64 0, .int .i64 0, .slice none 0 0]) := (by kernel_rfl : (Try.prog.info? 47).bind (·.zero) = some (.agg #[.int .i64 0, .int .i64 0, .slice none 0 0]))
theorem fl47_0 : fldB Try.prog 47 0 0 = true := by kernel_rfl
theorem fl47_1 : fldB Try.prog 47 1 1 = true := by kernel_rfl
theorem bp47 : bplB Try.prog 47 [(0, 1), (1, 2)] = true := by kernel_rfl
theorem ty54 : tyB Try.prog 54 true 6 = true := by kernel_rfl
theorem ze54 : zeroIs Try.prog 54 (.agg #[.bool false, .bool false, .int .i64 0, .int .i64 0, .string ⟨#[]⟩, .string ⟨#[]⟩]) := (by kernel_rfl : (Try.prog.info? 54).bind (·.zero) = some (.agg #[.bool false, .bool false, .int .i64 0, .int .i64 0, .string ⟨#[]⟩, .string ⟨#[]⟩]))
theorem fl54_0 : fldB Try.prog 54 0 0 = true := by kernel_rfl
theorem fl54_1 : fldB Try.prog 54 1 1 = true := by kernel_rfl
theorem fl54_2 : fldB Try.prog 54 2 2 = true := by kernel_rfl
theorem fl54_3 : fldB Try.prog 54 3 3 = true := by kernel_rfl
theorem fl54_4 : fldB Try.prog 54 4 4 = true := by kernel_rfl
theorem fl54_5 : fldB Try.prog 54 5 5 = true := by kernel_rfl
theorem bp54 : bplB Try.prog 54 [(0, 1), (1, 1), (2, 1), (3, 1), (4, 1), (5, 1)] = true := by kernel_rfl
theorem ty55 : tyB Try.prog 55 true 6 = true := by kernel_rfl
theorem ze55 : zeroIs Try.prog 55 (.agg #[.bool false, .bool false, .int .i64 0, .int .i64 0, .string ⟨#[]⟩, .string ⟨#[]⟩]) := (by kernel_rfl : (Try.prog.info? 55).bind (·.zero) = some (.agg #[.bool false, .bool false, .int .i64 0, .int .i64 0, .string ⟨#[]⟩, .string ⟨#[]⟩]))
theorem fl55_0 : fldB Try.prog 55 0 0 = true := by kernel_rfl
theorem fl55_1 : fldB Try.prog 55 1 1 = true := by kernel_rfl
theorem fl55_2 : fldB Try.prog 55 2 2 = true := by kernel_rfl
theorem fl55_3 : fldB Try.prog 55 3 3 = true := by kernel_rfl
theorem fl55_4 : fldB Try.prog 55 4 4 = true := by kernel_rfl
theorem fl55_5 : fldB Try.prog 55 5 5 = true := by kernel_rfl
theorem bp55 : bplB Try.prog 55 [(0, 1), (1, 1), (2, 1), (3, 1), (4, 1), (5, 1)] = true := by kernel_rfl
theorem ty58 : tyB Try.prog 58 true 4 = true := by kernel_rfl
theorem ze58 : zeroIs Try.prog 58 (.agg #[.int .i64 0, .int .i64 0, .int .i64 0, .int .i64 0]) := (by kernel_rfl : (Try.prog.info? 58).bind (·.zero) = some (.agg #[.int .i64 0, .int .i64 0, .int .i64 0, .int .i64 0]))
theorem ar58 : arB Try.prog 58 4 3 1 = true := by kernel_rfl
theorem bp58 : bplB Try.prog 58 [(0, 1), (1, 1), (2, 1), (3, 1)] = true := by kernel_rfl
theorem ty60 : tyB Try.prog 60 false 1 = true := by kernel_rfl
theorem ze60 : zeroIs Try.prog 60 (.map none) := (by kernel_rfl : (Try.prog.info? 60).bind (·.zero) = some (.map none))
theorem nk60 : nkB Try.prog 60 .mp = true := by kernel_rfl
theorem un60 : Try.prog.underlying 60 = some (.map 2 40) := by kernel_rfl
theorem ty61 : tyB Try.prog 61 false 1 = true := by kernel_rfl
theorem ze61 : zeroIs Try.prog 61 (.map none) := (by kernel_rfl : (Try.prog.info? 61).bind (·.zero) = some (.map none))
theorem nk61 : nkB Try.prog 61 .mp = true := by kernel_rfl
theorem un61 : Try.prog.underlying 61 = some (.map 3 64) := by kernel_rfl
theorem ty62 : tyB Try.prog 62 true 2 = true := by kernel_rfl
theorem ze62 : zeroIs Try.prog 62 (.agg #[.map none, .map none]) := (by kernel_rfl : (Try.prog.info? 62).bind (·.zero) = some (.agg #[.map none, .map none]))
theorem fl62_0 : fldB Try.prog 62 0 0 = true := by kernel_rfl
theorem fl62_1 : fldB Try.prog 62 1 1 = true := by kernel_rfl
theorem bp62 : bplB Try.prog 62 [(0, 1), (1, 1)] = true := by kernel_rfl
theorem ty63 : tyB Try.prog 63 true 2 = true := by kernel_rfl
theorem ze63 : zeroIs Try.prog 63 (.agg #[.map none, .map none]) := (by kernel_rfl : (Try.prog.info? 63).bind (·.zero) = some (.agg #[.map none, .map none]))
theorem fl63_0 : fldB Try.prog 63 0 0 = true := by kernel_rfl
theorem fl63_1 : fldB Try.prog 63 1 1 = true := by kernel_rfl
theorem bp63 : bplB Try.prog 63 [(0, 1), (1, 1)] = true := by kernel_rfl
theorem ty64 : tyB Try.prog 64 false 1 = true := by kernel_rfl
theorem ze64 : zeroIs Try.prog 64 (.map none) := (by kernel_rfl : (Try.prog.info? 64).bind (·.zero) = some (.map none))
theorem nk64 : nkB Try.prog 64 .mp = true := by kernel_rfl
theorem un64 : Try.prog.underlying 64 = some (.map 2 4) := by kernel_rfl
theorem ty67 : tyB Try.prog 67 true 6 = true := by kernel_rfl
theorem ze67 : zeroIs Try.prog 67 (.agg #[.bool false, .bool false, .int .i64 0, .int .i64 0, .string ⟨#[]⟩, .string ⟨#[]⟩]) := (by kernel_rfl : (Try.prog.info? 67).bind (·.zero) = some (.agg #[.bool false, .bool false, .int .i64 0, .int .i64 0, .string ⟨#[]⟩, .string ⟨#[]⟩]))
theorem fl67_0 : fldB Try.prog 67 0 0 = true := by kernel_rfl
theorem fl67_1 : fldB Try.prog 67 1 1 = true := by kernel_rfl
theorem fl67_2 : fldB Try.prog 67 2 2 = true := by kernel_rfl
theorem fl67_3 : fldB Try.prog 67 3 3 = true := by kernel_rfl
theorem fl67_4 : fldB Try.prog 67 4 4 = true := by kernel_rfl
theorem fl67_5 : fldB Try.prog 67 5 5 = true := by kernel_rfl
theorem bp67 : bplB Try.prog 67 [(0, 1), (1, 1), (2, 1), (3, 1), (4, 1), (5, 1)] = true := by kernel_rfl
theorem ty70 : tyB Try.prog 70 false 1 = true := by kernel_rfl
theorem ze70 : zeroIs Try.prog 70 (.pointer none) := (by kernel_rfl : (Try.prog.info? 70).bind (·.zero) = some (.pointer none))
theorem nk70 : nkB Try.prog 70 .pt = true := by kernel_rfl
theorem ty73 : tyB Try.prog 73 false 1 = true := by kernel_rfl
theorem ze73 : zeroIs Try.prog 73 (.int .u64 0) := (by kernel_rfl : (Try.prog.info? 73).bind (·.zero) = some (.int .u64 0))
theorem un73 : Try.prog.underlying 73 = some (.int .u64) := by kernel_rfl
theorem ty75 : tyB Try.prog 75 false 1 = true := by kernel_rfl
theorem ze75 : zeroIs Try.prog 75 (.int .i64 0) := (by kernel_rfl : (Try.prog.info? 75).bind (·.zero) = some (.int .i64 0))
theorem un75 : Try.prog.underlying 75 = some (.int .i64) := by kernel_rfl
theorem ty84 : tyB Try.prog 84 false 1 = true := by kernel_rfl
theorem ze84 : zeroIs Try.prog 84 (.int .u32 0) := (by kernel_rfl : (Try.prog.info? 84).bind (·.zero) = some (.int .u32 0))
theorem un84 : Try.prog.underlying 84 = some (.int .u32) := by kernel_rfl
theorem ty86 : tyB Try.prog 86 false 1 = true := by kernel_rfl
theorem ze86 : zeroIs Try.prog 86 (.int .u64 0) := (by kernel_rfl : (Try.prog.info? 86).bind (·.zero) = some (.int .u64 0))
theorem un86 : Try.prog.underlying 86 = some (.int .u64) := by kernel_rfl
theorem ty87 : tyB Try.prog 87 false 1 = true := by kernel_rfl
theorem ze87 : zeroIs Try.prog 87 (.int .u64 0) := (by kernel_rfl : (Try.prog.info? 87).bind (·.zero) = some (.int .u64 0))
theorem un87 : Try.prog.underlying 87 = some (.int .u64) := by kernel_rfl
theorem ty91 : tyB Try.prog 91 false 1 = true := by kernel_rfl
theorem ze91 : zeroIs Try.prog 91 (.pointer none) := (by kernel_rfl : (Try.prog.info? 91).bind (·.zero) = some (.pointer none))
theorem nk91 : nkB Try.prog 91 .pt = true := by kernel_rfl
theorem ty93 : tyB Try.prog 93 false 1 = true := by kernel_rfl
theorem ze93 : zeroIs Try.prog 93 (.pointer none) := (by kernel_rfl : (Try.prog.info? 93).bind (·.zero) = some (.pointer none))
theorem nk93 : nkB Try.prog 93 .pt = true := by kernel_rfl
theorem ty99 : tyB Try.prog 99 true 0 = true := by kernel_rfl
theorem ze99 : zeroIs Try.prog 99 (.agg #[]) := (by kernel_rfl : (Try.prog.info? 99).bind (·.zero) = some (.agg #[]))
theorem ar99 : arB Try.prog 99 0 16 1 = true := by kernel_rfl
theorem bp99 : bplB Try.prog 99 [] = true := by kernel_rfl
theorem ty100 : tyB Try.prog 100 true 0 = true := by kernel_rfl
theorem ze100 : zeroIs Try.prog 100 (.agg #[]) := (by kernel_rfl : (Try.prog.info? 100).bind (·.zero) = some (.agg #[]))
theorem bp100 : bplB Try.prog 100 [(0, 0)] = true := by kernel_rfl
theorem ty105 : tyB Try.prog 105 false 1 = true := by kernel_rfl
theorem ze105 : zeroIs Try.prog 105 (.pointer none) := (by kernel_rfl : (Try.prog.info? 105).bind (·.zero) = some (.pointer none))
theorem nk105 : nkB Try.prog 105 .pt = true := by kernel_rfl
theorem fn9 : fnB Try.prog 9 = true := by kernel_rfl
theorem fn10 : fnB Try.prog 10 = true := by kernel_rfl
theorem fn11 : fnB Try.prog 11 = true := by kernel_rfl
theorem fn12 : fnB Try.prog 12 = true := by kernel_rfl
theorem fn13 : fnB Try.prog 13 = true := by kernel_rfl
theorem fn14 : fnB Try.prog 14 = true := by kernel_rfl
theorem fn15 : fnB Try.prog 15 = true := by kernel_rfl
theorem fn16 : fnB Try.prog 16 = true := by kernel_rfl
theorem fn17 : fnB Try.prog 17 = true := by kernel_rfl
theorem fn18 : fnB Try.prog 18 = true := by kernel_rfl
theorem fn19 : fnB Try.prog 19 = true := by kernel_rfl
theorem fn20 : fnB Try.prog 20 = true := by kernel_rfl
theorem fn21 : fnB Try.prog 21 = true := by kernel_rfl
theorem fn22 : fnB Try.prog 22 = true := by kernel_rfl
theorem fn23 : fnB Try.prog 23 = true := by kernel_rfl
theorem fn24 : fnB Try.prog 24 = true := by kernel_rfl
theorem fn25 : fnB Try.prog 25 = true := by kernel_rfl
theorem fn26 : fnB Try.prog 26 = true := by kernel_rfl
theorem fn27 : fnB Try.prog 27 = true := by kernel_rfl
end Go.Proofs.Ytojkjiakkcgfcaa.Fx
