/- Closed facts on the types and functions of the program. -/
import Derived.Test.YtkpacejikoengaaE22
import Derived.Test.YtkpacejikoengaaProg
namespace Go.Proofs.Ytkpacejikoengaa.Fx
open Go.Proofs.Ytkpacejikoengaa.E
theorem mo : Try.prog.follows .mixedOrders = true := by kernel_rfl
theorem ty2 : tyB Try.prog 2 false 1 = true := by kernel_rfl
theorem ze2 : zeroIs Try.prog 2 (.int .i64 0) := (by kernel_rfl : (Try.prog.info? 2).bind (·.zero) = some (.int .i64 0))
theorem un2 : Try.prog.underlying 2 = some (.int .i64) := by kernel_rfl
theorem ty3 : tyB Try.prog 3 false 1 = true := by kernel_rfl
theorem ze3 : zeroIs Try.prog 3 (.int .i64 0) := (by kernel_rfl : (Try.prog.info? 3).bind (·.zero) = some (.int .i64 0))
theorem un3 : Try.prog.underlying 3 = some (.int .i64) := by kernel_rfl
theorem ty4 : tyB Try.prog 4 false 1 = true := by kernel_rfl
theorem ze4 : zeroIs Try.prog 4 (.bool false) := (by kernel_rfl : (Try.prog.info? 4).bind (·.zero) = some (.bool false))
theorem un4 : Try.prog.underlying 4 = some .bool := by kernel_rfl
theorem ty5 : tyB Try.prog 5 false 1 = true := by kernel_rfl
theorem ze5 : zeroIs Try.prog 5 (.int .u8 0) := (by kernel_rfl : (Try.prog.info? 5).bind (·.zero) = some (.int .u8 0))
theorem un5 : Try.prog.underlying 5 = some (.int .u8) := by kernel_rfl
theorem ty9 : tyB Try.prog 9 false 1 = true := by kernel_rfl
theorem ze9 : zeroIs Try.prog 9 (.string ⟨#[]⟩) := (by kernel_rfl : (Try.prog.info? 9).bind (·.zero) = some (.string ⟨#[]⟩))
theorem un9 : Try.prog.underlying 9 = some .string := by kernel_rfl
theorem ty12 : tyB Try.prog 12 false 1 = true := by kernel_rfl
theorem ze12 : zeroIs Try.prog 12 (.int .u64 0) := (by kernel_rfl : (Try.prog.info? 12).bind (·.zero) = some (.int .u64 0))
theorem un12 : Try.prog.underlying 12 = some (.int .u64) := by kernel_rfl
theorem ty13 : tyB Try.prog 13 true 2 = true := by kernel_rfl
theorem ze13 : zeroIs Try.prog 13 (.agg #[.string ⟨#[]⟩, .int .u64 0]) := (by kernel_rfl : (Try.prog.info? 13).bind (·.zero) = some (.agg #[.string ⟨#[]⟩, .int .u64 0]))
theorem fl13_0 : fldB Try.prog 13 0 0 = true := by kernel_rfl
theorem fl13_1 : fldB Try.prog 13 1 1 = true := by kernel_rfl
theorem bp13 : bplB Try.prog 13 [(0, 1), (1, 1)] = true := by kernel_rfl
theorem ty19 : tyB Try.prog 19 true 1 = true := by kernel_rfl
theorem ze19 : zeroIs Try.prog 19 (.agg #[.pointer none]) := (by kernel_rfl : (Try.prog.info? 19).bind (·.zero) = some (.agg #[.pointer none]))
theorem fl19_0 : fldB Try.prog 19 0 0 = true := by kernel_rfl
theorem bp19 : bplB Try.prog 19 [(0, 1)] = true := by kernel_rfl
theorem ty21 : tyB Try.prog 21 false 1 = true := by kernel_rfl
theorem ze21 : zeroIs Try.prog 21 (.int .i32 0) := (by kernel_rfl : (Try.prog.info? 21).bind (·.zero) = some (.int .i32 0))
theorem un21 : Try.prog.underlying 21 = some (.int .i32) := by kernel_rfl
theorem ty22 : tyB Try.prog 22 false 1 = true := by kernel_rfl
theorem ze22 : zeroIs Try.prog 22 (.slice none 0 0) := (by kernel_rfl : (Try.prog.info? 22).bind (·.zero) = some (.slice none 0 0))
theorem sl22 : slB Try.prog 22 41 3 = true := by kernel_rfl
theorem el22 : elB Try.prog 22 41 3 24 = true := by kernel_rfl
theorem un22 : Try.prog.underlying 22 = some (.slice 41) := by kernel_rfl
theorem nk22 : nkB Try.prog 22 .sl = true := by kernel_rfl
theorem ty25 : tyB Try.prog 25 false 1 = true := by kernel_rfl
theorem ze25 : zeroIs Try.prog 25 (.pointer none) := (by kernel_rfl : (Try.prog.info? 25).bind (·.zero) = some (.pointer none))
theorem nk25 : nkB Try.prog 25 .pt = true := by kernel_rfl
theorem ty28 : tyB Try.prog 28 false 1 = true := by kernel_rfl
theorem ze28 : zeroIs Try.prog 28 (.slice none 0 0) := (by kernel_rfl : (Try.prog.info? 28).bind (·.zero) = some (.slice none 0 0))
theorem sl28 : slB Try.prog 28 2 1 = true := by kernel_rfl
theorem el28 : elB Try.prog 28 2 1 8 = true := by kernel_rfl
theorem un28 : Try.prog.underlying 28 = some (.slice 2) := by kernel_rfl
theorem nk28 : nkB Try.prog 28 .sl = true := by kernel_rfl
theorem ty36 : tyB Try.prog 36 false 1 = true := by kernel_rfl
theorem ze36 : zeroIs Try.prog 36 (.slice none 0 0) := (by kernel_rfl : (Try.prog.info? 36).bind (·.zero) = some (.slice none 0 0))
theorem sl36 : slB Try.prog 36 3 1 = true := by kernel_rfl
theorem el36 : elB Try.prog 36 3 1 8 = true := by kernel_rfl
theorem un36 : Try.prog.underlying 36 = some (.slice 3) := by kernel_rfl
theorem nk36 : nkB Try.prog 36 .sl = true := by kernel_rfl
theorem ty39 : tyB Try.prog 39 true 2 = true := by kernel_rfl
theorem ze39 : zeroIs Try.prog 39 (.agg #[.int .u8 0, .int .u8 0]) := (by kernel_rfl : (Try.prog.info? 39).bind (·.zero) = some (.agg #[.int .u8 0, .int .u8 0]))
theorem ar39 : arB Try.prog 39 2 5 1 = true := by kernel_rfl
theorem bp39 : bplB Try.prog 39 [(0, 1), (1, 1)] = true := by kernel_rfl
theorem ty40 : tyB Try.prog 40 true 3 = true := by kernel_rfl
theorem ze40 : zeroIs Try.prog 40 (.agg #[.int .i64 0, .int .i64 0, .int .i64 0]) := (by kernel_rfl : (Try.prog.info? 40).bind (·.zero) = some (.agg #[.int .i64 0, .int .i64 0, .int .i64 0]))
theorem fl40_0 : fldB Try.prog 40 0 0 = true := by kernel_rfl
theorem fl40_1 : fldB Try.prog 40 1 1 = true := by kernel_rfl
theorem fl40_2 : fldB Try.prog 40 2 2 = true := by kernel_rfl
theorem bp40 : bplB Try.prog 40 [(0, 1), (1, 1), (2, 1)] = true := by kernel_rfl
theorem ty41 : tyB Try.prog 41 true 3 = true := by kernel_rfl
theorem ze41 : zeroIs Try.prog 41 (.agg #[.int .i64 0, .int .i64 0, .int .i64 0]) := (by kernel_rfl : (Try.prog.info? 41).bind (·.zero) = some (.agg #[.int .i64 0, .int .i64 0, .int .i64 0]))
theorem fl41_0 : fldB Try.prog 41 0 0 = true := by kernel_rfl
theorem fl41_1 : fldB Try.prog 41 1 1 = true := by kernel_rfl
theorem fl41_2 : fldB Try.prog 41 2 2 = true := by kernel_rfl
theorem bp41 : bplB Try.prog 41 [(0, 1), (1, 1), (2, 1)] = true := by kernel_rfl
theorem ty43 : tyB Try.prog 43 false 1 = true := by kernel_rfl
theorem ze43 : zeroIs Try.prog 43 (.slice none 0 0) := (by kernel_rfl : (Try.prog.info? 43).bind (·.zero) = some (.slice none 0 0))
theorem sl43 : slB Try.prog 43 4 1 = true := by kernel_rfl
theorem el43 : elB Try.prog 43 4 1 1 = true := by kernel_rfl
theorem un43 : Try.prog.underlying 43 = some (.slice 4) := by kernel_rfl
theorem nk43 : nkB Try.prog 43 .sl = true := by kernel_rfl
theorem ty44 : tyB Try.prog 44 false 1 = true := by kernel_rfl
theorem ze44 : zeroIs Try.prog 44 (.int .i64 0) := (by kernel_rfl : (Try.prog.info? 44).bind (·.zero) = some (.int .i64 0))
theorem un44 : Try.prog.underlying 44 = some (.int .i64) := by kernel_rfl
theorem ty48 : tyB Try.prog 48 false 1 = true := by kernel_rfl
theorem ze48 : zeroIs Try.prog 48 (.slice none 0 0) := (by kernel_rfl : (Try.prog.info? 48).bind (·.zero) = some (.slice none 0 0))
theorem sl48 : slB Try.prog 48 51 1 = true := by kernel_rfl
theorem el48 : elB Try.prog 48 51 1 2 = true := by kernel_rfl
theorem un48 : Try.prog.underlying 48 = some (.slice 51) := by kernel_rfl
theorem nk48 : nkB Try.prog 48 .sl = true := by kernel_rfl
theorem ty51 : tyB Try.prog 51 false 1 = true := by kernel_rfl
theorem ze51 : zeroIs Try.prog 51 (.int .i16 0) := (by kernel_rfl : (Try.prog.info? 51).bind (·.zero) = some (.int .i16 0))
theorem un51 : Try.prog.underlying 51 = some (.int .i16) := by kernel_rfl
theorem ty53 : tyB Try.prog 53 false 1 = true := by kernel_rfl
theorem ze53 : zeroIs Try.prog 53 (.slice none 0 0) := (by kernel_rfl : (Try.prog.info? 53).bind (·.zero) = some (.slice none 0 0))
theorem sl53 : slB Try.prog 53 82 2 = true := by kernel_rfl
theorem el53 : elB Try.prog 53 82 2 16 = true := by kernel_rfl
theorem un53 : Try.prog.underlying 53 = some (.slice 82) := by kernel_rfl
theorem nk53 : nkB Try.prog 53 .sl = true := by kernel_rfl
theorem ty54 : tyB Try.prog 54 true 2 = true := by kernel_rfl
theorem ze54 : zeroIs Try.prog 54 (.agg #[.int .i64 0, .slice none 0 0]) := (by kernel_rfl : (Try.prog.info? 54).bind (·.zero) = some (.agg #[.int .i64 0, .slice none 0 0]))
theorem fl54_0 : fldB Try.prog 54 0 0 = true := by kernel_rfl
theorem fl54_1 : fldB Try.prog 54 1 1 = true := by kernel_rfl
theorem bp54 : bplB Try.prog 54 [(0, 1), (1, 1)] = true := by kernel_rfl
theorem ty55 : tyB Try.prog 55 true 2 = true := by kernel_rfl
theorem ze55 : zeroIs Try.prog 55 (.agg #[.int .i64 0, .slice none 0 0]) := (by kernel_rfl : (Try.prog.info? 55).bind (·.zero) = some (.agg #[.int .i64 0, .slice none 0 0]))
theorem fl55_0 : fldB Try.prog 55 0 0 = true := by kernel_rfl
theorem fl55_1 : fldB Try.prog 55 1 1 = true := by kernel_rfl
theorem bp55 : bplB Try.prog 55 [(0, 1), (1, 1)] = true := by kernel_rfl
theorem ty56 : tyB Try.prog 56 true 3 = true := by kernel_rfl
theorem ze56 : zeroIs Try.prog 56 (.agg #[.int .i64 0, .slice none 0 0, .bool false]) := (by kernel_rfl : (Try.prog.info? 56).bind (·.zero) = some (.agg #[.int .i64 0, .slice none 0 0, .bool false]))
theorem fl56_0 : fldB Try.prog 56 0 0 = true := by kernel_rfl
theorem fl56_1 : fldB Try.prog 56 1 2 = true := by kernel_rfl
theorem bp56 : bplB Try.prog 56 [(0, 2), (2, 1)] = true := by kernel_rfl
theorem ty57 : tyB Try.prog 57 true 3 = true := by kernel_rfl
theorem ze57 : zeroIs Try.prog 57 (.agg #[.int .i64 0, .slice none 0 0, .bool false]) := (by kernel_rfl : (Try.prog.info? 57).bind (·.zero) = some (.agg #[.int .i64 0, .slice none 0 0, .bool false]))
theorem fl57_0 : fldB Try.prog 57 0 0 = true := by kernel_rfl
theorem fl57_1 : fldB Try.prog 57 1 2 = true := by kernel_rfl
theorem bp57 : bplB Try.prog 57 [(0, 2), (2, 1)] = true := by kernel_rfl
theorem ty65 : tyB Try.prog 65 true 3 = true := by kernel_rfl
theorem ze65 : zeroIs Try.prog 65 (.agg #[.bool false, .int .i64 0, .int .i64 0]) := (by kernel_rfl : (Try.prog.info? 65).bind (·.zero) = some (.agg #[.bool false, .int .i64 0, .int .i64 0]))
theorem fl65_0 : fldB Try.prog 65 0 0 = true := by kernel_rfl
theorem fl65_1 : fldB Try.prog 65 1 1 = true := by kernel_rfl
theorem fl65_2 : fldB Try.prog 65 2 2 = true := by kernel_rfl
theorem bp65 : bplB Try.prog 65 [(0, 1), (1, 1), (2, 1)] = true := by kernel_rfl
theorem ty66 : tyB Try.prog 66 true 3 = true := by kernel_rfl
theorem ze66 : zeroIs Try.prog 66 (.agg #[.bool false, .int .i64 0, .int .i64 0]) := (by kernel_rfl : (Try.prog.info? 66).bind (·.zero) = some (.agg #[.bool false, .int .i64 0, .int .i64 0]))
theorem fl66_0 : fldB Try.prog 66 0 0 = true := by kernel_rfl
theorem fl66_1 : fldB Try.prog 66 1 1 = true := by kernel_rfl
theorem fl66_2 : fldB Try.prog 66 2 2 = true := by kernel_rfl
theorem bp66 : bplB Try.prog 66 [(0, 1), (1, 1), (2, 1)] = true := by kernel_rfl
theorem ty67 : tyB Try.prog 67 false 1 = true := by kernel_rfl
theorem ze67 : zeroIs Try.prog 67 (.slice none 0 0) := (by kernel_rfl : (Try.prog.info? 67).bind (·.zero) = some (.slice none 0 0))
theorem sl67 : slB Try.prog 67 66 3 = true := by kernel_rfl
theorem el67 : elB Try.prog 67 66 3 24 = true := by kernel_rfl
theorem un67 : Try.prog.underlying 67 = some (.slice 66) := by kernel_rfl
theorem nk67 : nkB Try.prog 67 .sl = true := by kernel_rfl
theorem ty68 : tyB Try.prog 68 false 1 = true := by kernel_rfl
theorem ze68 : zeroIs Try.prog 68 (.slice none 0 0) := (by kernel_rfl : (Try.prog.info? 68).bind (·.zero) = some (.slice none 0 0))
theorem sl68 : slB Try.prog 68 67 1 = true := by kernel_rfl
theorem el68 : elB Try.prog 68 67 1 24 = true := by kernel_rfl
theorem un68 : Try.prog.underlying 68 = some (.slice 67) := by kernel_rfl
theorem nk68 : nkB Try.prog 68 .sl = true := by kernel_rfl
theorem ty70 : tyB Try.prog 70 false 1 = true := by kernel_rfl
theorem ze70 : zeroIs Try.prog 70 (.slice none 0 0) := (by kernel_rfl : (Try.prog.info? 70).bind (·.zero) = some (.slice none 0 0))
theorem sl70 : slB Try.prog 70 78 3 = true := by kernel_rfl
theorem el70 : elB Try.prog 70 78 3 24 = true := by kernel_rfl
theorem un70 : Try.prog.underlying 70 = some (.slice 78) := by kernel_rfl
theorem nk70 : nkB Try.prog 70 .sl = true := by kernel_rfl
theorem ty71 : tyB Try.prog 71 false 1 = true := by kernel_rfl
theorem ze71 : zeroIs Try.prog 71 (.map none) := (by kernel_rfl : (Try.prog.info? 71).bind (·.zero) = some (.map none))
theorem nk71 : nkB Try.prog 71 .mp = true := by kernel_rfl
theorem un71 : Try.prog.underlying 71 = some (.map 80 3) := by kernel_rfl
theorem ty72 : tyB Try.prog 72 true 3 = true := by kernel_rfl
theorem ze72 : zeroIs Try.prog 72 (.agg #[.int .i64 0, .slice none 0 0, .map none]) := (by kernel_rfl : (Try.prog.info? 72).bind (·.zero) = some (.agg #[.int .i64 0, .slice none 0 0, .map none]))
theorem fl72_0 : fldB Try.prog 72 0 0 = true := by kernel_rfl
theorem fl72_1 : fldB Try.prog 72 1 1 = true := by kernel_rfl
theorem fl72_2 : fldB Try.prog 72 2 2 = true := by kernel_rfl
theorem bp72 : bplB Try.prog 72 [(0, 1), (1, 1), (2, 1)] = true := by kernel_rfl
theorem ty73 : tyB Try.prog 73 true 3 = true := by kernel_rfl
theorem ze73 : zeroIs Try.prog 73 (.agg #[.int .i64 0, .slice none 0 0, .map none]) := (by kernel_rfl : (Try.prog.info? 73).bind (·.zero) = some (.agg #[.int .i64 0, .slice none 0 0, .map none]))
theorem fl73_0 : fldB Try.prog 73 0 0 = true := by kernel_rfl
theorem fl73_1 : fldB Try.prog 73 1 1 = true := by kernel_rfl
theorem fl73_2 : fldB Try.prog 73 2 2 = true := by kernel_rfl
theorem bp73 : bplB Try.prog 73 [(0, 1), (1, 1), (2, 1)] = true := by kernel_rfl
theorem ty76 : tyB Try.prog 76 false 1 = true := by kernel_rfl
theorem ze76 : zeroIs Try.prog 76 (.map none) := (by kernel_rfl : (Try.prog.info? 76).bind (·.zero) = some (.map none))
theorem nk76 : nkB Try.prog 76 .mp = true := by kernel_rfl
theorem un76 : Try.prog.underlying 76 = some (.map 3 3) := by kernel_rfl
theorem ty77 : tyB Try.prog 77 true 3 = true := by kernel_rfl
theorem ze77 : zeroIs Try.prog 77 (.agg #[.int .i64 0, .int .i64 0, .int .i64 0]) := (by kernel_rfl : (Try.prog.info? 77).bind (·.zero) = some (.agg #[.int .i64 0, .int .i64 0, .int .i64 0]))
theorem fl77_0 : fldB Try.prog 77 0 0 = true := by kernel_rfl
theorem fl77_1 : fldB Try.prog 77 1 1 = true := by kernel_rfl
theorem fl77_2 : fldB Try.prog 77 2 2 = true := by kernel_rfl
theorem bp77 : bplB Try.prog 77 [(0, 1), (1, 1), (2, 1)] = true := by kernel_rfl
theorem ty78 : tyB Try.prog 78 true 3 = true := by kernel_rfl
theorem ze78 : zeroIs Try.prog 78 (.agg #[.int .i64 0, .int .i64 0, .int .i64 0]) := (by kernel_rfl : (Try.prog.info? 78).bind (·.zero) = some (.agg #[.int .i64 0, .int .i64 0, .int .i64 0]))
theorem fl78_0 : fldB Try.prog 78 0 0 = true := by kernel_rfl
theorem fl78_1 : fldB Try.prog 78 1 1 = true := by kernel_rfl
theorem fl78_2 : fldB Try.prog 78 2 2 = true := by kernel_rfl
theorem bp78 : bplB Try.prog 78 [(0, 1), (1, 1), (2, 1)] = true := by kernel_rfl
theorem ty80 : tyB Try.prog 80 true 2 = true := by kernel_rfl
theorem ze80 : zeroIs Try.prog 80 (.agg #[.int .i64 0, .int .i64 0]) := (by kernel_rfl : (Try.prog.info? 80).bind (·.zero) = some (.agg #[.int .i64 0, .int .i64 0]))
theorem ar80 : arB Try.prog 80 2 3 1 = true := by kernel_rfl
theorem bp80 : bplB Try.prog 80 [(0, 1), (1, 1)] = true := by kernel_rfl
theorem ty81 : tyB Try.prog 81 true 2 = true := by kernel_rfl
theorem ze81 : zeroIs Try.prog 81 (.agg #[.int .i64 0, .int .i64 0]) := (by kernel_rfl : (Try.prog.info? 81).bind (·.zero) = some (.agg #[.int .i64 0, .int .i64 0]))
theorem fl81_0 : fldB Try.prog 81 0 0 = true := by kernel_rfl
theorem fl81_1 : fldB Try.prog 81 1 1 = true := by kernel_rfl
theorem bp81 : bplB Try.prog 81 [(0, 1), (1, 1)] = true := by kernel_rfl
theorem ty82 : tyB Try.prog 82 true 2 = true := by kernel_rfl
theorem ze82 : zeroIs Try.prog 82 (.agg #[.int .i64 0, .int .i64 0]) := (by kernel_rfl : (Try.prog.info? 82).bind (·.zero) = some (.agg #[.int .i64 0, .int .i64 0]))
theorem fl82_0 : fldB Try.prog 82 0 0 = true := by kernel_rfl
theorem fl82_1 : fldB Try.prog 82 1 1 = true := by kernel_rfl
theorem bp82 : bplB Try.prog 82 [(0, 1), (1, 1)] = true := by kernel_rfl
theorem ty88 : tyB Try.prog 88 false 1 = true := by kernel_rfl
theorem ze88 : zeroIs Try.prog 88 (.int .u64 0) := (by kernel_rfl : (Try.prog.info? 88).bind (·.zero) = some (.int .u64 0))
theorem un88 : Try.prog.underlying 88 = some (.int .u64) := by kernel_rfl
theorem ty90 : tyB Try.prog 90 false 1 = true := by kernel_rfl
theorem ze90 : zeroIs Try.prog 90 (.int .i64 0) := (by kernel_rfl : (Try.prog.info? 90).bind (·.zero) = some (.int .i64 0))
theorem un90 : Try.prog.underlying 90 = some (.int .i64) := by kernel_rfl
theorem ty98 : tyB Try.prog 98 false 1 = true := by kernel_rfl
theorem ze98 : zeroIs Try.prog 98 (.int .u32 0) := (by kernel_rfl : (Try.prog.info? 98).bind (·.zero) = some (.int .u32 0))
theorem un98 : Try.prog.underlying 98 = some (.int .u32) := by kernel_rfl
theorem ty100 : tyB Try.prog 100 false 1 = true := by kernel_rfl
theorem ze100 : zeroIs Try.prog 100 (.int .u64 0) := (by kernel_rfl : (Try.prog.info? 100).bind (·.zero) = some (.int .u64 0))
theorem un100 : Try.prog.underlying 100 = some (.int .u64) := by kernel_rfl
theorem ty101 : tyB Try.prog 101 false 1 = true := by kernel_rfl
theorem ze101 : zeroIs Try.prog 101 (.int .u64 0) := (by kernel_rfl : (Try.prog.info? 101).bind (·.zero) = some (.int .u64 0))
theorem un101 : Try.prog.underlying 101 = some (.int .u64) := by kernel_rfl
theorem ty105 : tyB Try.prog 105 false 1 = true := by kernel_rfl
theorem ze105 : zeroIs Try.prog 105 (.pointer none) := (by kernel_rfl : (Try.prog.info? 105).bind (·.zero) = some (.pointer none))
theorem nk105 : nkB Try.prog 105 .pt = true := by kernel_rfl
theorem ty107 : tyB Try.prog 107 false 1 = true := by kernel_rfl
theorem ze107 : zeroIs Try.prog 107 (.pointer none) := (by kernel_rfl : (Try.prog.info? 107).bind (·.zero) = some (.pointer none))
theorem nk107 : nkB Try.prog 107 .pt = true := by kernel_rfl
theorem ty113 : tyB Try.prog 113 true 0 = true := by kernel_rfl
theorem ze113 : zeroIs Try.prog 113 (.agg #[]) := (by kernel_rfl : (Try.prog.info? 113).bind (·.zero) = some (.agg #[]))
theorem ar113 : arB Try.prog 113 0 16 1 = true := by kernel_rfl
theorem bp113 : bplB Try.prog 113 [] = true := by kernel_rfl
theorem ty114 : tyB Try.prog 114 true 0 = true := by kernel_rfl
theorem ze114 : zeroIs Try.prog 114 (.agg #[]) := (by kernel_rfl : (Try.prog.info? 114).bind (·.zero) = some (.agg #[]))
theorem bp114 : bplB Try.prog 114 [(0, 0)] = true := by kernel_rfl
theorem ty120 : tyB Try.prog 120 false 1 = true := by kernel_rfl
theorem ze120 : zeroIs Try.prog 120 (.pointer none) := (by kernel_rfl : (Try.prog.info? 120).bind (·.zero) = some (.pointer none))
theorem nk120 : nkB Try.prog 120 .pt = true := by kernel_rfl
theorem fn11 : fnB Try.prog 11 = true := by kernel_rfl
theorem fn12 : fnB Try.prog 12 = true := by kernel_rfl
theorem fn13 : fnB Try.prog 13 = true := by kernel_rfl
theorem fn14 : fnB Try.prog 14 = true := by kernel_rfl
theorem fn15 : fnB Try.prog 15 = true := by kernel_rfl
theorem fn16 : fnB Try.prog 16 = true := by kernel_rfl
theorem fn17 : fnB Try.prog 17 = true := by kernel_rfl
theorem fn18 : fnB Try.prog 18 = true := by kernel_rfl
theorem fn19 : fnB Try.prog 19 = true := by kernel_rfl
theorem fn20 : fnB Try.prog 20 = true := by kernel_rfl
theorem fn21 : fnB Try.prog 21 = true := by kernel_rfl
theorem fn22 : fnB Try.prog 22 = true := by kernel_rfl
theorem fn23 : fnB Try.prog 23 = true := by kernel_rfl
theorem fn24 : fnB Try.prog 24 = true := by kernel_rfl
theorem fn25 : fnB Try.prog 25 = true := by kernel_rfl
theorem fn26 : fnB Try.prog 26 = true := by kernel_rfl
theorem fn27 : fnB Try.prog 27 = true := by kernel_rfl
theorem fn28 : fnB Try.prog 28 = true := by kernel_rfl
theorem fn29 : fnB Try.prog 29 = true := by kernel_rfl
theorem fn30 : fnB Try.prog 30 = true := by kernel_rfl
theorem fn31 : fnB Try.prog 31 = true := by kernel_rfl
theorem fn32 : fnB Try.prog 32 = true := by kernel_rfl
theorem fn33 : fnB Try.prog 33 = true := by kernel_rfl
theorem fn34 : fnB Try.prog 34 = true := by kernel_rfl
end Go.Proofs.Ytkpacejikoengaa.Fx
