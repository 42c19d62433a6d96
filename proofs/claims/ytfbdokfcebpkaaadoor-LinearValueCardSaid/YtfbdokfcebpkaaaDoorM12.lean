/- Parts of the proof, one after the other: Fx. No condition. -/
import Derived.Test.YtfbdokfcebpkaaaDoorM11
import Derived.Test.YtfbdokfcebpkaaaDoorProg
/- Closed facts on the types and functions of the program. -/
namespace Go.Proofs.YtfbdokfcebpkaaaDoor.Fx
open Go.Proofs.YtfbdokfcebpkaaaDoor.E
theorem mo : Tryd.prog.follows .mixedOrders = true := by kernel_rfl
theorem nk1 : nkB Tryd.prog 1 .fn = true := by kernel_rfl
theorem ty2 : tyB Tryd.prog 2 false 1 = true := by kernel_rfl
theorem ze2 : zeroIs Tryd.prog 2 (.int .i64 0) := (by kernel_rfl : (Tryd.prog.info? 2).bind (·.zero) = some (.int .i64 0))
theorem un2 : Tryd.prog.underlying 2 = some (.int .i64) := by kernel_rfl
theorem ty3 : tyB Tryd.prog 3 false 1 = true := by kernel_rfl
theorem ze3 : zeroIs Tryd.prog 3 (.int .i64 0) := (by kernel_rfl : (Tryd.prog.info? 3).bind (·.zero) = some (.int .i64 0))
theorem un3 : Tryd.prog.underlying 3 = some (.int .i64) := by kernel_rfl
theorem ty4 : tyB Tryd.prog 4 false 1 = true := by kernel_rfl
theorem ze4 : zeroIs Tryd.prog 4 (.bool false) := (by kernel_rfl : (Tryd.prog.info? 4).bind (·.zero) = some (.bool false))
theorem un4 : Tryd.prog.underlying 4 = some .bool := by kernel_rfl
theorem ty5 : tyB Tryd.prog 5 false 1 = true := by kernel_rfl
theorem ze5 : zeroIs Tryd.prog 5 (.int .u8 0) := (by kernel_rfl : (Tryd.prog.info? 5).bind (·.zero) = some (.int .u8 0))
theorem un5 : Tryd.prog.underlying 5 = some (.int .u8) := by kernel_rfl
theorem ty9 : tyB Tryd.prog 9 false 1 = true := by kernel_rfl
theorem ze9 : zeroIs Tryd.prog 9 (.string ⟨#[]⟩) := (by kernel_rfl : (Tryd.prog.info? 9).bind (·.zero) = some (.string ⟨#[]⟩))
theorem un9 : Tryd.prog.underlying 9 = some .string := by kernel_rfl
theorem ty12 : tyB Tryd.prog 12 false 1 = true := by kernel_rfl
theorem ze12 : zeroIs Tryd.prog 12 (.int .u64 0) := (by kernel_rfl : (Tryd.prog.info? 12).bind (·.zero) = some (.int .u64 0))
theorem un12 : Tryd.prog.underlying 12 = some (.int .u64) := by kernel_rfl
theorem ty13 : tyB Tryd.prog 13 true 2 = true := by kernel_rfl
theorem ze13 : zeroIs Tryd.prog 13 (.agg #[.string ⟨#[]⟩, .int .u64 0]) := (by kernel_rfl : (Tryd.prog.info? 13).bind (·.zero) = some (.agg #[.string ⟨#[]⟩, .int .u64 0]))
theorem fl13_0 : fldB Tryd.prog 13 0 0 = true := by kernel_rfl
theorem fl13_1 : fldB Tryd.prog 13 1 1 = true := by kernel_rfl
theorem bp13 : bplB Tryd.prog 13 [(0, 1), (1, 1)] = true := by kernel_rfl
theorem ty19 : tyB Tryd.prog 19 true 1 = true := by kernel_rfl
theorem ze19 : zeroIs Tryd.prog 19 (.agg #[.pointer none]) := (by kernel_rfl : (Tryd.prog.info? 19).bind (·.zero) = some (.agg #[.pointer none]))
theorem fl19_0 : fldB Tryd.prog 19 0 0 = true := by kernel_rfl
theorem bp19 : bplB Tryd.prog 19 [(0, 1)] = true := by kernel_rfl
theorem ty21 : tyB Tryd.prog 21 false 1 = true := by kernel_rfl
theorem ze21 : zeroIs Tryd.prog 21 (.int .i32 0) := (by kernel_rfl : (Tryd.prog.info? 21).bind (·.zero) = some (.int .i32 0))
theorem un21 : Tryd.prog.underlying 21 = some (.int .i32) := by kernel_rfl
theorem ty22 : tyB Tryd.prog 22 false 1 = true := by kernel_rfl
theorem ze22 : zeroIs Tryd.prog 22 (.slice none 0 0) := (by kernel_rfl : (Tryd.prog.info? 22).bind (·.zero) = some (.slice none 0 0))
theorem sl22 : slB Tryd.prog 22 62 5 = true := by kernel_rfl
theorem el22 : elB Tryd.prog 22 62 5 56 = true := by kernel_rfl
theorem un22 : Tryd.prog.underlying 22 = some (.slice 62) := by kernel_rfl
theorem nk22 : nkB Tryd.prog 22 .sl = true := by kernel_rfl
theorem ty23 : tyB Tryd.prog 23 true 2 = true := by kernel_rfl
theorem ze23 : zeroIs Tryd.prog 23 (.agg #[.int .i64 0, .slice none 0 0]) := (by kernel_rfl : (Tryd.prog.info? 23).bind (·.zero) = some (.agg #[.int .i64 0, .slice none 0 0]))
theorem fl23_0 : fldB Tryd.prog 23 0 0 = true := by kernel_rfl
theorem fl23_1 : fldB Tryd.prog 23 1 1 = true := by kernel_rfl
theorem bp23 : bplB Tryd.prog 23 [(0, 1), (1, 1)] = true := by kernel_rfl
theorem ty24 : tyB Tryd.prog 24 true 2 = true := by kernel_rfl
theorem ze24 : zeroIs Tryd.prog 24 (.agg #[.int .i64 0, .slice none 0 0]) := (by kernel_rfl : (Tryd.prog.info? 24).bind (·.zero) = some (.agg #[.int .i64 0, .slice none 0 0]))
theorem fl24_0 : fldB Tryd.prog 24 0 0 = true := by kernel_rfl
theorem fl24_1 : fldB Tryd.prog 24 1 1 = true := by kernel_rfl
theorem bp24 : bplB Tryd.prog 24 [(0, 1), (1, 1)] = true := by kernel_rfl
theorem nk25 : nkB Tryd.prog 25 .fn = true := by kernel_rfl
theorem nk26 : nkB Tryd.prog 26 .fn = true := by kernel_rfl
theorem nk27 : nkB Tryd.prog 27 .fn = true := by kernel_rfl
theorem nk28 : nkB Tryd.prog 28 .fn = true := by kernel_rfl
theorem nk29 : nkB Tryd.prog 29 .fn = true := by kernel_rfl
theorem nk30 : nkB Tryd.prog 30 .fn = true := by kernel_rfl
theorem nk31 : nkB Tryd.prog 31 .fn = true := by kernel_rfl
theorem ty32 : tyB Tryd.prog 32 true 3 = true := by kernel_rfl
theorem ze32 : zeroIs Tryd.prog 32 (.agg #[.int .i64 0, .int .i64 0, .string ⟨#[]⟩]) := (by kernel_rfl : (Tryd.prog.info? 32).bind (·.zero) = some (.agg #[.int .i64 0, .int .i64 0, .string ⟨#[]⟩]))
theorem fl32_0 : fldB Tryd.prog 32 0 0 = true := by kernel_rfl
theorem fl32_1 : fldB Tryd.prog 32 1 1 = true := by kernel_rfl
theorem fl32_2 : fldB Tryd.prog 32 2 2 = true := by kernel_rfl
theorem bp32 : bplB Tryd.prog 32 [(0, 1), (1, 1), (2, 1)] = true := by kernel_rfl
theorem ty33 : tyB Tryd.prog 33 true 3 = true := by kernel_rfl
theorem ze33 : zeroIs Tryd.prog 33 (.agg #[.int .i64 0, .int .i64 0, .string ⟨#[]⟩]) := (by kernel_rfl : (Tryd.prog.info? 33).bind (·.zero) = some (.agg #[.int .i64 0, .int .i64 0, .string ⟨#[]⟩]))
theorem fl33_0 : fldB Tryd.prog 33 0 0 = true := by kernel_rfl
theorem fl33_1 : fldB Tryd.prog 33 1 1 = true := by kernel_rfl
theorem fl33_2 : fldB Tryd.prog 33 2 2 = true := by kernel_rfl
theorem bp33 : bplB Tryd.prog 33 [(0, 1), (1, 1), (2, 1)] = true := by kernel_rfl
theorem ty34 : tyB Tryd.prog 34 false 1 = true := by kernel_rfl
theorem ze34 : zeroIs Tryd.prog 34 (.slice none 0 0) := (by kernel_rfl : (Tryd.prog.info? 34).bind (·.zero) = some (.slice none 0 0))
theorem sl34 : slB Tryd.prog 34 36 8 = true := by kernel_rfl
theorem el34 : elB Tryd.prog 34 36 8 104 = true := by kernel_rfl
theorem un34 : Tryd.prog.underlying 34 = some (.slice 36) := by kernel_rfl
theorem nk34 : nkB Tryd.prog 34 .sl = true := by kernel_rfl
theorem ty35 : tyB Tryd.prog 35 true 8 = true := by kernel_rfl
theorem ze35 : zeroIs Tryd.prog 35 (.agg #[.int .i64 0, .string ⟨#[]⟩, .string ⟨#[]⟩, .int .i64 0, .int .i64 0, .int .i64 0, .string ⟨#[]⟩, .slice none 0 0]) := (by kernel_rfl : (Tryd.prog.info? 35).bind (·.zero) = some (.agg #[.int .i64 0, .string ⟨#[]⟩, .string ⟨#[]⟩, .int .i64 0, .int .i64 0, .int .i64 0, .string ⟨#[]⟩, .slice none 0 0]))
theorem fl35_0 : fldB Tryd.prog 35 0 0 = true := by kernel_rfl
theorem fl35_1 : fldB Tryd.prog 35 1 1 = true := by kernel_rfl
theorem fl35_2 : fldB Tryd.prog 35 2 2 = true := by kernel_rfl
theorem fl35_3 : fldB Tryd.prog 35 3 3 = true := by kernel_rfl
theorem fl35_4 : fldB Tryd.prog 35 4 4 = true := by kernel_rfl
theorem fl35_5 : fldB Tryd.prog 35 5 7 = true := by kernel_rfl
theorem bp35 : bplB Tryd.prog 35 [(0, 1), (1, 1), (2, 1), (3, 1), (4, 3), (7, 1)] = true := by kernel_rfl
theorem ty36 : tyB Tryd.prog 36 true 8 = true := by kernel_rfl
theorem ze36 : zeroIs Tryd.prog 36 (.agg #[.int .i64 0, .string ⟨#[]⟩, .string ⟨#[]⟩, .int .i64 0, .int .i64 0, .int .i64 0, .string ⟨#[]⟩, .slice none 0 0]) := (by kernel_rfl : (Tryd.prog.info? 36).bind (·.zero) = some (.agg #[.int .i64 0, .string ⟨#[]⟩, .string ⟨#[]⟩, .int .i64 0, .int .i64 0, .int .i64 0, .string ⟨#[]⟩, .slice none 0 0]))
theorem fl36_0 : fldB Tryd.prog 36 0 0 = true := by kernel_rfl
theorem fl36_1 : fldB Tryd.prog 36 1 1 = true := by kernel_rfl
theorem fl36_2 : fldB Tryd.prog 36 2 2 = true := by kernel_rfl
theorem fl36_3 : fldB Tryd.prog 36 3 3 = true := by kernel_rfl
theorem fl36_4 : fldB Tryd.prog 36 4 4 = true := by kernel_rfl
theorem fl36_5 : fldB Tryd.prog 36 5 7 = true := by kernel_rfl
theorem bp36 : bplB Tryd.prog 36 [(0, 1), (1, 1), (2, 1), (3, 1), (4, 3), (7, 1)] = true := by kernel_rfl
theorem ty37 : tyB Tryd.prog 37 false 1 = true := by kernel_rfl
theorem ze37 : zeroIs Tryd.prog 37 (.slice none 0 0) := (by kernel_rfl : (Tryd.prog.info? 37).bind (·.zero) = some (.slice none 0 0))
theorem sl37 : slB Tryd.prog 37 33 3 = true := by kernel_rfl
theorem el37 : elB Tryd.prog 37 33 3 32 = true := by kernel_rfl
theorem un37 : Tryd.prog.underlying 37 = some (.slice 33) := by kernel_rfl
theorem nk37 : nkB Tryd.prog 37 .sl = true := by kernel_rfl
theorem ty38 : tyB Tryd.prog 38 false 1 = true := by kernel_rfl
theorem ze38 : zeroIs Tryd.prog 38 (.slice none 0 0) := (by kernel_rfl : (Tryd.prog.info? 38).bind (·.zero) = some (.slice none 0 0))
theorem sl38 : slB Tryd.prog 38 33 3 = true := by kernel_rfl
theorem el38 : elB Tryd.prog 38 33 3 32 = true := by kernel_rfl
theorem un38 : Tryd.prog.underlying 38 = some (.slice 33) := by kernel_rfl
theorem nk38 : nkB Tryd.prog 38 .sl = true := by kernel_rfl
theorem nk39 : nkB Tryd.prog 39 .fn = true := by kernel_rfl
theorem nk40 : nkB Tryd.prog 40 .fn = true := by kernel_rfl
theorem ty41 : tyB Tryd.prog 41 false 1 = true := by kernel_rfl
theorem ze41 : zeroIs Tryd.prog 41 (.int .i64 0) := (by kernel_rfl : (Tryd.prog.info? 41).bind (·.zero) = some (.int .i64 0))
theorem un41 : Tryd.prog.underlying 41 = some (.int .i64) := by kernel_rfl
theorem nk43 : nkB Tryd.prog 43 .fn = true := by kernel_rfl
theorem nk45 : nkB Tryd.prog 45 .fn = true := by kernel_rfl
theorem nk46 : nkB Tryd.prog 46 .fn = true := by kernel_rfl
theorem nk47 : nkB Tryd.prog 47 .fn = true := by kernel_rfl
theorem nk48 : nkB Tryd.prog 48 .fn = true := by kernel_rfl
theorem nk49 : nkB Tryd.prog 49 .fn = true := by kernel_rfl
theorem nk50 : nkB Tryd.prog 50 .fn = true := by kernel_rfl
theorem nk51 : nkB Tryd.prog 51 .fn = true := by kernel_rfl
theorem nk52 : nkB Tryd.prog 52 .fn = true := by kernel_rfl
theorem nk53 : nkB Tryd.prog 53 .fn = true := by kernel_rfl
theorem ty54 : tyB Tryd.prog 54 false 1 = true := by kernel_rfl
theorem ze54 : zeroIs Tryd.prog 54 (.slice none 0 0) := (by kernel_rfl : (Tryd.prog.info? 54).bind (·.zero) = some (.slice none 0 0))
theorem sl54 : slB Tryd.prog 54 3 1 = true := by kernel_rfl
theorem el54 : elB Tryd.prog 54 3 1 8 = true := by kernel_rfl
theorem un54 : Tryd.prog.underlying 54 = some (.slice 3) := by kernel_rfl
theorem nk54 : nkB Tryd.prog 54 .sl = true := by kernel_rfl
theorem nk55 : nkB Tryd.prog 55 .fn = true := by kernel_rfl
theorem nk56 : nkB Tryd.prog 56 .fn = true := by kernel_rfl
theorem nk57 : nkB Tryd.prog 57 .fn = true := by kernel_rfl
theorem nk58 : nkB Tryd.prog 58 .fn = true := by kernel_rfl
theorem nk59 : nkB Tryd.prog 59 .fn = true := by kernel_rfl
theorem ty60 : tyB Tryd.prog 60 false 1 = true := by kernel_rfl
theorem ze60 : zeroIs Tryd.prog 60 (.slice none 0 0) := (by kernel_rfl : (Tryd.prog.info? 60).bind (·.zero) = some (.slice none 0 0))
theorem sl60 : slB Tryd.prog 60 24 2 = true := by kernel_rfl
theorem el60 : elB Tryd.prog 60 24 2 32 = true := by kernel_rfl
theorem un60 : Tryd.prog.underlying 60 = some (.slice 24) := by kernel_rfl
theorem nk60 : nkB Tryd.prog 60 .sl = true := by kernel_rfl
theorem ty61 : tyB Tryd.prog 61 true 5 = true := by kernel_rfl
theorem ze61 : zeroIs Tryd.prog 61 (.agg #[.int .i64 0, .int .i64 0, .int .i64 0, .int .i64 0, .slice none 0 0]) := (by kernel_rfl : (Tryd.prog.info? 61).bind (·.zero) = some (.agg #[.int .i64 0, .int .i64 0, .int .i64 0, .int .i64 0, .slice none 0 0]))
theorem fl61_0 : fldB Tryd.prog 61 0 0 = true := by kernel_rfl
theorem fl61_1 : fldB Tryd.prog 61 1 1 = true := by kernel_rfl
theorem fl61_2 : fldB Tryd.prog 61 2 2 = true := by kernel_rfl
theorem fl61_3 : fldB Tryd.prog 61 3 3 = true := by kernel_rfl
theorem fl61_4 : fldB Tryd.prog 61 4 4 = true := by kernel_rfl
theorem bp61 : bplB Tryd.prog 61 [(0, 1), (1, 1), (2, 1), (3, 1), (4, 1)] = true := by kernel_rfl
theorem ty62 : tyB Tryd.prog 62 true 5 = true := by kernel_rfl
theorem ze62 : zeroIs Tryd.prog 62 (.agg #[.int .i64 0, .int .i64 0, .int .i64 0, .int .i64 0, .slice none 0 0]) := (by kernel_rfl : (Tryd.prog.info? 62).bind (·.zero) = some (.agg #[.int .i64 0, .int .i64 0, .int .i64 0, .int .i64 0, .slice none 0 0]))
theorem fl62_0 : fldB Tryd.prog 62 0 0 = true := by kernel_rfl
theorem fl62_1 : fldB Tryd.prog 62 1 1 = true := by kernel_rfl
theorem fl62_2 : fldB Tryd.prog 62 2 2 = true := by kernel_rfl
theorem fl62_3 : fldB Tryd.prog 62 3 3 = true := by kernel_rfl
theorem fl62_4 : fldB Tryd.prog 62 4 4 = true := by kernel_rfl
theorem bp62 : bplB Tryd.prog 62 [(0, 1), (1, 1), (2, 1), (3, 1), (4, 1)] = true := by kernel_rfl
theorem nk63 : nkB Tryd.prog 63 .fn = true := by kernel_rfl
theorem nk64 : nkB Tryd.prog 64 .fn = true := by kernel_rfl
theorem nk65 : nkB Tryd.prog 65 .fn = true := by kernel_rfl
theorem nk66 : nkB Tryd.prog 66 .fn = true := by kernel_rfl
theorem ty67 : tyB Tryd.prog 67 false 1 = true := by kernel_rfl
theorem ze67 : zeroIs Tryd.prog 67 (.pointer none) := (by kernel_rfl : (Tryd.prog.info? 67).bind (·.zero) = some (.pointer none))
theorem nk67 : nkB Tryd.prog 67 .pt = true := by kernel_rfl
theorem ty68 : tyB Tryd.prog 68 false 1 = true := by kernel_rfl
theorem ze68 : zeroIs Tryd.prog 68 (.slice none 0 0) := (by kernel_rfl : (Tryd.prog.info? 68).bind (·.zero) = some (.slice none 0 0))
theorem sl68 : slB Tryd.prog 68 5 1 = true := by kernel_rfl
theorem el68 : elB Tryd.prog 68 5 1 1 = true := by kernel_rfl
theorem un68 : Tryd.prog.underlying 68 = some (.slice 5) := by kernel_rfl
theorem nk68 : nkB Tryd.prog 68 .sl = true := by kernel_rfl
theorem ty69 : tyB Tryd.prog 69 true 2 = true := by kernel_rfl
theorem ze69 : zeroIs Tryd.prog 69 (.agg #[.pointer none, .slice none 0 0]) := (by kernel_rfl : (Tryd.prog.info? 69).bind (·.zero) = some (.agg #[.pointer none, .slice none 0 0]))
theorem fl69_0 : fldB Tryd.prog 69 0 0 = true := by kernel_rfl
theorem fl69_1 : fldB Tryd.prog 69 1 1 = true := by kernel_rfl
theorem bp69 : bplB Tryd.prog 69 [(0, 1), (1, 1)] = true := by kernel_rfl
theorem ty70 : tyB Tryd.prog 70 true 2 = true := by kernel_rfl
theorem ze70 : zeroIs Tryd.prog 70 (.agg #[.pointer none, .slice none 0 0]) := (by kernel_rfl : (Tryd.prog.info? 70).bind (·.zero) = some (.agg #[.pointer none, .slice none 0 0]))
theorem fl70_0 : fldB Tryd.prog 70 0 0 = true := by kernel_rfl
theorem fl70_1 : fldB Tryd.prog 70 1 1 = true := by kernel_rfl
theorem bp70 : bplB Tryd.prog 70 [(0, 1), (1, 1)] = true := by kernel_rfl
theorem nk71 : nkB Tryd.prog 71 .fn = true := by kernel_rfl
theorem nk75 : nkB Tryd.prog 75 .fn = true := by kernel_rfl
theorem nk76 : nkB Tryd.prog 76 .fn = true := by kernel_rfl
theorem nk77 : nkB Tryd.prog 77 .fn = true := by kernel_rfl
theorem ty78 : tyB Tryd.prog 78 false 1 = true := by kernel_rfl
theorem ze78 : zeroIs Tryd.prog 78 (.int .u64 0) := (by kernel_rfl : (Tryd.prog.info? 78).bind (·.zero) = some (.int .u64 0))
theorem un78 : Tryd.prog.underlying 78 = some (.int .u64) := by kernel_rfl
theorem nk79 : nkB Tryd.prog 79 .fn = true := by kernel_rfl
theorem nk80 : nkB Tryd.prog 80 .fn = true := by kernel_rfl
theorem nk81 : nkB Tryd.prog 81 .fn = true := by kernel_rfl
theorem nk82 : nkB Tryd.prog 82 .fn = true := by kernel_rfl
theorem nk83 : nkB Tryd.prog 83 .fn = true := by kernel_rfl
theorem nk84 : nkB Tryd.prog 84 .fn = true := by kernel_rfl
theorem nk85 : nkB Tryd.prog 85 .fn = true := by kernel_rfl
theorem nk86 : nkB Tryd.prog 86 .fn = true := by kernel_rfl
theorem nk87 : nkB Tryd.prog 87 .fn = true := by kernel_rfl
theorem nk88 : nkB Tryd.prog 88 .fn = true := by kernel_rfl
theorem nk89 : nkB Tryd.prog 89 .fn = true := by kernel_rfl
theorem nk90 : nkB Tryd.prog 90 .fn = true := by kernel_rfl
theorem nk91 : nkB Tryd.prog 91 .fn = true := by kernel_rfl
theorem nk92 : nkB Tryd.prog 92 .fn = true := by kernel_rfl
theorem nk93 : nkB Tryd.prog 93 .fn = true := by kernel_rfl
theorem nk94 : nkB Tryd.prog 94 .fn = true := by kernel_rfl
theorem nk95 : nkB Tryd.prog 95 .fn = true := by kernel_rfl
theorem nk96 : nkB Tryd.prog 96 .fn = true := by kernel_rfl
theorem nk97 : nkB Tryd.prog 97 .fn = true := by kernel_rfl
theorem nk98 : nkB Tryd.prog 98 .fn = true := by kernel_rfl
theorem nk99 : nkB Tryd.prog 99 .fn = true := by kernel_rfl
theorem nk100 : nkB Tryd.prog 100 .fn = true := by kernel_rfl
theorem nk101 : nkB Tryd.prog 101 .fn = true := by kernel_rfl
theorem nk102 : nkB Tryd.prog 102 .fn = true := by kernel_rfl
theorem ty103 : tyB Tryd.prog 103 false 1 = true := by kernel_rfl
theorem ze103 : zeroIs Tryd.prog 103 (.pointer none) := (by kernel_rfl : (Tryd.prog.info? 103).bind (·.zero) = some (.pointer none))
theorem nk103 : nkB Tryd.prog 103 .pt = true := by kernel_rfl
theorem nk104 : nkB Tryd.prog 104 .fn = true := by kernel_rfl
theorem nk105 : nkB Tryd.prog 105 .fn = true := by kernel_rfl
theorem nk106 : nkB Tryd.prog 106 .fn = true := by kernel_rfl
theorem nk108 : nkB Tryd.prog 108 .fn = true := by kernel_rfl
theorem nk109 : nkB Tryd.prog 109 .fn = true := by kernel_rfl
theorem nk110 : nkB Tryd.prog 110 .fn = true := by kernel_rfl
theorem ty111 : tyB Tryd.prog 111 false 1 = true := by kernel_rfl
theorem ze111 : zeroIs Tryd.prog 111 (.int .u64 0) := (by kernel_rfl : (Tryd.prog.info? 111).bind (·.zero) = some (.int .u64 0))
theorem un111 : Tryd.prog.underlying 111 = some (.int .u64) := by kernel_rfl
theorem nk113 : nkB Tryd.prog 113 .fn = true := by kernel_rfl
theorem ty114 : tyB Tryd.prog 114 true 24 = true := by kernel_rfl
theorem ze114 : zeroIs Tryd.prog 114 (.agg #[.int .u8 0, .int .u8 0, .int .u8 0, .int .u8 0, .int .u8 0, .int .u8 0, .int .u8 0, .int .u8 0, .int .u8 0, .int .u8 0, .int .u8 0, .int .u8 0, .int .u8 0, .int .u8 0, .int .u8 0, .int .u8 0, .int .u8 0, .int .u8 0, .int .u8 0, .int .u8 0, .int .u8 0, .int .u8 0, .int .u8 0, .int .u8 0]) := (by kernel_rfl : (Tryd.prog.info? 114).bind (·.zero) = some (.agg #[.int .u8 0, .int .u8 0, .int .u8 0, .int .u8 0, .int .u8 0, .int .u8 0, .int .u8 0, .int .u8 0, .int .u8 0, .int .u8 0, .int .u8 0, .int .u8 0, .int .u8 0, .int .u8 0, .int .u8 0, .int .u8 0, .int .u8 0, .int .u8 0, .int .u8 0, .int .u8 0, .int .u8 0, .int .u8 0, .int .u8 0, .int .u8 0]))
theorem ar114 : arB Tryd.prog 114 24 5 1 = true := by kernel_rfl
theorem bp114 : bplB Tryd.prog 114 [(0, 1), (1, 1), (2, 1), (3, 1), (4, 1), (5, 1), (6, 1), (7, 1), (8, 1), (9, 1), (10, 1), (11, 1), (12, 1), (13, 1), (14, 1), (15, 1), (16, 1), (17, 1), (18, 1), (19, 1), (20, 1), (21, 1), (22, 1), (23, 1)] = true := by kernel_rfl
theorem nk115 : nkB Tryd.prog 115 .fn = true := by kernel_rfl
theorem nk116 : nkB Tryd.prog 116 .fn = true := by kernel_rfl
theorem nk118 : nkB Tryd.prog 118 .fn = true := by kernel_rfl
theorem nk119 : nkB Tryd.prog 119 .fn = true := by kernel_rfl
theorem ty120 : tyB Tryd.prog 120 false 1 = true := by kernel_rfl
theorem ze120 : zeroIs Tryd.prog 120 (.int .i64 0) := (by kernel_rfl : (Tryd.prog.info? 120).bind (·.zero) = some (.int .i64 0))
theorem un120 : Tryd.prog.underlying 120 = some (.int .i64) := by kernel_rfl
theorem nk122 : nkB Tryd.prog 122 .fn = true := by kernel_rfl
theorem nk123 : nkB Tryd.prog 123 .fn = true := by kernel_rfl
theorem nk124 : nkB Tryd.prog 124 .fn = true := by kernel_rfl
theorem nk125 : nkB Tryd.prog 125 .fn = true := by kernel_rfl
theorem nk127 : nkB Tryd.prog 127 .fn = true := by kernel_rfl
theorem nk128 : nkB Tryd.prog 128 .fn = true := by kernel_rfl
theorem ty129 : tyB Tryd.prog 129 false 1 = true := by kernel_rfl
theorem ze129 : zeroIs Tryd.prog 129 (.int .u32 0) := (by kernel_rfl : (Tryd.prog.info? 129).bind (·.zero) = some (.int .u32 0))
theorem un129 : Tryd.prog.underlying 129 = some (.int .u32) := by kernel_rfl
theorem nk130 : nkB Tryd.prog 130 .fn = true := by kernel_rfl
theorem nk131 : nkB Tryd.prog 131 .fn = true := by kernel_rfl
theorem ty132 : tyB Tryd.prog 132 true 20 = true := by kernel_rfl
theorem ze132 : zeroIs Tryd.prog 132 (.agg #[.int .u64 0, .int .u64 0, .int .u64 0, .int .u64 0, .int .u64 0, .int .u64 0, .int .u64 0, .int .u64 0, .int .u64 0, .int .u64 0, .int .u64 0, .int .u64 0, .int .u64 0, .int .u64 0, .int .u64 0, .int .u64 0, .int .u64 0, .int .u64 0, .int .u64 0, .int .u64 0]) := (by kernel_rfl : (Tryd.prog.info? 132).bind (·.zero) = some (.agg #[.int .u64 0, .int .u64 0, .int .u64 0, .int .u64 0, .int .u64 0, .int .u64 0, .int .u64 0, .int .u64 0, .int .u64 0, .int .u64 0, .int .u64 0, .int .u64 0, .int .u64 0, .int .u64 0, .int .u64 0, .int .u64 0, .int .u64 0, .int .u64 0, .int .u64 0, .int .u64 0]))
theorem ar132 : arB Tryd.prog 132 20 78 1 = true := by kernel_rfl
theorem bp132 : bplB Tryd.prog 132 [(0, 1), (1, 1), (2, 1), (3, 1), (4, 1), (5, 1), (6, 1), (7, 1), (8, 1), (9, 1), (10, 1), (11, 1), (12, 1), (13, 1), (14, 1), (15, 1), (16, 1), (17, 1), (18, 1), (19, 1)] = true := by kernel_rfl
theorem ty133 : tyB Tryd.prog 133 true 65 = true := by kernel_rfl
theorem nk134 : nkB Tryd.prog 134 .fn = true := by kernel_rfl
theorem ty135 : tyB Tryd.prog 135 false 1 = true := by kernel_rfl
theorem ze135 : zeroIs Tryd.prog 135 (.int .u64 0) := (by kernel_rfl : (Tryd.prog.info? 135).bind (·.zero) = some (.int .u64 0))
theorem un135 : Tryd.prog.underlying 135 = some (.int .u64) := by kernel_rfl
theorem nk136 : nkB Tryd.prog 136 .fn = true := by kernel_rfl
theorem nk137 : nkB Tryd.prog 137 .fn = true := by kernel_rfl
theorem nk138 : nkB Tryd.prog 138 .fn = true := by kernel_rfl
theorem ty139 : tyB Tryd.prog 139 false 1 = true := by kernel_rfl
theorem ze139 : zeroIs Tryd.prog 139 (.pointer none) := (by kernel_rfl : (Tryd.prog.info? 139).bind (·.zero) = some (.pointer none))
theorem nk139 : nkB Tryd.prog 139 .pt = true := by kernel_rfl
theorem nk140 : nkB Tryd.prog 140 .fn = true := by kernel_rfl
theorem ty141 : tyB Tryd.prog 141 false 1 = true := by kernel_rfl
theorem ze141 : zeroIs Tryd.prog 141 (.pointer none) := (by kernel_rfl : (Tryd.prog.info? 141).bind (·.zero) = some (.pointer none))
theorem nk141 : nkB Tryd.prog 141 .pt = true := by kernel_rfl
theorem nk143 : nkB Tryd.prog 143 .fn = true := by kernel_rfl
theorem ty144 : tyB Tryd.prog 144 true 32 = true := by kernel_rfl
theorem ze144 : zeroIs Tryd.prog 144 (.agg #[.int .u8 0, .int .u8 0, .int .u8 0, .int .u8 0, .int .u8 0, .int .u8 0, .int .u8 0, .int .u8 0, .int .u8 0, .int .u8 0, .int .u8 0, .int .u8 0, .int .u8 0, .int .u8 0, .int .u8 0, .int .u8 0, .int .u8 0, .int .u8 0, .int .u8 0, .int .u8 0, .int .u8 0, .int .u8 0, .int .u8 0, .int .u8 0, .int .u8 0, .int .u8 0, .int .u8 0, .int .u8 0, .int .u8 0, .int .u8 0, .int .u8 0, .int .u8 0]) := (by kernel_rfl : (Tryd.prog.info? 144).bind (·.zero) = some (.agg #[.int .u8 0, .int .u8 0, .int .u8 0, .int .u8 0, .int .u8 0, .int .u8 0, .int .u8 0, .int .u8 0, .int .u8 0, .int .u8 0, .int .u8 0, .int .u8 0, .int .u8 0, .int .u8 0, .int .u8 0, .int .u8 0, .int .u8 0, .int .u8 0, .int .u8 0, .int .u8 0, .int .u8 0, .int .u8 0, .int .u8 0, .int .u8 0, .int .u8 0, .int .u8 0, .int .u8 0, .int .u8 0, .int .u8 0, .int .u8 0, .int .u8 0, .int .u8 0]))
theorem ar144 : arB Tryd.prog 144 32 5 1 = true := by kernel_rfl
theorem bp144 : bplB Tryd.prog 144 [(0, 1), (1, 1), (2, 1), (3, 1), (4, 1), (5, 1), (6, 1), (7, 1), (8, 1), (9, 1), (10, 1), (11, 1), (12, 1), (13, 1), (14, 1), (15, 1), (16, 1), (17, 1), (18, 1), (19, 1), (20, 1), (21, 1), (22, 1), (23, 1), (24, 1), (25, 1), (26, 1), (27, 1), (28, 1), (29, 1), (30, 1), (31, 1)] = true := by kernel_rfl
theorem ty145 : tyB Tryd.prog 145 true 64 = true := by kernel_rfl
theorem ze145 : zeroIs Tryd.prog 145 (.agg #[.int .u8 0, .int .u8 0, .int .u8 0, .int .u8 0, .int .u8 0, .int .u8 0, .int .u8 0, .int .u8 0, .int .u8 0, .int .u8 0, .int .u8 0, .int .u8 0, .int .u8 0, .int .u8 0, .int .u8 0, .int .u8 0, .int .u8 0, .int .u8 0, .int .u8 0, .int .u8 0, .int .u8 0, .int .u8 0, .int .u8 0, .int .u8 0, .int .u8 0, .int .u8 0, .int .u8 0, .int .u8 0, .int .u8 0, .int .u8 0, .int .u8 0, .int .u8 0, .int .u8 0, .int .u8 0, .int .u8 0, .int .u8 0, .int .u8 0, .int .u8 0, .int .u8 0, .int .u8 0, .int .u8 0, .int .u8 0, .int .u8 0, .int .u8 0, .int .u8 0, .int .u8 0, .int .u8 0, .int .u8 0, .int .u8 0, .int .u8 0, .int .u8 0, .int .u8 0, .int .u8 0, .int .u8 0, .int .u8 0, .int .u8 0, .int .u8 0, .int .u8 0, .int .u8 0, .int .u8 0, .int .u8 0, .int .u8 0, .int .u8 0, .int .u8 0]) := (by kernel_rfl : (Tryd.prog.info? 145).bind (·.zero) = some (.agg #[.int .u8 0, .int .u8 0, .int .u8 0, .int .u8 0, .int .u8 0, .int .u8 0, .int .u8 0, .int .u8 0, .int .u8 0, .int .u8 0, .int .u8 0, .int .u8 0, .int .u8 0, .int .u8 0, .int .u8 0, .int .u8 0, .int .u8 0, .int .u8 0, .int .u8 0, .int .u8 0, .int .u8 0, .int .u8 0, .int .u8 0, .int .u8 0, .int .u8 0, .int .u8 0, .int .u8 0, .int .u8 0, .int .u8 0, .int .u8 0, .int .u8 0, .int .u8 0, .int .u8 0, .int .u8 0, .int .u8 0, .int .u8 0, .int .u8 0, .int .u8 0, .int .u8 0, .int .u8 0, .int .u8 0, .int .u8 0, .int .u8 0, .int .u8 0, .int .u8 0, .int .u8 0, .int .u8 0, .int .u8 0, .int .u8 0, .int .u8 0, .int .u8 0, .int .u8 0, .int .u8 0, .int .u8 0, .int .u8 0, .int .u8 0, .int .u8 0, .int .u8 0, .int .u8 0, .int .u8 0, .int .u8 0, .int .u8 0, .int .u8 0, .int .u8 0]))
theorem ar145 : arB Tryd.prog 145 64 5 1 = true := by kernel_rfl
theorem bp145 : bplB Tryd.prog 145 [(0, 1), (1, 1), (2, 1), (3, 1), (4, 1), (5, 1), (6, 1), (7, 1), (8, 1), (9, 1), (10, 1), (11, 1), (12, 1), (13, 1), (14, 1), (15, 1), (16, 1), (17, 1), (18, 1), (19, 1), (20, 1), (21, 1), (22, 1), (23, 1), (24, 1), (25, 1), (26, 1), (27, 1), (28, 1), (29, 1), (30, 1), (31, 1), (32, 1), (33, 1), (34, 1), (35, 1), (36, 1), (37, 1), (38, 1), (39, 1), (40, 1), (41, 1), (42, 1), (43, 1), (44, 1), (45, 1), (46, 1), (47, 1), (48, 1), (49, 1), (50, 1), (51, 1), (52, 1), (53, 1), (54, 1), (55, 1), (56, 1), (57, 1), (58, 1), (59, 1), (60, 1), (61, 1), (62, 1), (63, 1)] = true := by kernel_rfl
theorem ty148 : tyB Tryd.prog 148 true 0 = true := by kernel_rfl
theorem ze148 : zeroIs Tryd.prog 148 (.agg #[]) := (by kernel_rfl : (Tryd.prog.info? 148).bind (·.zero) = some (.agg #[]))
theorem ar148 : arB Tryd.prog 148 0 16 1 = true := by kernel_rfl
theorem bp148 : bplB Tryd.prog 148 [] = true := by kernel_rfl
theorem ty149 : tyB Tryd.prog 149 true 0 = true := by kernel_rfl
theorem ze149 : zeroIs Tryd.prog 149 (.agg #[]) := (by kernel_rfl : (Tryd.prog.info? 149).bind (·.zero) = some (.agg #[]))
theorem bp149 : bplB Tryd.prog 149 [(0, 0)] = true := by kernel_rfl
theorem nk153 : nkB Tryd.prog 153 .fn = true := by kernel_rfl
theorem fn12 : fnB Tryd.prog 12 = true := by kernel_rfl
theorem fn13 : fnB Tryd.prog 13 = true := by kernel_rfl
theorem fn14 : fnB Tryd.prog 14 = true := by kernel_rfl
theorem fn15 : fnB Tryd.prog 15 = true := by kernel_rfl
theorem fn16 : fnB Tryd.prog 16 = true := by kernel_rfl
theorem fn17 : fnB Tryd.prog 17 = true := by kernel_rfl
theorem fn18 : fnB Tryd.prog 18 = true := by kernel_rfl
theorem fn19 : fnB Tryd.prog 19 = true := by kernel_rfl
theorem fn20 : fnB Tryd.prog 20 = true := by kernel_rfl
theorem fn21 : fnB Tryd.prog 21 = true := by kernel_rfl
theorem fn22 : fnB Tryd.prog 22 = true := by kernel_rfl
theorem fn23 : fnB Tryd.prog 23 = true := by kernel_rfl
theorem fn24 : fnB Tryd.prog 24 = true := by kernel_rfl
theorem fn25 : fnB Tryd.prog 25 = true := by kernel_rfl
theorem fn26 : fnB Tryd.prog 26 = true := by kernel_rfl
theorem fn27 : fnB Tryd.prog 27 = true := by kernel_rfl
theorem fn28 : fnB Tryd.prog 28 = true := by kernel_rfl
theorem fn29 : fnB Tryd.prog 29 = true := by kernel_rfl
theorem fn30 : fnB Tryd.prog 30 = true := by kernel_rfl
theorem fn31 : fnB Tryd.prog 31 = true := by kernel_rfl
theorem fn32 : fnB Tryd.prog 32 = true := by kernel_rfl
theorem fn33 : fnB Tryd.prog 33 = true := by kernel_rfl
theorem fn34 : fnB Tryd.prog 34 = true := by kernel_rfl
theorem fn35 : fnB Tryd.prog 35 = true := by kernel_rfl
theorem fn36 : fnB Tryd.prog 36 = true := by kernel_rfl
theorem fn37 : fnB Tryd.prog 37 = true := by kernel_rfl
theorem fn38 : fnB Tryd.prog 38 = true := by kernel_rfl
theorem fn39 : fnB Tryd.prog 39 = true := by kernel_rfl
theorem fn40 : fnB Tryd.prog 40 = true := by kernel_rfl
theorem fn41 : fnB Tryd.prog 41 = true := by kernel_rfl
theorem fn42 : fnB Tryd.prog 42 = true := by kernel_rfl
theorem fn43 : fnB Tryd.prog 43 = true := by kernel_rfl
theorem fn44 : fnB Tryd.prog 44 = true := by kernel_rfl
theorem fn45 : fnB Tryd.prog 45 = true := by kernel_rfl
theorem fn46 : fnB Tryd.prog 46 = true := by kernel_rfl
theorem fn47 : fnB Tryd.prog 47 = true := by kernel_rfl
theorem fn48 : fnB Tryd.prog 48 = true := by kernel_rfl
theorem fn49 : fnB Tryd.prog 49 = true := by kernel_rfl
theorem fn50 : fnB Tryd.prog 50 = true := by kernel_rfl
theorem fn51 : fnB Tryd.prog 51 = true := by kernel_rfl
theorem fn52 : fnB Tryd.prog 52 = true := by kernel_rfl
theorem fn53 : fnB Tryd.prog 53 = true := by kernel_rfl
theorem fn54 : fnB Tryd.prog 54 = true := by kernel_rfl
theorem fn55 : fnB Tryd.prog 55 = true := by kernel_rfl
theorem fn56 : fnB Tryd.prog 56 = true := by kernel_rfl
theorem fn57 : fnB Tryd.prog 57 = true := by kernel_rfl
theorem fn58 : fnB Tryd.prog 58 = true := by kernel_rfl
theorem fn59 : fnB Tryd.prog 59 = true := by kernel_rfl
theorem fn60 : fnB Tryd.prog 60 = true := by kernel_rfl
theorem fn61 : fnB Tryd.prog 61 = true := by kernel_rfl
theorem fn62 : fnB Tryd.prog 62 = true := by kernel_rfl
theorem fn63 : fnB Tryd.prog 63 = true := by kernel_rfl
theorem fn64 : fnB Tryd.prog 64 = true := by kernel_rfl
theorem fn65 : fnB Tryd.prog 65 = true := by kernel_rfl
theorem fn66 : fnB Tryd.prog 66 = true := by kernel_rfl
theorem fn67 : fnB Tryd.prog 67 = true := by kernel_rfl
theorem fn68 : fnB Tryd.prog 68 = true := by kernel_rfl
theorem fn69 : fnB Tryd.prog 69 = true := by kernel_rfl
theorem fn70 : fnB Tryd.prog 70 = true := by kernel_rfl
theorem fn71 : fnB Tryd.prog 71 = true := by kernel_rfl
theorem fn72 : fnB Tryd.prog 72 = true := by kernel_rfl
theorem fn73 : fnB Tryd.prog 73 = true := by kernel_rfl
theorem fn74 : fnB Tryd.prog 74 = true := by kernel_rfl
theorem fn75 : fnB Tryd.prog 75 = true := by kernel_rfl
theorem fn76 : fnB Tryd.prog 76 = true := by kernel_rfl
theorem fn77 : fnB Tryd.prog 77 = true := by kernel_rfl
theorem fn78 : fnB Tryd.prog 78 = true := by kernel_rfl
theorem fn79 : fnB Tryd.prog 79 = true := by kernel_rfl
theorem fn80 : fnB Tryd.prog 80 = true := by kernel_rfl
theorem fn81 : fnB Tryd.prog 81 = true := by kernel_rfl
theorem fn82 : fnB Tryd.prog 82 = true := by kernel_rfl
theorem fn83 : fnB Tryd.prog 83 = true := by kernel_rfl
theorem fn84 : fnB Tryd.prog 84 = true := by kernel_rfl
theorem fn85 : fnB Tryd.prog 85 = true := by kernel_rfl
theorem fn86 : fnB Tryd.prog 86 = true := by kernel_rfl
theorem fn90 : fnB Tryd.prog 90 = true := by kernel_rfl
theorem fn91 : fnB Tryd.prog 91 = true := by kernel_rfl
theorem fn92 : fnB Tryd.prog 92 = true := by kernel_rfl
theorem fn93 : fnB Tryd.prog 93 = true := by kernel_rfl
theorem fn94 : fnB Tryd.prog 94 = true := by kernel_rfl
theorem fn96 : fnB Tryd.prog 96 = true := by kernel_rfl
end Go.Proofs.YtfbdokfcebpkaaaDoor.Fx
