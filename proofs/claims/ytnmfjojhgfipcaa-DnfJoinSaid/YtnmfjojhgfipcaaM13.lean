/- Parts of the proof, one after the other: Fx. No condition. -/
import Derived.Test.YtnmfjojhgfipcaaM12
import Derived.Test.YtnmfjojhgfipcaaProg
/- Closed facts on the types and functions of the program. -/
namespace Go.Proofs.Ytnmfjojhgfipcaa.Fx
open Go.Proofs.Ytnmfjojhgfipcaa.E
theorem mo : Try.prog.follows .mixedOrders = true := by kernel_rfl
theorem ty2 : tyB Try.prog 2 false 1 = true := by kernel_rfl
theorem ze2 : zeroIs Try.prog 2 (.int .i64 0) := (by kernel_rfl : (Try.prog.info? 2).bind (·.zero) = some (.int .i64 0))
theorem un2 : Try.prog.underlying 2 = some (.int .i64) := by kernel_rfl
theorem ty3 : tyB Try.prog 3 false 1 = true := by kernel_rfl
theorem un3 : Try.prog.underlying 3 = some (.int .i64) := by kernel_rfl
theorem ty4 : tyB Try.prog 4 false 1 = true := by kernel_rfl
theorem ze4 : zeroIs Try.prog 4 (.bool false) := (by kernel_rfl : (Try.prog.info? 4).bind (·.zero) = some (.bool false))
theorem un4 : Try.prog.underlying 4 = some .bool := by kernel_rfl
theorem un5 : Try.prog.underlying 5 = some (.int .u8) := by kernel_rfl
theorem ty9 : tyB Try.prog 9 false 1 = true := by kernel_rfl
theorem un9 : Try.prog.underlying 9 = some .string := by kernel_rfl
theorem ty22 : tyB Try.prog 22 false 1 = true := by kernel_rfl
theorem sl22 : slB Try.prog 22 3 1 = true := by kernel_rfl
theorem el22 : elB Try.prog 22 3 1 8 = true := by kernel_rfl
theorem un22 : Try.prog.underlying 22 = some (.slice 3) := by kernel_rfl
theorem ty23 : tyB Try.prog 23 false 1 = true := by kernel_rfl
theorem sl23 : slB Try.prog 23 82 4 = true := by kernel_rfl
theorem el23 : elB Try.prog 23 82 4 48 = true := by kernel_rfl
theorem un23 : Try.prog.underlying 23 = some (.slice 82) := by kernel_rfl
theorem ty24 : tyB Try.prog 24 false 1 = true := by kernel_rfl
theorem sl24 : slB Try.prog 24 76 3 = true := by kernel_rfl
theorem el24 : elB Try.prog 24 76 3 40 = true := by kernel_rfl
theorem un24 : Try.prog.underlying 24 = some (.slice 76) := by kernel_rfl
theorem ty25 : tyB Try.prog 25 false 1 = true := by kernel_rfl
theorem sl25 : slB Try.prog 25 61 4 = true := by kernel_rfl
theorem el25 : elB Try.prog 25 61 4 40 = true := by kernel_rfl
theorem un25 : Try.prog.underlying 25 = some (.slice 61) := by kernel_rfl
theorem ty26 : tyB Try.prog 26 false 1 = true := by kernel_rfl
theorem sl26 : slB Try.prog 26 80 2 = true := by kernel_rfl
theorem el26 : elB Try.prog 26 80 2 16 = true := by kernel_rfl
theorem un26 : Try.prog.underlying 26 = some (.slice 80) := by kernel_rfl
theorem ty28 : tyB Try.prog 28 true 7 = true := by kernel_rfl
theorem ze28 : zeroIs Try.prog 28 (.agg #[.slice none 0 0, .slice none 0 0, .slice none 0 0, .slice none 0 0, .slice none 0 0, .slice none 0 0, .slice none 0 0]) := (by kernel_rfl : (Try.prog.info? 28).bind (·.zero) = some (.agg #[.slice none 0 0, .slice none 0 0, .slice none 0 0, .slice none 0 0, .slice none 0 0, .slice none 0 0, .slice none 0 0]))
theorem fl28_0 : fldB Try.prog 28 0 0 = true := by kernel_rfl
theorem fl28_1 : fldB Try.prog 28 1 1 = true := by kernel_rfl
theorem fl28_2 : fldB Try.prog 28 2 2 = true := by kernel_rfl
theorem fl28_3 : fldB Try.prog 28 3 3 = true := by kernel_rfl
theorem fl28_4 : fldB Try.prog 28 4 4 = true := by kernel_rfl
theorem fl28_5 : fldB Try.prog 28 5 5 = true := by kernel_rfl
theorem fl28_6 : fldB Try.prog 28 6 6 = true := by kernel_rfl
theorem bp28 : bplB Try.prog 28 [(0, 1), (1, 1), (2, 1), (3, 1), (4, 1), (5, 1), (6, 1)] = true := by kernel_rfl
theorem ty29 : tyB Try.prog 29 false 1 = true := by kernel_rfl
theorem sl29 : slB Try.prog 29 53 5 = true := by kernel_rfl
theorem el29 : elB Try.prog 29 53 5 40 = true := by kernel_rfl
theorem un29 : Try.prog.underlying 29 = some (.slice 53) := by kernel_rfl
theorem ty31 : tyB Try.prog 31 false 1 = true := by kernel_rfl
theorem sl31 : slB Try.prog 31 42 3 = true := by kernel_rfl
theorem el31 : elB Try.prog 31 42 3 32 = true := by kernel_rfl
theorem un31 : Try.prog.underlying 31 = some (.slice 42) := by kernel_rfl
theorem sl35 : slB Try.prog 35 2 1 = true := by kernel_rfl
theorem el35 : elB Try.prog 35 2 1 8 = true := by kernel_rfl
theorem un35 : Try.prog.underlying 35 = some (.slice 2) := by kernel_rfl
theorem ty42 : tyB Try.prog 42 true 3 = true := by kernel_rfl
theorem ze42 : zeroIs Try.prog 42 (.agg #[.int .i64 0, .int .i64 0, .string ⟨#[]⟩]) := (by kernel_rfl : (Try.prog.info? 42).bind (·.zero) = some (.agg #[.int .i64 0, .int .i64 0, .string ⟨#[]⟩]))
theorem fl42_0 : fldB Try.prog 42 0 0 = true := by kernel_rfl
theorem fl42_1 : fldB Try.prog 42 1 1 = true := by kernel_rfl
theorem fl42_2 : fldB Try.prog 42 2 2 = true := by kernel_rfl
theorem bp42 : bplB Try.prog 42 [(0, 1), (1, 1), (2, 1)] = true := by kernel_rfl
theorem fl46_0 : fldB Try.prog 46 0 0 = true := by kernel_rfl
theorem fl46_1 : fldB Try.prog 46 1 7 = true := by kernel_rfl
theorem fl46_2 : fldB Try.prog 46 2 14 = true := by kernel_rfl
theorem fl46_3 : fldB Try.prog 46 3 15 = true := by kernel_rfl
theorem ty53 : tyB Try.prog 53 true 5 = true := by kernel_rfl
theorem ze53 : zeroIs Try.prog 53 (.agg #[.int .i64 0, .int .i64 0, .int .i64 0, .int .i64 0, .bool false]) := (by kernel_rfl : (Try.prog.info? 53).bind (·.zero) = some (.agg #[.int .i64 0, .int .i64 0, .int .i64 0, .int .i64 0, .bool false]))
theorem fl53_0 : fldB Try.prog 53 0 0 = true := by kernel_rfl
theorem fl53_1 : fldB Try.prog 53 1 1 = true := by kernel_rfl
theorem fl53_2 : fldB Try.prog 53 2 2 = true := by kernel_rfl
theorem fl53_3 : fldB Try.prog 53 3 3 = true := by kernel_rfl
theorem fl53_4 : fldB Try.prog 53 4 4 = true := by kernel_rfl
theorem bp53 : bplB Try.prog 53 [(0, 1), (1, 1), (2, 1), (3, 1), (4, 1)] = true := by kernel_rfl
theorem ty56 : tyB Try.prog 56 true 5 = true := by kernel_rfl
theorem ze56 : zeroIs Try.prog 56 (.agg #[.int .i64 0, .int .i64 0, .int .i64 0, .int .i64 0, .slice none 0 0]) := (by kernel_rfl : (Try.prog.info? 56).bind (·.zero) = some (.agg #[.int .i64 0, .int .i64 0, .int .i64 0, .int .i64 0, .slice none 0 0]))
theorem fl56_0 : fldB Try.prog 56 0 0 = true := by kernel_rfl
theorem fl56_1 : fldB Try.prog 56 1 1 = true := by kernel_rfl
theorem fl56_2 : fldB Try.prog 56 2 2 = true := by kernel_rfl
theorem bp56 : bplB Try.prog 56 [(0, 1), (1, 1), (2, 1), (3, 1), (4, 1)] = true := by kernel_rfl
theorem ty57 : tyB Try.prog 57 false 1 = true := by kernel_rfl
theorem sl57 : slB Try.prog 57 56 5 = true := by kernel_rfl
theorem el57 : elB Try.prog 57 56 5 56 = true := by kernel_rfl
theorem un57 : Try.prog.underlying 57 = some (.slice 56) := by kernel_rfl
theorem ty59 : tyB Try.prog 59 true 2 = true := by kernel_rfl
theorem ze59 : zeroIs Try.prog 59 (.agg #[.int .i64 0, .slice none 0 0]) := (by kernel_rfl : (Try.prog.info? 59).bind (·.zero) = some (.agg #[.int .i64 0, .slice none 0 0]))
theorem fl59_0 : fldB Try.prog 59 0 0 = true := by kernel_rfl
theorem fl59_1 : fldB Try.prog 59 1 1 = true := by kernel_rfl
theorem bp59 : bplB Try.prog 59 [(0, 1), (1, 1)] = true := by kernel_rfl
theorem ty61 : tyB Try.prog 61 true 4 = true := by kernel_rfl
theorem ze61 : zeroIs Try.prog 61 (.agg #[.int .i64 0, .int .i64 0, .bool false, .string ⟨#[]⟩]) := (by kernel_rfl : (Try.prog.info? 61).bind (·.zero) = some (.agg #[.int .i64 0, .int .i64 0, .bool false, .string ⟨#[]⟩]))
theorem fl61_0 : fldB Try.prog 61 0 0 = true := by kernel_rfl
theorem fl61_1 : fldB Try.prog 61 1 1 = true := by kernel_rfl
theorem fl61_2 : fldB Try.prog 61 2 2 = true := by kernel_rfl
theorem fl61_3 : fldB Try.prog 61 3 3 = true := by kernel_rfl
theorem ty63 : tyB Try.prog 63 true 9 = true := by kernel_rfl
theorem ze63 : zeroIs Try.prog 63 (.agg #[.int .i64 0, .int .i64 0, .int .i64 0, .int .i64 0, .slice none 0 0, .int .i64 0, .int .i64 0, .bool false, .string ⟨#[]⟩]) := (by kernel_rfl : (Try.prog.info? 63).bind (·.zero) = some (.agg #[.int .i64 0, .int .i64 0, .int .i64 0, .int .i64 0, .slice none 0 0, .int .i64 0, .int .i64 0, .bool false, .string ⟨#[]⟩]))
theorem fl63_0 : fldB Try.prog 63 0 0 = true := by kernel_rfl
theorem fl63_3 : fldB Try.prog 63 3 3 = true := by kernel_rfl
theorem bp63 : bplB Try.prog 63 [(0, 1), (1, 1), (2, 1), (3, 2), (5, 4)] = true := by kernel_rfl
theorem ty66 : tyB Try.prog 66 true 11 = true := by kernel_rfl
theorem ze66 : zeroIs Try.prog 66 (.agg #[.int .i64 0, .int .i64 0, .int .i64 0, .int .i64 0, .int .i64 0, .slice none 0 0, .int .i64 0, .int .i64 0, .bool false, .string ⟨#[]⟩, .slice none 0 0]) := (by kernel_rfl : (Try.prog.info? 66).bind (·.zero) = some (.agg #[.int .i64 0, .int .i64 0, .int .i64 0, .int .i64 0, .int .i64 0, .slice none 0 0, .int .i64 0, .int .i64 0, .bool false, .string ⟨#[]⟩, .slice none 0 0]))
theorem fl66_0 : fldB Try.prog 66 0 0 = true := by kernel_rfl
theorem fl66_1 : fldB Try.prog 66 1 1 = true := by kernel_rfl
theorem bp66 : bplB Try.prog 66 [(0, 1), (1, 9), (10, 1)] = true := by kernel_rfl
theorem sl67 : slB Try.prog 67 28 7 = true := by kernel_rfl
theorem el67 : elB Try.prog 67 28 7 168 = true := by kernel_rfl
theorem un67 : Try.prog.underlying 67 = some (.slice 28) := by kernel_rfl
theorem ty72 : tyB Try.prog 72 false 1 = true := by kernel_rfl
theorem sl72 : slB Try.prog 72 106 2 = true := by kernel_rfl
theorem el72 : elB Try.prog 72 106 2 16 = true := by kernel_rfl
theorem un72 : Try.prog.underlying 72 = some (.slice 106) := by kernel_rfl
theorem ty74 : tyB Try.prog 74 true 2 = true := by kernel_rfl
theorem ze74 : zeroIs Try.prog 74 (.agg #[.int .i64 0, .slice none 0 0]) := (by kernel_rfl : (Try.prog.info? 74).bind (·.zero) = some (.agg #[.int .i64 0, .slice none 0 0]))
theorem fl74_0 : fldB Try.prog 74 0 0 = true := by kernel_rfl
theorem fl74_1 : fldB Try.prog 74 1 1 = true := by kernel_rfl
theorem bp74 : bplB Try.prog 74 [(0, 1), (1, 1)] = true := by kernel_rfl
theorem ty76 : tyB Try.prog 76 true 3 = true := by kernel_rfl
theorem ze76 : zeroIs Try.prog 76 (.agg #[.int .i64 0, .slice none 0 0, .bool false]) := (by kernel_rfl : (Try.prog.info? 76).bind (·.zero) = some (.agg #[.int .i64 0, .slice none 0 0, .bool false]))
theorem fl76_0 : fldB Try.prog 76 0 0 = true := by kernel_rfl
theorem fl76_1 : fldB Try.prog 76 1 2 = true := by kernel_rfl
theorem bp76 : bplB Try.prog 76 [(0, 2), (2, 1)] = true := by kernel_rfl
theorem ty80 : tyB Try.prog 80 true 2 = true := by kernel_rfl
theorem ze80 : zeroIs Try.prog 80 (.agg #[.int .i64 0, .int .i64 0]) := (by kernel_rfl : (Try.prog.info? 80).bind (·.zero) = some (.agg #[.int .i64 0, .int .i64 0]))
theorem ar80 : arB Try.prog 80 2 3 1 = true := by kernel_rfl
theorem bp80 : bplB Try.prog 80 [(0, 1), (1, 1)] = true := by kernel_rfl
theorem ty82 : tyB Try.prog 82 true 4 = true := by kernel_rfl
theorem ze82 : zeroIs Try.prog 82 (.agg #[.int .i64 0, .slice none 0 0, .int .i64 0, .int .i64 0]) := (by kernel_rfl : (Try.prog.info? 82).bind (·.zero) = some (.agg #[.int .i64 0, .slice none 0 0, .int .i64 0, .int .i64 0]))
theorem fl82_0 : fldB Try.prog 82 0 0 = true := by kernel_rfl
theorem fl82_1 : fldB Try.prog 82 1 2 = true := by kernel_rfl
theorem fl82_2 : fldB Try.prog 82 2 3 = true := by kernel_rfl
theorem ty84 : tyB Try.prog 84 false 1 = true := by kernel_rfl
theorem ty106 : tyB Try.prog 106 true 2 = true := by kernel_rfl
theorem ze106 : zeroIs Try.prog 106 (.agg #[.int .i64 0, .int .i64 0]) := (by kernel_rfl : (Try.prog.info? 106).bind (·.zero) = some (.agg #[.int .i64 0, .int .i64 0]))
theorem fl106_0 : fldB Try.prog 106 0 0 = true := by kernel_rfl
theorem fl106_1 : fldB Try.prog 106 1 1 = true := by kernel_rfl
theorem bp106 : bplB Try.prog 106 [(0, 1), (1, 1)] = true := by kernel_rfl
theorem un107 : Try.prog.underlying 107 = some (.int .u64) := by kernel_rfl
theorem sl114 : slB Try.prog 114 116 1 = true := by kernel_rfl
theorem el114 : elB Try.prog 114 116 1 24 = true := by kernel_rfl
theorem un114 : Try.prog.underlying 114 = some (.slice 116) := by kernel_rfl
theorem ty116 : tyB Try.prog 116 false 1 = true := by kernel_rfl
theorem sl116 : slB Try.prog 116 143 10 = true := by kernel_rfl
theorem el116 : elB Try.prog 116 143 10 104 = true := by kernel_rfl
theorem un116 : Try.prog.underlying 116 = some (.slice 143) := by kernel_rfl
theorem un122 : Try.prog.underlying 122 = some (.map 3 2) := by kernel_rfl
theorem sl127 : slB Try.prog 127 22 1 = true := by kernel_rfl
theorem el127 : elB Try.prog 127 22 1 24 = true := by kernel_rfl
theorem un127 : Try.prog.underlying 127 = some (.slice 22) := by kernel_rfl
theorem sl129 : slB Try.prog 129 23 1 = true := by kernel_rfl
theorem el129 : elB Try.prog 129 23 1 24 = true := by kernel_rfl
theorem un129 : Try.prog.underlying 129 = some (.slice 23) := by kernel_rfl
theorem sl131 : slB Try.prog 131 24 1 = true := by kernel_rfl
theorem el131 : elB Try.prog 131 24 1 24 = true := by kernel_rfl
theorem un131 : Try.prog.underlying 131 = some (.slice 24) := by kernel_rfl
theorem sl133 : slB Try.prog 133 25 1 = true := by kernel_rfl
theorem el133 : elB Try.prog 133 25 1 24 = true := by kernel_rfl
theorem un133 : Try.prog.underlying 133 = some (.slice 25) := by kernel_rfl
theorem sl135 : slB Try.prog 135 26 1 = true := by kernel_rfl
theorem el135 : elB Try.prog 135 26 1 24 = true := by kernel_rfl
theorem un135 : Try.prog.underlying 135 = some (.slice 26) := by kernel_rfl
theorem ty143 : tyB Try.prog 143 true 10 = true := by kernel_rfl
theorem ze143 : zeroIs Try.prog 143 (.agg #[.int .i64 0, .int .i64 0, .int .i64 0, .int .i64 0, .slice none 0 0, .int .i64 0, .int .i64 0, .bool false, .string ⟨#[]⟩, .bool false]) := (by kernel_rfl : (Try.prog.info? 143).bind (·.zero) = some (.agg #[.int .i64 0, .int .i64 0, .int .i64 0, .int .i64 0, .slice none 0 0, .int .i64 0, .int .i64 0, .bool false, .string ⟨#[]⟩, .bool false]))
theorem fl143_0 : fldB Try.prog 143 0 0 = true := by kernel_rfl
theorem fl143_1 : fldB Try.prog 143 1 9 = true := by kernel_rfl
theorem bp143 : bplB Try.prog 143 [(0, 9), (9, 1)] = true := by kernel_rfl
theorem ze147 : zeroIs Try.prog 147 (.agg #[.int .i64 0, .slice none 0 0, .slice none 0 0, .slice none 0 0, .slice none 0 0, .slice none 0 0, .slice none 0 0, .slice none 0 0]) := (by kernel_rfl : (Try.prog.info? 147).bind (·.zero) = some (.agg #[.int .i64 0, .slice none 0 0, .slice none 0 0, .slice none 0 0, .slice none 0 0, .slice none 0 0, .slice none 0 0, .slice none 0 0]))
theorem fl147_1 : fldB Try.prog 147 1 1 = true := by kernel_rfl
theorem bp147 : bplB Try.prog 147 [(0, 1), (1, 7)] = true := by kernel_rfl
theorem ty150 : tyB Try.prog 150 false 1 = true := by kernel_rfl
theorem ze150 : zeroIs Try.prog 150 (.slice none 0 0) := (by kernel_rfl : (Try.prog.info? 150).bind (·.zero) = some (.slice none 0 0))
theorem sl150 : slB Try.prog 150 4 1 = true := by kernel_rfl
theorem el150 : elB Try.prog 150 4 1 1 = true := by kernel_rfl
theorem un154 : Try.prog.underlying 154 = some (.int .u64) := by kernel_rfl
theorem fn8 : fnB Try.prog 8 = true := by kernel_rfl
theorem fn9 : fnB Try.prog 9 = true := by kernel_rfl
theorem fn10 : fnB Try.prog 10 = true := by kernel_rfl
theorem fn11 : fnB Try.prog 11 = true := by kernel_rfl
theorem fn12 : fnB Try.prog 12 = true := by kernel_rfl
theorem fn13 : fnB Try.prog 13 = true := by kernel_rfl
theorem fn16 : fnB Try.prog 16 = true := by kernel_rfl
theorem fn17 : fnB Try.prog 17 = true := by kernel_rfl
theorem fn18 : fnB Try.prog 18 = true := by kernel_rfl
theorem fn19 : fnB Try.prog 19 = true := by kernel_rfl
theorem fn20 : fnB Try.prog 20 = true := by kernel_rfl
theorem fn21 : fnB Try.prog 21 = true := by kernel_rfl
theorem fn22 : fnB Try.prog 22 = true := by kernel_rfl
theorem fn24 : fnB Try.prog 24 = true := by kernel_rfl
theorem fn25 : fnB Try.prog 25 = true := by kernel_rfl
theorem fn26 : fnB Try.prog 26 = true := by kernel_rfl
theorem fn27 : fnB Try.prog 27 = true := by kernel_rfl
theorem fn28 : fnB Try.prog 28 = true := by kernel_rfl
theorem fn29 : fnB Try.prog 29 = true := by kernel_rfl
theorem fn30 : fnB Try.prog 30 = true := by kernel_rfl
theorem fn32 : fnB Try.prog 32 = true := by kernel_rfl
theorem fn33 : fnB Try.prog 33 = true := by kernel_rfl
theorem fn34 : fnB Try.prog 34 = true := by kernel_rfl
theorem fn35 : fnB Try.prog 35 = true := by kernel_rfl
theorem fn36 : fnB Try.prog 36 = true := by kernel_rfl
theorem fn37 : fnB Try.prog 37 = true := by kernel_rfl
theorem fn38 : fnB Try.prog 38 = true := by kernel_rfl
theorem fn39 : fnB Try.prog 39 = true := by kernel_rfl
theorem fn40 : fnB Try.prog 40 = true := by kernel_rfl
theorem fn41 : fnB Try.prog 41 = true := by kernel_rfl
theorem fn42 : fnB Try.prog 42 = true := by kernel_rfl
theorem fn43 : fnB Try.prog 43 = true := by kernel_rfl
theorem fn44 : fnB Try.prog 44 = true := by kernel_rfl
theorem fn45 : fnB Try.prog 45 = true := by kernel_rfl
theorem fn46 : fnB Try.prog 46 = true := by kernel_rfl
theorem fn47 : fnB Try.prog 47 = true := by kernel_rfl
theorem fn48 : fnB Try.prog 48 = true := by kernel_rfl
theorem fn49 : fnB Try.prog 49 = true := by kernel_rfl
theorem fn50 : fnB Try.prog 50 = true := by kernel_rfl
theorem fn51 : fnB Try.prog 51 = true := by kernel_rfl
theorem fn52 : fnB Try.prog 52 = true := by kernel_rfl
theorem fn53 : fnB Try.prog 53 = true := by kernel_rfl
theorem fn55 : fnB Try.prog 55 = true := by kernel_rfl
theorem fn61 : fnB Try.prog 61 = true := by kernel_rfl
theorem fn62 : fnB Try.prog 62 = true := by kernel_rfl
theorem fn63 : fnB Try.prog 63 = true := by kernel_rfl
theorem fn64 : fnB Try.prog 64 = true := by kernel_rfl
theorem fn65 : fnB Try.prog 65 = true := by kernel_rfl
theorem fn66 : fnB Try.prog 66 = true := by kernel_rfl
theorem fn67 : fnB Try.prog 67 = true := by kernel_rfl
theorem fn68 : fnB Try.prog 68 = true := by kernel_rfl
theorem fn69 : fnB Try.prog 69 = true := by kernel_rfl
theorem fn70 : fnB Try.prog 70 = true := by kernel_rfl
theorem fn71 : fnB Try.prog 71 = true := by kernel_rfl
theorem fn72 : fnB Try.prog 72 = true := by kernel_rfl
theorem fn73 : fnB Try.prog 73 = true := by kernel_rfl
theorem fn74 : fnB Try.prog 74 = true := by kernel_rfl
theorem fn75 : fnB Try.prog 75 = true := by kernel_rfl
theorem fn76 : fnB Try.prog 76 = true := by kernel_rfl
theorem fn77 : fnB Try.prog 77 = true := by kernel_rfl
theorem fn78 : fnB Try.prog 78 = true := by kernel_rfl
theorem fn79 : fnB Try.prog 79 = true := by kernel_rfl
theorem fn80 : fnB Try.prog 80 = true := by kernel_rfl
theorem fn81 : fnB Try.prog 81 = true := by kernel_rfl
theorem fn82 : fnB Try.prog 82 = true := by kernel_rfl
theorem fn86 : fnB Try.prog 86 = true := by kernel_rfl
theorem fn87 : fnB Try.prog 87 = true := by kernel_rfl
theorem fn88 : fnB Try.prog 88 = true := by kernel_rfl
theorem fn89 : fnB Try.prog 89 = true := by kernel_rfl
theorem fn90 : fnB Try.prog 90 = true := by kernel_rfl
theorem fn91 : fnB Try.prog 91 = true := by kernel_rfl
theorem fn93 : fnB Try.prog 93 = true := by kernel_rfl
theorem fn94 : fnB Try.prog 94 = true := by kernel_rfl
theorem fn95 : fnB Try.prog 95 = true := by kernel_rfl
theorem fn96 : fnB Try.prog 96 = true := by kernel_rfl
theorem fn97 : fnB Try.prog 97 = true := by kernel_rfl
theorem fn107 : fnB Try.prog 107 = true := by kernel_rfl
end Go.Proofs.Ytnmfjojhgfipcaa.Fx
