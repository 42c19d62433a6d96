import Derived.Test.YtnnoafgdjjpidaaGreatDoorM13
import Derived.Test.YtnnoafgdjjpidaaGreatDoorProg
namespace Go.Proofs.YtnnoafgdjjpidaaGreatDoor.Fx
open Go.Proofs.YtnnoafgdjjpidaaGreatDoor.E
theorem mo : Tryz.prog.follows .mixedOrders = true := by kernel_rfl
theorem ty2 : tyB Tryz.prog 2 false 1 = true := by kernel_rfl
theorem un2 : Tryz.prog.underlying 2 = some (.int .i64) := by kernel_rfl
theorem ty3 : tyB Tryz.prog 3 false 1 = true := by kernel_rfl
theorem ze3 : zeroIs Tryz.prog 3 (.int .i64 0) := (by kernel_rfl : (Tryz.prog.info? 3).bind (·.zero) = some (.int .i64 0))
theorem un3 : Tryz.prog.underlying 3 = some (.int .i64) := by kernel_rfl
theorem ty4 : tyB Tryz.prog 4 false 1 = true := by kernel_rfl
theorem ze4 : zeroIs Tryz.prog 4 (.bool false) := (by kernel_rfl : (Tryz.prog.info? 4).bind (·.zero) = some (.bool false))
theorem un4 : Tryz.prog.underlying 4 = some .bool := by kernel_rfl
theorem ty9 : tyB Tryz.prog 9 false 1 = true := by kernel_rfl
theorem un9 : Tryz.prog.underlying 9 = some .string := by kernel_rfl
theorem ty23 : tyB Tryz.prog 23 true 3 = true := by kernel_rfl
theorem ze23 : zeroIs Tryz.prog 23 (.agg #[.int .i64 0, .int .i64 0, .string ⟨#[]⟩]) := (by kernel_rfl : (Tryz.prog.info? 23).bind (·.zero) = some (.agg #[.int .i64 0, .int .i64 0, .string ⟨#[]⟩]))
theorem fl23_0 : fldB Tryz.prog 23 0 0 = true := by kernel_rfl
theorem fl23_1 : fldB Tryz.prog 23 1 1 = true := by kernel_rfl
theorem fl23_2 : fldB Tryz.prog 23 2 2 = true := by kernel_rfl
theorem bp23 : bplB Tryz.prog 23 [(0, 1), (1, 1), (2, 1)] = true := by kernel_rfl
theorem ty24 : tyB Tryz.prog 24 false 1 = true := by kernel_rfl
theorem sl24 : slB Tryz.prog 24 26 8 = true := by kernel_rfl
theorem el24 : elB Tryz.prog 24 26 8 104 = true := by kernel_rfl
theorem un24 : Tryz.prog.underlying 24 = some (.slice 26) := by kernel_rfl
theorem ty26 : tyB Tryz.prog 26 true 8 = true := by kernel_rfl
theorem ze26 : zeroIs Tryz.prog 26 (.agg #[.int .i64 0, .string ⟨#[]⟩, .string ⟨#[]⟩, .int .i64 0, .int .i64 0, .int .i64 0, .string ⟨#[]⟩, .slice none 0 0]) := (by kernel_rfl : (Tryz.prog.info? 26).bind (·.zero) = some (.agg #[.int .i64 0, .string ⟨#[]⟩, .string ⟨#[]⟩, .int .i64 0, .int .i64 0, .int .i64 0, .string ⟨#[]⟩, .slice none 0 0]))
theorem fl26_0 : fldB Tryz.prog 26 0 0 = true := by kernel_rfl
theorem fl26_3 : fldB Tryz.prog 26 3 3 = true := by kernel_rfl
theorem fl26_4 : fldB Tryz.prog 26 4 4 = true := by kernel_rfl
theorem fl26_5 : fldB Tryz.prog 26 5 7 = true := by kernel_rfl
theorem bp26 : bplB Tryz.prog 26 [(0, 1), (1, 1), (2, 1), (3, 1), (4, 3), (7, 1)] = true := by kernel_rfl
theorem ty27 : tyB Tryz.prog 27 false 1 = true := by kernel_rfl
theorem sl27 : slB Tryz.prog 27 66 5 = true := by kernel_rfl
theorem el27 : elB Tryz.prog 27 66 5 40 = true := by kernel_rfl
theorem un27 : Tryz.prog.underlying 27 = some (.slice 66) := by kernel_rfl
theorem ty30 : tyB Tryz.prog 30 false 1 = true := by kernel_rfl
theorem sl30 : slB Tryz.prog 30 89 5 = true := by kernel_rfl
theorem el30 : elB Tryz.prog 30 89 5 56 = true := by kernel_rfl
theorem un30 : Tryz.prog.underlying 30 = some (.slice 89) := by kernel_rfl
theorem nk30 : nkB Tryz.prog 30 .sl = true := by kernel_rfl
theorem ty32 : tyB Tryz.prog 32 true 2 = true := by kernel_rfl
theorem ze32 : zeroIs Tryz.prog 32 (.agg #[.int .i64 0, .slice none 0 0]) := (by kernel_rfl : (Tryz.prog.info? 32).bind (·.zero) = some (.agg #[.int .i64 0, .slice none 0 0]))
theorem fl32_0 : fldB Tryz.prog 32 0 0 = true := by kernel_rfl
theorem fl32_1 : fldB Tryz.prog 32 1 1 = true := by kernel_rfl
theorem bp32 : bplB Tryz.prog 32 [(0, 1), (1, 1)] = true := by kernel_rfl
theorem ty34 : tyB Tryz.prog 34 true 4 = true := by kernel_rfl
theorem ze34 : zeroIs Tryz.prog 34 (.agg #[.int .i64 0, .int .i64 0, .bool false, .string ⟨#[]⟩]) := (by kernel_rfl : (Tryz.prog.info? 34).bind (·.zero) = some (.agg #[.int .i64 0, .int .i64 0, .bool false, .string ⟨#[]⟩]))
theorem fl34_1 : fldB Tryz.prog 34 1 1 = true := by kernel_rfl
theorem fl34_2 : fldB Tryz.prog 34 2 2 = true := by kernel_rfl
theorem fl34_3 : fldB Tryz.prog 34 3 3 = true := by kernel_rfl
theorem bp34 : bplB Tryz.prog 34 [(0, 1), (1, 1), (2, 1), (3, 1)] = true := by kernel_rfl
theorem ty36 : tyB Tryz.prog 36 true 9 = true := by kernel_rfl
theorem ze36 : zeroIs Tryz.prog 36 (.agg #[.int .i64 0, .int .i64 0, .int .i64 0, .int .i64 0, .slice none 0 0, .int .i64 0, .int .i64 0, .bool false, .string ⟨#[]⟩]) := (by kernel_rfl : (Tryz.prog.info? 36).bind (·.zero) = some (.agg #[.int .i64 0, .int .i64 0, .int .i64 0, .int .i64 0, .slice none 0 0, .int .i64 0, .int .i64 0, .bool false, .string ⟨#[]⟩]))
theorem fl36_0 : fldB Tryz.prog 36 0 0 = true := by kernel_rfl
theorem fl36_1 : fldB Tryz.prog 36 1 1 = true := by kernel_rfl
theorem fl36_2 : fldB Tryz.prog 36 2 2 = true := by kernel_rfl
theorem fl36_3 : fldB Tryz.prog 36 3 3 = true := by kernel_rfl
theorem fl36_4 : fldB Tryz.prog 36 4 5 = true := by kernel_rfl
theorem bp36 : bplB Tryz.prog 36 [(0, 1), (1, 1), (2, 1), (3, 2), (5, 4)] = true := by kernel_rfl
theorem ty37 : tyB Tryz.prog 37 false 1 = true := by kernel_rfl
theorem sl37 : slB Tryz.prog 37 39 11 = true := by kernel_rfl
theorem el37 : elB Tryz.prog 37 39 11 128 = true := by kernel_rfl
theorem un37 : Tryz.prog.underlying 37 = some (.slice 39) := by kernel_rfl
theorem ty39 : tyB Tryz.prog 39 true 11 = true := by kernel_rfl
theorem ze39 : zeroIs Tryz.prog 39 (.agg #[.int .i64 0, .int .i64 0, .int .i64 0, .int .i64 0, .int .i64 0, .slice none 0 0, .int .i64 0, .int .i64 0, .bool false, .string ⟨#[]⟩, .slice none 0 0]) := (by kernel_rfl : (Tryz.prog.info? 39).bind (·.zero) = some (.agg #[.int .i64 0, .int .i64 0, .int .i64 0, .int .i64 0, .int .i64 0, .slice none 0 0, .int .i64 0, .int .i64 0, .bool false, .string ⟨#[]⟩, .slice none 0 0]))
theorem fl39_0 : fldB Tryz.prog 39 0 0 = true := by kernel_rfl
theorem fl39_1 : fldB Tryz.prog 39 1 1 = true := by kernel_rfl
theorem fl39_2 : fldB Tryz.prog 39 2 10 = true := by kernel_rfl
theorem bp39 : bplB Tryz.prog 39 [(0, 1), (1, 9), (10, 1)] = true := by kernel_rfl
theorem ty45 : tyB Tryz.prog 45 false 1 = true := by kernel_rfl
theorem sl45 : slB Tryz.prog 45 23 3 = true := by kernel_rfl
theorem un45 : Tryz.prog.underlying 45 = some (.slice 23) := by kernel_rfl
theorem ze57 : zeroIs Tryz.prog 57 (.agg #[.slice none 0 0]) := (by kernel_rfl : (Tryz.prog.info? 57).bind (·.zero) = some (.agg #[.slice none 0 0]))
theorem fl57_0 : fldB Tryz.prog 57 0 0 = true := by kernel_rfl
theorem bp57 : bplB Tryz.prog 57 [(0, 1)] = true := by kernel_rfl
theorem ty59 : tyB Tryz.prog 59 false 1 = true := by kernel_rfl
theorem ty66 : tyB Tryz.prog 66 true 5 = true := by kernel_rfl
theorem ze66 : zeroIs Tryz.prog 66 (.agg #[.int .i64 0, .int .i64 0, .int .i64 0, .int .i64 0, .bool false]) := (by kernel_rfl : (Tryz.prog.info? 66).bind (·.zero) = some (.agg #[.int .i64 0, .int .i64 0, .int .i64 0, .int .i64 0, .bool false]))
theorem fl66_0 : fldB Tryz.prog 66 0 0 = true := by kernel_rfl
theorem fl66_1 : fldB Tryz.prog 66 1 1 = true := by kernel_rfl
theorem fl66_2 : fldB Tryz.prog 66 2 2 = true := by kernel_rfl
theorem fl66_3 : fldB Tryz.prog 66 3 3 = true := by kernel_rfl
theorem fl66_4 : fldB Tryz.prog 66 4 4 = true := by kernel_rfl
theorem bp66 : bplB Tryz.prog 66 [(0, 1), (1, 1), (2, 1), (3, 1), (4, 1)] = true := by kernel_rfl
theorem el69 : elB Tryz.prog 69 9 1 16 = true := by kernel_rfl
theorem un69 : Tryz.prog.underlying 69 = some (.slice 9) := by kernel_rfl
theorem ty80 : tyB Tryz.prog 80 false 1 = true := by kernel_rfl
theorem ze80 : zeroIs Tryz.prog 80 (.slice none 0 0) := (by kernel_rfl : (Tryz.prog.info? 80).bind (·.zero) = some (.slice none 0 0))
theorem sl80 : slB Tryz.prog 80 3 1 = true := by kernel_rfl
theorem el80 : elB Tryz.prog 80 3 1 8 = true := by kernel_rfl
theorem un80 : Tryz.prog.underlying 80 = some (.slice 3) := by kernel_rfl
theorem ty87 : tyB Tryz.prog 87 false 1 = true := by kernel_rfl
theorem sl87 : slB Tryz.prog 87 32 2 = true := by kernel_rfl
theorem el87 : elB Tryz.prog 87 32 2 32 = true := by kernel_rfl
theorem un87 : Tryz.prog.underlying 87 = some (.slice 32) := by kernel_rfl
theorem ty89 : tyB Tryz.prog 89 true 5 = true := by kernel_rfl
theorem ze89 : zeroIs Tryz.prog 89 (.agg #[.int .i64 0, .int .i64 0, .int .i64 0, .int .i64 0, .slice none 0 0]) := (by kernel_rfl : (Tryz.prog.info? 89).bind (·.zero) = some (.agg #[.int .i64 0, .int .i64 0, .int .i64 0, .int .i64 0, .slice none 0 0]))
theorem fl89_0 : fldB Tryz.prog 89 0 0 = true := by kernel_rfl
theorem fl89_1 : fldB Tryz.prog 89 1 1 = true := by kernel_rfl
theorem fl89_2 : fldB Tryz.prog 89 2 2 = true := by kernel_rfl
theorem fl89_3 : fldB Tryz.prog 89 3 3 = true := by kernel_rfl
theorem fl89_4 : fldB Tryz.prog 89 4 4 = true := by kernel_rfl
theorem bp89 : bplB Tryz.prog 89 [(0, 1), (1, 1), (2, 1), (3, 1), (4, 1)] = true := by kernel_rfl
theorem ty97 : tyB Tryz.prog 97 false 1 = true := by kernel_rfl
theorem nk97 : nkB Tryz.prog 97 .pt = true := by kernel_rfl
theorem ty98 : tyB Tryz.prog 98 false 1 = true := by kernel_rfl
theorem el98 : elB Tryz.prog 98 5 1 1 = true := by kernel_rfl
theorem un98 : Tryz.prog.underlying 98 = some (.slice 5) := by kernel_rfl
theorem ze100 : zeroIs Tryz.prog 100 (.agg #[.pointer none, .slice none 0 0]) := (by kernel_rfl : (Tryz.prog.info? 100).bind (·.zero) = some (.agg #[.pointer none, .slice none 0 0]))
theorem fl100_0 : fldB Tryz.prog 100 0 0 = true := by kernel_rfl
theorem fl100_1 : fldB Tryz.prog 100 1 1 = true := by kernel_rfl
theorem ze108 : zeroIs Tryz.prog 108 (.agg #[.int .i64 0, .int .i64 0, .int .i64 0, .int .i64 0]) := (by kernel_rfl : (Tryz.prog.info? 108).bind (·.zero) = some (.agg #[.int .i64 0, .int .i64 0, .int .i64 0, .int .i64 0]))
theorem ar108 : arB Tryz.prog 108 4 59 1 = true := by kernel_rfl
theorem bp108 : bplB Tryz.prog 108 [(0, 1), (1, 1), (2, 1), (3, 1)] = true := by kernel_rfl
theorem ty114 : tyB Tryz.prog 114 true 11 = true := by kernel_rfl
theorem ze114 : zeroIs Tryz.prog 114 (.agg #[.bool false, .bool false, .int .i64 0, .int .i64 0, .int .i64 0, .int .i64 0, .slice none 0 0, .int .i64 0, .int .i64 0, .bool false, .string ⟨#[]⟩]) := (by kernel_rfl : (Tryz.prog.info? 114).bind (·.zero) = some (.agg #[.bool false, .bool false, .int .i64 0, .int .i64 0, .int .i64 0, .int .i64 0, .slice none 0 0, .int .i64 0, .int .i64 0, .bool false, .string ⟨#[]⟩]))
theorem fl114_0 : fldB Tryz.prog 114 0 0 = true := by kernel_rfl
theorem fl114_1 : fldB Tryz.prog 114 1 1 = true := by kernel_rfl
theorem fl114_2 : fldB Tryz.prog 114 2 2 = true := by kernel_rfl
theorem bp114 : bplB Tryz.prog 114 [(0, 1), (1, 1), (2, 9)] = true := by kernel_rfl
theorem un130 : Tryz.prog.underlying 130 = some (.int .u64) := by kernel_rfl
theorem ty155 : tyB Tryz.prog 155 false 1 = true := by kernel_rfl
theorem ze155 : zeroIs Tryz.prog 155 (.slice none 0 0) := (by kernel_rfl : (Tryz.prog.info? 155).bind (·.zero) = some (.slice none 0 0))
theorem sl155 : slB Tryz.prog 155 4 1 = true := by kernel_rfl
theorem el155 : elB Tryz.prog 155 4 1 1 = true := by kernel_rfl
theorem fn5 : fnB Tryz.prog 5 = true := by kernel_rfl
theorem fn6 : fnB Tryz.prog 6 = true := by kernel_rfl
theorem fn7 : fnB Tryz.prog 7 = true := by kernel_rfl
theorem fn8 : fnB Tryz.prog 8 = true := by kernel_rfl
theorem fn9 : fnB Tryz.prog 9 = true := by kernel_rfl
theorem fn11 : fnB Tryz.prog 11 = true := by kernel_rfl
theorem fn12 : fnB Tryz.prog 12 = true := by kernel_rfl
theorem fn13 : fnB Tryz.prog 13 = true := by kernel_rfl
theorem fn14 : fnB Tryz.prog 14 = true := by kernel_rfl
theorem fn15 : fnB Tryz.prog 15 = true := by kernel_rfl
theorem fn16 : fnB Tryz.prog 16 = true := by kernel_rfl
theorem fn17 : fnB Tryz.prog 17 = true := by kernel_rfl
theorem fn18 : fnB Tryz.prog 18 = true := by kernel_rfl
theorem fn19 : fnB Tryz.prog 19 = true := by kernel_rfl
theorem fn22 : fnB Tryz.prog 22 = true := by kernel_rfl
theorem fn24 : fnB Tryz.prog 24 = true := by kernel_rfl
theorem fn25 : fnB Tryz.prog 25 = true := by kernel_rfl
theorem fn26 : fnB Tryz.prog 26 = true := by kernel_rfl
theorem fn27 : fnB Tryz.prog 27 = true := by kernel_rfl
theorem fn28 : fnB Tryz.prog 28 = true := by kernel_rfl
theorem fn29 : fnB Tryz.prog 29 = true := by kernel_rfl
theorem fn30 : fnB Tryz.prog 30 = true := by kernel_rfl
theorem fn31 : fnB Tryz.prog 31 = true := by kernel_rfl
theorem fn32 : fnB Tryz.prog 32 = true := by kernel_rfl
theorem fn33 : fnB Tryz.prog 33 = true := by kernel_rfl
theorem fn34 : fnB Tryz.prog 34 = true := by kernel_rfl
theorem fn35 : fnB Tryz.prog 35 = true := by kernel_rfl
theorem fn36 : fnB Tryz.prog 36 = true := by kernel_rfl
theorem fn37 : fnB Tryz.prog 37 = true := by kernel_rfl
theorem fn38 : fnB Tryz.prog 38 = true := by kernel_rfl
theorem fn39 : fnB Tryz.prog 39 = true := by kernel_rfl
theorem fn40 : fnB Tryz.prog 40 = true := by kernel_rfl
theorem fn41 : fnB Tryz.prog 41 = true := by kernel_rfl
theorem fn42 : fnB Tryz.prog 42 = true := by kernel_rfl
theorem fn43 : fnB Tryz.prog 43 = true := by kernel_rfl
theorem fn44 : fnB Tryz.prog 44 = true := by kernel_rfl
theorem fn45 : fnB Tryz.prog 45 = true := by kernel_rfl
theorem fn51 : fnB Tryz.prog 51 = true := by kernel_rfl
theorem fn52 : fnB Tryz.prog 52 = true := by kernel_rfl
theorem fn53 : fnB Tryz.prog 53 = true := by kernel_rfl
theorem fn54 : fnB Tryz.prog 54 = true := by kernel_rfl
theorem fn55 : fnB Tryz.prog 55 = true := by kernel_rfl
theorem fn56 : fnB Tryz.prog 56 = true := by kernel_rfl
theorem fn59 : fnB Tryz.prog 59 = true := by kernel_rfl
theorem fn60 : fnB Tryz.prog 60 = true := by kernel_rfl
theorem fn61 : fnB Tryz.prog 61 = true := by kernel_rfl
theorem fn62 : fnB Tryz.prog 62 = true := by kernel_rfl
theorem fn63 : fnB Tryz.prog 63 = true := by kernel_rfl
theorem fn64 : fnB Tryz.prog 64 = true := by kernel_rfl
theorem fn65 : fnB Tryz.prog 65 = true := by kernel_rfl
theorem fn66 : fnB Tryz.prog 66 = true := by kernel_rfl
theorem fn67 : fnB Tryz.prog 67 = true := by kernel_rfl
theorem fn68 : fnB Tryz.prog 68 = true := by kernel_rfl
theorem fn69 : fnB Tryz.prog 69 = true := by kernel_rfl
theorem fn70 : fnB Tryz.prog 70 = true := by kernel_rfl
theorem fn71 : fnB Tryz.prog 71 = true := by kernel_rfl
theorem fn72 : fnB Tryz.prog 72 = true := by kernel_rfl
theorem fn74 : fnB Tryz.prog 74 = true := by kernel_rfl
theorem fn75 : fnB Tryz.prog 75 = true := by kernel_rfl
theorem fn80 : fnB Tryz.prog 80 = true := by kernel_rfl
theorem fn81 : fnB Tryz.prog 81 = true := by kernel_rfl
theorem fn82 : fnB Tryz.prog 82 = true := by kernel_rfl
theorem fn83 : fnB Tryz.prog 83 = true := by kernel_rfl
theorem fn84 : fnB Tryz.prog 84 = true := by kernel_rfl
theorem fn85 : fnB Tryz.prog 85 = true := by kernel_rfl
theorem fn86 : fnB Tryz.prog 86 = true := by kernel_rfl
theorem fn87 : fnB Tryz.prog 87 = true := by kernel_rfl
theorem fn89 : fnB Tryz.prog 89 = true := by kernel_rfl
theorem fn91 : fnB Tryz.prog 91 = true := by kernel_rfl
theorem fn92 : fnB Tryz.prog 92 = true := by kernel_rfl
theorem fn93 : fnB Tryz.prog 93 = true := by kernel_rfl
theorem fn96 : fnB Tryz.prog 96 = true := by kernel_rfl
theorem fn97 : fnB Tryz.prog 97 = true := by kernel_rfl
theorem fn98 : fnB Tryz.prog 98 = true := by kernel_rfl
theorem fn99 : fnB Tryz.prog 99 = true := by kernel_rfl
theorem fn100 : fnB Tryz.prog 100 = true := by kernel_rfl
theorem fn101 : fnB Tryz.prog 101 = true := by kernel_rfl
theorem fn102 : fnB Tryz.prog 102 = true := by kernel_rfl
theorem fn103 : fnB Tryz.prog 103 = true := by kernel_rfl
theorem fn104 : fnB Tryz.prog 104 = true := by kernel_rfl
theorem fn105 : fnB Tryz.prog 105 = true := by kernel_rfl
theorem fn106 : fnB Tryz.prog 106 = true := by kernel_rfl
theorem fn107 : fnB Tryz.prog 107 = true := by kernel_rfl
theorem fn108 : fnB Tryz.prog 108 = true := by kernel_rfl
theorem fn111 : fnB Tryz.prog 111 = true := by kernel_rfl
theorem fn112 : fnB Tryz.prog 112 = true := by kernel_rfl
theorem fn114 : fnB Tryz.prog 114 = true := by kernel_rfl
theorem fn115 : fnB Tryz.prog 115 = true := by kernel_rfl
theorem fn119 : fnB Tryz.prog 119 = true := by kernel_rfl
theorem fn120 : fnB Tryz.prog 120 = true := by kernel_rfl
theorem fn121 : fnB Tryz.prog 121 = true := by kernel_rfl
theorem fn122 : fnB Tryz.prog 122 = true := by kernel_rfl
theorem fn134 : fnB Tryz.prog 134 = true := by kernel_rfl
theorem fn135 : fnB Tryz.prog 135 = true := by kernel_rfl
theorem fn136 : fnB Tryz.prog 136 = true := by kernel_rfl
theorem fn137 : fnB Tryz.prog 137 = true := by kernel_rfl
theorem fn138 : fnB Tryz.prog 138 = true := by kernel_rfl
theorem fn139 : fnB Tryz.prog 139 = true := by kernel_rfl
theorem fn140 : fnB Tryz.prog 140 = true := by kernel_rfl
theorem fn141 : fnB Tryz.prog 141 = true := by kernel_rfl
theorem fn142 : fnB Tryz.prog 142 = true := by kernel_rfl
theorem fn143 : fnB Tryz.prog 143 = true := by kernel_rfl
theorem fn144 : fnB Tryz.prog 144 = true := by kernel_rfl
theorem fn145 : fnB Tryz.prog 145 = true := by kernel_rfl
theorem fn147 : fnB Tryz.prog 147 = true := by kernel_rfl
theorem fn152 : fnB Tryz.prog 152 = true := by kernel_rfl
theorem fn153 : fnB Tryz.prog 153 = true := by kernel_rfl
theorem fn154 : fnB Tryz.prog 154 = true := by kernel_rfl
theorem fn155 : fnB Tryz.prog 155 = true := by kernel_rfl
theorem fn156 : fnB Tryz.prog 156 = true := by kernel_rfl
theorem fn162 : fnB Tryz.prog 162 = true := by kernel_rfl
theorem fn163 : fnB Tryz.prog 163 = true := by kernel_rfl
theorem fn164 : fnB Tryz.prog 164 = true := by kernel_rfl
theorem fn165 : fnB Tryz.prog 165 = true := by kernel_rfl
theorem fn166 : fnB Tryz.prog 166 = true := by kernel_rfl
theorem fn168 : fnB Tryz.prog 168 = true := by kernel_rfl
theorem fn176 : fnB Tryz.prog 176 = true := by kernel_rfl
theorem fn177 : fnB Tryz.prog 177 = true := by kernel_rfl
theorem fn178 : fnB Tryz.prog 178 = true := by kernel_rfl
theorem fn179 : fnB Tryz.prog 179 = true := by kernel_rfl
theorem fn181 : fnB Tryz.prog 181 = true := by kernel_rfl
theorem fn182 : fnB Tryz.prog 182 = true := by kernel_rfl
theorem fn189 : fnB Tryz.prog 189 = true := by kernel_rfl
theorem fn194 : fnB Tryz.prog 194 = true := by kernel_rfl
theorem fn195 : fnB Tryz.prog 195 = true := by kernel_rfl
end Go.Proofs.YtnnoafgdjjpidaaGreatDoor.Fx
