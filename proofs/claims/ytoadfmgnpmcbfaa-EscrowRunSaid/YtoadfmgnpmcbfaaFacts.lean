/- Closed facts of this translation: how many cells a type takes, which functions can be called. Printed by a program of ours. -/
import Derived.Test.YtoadfmgnpmcbfaaProg
import Derived.Test.YtoadfmgnpmcbfaaFk
import Derived.KernelRfl
namespace Go.Proofs.Ytoadfmgnpmcbfaa
open Go Go.Fk
theorem mixed : Try.prog.follows .mixedOrders = true := by kernel_rfl
theorem cells1 : Try.prog.cellsOf 1 = 1 := by kernel_rfl
theorem cells2 : Try.prog.cellsOf 2 = 1 := by kernel_rfl
theorem cells3 : Try.prog.cellsOf 3 = 1 := by kernel_rfl
theorem cells4 : Try.prog.cellsOf 4 = 1 := by kernel_rfl
theorem cells5 : Try.prog.cellsOf 5 = 1 := by kernel_rfl
theorem cells6 : Try.prog.cellsOf 6 = 1 := by kernel_rfl
theorem cells7 : Try.prog.cellsOf 7 = 4 := by kernel_rfl
theorem cells8 : Try.prog.cellsOf 8 = 4 := by kernel_rfl
theorem cells9 : Try.prog.cellsOf 9 = 1 := by kernel_rfl
theorem cells10 : Try.prog.cellsOf 10 = 1 := by kernel_rfl
theorem cells11 : Try.prog.cellsOf 11 = 1 := by kernel_rfl
theorem cells12 : Try.prog.cellsOf 12 = 1 := by kernel_rfl
theorem cells13 : Try.prog.cellsOf 13 = 2 := by kernel_rfl
theorem cells14 : Try.prog.cellsOf 14 = 2 := by kernel_rfl
theorem cells15 : Try.prog.cellsOf 15 = 1 := by kernel_rfl
theorem cells16 : Try.prog.cellsOf 16 = 1 := by kernel_rfl
theorem cells17 : Try.prog.cellsOf 17 = 1 := by kernel_rfl
theorem cells18 : Try.prog.cellsOf 18 = 1 := by kernel_rfl
theorem cells19 : Try.prog.cellsOf 19 = 1 := by kernel_rfl
theorem cells21 : Try.prog.cellsOf 21 = 1 := by kernel_rfl
theorem cells22 : Try.prog.cellsOf 22 = 1 := by kernel_rfl
theorem cells23 : Try.prog.cellsOf 23 = 2 := by kernel_rfl
theorem cells24 : Try.prog.cellsOf 24 = 2 := by kernel_rfl
theorem cells25 : Try.prog.cellsOf 25 = 1 := by kernel_rfl
theorem cells26 : Try.prog.cellsOf 26 = 1 := by kernel_rfl
theorem cells27 : Try.prog.cellsOf 27 = 3 := by kernel_rfl
theorem cells28 : Try.prog.cellsOf 28 = 3 := by kernel_rfl
theorem cells29 : Try.prog.cellsOf 29 = 1 := by kernel_rfl
theorem cells30 : Try.prog.cellsOf 30 = 1 := by kernel_rfl
theorem cells31 : Try.prog.cellsOf 31 = 3 := by kernel_rfl
theorem cells32 : Try.prog.cellsOf 32 = 3 := by kernel_rfl
theorem cells33 : Try.prog.cellsOf 33 = 1 := by kernel_rfl
theorem cells34 : Try.prog.cellsOf 34 = 1 := by kernel_rfl
theorem cells35 : Try.prog.cellsOf 35 = 1 := by kernel_rfl
theorem cells36 : Try.prog.cellsOf 36 = 1 := by kernel_rfl
theorem cells38 : Try.prog.cellsOf 38 = 1 := by kernel_rfl
theorem cells39 : Try.prog.cellsOf 39 = 1 := by kernel_rfl
theorem cells40 : Try.prog.cellsOf 40 = 6 := by kernel_rfl
theorem cells41 : Try.prog.cellsOf 41 = 6 := by kernel_rfl
theorem cells42 : Try.prog.cellsOf 42 = 1 := by kernel_rfl
theorem cells43 : Try.prog.cellsOf 43 = 1 := by kernel_rfl
theorem cells44 : Try.prog.cellsOf 44 = 6 := by kernel_rfl
theorem cells45 : Try.prog.cellsOf 45 = 6 := by kernel_rfl
theorem cells46 : Try.prog.cellsOf 46 = 3 := by kernel_rfl
theorem cells47 : Try.prog.cellsOf 47 = 3 := by kernel_rfl
theorem cells48 : Try.prog.cellsOf 48 = 1 := by kernel_rfl
theorem cells50 : Try.prog.cellsOf 50 = 1 := by kernel_rfl
theorem cells51 : Try.prog.cellsOf 51 = 1 := by kernel_rfl
theorem cells52 : Try.prog.cellsOf 52 = 1 := by kernel_rfl
theorem cells53 : Try.prog.cellsOf 53 = 1 := by kernel_rfl
theorem cells54 : Try.prog.cellsOf 54 = 1 := by kernel_rfl
theorem cells55 : Try.prog.cellsOf 55 = 1 := by kernel_rfl
theorem cells56 : Try.prog.cellsOf 56 = 1 := by kernel_rfl
theorem cells57 : Try.prog.cellsOf 57 = 1 := by kernel_rfl
theorem cells58 : Try.prog.cellsOf 58 = 2 := by kernel_rfl
theorem cells59 : Try.prog.cellsOf 59 = 2 := by kernel_rfl
theorem cells60 : Try.prog.cellsOf 60 = 1 := by kernel_rfl
theorem cells61 : Try.prog.cellsOf 61 = 1 := by kernel_rfl
theorem cells62 : Try.prog.cellsOf 62 = 1 := by kernel_rfl
theorem cells63 : Try.prog.cellsOf 63 = 11 := by kernel_rfl
theorem cells64 : Try.prog.cellsOf 64 = 11 := by kernel_rfl
theorem cells66 : Try.prog.cellsOf 66 = 1 := by kernel_rfl
theorem cells67 : Try.prog.cellsOf 67 = 1 := by kernel_rfl
theorem cells69 : Try.prog.cellsOf 69 = 1 := by kernel_rfl
theorem cells70 : Try.prog.cellsOf 70 = 3 := by kernel_rfl
theorem cells71 : Try.prog.cellsOf 71 = 3 := by kernel_rfl
theorem cells73 : Try.prog.cellsOf 73 = 1 := by kernel_rfl
theorem cells74 : Try.prog.cellsOf 74 = 1 := by kernel_rfl
theorem cells75 : Try.prog.cellsOf 75 = 1 := by kernel_rfl
theorem cells76 : Try.prog.cellsOf 76 = 1 := by kernel_rfl
theorem cells77 : Try.prog.cellsOf 77 = 1 := by kernel_rfl
theorem cells78 : Try.prog.cellsOf 78 = 1 := by kernel_rfl
theorem cells79 : Try.prog.cellsOf 79 = 1 := by kernel_rfl
theorem cells80 : Try.prog.cellsOf 80 = 1 := by kernel_rfl
theorem cells81 : Try.prog.cellsOf 81 = 1 := by kernel_rfl
theorem cells82 : Try.prog.cellsOf 82 = 1 := by kernel_rfl
theorem cells84 : Try.prog.cellsOf 84 = 1 := by kernel_rfl
theorem cells85 : Try.prog.cellsOf 85 = 1 := by kernel_rfl
theorem cells86 : Try.prog.cellsOf 86 = 1 := by kernel_rfl
theorem cells87 : Try.prog.cellsOf 87 = 1 := by kernel_rfl
theorem cells88 : Try.prog.cellsOf 88 = 2 := by kernel_rfl
theorem cells89 : Try.prog.cellsOf 89 = 2 := by kernel_rfl
theorem cells90 : Try.prog.cellsOf 90 = 1 := by kernel_rfl
theorem cells91 : Try.prog.cellsOf 91 = 1 := by kernel_rfl
theorem cells92 : Try.prog.cellsOf 92 = 1 := by kernel_rfl
theorem cells93 : Try.prog.cellsOf 93 = 2 := by kernel_rfl
theorem cells94 : Try.prog.cellsOf 94 = 2 := by kernel_rfl
theorem cells95 : Try.prog.cellsOf 95 = 1 := by kernel_rfl
theorem cells96 : Try.prog.cellsOf 96 = 1 := by kernel_rfl
theorem cells97 : Try.prog.cellsOf 97 = 1 := by kernel_rfl
theorem cells98 : Try.prog.cellsOf 98 = 1 := by kernel_rfl
theorem cells100 : Try.prog.cellsOf 100 = 1 := by kernel_rfl
theorem cells101 : Try.prog.cellsOf 101 = 1 := by kernel_rfl
theorem cells102 : Try.prog.cellsOf 102 = 1 := by kernel_rfl
theorem cells103 : Try.prog.cellsOf 103 = 1 := by kernel_rfl
theorem cells104 : Try.prog.cellsOf 104 = 1 := by kernel_rfl
theorem cells105 : Try.prog.cellsOf 105 = 1 := by kernel_rfl
theorem cells106 : Try.prog.cellsOf 106 = 1 := by kernel_rfl
theorem cells107 : Try.prog.cellsOf 107 = 1 := by kernel_rfl
theorem cells108 : Try.prog.cellsOf 108 = 1 := by kernel_rfl
theorem cells109 : Try.prog.cellsOf 109 = 1 := by kernel_rfl
theorem cells110 : Try.prog.cellsOf 110 = 1 := by kernel_rfl
theorem cells111 : Try.prog.cellsOf 111 = 1 := by kernel_rfl
theorem cells112 : Try.prog.cellsOf 112 = 23 := by kernel_rfl
theorem cells113 : Try.prog.cellsOf 113 = 23 := by kernel_rfl
theorem cells114 : Try.prog.cellsOf 114 = 1 := by kernel_rfl
theorem cells115 : Try.prog.cellsOf 115 = 1 := by kernel_rfl
theorem cells116 : Try.prog.cellsOf 116 = 1 := by kernel_rfl
theorem cells117 : Try.prog.cellsOf 117 = 1 := by kernel_rfl
theorem cells118 : Try.prog.cellsOf 118 = 1 := by kernel_rfl
theorem cells119 : Try.prog.cellsOf 119 = 1 := by kernel_rfl
theorem cells121 : Try.prog.cellsOf 121 = 1 := by kernel_rfl
theorem cells122 : Try.prog.cellsOf 122 = 1 := by kernel_rfl
theorem cells124 : Try.prog.cellsOf 124 = 1 := by kernel_rfl
theorem cells125 : Try.prog.cellsOf 125 = 1 := by kernel_rfl
theorem cells126 : Try.prog.cellsOf 126 = 1 := by kernel_rfl
theorem cells127 : Try.prog.cellsOf 127 = 1 := by kernel_rfl
theorem cells128 : Try.prog.cellsOf 128 = 2 := by kernel_rfl
theorem cells129 : Try.prog.cellsOf 129 = 2 := by kernel_rfl
theorem cells130 : Try.prog.cellsOf 130 = 1 := by kernel_rfl
theorem cells131 : Try.prog.cellsOf 131 = 1 := by kernel_rfl
theorem cells132 : Try.prog.cellsOf 132 = 7 := by kernel_rfl
theorem cells133 : Try.prog.cellsOf 133 = 7 := by kernel_rfl
theorem cells134 : Try.prog.cellsOf 134 = 1 := by kernel_rfl
theorem cells135 : Try.prog.cellsOf 135 = 1 := by kernel_rfl
theorem cells137 : Try.prog.cellsOf 137 = 1 := by kernel_rfl
theorem cells138 : Try.prog.cellsOf 138 = 1 := by kernel_rfl
theorem cells139 : Try.prog.cellsOf 139 = 1 := by kernel_rfl
theorem cells140 : Try.prog.cellsOf 140 = 1 := by kernel_rfl
theorem cells141 : Try.prog.cellsOf 141 = 1 := by kernel_rfl
theorem cells142 : Try.prog.cellsOf 142 = 1 := by kernel_rfl
theorem cells143 : Try.prog.cellsOf 143 = 1 := by kernel_rfl
theorem cells144 : Try.prog.cellsOf 144 = 1 := by kernel_rfl
theorem cells145 : Try.prog.cellsOf 145 = 1 := by kernel_rfl
theorem cells146 : Try.prog.cellsOf 146 = 1 := by kernel_rfl
theorem cells147 : Try.prog.cellsOf 147 = 1 := by kernel_rfl
theorem cells148 : Try.prog.cellsOf 148 = 1 := by kernel_rfl
theorem cells149 : Try.prog.cellsOf 149 = 1 := by kernel_rfl
theorem cells150 : Try.prog.cellsOf 150 = 4 := by kernel_rfl
theorem cells151 : Try.prog.cellsOf 151 = 4 := by kernel_rfl
theorem cells152 : Try.prog.cellsOf 152 = 0 := by kernel_rfl
theorem cells153 : Try.prog.cellsOf 153 = 0 := by kernel_rfl
theorem cells154 : Try.prog.cellsOf 154 = 0 := by kernel_rfl
theorem cells155 : Try.prog.cellsOf 155 = 1 := by kernel_rfl
theorem cells156 : Try.prog.cellsOf 156 = 1 := by kernel_rfl
theorem cells157 : Try.prog.cellsOf 157 = 1 := by kernel_rfl
theorem cells158 : Try.prog.cellsOf 158 = 1 := by kernel_rfl
theorem cells159 : Try.prog.cellsOf 159 = 1 := by kernel_rfl
theorem cells160 : Try.prog.cellsOf 160 = 1 := by kernel_rfl
theorem cells161 : Try.prog.cellsOf 161 = 11 := by kernel_rfl
theorem cells162 : Try.prog.cellsOf 162 = 11 := by kernel_rfl
theorem ti1 : TI Try.prog 1 (.nilFunc) 1 8 := ⟨by kernel_rfl⟩
theorem ti2 : TI Try.prog 2 (.int .i64 0) 1 8 := ⟨by kernel_rfl⟩
theorem ti3 : TI Try.prog 3 (.int .i64 0) 1 8 := ⟨by kernel_rfl⟩
theorem ti4 : TI Try.prog 4 (.bool false) 1 1 := ⟨by kernel_rfl⟩
theorem ti5 : TI Try.prog 5 (.int .u8 0) 1 1 := ⟨by kernel_rfl⟩
theorem ti6 : TI Try.prog 6 (.int .u8 0) 1 1 := ⟨by kernel_rfl⟩
theorem ti7 : TI Try.prog 7 (.agg #[.int .i64 0, .int .i64 0, .bool false, .int .u8 0]) 4 24 := ⟨by kernel_rfl⟩
theorem ti8 : TI Try.prog 8 (.agg #[.int .i64 0, .int .i64 0, .bool false, .int .u8 0]) 4 24 := ⟨by kernel_rfl⟩
theorem ti9 : TI Try.prog 9 (.string ByteArray.empty) 1 16 := ⟨by kernel_rfl⟩
theorem ti10 : TI Try.prog 10 (.string ByteArray.empty) 1 16 := ⟨by kernel_rfl⟩
theorem ti11 : TI Try.prog 11 (.string ByteArray.empty) 1 16 := ⟨by kernel_rfl⟩
theorem ti12 : TI Try.prog 12 (.int .u64 0) 1 8 := ⟨by kernel_rfl⟩
theorem ti13 : TI Try.prog 13 (.agg #[.string ByteArray.empty, .int .u64 0]) 2 24 := ⟨by kernel_rfl⟩
theorem ti14 : TI Try.prog 14 (.agg #[.string ByteArray.empty, .int .u64 0]) 2 24 := ⟨by kernel_rfl⟩
theorem ti15 : TI Try.prog 15 (.pointer none) 1 8 := ⟨by kernel_rfl⟩
theorem ti16 : TI Try.prog 16 (.pointer none) 1 8 := ⟨by kernel_rfl⟩
theorem ti17 : TI Try.prog 17 (.pointer none) 1 8 := ⟨by kernel_rfl⟩
theorem ti18 : TI Try.prog 18 (.agg #[.pointer none]) 1 8 := ⟨by kernel_rfl⟩
theorem ti19 : TI Try.prog 19 (.agg #[.pointer none]) 1 8 := ⟨by kernel_rfl⟩
theorem ti21 : TI Try.prog 21 (.int .i32 0) 1 4 := ⟨by kernel_rfl⟩
theorem ti22 : TI Try.prog 22 (.slice none 0 0) 1 24 := ⟨by kernel_rfl⟩
theorem ti23 : TI Try.prog 23 (.agg #[.int .i64 0, .slice none 0 0]) 2 32 := ⟨by kernel_rfl⟩
theorem ti24 : TI Try.prog 24 (.agg #[.int .i64 0, .slice none 0 0]) 2 32 := ⟨by kernel_rfl⟩
theorem ti25 : TI Try.prog 25 (.slice none 0 0) 1 24 := ⟨by kernel_rfl⟩
theorem ti26 : TI Try.prog 26 (.slice none 0 0) 1 24 := ⟨by kernel_rfl⟩
theorem ti27 : TI Try.prog 27 (.agg #[.slice none 0 0, .slice none 0 0, .slice none 0 0]) 3 72 := ⟨by kernel_rfl⟩
theorem ti28 : TI Try.prog 28 (.agg #[.slice none 0 0, .slice none 0 0, .slice none 0 0]) 3 72 := ⟨by kernel_rfl⟩
theorem ti29 : TI Try.prog 29 (.slice none 0 0) 1 24 := ⟨by kernel_rfl⟩
theorem ti30 : TI Try.prog 30 (.slice none 0 0) 1 24 := ⟨by kernel_rfl⟩
theorem ti31 : TI Try.prog 31 (.agg #[.slice none 0 0, .slice none 0 0, .slice none 0 0]) 3 72 := ⟨by kernel_rfl⟩
theorem ti32 : TI Try.prog 32 (.agg #[.slice none 0 0, .slice none 0 0, .slice none 0 0]) 3 72 := ⟨by kernel_rfl⟩
theorem ti33 : TI Try.prog 33 (.nilFunc) 1 8 := ⟨by kernel_rfl⟩
theorem ti34 : TI Try.prog 34 (.nilFunc) 1 8 := ⟨by kernel_rfl⟩
theorem ti35 : TI Try.prog 35 (.slice none 0 0) 1 24 := ⟨by kernel_rfl⟩
theorem ti36 : TI Try.prog 36 (.int .i64 0) 1 8 := ⟨by kernel_rfl⟩
theorem ti38 : TI Try.prog 38 (.nilFunc) 1 8 := ⟨by kernel_rfl⟩
theorem ti39 : TI Try.prog 39 (.nilFunc) 1 8 := ⟨by kernel_rfl⟩
theorem ti40 : TI Try.prog 40 (.agg #[.int .i64 0, .int .i64 0, .int .i64 0, .int .i64 0, .int .i64 0, .int .i64 0]) 6 48 := ⟨by kernel_rfl⟩
theorem ti41 : TI Try.prog 41 (.agg #[.int .i64 0, .int .i64 0, .int .i64 0, .int .i64 0, .int .i64 0, .int .i64 0]) 6 48 := ⟨by kernel_rfl⟩
theorem ti42 : TI Try.prog 42 (.slice none 0 0) 1 24 := ⟨by kernel_rfl⟩
theorem ti43 : TI Try.prog 43 (.slice none 0 0) 1 24 := ⟨by kernel_rfl⟩
theorem ti44 : TI Try.prog 44 (.agg #[.slice none 0 0, .slice none 0 0, .int .i64 0, .int .i64 0, .slice none 0 0, .slice none 0 0]) 6 112 := ⟨by kernel_rfl⟩
theorem ti45 : TI Try.prog 45 (.agg #[.slice none 0 0, .slice none 0 0, .int .i64 0, .int .i64 0, .slice none 0 0, .slice none 0 0]) 6 112 := ⟨by kernel_rfl⟩
theorem ti46 : TI Try.prog 46 (.agg #[.int .i64 0, .int .i64 0, .int .i64 0]) 3 24 := ⟨by kernel_rfl⟩
theorem ti47 : TI Try.prog 47 (.agg #[.int .i64 0, .int .i64 0, .int .i64 0]) 3 24 := ⟨by kernel_rfl⟩
theorem ti48 : TI Try.prog 48 (.nilFunc) 1 8 := ⟨by kernel_rfl⟩
theorem ti50 : TI Try.prog 50 (.nilFunc) 1 8 := ⟨by kernel_rfl⟩
theorem ti51 : TI Try.prog 51 (.nilFunc) 1 8 := ⟨by kernel_rfl⟩
theorem ti52 : TI Try.prog 52 (.nilFunc) 1 8 := ⟨by kernel_rfl⟩
theorem ti53 : TI Try.prog 53 (.nilFunc) 1 8 := ⟨by kernel_rfl⟩
theorem ti54 : TI Try.prog 54 (.nilFunc) 1 8 := ⟨by kernel_rfl⟩
theorem ti55 : TI Try.prog 55 (.nilFunc) 1 8 := ⟨by kernel_rfl⟩
theorem ti56 : TI Try.prog 56 (.slice none 0 0) 1 24 := ⟨by kernel_rfl⟩
theorem ti57 : TI Try.prog 57 (.pointer none) 1 8 := ⟨by kernel_rfl⟩
theorem ti58 : TI Try.prog 58 (.agg #[.int .i64 0, .slice none 0 0]) 2 32 := ⟨by kernel_rfl⟩
theorem ti59 : TI Try.prog 59 (.agg #[.int .i64 0, .slice none 0 0]) 2 32 := ⟨by kernel_rfl⟩
theorem ti60 : TI Try.prog 60 (.nilFunc) 1 8 := ⟨by kernel_rfl⟩
theorem ti61 : TI Try.prog 61 (.nilFunc) 1 8 := ⟨by kernel_rfl⟩
theorem ti62 : TI Try.prog 62 (.nilFunc) 1 8 := ⟨by kernel_rfl⟩
theorem ti63 : TI Try.prog 63 (.agg #[.int .i64 0, .int .i64 0, .int .i64 0, .int .i64 0, .int .i64 0, .int .i64 0, .int .i64 0, .int .i64 0, .slice none 0 0, .bool false, .int .i64 0]) 11 104 := ⟨by kernel_rfl⟩
theorem ti64 : TI Try.prog 64 (.agg #[.int .i64 0, .int .i64 0, .int .i64 0, .int .i64 0, .int .i64 0, .int .i64 0, .int .i64 0, .int .i64 0, .slice none 0 0, .bool false, .int .i64 0]) 11 104 := ⟨by kernel_rfl⟩
theorem ti66 : TI Try.prog 66 (.nilFunc) 1 8 := ⟨by kernel_rfl⟩
theorem ti67 : TI Try.prog 67 (.nilFunc) 1 8 := ⟨by kernel_rfl⟩
theorem ti69 : TI Try.prog 69 (.nilFunc) 1 8 := ⟨by kernel_rfl⟩
theorem ti70 : TI Try.prog 70 (.agg #[.int .i64 0, .int .i64 0, .int .i64 0]) 3 24 := ⟨by kernel_rfl⟩
theorem ti71 : TI Try.prog 71 (.agg #[.int .i64 0, .int .i64 0, .int .i64 0]) 3 24 := ⟨by kernel_rfl⟩
theorem ti73 : TI Try.prog 73 (.nilFunc) 1 8 := ⟨by kernel_rfl⟩
theorem ti74 : TI Try.prog 74 (.nilFunc) 1 8 := ⟨by kernel_rfl⟩
theorem ti75 : TI Try.prog 75 (.nilFunc) 1 8 := ⟨by kernel_rfl⟩
theorem ti76 : TI Try.prog 76 (.nilFunc) 1 8 := ⟨by kernel_rfl⟩
theorem ti77 : TI Try.prog 77 (.nilFunc) 1 8 := ⟨by kernel_rfl⟩
theorem ti78 : TI Try.prog 78 (.nilFunc) 1 8 := ⟨by kernel_rfl⟩
theorem ti79 : TI Try.prog 79 (.nilFunc) 1 8 := ⟨by kernel_rfl⟩
theorem ti80 : TI Try.prog 80 (.nilFunc) 1 8 := ⟨by kernel_rfl⟩
theorem ti81 : TI Try.prog 81 (.nilFunc) 1 8 := ⟨by kernel_rfl⟩
theorem ti82 : TI Try.prog 82 (.nilFunc) 1 8 := ⟨by kernel_rfl⟩
theorem ti84 : TI Try.prog 84 (.nilFunc) 1 8 := ⟨by kernel_rfl⟩
theorem ti85 : TI Try.prog 85 (.nilFunc) 1 8 := ⟨by kernel_rfl⟩
theorem ti86 : TI Try.prog 86 (.nilFunc) 1 8 := ⟨by kernel_rfl⟩
theorem ti87 : TI Try.prog 87 (.map none) 1 8 := ⟨by kernel_rfl⟩
theorem ti88 : TI Try.prog 88 (.agg #[.int .i64 0, .int .i64 0]) 2 16 := ⟨by kernel_rfl⟩
theorem ti89 : TI Try.prog 89 (.agg #[.int .i64 0, .int .i64 0]) 2 16 := ⟨by kernel_rfl⟩
theorem ti90 : TI Try.prog 90 (.nilFunc) 1 8 := ⟨by kernel_rfl⟩
theorem ti91 : TI Try.prog 91 (.nilFunc) 1 8 := ⟨by kernel_rfl⟩
theorem ti92 : TI Try.prog 92 (.nilFunc) 1 8 := ⟨by kernel_rfl⟩
theorem ti93 : TI Try.prog 93 (.agg #[.int .i64 0, .int .i64 0]) 2 16 := ⟨by kernel_rfl⟩
theorem ti94 : TI Try.prog 94 (.agg #[.int .i64 0, .int .i64 0]) 2 16 := ⟨by kernel_rfl⟩
theorem ti95 : TI Try.prog 95 (.nilFunc) 1 8 := ⟨by kernel_rfl⟩
theorem ti96 : TI Try.prog 96 (.nilFunc) 1 8 := ⟨by kernel_rfl⟩
theorem ti97 : TI Try.prog 97 (.nilFunc) 1 8 := ⟨by kernel_rfl⟩
theorem ti98 : TI Try.prog 98 (.int .u64 0) 1 8 := ⟨by kernel_rfl⟩
theorem ti100 : TI Try.prog 100 (.nilFunc) 1 8 := ⟨by kernel_rfl⟩
theorem ti101 : TI Try.prog 101 (.nilFunc) 1 8 := ⟨by kernel_rfl⟩
theorem ti102 : TI Try.prog 102 (.nilFunc) 1 8 := ⟨by kernel_rfl⟩
theorem ti103 : TI Try.prog 103 (.nilFunc) 1 8 := ⟨by kernel_rfl⟩
theorem ti104 : TI Try.prog 104 (.nilFunc) 1 8 := ⟨by kernel_rfl⟩
theorem ti105 : TI Try.prog 105 (.nilFunc) 1 8 := ⟨by kernel_rfl⟩
theorem ti106 : TI Try.prog 106 (.nilFunc) 1 8 := ⟨by kernel_rfl⟩
theorem ti107 : TI Try.prog 107 (.nilFunc) 1 8 := ⟨by kernel_rfl⟩
theorem ti108 : TI Try.prog 108 (.nilFunc) 1 8 := ⟨by kernel_rfl⟩
theorem ti109 : TI Try.prog 109 (.nilFunc) 1 8 := ⟨by kernel_rfl⟩
theorem ti110 : TI Try.prog 110 (.nilFunc) 1 8 := ⟨by kernel_rfl⟩
theorem ti111 : TI Try.prog 111 (.nilFunc) 1 8 := ⟨by kernel_rfl⟩
theorem ti112 : TI Try.prog 112 (.agg #[.slice none 0 0, .slice none 0 0, .slice none 0 0, .slice none 0 0, .slice none 0 0, .int .i64 0, .int .i64 0, .slice none 0 0, .slice none 0 0, .int .i64 0, .int .i64 0, .int .i64 0, .int .i64 0, .int .i64 0, .int .i64 0, .int .i64 0, .int .i64 0, .slice none 0 0, .bool false, .int .i64 0, .int .i64 0, .int .i64 0, .int .i64 0]) 23 312 := ⟨by kernel_rfl⟩
theorem ti113 : TI Try.prog 113 (.agg #[.slice none 0 0, .slice none 0 0, .slice none 0 0, .slice none 0 0, .slice none 0 0, .int .i64 0, .int .i64 0, .slice none 0 0, .slice none 0 0, .int .i64 0, .int .i64 0, .int .i64 0, .int .i64 0, .int .i64 0, .int .i64 0, .int .i64 0, .int .i64 0, .slice none 0 0, .bool false, .int .i64 0, .int .i64 0, .int .i64 0, .int .i64 0]) 23 312 := ⟨by kernel_rfl⟩
theorem ti114 : TI Try.prog 114 (.nilFunc) 1 8 := ⟨by kernel_rfl⟩
theorem ti115 : TI Try.prog 115 (.slice none 0 0) 1 24 := ⟨by kernel_rfl⟩
theorem ti116 : TI Try.prog 116 (.nilFunc) 1 8 := ⟨by kernel_rfl⟩
theorem ti117 : TI Try.prog 117 (.nilFunc) 1 8 := ⟨by kernel_rfl⟩
theorem ti118 : TI Try.prog 118 (.nilFunc) 1 8 := ⟨by kernel_rfl⟩
theorem ti119 : TI Try.prog 119 (.int .u32 0) 1 4 := ⟨by kernel_rfl⟩
theorem ti121 : TI Try.prog 121 (.nilFunc) 1 8 := ⟨by kernel_rfl⟩
theorem ti122 : TI Try.prog 122 (.int .u64 0) 1 8 := ⟨by kernel_rfl⟩
theorem ti124 : TI Try.prog 124 (.nilFunc) 1 8 := ⟨by kernel_rfl⟩
theorem ti125 : TI Try.prog 125 (.nilFunc) 1 8 := ⟨by kernel_rfl⟩
theorem ti126 : TI Try.prog 126 (.nilFunc) 1 8 := ⟨by kernel_rfl⟩
theorem ti127 : TI Try.prog 127 (.nilFunc) 1 8 := ⟨by kernel_rfl⟩
theorem ti128 : TI Try.prog 128 (.agg #[.int .i64 0, .int .i64 0]) 2 16 := ⟨by kernel_rfl⟩
theorem ti129 : TI Try.prog 129 (.agg #[.int .i64 0, .int .i64 0]) 2 16 := ⟨by kernel_rfl⟩
theorem ti130 : TI Try.prog 130 (.nilFunc) 1 8 := ⟨by kernel_rfl⟩
theorem ti131 : TI Try.prog 131 (.nilFunc) 1 8 := ⟨by kernel_rfl⟩
theorem ti132 : TI Try.prog 132 (.agg #[.slice none 0 0, .slice none 0 0, .int .i64 0, .int .i64 0, .slice none 0 0, .slice none 0 0, .int .i64 0]) 7 120 := ⟨by kernel_rfl⟩
theorem ti133 : TI Try.prog 133 (.agg #[.slice none 0 0, .slice none 0 0, .int .i64 0, .int .i64 0, .slice none 0 0, .slice none 0 0, .int .i64 0]) 7 120 := ⟨by kernel_rfl⟩
theorem ti134 : TI Try.prog 134 (.nilFunc) 1 8 := ⟨by kernel_rfl⟩
theorem ti135 : TI Try.prog 135 (.nilFunc) 1 8 := ⟨by kernel_rfl⟩
theorem ti137 : TI Try.prog 137 (.nilFunc) 1 8 := ⟨by kernel_rfl⟩
theorem ti138 : TI Try.prog 138 (.nilFunc) 1 8 := ⟨by kernel_rfl⟩
theorem ti139 : TI Try.prog 139 (.nilFunc) 1 8 := ⟨by kernel_rfl⟩
theorem ti140 : TI Try.prog 140 (.nilFunc) 1 8 := ⟨by kernel_rfl⟩
theorem ti141 : TI Try.prog 141 (.nilFunc) 1 8 := ⟨by kernel_rfl⟩
theorem ti142 : TI Try.prog 142 (.nilFunc) 1 8 := ⟨by kernel_rfl⟩
theorem ti143 : TI Try.prog 143 (.nilFunc) 1 8 := ⟨by kernel_rfl⟩
theorem ti144 : TI Try.prog 144 (.nilFunc) 1 8 := ⟨by kernel_rfl⟩
theorem ti145 : TI Try.prog 145 (.nilFunc) 1 8 := ⟨by kernel_rfl⟩
theorem ti146 : TI Try.prog 146 (.nilFunc) 1 8 := ⟨by kernel_rfl⟩
theorem ti147 : TI Try.prog 147 (.slice none 0 0) 1 24 := ⟨by kernel_rfl⟩
theorem ti148 : TI Try.prog 148 (.nilFunc) 1 8 := ⟨by kernel_rfl⟩
theorem ti149 : TI Try.prog 149 (.nilFunc) 1 8 := ⟨by kernel_rfl⟩
theorem ti150 : TI Try.prog 150 (.agg #[.pointer none, .pointer none, .pointer none, .string ByteArray.empty]) 4 40 := ⟨by kernel_rfl⟩
theorem ti151 : TI Try.prog 151 (.agg #[.pointer none, .pointer none, .pointer none, .string ByteArray.empty]) 4 40 := ⟨by kernel_rfl⟩
theorem ti155 : TI Try.prog 155 (.int .u8 0) 1 1 := ⟨by kernel_rfl⟩
theorem ti156 : TI Try.prog 156 (.int .u8 0) 1 1 := ⟨by kernel_rfl⟩
theorem ti157 : TI Try.prog 157 (.nilFunc) 1 8 := ⟨by kernel_rfl⟩
theorem ti158 : TI Try.prog 158 (.pointer none) 1 8 := ⟨by kernel_rfl⟩
theorem ti159 : TI Try.prog 159 (.int .i32 0) 1 4 := ⟨by kernel_rfl⟩
theorem ti160 : TI Try.prog 160 (.int .i32 0) 1 4 := ⟨by kernel_rfl⟩
theorem ti161 : TI Try.prog 161 (.agg #[.int .u64 0, .int .u64 0, .int .u32 0, .int .u8 0, .int .u8 0, .int .u8 0, .int .u8 0, .nilFunc, .pointer none, .int .i32 0, .int .i32 0]) 11 48 := ⟨by kernel_rfl⟩
theorem ti162 : TI Try.prog 162 (.agg #[.int .u64 0, .int .u64 0, .int .u32 0, .int .u8 0, .int .u8 0, .int .u8 0, .int .u8 0, .nilFunc, .pointer none, .int .i32 0, .int .i32 0]) 11 48 := ⟨by kernel_rfl⟩
theorem call3 : callable Try.prog 3 = true := by kernel_rfl
theorem call4 : callable Try.prog 4 = true := by kernel_rfl
theorem call5 : callable Try.prog 5 = true := by kernel_rfl
theorem call6 : callable Try.prog 6 = true := by kernel_rfl
theorem call7 : callable Try.prog 7 = true := by kernel_rfl
theorem call8 : callable Try.prog 8 = true := by kernel_rfl
theorem call9 : callable Try.prog 9 = true := by kernel_rfl
theorem call10 : callable Try.prog 10 = true := by kernel_rfl
theorem call11 : callable Try.prog 11 = true := by kernel_rfl
theorem call12 : callable Try.prog 12 = true := by kernel_rfl
theorem call13 : callable Try.prog 13 = true := by kernel_rfl
theorem call14 : callable Try.prog 14 = true := by kernel_rfl
theorem call15 : callable Try.prog 15 = true := by kernel_rfl
theorem call16 : callable Try.prog 16 = true := by kernel_rfl
theorem call17 : callable Try.prog 17 = true := by kernel_rfl
theorem call18 : callable Try.prog 18 = true := by kernel_rfl
theorem call19 : callable Try.prog 19 = true := by kernel_rfl
theorem call20 : callable Try.prog 20 = true := by kernel_rfl
theorem call21 : callable Try.prog 21 = true := by kernel_rfl
theorem call22 : callable Try.prog 22 = true := by kernel_rfl
theorem call23 : callable Try.prog 23 = true := by kernel_rfl
theorem call24 : callable Try.prog 24 = true := by kernel_rfl
theorem call25 : callable Try.prog 25 = true := by kernel_rfl
theorem call26 : callable Try.prog 26 = true := by kernel_rfl
theorem call27 : callable Try.prog 27 = true := by kernel_rfl
theorem call28 : callable Try.prog 28 = true := by kernel_rfl
theorem call29 : callable Try.prog 29 = true := by kernel_rfl
theorem call30 : callable Try.prog 30 = true := by kernel_rfl
theorem call31 : callable Try.prog 31 = true := by kernel_rfl
theorem call32 : callable Try.prog 32 = true := by kernel_rfl
theorem call33 : callable Try.prog 33 = true := by kernel_rfl
theorem call34 : callable Try.prog 34 = true := by kernel_rfl
theorem call35 : callable Try.prog 35 = true := by kernel_rfl
theorem call36 : callable Try.prog 36 = true := by kernel_rfl
theorem call37 : callable Try.prog 37 = true := by kernel_rfl
theorem call38 : callable Try.prog 38 = true := by kernel_rfl
theorem call39 : callable Try.prog 39 = true := by kernel_rfl
theorem call40 : callable Try.prog 40 = true := by kernel_rfl
theorem call41 : callable Try.prog 41 = true := by kernel_rfl
theorem call42 : callable Try.prog 42 = true := by kernel_rfl
theorem call43 : callable Try.prog 43 = true := by kernel_rfl
theorem call44 : callable Try.prog 44 = true := by kernel_rfl
theorem call45 : callable Try.prog 45 = true := by kernel_rfl
theorem call46 : callable Try.prog 46 = true := by kernel_rfl
theorem call47 : callable Try.prog 47 = true := by kernel_rfl
theorem call48 : callable Try.prog 48 = true := by kernel_rfl
theorem call49 : callable Try.prog 49 = true := by kernel_rfl
theorem call50 : callable Try.prog 50 = true := by kernel_rfl
theorem call51 : callable Try.prog 51 = true := by kernel_rfl
theorem call52 : callable Try.prog 52 = true := by kernel_rfl
theorem call53 : callable Try.prog 53 = true := by kernel_rfl
theorem call54 : callable Try.prog 54 = true := by kernel_rfl
theorem call55 : callable Try.prog 55 = true := by kernel_rfl
theorem call56 : callable Try.prog 56 = true := by kernel_rfl
theorem call57 : callable Try.prog 57 = true := by kernel_rfl
theorem call58 : callable Try.prog 58 = true := by kernel_rfl
theorem call59 : callable Try.prog 59 = true := by kernel_rfl
theorem call60 : callable Try.prog 60 = true := by kernel_rfl
theorem call61 : callable Try.prog 61 = true := by kernel_rfl
theorem call62 : callable Try.prog 62 = true := by kernel_rfl
theorem call63 : callable Try.prog 63 = true := by kernel_rfl
theorem call64 : callable Try.prog 64 = true := by kernel_rfl
theorem call65 : callable Try.prog 65 = true := by kernel_rfl
theorem call66 : callable Try.prog 66 = true := by kernel_rfl
theorem call67 : callable Try.prog 67 = true := by kernel_rfl
theorem call68 : callable Try.prog 68 = true := by kernel_rfl
theorem call69 : callable Try.prog 69 = true := by kernel_rfl
theorem call70 : callable Try.prog 70 = true := by kernel_rfl
theorem call71 : callable Try.prog 71 = true := by kernel_rfl
theorem call72 : callable Try.prog 72 = true := by kernel_rfl
theorem call73 : callable Try.prog 73 = true := by kernel_rfl
theorem call74 : callable Try.prog 74 = true := by kernel_rfl
theorem call75 : callable Try.prog 75 = true := by kernel_rfl
theorem call76 : callable Try.prog 76 = true := by kernel_rfl
theorem call77 : callable Try.prog 77 = true := by kernel_rfl
theorem call78 : callable Try.prog 78 = true := by kernel_rfl
theorem call79 : callable Try.prog 79 = true := by kernel_rfl
theorem call80 : callable Try.prog 80 = true := by kernel_rfl
theorem call81 : callable Try.prog 81 = true := by kernel_rfl
theorem call82 : callable Try.prog 82 = true := by kernel_rfl
theorem call83 : callable Try.prog 83 = true := by kernel_rfl
theorem call84 : callable Try.prog 84 = true := by kernel_rfl
theorem call85 : callable Try.prog 85 = true := by kernel_rfl
theorem call86 : callable Try.prog 86 = true := by kernel_rfl
theorem call87 : callable Try.prog 87 = true := by kernel_rfl
theorem call88 : callable Try.prog 88 = true := by kernel_rfl
theorem call89 : callable Try.prog 89 = true := by kernel_rfl
theorem call90 : callable Try.prog 90 = true := by kernel_rfl
theorem call91 : callable Try.prog 91 = true := by kernel_rfl
theorem call92 : callable Try.prog 92 = true := by kernel_rfl
theorem call93 : callable Try.prog 93 = true := by kernel_rfl
theorem call94 : callable Try.prog 94 = true := by kernel_rfl
theorem call95 : callable Try.prog 95 = true := by kernel_rfl
theorem call96 : callable Try.prog 96 = true := by kernel_rfl
theorem call97 : callable Try.prog 97 = true := by kernel_rfl
theorem call98 : callable Try.prog 98 = true := by kernel_rfl
theorem call99 : callable Try.prog 99 = true := by kernel_rfl
theorem call100 : callable Try.prog 100 = true := by kernel_rfl
theorem call101 : callable Try.prog 101 = true := by kernel_rfl
theorem call102 : callable Try.prog 102 = true := by kernel_rfl
theorem call103 : callable Try.prog 103 = true := by kernel_rfl
theorem U1 : type_of% (aa @Try.underlying1 cells1) := aa @Try.underlying1 cells1
theorem U2 : type_of% (aa @Try.underlying2 cells2) := aa @Try.underlying2 cells2
theorem U3 : type_of% (aa @Try.underlying3 cells3) := aa @Try.underlying3 cells3
theorem U4 : type_of% (aa @Try.underlying4 cells4) := aa @Try.underlying4 cells4
theorem U5 : type_of% (aa @Try.underlying5 cells5) := aa @Try.underlying5 cells5
theorem U6 : type_of% (aa @Try.underlying6 cells6) := aa @Try.underlying6 cells6
theorem U7 : type_of% (aa @Try.underlying7 cells7) := aa @Try.underlying7 cells7
theorem U8 : type_of% (aa @Try.underlying8 cells8) := aa @Try.underlying8 cells8
theorem U9 : type_of% (aa @Try.underlying9 cells9) := aa @Try.underlying9 cells9
theorem U10 : type_of% (aa @Try.underlying10 cells10) := aa @Try.underlying10 cells10
theorem U11 : type_of% (aa @Try.underlying11 cells11) := aa @Try.underlying11 cells11
theorem U12 : type_of% (aa @Try.underlying12 cells12) := aa @Try.underlying12 cells12
theorem U13 : type_of% (aa @Try.underlying13 cells13) := aa @Try.underlying13 cells13
theorem U14 : type_of% (aa @Try.underlying14 cells14) := aa @Try.underlying14 cells14
theorem U15 : type_of% (aa @Try.underlying15 cells15) := aa @Try.underlying15 cells15
theorem U16 : type_of% (aa @Try.underlying16 cells16) := aa @Try.underlying16 cells16
theorem U17 : type_of% (aa @Try.underlying17 cells17) := aa @Try.underlying17 cells17
theorem U18 : type_of% (aa @Try.underlying18 cells18) := aa @Try.underlying18 cells18
theorem U19 : type_of% (aa @Try.underlying19 cells19) := aa @Try.underlying19 cells19
theorem U21 : type_of% (aa @Try.underlying21 cells21) := aa @Try.underlying21 cells21
theorem U22 : type_of% (aa @Try.underlying22 cells22) := aa @Try.underlying22 cells22
theorem U23 : type_of% (aa @Try.underlying23 cells23) := aa @Try.underlying23 cells23
theorem U24 : type_of% (aa @Try.underlying24 cells24) := aa @Try.underlying24 cells24
theorem U25 : type_of% (aa @Try.underlying25 cells25) := aa @Try.underlying25 cells25
theorem U26 : type_of% (aa @Try.underlying26 cells26) := aa @Try.underlying26 cells26
theorem U27 : type_of% (aa @Try.underlying27 cells27) := aa @Try.underlying27 cells27
theorem U28 : type_of% (aa @Try.underlying28 cells28) := aa @Try.underlying28 cells28
theorem U29 : type_of% (aa @Try.underlying29 cells29) := aa @Try.underlying29 cells29
theorem U30 : type_of% (aa @Try.underlying30 cells30) := aa @Try.underlying30 cells30
theorem U31 : type_of% (aa @Try.underlying31 cells31) := aa @Try.underlying31 cells31
theorem U32 : type_of% (aa @Try.underlying32 cells32) := aa @Try.underlying32 cells32
theorem U33 : type_of% (aa @Try.underlying33 cells33) := aa @Try.underlying33 cells33
theorem U34 : type_of% (aa @Try.underlying34 cells34) := aa @Try.underlying34 cells34
theorem U35 : type_of% (aa @Try.underlying35 cells35) := aa @Try.underlying35 cells35
theorem U36 : type_of% (aa @Try.underlying36 cells36) := aa @Try.underlying36 cells36
theorem U38 : type_of% (aa @Try.underlying38 cells38) := aa @Try.underlying38 cells38
theorem U39 : type_of% (aa @Try.underlying39 cells39) := aa @Try.underlying39 cells39
theorem U40 : type_of% (aa @Try.underlying40 cells40) := aa @Try.underlying40 cells40
theorem U41 : type_of% (aa @Try.underlying41 cells41) := aa @Try.underlying41 cells41
theorem U42 : type_of% (aa @Try.underlying42 cells42) := aa @Try.underlying42 cells42
theorem U43 : type_of% (aa @Try.underlying43 cells43) := aa @Try.underlying43 cells43
theorem U44 : type_of% (aa @Try.underlying44 cells44) := aa @Try.underlying44 cells44
theorem U45 : type_of% (aa @Try.underlying45 cells45) := aa @Try.underlying45 cells45
theorem U46 : type_of% (aa @Try.underlying46 cells46) := aa @Try.underlying46 cells46
theorem U47 : type_of% (aa @Try.underlying47 cells47) := aa @Try.underlying47 cells47
theorem U48 : type_of% (aa @Try.underlying48 cells48) := aa @Try.underlying48 cells48
theorem U50 : type_of% (aa @Try.underlying50 cells50) := aa @Try.underlying50 cells50
theorem U51 : type_of% (aa @Try.underlying51 cells51) := aa @Try.underlying51 cells51
theorem U52 : type_of% (aa @Try.underlying52 cells52) := aa @Try.underlying52 cells52
theorem U53 : type_of% (aa @Try.underlying53 cells53) := aa @Try.underlying53 cells53
theorem U54 : type_of% (aa @Try.underlying54 cells54) := aa @Try.underlying54 cells54
theorem U55 : type_of% (aa @Try.underlying55 cells55) := aa @Try.underlying55 cells55
theorem U56 : type_of% (aa @Try.underlying56 cells56) := aa @Try.underlying56 cells56
theorem U57 : type_of% (aa @Try.underlying57 cells57) := aa @Try.underlying57 cells57
theorem U58 : type_of% (aa @Try.underlying58 cells58) := aa @Try.underlying58 cells58
theorem U59 : type_of% (aa @Try.underlying59 cells59) := aa @Try.underlying59 cells59
theorem U60 : type_of% (aa @Try.underlying60 cells60) := aa @Try.underlying60 cells60
theorem U61 : type_of% (aa @Try.underlying61 cells61) := aa @Try.underlying61 cells61
theorem U62 : type_of% (aa @Try.underlying62 cells62) := aa @Try.underlying62 cells62
theorem U63 : type_of% (aa @Try.underlying63 cells63) := aa @Try.underlying63 cells63
theorem U64 : type_of% (aa @Try.underlying64 cells64) := aa @Try.underlying64 cells64
theorem U66 : type_of% (aa @Try.underlying66 cells66) := aa @Try.underlying66 cells66
theorem U67 : type_of% (aa @Try.underlying67 cells67) := aa @Try.underlying67 cells67
theorem U69 : type_of% (aa @Try.underlying69 cells69) := aa @Try.underlying69 cells69
theorem U70 : type_of% (aa @Try.underlying70 cells70) := aa @Try.underlying70 cells70
theorem U71 : type_of% (aa @Try.underlying71 cells71) := aa @Try.underlying71 cells71
theorem U73 : type_of% (aa @Try.underlying73 cells73) := aa @Try.underlying73 cells73
theorem U74 : type_of% (aa @Try.underlying74 cells74) := aa @Try.underlying74 cells74
theorem U75 : type_of% (aa @Try.underlying75 cells75) := aa @Try.underlying75 cells75
theorem U76 : type_of% (aa @Try.underlying76 cells76) := aa @Try.underlying76 cells76
theorem U77 : type_of% (aa @Try.underlying77 cells77) := aa @Try.underlying77 cells77
theorem U78 : type_of% (aa @Try.underlying78 cells78) := aa @Try.underlying78 cells78
theorem U79 : type_of% (aa @Try.underlying79 cells79) := aa @Try.underlying79 cells79
theorem U80 : type_of% (aa @Try.underlying80 cells80) := aa @Try.underlying80 cells80
theorem U81 : type_of% (aa @Try.underlying81 cells81) := aa @Try.underlying81 cells81
theorem U82 : type_of% (aa @Try.underlying82 cells82) := aa @Try.underlying82 cells82
theorem U84 : type_of% (aa @Try.underlying84 cells84) := aa @Try.underlying84 cells84
theorem U85 : type_of% (aa @Try.underlying85 cells85) := aa @Try.underlying85 cells85
theorem U86 : type_of% (aa @Try.underlying86 cells86) := aa @Try.underlying86 cells86
theorem U87 : type_of% (aa @Try.underlying87 cells87) := aa @Try.underlying87 cells87
theorem U88 : type_of% (aa @Try.underlying88 cells88) := aa @Try.underlying88 cells88
theorem U89 : type_of% (aa @Try.underlying89 cells89) := aa @Try.underlying89 cells89
theorem U90 : type_of% (aa @Try.underlying90 cells90) := aa @Try.underlying90 cells90
theorem U91 : type_of% (aa @Try.underlying91 cells91) := aa @Try.underlying91 cells91
theorem U92 : type_of% (aa @Try.underlying92 cells92) := aa @Try.underlying92 cells92
theorem U93 : type_of% (aa @Try.underlying93 cells93) := aa @Try.underlying93 cells93
theorem U94 : type_of% (aa @Try.underlying94 cells94) := aa @Try.underlying94 cells94
theorem U95 : type_of% (aa @Try.underlying95 cells95) := aa @Try.underlying95 cells95
theorem U96 : type_of% (aa @Try.underlying96 cells96) := aa @Try.underlying96 cells96
theorem U97 : type_of% (aa @Try.underlying97 cells97) := aa @Try.underlying97 cells97
theorem U98 : type_of% (aa @Try.underlying98 cells98) := aa @Try.underlying98 cells98
theorem U100 : type_of% (aa @Try.underlying100 cells100) := aa @Try.underlying100 cells100
theorem U101 : type_of% (aa @Try.underlying101 cells101) := aa @Try.underlying101 cells101
theorem U102 : type_of% (aa @Try.underlying102 cells102) := aa @Try.underlying102 cells102
theorem U103 : type_of% (aa @Try.underlying103 cells103) := aa @Try.underlying103 cells103
theorem U104 : type_of% (aa @Try.underlying104 cells104) := aa @Try.underlying104 cells104
theorem U105 : type_of% (aa @Try.underlying105 cells105) := aa @Try.underlying105 cells105
theorem U106 : type_of% (aa @Try.underlying106 cells106) := aa @Try.underlying106 cells106
theorem U107 : type_of% (aa @Try.underlying107 cells107) := aa @Try.underlying107 cells107
theorem U108 : type_of% (aa @Try.underlying108 cells108) := aa @Try.underlying108 cells108
theorem U109 : type_of% (aa @Try.underlying109 cells109) := aa @Try.underlying109 cells109
theorem U110 : type_of% (aa @Try.underlying110 cells110) := aa @Try.underlying110 cells110
theorem U111 : type_of% (aa @Try.underlying111 cells111) := aa @Try.underlying111 cells111
theorem U112 : type_of% (aa @Try.underlying112 cells112) := aa @Try.underlying112 cells112
theorem U113 : type_of% (aa @Try.underlying113 cells113) := aa @Try.underlying113 cells113
theorem U114 : type_of% (aa @Try.underlying114 cells114) := aa @Try.underlying114 cells114
theorem U115 : type_of% (aa @Try.underlying115 cells115) := aa @Try.underlying115 cells115
theorem U116 : type_of% (aa @Try.underlying116 cells116) := aa @Try.underlying116 cells116
theorem U117 : type_of% (aa @Try.underlying117 cells117) := aa @Try.underlying117 cells117
theorem U118 : type_of% (aa @Try.underlying118 cells118) := aa @Try.underlying118 cells118
theorem U119 : type_of% (aa @Try.underlying119 cells119) := aa @Try.underlying119 cells119
theorem U121 : type_of% (aa @Try.underlying121 cells121) := aa @Try.underlying121 cells121
theorem U122 : type_of% (aa @Try.underlying122 cells122) := aa @Try.underlying122 cells122
theorem U124 : type_of% (aa @Try.underlying124 cells124) := aa @Try.underlying124 cells124
theorem U125 : type_of% (aa @Try.underlying125 cells125) := aa @Try.underlying125 cells125
theorem U126 : type_of% (aa @Try.underlying126 cells126) := aa @Try.underlying126 cells126
theorem U127 : type_of% (aa @Try.underlying127 cells127) := aa @Try.underlying127 cells127
theorem U128 : type_of% (aa @Try.underlying128 cells128) := aa @Try.underlying128 cells128
theorem U129 : type_of% (aa @Try.underlying129 cells129) := aa @Try.underlying129 cells129
theorem U130 : type_of% (aa @Try.underlying130 cells130) := aa @Try.underlying130 cells130
theorem U131 : type_of% (aa @Try.underlying131 cells131) := aa @Try.underlying131 cells131
theorem U132 : type_of% (aa @Try.underlying132 cells132) := aa @Try.underlying132 cells132
theorem U133 : type_of% (aa @Try.underlying133 cells133) := aa @Try.underlying133 cells133
theorem U134 : type_of% (aa @Try.underlying134 cells134) := aa @Try.underlying134 cells134
theorem U135 : type_of% (aa @Try.underlying135 cells135) := aa @Try.underlying135 cells135
theorem U137 : type_of% (aa @Try.underlying137 cells137) := aa @Try.underlying137 cells137
theorem U138 : type_of% (aa @Try.underlying138 cells138) := aa @Try.underlying138 cells138
theorem U139 : type_of% (aa @Try.underlying139 cells139) := aa @Try.underlying139 cells139
theorem U140 : type_of% (aa @Try.underlying140 cells140) := aa @Try.underlying140 cells140
theorem U141 : type_of% (aa @Try.underlying141 cells141) := aa @Try.underlying141 cells141
theorem U142 : type_of% (aa @Try.underlying142 cells142) := aa @Try.underlying142 cells142
theorem U143 : type_of% (aa @Try.underlying143 cells143) := aa @Try.underlying143 cells143
theorem U144 : type_of% (aa @Try.underlying144 cells144) := aa @Try.underlying144 cells144
theorem U145 : type_of% (aa @Try.underlying145 cells145) := aa @Try.underlying145 cells145
theorem U146 : type_of% (aa @Try.underlying146 cells146) := aa @Try.underlying146 cells146
theorem U147 : type_of% (aa @Try.underlying147 cells147) := aa @Try.underlying147 cells147
theorem U148 : type_of% (aa @Try.underlying148 cells148) := aa @Try.underlying148 cells148
theorem U149 : type_of% (aa @Try.underlying149 cells149) := aa @Try.underlying149 cells149
theorem U150 : type_of% (aa @Try.underlying150 cells150) := aa @Try.underlying150 cells150
theorem U151 : type_of% (aa @Try.underlying151 cells151) := aa @Try.underlying151 cells151
theorem U152 : type_of% (aa @Try.underlying152 cells152) := aa @Try.underlying152 cells152
theorem U153 : type_of% (aa @Try.underlying153 cells153) := aa @Try.underlying153 cells153
theorem U154 : type_of% (aa @Try.underlying154 cells154) := aa @Try.underlying154 cells154
theorem U155 : type_of% (aa @Try.underlying155 cells155) := aa @Try.underlying155 cells155
theorem U156 : type_of% (aa @Try.underlying156 cells156) := aa @Try.underlying156 cells156
theorem U157 : type_of% (aa @Try.underlying157 cells157) := aa @Try.underlying157 cells157
theorem U158 : type_of% (aa @Try.underlying158 cells158) := aa @Try.underlying158 cells158
theorem U159 : type_of% (aa @Try.underlying159 cells159) := aa @Try.underlying159 cells159
theorem U160 : type_of% (aa @Try.underlying160 cells160) := aa @Try.underlying160 cells160
theorem U161 : type_of% (aa @Try.underlying161 cells161) := aa @Try.underlying161 cells161
theorem U162 : type_of% (aa @Try.underlying162 cells162) := aa @Try.underlying162 cells162
theorem UT : type_of% (aa (aa (aa (aa (aa (aa (aa U1 U2) (aa U3 U4)) (aa (aa U5 U6) (aa U7 (aa U8 U9)))) (aa (aa (aa U10 U11) (aa U12 U13)) (aa (aa U14 U15) (aa U16 (aa U17 U18))))) (aa (aa (aa (aa U19 U21) (aa U22 U23)) (aa (aa U24 U25) (aa U26 (aa U27 U28)))) (aa (aa (aa U29 U30) (aa U31 (aa U32 U33))) (aa (aa U34 U35) (aa U36 (aa U38 U39)))))) (aa (aa (aa (aa (aa U40 U41) (aa U42 U43)) (aa (aa U44 U45) (aa U46 (aa U47 U48)))) (aa (aa (aa U50 U51) (aa U52 (aa U53 U54))) (aa (aa U55 U56) (aa U57 (aa U58 U59))))) (aa (aa (aa (aa U60 U61) (aa U62 U63)) (aa (aa U64 U66) (aa U67 (aa U69 U70)))) (aa (aa (aa U71 U73) (aa U74 (aa U75 U76))) (aa (aa U77 U78) (aa U79 (aa U80 U81))))))) (aa (aa (aa (aa (aa (aa U82 U84) (aa U85 U86)) (aa (aa U87 U88) (aa U89 (aa U90 U91)))) (aa (aa (aa U92 U93) (aa U94 (aa U95 U96))) (aa (aa U97 U98) (aa U100 (aa U101 U102))))) (aa (aa (aa (aa U103 U104) (aa U105 U106)) (aa (aa U107 U108) (aa U109 (aa U110 U111)))) (aa (aa (aa U112 U113) (aa U114 (aa U115 U116))) (aa (aa U117 U118) (aa U119 (aa U121 U122)))))) (aa (aa (aa (aa (aa U124 U125) (aa U126 U127)) (aa (aa U128 U129) (aa U130 (aa U131 U132)))) (aa (aa (aa U133 U134) (aa U135 (aa U137 U138))) (aa (aa U139 U140) (aa U141 (aa U142 U143))))) (aa (aa (aa (aa U144 U145) (aa U146 U147)) (aa (aa U148 U149) (aa U150 (aa U151 U152)))) (aa (aa (aa U153 U154) (aa U155 (aa U156 U157))) (aa (aa U158 U159) (aa U160 (aa U161 U162)))))))) := aa (aa (aa (aa (aa (aa (aa U1 U2) (aa U3 U4)) (aa (aa U5 U6) (aa U7 (aa U8 U9)))) (aa (aa (aa U10 U11) (aa U12 U13)) (aa (aa U14 U15) (aa U16 (aa U17 U18))))) (aa (aa (aa (aa U19 U21) (aa U22 U23)) (aa (aa U24 U25) (aa U26 (aa U27 U28)))) (aa (aa (aa U29 U30) (aa U31 (aa U32 U33))) (aa (aa U34 U35) (aa U36 (aa U38 U39)))))) (aa (aa (aa (aa (aa U40 U41) (aa U42 U43)) (aa (aa U44 U45) (aa U46 (aa U47 U48)))) (aa (aa (aa U50 U51) (aa U52 (aa U53 U54))) (aa (aa U55 U56) (aa U57 (aa U58 U59))))) (aa (aa (aa (aa U60 U61) (aa U62 U63)) (aa (aa U64 U66) (aa U67 (aa U69 U70)))) (aa (aa (aa U71 U73) (aa U74 (aa U75 U76))) (aa (aa U77 U78) (aa U79 (aa U80 U81))))))) (aa (aa (aa (aa (aa (aa U82 U84) (aa U85 U86)) (aa (aa U87 U88) (aa U89 (aa U90 U91)))) (aa (aa (aa U92 U93) (aa U94 (aa U95 U96))) (aa (aa U97 U98) (aa U100 (aa U101 U102))))) (aa (aa (aa (aa U103 U104) (aa U105 U106)) (aa (aa U107 U108) (aa U109 (aa U110 U111)))) (aa (aa (aa U112 U113) (aa U114 (aa U115 U116))) (aa (aa U117 U118) (aa U119 (aa U121 U122)))))) (aa (aa (aa (aa (aa U124 U125) (aa U126 U127)) (aa (aa U128 U129) (aa U130 (aa U131 U132)))) (aa (aa (aa U133 U134) (aa U135 (aa U137 U138))) (aa (aa U139 U140) (aa U141 (aa U142 U143))))) (aa (aa (aa (aa U144 U145) (aa U146 U147)) (aa (aa U148 U149) (aa U150 (aa U151 U152)))) (aa (aa (aa U153 U154) (aa U155 (aa U156 U157))) (aa (aa U158 U159) (aa U160 (aa U161 U162)))))))
def KL3 : List Nat := [0, 1, 2, 3, 4, 5, 6, 7, 9, 12, 13, 14, 15, 16, 17, 18, 19, 20, 22, 28, 40, 64, 69, 78, 84, 110, 112, 113, 117, 137, 138, 176]
theorem KE3 : KL3 = [0, 1, 2, 3, 4, 5, 6, 7, 9, 12, 13, 14, 15, 16, 17, 18, 19, 20, 22, 28, 40, 64, 69, 78, 84, 110, 112, 113, 117, 137, 138, 176] := rfl
theorem TF3 : type_of% (aa (aa (aa (aa U1 (aa U2 U3)) (aa U4 (aa U5 U12))) (aa (aa U22 (aa U24 U25)) (aa (aa U26 U28) (aa U29 U30)))) (aa (aa (aa U32 (aa U35 U36)) (aa U41 (aa U42 U43))) (aa (aa U45 (aa U47 U64)) (aa (aa U71 U94) (aa U129 KE3))))) := aa (aa (aa (aa U1 (aa U2 U3)) (aa U4 (aa U5 U12))) (aa (aa U22 (aa U24 U25)) (aa (aa U26 U28) (aa U29 U30)))) (aa (aa (aa U32 (aa U35 U36)) (aa U41 (aa U42 U43))) (aa (aa U45 (aa U47 U64)) (aa (aa U71 U94) (aa U129 KE3))))
def KL4 : List Nat := [0, 1, 2, 3, 4, 5, 6, 7, 8, 9, 10, 11, 12, 13, 14, 16, 18, 20, 21, 124, 140]
theorem KE4 : KL4 = [0, 1, 2, 3, 4, 5, 6, 7, 8, 9, 10, 11, 12, 13, 14, 16, 18, 20, 21, 124, 140] := rfl
theorem TF4 : type_of% (aa (aa (aa (aa U1 (aa U2 U3)) (aa U4 (aa U5 U22))) (aa (aa U24 (aa U25 U26)) (aa (aa U28 U29) (aa U30 U32)))) (aa (aa (aa U35 (aa U36 U41)) (aa U42 (aa U43 U45))) (aa (aa U47 (aa U52 U64)) (aa (aa U71 U94) (aa U129 KE4))))) := aa (aa (aa (aa U1 (aa U2 U3)) (aa U4 (aa U5 U22))) (aa (aa U24 (aa U25 U26)) (aa (aa U28 U29) (aa U30 U32)))) (aa (aa (aa U35 (aa U36 U41)) (aa U42 (aa U43 U45))) (aa (aa U47 (aa U52 U64)) (aa (aa U71 U94) (aa U129 KE4))))
def KL5 : List Nat := [0, 1, 2, 3, 4, 5, 7, 8]
theorem KE5 : KL5 = [0, 1, 2, 3, 4, 5, 7, 8] := rfl
theorem TF5 : type_of% (aa (aa (aa (aa U1 U2) (aa U3 (aa U4 U6))) (aa (aa U8 (aa U22 U24)) (aa U25 (aa U26 U28)))) (aa (aa (aa U29 (aa U30 U32)) (aa U42 (aa U43 U45))) (aa (aa U47 (aa U64 U71)) (aa U94 (aa U129 KE5))))) := aa (aa (aa (aa U1 U2) (aa U3 (aa U4 U6))) (aa (aa U8 (aa U22 U24)) (aa U25 (aa U26 U28)))) (aa (aa (aa U29 (aa U30 U32)) (aa U42 (aa U43 U45))) (aa (aa U47 (aa U64 U71)) (aa U94 (aa U129 KE5))))
def KL6 : List Nat := [0, 1, 2, 3, 4, 5, 6, 7, 9, 10, 11, 12, 13, 15, 16, 17, 18, 19, 20, 21, 23, 24, 31, 35, 36, 37, 38, 43, 61, 62, 63, 77, 78, 79, 80, 86, 104]
theorem KE6 : KL6 = [0, 1, 2, 3, 4, 5, 6, 7, 9, 10, 11, 12, 13, 15, 16, 17, 18, 19, 20, 21, 23, 24, 31, 35, 36, 37, 38, 43, 61, 62, 63, 77, 78, 79, 80, 86, 104] := rfl
theorem TF6 : type_of% (aa (aa (aa (aa (aa U1 U2) (aa U3 U4)) (aa (aa U6 U9) (aa U12 U13))) (aa (aa (aa U22 U24) (aa U25 U26)) (aa (aa U28 U29) (aa U30 (aa U32 U33))))) (aa (aa (aa (aa U35 U36) (aa U41 U42)) (aa (aa U43 U45) (aa U47 U56))) (aa (aa (aa U57 U59) (aa U61 U64)) (aa (aa U71 U94) (aa U129 (aa KE6 KT)))))) := aa (aa (aa (aa (aa U1 U2) (aa U3 U4)) (aa (aa U6 U9) (aa U12 U13))) (aa (aa (aa U22 U24) (aa U25 U26)) (aa (aa U28 U29) (aa U30 (aa U32 U33))))) (aa (aa (aa (aa U35 U36) (aa U41 U42)) (aa (aa U43 U45) (aa U47 U56))) (aa (aa (aa U57 U59) (aa U61 U64)) (aa (aa U71 U94) (aa U129 (aa KE6 KT)))))
def KL7 : List Nat := [0, 1, 2, 3, 4, 5, 7, 8, 9, 10, 20, 23]
theorem KE7 : KL7 = [0, 1, 2, 3, 4, 5, 7, 8, 9, 10, 20, 23] := rfl
theorem TF7 : type_of% (aa (aa (aa (aa U1 (aa U2 U3)) (aa U4 (aa U6 U8))) (aa (aa U22 (aa U24 U25)) (aa U26 (aa U28 U29)))) (aa (aa (aa U30 (aa U32 U36)) (aa U42 (aa U43 U45))) (aa (aa U47 (aa U64 U71)) (aa U94 (aa U129 KE7))))) := aa (aa (aa (aa U1 (aa U2 U3)) (aa U4 (aa U6 U8))) (aa (aa U22 (aa U24 U25)) (aa U26 (aa U28 U29)))) (aa (aa (aa U30 (aa U32 U36)) (aa U42 (aa U43 U45))) (aa (aa U47 (aa U64 U71)) (aa U94 (aa U129 KE7))))
def KL8 : List Nat := [0, 1, 2, 3, 4, 5, 6, 7]
theorem KE8 : KL8 = [0, 1, 2, 3, 4, 5, 6, 7] := rfl
theorem TF8 : type_of% (aa (aa (aa (aa U1 (aa U2 U3)) (aa U4 (aa U5 U6))) (aa (aa U7 (aa U22 U24)) (aa U25 (aa U26 U28)))) (aa (aa (aa U29 (aa U30 U32)) (aa U42 (aa U43 U45))) (aa (aa U47 (aa U64 U71)) (aa (aa U94 U129) (aa KE8 KT))))) := aa (aa (aa (aa U1 (aa U2 U3)) (aa U4 (aa U5 U6))) (aa (aa U7 (aa U22 U24)) (aa U25 (aa U26 U28)))) (aa (aa (aa U29 (aa U30 U32)) (aa U42 (aa U43 U45))) (aa (aa U47 (aa U64 U71)) (aa (aa U94 U129) (aa KE8 KT))))
def KL9 : List Nat := [0, 1, 2, 3, 4, 5, 7, 8, 9, 10, 11, 12, 13, 14, 22, 28, 29, 30, 31]
theorem KE9 : KL9 = [0, 1, 2, 3, 4, 5, 7, 8, 9, 10, 11, 12, 13, 14, 22, 28, 29, 30, 31] := rfl
theorem TF9 : type_of% (aa (aa (aa (aa U1 (aa U2 U3)) (aa (aa U4 U6) (aa U8 U9))) (aa (aa (aa U22 U24) (aa U25 U26)) (aa (aa U28 U29) (aa U30 U32)))) (aa (aa (aa U35 (aa U36 U41)) (aa (aa U42 U43) (aa U45 U47))) (aa (aa (aa U57 U59) (aa U64 U67)) (aa (aa U71 U94) (aa U129 KE9))))) := aa (aa (aa (aa U1 (aa U2 U3)) (aa (aa U4 U6) (aa U8 U9))) (aa (aa (aa U22 U24) (aa U25 U26)) (aa (aa U28 U29) (aa U30 U32)))) (aa (aa (aa U35 (aa U36 U41)) (aa (aa U42 U43) (aa U45 U47))) (aa (aa (aa U57 U59) (aa U64 U67)) (aa (aa U71 U94) (aa U129 KE9))))
def KL10 : List Nat := [0, 2]
theorem KE10 : KL10 = [0, 2] := rfl
theorem TF10 : type_of% (aa (aa U1 (aa U2 U3)) (aa U4 (aa U41 KE10))) := aa (aa U1 (aa U2 U3)) (aa U4 (aa U41 KE10))
def KL11 : List Nat := [0, 1, 4, 5, 10, 14, 25]
theorem KE11 : KL11 = [0, 1, 4, 5, 10, 14, 25] := rfl
theorem TF11 : type_of% (aa (aa U3 U4) (aa U35 (aa U41 KE11))) := aa (aa U3 U4) (aa U35 (aa U41 KE11))
def KL12 : List Nat := [0, 1, 2, 3, 4, 5, 6, 7, 16, 45, 50, 77]
theorem KE12 : KL12 = [0, 1, 2, 3, 4, 5, 6, 7, 16, 45, 50, 77] := rfl
theorem TF12 : type_of% (aa (aa (aa U1 (aa U2 U3)) (aa (aa U4 U5) (aa U22 U24))) (aa (aa U25 (aa U42 U43)) (aa (aa U45 U71) (aa U129 KE12)))) := aa (aa (aa U1 (aa U2 U3)) (aa (aa U4 U5) (aa U22 U24))) (aa (aa U25 (aa U42 U43)) (aa (aa U45 U71) (aa U129 KE12)))
def KL13 : List Nat := [0, 1, 2]
theorem KE13 : KL13 = [0, 1, 2] := rfl
theorem TF13 : type_of% (aa (aa (aa U1 U2) (aa U3 U4)) (aa (aa U25 U30) (aa U32 (aa U47 KE13)))) := aa (aa (aa U1 U2) (aa U3 U4)) (aa (aa U25 U30) (aa U32 (aa U47 KE13)))
def KL14 : List Nat := [0, 1, 2, 3, 4, 5, 7, 8, 9, 10, 24]
theorem KE14 : KL14 = [0, 1, 2, 3, 4, 5, 7, 8, 9, 10, 24] := rfl
theorem TF14 : type_of% (aa (aa (aa (aa U1 (aa U2 U3)) (aa U4 (aa U6 U8))) (aa (aa U22 (aa U24 U25)) (aa U26 (aa U28 U29)))) (aa (aa (aa U30 (aa U32 U36)) (aa U42 (aa U43 U45))) (aa (aa U47 (aa U64 U71)) (aa U94 (aa U129 KE14))))) := aa (aa (aa (aa U1 (aa U2 U3)) (aa U4 (aa U6 U8))) (aa (aa U22 (aa U24 U25)) (aa U26 (aa U28 U29)))) (aa (aa (aa U30 (aa U32 U36)) (aa U42 (aa U43 U45))) (aa (aa U47 (aa U64 U71)) (aa U94 (aa U129 KE14))))
def KL15 : List Nat := [0, 1, 2]
theorem KE15 : KL15 = [0, 1, 2] := rfl
theorem TF15 : type_of% (aa (aa (aa U2 U3) (aa U4 U25)) (aa (aa U30 U32) (aa U47 KE15))) := aa (aa (aa U2 U3) (aa U4 U25)) (aa (aa U30 U32) (aa U47 KE15))
def KL16 : List Nat := [0, 1, 2, 3, 4]
theorem KE16 : KL16 = [0, 1, 2, 3, 4] := rfl
theorem TF16 : type_of% (aa (aa (aa U1 (aa U3 U4)) (aa (aa U22 U24) (aa U25 U30))) (aa (aa (aa U32 U42) (aa U43 U45)) (aa (aa U47 U71) (aa U129 KE16)))) := aa (aa (aa U1 (aa U3 U4)) (aa (aa U22 U24) (aa U25 U30))) (aa (aa (aa U32 U42) (aa U43 U45)) (aa (aa U47 U71) (aa U129 KE16)))
def KL17 : List Nat := [0, 1, 2, 3, 4, 5, 6]
theorem KE17 : KL17 = [0, 1, 2, 3, 4, 5, 6] := rfl
theorem TF17 : type_of% (aa (aa (aa U3 (aa U4 U6)) (aa U25 (aa U29 U30))) (aa (aa U32 (aa U47 U60)) (aa U61 (aa U64 KE17)))) := aa (aa (aa U3 (aa U4 U6)) (aa U25 (aa U29 U30))) (aa (aa U32 (aa U47 U60)) (aa U61 (aa U64 KE17)))
def KL18 : List Nat := [0, 1, 2, 3, 4, 8, 9, 10, 11, 15, 39]
theorem KE18 : KL18 = [0, 1, 2, 3, 4, 8, 9, 10, 11, 15, 39] := rfl
theorem TF18 : type_of% (aa (aa (aa U1 (aa U2 U3)) (aa (aa U4 U6) (aa U8 U9))) (aa (aa (aa U10 U25) (aa U26 U28)) (aa (aa U36 U94) (aa KE18 KT)))) := aa (aa (aa U1 (aa U2 U3)) (aa (aa U4 U6) (aa U8 U9))) (aa (aa (aa U10 U25) (aa U26 U28)) (aa (aa U36 U94) (aa KE18 KT)))
def KL19 : List Nat := [0, 1, 2, 3, 4]
theorem KE19 : KL19 = [0, 1, 2, 3, 4] := rfl
theorem TF19 : type_of% (aa (aa (aa U1 U2) (aa U3 (aa U4 U5))) (aa (aa U35 (aa U41 U57)) (aa U59 (aa KE19 KT)))) := aa (aa (aa U1 U2) (aa U3 (aa U4 U5))) (aa (aa U35 (aa U41 U57)) (aa U59 (aa KE19 KT)))
def KL20 : List Nat := [0, 1, 2, 3, 4, 5, 6, 9, 10, 11, 12, 13, 14, 15, 16, 17, 18, 19, 25, 41, 46, 75, 79, 117, 134, 178]
theorem KE20 : KL20 = [0, 1, 2, 3, 4, 5, 6, 9, 10, 11, 12, 13, 14, 15, 16, 17, 18, 19, 25, 41, 46, 75, 79, 117, 134, 178] := rfl
theorem TF20 : type_of% (aa (aa (aa (aa U1 (aa U2 U3)) (aa U4 (aa U10 U11))) (aa (aa U22 (aa U24 U25)) (aa U26 (aa U28 U29)))) (aa (aa (aa U30 (aa U32 U36)) (aa U42 (aa U43 U45))) (aa (aa U47 (aa U64 U71)) (aa (aa U94 U129) (aa KE20 KT))))) := aa (aa (aa (aa U1 (aa U2 U3)) (aa U4 (aa U10 U11))) (aa (aa U22 (aa U24 U25)) (aa U26 (aa U28 U29)))) (aa (aa (aa U30 (aa U32 U36)) (aa U42 (aa U43 U45))) (aa (aa U47 (aa U64 U71)) (aa (aa U94 U129) (aa KE20 KT))))
def KL21 : List Nat := [0, 1, 2, 3, 4, 8, 9, 10, 11]
theorem KE21 : KL21 = [0, 1, 2, 3, 4, 8, 9, 10, 11] := rfl
theorem TF21 : type_of% (aa (aa (aa U1 (aa U2 U3)) (aa U4 (aa U6 U8))) (aa (aa U9 (aa U25 U26)) (aa (aa U28 U36) (aa U94 KE21)))) := aa (aa (aa U1 (aa U2 U3)) (aa U4 (aa U6 U8))) (aa (aa U9 (aa U25 U26)) (aa (aa U28 U36) (aa U94 KE21)))
def KL22 : List Nat := [0, 1, 2, 3, 4, 5, 6, 9, 10, 11, 12, 13, 14, 15, 16, 17, 18, 19, 20, 21, 22, 28, 44, 46, 47, 48, 49, 71, 75, 76, 77, 78, 105, 123, 124, 125, 126, 160]
theorem KE22 : KL22 = [0, 1, 2, 3, 4, 5, 6, 9, 10, 11, 12, 13, 14, 15, 16, 17, 18, 19, 20, 21, 22, 28, 44, 46, 47, 48, 49, 71, 75, 76, 77, 78, 105, 123, 124, 125, 126, 160] := rfl
theorem TF22 : type_of% (aa (aa (aa (aa U1 (aa U2 U3)) (aa U4 (aa U10 U11))) (aa (aa U22 (aa U24 U25)) (aa (aa U26 U28) (aa U29 U30)))) (aa (aa (aa U32 (aa U36 U42)) (aa (aa U43 U45) (aa U47 U64))) (aa (aa U71 (aa U87 U89)) (aa (aa U94 U129) (aa KE22 KT))))) := aa (aa (aa (aa U1 (aa U2 U3)) (aa U4 (aa U10 U11))) (aa (aa U22 (aa U24 U25)) (aa (aa U26 U28) (aa U29 U30)))) (aa (aa (aa U32 (aa U36 U42)) (aa (aa U43 U45) (aa U47 U64))) (aa (aa U71 (aa U87 U89)) (aa (aa U94 U129) (aa KE22 KT))))
def KL23 : List Nat := [0, 1, 2, 3, 5, 6, 7, 8, 9, 10, 27]
theorem KE23 : KL23 = [0, 1, 2, 3, 5, 6, 7, 8, 9, 10, 27] := rfl
theorem TF23 : type_of% (aa (aa (aa U1 U3) (aa U4 (aa U25 U29))) (aa (aa U30 (aa U32 U47)) (aa U64 (aa U74 KE23)))) := aa (aa (aa U1 U3) (aa U4 (aa U25 U29))) (aa (aa U30 (aa U32 U47)) (aa U64 (aa U74 KE23)))
def KL24 : List Nat := [0, 1, 2, 3, 4, 5, 49]
theorem KE24 : KL24 = [0, 1, 2, 3, 4, 5, 49] := rfl
theorem TF24 : type_of% (aa (aa (aa U1 (aa U2 U3)) (aa U4 (aa U25 U26))) (aa (aa U28 (aa U36 U92)) (aa U94 (aa U95 KE24)))) := aa (aa (aa U1 (aa U2 U3)) (aa U4 (aa U25 U26))) (aa (aa U28 (aa U36 U92)) (aa U94 (aa U95 KE24)))
def KL25 : List Nat := [0, 1, 4, 5, 6, 7, 8, 10, 26, 37]
theorem KE25 : KL25 = [0, 1, 4, 5, 6, 7, 8, 10, 26, 37] := rfl
theorem TF25 : type_of% (aa (aa (aa U1 U3) (aa U4 U9)) (aa (aa U25 U98) (aa KE25 KT))) := aa (aa (aa U1 U3) (aa U4 U9)) (aa (aa U25 U98) (aa KE25 KT))
def KL26 : List Nat := [0, 2, 4, 5, 6, 7, 8]
theorem KE26 : KL26 = [0, 2, 4, 5, 6, 7, 8] := rfl
theorem TF26 : type_of% (aa (aa U2 U3) (aa U25 KE26)) := aa (aa U2 U3) (aa U25 KE26)
def KL27 : List Nat := [0, 1, 2, 3, 4, 6, 9, 11, 15]
theorem KE27 : KL27 = [0, 1, 2, 3, 4, 6, 9, 11, 15] := rfl
theorem TF27 : type_of% (aa (aa (aa U1 U2) (aa U3 (aa U4 U25))) (aa (aa U26 U28) (aa U94 (aa U102 KE27)))) := aa (aa (aa U1 U2) (aa U3 (aa U4 U25))) (aa (aa U26 U28) (aa U94 (aa U102 KE27)))
def KL28 : List Nat := [0, 1, 2, 3, 4, 6, 7, 8, 12, 16, 20, 24, 37]
theorem KE28 : KL28 = [0, 1, 2, 3, 4, 6, 7, 8, 12, 16, 20, 24, 37] := rfl
theorem TF28 : type_of% (aa (aa (aa (aa U3 U4) (aa U6 U22)) (aa (aa U24 U25) (aa U26 (aa U28 U29)))) (aa (aa (aa U36 U42) (aa U43 U45)) (aa (aa U64 U71) (aa U94 (aa U129 KE28))))) := aa (aa (aa (aa U3 U4) (aa U6 U22)) (aa (aa U24 U25) (aa U26 (aa U28 U29)))) (aa (aa (aa U36 U42) (aa U43 U45)) (aa (aa U64 U71) (aa U94 (aa U129 KE28))))
def KL29 : List Nat := [0, 1, 2, 3, 4, 5, 21]
theorem KE29 : KL29 = [0, 1, 2, 3, 4, 5, 21] := rfl
theorem TF29 : type_of% (aa (aa (aa (aa U1 U2) (aa U3 U4)) (aa (aa U5 U22) (aa U24 U25))) (aa (aa (aa U36 U42) (aa U43 U45)) (aa (aa U47 U71) (aa U129 KE29)))) := aa (aa (aa (aa U1 U2) (aa U3 U4)) (aa (aa U5 U22) (aa U24 U25))) (aa (aa (aa U36 U42) (aa U43 U45)) (aa (aa U47 U71) (aa U129 KE29)))
def KL30 : List Nat := [0, 1, 2, 3, 4]
theorem KE30 : KL30 = [0, 1, 2, 3, 4] := rfl
theorem TF30 : type_of% (aa (aa U1 U3) (aa U4 (aa U47 KE30))) := aa (aa U1 U3) (aa U4 (aa U47 KE30))
def KL31 : List Nat := [0, 1, 2, 3, 4, 5, 6, 7, 8, 9, 10, 11, 13, 70, 86, 89, 100]
theorem KE31 : KL31 = [0, 1, 2, 3, 4, 5, 6, 7, 8, 9, 10, 11, 13, 70, 86, 89, 100] := rfl
theorem TF31 : type_of% (aa (aa (aa (aa U1 U2) (aa U3 (aa U4 U5))) (aa (aa U6 (aa U7 U8)) (aa U22 (aa U24 U25)))) (aa (aa (aa U26 (aa U28 U36)) (aa U42 (aa U43 U45))) (aa (aa U47 (aa U64 U71)) (aa U94 (aa U129 KE31))))) := aa (aa (aa (aa U1 U2) (aa U3 (aa U4 U5))) (aa (aa U6 (aa U7 U8)) (aa U22 (aa U24 U25)))) (aa (aa (aa U26 (aa U28 U36)) (aa U42 (aa U43 U45))) (aa (aa U47 (aa U64 U71)) (aa U94 (aa U129 KE31))))
def KL32 : List Nat := [0, 1, 2, 5, 6, 7, 8, 9, 10, 14, 22]
theorem KE32 : KL32 = [0, 1, 2, 5, 6, 7, 8, 9, 10, 14, 22] := rfl
theorem TF32 : type_of% (aa (aa (aa U2 U3) (aa U4 (aa U6 U7))) (aa (aa U25 (aa U29 U30)) (aa U47 (aa U64 KE32)))) := aa (aa (aa U2 U3) (aa U4 (aa U6 U7))) (aa (aa U25 (aa U29 U30)) (aa U47 (aa U64 KE32)))
def KL33 : List Nat := [0, 1, 2, 3, 4, 6, 7, 8, 9, 13, 18, 28]
theorem KE33 : KL33 = [0, 1, 2, 3, 4, 6, 7, 8, 9, 13, 18, 28] := rfl
theorem TF33 : type_of% (aa (aa (aa (aa U3 U4) (aa U6 U22)) (aa (aa U24 U25) (aa U26 (aa U28 U29)))) (aa (aa (aa U36 U42) (aa U43 (aa U45 U64))) (aa (aa U71 U94) (aa U109 (aa U129 KE33))))) := aa (aa (aa (aa U3 U4) (aa U6 U22)) (aa (aa U24 U25) (aa U26 (aa U28 U29)))) (aa (aa (aa U36 U42) (aa U43 (aa U45 U64))) (aa (aa U71 U94) (aa U109 (aa U129 KE33))))
def KL34 : List Nat := [0, 1, 2, 3, 4]
theorem KE34 : KL34 = [0, 1, 2, 3, 4] := rfl
theorem TF34 : type_of% (aa (aa (aa U3 (aa U4 U22)) (aa U24 (aa U25 U36))) (aa (aa U42 (aa U43 U45)) (aa (aa U47 U71) (aa U129 KE34)))) := aa (aa (aa U3 (aa U4 U22)) (aa U24 (aa U25 U36))) (aa (aa U42 (aa U43 U45)) (aa (aa U47 U71) (aa U129 KE34)))
def KL35 : List Nat := [0, 1, 2, 3, 4]
theorem KE35 : KL35 = [0, 1, 2, 3, 4] := rfl
theorem TF35 : type_of% (aa (aa (aa U1 U2) (aa U3 U4)) (aa (aa U25 U47) (aa KE35 KT))) := aa (aa (aa U1 U2) (aa U3 U4)) (aa (aa U25 U47) (aa KE35 KT))
def KL36 : List Nat := [0, 1, 2, 3, 4, 5, 6, 7, 8, 9]
theorem KE36 : KL36 = [0, 1, 2, 3, 4, 5, 6, 7, 8, 9] := rfl
theorem TF36 : type_of% (aa (aa (aa (aa U1 (aa U2 U3)) (aa U4 (aa U6 U8))) (aa (aa U22 (aa U24 U25)) (aa U26 (aa U28 U42)))) (aa (aa (aa U43 (aa U45 U47)) (aa U64 (aa U71 U94))) (aa (aa U113 (aa U115 U116)) (aa (aa U118 U129) (aa KE36 KT))))) := aa (aa (aa (aa U1 (aa U2 U3)) (aa U4 (aa U6 U8))) (aa (aa U22 (aa U24 U25)) (aa U26 (aa U28 U42)))) (aa (aa (aa U43 (aa U45 U47)) (aa U64 (aa U71 U94))) (aa (aa U113 (aa U115 U116)) (aa (aa U118 U129) (aa KE36 KT))))
def KL37 : List Nat := [0, 1, 2, 3, 4]
theorem KE37 : KL37 = [0, 1, 2, 3, 4] := rfl
theorem TF37 : type_of% (aa (aa (aa U1 U3) (aa U4 U6)) (aa (aa U25 U64) (aa U89 KE37))) := aa (aa (aa U1 U3) (aa U4 U6)) (aa (aa U25 U64) (aa U89 KE37))
def KL38 : List Nat := [0, 1, 2]
theorem KE38 : KL38 = [0, 1, 2] := rfl
theorem TF38 : type_of% (aa (aa U1 U2) (aa U3 (aa U89 KE38))) := aa (aa U1 U2) (aa U3 (aa U89 KE38))
def KL39 : List Nat := [1, 4]
theorem KE39 : KL39 = [1, 4] := rfl
theorem TF39 : type_of% (aa U3 (aa U4 KE39)) := aa U3 (aa U4 KE39)
def KL40 : List Nat := [0, 1, 2, 3, 5, 6, 7, 9]
theorem KE40 : KL40 = [0, 1, 2, 3, 5, 6, 7, 9] := rfl
theorem TF40 : type_of% (aa (aa (aa U1 U2) (aa U3 (aa U4 U6))) (aa (aa U25 (aa U26 U28)) (aa U92 (aa U94 KE40)))) := aa (aa (aa U1 U2) (aa U3 (aa U4 U6))) (aa (aa U25 (aa U26 U28)) (aa U92 (aa U94 KE40)))
def KL41 : List Nat := [0, 1, 4, 5, 6, 7, 8, 9, 10, 18]
theorem KE41 : KL41 = [0, 1, 4, 5, 6, 7, 8, 9, 10, 18] := rfl
theorem TF41 : type_of% (aa (aa U3 U4) (aa U25 (aa U92 KE41))) := aa (aa U3 U4) (aa U25 (aa U92 KE41))
def KL42 : List Nat := [0, 1, 4, 5, 6, 7, 8, 9, 10, 18]
theorem KE42 : KL42 = [0, 1, 4, 5, 6, 7, 8, 9, 10, 18] := rfl
theorem TF42 : type_of% (aa (aa U3 (aa U4 U26)) (aa U94 (aa U95 KE42))) := aa (aa U3 (aa U4 U26)) (aa U94 (aa U95 KE42))
def KL43 : List Nat := [0, 1, 4, 5, 6, 7, 8, 9]
theorem KE43 : KL43 = [0, 1, 4, 5, 6, 7, 8, 9] := rfl
theorem TF43 : type_of% (aa (aa U1 (aa U4 U5)) (aa (aa U98 U119) (aa U122 KE43))) := aa (aa U1 (aa U4 U5)) (aa (aa U98 U119) (aa U122 KE43))
def KL44 : List Nat := [0, 1, 2]
theorem KE44 : KL44 = [0, 1, 2] := rfl
theorem TF44 : type_of% (aa (aa U2 (aa U3 U26)) (aa (aa U94 U101) (aa U102 KE44))) := aa (aa U2 (aa U3 U26)) (aa (aa U94 U101) (aa U102 KE44))
def KL45 : List Nat := [0, 1, 2, 3, 4, 5, 9, 17, 22, 33, 38, 55]
theorem KE45 : KL45 = [0, 1, 2, 3, 4, 5, 9, 17, 22, 33, 38, 55] := rfl
theorem TF45 : type_of% (aa (aa (aa U1 (aa U2 U3)) (aa (aa U4 U5) (aa U22 U24))) (aa (aa (aa U25 U36) (aa U42 U43)) (aa (aa U45 U71) (aa U129 KE45)))) := aa (aa (aa U1 (aa U2 U3)) (aa (aa U4 U5) (aa U22 U24))) (aa (aa (aa U25 U36) (aa U42 U43)) (aa (aa U45 U71) (aa U129 KE45)))
def KL46 : List Nat := [0, 1, 2, 3, 4, 29, 34, 52, 57, 96]
theorem KE46 : KL46 = [0, 1, 2, 3, 4, 29, 34, 52, 57, 96] := rfl
theorem TF46 : type_of% (aa (aa (aa U1 U2) (aa U3 (aa U4 U25))) (aa (aa U26 U28) (aa U36 (aa U94 KE46)))) := aa (aa (aa U1 U2) (aa U3 (aa U4 U25))) (aa (aa U26 U28) (aa U36 (aa U94 KE46)))
def KL47 : List Nat := [0, 1, 2, 3, 4, 8, 9, 58, 93, 98, 133]
theorem KE47 : KL47 = [0, 1, 2, 3, 4, 8, 9, 58, 93, 98, 133] := rfl
theorem TF47 : type_of% (aa (aa (aa U1 (aa U2 U3)) (aa U4 (aa U5 U6))) (aa (aa U7 (aa U8 U10)) (aa U25 (aa U64 KE47)))) := aa (aa (aa U1 (aa U2 U3)) (aa U4 (aa U5 U6))) (aa (aa U7 (aa U8 U10)) (aa U25 (aa U64 KE47)))
def KL48 : List Nat := [0, 1, 2, 6, 7, 8, 9, 13, 31, 35, 61]
theorem KE48 : KL48 = [0, 1, 2, 6, 7, 8, 9, 13, 31, 35, 61] := rfl
theorem TF48 : type_of% (aa (aa (aa U1 U2) (aa U3 (aa U4 U6))) (aa (aa U42 U43) (aa U71 (aa U129 KE48)))) := aa (aa (aa U1 U2) (aa U3 (aa U4 U6))) (aa (aa U42 U43) (aa U71 (aa U129 KE48)))
def KL49 : List Nat := [0, 1, 2, 3, 4, 9]
theorem KE49 : KL49 = [0, 1, 2, 3, 4, 9] := rfl
theorem TF49 : type_of% (aa (aa (aa U1 U2) (aa U3 (aa U4 U25))) (aa (aa U42 (aa U43 U45)) (aa U71 (aa U129 KE49)))) := aa (aa (aa U1 U2) (aa U3 (aa U4 U25))) (aa (aa U42 (aa U43 U45)) (aa U71 (aa U129 KE49)))
def KL50 : List Nat := [0, 1, 4, 5, 8]
theorem KE50 : KL50 = [0, 1, 4, 5, 8] := rfl
theorem TF50 : type_of% (aa U3 (aa U4 KE50)) := aa U3 (aa U4 KE50)
def KL51 : List Nat := [0, 1, 2, 3, 4, 8, 9, 10, 17]
theorem KE51 : KL51 = [0, 1, 2, 3, 4, 8, 9, 10, 17] := rfl
theorem TF51 : type_of% (aa (aa (aa U1 (aa U2 U3)) (aa U4 (aa U6 U8))) (aa (aa U9 (aa U25 U26)) (aa (aa U28 U36) (aa U94 KE51)))) := aa (aa (aa U1 (aa U2 U3)) (aa U4 (aa U6 U8))) (aa (aa U9 (aa U25 U26)) (aa (aa U28 U36) (aa U94 KE51)))
def KL52 : List Nat := [0, 1, 4, 5, 9, 17]
theorem KE52 : KL52 = [0, 1, 4, 5, 9, 17] := rfl
theorem TF52 : type_of% (aa (aa U3 U4) (aa U25 KE52)) := aa (aa U3 U4) (aa U25 KE52)
def KL53 : List Nat := [0, 1, 2, 4, 6, 10, 14, 16, 17, 18, 19, 27, 30, 31, 32, 33, 42]
theorem KE53 : KL53 = [0, 1, 2, 4, 6, 10, 14, 16, 17, 18, 19, 27, 30, 31, 32, 33, 42] := rfl
theorem TF53 : type_of% (aa (aa (aa (aa U1 U2) (aa U3 U4)) (aa (aa U5 U22) (aa U24 U25))) (aa (aa (aa U36 U42) (aa U43 U45)) (aa (aa U71 U129) (aa U133 KE53)))) := aa (aa (aa (aa U1 U2) (aa U3 U4)) (aa (aa U5 U22) (aa U24 U25))) (aa (aa (aa U36 U42) (aa U43 U45)) (aa (aa U71 U129) (aa U133 KE53)))
def KL54 : List Nat := [0, 1, 2, 3, 4]
theorem KE54 : KL54 = [0, 1, 2, 3, 4] := rfl
theorem TF54 : type_of% (aa (aa (aa U3 (aa U4 U22)) (aa (aa U24 U25) (aa U26 U28))) (aa (aa (aa U42 U43) (aa U45 U64)) (aa (aa U71 U94) (aa U129 KE54)))) := aa (aa (aa U3 (aa U4 U22)) (aa (aa U24 U25) (aa U26 U28))) (aa (aa (aa U42 U43) (aa U45 U64)) (aa (aa U71 U94) (aa U129 KE54)))
def KL55 : List Nat := [0, 1, 2, 3, 4, 5, 8, 9, 11, 57, 58, 59, 60, 65]
theorem KE55 : KL55 = [0, 1, 2, 3, 4, 5, 8, 9, 11, 57, 58, 59, 60, 65] := rfl
theorem TF55 : type_of% (aa (aa (aa (aa U1 U2) (aa U3 U4)) (aa (aa U5 U6) (aa U7 (aa U8 U9)))) (aa (aa (aa U10 U11) (aa U25 U33)) (aa (aa U56 U64) (aa U134 (aa KE55 KT))))) := aa (aa (aa (aa U1 U2) (aa U3 U4)) (aa (aa U5 U6) (aa U7 (aa U8 U9)))) (aa (aa (aa U10 U11) (aa U25 U33)) (aa (aa U56 U64) (aa U134 (aa KE55 KT))))
def KL56 : List Nat := [0, 1, 4]
theorem KE56 : KL56 = [0, 1, 4] := rfl
theorem TF56 : type_of% (aa (aa U3 (aa U4 U25)) (aa (aa U29 U64) (aa U109 KE56))) := aa (aa U3 (aa U4 U25)) (aa (aa U29 U64) (aa U109 KE56))
def KL57 : List Nat := [0, 1, 2, 3, 4, 5, 6, 7, 21]
theorem KE57 : KL57 = [0, 1, 2, 3, 4, 5, 6, 7, 21] := rfl
theorem TF57 : type_of% (aa (aa (aa (aa U1 U2) (aa U3 U4)) (aa (aa U5 U22) (aa U24 U25))) (aa (aa (aa U36 U42) (aa U43 U45)) (aa (aa U47 U71) (aa U129 KE57)))) := aa (aa (aa (aa U1 U2) (aa U3 U4)) (aa (aa U5 U22) (aa U24 U25))) (aa (aa (aa U36 U42) (aa U43 U45)) (aa (aa U47 U71) (aa U129 KE57)))
def KL58 : List Nat := [0, 2, 3, 5, 6, 7, 8, 9, 14]
theorem KE58 : KL58 = [0, 2, 3, 5, 6, 7, 8, 9, 14] := rfl
theorem TF58 : type_of% (aa (aa U2 U3) (aa U4 (aa U25 KE58))) := aa (aa U2 U3) (aa U4 (aa U25 KE58))
def KL59 : List Nat := [0, 1, 4, 5, 6, 11, 12, 13, 16, 19]
theorem KE59 : KL59 = [0, 1, 4, 5, 6, 11, 12, 13, 16, 19] := rfl
theorem TF59 : type_of% (aa U3 (aa U4 KE59)) := aa U3 (aa U4 KE59)
def KL60 : List Nat := [0, 1, 4]
theorem KE60 : KL60 = [0, 1, 4] := rfl
theorem TF60 : type_of% (aa (aa U3 (aa U4 U115)) (aa U116 (aa U118 KE60))) := aa (aa U3 (aa U4 U115)) (aa U116 (aa U118 KE60))
def KL61 : List Nat := [0]
theorem KE61 : KL61 = [0] := rfl
theorem TF61 : type_of% (aa (aa (aa U1 U2) (aa U3 U4)) (aa (aa U5 U6) (aa U115 (aa U116 KE61)))) := aa (aa (aa U1 U2) (aa U3 U4)) (aa (aa U5 U6) (aa U115 (aa U116 KE61)))
def KL62 : List Nat := [0, 1, 3]
theorem KE62 : KL62 = [0, 1, 3] := rfl
theorem TF62 : type_of% (aa (aa (aa (aa U3 U4) (aa U25 U26)) (aa (aa U28 U42) (aa U43 U45))) (aa (aa (aa U47 U64) (aa U71 U94)) (aa (aa U113 U116) (aa U129 KE62)))) := aa (aa (aa (aa U3 U4) (aa U25 U26)) (aa (aa U28 U42) (aa U43 U45))) (aa (aa (aa U47 U64) (aa U71 U94)) (aa (aa U113 U116) (aa U129 KE62)))
def KL63 : List Nat := [0, 1, 4, 5, 6]
theorem KE63 : KL63 = [0, 1, 4, 5, 6] := rfl
theorem TF63 : type_of% (aa (aa U4 (aa U5 U98)) (aa U119 (aa U122 KE63))) := aa (aa U4 (aa U5 U98)) (aa U119 (aa U122 KE63))
def KL64 : List Nat := [0, 1, 4, 5, 6, 7, 8, 9, 10, 11, 12, 13]
theorem KE64 : KL64 = [0, 1, 4, 5, 6, 7, 8, 9, 10, 11, 12, 13] := rfl
theorem TF64 : type_of% (aa (aa U4 U5) (aa U98 (aa U122 KE64))) := aa (aa U4 U5) (aa U98 (aa U122 KE64))
def KL65 : List Nat := [0, 1, 3, 8, 18]
theorem KE65 : KL65 = [0, 1, 3, 8, 18] := rfl
theorem TF65 : type_of% (aa (aa U3 (aa U4 U26)) (aa U94 (aa U95 KE65))) := aa (aa U3 (aa U4 U26)) (aa U94 (aa U95 KE65))
def KL66 : List Nat := [0, 1, 2, 4, 5, 6, 7, 44, 47, 77, 81, 97]
theorem KE66 : KL66 = [0, 1, 2, 4, 5, 6, 7, 44, 47, 77, 81, 97] := rfl
theorem TF66 : type_of% (aa (aa (aa U1 U2) (aa U3 (aa U4 U25))) (aa (aa U42 (aa U43 U45)) (aa U71 (aa U129 KE66)))) := aa (aa (aa U1 U2) (aa U3 (aa U4 U25))) (aa (aa U42 (aa U43 U45)) (aa U71 (aa U129 KE66)))
def KL67 : List Nat := [0, 1, 4, 5, 6, 7, 8, 16, 20, 51, 55, 91]
theorem KE67 : KL67 = [0, 1, 4, 5, 6, 7, 8, 16, 20, 51, 55, 91] := rfl
theorem TF67 : type_of% (aa (aa (aa U1 U2) (aa U3 (aa U4 U36))) (aa (aa U42 U43) (aa U71 (aa U129 KE67)))) := aa (aa (aa U1 U2) (aa U3 (aa U4 U36))) (aa (aa U42 U43) (aa U71 (aa U129 KE67)))
def KL68 : List Nat := [0, 2]
theorem KE68 : KL68 = [0, 2] := rfl
theorem TF68 : type_of% (aa (aa U2 U3) (aa U4 KE68)) := aa (aa U2 U3) (aa U4 KE68)
def KL69 : List Nat := [0, 1, 2, 3, 4, 8, 11, 36]
theorem KE69 : KL69 = [0, 1, 2, 3, 4, 8, 11, 36] := rfl
theorem TF69 : type_of% (aa (aa (aa U2 U3) (aa U4 (aa U6 U8))) (aa (aa U25 (aa U26 U28)) (aa U36 (aa U94 KE69)))) := aa (aa (aa U2 U3) (aa U4 (aa U6 U8))) (aa (aa U25 (aa U26 U28)) (aa U36 (aa U94 KE69)))
def KL70 : List Nat := [0, 1, 2, 4, 5, 6, 11, 21]
theorem KE70 : KL70 = [0, 1, 2, 4, 5, 6, 11, 21] := rfl
theorem TF70 : type_of% (aa (aa (aa U1 U2) (aa U3 U4)) (aa (aa U25 U26) (aa U28 (aa U94 KE70)))) := aa (aa (aa U1 U2) (aa U3 U4)) (aa (aa U25 U26) (aa U28 (aa U94 KE70)))
def KL71 : List Nat := [0, 1, 2, 6]
theorem KE71 : KL71 = [0, 1, 2, 6] := rfl
theorem TF71 : type_of% (aa (aa U3 U4) (aa U6 KE71)) := aa (aa U3 U4) (aa U6 KE71)
def KL72 : List Nat := [0, 1, 2, 4, 13, 14, 15, 16, 21]
theorem KE72 : KL72 = [0, 1, 2, 4, 13, 14, 15, 16, 21] := rfl
theorem TF72 : type_of% (aa (aa (aa U1 (aa U2 U3)) (aa (aa U4 U25) (aa U33 U42))) (aa (aa U43 (aa U45 U56)) (aa (aa U71 U129) (aa U133 KE72)))) := aa (aa (aa U1 (aa U2 U3)) (aa (aa U4 U25) (aa U33 U42))) (aa (aa U43 (aa U45 U56)) (aa (aa U71 U129) (aa U133 KE72)))
def KL73 : List Nat := [0, 1, 4, 6, 7, 9, 17, 18, 19, 20, 21, 48, 50, 51, 52, 53, 71]
theorem KE73 : KL73 = [0, 1, 4, 6, 7, 9, 17, 18, 19, 20, 21, 48, 50, 51, 52, 53, 71] := rfl
theorem TF73 : type_of% (aa (aa (aa U1 U2) (aa U3 (aa U4 U36))) (aa (aa U42 U43) (aa U71 (aa U129 KE73)))) := aa (aa (aa U1 U2) (aa U3 (aa U4 U36))) (aa (aa U42 U43) (aa U71 (aa U129 KE73)))
def KL74 : List Nat := [0, 1, 2, 3, 4]
theorem KE74 : KL74 = [0, 1, 2, 3, 4] := rfl
theorem TF74 : type_of% (aa (aa U3 U4) (aa U33 KE74)) := aa (aa U3 U4) (aa U33 KE74)
def KL75 : List Nat := [0, 1, 2]
theorem KE75 : KL75 = [0, 1, 2] := rfl
theorem TF75 : type_of% (aa (aa U2 U3) (aa U4 KE75)) := aa (aa U2 U3) (aa U4 KE75)
def KL76 : List Nat := [0, 1]
theorem KE76 : KL76 = [0, 1] := rfl
theorem TF76 : type_of% (aa (aa U1 (aa U2 U3)) (aa (aa U4 U25) (aa U64 KE76))) := aa (aa U1 (aa U2 U3)) (aa (aa U4 U25) (aa U64 KE76))
def KL77 : List Nat := [0, 1, 2, 3, 5, 7, 8, 9, 10, 20]
theorem KE77 : KL77 = [0, 1, 2, 3, 5, 7, 8, 9, 10, 20] := rfl
theorem TF77 : type_of% (aa (aa (aa U2 U3) (aa U4 U6)) (aa (aa U8 U25) (aa U64 KE77))) := aa (aa (aa U2 U3) (aa U4 U6)) (aa (aa U8 U25) (aa U64 KE77))
def KL78 : List Nat := [0, 1, 4, 5, 7, 8, 9, 16]
theorem KE78 : KL78 = [0, 1, 4, 5, 7, 8, 9, 16] := rfl
theorem TF78 : type_of% (aa (aa U3 (aa U4 U25)) (aa (aa U29 U64) (aa U109 KE78))) := aa (aa U3 (aa U4 U25)) (aa (aa U29 U64) (aa U109 KE78))
def KL79 : List Nat := [0, 1, 2, 3, 7, 8, 9, 10, 15, 27, 31, 32, 35, 38]
theorem KE79 : KL79 = [0, 1, 2, 3, 7, 8, 9, 10, 15, 27, 31, 32, 35, 38] := rfl
theorem TF79 : type_of% (aa (aa (aa (aa U1 U2) (aa U3 U4)) (aa (aa U6 U8) (aa U9 U25))) (aa (aa (aa U36 U42) (aa U43 U71)) (aa (aa U129 U143) (aa KE79 KT)))) := aa (aa (aa (aa U1 U2) (aa U3 U4)) (aa (aa U6 U8) (aa U9 U25))) (aa (aa (aa U36 U42) (aa U43 U71)) (aa (aa U129 U143) (aa KE79 KT)))
def KL80 : List Nat := [0, 1, 2, 4, 5]
theorem KE80 : KL80 = [0, 1, 2, 4, 5] := rfl
theorem TF80 : type_of% (aa (aa (aa U1 U3) (aa U4 (aa U25 U42))) (aa (aa U43 U45) (aa U71 (aa U129 KE80)))) := aa (aa (aa U1 U3) (aa U4 (aa U25 U42))) (aa (aa U43 U45) (aa U71 (aa U129 KE80)))
def KL81 : List Nat := [0, 2]
theorem KE81 : KL81 = [0, 2] := rfl
theorem TF81 : type_of% (aa (aa U2 U3) (aa U4 KE81)) := aa (aa U2 U3) (aa U4 KE81)
def KL82 : List Nat := [0, 1, 4, 5, 7, 8, 9, 16]
theorem KE82 : KL82 = [0, 1, 4, 5, 7, 8, 9, 16] := rfl
theorem TF82 : type_of% (aa (aa U3 (aa U4 U115)) (aa U116 (aa U118 KE82))) := aa (aa U3 (aa U4 U115)) (aa U116 (aa U118 KE82))
def KL83 : List Nat := [0, 1, 2]
theorem KE83 : KL83 = [0, 1, 2] := rfl
theorem TF83 : type_of% (aa (aa (aa (aa U1 U2) (aa U3 U4)) (aa (aa U25 U26) (aa U28 U42))) (aa (aa (aa U43 U45) (aa U47 U64)) (aa (aa U71 U94) (aa U113 (aa U129 KE83))))) := aa (aa (aa (aa U1 U2) (aa U3 U4)) (aa (aa U25 U26) (aa U28 U42))) (aa (aa (aa U43 U45) (aa U47 U64)) (aa (aa U71 U94) (aa U113 (aa U129 KE83))))
def KL84 : List Nat := [0, 1, 2]
theorem KE84 : KL84 = [0, 1, 2] := rfl
theorem TF84 : type_of% (aa (aa (aa (aa U1 U2) (aa U3 U4)) (aa (aa U25 U26) (aa U28 U42))) (aa (aa (aa U43 U45) (aa U47 U64)) (aa (aa U71 U94) (aa U113 (aa U129 KE84))))) := aa (aa (aa (aa U1 U2) (aa U3 U4)) (aa (aa U25 U26) (aa U28 U42))) (aa (aa (aa U43 U45) (aa U47 U64)) (aa (aa U71 U94) (aa U113 (aa U129 KE84))))
def KL85 : List Nat := [0, 1, 2]
theorem KE85 : KL85 = [0, 1, 2] := rfl
theorem TF85 : type_of% (aa (aa (aa (aa U1 U2) (aa U3 U4)) (aa (aa U5 U25) (aa U26 (aa U28 U42)))) (aa (aa (aa U43 U45) (aa U47 U64)) (aa (aa U71 U94) (aa U113 (aa U129 KE85))))) := aa (aa (aa (aa U1 U2) (aa U3 U4)) (aa (aa U5 U25) (aa U26 (aa U28 U42)))) (aa (aa (aa U43 U45) (aa U47 U64)) (aa (aa U71 U94) (aa U113 (aa U129 KE85))))
def KL86 : List Nat := [0, 1, 2, 3]
theorem KE86 : KL86 = [0, 1, 2, 3] := rfl
theorem TF86 : type_of% (aa (aa (aa (aa U1 U2) (aa U3 (aa U4 U6))) (aa (aa U7 U25) (aa U26 (aa U28 U36)))) (aa (aa (aa U42 U43) (aa U45 (aa U47 U64))) (aa (aa U71 U94) (aa U113 (aa U129 KE86))))) := aa (aa (aa (aa U1 U2) (aa U3 (aa U4 U6))) (aa (aa U7 U25) (aa U26 (aa U28 U36)))) (aa (aa (aa U42 U43) (aa U45 (aa U47 U64))) (aa (aa U71 U94) (aa U113 (aa U129 KE86))))
def KL87 : List Nat := [0, 1, 2]
theorem KE87 : KL87 = [0, 1, 2] := rfl
theorem TF87 : type_of% (aa (aa (aa (aa U1 U2) (aa U3 U4)) (aa (aa U6 U25) (aa U26 (aa U28 U42)))) (aa (aa (aa U43 U45) (aa U47 U64)) (aa (aa U71 U94) (aa U113 (aa U129 KE87))))) := aa (aa (aa (aa U1 U2) (aa U3 U4)) (aa (aa U6 U25) (aa U26 (aa U28 U42)))) (aa (aa (aa U43 U45) (aa U47 U64)) (aa (aa U71 U94) (aa U113 (aa U129 KE87))))
def KL88 : List Nat := [0, 1, 2]
theorem KE88 : KL88 = [0, 1, 2] := rfl
theorem TF88 : type_of% (aa (aa (aa (aa U1 U2) (aa U3 U4)) (aa (aa U25 U26) (aa U28 (aa U42 U43)))) (aa (aa (aa U45 U47) (aa U64 U71)) (aa (aa U94 U113) (aa U127 (aa U129 KE88))))) := aa (aa (aa (aa U1 U2) (aa U3 U4)) (aa (aa U25 U26) (aa U28 (aa U42 U43)))) (aa (aa (aa U45 U47) (aa U64 U71)) (aa (aa U94 U113) (aa U127 (aa U129 KE88))))
def KL89 : List Nat := [0, 1, 4]
theorem KE89 : KL89 = [0, 1, 4] := rfl
theorem TF89 : type_of% (aa (aa U3 U4) (aa U25 (aa U127 KE89))) := aa (aa U3 U4) (aa U25 (aa U127 KE89))
def KL90 : List Nat := [0, 1, 3]
theorem KE90 : KL90 = [0, 1, 3] := rfl
theorem TF90 : type_of% (aa (aa (aa (aa U2 U3) (aa U4 U6)) (aa (aa U8 U25) (aa U26 (aa U28 U42)))) (aa (aa (aa U43 U45) (aa U47 U64)) (aa (aa U71 U94) (aa U113 (aa U129 KE90))))) := aa (aa (aa (aa U2 U3) (aa U4 U6)) (aa (aa U8 U25) (aa U26 (aa U28 U42)))) (aa (aa (aa U43 U45) (aa U47 U64)) (aa (aa U71 U94) (aa U113 (aa U129 KE90))))
def KL91 : List Nat := [0, 1, 4]
theorem KE91 : KL91 = [0, 1, 4] := rfl
theorem TF91 : type_of% (aa (aa U3 U4) (aa U25 KE91)) := aa (aa U3 U4) (aa U25 KE91)
def KL92 : List Nat := [0, 1, 2]
theorem KE92 : KL92 = [0, 1, 2] := rfl
theorem TF92 : type_of% (aa (aa (aa U1 (aa U2 U3)) (aa U4 (aa U25 U42))) (aa (aa U43 (aa U45 U71)) (aa U129 (aa U133 KE92)))) := aa (aa (aa U1 (aa U2 U3)) (aa U4 (aa U25 U42))) (aa (aa U43 (aa U45 U71)) (aa U129 (aa U133 KE92)))
def KL93 : List Nat := [0, 1, 2]
theorem KE93 : KL93 = [0, 1, 2] := rfl
theorem TF93 : type_of% (aa (aa (aa U2 U3) (aa U4 (aa U25 U42))) (aa (aa U43 (aa U45 U71)) (aa U129 (aa U133 KE93)))) := aa (aa (aa U2 U3) (aa U4 (aa U25 U42))) (aa (aa U43 (aa U45 U71)) (aa U129 (aa U133 KE93)))
def KL94 : List Nat := [0, 1, 2, 3, 5, 11, 12, 13, 14, 28]
theorem KE94 : KL94 = [0, 1, 2, 3, 5, 11, 12, 13, 14, 28] := rfl
theorem TF94 : type_of% (aa (aa (aa U1 (aa U2 U3)) (aa U4 (aa U25 U42))) (aa (aa U43 (aa U45 U71)) (aa (aa U129 U133) (aa U147 KE94)))) := aa (aa (aa U1 (aa U2 U3)) (aa U4 (aa U25 U42))) (aa (aa U43 (aa U45 U71)) (aa (aa U129 U133) (aa U147 KE94)))
def KL95 : List Nat := [0, 1, 2]
theorem KE95 : KL95 = [0, 1, 2] := rfl
theorem TF95 : type_of% (aa (aa (aa U1 (aa U2 U3)) (aa U4 (aa U25 U42))) (aa (aa U43 (aa U45 U71)) (aa (aa U127 U129) (aa U133 KE95)))) := aa (aa (aa U1 (aa U2 U3)) (aa U4 (aa U25 U42))) (aa (aa U43 (aa U45 U71)) (aa (aa U127 U129) (aa U133 KE95)))
def KL96 : List Nat := [0, 1, 2, 3, 4, 5, 6]
theorem KE96 : KL96 = [0, 1, 2, 3, 4, 5, 6] := rfl
theorem TF96 : type_of% (aa (aa (aa U3 U6) (aa U42 U43)) (aa (aa U71 U129) (aa U142 (aa U143 KE96)))) := aa (aa (aa U3 U6) (aa U42 U43)) (aa (aa U71 U129) (aa U142 (aa U143 KE96)))
def KL97 : List Nat := [0, 1, 4, 5, 7, 10, 11, 12, 13]
theorem KE97 : KL97 = [0, 1, 4, 5, 7, 10, 11, 12, 13] := rfl
theorem TF97 : type_of% (aa (aa U1 U3) (aa U4 (aa U25 KE97))) := aa (aa U1 U3) (aa U4 (aa U25 KE97))
def KL98 : List Nat := [0, 1, 4, 5, 7, 8, 9, 16]
theorem KE98 : KL98 = [0, 1, 4, 5, 7, 8, 9, 16] := rfl
theorem TF98 : type_of% (aa (aa U3 U4) (aa U25 (aa U127 KE98))) := aa (aa U3 U4) (aa U25 (aa U127 KE98))
def KL99 : List Nat := [0, 1, 4, 5, 7, 8, 9, 16]
theorem KE99 : KL99 = [0, 1, 4, 5, 7, 8, 9, 16] := rfl
theorem TF99 : type_of% (aa (aa U3 U4) (aa U25 KE99)) := aa (aa U3 U4) (aa U25 KE99)
def KL100 : List Nat := [0, 2]
theorem KE100 : KL100 = [0, 2] := rfl
theorem TF100 : type_of% (aa (aa U2 U3) (aa U4 KE100)) := aa (aa U2 U3) (aa U4 KE100)
def KL101 : List Nat := [0, 1, 2, 3, 5, 6, 8, 13, 15, 16, 17, 32, 33, 34, 35, 36, 48, 55]
theorem KE101 : KL101 = [0, 1, 2, 3, 5, 6, 8, 13, 15, 16, 17, 32, 33, 34, 35, 36, 48, 55] := rfl
theorem TF101 : type_of% (aa (aa (aa U1 U3) (aa U4 (aa U25 U42))) (aa (aa U43 (aa U71 U127)) (aa U129 (aa KE101 KT)))) := aa (aa (aa U1 U3) (aa U4 (aa U25 U42))) (aa (aa U43 (aa U71 U127)) (aa U129 (aa KE101 KT)))
def KL102 : List Nat := [0, 1, 2, 4, 5, 10, 29]
theorem KE102 : KL102 = [0, 1, 2, 4, 5, 10, 29] := rfl
theorem TF102 : type_of% (aa (aa U1 (aa U2 U3)) (aa U4 (aa U71 KE102))) := aa (aa U1 (aa U2 U3)) (aa U4 (aa U71 KE102))
def KL103 : List Nat := [0, 2, 3, 5, 6, 7, 8, 9]
theorem KE103 : KL103 = [0, 2, 3, 5, 6, 7, 8, 9] := rfl
theorem TF103 : type_of% (aa (aa U2 U3) (aa U25 KE103)) := aa (aa U2 U3) (aa U25 KE103)
theorem jw : type_of% (@jW Try.prog mixed) := @jW Try.prog mixed
end Go.Proofs.Ytoadfmgnpmcbfaa
