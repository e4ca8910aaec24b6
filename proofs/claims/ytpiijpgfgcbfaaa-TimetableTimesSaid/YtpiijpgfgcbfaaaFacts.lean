/- Closed facts of this translation: how many cells a type takes, which functions can be called. Printed by a program of ours. -/
import Derived.Test.YtpiijpgfgcbfaaaProg
import Derived.Test.YtpiijpgfgcbfaaaFk
import Derived.KernelRfl
namespace Go.Proofs.Ytpiijpgfgcbfaaa
open Go Go.Fk
theorem mixed : Try.prog.follows .mixedOrders = true := by kernel_rfl
theorem cells1 : Try.prog.cellsOf 1 = 1 := by kernel_rfl
theorem cells2 : Try.prog.cellsOf 2 = 1 := by kernel_rfl
theorem cells3 : Try.prog.cellsOf 3 = 1 := by kernel_rfl
theorem cells4 : Try.prog.cellsOf 4 = 1 := by kernel_rfl
theorem cells5 : Try.prog.cellsOf 5 = 1 := by kernel_rfl
theorem cells6 : Try.prog.cellsOf 6 = 1 := by kernel_rfl
theorem cells7 : Try.prog.cellsOf 7 = 4 := by kernel_rfl
theorem cells8 : Try.prog.cellsOf 8 = 4 := by kernel_rfl
theorem cells9 : Try.prog.cellsOf 9 = 1 := by kernel_rfl
theorem cells10 : Try.prog.cellsOf 10 = 1 := by kernel_rfl
theorem cells11 : Try.prog.cellsOf 11 = 1 := by kernel_rfl
theorem cells12 : Try.prog.cellsOf 12 = 1 := by kernel_rfl
theorem cells13 : Try.prog.cellsOf 13 = 2 := by kernel_rfl
theorem cells14 : Try.prog.cellsOf 14 = 2 := by kernel_rfl
theorem cells15 : Try.prog.cellsOf 15 = 1 := by kernel_rfl
theorem cells16 : Try.prog.cellsOf 16 = 1 := by kernel_rfl
theorem cells17 : Try.prog.cellsOf 17 = 1 := by kernel_rfl
theorem cells18 : Try.prog.cellsOf 18 = 1 := by kernel_rfl
theorem cells19 : Try.prog.cellsOf 19 = 1 := by kernel_rfl
theorem cells21 : Try.prog.cellsOf 21 = 1 := by kernel_rfl
theorem cells22 : Try.prog.cellsOf 22 = 1 := by kernel_rfl
theorem cells23 : Try.prog.cellsOf 23 = 2 := by kernel_rfl
theorem cells24 : Try.prog.cellsOf 24 = 2 := by kernel_rfl
theorem cells25 : Try.prog.cellsOf 25 = 1 := by kernel_rfl
theorem cells26 : Try.prog.cellsOf 26 = 1 := by kernel_rfl
theorem cells27 : Try.prog.cellsOf 27 = 1 := by kernel_rfl
theorem cells28 : Try.prog.cellsOf 28 = 1 := by kernel_rfl
theorem cells30 : Try.prog.cellsOf 30 = 1 := by kernel_rfl
theorem cells31 : Try.prog.cellsOf 31 = 1 := by kernel_rfl
theorem cells32 : Try.prog.cellsOf 32 = 1 := by kernel_rfl
theorem cells33 : Try.prog.cellsOf 33 = 3 := by kernel_rfl
theorem cells34 : Try.prog.cellsOf 34 = 3 := by kernel_rfl
theorem cells35 : Try.prog.cellsOf 35 = 1 := by kernel_rfl
theorem cells37 : Try.prog.cellsOf 37 = 1 := by kernel_rfl
theorem cells38 : Try.prog.cellsOf 38 = 1 := by kernel_rfl
theorem cells39 : Try.prog.cellsOf 39 = 1 := by kernel_rfl
theorem cells40 : Try.prog.cellsOf 40 = 1 := by kernel_rfl
theorem cells41 : Try.prog.cellsOf 41 = 1 := by kernel_rfl
theorem cells42 : Try.prog.cellsOf 42 = 1 := by kernel_rfl
theorem cells43 : Try.prog.cellsOf 43 = 1 := by kernel_rfl
theorem cells44 : Try.prog.cellsOf 44 = 6 := by kernel_rfl
theorem cells45 : Try.prog.cellsOf 45 = 6 := by kernel_rfl
theorem cells46 : Try.prog.cellsOf 46 = 1 := by kernel_rfl
theorem cells47 : Try.prog.cellsOf 47 = 1 := by kernel_rfl
theorem cells48 : Try.prog.cellsOf 48 = 1 := by kernel_rfl
theorem cells49 : Try.prog.cellsOf 49 = 1 := by kernel_rfl
theorem cells50 : Try.prog.cellsOf 50 = 1 := by kernel_rfl
theorem cells51 : Try.prog.cellsOf 51 = 1 := by kernel_rfl
theorem cells52 : Try.prog.cellsOf 52 = 1 := by kernel_rfl
theorem cells53 : Try.prog.cellsOf 53 = 1 := by kernel_rfl
theorem cells54 : Try.prog.cellsOf 54 = 1 := by kernel_rfl
theorem cells55 : Try.prog.cellsOf 55 = 1 := by kernel_rfl
theorem cells56 : Try.prog.cellsOf 56 = 1 := by kernel_rfl
theorem cells57 : Try.prog.cellsOf 57 = 1 := by kernel_rfl
theorem cells58 : Try.prog.cellsOf 58 = 1 := by kernel_rfl
theorem cells59 : Try.prog.cellsOf 59 = 1 := by kernel_rfl
theorem cells60 : Try.prog.cellsOf 60 = 7 := by kernel_rfl
theorem cells61 : Try.prog.cellsOf 61 = 7 := by kernel_rfl
theorem cells62 : Try.prog.cellsOf 62 = 1 := by kernel_rfl
theorem cells63 : Try.prog.cellsOf 63 = 1 := by kernel_rfl
theorem cells64 : Try.prog.cellsOf 64 = 1 := by kernel_rfl
theorem cells65 : Try.prog.cellsOf 65 = 1 := by kernel_rfl
theorem cells66 : Try.prog.cellsOf 66 = 1 := by kernel_rfl
theorem cells67 : Try.prog.cellsOf 67 = 1 := by kernel_rfl
theorem cells68 : Try.prog.cellsOf 68 = 1 := by kernel_rfl
theorem cells69 : Try.prog.cellsOf 69 = 3 := by kernel_rfl
theorem cells70 : Try.prog.cellsOf 70 = 3 := by kernel_rfl
theorem cells71 : Try.prog.cellsOf 71 = 1 := by kernel_rfl
theorem cells72 : Try.prog.cellsOf 72 = 1 := by kernel_rfl
theorem cells73 : Try.prog.cellsOf 73 = 1 := by kernel_rfl
theorem cells74 : Try.prog.cellsOf 74 = 1 := by kernel_rfl
theorem cells75 : Try.prog.cellsOf 75 = 1 := by kernel_rfl
theorem cells76 : Try.prog.cellsOf 76 = 1 := by kernel_rfl
theorem cells77 : Try.prog.cellsOf 77 = 1 := by kernel_rfl
theorem cells78 : Try.prog.cellsOf 78 = 2 := by kernel_rfl
theorem cells79 : Try.prog.cellsOf 79 = 2 := by kernel_rfl
theorem cells80 : Try.prog.cellsOf 80 = 1 := by kernel_rfl
theorem cells81 : Try.prog.cellsOf 81 = 1 := by kernel_rfl
theorem cells82 : Try.prog.cellsOf 82 = 1 := by kernel_rfl
theorem cells83 : Try.prog.cellsOf 83 = 1 := by kernel_rfl
theorem cells85 : Try.prog.cellsOf 85 = 1 := by kernel_rfl
theorem cells86 : Try.prog.cellsOf 86 = 1 := by kernel_rfl
theorem cells87 : Try.prog.cellsOf 87 = 1 := by kernel_rfl
theorem cells89 : Try.prog.cellsOf 89 = 1 := by kernel_rfl
theorem cells90 : Try.prog.cellsOf 90 = 1 := by kernel_rfl
theorem cells91 : Try.prog.cellsOf 91 = 1 := by kernel_rfl
theorem cells92 : Try.prog.cellsOf 92 = 1 := by kernel_rfl
theorem cells93 : Try.prog.cellsOf 93 = 1 := by kernel_rfl
theorem cells94 : Try.prog.cellsOf 94 = 1 := by kernel_rfl
theorem cells95 : Try.prog.cellsOf 95 = 1 := by kernel_rfl
theorem cells96 : Try.prog.cellsOf 96 = 1 := by kernel_rfl
theorem cells97 : Try.prog.cellsOf 97 = 1 := by kernel_rfl
theorem cells98 : Try.prog.cellsOf 98 = 1 := by kernel_rfl
theorem cells99 : Try.prog.cellsOf 99 = 1 := by kernel_rfl
theorem cells100 : Try.prog.cellsOf 100 = 1 := by kernel_rfl
theorem cells101 : Try.prog.cellsOf 101 = 1 := by kernel_rfl
theorem cells102 : Try.prog.cellsOf 102 = 1 := by kernel_rfl
theorem cells103 : Try.prog.cellsOf 103 = 1 := by kernel_rfl
theorem cells105 : Try.prog.cellsOf 105 = 1 := by kernel_rfl
theorem cells106 : Try.prog.cellsOf 106 = 1 := by kernel_rfl
theorem cells107 : Try.prog.cellsOf 107 = 4 := by kernel_rfl
theorem cells108 : Try.prog.cellsOf 108 = 4 := by kernel_rfl
theorem cells109 : Try.prog.cellsOf 109 = 0 := by kernel_rfl
theorem cells110 : Try.prog.cellsOf 110 = 0 := by kernel_rfl
theorem cells111 : Try.prog.cellsOf 111 = 0 := by kernel_rfl
theorem cells112 : Try.prog.cellsOf 112 = 1 := by kernel_rfl
theorem cells113 : Try.prog.cellsOf 113 = 1 := by kernel_rfl
theorem cells114 : Try.prog.cellsOf 114 = 1 := by kernel_rfl
theorem cells115 : Try.prog.cellsOf 115 = 1 := by kernel_rfl
theorem cells116 : Try.prog.cellsOf 116 = 1 := by kernel_rfl
theorem cells117 : Try.prog.cellsOf 117 = 1 := by kernel_rfl
theorem cells118 : Try.prog.cellsOf 118 = 1 := by kernel_rfl
theorem cells119 : Try.prog.cellsOf 119 = 11 := by kernel_rfl
theorem cells120 : Try.prog.cellsOf 120 = 11 := by kernel_rfl
theorem ti1 : TI Try.prog 1 (.nilFunc) 1 8 := ⟨by kernel_rfl⟩
theorem ti2 : TI Try.prog 2 (.int .i64 0) 1 8 := ⟨by kernel_rfl⟩
theorem ti3 : TI Try.prog 3 (.int .i64 0) 1 8 := ⟨by kernel_rfl⟩
theorem ti4 : TI Try.prog 4 (.bool false) 1 1 := ⟨by kernel_rfl⟩
theorem ti5 : TI Try.prog 5 (.int .u8 0) 1 1 := ⟨by kernel_rfl⟩
theorem ti6 : TI Try.prog 6 (.int .u8 0) 1 1 := ⟨by kernel_rfl⟩
theorem ti7 : TI Try.prog 7 (.agg #[.int .i64 0, .int .i64 0, .bool false, .int .u8 0]) 4 24 := ⟨by kernel_rfl⟩
theorem ti8 : TI Try.prog 8 (.agg #[.int .i64 0, .int .i64 0, .bool false, .int .u8 0]) 4 24 := ⟨by kernel_rfl⟩
theorem ti9 : TI Try.prog 9 (.string ByteArray.empty) 1 16 := ⟨by kernel_rfl⟩
theorem ti10 : TI Try.prog 10 (.string ByteArray.empty) 1 16 := ⟨by kernel_rfl⟩
theorem ti11 : TI Try.prog 11 (.string ByteArray.empty) 1 16 := ⟨by kernel_rfl⟩
theorem ti12 : TI Try.prog 12 (.int .u64 0) 1 8 := ⟨by kernel_rfl⟩
theorem ti13 : TI Try.prog 13 (.agg #[.string ByteArray.empty, .int .u64 0]) 2 24 := ⟨by kernel_rfl⟩
theorem ti14 : TI Try.prog 14 (.agg #[.string ByteArray.empty, .int .u64 0]) 2 24 := ⟨by kernel_rfl⟩
theorem ti15 : TI Try.prog 15 (.pointer none) 1 8 := ⟨by kernel_rfl⟩
theorem ti16 : TI Try.prog 16 (.pointer none) 1 8 := ⟨by kernel_rfl⟩
theorem ti17 : TI Try.prog 17 (.pointer none) 1 8 := ⟨by kernel_rfl⟩
theorem ti18 : TI Try.prog 18 (.agg #[.pointer none]) 1 8 := ⟨by kernel_rfl⟩
theorem ti19 : TI Try.prog 19 (.agg #[.pointer none]) 1 8 := ⟨by kernel_rfl⟩
theorem ti21 : TI Try.prog 21 (.int .i32 0) 1 4 := ⟨by kernel_rfl⟩
theorem ti22 : TI Try.prog 22 (.slice none 0 0) 1 24 := ⟨by kernel_rfl⟩
theorem ti23 : TI Try.prog 23 (.agg #[.int .i64 0, .slice none 0 0]) 2 32 := ⟨by kernel_rfl⟩
theorem ti24 : TI Try.prog 24 (.agg #[.int .i64 0, .slice none 0 0]) 2 32 := ⟨by kernel_rfl⟩
theorem ti25 : TI Try.prog 25 (.nilFunc) 1 8 := ⟨by kernel_rfl⟩
theorem ti26 : TI Try.prog 26 (.nilFunc) 1 8 := ⟨by kernel_rfl⟩
theorem ti27 : TI Try.prog 27 (.slice none 0 0) 1 24 := ⟨by kernel_rfl⟩
theorem ti28 : TI Try.prog 28 (.int .i64 0) 1 8 := ⟨by kernel_rfl⟩
theorem ti30 : TI Try.prog 30 (.nilFunc) 1 8 := ⟨by kernel_rfl⟩
theorem ti31 : TI Try.prog 31 (.nilFunc) 1 8 := ⟨by kernel_rfl⟩
theorem ti32 : TI Try.prog 32 (.nilFunc) 1 8 := ⟨by kernel_rfl⟩
theorem ti33 : TI Try.prog 33 (.agg #[.int .i64 0, .int .i64 0, .int .i64 0]) 3 24 := ⟨by kernel_rfl⟩
theorem ti34 : TI Try.prog 34 (.agg #[.int .i64 0, .int .i64 0, .int .i64 0]) 3 24 := ⟨by kernel_rfl⟩
theorem ti35 : TI Try.prog 35 (.slice none 0 0) 1 24 := ⟨by kernel_rfl⟩
theorem ti37 : TI Try.prog 37 (.nilFunc) 1 8 := ⟨by kernel_rfl⟩
theorem ti38 : TI Try.prog 38 (.nilFunc) 1 8 := ⟨by kernel_rfl⟩
theorem ti39 : TI Try.prog 39 (.nilFunc) 1 8 := ⟨by kernel_rfl⟩
theorem ti40 : TI Try.prog 40 (.nilFunc) 1 8 := ⟨by kernel_rfl⟩
theorem ti41 : TI Try.prog 41 (.nilFunc) 1 8 := ⟨by kernel_rfl⟩
theorem ti42 : TI Try.prog 42 (.slice none 0 0) 1 24 := ⟨by kernel_rfl⟩
theorem ti43 : TI Try.prog 43 (.slice none 0 0) 1 24 := ⟨by kernel_rfl⟩
theorem ti44 : TI Try.prog 44 (.agg #[.slice none 0 0, .slice none 0 0, .int .i64 0, .int .i64 0, .slice none 0 0, .slice none 0 0]) 6 112 := ⟨by kernel_rfl⟩
theorem ti45 : TI Try.prog 45 (.agg #[.slice none 0 0, .slice none 0 0, .int .i64 0, .int .i64 0, .slice none 0 0, .slice none 0 0]) 6 112 := ⟨by kernel_rfl⟩
theorem ti46 : TI Try.prog 46 (.nilFunc) 1 8 := ⟨by kernel_rfl⟩
theorem ti47 : TI Try.prog 47 (.int .u64 0) 1 8 := ⟨by kernel_rfl⟩
theorem ti48 : TI Try.prog 48 (.nilFunc) 1 8 := ⟨by kernel_rfl⟩
theorem ti49 : TI Try.prog 49 (.nilFunc) 1 8 := ⟨by kernel_rfl⟩
theorem ti50 : TI Try.prog 50 (.nilFunc) 1 8 := ⟨by kernel_rfl⟩
theorem ti51 : TI Try.prog 51 (.nilFunc) 1 8 := ⟨by kernel_rfl⟩
theorem ti52 : TI Try.prog 52 (.nilFunc) 1 8 := ⟨by kernel_rfl⟩
theorem ti53 : TI Try.prog 53 (.nilFunc) 1 8 := ⟨by kernel_rfl⟩
theorem ti54 : TI Try.prog 54 (.nilFunc) 1 8 := ⟨by kernel_rfl⟩
theorem ti55 : TI Try.prog 55 (.nilFunc) 1 8 := ⟨by kernel_rfl⟩
theorem ti56 : TI Try.prog 56 (.nilFunc) 1 8 := ⟨by kernel_rfl⟩
theorem ti57 : TI Try.prog 57 (.nilFunc) 1 8 := ⟨by kernel_rfl⟩
theorem ti58 : TI Try.prog 58 (.nilFunc) 1 8 := ⟨by kernel_rfl⟩
theorem ti59 : TI Try.prog 59 (.nilFunc) 1 8 := ⟨by kernel_rfl⟩
theorem ti60 : TI Try.prog 60 (.agg #[.slice none 0 0, .slice none 0 0, .int .i64 0, .int .i64 0, .slice none 0 0, .slice none 0 0, .int .i64 0]) 7 120 := ⟨by kernel_rfl⟩
theorem ti61 : TI Try.prog 61 (.agg #[.slice none 0 0, .slice none 0 0, .int .i64 0, .int .i64 0, .slice none 0 0, .slice none 0 0, .int .i64 0]) 7 120 := ⟨by kernel_rfl⟩
theorem ti62 : TI Try.prog 62 (.nilFunc) 1 8 := ⟨by kernel_rfl⟩
theorem ti63 : TI Try.prog 63 (.nilFunc) 1 8 := ⟨by kernel_rfl⟩
theorem ti64 : TI Try.prog 64 (.nilFunc) 1 8 := ⟨by kernel_rfl⟩
theorem ti65 : TI Try.prog 65 (.nilFunc) 1 8 := ⟨by kernel_rfl⟩
theorem ti66 : TI Try.prog 66 (.nilFunc) 1 8 := ⟨by kernel_rfl⟩
theorem ti67 : TI Try.prog 67 (.nilFunc) 1 8 := ⟨by kernel_rfl⟩
theorem ti68 : TI Try.prog 68 (.nilFunc) 1 8 := ⟨by kernel_rfl⟩
theorem ti69 : TI Try.prog 69 (.agg #[.int .i64 0, .int .i64 0, .int .i64 0]) 3 24 := ⟨by kernel_rfl⟩
theorem ti70 : TI Try.prog 70 (.agg #[.int .i64 0, .int .i64 0, .int .i64 0]) 3 24 := ⟨by kernel_rfl⟩
theorem ti71 : TI Try.prog 71 (.nilFunc) 1 8 := ⟨by kernel_rfl⟩
theorem ti72 : TI Try.prog 72 (.nilFunc) 1 8 := ⟨by kernel_rfl⟩
theorem ti73 : TI Try.prog 73 (.nilFunc) 1 8 := ⟨by kernel_rfl⟩
theorem ti74 : TI Try.prog 74 (.nilFunc) 1 8 := ⟨by kernel_rfl⟩
theorem ti75 : TI Try.prog 75 (.nilFunc) 1 8 := ⟨by kernel_rfl⟩
theorem ti76 : TI Try.prog 76 (.nilFunc) 1 8 := ⟨by kernel_rfl⟩
theorem ti77 : TI Try.prog 77 (.slice none 0 0) 1 24 := ⟨by kernel_rfl⟩
theorem ti78 : TI Try.prog 78 (.agg #[.int .i64 0, .int .i64 0]) 2 16 := ⟨by kernel_rfl⟩
theorem ti79 : TI Try.prog 79 (.agg #[.int .i64 0, .int .i64 0]) 2 16 := ⟨by kernel_rfl⟩
theorem ti80 : TI Try.prog 80 (.nilFunc) 1 8 := ⟨by kernel_rfl⟩
theorem ti81 : TI Try.prog 81 (.nilFunc) 1 8 := ⟨by kernel_rfl⟩
theorem ti82 : TI Try.prog 82 (.nilFunc) 1 8 := ⟨by kernel_rfl⟩
theorem ti83 : TI Try.prog 83 (.int .i64 0) 1 8 := ⟨by kernel_rfl⟩
theorem ti85 : TI Try.prog 85 (.nilFunc) 1 8 := ⟨by kernel_rfl⟩
theorem ti86 : TI Try.prog 86 (.nilFunc) 1 8 := ⟨by kernel_rfl⟩
theorem ti87 : TI Try.prog 87 (.nilFunc) 1 8 := ⟨by kernel_rfl⟩
theorem ti89 : TI Try.prog 89 (.nilFunc) 1 8 := ⟨by kernel_rfl⟩
theorem ti90 : TI Try.prog 90 (.nilFunc) 1 8 := ⟨by kernel_rfl⟩
theorem ti91 : TI Try.prog 91 (.int .u32 0) 1 4 := ⟨by kernel_rfl⟩
theorem ti92 : TI Try.prog 92 (.nilFunc) 1 8 := ⟨by kernel_rfl⟩
theorem ti93 : TI Try.prog 93 (.int .u64 0) 1 8 := ⟨by kernel_rfl⟩
theorem ti94 : TI Try.prog 94 (.slice none 0 0) 1 24 := ⟨by kernel_rfl⟩
theorem ti95 : TI Try.prog 95 (.nilFunc) 1 8 := ⟨by kernel_rfl⟩
theorem ti96 : TI Try.prog 96 (.int .u64 0) 1 8 := ⟨by kernel_rfl⟩
theorem ti97 : TI Try.prog 97 (.nilFunc) 1 8 := ⟨by kernel_rfl⟩
theorem ti98 : TI Try.prog 98 (.nilFunc) 1 8 := ⟨by kernel_rfl⟩
theorem ti99 : TI Try.prog 99 (.nilFunc) 1 8 := ⟨by kernel_rfl⟩
theorem ti100 : TI Try.prog 100 (.pointer none) 1 8 := ⟨by kernel_rfl⟩
theorem ti101 : TI Try.prog 101 (.nilFunc) 1 8 := ⟨by kernel_rfl⟩
theorem ti102 : TI Try.prog 102 (.nilFunc) 1 8 := ⟨by kernel_rfl⟩
theorem ti103 : TI Try.prog 103 (.pointer none) 1 8 := ⟨by kernel_rfl⟩
theorem ti105 : TI Try.prog 105 (.nilFunc) 1 8 := ⟨by kernel_rfl⟩
theorem ti106 : TI Try.prog 106 (.nilFunc) 1 8 := ⟨by kernel_rfl⟩
theorem ti107 : TI Try.prog 107 (.agg #[.pointer none, .pointer none, .pointer none, .string ByteArray.empty]) 4 40 := ⟨by kernel_rfl⟩
theorem ti108 : TI Try.prog 108 (.agg #[.pointer none, .pointer none, .pointer none, .string ByteArray.empty]) 4 40 := ⟨by kernel_rfl⟩
theorem ti112 : TI Try.prog 112 (.nilFunc) 1 8 := ⟨by kernel_rfl⟩
theorem ti113 : TI Try.prog 113 (.int .u8 0) 1 1 := ⟨by kernel_rfl⟩
theorem ti114 : TI Try.prog 114 (.int .u8 0) 1 1 := ⟨by kernel_rfl⟩
theorem ti115 : TI Try.prog 115 (.nilFunc) 1 8 := ⟨by kernel_rfl⟩
theorem ti116 : TI Try.prog 116 (.pointer none) 1 8 := ⟨by kernel_rfl⟩
theorem ti117 : TI Try.prog 117 (.int .i32 0) 1 4 := ⟨by kernel_rfl⟩
theorem ti118 : TI Try.prog 118 (.int .i32 0) 1 4 := ⟨by kernel_rfl⟩
theorem ti119 : TI Try.prog 119 (.agg #[.int .u64 0, .int .u64 0, .int .u32 0, .int .u8 0, .int .u8 0, .int .u8 0, .int .u8 0, .nilFunc, .pointer none, .int .i32 0, .int .i32 0]) 11 48 := ⟨by kernel_rfl⟩
theorem ti120 : TI Try.prog 120 (.agg #[.int .u64 0, .int .u64 0, .int .u32 0, .int .u8 0, .int .u8 0, .int .u8 0, .int .u8 0, .nilFunc, .pointer none, .int .i32 0, .int .i32 0]) 11 48 := ⟨by kernel_rfl⟩
theorem call3 : callable Try.prog 3 = true := by kernel_rfl
theorem call4 : callable Try.prog 4 = true := by kernel_rfl
theorem call5 : callable Try.prog 5 = true := by kernel_rfl
theorem call6 : callable Try.prog 6 = true := by kernel_rfl
theorem call7 : callable Try.prog 7 = true := by kernel_rfl
theorem call8 : callable Try.prog 8 = true := by kernel_rfl
theorem call9 : callable Try.prog 9 = true := by kernel_rfl
theorem call10 : callable Try.prog 10 = true := by kernel_rfl
theorem call11 : callable Try.prog 11 = true := by kernel_rfl
theorem call12 : callable Try.prog 12 = true := by kernel_rfl
theorem call13 : callable Try.prog 13 = true := by kernel_rfl
theorem call14 : callable Try.prog 14 = true := by kernel_rfl
theorem call15 : callable Try.prog 15 = true := by kernel_rfl
theorem call16 : callable Try.prog 16 = true := by kernel_rfl
theorem call17 : callable Try.prog 17 = true := by kernel_rfl
theorem call18 : callable Try.prog 18 = true := by kernel_rfl
theorem call19 : callable Try.prog 19 = true := by kernel_rfl
theorem call20 : callable Try.prog 20 = true := by kernel_rfl
theorem call21 : callable Try.prog 21 = true := by kernel_rfl
theorem call22 : callable Try.prog 22 = true := by kernel_rfl
theorem call23 : callable Try.prog 23 = true := by kernel_rfl
theorem call24 : callable Try.prog 24 = true := by kernel_rfl
theorem call25 : callable Try.prog 25 = true := by kernel_rfl
theorem call26 : callable Try.prog 26 = true := by kernel_rfl
theorem call27 : callable Try.prog 27 = true := by kernel_rfl
theorem call28 : callable Try.prog 28 = true := by kernel_rfl
theorem call29 : callable Try.prog 29 = true := by kernel_rfl
theorem call30 : callable Try.prog 30 = true := by kernel_rfl
theorem call31 : callable Try.prog 31 = true := by kernel_rfl
theorem call32 : callable Try.prog 32 = true := by kernel_rfl
theorem call33 : callable Try.prog 33 = true := by kernel_rfl
theorem call34 : callable Try.prog 34 = true := by kernel_rfl
theorem call35 : callable Try.prog 35 = true := by kernel_rfl
theorem call36 : callable Try.prog 36 = true := by kernel_rfl
theorem call37 : callable Try.prog 37 = true := by kernel_rfl
theorem call38 : callable Try.prog 38 = true := by kernel_rfl
theorem call39 : callable Try.prog 39 = true := by kernel_rfl
theorem call40 : callable Try.prog 40 = true := by kernel_rfl
theorem call41 : callable Try.prog 41 = true := by kernel_rfl
theorem call42 : callable Try.prog 42 = true := by kernel_rfl
theorem call43 : callable Try.prog 43 = true := by kernel_rfl
theorem call44 : callable Try.prog 44 = true := by kernel_rfl
theorem call45 : callable Try.prog 45 = true := by kernel_rfl
theorem call46 : callable Try.prog 46 = true := by kernel_rfl
theorem call47 : callable Try.prog 47 = true := by kernel_rfl
theorem call48 : callable Try.prog 48 = true := by kernel_rfl
theorem call49 : callable Try.prog 49 = true := by kernel_rfl
theorem call50 : callable Try.prog 50 = true := by kernel_rfl
theorem call51 : callable Try.prog 51 = true := by kernel_rfl
theorem call52 : callable Try.prog 52 = true := by kernel_rfl
theorem call53 : callable Try.prog 53 = true := by kernel_rfl
theorem call54 : callable Try.prog 54 = true := by kernel_rfl
theorem call55 : callable Try.prog 55 = true := by kernel_rfl
theorem call56 : callable Try.prog 56 = true := by kernel_rfl
theorem call57 : callable Try.prog 57 = true := by kernel_rfl
theorem call58 : callable Try.prog 58 = true := by kernel_rfl
theorem call59 : callable Try.prog 59 = true := by kernel_rfl
theorem call60 : callable Try.prog 60 = true := by kernel_rfl
theorem call61 : callable Try.prog 61 = true := by kernel_rfl
theorem call62 : callable Try.prog 62 = true := by kernel_rfl
theorem call63 : callable Try.prog 63 = true := by kernel_rfl
theorem call64 : callable Try.prog 64 = true := by kernel_rfl
theorem call65 : callable Try.prog 65 = true := by kernel_rfl
theorem call66 : callable Try.prog 66 = true := by kernel_rfl
theorem call67 : callable Try.prog 67 = true := by kernel_rfl
theorem call68 : callable Try.prog 68 = true := by kernel_rfl
theorem call69 : callable Try.prog 69 = true := by kernel_rfl
theorem call70 : callable Try.prog 70 = true := by kernel_rfl
theorem call71 : callable Try.prog 71 = true := by kernel_rfl
theorem call73 : callable Try.prog 73 = true := by kernel_rfl
theorem call74 : callable Try.prog 74 = true := by kernel_rfl
theorem call75 : callable Try.prog 75 = true := by kernel_rfl
theorem call76 : callable Try.prog 76 = true := by kernel_rfl
theorem U1 : type_of% (aa @Try.underlying1 cells1) := aa @Try.underlying1 cells1
theorem U2 : type_of% (aa @Try.underlying2 cells2) := aa @Try.underlying2 cells2
theorem U3 : type_of% (aa @Try.underlying3 cells3) := aa @Try.underlying3 cells3
theorem U4 : type_of% (aa @Try.underlying4 cells4) := aa @Try.underlying4 cells4
theorem U5 : type_of% (aa @Try.underlying5 cells5) := aa @Try.underlying5 cells5
theorem U6 : type_of% (aa @Try.underlying6 cells6) := aa @Try.underlying6 cells6
theorem U7 : type_of% (aa @Try.underlying7 cells7) := aa @Try.underlying7 cells7
theorem U8 : type_of% (aa @Try.underlying8 cells8) := aa @Try.underlying8 cells8
theorem U9 : type_of% (aa @Try.underlying9 cells9) := aa @Try.underlying9 cells9
theorem U10 : type_of% (aa @Try.underlying10 cells10) := aa @Try.underlying10 cells10
theorem U11 : type_of% (aa @Try.underlying11 cells11) := aa @Try.underlying11 cells11
theorem U12 : type_of% (aa @Try.underlying12 cells12) := aa @Try.underlying12 cells12
theorem U13 : type_of% (aa @Try.underlying13 cells13) := aa @Try.underlying13 cells13
theorem U14 : type_of% (aa @Try.underlying14 cells14) := aa @Try.underlying14 cells14
theorem U15 : type_of% (aa @Try.underlying15 cells15) := aa @Try.underlying15 cells15
theorem U16 : type_of% (aa @Try.underlying16 cells16) := aa @Try.underlying16 cells16
theorem U17 : type_of% (aa @Try.underlying17 cells17) := aa @Try.underlying17 cells17
theorem U18 : type_of% (aa @Try.underlying18 cells18) := aa @Try.underlying18 cells18
theorem U19 : type_of% (aa @Try.underlying19 cells19) := aa @Try.underlying19 cells19
theorem U21 : type_of% (aa @Try.underlying21 cells21) := aa @Try.underlying21 cells21
theorem U22 : type_of% (aa @Try.underlying22 cells22) := aa @Try.underlying22 cells22
theorem U23 : type_of% (aa @Try.underlying23 cells23) := aa @Try.underlying23 cells23
theorem U24 : type_of% (aa @Try.underlying24 cells24) := aa @Try.underlying24 cells24
theorem U25 : type_of% (aa @Try.underlying25 cells25) := aa @Try.underlying25 cells25
theorem U26 : type_of% (aa @Try.underlying26 cells26) := aa @Try.underlying26 cells26
theorem U27 : type_of% (aa @Try.underlying27 cells27) := aa @Try.underlying27 cells27
theorem U28 : type_of% (aa @Try.underlying28 cells28) := aa @Try.underlying28 cells28
theorem U30 : type_of% (aa @Try.underlying30 cells30) := aa @Try.underlying30 cells30
theorem U31 : type_of% (aa @Try.underlying31 cells31) := aa @Try.underlying31 cells31
theorem U32 : type_of% (aa @Try.underlying32 cells32) := aa @Try.underlying32 cells32
theorem U33 : type_of% (aa @Try.underlying33 cells33) := aa @Try.underlying33 cells33
theorem U34 : type_of% (aa @Try.underlying34 cells34) := aa @Try.underlying34 cells34
theorem U35 : type_of% (aa @Try.underlying35 cells35) := aa @Try.underlying35 cells35
theorem U37 : type_of% (aa @Try.underlying37 cells37) := aa @Try.underlying37 cells37
theorem U38 : type_of% (aa @Try.underlying38 cells38) := aa @Try.underlying38 cells38
theorem U39 : type_of% (aa @Try.underlying39 cells39) := aa @Try.underlying39 cells39
theorem U40 : type_of% (aa @Try.underlying40 cells40) := aa @Try.underlying40 cells40
theorem U41 : type_of% (aa @Try.underlying41 cells41) := aa @Try.underlying41 cells41
theorem U42 : type_of% (aa @Try.underlying42 cells42) := aa @Try.underlying42 cells42
theorem U43 : type_of% (aa @Try.underlying43 cells43) := aa @Try.underlying43 cells43
theorem U44 : type_of% (aa @Try.underlying44 cells44) := aa @Try.underlying44 cells44
theorem U45 : type_of% (aa @Try.underlying45 cells45) := aa @Try.underlying45 cells45
theorem U46 : type_of% (aa @Try.underlying46 cells46) := aa @Try.underlying46 cells46
theorem U47 : type_of% (aa @Try.underlying47 cells47) := aa @Try.underlying47 cells47
theorem U48 : type_of% (aa @Try.underlying48 cells48) := aa @Try.underlying48 cells48
theorem U49 : type_of% (aa @Try.underlying49 cells49) := aa @Try.underlying49 cells49
theorem U50 : type_of% (aa @Try.underlying50 cells50) := aa @Try.underlying50 cells50
theorem U51 : type_of% (aa @Try.underlying51 cells51) := aa @Try.underlying51 cells51
theorem U52 : type_of% (aa @Try.underlying52 cells52) := aa @Try.underlying52 cells52
theorem U53 : type_of% (aa @Try.underlying53 cells53) := aa @Try.underlying53 cells53
theorem U54 : type_of% (aa @Try.underlying54 cells54) := aa @Try.underlying54 cells54
theorem U55 : type_of% (aa @Try.underlying55 cells55) := aa @Try.underlying55 cells55
theorem U56 : type_of% (aa @Try.underlying56 cells56) := aa @Try.underlying56 cells56
theorem U57 : type_of% (aa @Try.underlying57 cells57) := aa @Try.underlying57 cells57
theorem U58 : type_of% (aa @Try.underlying58 cells58) := aa @Try.underlying58 cells58
theorem U59 : type_of% (aa @Try.underlying59 cells59) := aa @Try.underlying59 cells59
theorem U60 : type_of% (aa @Try.underlying60 cells60) := aa @Try.underlying60 cells60
theorem U61 : type_of% (aa @Try.underlying61 cells61) := aa @Try.underlying61 cells61
theorem U62 : type_of% (aa @Try.underlying62 cells62) := aa @Try.underlying62 cells62
theorem U63 : type_of% (aa @Try.underlying63 cells63) := aa @Try.underlying63 cells63
theorem U64 : type_of% (aa @Try.underlying64 cells64) := aa @Try.underlying64 cells64
theorem U65 : type_of% (aa @Try.underlying65 cells65) := aa @Try.underlying65 cells65
theorem U66 : type_of% (aa @Try.underlying66 cells66) := aa @Try.underlying66 cells66
theorem U67 : type_of% (aa @Try.underlying67 cells67) := aa @Try.underlying67 cells67
theorem U68 : type_of% (aa @Try.underlying68 cells68) := aa @Try.underlying68 cells68
theorem U69 : type_of% (aa @Try.underlying69 cells69) := aa @Try.underlying69 cells69
theorem U70 : type_of% (aa @Try.underlying70 cells70) := aa @Try.underlying70 cells70
theorem U71 : type_of% (aa @Try.underlying71 cells71) := aa @Try.underlying71 cells71
theorem U72 : type_of% (aa @Try.underlying72 cells72) := aa @Try.underlying72 cells72
theorem U73 : type_of% (aa @Try.underlying73 cells73) := aa @Try.underlying73 cells73
theorem U74 : type_of% (aa @Try.underlying74 cells74) := aa @Try.underlying74 cells74
theorem U75 : type_of% (aa @Try.underlying75 cells75) := aa @Try.underlying75 cells75
theorem U76 : type_of% (aa @Try.underlying76 cells76) := aa @Try.underlying76 cells76
theorem U77 : type_of% (aa @Try.underlying77 cells77) := aa @Try.underlying77 cells77
theorem U78 : type_of% (aa @Try.underlying78 cells78) := aa @Try.underlying78 cells78
theorem U79 : type_of% (aa @Try.underlying79 cells79) := aa @Try.underlying79 cells79
theorem U80 : type_of% (aa @Try.underlying80 cells80) := aa @Try.underlying80 cells80
theorem U81 : type_of% (aa @Try.underlying81 cells81) := aa @Try.underlying81 cells81
theorem U82 : type_of% (aa @Try.underlying82 cells82) := aa @Try.underlying82 cells82
theorem U83 : type_of% (aa @Try.underlying83 cells83) := aa @Try.underlying83 cells83
theorem U85 : type_of% (aa @Try.underlying85 cells85) := aa @Try.underlying85 cells85
theorem U86 : type_of% (aa @Try.underlying86 cells86) := aa @Try.underlying86 cells86
theorem U87 : type_of% (aa @Try.underlying87 cells87) := aa @Try.underlying87 cells87
theorem U89 : type_of% (aa @Try.underlying89 cells89) := aa @Try.underlying89 cells89
theorem U90 : type_of% (aa @Try.underlying90 cells90) := aa @Try.underlying90 cells90
theorem U91 : type_of% (aa @Try.underlying91 cells91) := aa @Try.underlying91 cells91
theorem U92 : type_of% (aa @Try.underlying92 cells92) := aa @Try.underlying92 cells92
theorem U93 : type_of% (aa @Try.underlying93 cells93) := aa @Try.underlying93 cells93
theorem U94 : type_of% (aa @Try.underlying94 cells94) := aa @Try.underlying94 cells94
theorem U95 : type_of% (aa @Try.underlying95 cells95) := aa @Try.underlying95 cells95
theorem U96 : type_of% (aa @Try.underlying96 cells96) := aa @Try.underlying96 cells96
theorem U97 : type_of% (aa @Try.underlying97 cells97) := aa @Try.underlying97 cells97
theorem U98 : type_of% (aa @Try.underlying98 cells98) := aa @Try.underlying98 cells98
theorem U99 : type_of% (aa @Try.underlying99 cells99) := aa @Try.underlying99 cells99
theorem U100 : type_of% (aa @Try.underlying100 cells100) := aa @Try.underlying100 cells100
theorem U101 : type_of% (aa @Try.underlying101 cells101) := aa @Try.underlying101 cells101
theorem U102 : type_of% (aa @Try.underlying102 cells102) := aa @Try.underlying102 cells102
theorem U103 : type_of% (aa @Try.underlying103 cells103) := aa @Try.underlying103 cells103
theorem U105 : type_of% (aa @Try.underlying105 cells105) := aa @Try.underlying105 cells105
theorem U106 : type_of% (aa @Try.underlying106 cells106) := aa @Try.underlying106 cells106
theorem U107 : type_of% (aa @Try.underlying107 cells107) := aa @Try.underlying107 cells107
theorem U108 : type_of% (aa @Try.underlying108 cells108) := aa @Try.underlying108 cells108
theorem U109 : type_of% (aa @Try.underlying109 cells109) := aa @Try.underlying109 cells109
theorem U110 : type_of% (aa @Try.underlying110 cells110) := aa @Try.underlying110 cells110
theorem U111 : type_of% (aa @Try.underlying111 cells111) := aa @Try.underlying111 cells111
theorem U112 : type_of% (aa @Try.underlying112 cells112) := aa @Try.underlying112 cells112
theorem U113 : type_of% (aa @Try.underlying113 cells113) := aa @Try.underlying113 cells113
theorem U114 : type_of% (aa @Try.underlying114 cells114) := aa @Try.underlying114 cells114
theorem U115 : type_of% (aa @Try.underlying115 cells115) := aa @Try.underlying115 cells115
theorem U116 : type_of% (aa @Try.underlying116 cells116) := aa @Try.underlying116 cells116
theorem U117 : type_of% (aa @Try.underlying117 cells117) := aa @Try.underlying117 cells117
theorem U118 : type_of% (aa @Try.underlying118 cells118) := aa @Try.underlying118 cells118
theorem U119 : type_of% (aa @Try.underlying119 cells119) := aa @Try.underlying119 cells119
theorem U120 : type_of% (aa @Try.underlying120 cells120) := aa @Try.underlying120 cells120
theorem UT : type_of% (aa (aa (aa (aa (aa (aa U1 (aa U2 U3)) (aa (aa U4 U5) (aa U6 U7))) (aa (aa U8 (aa U9 U10)) (aa (aa U11 U12) (aa U13 U14)))) (aa (aa (aa U15 (aa U16 U17)) (aa (aa U18 U19) (aa U21 U22))) (aa (aa U23 (aa U24 U25)) (aa (aa U26 U27) (aa U28 U30))))) (aa (aa (aa (aa U31 (aa U32 U33)) (aa (aa U34 U35) (aa U37 U38))) (aa (aa U39 (aa U40 U41)) (aa (aa U42 U43) (aa U44 U45)))) (aa (aa (aa U46 (aa U47 U48)) (aa (aa U49 U50) (aa U51 U52))) (aa (aa (aa U53 U54) (aa U55 U56)) (aa (aa U57 U58) (aa U59 U60)))))) (aa (aa (aa (aa (aa U61 (aa U62 U63)) (aa (aa U64 U65) (aa U66 U67))) (aa (aa U68 (aa U69 U70)) (aa (aa U71 U72) (aa U73 U74)))) (aa (aa (aa U75 (aa U76 U77)) (aa (aa U78 U79) (aa U80 U81))) (aa (aa U82 (aa U83 U85)) (aa (aa U86 U87) (aa U89 U90))))) (aa (aa (aa (aa U91 (aa U92 U93)) (aa (aa U94 U95) (aa U96 U97))) (aa (aa U98 (aa U99 U100)) (aa (aa U101 U102) (aa U103 U105)))) (aa (aa (aa U106 (aa U107 U108)) (aa (aa U109 U110) (aa U111 U112))) (aa (aa (aa U113 U114) (aa U115 U116)) (aa (aa U117 U118) (aa U119 U120))))))) := aa (aa (aa (aa (aa (aa U1 (aa U2 U3)) (aa (aa U4 U5) (aa U6 U7))) (aa (aa U8 (aa U9 U10)) (aa (aa U11 U12) (aa U13 U14)))) (aa (aa (aa U15 (aa U16 U17)) (aa (aa U18 U19) (aa U21 U22))) (aa (aa U23 (aa U24 U25)) (aa (aa U26 U27) (aa U28 U30))))) (aa (aa (aa (aa U31 (aa U32 U33)) (aa (aa U34 U35) (aa U37 U38))) (aa (aa U39 (aa U40 U41)) (aa (aa U42 U43) (aa U44 U45)))) (aa (aa (aa U46 (aa U47 U48)) (aa (aa U49 U50) (aa U51 U52))) (aa (aa (aa U53 U54) (aa U55 U56)) (aa (aa U57 U58) (aa U59 U60)))))) (aa (aa (aa (aa (aa U61 (aa U62 U63)) (aa (aa U64 U65) (aa U66 U67))) (aa (aa U68 (aa U69 U70)) (aa (aa U71 U72) (aa U73 U74)))) (aa (aa (aa U75 (aa U76 U77)) (aa (aa U78 U79) (aa U80 U81))) (aa (aa U82 (aa U83 U85)) (aa (aa U86 U87) (aa U89 U90))))) (aa (aa (aa (aa U91 (aa U92 U93)) (aa (aa U94 U95) (aa U96 U97))) (aa (aa U98 (aa U99 U100)) (aa (aa U101 U102) (aa U103 U105)))) (aa (aa (aa U106 (aa U107 U108)) (aa (aa U109 U110) (aa U111 U112))) (aa (aa (aa U113 U114) (aa U115 U116)) (aa (aa U117 U118) (aa U119 U120))))))
def KL3 : List Nat := [0, 1, 2, 3, 6, 7, 8, 9, 10, 12, 17]
theorem KE3 : KL3 = [0, 1, 2, 3, 6, 7, 8, 9, 10, 12, 17] := rfl
theorem TF3 : type_of% (aa (aa (aa (aa U1 U3) (aa U4 U6)) (aa (aa U22 U24) (aa U27 U28))) (aa (aa (aa U34 U35) (aa U42 U43)) (aa (aa U45 U70) (aa U79 KE3)))) := aa (aa (aa (aa U1 U3) (aa U4 U6)) (aa (aa U22 U24) (aa U27 U28))) (aa (aa (aa U34 U35) (aa U42 U43)) (aa (aa U45 U70) (aa U79 KE3)))
def KL4 : List Nat := [0, 1, 2, 3, 4, 5, 6, 7, 8, 10, 13]
theorem KE4 : KL4 = [0, 1, 2, 3, 4, 5, 6, 7, 8, 10, 13] := rfl
theorem TF4 : type_of% (aa (aa (aa U1 (aa U3 U4)) (aa (aa U22 U24) (aa U28 U34))) (aa (aa U35 (aa U42 U43)) (aa (aa U45 U70) (aa U79 KE4)))) := aa (aa (aa U1 (aa U3 U4)) (aa (aa U22 U24) (aa U28 U34))) (aa (aa U35 (aa U42 U43)) (aa (aa U45 U70) (aa U79 KE4)))
def KL5 : List Nat := [0, 1, 2, 3, 4, 8, 9, 10, 11, 12, 13, 14, 15, 16, 18, 46, 69, 92, 93, 94, 95, 96, 129]
theorem KE5 : KL5 = [0, 1, 2, 3, 4, 8, 9, 10, 11, 12, 13, 14, 15, 16, 18, 46, 69, 92, 93, 94, 95, 96, 129] := rfl
theorem TF5 : type_of% (aa (aa (aa (aa U1 U2) (aa U3 U4)) (aa (aa U6 U8) (aa U22 (aa U24 U27)))) (aa (aa (aa U28 U34) (aa U35 U42)) (aa (aa U43 U45) (aa U70 (aa U79 KE5))))) := aa (aa (aa (aa U1 U2) (aa U3 U4)) (aa (aa U6 U8) (aa U22 (aa U24 U27)))) (aa (aa (aa U28 U34) (aa U35 U42)) (aa (aa U43 U45) (aa U70 (aa U79 KE5))))
def KL6 : List Nat := [0, 1, 2, 3, 4, 5, 6, 7, 9, 10, 11, 12, 14, 32, 44, 45, 46, 47, 48, 62, 64, 75]
theorem KE6 : KL6 = [0, 1, 2, 3, 4, 5, 6, 7, 9, 10, 11, 12, 14, 32, 44, 45, 46, 47, 48, 62, 64, 75] := rfl
theorem TF6 : type_of% (aa (aa (aa (aa U1 U3) (aa U4 U5)) (aa (aa U22 U24) (aa U27 U28))) (aa (aa (aa U34 U35) (aa U42 U43)) (aa (aa U45 U70) (aa U79 KE6)))) := aa (aa (aa (aa U1 U3) (aa U4 U5)) (aa (aa U22 U24) (aa U27 U28))) (aa (aa (aa U34 U35) (aa U42 U43)) (aa (aa U45 U70) (aa U79 KE6)))
def KL7 : List Nat := [0, 1, 2, 3, 4, 5, 6, 7, 8, 10, 18, 26, 93, 100, 101, 102, 103, 118]
theorem KE7 : KL7 = [0, 1, 2, 3, 4, 5, 6, 7, 8, 10, 18, 26, 93, 100, 101, 102, 103, 118] := rfl
theorem TF7 : type_of% (aa (aa (aa U1 (aa U2 U3)) (aa (aa U4 U22) (aa U24 U28))) (aa (aa (aa U34 U35) (aa U42 U43)) (aa (aa U45 U70) (aa U79 KE7)))) := aa (aa (aa U1 (aa U2 U3)) (aa (aa U4 U22) (aa U24 U28))) (aa (aa (aa U34 U35) (aa U42 U43)) (aa (aa U45 U70) (aa U79 KE7)))
def KL8 : List Nat := [0, 1, 2, 3, 4, 8, 9, 10, 11, 12, 13, 14, 15, 16, 17, 18, 19, 21, 23, 52, 61, 130, 131, 132, 133, 134, 141, 151]
theorem KE8 : KL8 = [0, 1, 2, 3, 4, 8, 9, 10, 11, 12, 13, 14, 15, 16, 17, 18, 19, 21, 23, 52, 61, 130, 131, 132, 133, 134, 141, 151] := rfl
theorem TF8 : type_of% (aa (aa (aa (aa U1 U2) (aa U3 (aa U4 U6))) (aa (aa U8 U22) (aa U24 (aa U27 U28)))) (aa (aa (aa U34 U35) (aa U42 (aa U43 U45))) (aa (aa U47 U70) (aa U79 (aa KE8 KT))))) := aa (aa (aa (aa U1 U2) (aa U3 (aa U4 U6))) (aa (aa U8 U22) (aa U24 (aa U27 U28)))) (aa (aa (aa U34 U35) (aa U42 (aa U43 U45))) (aa (aa U47 U70) (aa U79 (aa KE8 KT))))
def KL9 : List Nat := [0, 1, 2, 3, 4, 5, 6, 8, 9, 10, 12, 13, 14, 15, 16, 17, 18]
theorem KE9 : KL9 = [0, 1, 2, 3, 4, 5, 6, 8, 9, 10, 12, 13, 14, 15, 16, 17, 18] := rfl
theorem TF9 : type_of% (aa (aa (aa (aa U1 U2) (aa U3 U4)) (aa (aa U22 U24) (aa U27 U28))) (aa (aa (aa U34 U35) (aa U42 U43)) (aa (aa U45 U70) (aa U79 KE9)))) := aa (aa (aa (aa U1 U2) (aa U3 U4)) (aa (aa U22 U24) (aa U27 U28))) (aa (aa (aa U34 U35) (aa U42 U43)) (aa (aa U45 U70) (aa U79 KE9)))
def KL10 : List Nat := [0, 1, 2, 3, 6, 7, 8, 9, 10, 11, 15, 30, 59, 75, 80, 107]
theorem KE10 : KL10 = [0, 1, 2, 3, 6, 7, 8, 9, 10, 11, 15, 30, 59, 75, 80, 107] := rfl
theorem TF10 : type_of% (aa (aa (aa U1 (aa U3 U4)) (aa (aa U5 U6) (aa U22 U24))) (aa (aa (aa U28 U35) (aa U42 U43)) (aa (aa U45 U70) (aa U79 KE10)))) := aa (aa (aa U1 (aa U3 U4)) (aa (aa U5 U6) (aa U22 U24))) (aa (aa (aa U28 U35) (aa U42 U43)) (aa (aa U45 U70) (aa U79 KE10)))
def KL11 : List Nat := [0, 1, 2, 3, 6, 7, 8, 9, 10, 11, 15, 27, 29, 30, 31, 32, 47, 58]
theorem KE11 : KL11 = [0, 1, 2, 3, 6, 7, 8, 9, 10, 11, 15, 27, 29, 30, 31, 32, 47, 58] := rfl
theorem TF11 : type_of% (aa (aa (aa (aa U1 U2) (aa U3 (aa U4 U5))) (aa (aa U6 U7) (aa U22 (aa U24 U27)))) (aa (aa (aa U28 U34) (aa U35 (aa U42 U43))) (aa (aa U45 (aa U51 U56)) (aa U70 (aa U79 KE11))))) := aa (aa (aa (aa U1 U2) (aa U3 (aa U4 U5))) (aa (aa U6 U7) (aa U22 (aa U24 U27)))) (aa (aa (aa U28 U34) (aa U35 (aa U42 U43))) (aa (aa U45 (aa U51 U56)) (aa U70 (aa U79 KE11))))
def KL12 : List Nat := [0, 1, 2, 3, 6, 7, 8, 9, 10, 11, 12, 13, 14, 18, 30, 36, 58, 62, 77, 89]
theorem KE12 : KL12 = [0, 1, 2, 3, 6, 7, 8, 9, 10, 11, 12, 13, 14, 18, 30, 36, 58, 62, 77, 89] := rfl
theorem TF12 : type_of% (aa (aa (aa (aa U1 U2) (aa U3 U4)) (aa (aa U5 U6) (aa U7 (aa U22 U24)))) (aa (aa (aa U27 U28) (aa U34 (aa U35 U42))) (aa (aa U43 U45) (aa U70 (aa U79 KE12))))) := aa (aa (aa (aa U1 U2) (aa U3 U4)) (aa (aa U5 U6) (aa U7 (aa U22 U24)))) (aa (aa (aa U27 U28) (aa U34 (aa U35 U42))) (aa (aa U43 U45) (aa U70 (aa U79 KE12))))
def KL13 : List Nat := [0, 1, 2, 4, 6, 10, 14, 16, 17, 18, 19, 27, 30, 31, 32, 33, 42]
theorem KE13 : KL13 = [0, 1, 2, 4, 6, 10, 14, 16, 17, 18, 19, 27, 30, 31, 32, 33, 42] := rfl
theorem TF13 : type_of% (aa (aa (aa (aa U1 U2) (aa U3 U4)) (aa (aa U5 U22) (aa U24 U28))) (aa (aa (aa U35 U42) (aa U43 U45)) (aa (aa U61 U70) (aa U79 KE13)))) := aa (aa (aa (aa U1 U2) (aa U3 U4)) (aa (aa U5 U22) (aa U24 U28))) (aa (aa (aa U35 U42) (aa U43 U45)) (aa (aa U61 U70) (aa U79 KE13)))
def KL14 : List Nat := [0, 1, 2, 3, 4, 5, 9, 17, 22, 33, 38, 55]
theorem KE14 : KL14 = [0, 1, 2, 3, 4, 5, 9, 17, 22, 33, 38, 55] := rfl
theorem TF14 : type_of% (aa (aa (aa U1 (aa U2 U3)) (aa (aa U4 U5) (aa U22 U24))) (aa (aa (aa U28 U35) (aa U42 U43)) (aa (aa U45 U70) (aa U79 KE14)))) := aa (aa (aa U1 (aa U2 U3)) (aa (aa U4 U5) (aa U22 U24))) (aa (aa (aa U28 U35) (aa U42 U43)) (aa (aa U45 U70) (aa U79 KE14)))
def KL15 : List Nat := [0, 1, 4, 5, 10, 14, 25]
theorem KE15 : KL15 = [0, 1, 4, 5, 10, 14, 25] := rfl
theorem TF15 : type_of% (aa (aa U3 U4) (aa U27 (aa U34 KE15))) := aa (aa U3 U4) (aa U27 (aa U34 KE15))
def KL16 : List Nat := [0, 1, 2, 3, 4, 5, 9, 14]
theorem KE16 : KL16 = [0, 1, 2, 3, 4, 5, 9, 14] := rfl
theorem TF16 : type_of% (aa (aa (aa U1 (aa U3 U4)) (aa (aa U5 U22) (aa U24 U28))) (aa (aa (aa U34 U35) (aa U42 U43)) (aa (aa U45 U70) (aa U79 KE16)))) := aa (aa (aa U1 (aa U3 U4)) (aa (aa U5 U22) (aa U24 U28))) (aa (aa (aa U34 U35) (aa U42 U43)) (aa (aa U45 U70) (aa U79 KE16)))
def KL17 : List Nat := [0, 1, 2, 3, 4, 5, 6, 7, 8, 12, 17, 30]
theorem KE17 : KL17 = [0, 1, 2, 3, 4, 5, 6, 7, 8, 12, 17, 30] := rfl
theorem TF17 : type_of% (aa (aa (aa (aa U1 U3) (aa U4 U5)) (aa (aa U22 U24) (aa U28 U34))) (aa (aa (aa U35 U42) (aa U43 U45)) (aa (aa U70 U79) (aa KE17 KT)))) := aa (aa (aa (aa U1 U3) (aa U4 U5)) (aa (aa U22 U24) (aa U28 U34))) (aa (aa (aa U35 U42) (aa U43 U45)) (aa (aa U70 U79) (aa KE17 KT)))
def KL18 : List Nat := [0, 1, 2, 3, 4]
theorem KE18 : KL18 = [0, 1, 2, 3, 4] := rfl
theorem TF18 : type_of% (aa (aa (aa U3 (aa U4 U22)) (aa U24 (aa U28 U34))) (aa (aa U35 (aa U42 U43)) (aa (aa U45 U70) (aa U79 KE18)))) := aa (aa (aa U3 (aa U4 U22)) (aa U24 (aa U28 U34))) (aa (aa U35 (aa U42 U43)) (aa (aa U45 U70) (aa U79 KE18)))
def KL19 : List Nat := [0, 1, 2, 3, 4, 5, 21]
theorem KE19 : KL19 = [0, 1, 2, 3, 4, 5, 21] := rfl
theorem TF19 : type_of% (aa (aa (aa (aa U1 U2) (aa U3 U4)) (aa (aa U5 U22) (aa U24 U28))) (aa (aa (aa U34 U35) (aa U42 U43)) (aa (aa U45 U70) (aa U79 KE19)))) := aa (aa (aa (aa U1 U2) (aa U3 U4)) (aa (aa U5 U22) (aa U24 U28))) (aa (aa (aa U34 U35) (aa U42 U43)) (aa (aa U45 U70) (aa U79 KE19)))
def KL20 : List Nat := [0, 1, 4, 5, 10, 14, 25]
theorem KE20 : KL20 = [0, 1, 4, 5, 10, 14, 25] := rfl
theorem TF20 : type_of% (aa (aa U3 U4) (aa U35 KE20)) := aa (aa U3 U4) (aa U35 KE20)
def KL21 : List Nat := [0, 1, 2, 3, 4]
theorem KE21 : KL21 = [0, 1, 2, 3, 4] := rfl
theorem TF21 : type_of% (aa (aa U1 U3) (aa U4 (aa U34 KE21))) := aa (aa U1 U3) (aa U4 (aa U34 KE21))
def KL22 : List Nat := [0, 1, 2, 3, 7, 8, 9, 10, 15, 27, 31, 32, 35, 38]
theorem KE22 : KL22 = [0, 1, 2, 3, 7, 8, 9, 10, 15, 27, 31, 32, 35, 38] := rfl
theorem TF22 : type_of% (aa (aa (aa (aa U1 U2) (aa U3 U4)) (aa (aa U6 U8) (aa U9 U28))) (aa (aa (aa U35 U42) (aa U43 U67)) (aa (aa U70 U79) (aa KE22 KT)))) := aa (aa (aa (aa U1 U2) (aa U3 U4)) (aa (aa U6 U8) (aa U9 U28))) (aa (aa (aa U35 U42) (aa U43 U67)) (aa (aa U70 U79) (aa KE22 KT)))
def KL23 : List Nat := [0, 1, 4, 5, 10, 14, 25]
theorem KE23 : KL23 = [0, 1, 4, 5, 10, 14, 25] := rfl
theorem TF23 : type_of% (aa (aa U3 U4) (aa U35 KE23)) := aa (aa U3 U4) (aa U35 KE23)
def KL24 : List Nat := [0, 1, 2, 6]
theorem KE24 : KL24 = [0, 1, 2, 6] := rfl
theorem TF24 : type_of% (aa (aa (aa U1 (aa U2 U3)) (aa U4 (aa U6 U35))) (aa (aa U42 (aa U43 U45)) (aa U70 (aa U79 KE24)))) := aa (aa (aa U1 (aa U2 U3)) (aa U4 (aa U6 U35))) (aa (aa U42 (aa U43 U45)) (aa U70 (aa U79 KE24)))
def KL25 : List Nat := [0, 1, 2, 3, 8, 9, 10, 11, 12, 17, 29, 36, 39]
theorem KE25 : KL25 = [0, 1, 2, 3, 8, 9, 10, 11, 12, 17, 29, 36, 39] := rfl
theorem TF25 : type_of% (aa (aa (aa U1 (aa U2 U3)) (aa (aa U4 U6) (aa U8 U9))) (aa (aa U28 (aa U35 U42)) (aa (aa U43 U70) (aa U79 KE25)))) := aa (aa (aa U1 (aa U2 U3)) (aa (aa U4 U6) (aa U8 U9))) (aa (aa U28 (aa U35 U42)) (aa (aa U43 U70) (aa U79 KE25)))
def KL26 : List Nat := [0, 1, 2, 4, 5, 6, 7]
theorem KE26 : KL26 = [0, 1, 2, 4, 5, 6, 7] := rfl
theorem TF26 : type_of% (aa (aa U1 (aa U3 U4)) (aa (aa U27 U34) (aa U51 KE26))) := aa (aa U1 (aa U3 U4)) (aa (aa U27 U34) (aa U51 KE26))
def KL27 : List Nat := [0, 1, 2, 3, 4, 5, 6]
theorem KE27 : KL27 = [0, 1, 2, 3, 4, 5, 6] := rfl
theorem TF27 : type_of% (aa (aa (aa U3 U6) (aa U35 (aa U42 U43))) (aa (aa U45 (aa U50 U51)) (aa U70 (aa U79 KE27)))) := aa (aa (aa U3 U6) (aa U35 (aa U42 U43))) (aa (aa U45 (aa U50 U51)) (aa U70 (aa U79 KE27)))
def KL28 : List Nat := [0, 1, 4]
theorem KE28 : KL28 = [0, 1, 4] := rfl
theorem TF28 : type_of% (aa (aa U3 (aa U27 U34)) (aa U47 (aa U56 KE28))) := aa (aa U3 (aa U27 U34)) (aa U47 (aa U56 KE28))
def KL29 : List Nat := [0, 1, 2, 3, 4]
theorem KE29 : KL29 = [0, 1, 2, 3, 4] := rfl
theorem TF29 : type_of% (aa (aa (aa U1 U2) (aa U3 U4)) (aa (aa U34 U35) (aa KE29 KT))) := aa (aa (aa U1 U2) (aa U3 U4)) (aa (aa U34 U35) (aa KE29 KT))
def KL30 : List Nat := [0, 2, 3, 5, 6, 7, 8, 9, 14]
theorem KE30 : KL30 = [0, 2, 3, 5, 6, 7, 8, 9, 14] := rfl
theorem TF30 : type_of% (aa (aa U2 U3) (aa U4 (aa U35 KE30))) := aa (aa U2 U3) (aa U4 (aa U35 KE30))
def KL31 : List Nat := [0, 1, 4, 5, 6, 11, 12, 13, 16, 19]
theorem KE31 : KL31 = [0, 1, 4, 5, 6, 11, 12, 13, 16, 19] := rfl
theorem TF31 : type_of% (aa U3 (aa U4 KE31)) := aa U3 (aa U4 KE31)
def KL32 : List Nat := [0, 1, 2, 3, 4, 9]
theorem KE32 : KL32 = [0, 1, 2, 3, 4, 9] := rfl
theorem TF32 : type_of% (aa (aa (aa U1 U2) (aa U3 (aa U4 U35))) (aa (aa U42 (aa U43 U45)) (aa U70 (aa U79 KE32)))) := aa (aa (aa U1 U2) (aa U3 (aa U4 U35))) (aa (aa U42 (aa U43 U45)) (aa U70 (aa U79 KE32)))
def KL33 : List Nat := [0, 1, 3, 4, 5, 6, 18]
theorem KE33 : KL33 = [0, 1, 3, 4, 5, 6, 18] := rfl
theorem TF33 : type_of% (aa (aa U1 (aa U3 U4)) (aa (aa U27 U34) (aa KE33 KT))) := aa (aa U1 (aa U3 U4)) (aa (aa U27 U34) (aa KE33 KT))
def KL34 : List Nat := [0, 1, 2, 6]
theorem KE34 : KL34 = [0, 1, 2, 6] := rfl
theorem TF34 : type_of% (aa (aa U3 U4) (aa U6 KE34)) := aa (aa U3 U4) (aa U6 KE34)
def KL35 : List Nat := [0, 1, 2, 4, 13, 14, 15, 16, 21]
theorem KE35 : KL35 = [0, 1, 2, 4, 13, 14, 15, 16, 21] := rfl
theorem TF35 : type_of% (aa (aa (aa U1 (aa U2 U3)) (aa (aa U4 U25) (aa U35 U42))) (aa (aa U43 (aa U45 U61)) (aa (aa U70 U77) (aa U79 KE35)))) := aa (aa (aa U1 (aa U2 U3)) (aa (aa U4 U25) (aa U35 U42))) (aa (aa U43 (aa U45 U61)) (aa (aa U70 U77) (aa U79 KE35)))
def KL36 : List Nat := [0, 1, 4, 6, 7, 9, 17, 18, 19, 20, 21, 48, 50, 51, 52, 53, 71]
theorem KE36 : KL36 = [0, 1, 4, 6, 7, 9, 17, 18, 19, 20, 21, 48, 50, 51, 52, 53, 71] := rfl
theorem TF36 : type_of% (aa (aa (aa U1 U2) (aa U3 (aa U4 U28))) (aa (aa U42 U43) (aa U70 (aa U79 KE36)))) := aa (aa (aa U1 U2) (aa U3 (aa U4 U28))) (aa (aa U42 U43) (aa U70 (aa U79 KE36)))
def KL37 : List Nat := [0, 1, 2, 4, 5, 6, 7, 44, 47, 77, 81, 97]
theorem KE37 : KL37 = [0, 1, 2, 4, 5, 6, 7, 44, 47, 77, 81, 97] := rfl
theorem TF37 : type_of% (aa (aa (aa U1 U2) (aa U3 (aa U4 U35))) (aa (aa U42 (aa U43 U45)) (aa U70 (aa U79 KE37)))) := aa (aa (aa U1 U2) (aa U3 (aa U4 U35))) (aa (aa U42 (aa U43 U45)) (aa U70 (aa U79 KE37)))
def KL38 : List Nat := [0, 1, 4, 5, 6, 7, 8, 16, 20, 51, 55, 91]
theorem KE38 : KL38 = [0, 1, 4, 5, 6, 7, 8, 16, 20, 51, 55, 91] := rfl
theorem TF38 : type_of% (aa (aa (aa U1 U2) (aa U3 (aa U4 U28))) (aa (aa U42 U43) (aa U70 (aa U79 KE38)))) := aa (aa (aa U1 U2) (aa U3 (aa U4 U28))) (aa (aa U42 U43) (aa U70 (aa U79 KE38)))
def KL39 : List Nat := [0, 1, 2, 3, 4, 5, 6, 7, 21]
theorem KE39 : KL39 = [0, 1, 2, 3, 4, 5, 6, 7, 21] := rfl
theorem TF39 : type_of% (aa (aa (aa (aa U1 U2) (aa U3 U4)) (aa (aa U5 U22) (aa U24 U28))) (aa (aa (aa U34 U35) (aa U42 U43)) (aa (aa U45 U70) (aa U79 KE39)))) := aa (aa (aa (aa U1 U2) (aa U3 U4)) (aa (aa U5 U22) (aa U24 U28))) (aa (aa (aa U34 U35) (aa U42 U43)) (aa (aa U45 U70) (aa U79 KE39)))
def KL40 : List Nat := [0, 1, 4, 5, 7, 10, 11, 12, 13]
theorem KE40 : KL40 = [0, 1, 4, 5, 7, 10, 11, 12, 13] := rfl
theorem TF40 : type_of% (aa (aa U1 U3) (aa U4 (aa U35 KE40))) := aa (aa U1 U3) (aa U4 (aa U35 KE40))
def KL41 : List Nat := [0, 1, 2, 6, 7, 8, 9, 13, 31, 35, 61]
theorem KE41 : KL41 = [0, 1, 2, 6, 7, 8, 9, 13, 31, 35, 61] := rfl
theorem TF41 : type_of% (aa (aa (aa U1 U2) (aa U3 (aa U4 U6))) (aa (aa U42 U43) (aa U70 (aa U79 KE41)))) := aa (aa (aa U1 U2) (aa U3 (aa U4 U6))) (aa (aa U42 U43) (aa U70 (aa U79 KE41)))
def KL42 : List Nat := [0, 1, 2, 3, 4, 5, 6]
theorem KE42 : KL42 = [0, 1, 2, 3, 4, 5, 6] := rfl
theorem TF42 : type_of% (aa (aa (aa U3 U6) (aa U42 U43)) (aa (aa U66 U67) (aa U70 (aa U79 KE42)))) := aa (aa (aa U3 U6) (aa U42 U43)) (aa (aa U66 U67) (aa U70 (aa U79 KE42)))
def KL43 : List Nat := [0, 1, 2, 6, 7, 8, 9, 11, 15, 30, 48, 56]
theorem KE43 : KL43 = [0, 1, 2, 6, 7, 8, 9, 11, 15, 30, 48, 56] := rfl
theorem TF43 : type_of% (aa (aa (aa U1 U3) (aa U4 U6)) (aa (aa U42 U43) (aa U70 (aa U79 KE43)))) := aa (aa (aa U1 U3) (aa U4 U6)) (aa (aa U42 U43) (aa U70 (aa U79 KE43)))
def KL44 : List Nat := [0, 1, 2, 3, 6, 7, 8, 9, 10, 11, 28]
theorem KE44 : KL44 = [0, 1, 2, 3, 6, 7, 8, 9, 10, 11, 28] := rfl
theorem TF44 : type_of% (aa (aa (aa U1 (aa U2 U3)) (aa (aa U4 U34) (aa U35 U42))) (aa (aa U43 (aa U45 U70)) (aa (aa U72 U79) (aa KE44 KT)))) := aa (aa (aa U1 (aa U2 U3)) (aa (aa U4 U34) (aa U35 U42))) (aa (aa U43 (aa U45 U70)) (aa (aa U72 U79) (aa KE44 KT)))
def KL45 : List Nat := [0, 1, 2, 4, 5]
theorem KE45 : KL45 = [0, 1, 2, 4, 5] := rfl
theorem TF45 : type_of% (aa (aa (aa U1 U3) (aa U4 (aa U35 U42))) (aa (aa U43 U45) (aa U70 (aa U79 KE45)))) := aa (aa (aa U1 U3) (aa U4 (aa U35 U42))) (aa (aa U43 U45) (aa U70 (aa U79 KE45)))
def KL46 : List Nat := [0, 1, 2, 3, 4, 10, 11, 12, 13, 14, 15, 16, 17, 18, 19, 20, 25, 32, 39, 56, 75, 80, 97, 125]
theorem KE46 : KL46 = [0, 1, 2, 3, 4, 10, 11, 12, 13, 14, 15, 16, 17, 18, 19, 20, 25, 32, 39, 56, 75, 80, 97, 125] := rfl
theorem TF46 : type_of% (aa (aa (aa U1 U3) (aa U4 U27)) (aa (aa U34 U56) (aa U83 KE46))) := aa (aa (aa U1 U3) (aa U4 U27)) (aa (aa U34 U56) (aa U83 KE46))
def KL47 : List Nat := [0, 2]
theorem KE47 : KL47 = [0, 2] := rfl
theorem TF47 : type_of% (aa (aa U2 (aa U3 U47)) (aa U91 (aa U93 KE47))) := aa (aa U2 (aa U3 U47)) (aa U91 (aa U93 KE47))
def KL48 : List Nat := [0, 2]
theorem KE48 : KL48 = [0, 2] := rfl
theorem TF48 : type_of% (aa (aa U2 U3) (aa U4 KE48)) := aa (aa U2 U3) (aa U4 KE48)
def KL49 : List Nat := [0, 1, 2]
theorem KE49 : KL49 = [0, 1, 2] := rfl
theorem TF49 : type_of% (aa (aa (aa U1 (aa U2 U3)) (aa U4 (aa U35 U42))) (aa (aa U43 (aa U45 U61)) (aa U70 (aa U79 KE49)))) := aa (aa (aa U1 (aa U2 U3)) (aa U4 (aa U35 U42))) (aa (aa U43 (aa U45 U61)) (aa U70 (aa U79 KE49)))
def KL50 : List Nat := [0, 1, 2]
theorem KE50 : KL50 = [0, 1, 2] := rfl
theorem TF50 : type_of% (aa (aa (aa U2 U3) (aa U4 (aa U35 U42))) (aa (aa U43 (aa U45 U61)) (aa U70 (aa U79 KE50)))) := aa (aa (aa U2 U3) (aa U4 (aa U35 U42))) (aa (aa U43 (aa U45 U61)) (aa U70 (aa U79 KE50)))
def KL51 : List Nat := [0, 1, 2, 3, 5, 11, 12, 13, 14, 28]
theorem KE51 : KL51 = [0, 1, 2, 3, 5, 11, 12, 13, 14, 28] := rfl
theorem TF51 : type_of% (aa (aa (aa U1 (aa U2 U3)) (aa U4 (aa U35 U42))) (aa (aa U43 (aa U45 U61)) (aa (aa U70 U79) (aa U94 KE51)))) := aa (aa (aa U1 (aa U2 U3)) (aa U4 (aa U35 U42))) (aa (aa U43 (aa U45 U61)) (aa (aa U70 U79) (aa U94 KE51)))
def KL52 : List Nat := [0, 1, 2]
theorem KE52 : KL52 = [0, 1, 2] := rfl
theorem TF52 : type_of% (aa (aa (aa U1 (aa U2 U3)) (aa U4 (aa U35 U42))) (aa (aa U43 (aa U45 U61)) (aa (aa U70 U76) (aa U79 KE52)))) := aa (aa (aa U1 (aa U2 U3)) (aa U4 (aa U35 U42))) (aa (aa U43 (aa U45 U61)) (aa (aa U70 U76) (aa U79 KE52)))
def KL53 : List Nat := [0, 1, 4, 5, 9, 17]
theorem KE53 : KL53 = [0, 1, 4, 5, 9, 17] := rfl
theorem TF53 : type_of% (aa (aa U3 U4) (aa U35 KE53)) := aa (aa U3 U4) (aa U35 KE53)
def KL54 : List Nat := [0, 1, 2, 3, 5, 6, 8, 13, 15, 16, 17, 32, 33, 34, 35, 36, 48, 55]
theorem KE54 : KL54 = [0, 1, 2, 3, 5, 6, 8, 13, 15, 16, 17, 32, 33, 34, 35, 36, 48, 55] := rfl
theorem TF54 : type_of% (aa (aa (aa U1 U3) (aa U4 (aa U35 U42))) (aa (aa U43 (aa U70 U76)) (aa U79 (aa KE54 KT)))) := aa (aa (aa U1 U3) (aa U4 (aa U35 U42))) (aa (aa U43 (aa U70 U76)) (aa U79 (aa KE54 KT)))
def KL55 : List Nat := [0, 1, 2, 4, 5, 10, 29]
theorem KE55 : KL55 = [0, 1, 2, 4, 5, 10, 29] := rfl
theorem TF55 : type_of% (aa (aa U1 (aa U2 U3)) (aa U4 (aa U70 KE55))) := aa (aa U1 (aa U2 U3)) (aa U4 (aa U70 KE55))
def KL56 : List Nat := [0, 2, 3, 5, 6, 7, 8, 9]
theorem KE56 : KL56 = [0, 2, 3, 5, 6, 7, 8, 9] := rfl
theorem TF56 : type_of% (aa (aa U2 U3) (aa U35 KE56)) := aa (aa U2 U3) (aa U35 KE56)
def KL57 : List Nat := [0, 1, 2, 4, 5, 10, 31]
theorem KE57 : KL57 = [0, 1, 2, 4, 5, 10, 31] := rfl
theorem TF57 : type_of% (aa (aa U1 (aa U2 U3)) (aa U4 (aa U70 KE57))) := aa (aa U1 (aa U2 U3)) (aa U4 (aa U70 KE57))
def KL58 : List Nat := [0, 1, 2, 3, 8, 9, 14, 34]
theorem KE58 : KL58 = [0, 1, 2, 3, 8, 9, 14, 34] := rfl
theorem TF58 : type_of% (aa (aa U3 (aa U4 U27)) (aa (aa U34 U56) (aa KE58 KT))) := aa (aa U3 (aa U4 U27)) (aa (aa U34 U56) (aa KE58 KT))
def KL59 : List Nat := [0, 1, 2, 3, 8, 9, 10, 11, 12, 21, 33]
theorem KE59 : KL59 = [0, 1, 2, 3, 8, 9, 10, 11, 12, 21, 33] := rfl
theorem TF59 : type_of% (aa (aa U3 (aa U4 U27)) (aa (aa U34 U56) (aa KE59 KT))) := aa (aa U3 (aa U4 U27)) (aa (aa U34 U56) (aa KE59 KT))
def KL60 : List Nat := [0, 1, 2, 8, 9, 10, 11, 12, 17, 35, 45]
theorem KE60 : KL60 = [0, 1, 2, 8, 9, 10, 11, 12, 17, 35, 45] := rfl
theorem TF60 : type_of% (aa (aa (aa U3 U4) (aa U27 (aa U34 U47))) (aa (aa U56 U93) (aa U96 (aa KE60 KT)))) := aa (aa (aa U3 U4) (aa U27 (aa U34 U47))) (aa (aa U56 U93) (aa U96 (aa KE60 KT)))
def KL61 : List Nat := [0, 1, 2, 3, 8, 9, 10, 11, 12, 13, 14, 34, 36, 55, 57, 60]
theorem KE61 : KL61 = [0, 1, 2, 3, 8, 9, 10, 11, 12, 13, 14, 34, 36, 55, 57, 60] := rfl
theorem TF61 : type_of% (aa (aa (aa U2 (aa U3 U4)) (aa U6 (aa U8 U9))) (aa (aa U27 (aa U34 U56)) (aa U83 (aa U100 KE61)))) := aa (aa (aa U2 (aa U3 U4)) (aa U6 (aa U8 U9))) (aa (aa U27 (aa U34 U56)) (aa U83 (aa U100 KE61)))
def KL62 : List Nat := [0, 1, 2, 8, 9, 15]
theorem KE62 : KL62 = [0, 1, 2, 8, 9, 15] := rfl
theorem TF62 : type_of% (aa (aa U3 (aa U4 U27)) (aa (aa U34 U56) (aa KE62 KT))) := aa (aa U3 (aa U4 U27)) (aa (aa U34 U56) (aa KE62 KT))
def KL63 : List Nat := [0, 1, 2, 3, 8, 9, 10, 11, 12, 16, 36, 41, 45, 65, 69, 84, 104, 109, 124]
theorem KE63 : KL63 = [0, 1, 2, 3, 8, 9, 10, 11, 12, 16, 36, 41, 45, 65, 69, 84, 104, 109, 124] := rfl
theorem TF63 : type_of% (aa (aa (aa U2 U3) (aa U4 (aa U6 U8))) (aa (aa U27 U34) (aa U56 (aa KE63 KT)))) := aa (aa (aa U2 U3) (aa U4 (aa U6 U8))) (aa (aa U27 U34) (aa U56 (aa KE63 KT)))
def KL64 : List Nat := [0, 1, 2, 3, 4, 10, 11, 12, 47, 65, 70]
theorem KE64 : KL64 = [0, 1, 2, 3, 4, 10, 11, 12, 47, 65, 70] := rfl
theorem TF64 : type_of% (aa (aa (aa U3 U4) (aa U10 U27)) (aa (aa U34 U56) (aa KE64 KT))) := aa (aa (aa U3 U4) (aa U10 U27)) (aa (aa U34 U56) (aa KE64 KT))
def KL65 : List Nat := [0, 1, 2, 3, 4, 10, 11, 12, 13, 47, 66, 71, 120, 139, 144]
theorem KE65 : KL65 = [0, 1, 2, 3, 4, 10, 11, 12, 13, 47, 66, 71, 120, 139, 144] := rfl
theorem TF65 : type_of% (aa (aa (aa U3 U4) (aa U10 U11)) (aa (aa U27 U34) (aa U56 (aa KE65 KT)))) := aa (aa (aa U3 U4) (aa U10 U11)) (aa (aa U27 U34) (aa U56 (aa KE65 KT)))
def KL66 : List Nat := [0, 2, 4, 8]
theorem KE66 : KL66 = [0, 2, 4, 8] := rfl
theorem TF66 : type_of% (aa (aa (aa U2 U3) (aa U4 U5)) (aa (aa U9 U47) (aa U91 KE66))) := aa (aa (aa U2 U3) (aa U4 U5)) (aa (aa U9 U47) (aa U91 KE66))
def KL67 : List Nat := [0, 2, 4, 8, 14]
theorem KE67 : KL67 = [0, 2, 4, 8, 14] := rfl
theorem TF67 : type_of% (aa (aa (aa U2 U3) (aa U4 U5)) (aa (aa U9 U47) (aa U93 KE67))) := aa (aa (aa U2 U3) (aa U4 U5)) (aa (aa U9 U47) (aa U93 KE67))
def KL68 : List Nat := [0, 1, 4]
theorem KE68 : KL68 = [0, 1, 4] := rfl
theorem TF68 : type_of% (aa (aa U3 U4) (aa U35 (aa U76 KE68))) := aa (aa U3 U4) (aa U35 (aa U76 KE68))
def KL69 : List Nat := [0, 2]
theorem KE69 : KL69 = [0, 2] := rfl
theorem TF69 : type_of% (aa (aa U2 U3) (aa U4 KE69)) := aa (aa U2 U3) (aa U4 KE69)
def KL70 : List Nat := [0, 1, 2, 3, 4, 10, 11, 18, 40, 58]
theorem KE70 : KL70 = [0, 1, 2, 3, 4, 10, 11, 18, 40, 58] := rfl
theorem TF70 : type_of% (aa (aa U3 (aa U4 U27)) (aa (aa U34 U56) (aa KE70 KT))) := aa (aa U3 (aa U4 U27)) (aa (aa U34 U56) (aa KE70 KT))
def KL71 : List Nat := [0, 2]
theorem KE71 : KL71 = [0, 2] := rfl
theorem TF71 : type_of% (aa (aa U2 U3) (aa U47 KE71)) := aa (aa U2 U3) (aa U47 KE71)
def KL73 : List Nat := [0, 1, 2, 3, 8]
theorem KE73 : KL73 = [0, 1, 2, 3, 8] := rfl
theorem TF73 : type_of% (aa (aa (aa U2 U3) (aa U4 (aa U6 U8))) (aa (aa U27 U34) (aa U56 (aa U100 KE73)))) := aa (aa (aa U2 U3) (aa U4 (aa U6 U8))) (aa (aa U27 U34) (aa U56 (aa U100 KE73)))
def KL74 : List Nat := [0, 1, 2, 3, 4, 5, 12]
theorem KE74 : KL74 = [0, 1, 2, 3, 4, 5, 12] := rfl
theorem TF74 : type_of% (aa (aa (aa U1 U3) (aa U12 U27)) (aa (aa U34 U56) (aa U100 KE74))) := aa (aa (aa U1 U3) (aa U12 U27)) (aa (aa U34 U56) (aa U100 KE74))
def KL75 : List Nat := [0, 1, 4, 5, 7, 8, 9, 16]
theorem KE75 : KL75 = [0, 1, 4, 5, 7, 8, 9, 16] := rfl
theorem TF75 : type_of% (aa (aa U3 U4) (aa U35 (aa U76 KE75))) := aa (aa U3 U4) (aa U35 (aa U76 KE75))
def KL76 : List Nat := [0, 1, 2, 3, 4, 10, 11, 22]
theorem KE76 : KL76 = [0, 1, 2, 3, 4, 10, 11, 22] := rfl
theorem TF76 : type_of% (aa (aa (aa U3 U4) (aa U10 U11)) (aa (aa U27 U34) (aa U56 (aa U100 KE76)))) := aa (aa (aa U3 U4) (aa U10 U11)) (aa (aa U27 U34) (aa U56 (aa U100 KE76)))
theorem jw : type_of% (@jW Try.prog mixed) := @jW Try.prog mixed
end Go.Proofs.Ytpiijpgfgcbfaaa
