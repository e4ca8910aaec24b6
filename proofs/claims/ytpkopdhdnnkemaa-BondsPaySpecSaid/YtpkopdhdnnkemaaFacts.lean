/- Closed facts of this translation: how many cells a type takes, which functions can be called. Printed by a program of ours. -/
import Derived.Test.YtpkopdhdnnkemaaProg
import Derived.Test.YtpkopdhdnnkemaaFk
import Derived.KernelRfl
namespace Go.Proofs.Ytpkopdhdnnkemaa
open Go Go.Fk
theorem mixed : Try.prog.follows .mixedOrders = true := by kernel_rfl
theorem cells1 : Try.prog.cellsOf 1 = 1 := by kernel_rfl
theorem cells2 : Try.prog.cellsOf 2 = 1 := by kernel_rfl
theorem cells3 : Try.prog.cellsOf 3 = 1 := by kernel_rfl
theorem cells4 : Try.prog.cellsOf 4 = 1 := by kernel_rfl
theorem cells5 : Try.prog.cellsOf 5 = 1 := by kernel_rfl
theorem cells6 : Try.prog.cellsOf 6 = 1 := by kernel_rfl
theorem cells7 : Try.prog.cellsOf 7 = 4 := by kernel_rfl
theorem cells8 : Try.prog.cellsOf 8 = 4 := by kernel_rfl
theorem cells9 : Try.prog.cellsOf 9 = 1 := by kernel_rfl
theorem cells10 : Try.prog.cellsOf 10 = 1 := by kernel_rfl
theorem cells11 : Try.prog.cellsOf 11 = 1 := by kernel_rfl
theorem cells12 : Try.prog.cellsOf 12 = 1 := by kernel_rfl
theorem cells13 : Try.prog.cellsOf 13 = 2 := by kernel_rfl
theorem cells14 : Try.prog.cellsOf 14 = 2 := by kernel_rfl
theorem cells15 : Try.prog.cellsOf 15 = 1 := by kernel_rfl
theorem cells16 : Try.prog.cellsOf 16 = 1 := by kernel_rfl
theorem cells17 : Try.prog.cellsOf 17 = 1 := by kernel_rfl
theorem cells18 : Try.prog.cellsOf 18 = 1 := by kernel_rfl
theorem cells19 : Try.prog.cellsOf 19 = 1 := by kernel_rfl
theorem cells21 : Try.prog.cellsOf 21 = 1 := by kernel_rfl
theorem cells22 : Try.prog.cellsOf 22 = 1 := by kernel_rfl
theorem cells23 : Try.prog.cellsOf 23 = 1 := by kernel_rfl
theorem cells24 : Try.prog.cellsOf 24 = 1 := by kernel_rfl
theorem cells25 : Try.prog.cellsOf 25 = 1 := by kernel_rfl
theorem cells27 : Try.prog.cellsOf 27 = 1 := by kernel_rfl
theorem cells28 : Try.prog.cellsOf 28 = 1 := by kernel_rfl
theorem cells29 : Try.prog.cellsOf 29 = 1 := by kernel_rfl
theorem cells30 : Try.prog.cellsOf 30 = 1 := by kernel_rfl
theorem cells31 : Try.prog.cellsOf 31 = 2 := by kernel_rfl
theorem cells32 : Try.prog.cellsOf 32 = 2 := by kernel_rfl
theorem cells33 : Try.prog.cellsOf 33 = 1 := by kernel_rfl
theorem cells34 : Try.prog.cellsOf 34 = 1 := by kernel_rfl
theorem cells35 : Try.prog.cellsOf 35 = 6 := by kernel_rfl
theorem cells36 : Try.prog.cellsOf 36 = 6 := by kernel_rfl
theorem cells37 : Try.prog.cellsOf 37 = 1 := by kernel_rfl
theorem cells38 : Try.prog.cellsOf 38 = 1 := by kernel_rfl
theorem cells39 : Try.prog.cellsOf 39 = 24 := by kernel_rfl
theorem cells40 : Try.prog.cellsOf 40 = 64 := by kernel_rfl
theorem cells41 : Try.prog.cellsOf 41 = 5 := by kernel_rfl
theorem cells42 : Try.prog.cellsOf 42 = 5 := by kernel_rfl
theorem cells43 : Try.prog.cellsOf 43 = 1 := by kernel_rfl
theorem cells45 : Try.prog.cellsOf 45 = 1 := by kernel_rfl
theorem cells46 : Try.prog.cellsOf 46 = 1 := by kernel_rfl
theorem cells47 : Try.prog.cellsOf 47 = 1 := by kernel_rfl
theorem cells48 : Try.prog.cellsOf 48 = 1 := by kernel_rfl
theorem cells49 : Try.prog.cellsOf 49 = 1 := by kernel_rfl
theorem cells50 : Try.prog.cellsOf 50 = 1 := by kernel_rfl
theorem cells51 : Try.prog.cellsOf 51 = 1 := by kernel_rfl
theorem cells52 : Try.prog.cellsOf 52 = 1 := by kernel_rfl
theorem cells53 : Try.prog.cellsOf 53 = 1 := by kernel_rfl
theorem cells54 : Try.prog.cellsOf 54 = 1 := by kernel_rfl
theorem cells55 : Try.prog.cellsOf 55 = 1 := by kernel_rfl
theorem cells56 : Try.prog.cellsOf 56 = 1 := by kernel_rfl
theorem cells57 : Try.prog.cellsOf 57 = 1 := by kernel_rfl
theorem cells58 : Try.prog.cellsOf 58 = 1 := by kernel_rfl
theorem cells59 : Try.prog.cellsOf 59 = 1 := by kernel_rfl
theorem cells60 : Try.prog.cellsOf 60 = 115 := by kernel_rfl
theorem cells61 : Try.prog.cellsOf 61 = 115 := by kernel_rfl
theorem cells63 : Try.prog.cellsOf 63 = 1 := by kernel_rfl
theorem cells64 : Try.prog.cellsOf 64 = 1 := by kernel_rfl
theorem cells65 : Try.prog.cellsOf 65 = 1 := by kernel_rfl
theorem cells66 : Try.prog.cellsOf 66 = 1 := by kernel_rfl
theorem cells67 : Try.prog.cellsOf 67 = 1 := by kernel_rfl
theorem cells68 : Try.prog.cellsOf 68 = 1 := by kernel_rfl
theorem cells69 : Try.prog.cellsOf 69 = 1 := by kernel_rfl
theorem cells70 : Try.prog.cellsOf 70 = 1 := by kernel_rfl
theorem cells71 : Try.prog.cellsOf 71 = 1 := by kernel_rfl
theorem cells72 : Try.prog.cellsOf 72 = 1 := by kernel_rfl
theorem cells73 : Try.prog.cellsOf 73 = 1 := by kernel_rfl
theorem cells74 : Try.prog.cellsOf 74 = 1 := by kernel_rfl
theorem cells75 : Try.prog.cellsOf 75 = 1 := by kernel_rfl
theorem cells76 : Try.prog.cellsOf 76 = 1 := by kernel_rfl
theorem cells77 : Try.prog.cellsOf 77 = 1 := by kernel_rfl
theorem cells78 : Try.prog.cellsOf 78 = 4 := by kernel_rfl
theorem cells79 : Try.prog.cellsOf 79 = 4 := by kernel_rfl
theorem cells80 : Try.prog.cellsOf 80 = 0 := by kernel_rfl
theorem cells81 : Try.prog.cellsOf 81 = 0 := by kernel_rfl
theorem cells82 : Try.prog.cellsOf 82 = 0 := by kernel_rfl
theorem cells83 : Try.prog.cellsOf 83 = 1 := by kernel_rfl
theorem cells84 : Try.prog.cellsOf 84 = 1 := by kernel_rfl
theorem cells85 : Try.prog.cellsOf 85 = 1 := by kernel_rfl
theorem cells86 : Try.prog.cellsOf 86 = 1 := by kernel_rfl
theorem cells87 : Try.prog.cellsOf 87 = 1 := by kernel_rfl
theorem cells88 : Try.prog.cellsOf 88 = 1 := by kernel_rfl
theorem cells89 : Try.prog.cellsOf 89 = 1 := by kernel_rfl
theorem cells90 : Try.prog.cellsOf 90 = 1 := by kernel_rfl
theorem cells91 : Try.prog.cellsOf 91 = 11 := by kernel_rfl
theorem cells92 : Try.prog.cellsOf 92 = 11 := by kernel_rfl
theorem ti1 : TI Try.prog 1 (.nilFunc) 1 8 := ⟨by kernel_rfl⟩
theorem ti2 : TI Try.prog 2 (.int .i64 0) 1 8 := ⟨by kernel_rfl⟩
theorem ti3 : TI Try.prog 3 (.int .i64 0) 1 8 := ⟨by kernel_rfl⟩
theorem ti4 : TI Try.prog 4 (.bool false) 1 1 := ⟨by kernel_rfl⟩
theorem ti5 : TI Try.prog 5 (.int .u8 0) 1 1 := ⟨by kernel_rfl⟩
theorem ti6 : TI Try.prog 6 (.int .u8 0) 1 1 := ⟨by kernel_rfl⟩
theorem ti7 : TI Try.prog 7 (.agg #[.int .i64 0, .int .i64 0, .bool false, .int .u8 0]) 4 24 := ⟨by kernel_rfl⟩
theorem ti8 : TI Try.prog 8 (.agg #[.int .i64 0, .int .i64 0, .bool false, .int .u8 0]) 4 24 := ⟨by kernel_rfl⟩
theorem ti9 : TI Try.prog 9 (.string ByteArray.empty) 1 16 := ⟨by kernel_rfl⟩
theorem ti10 : TI Try.prog 10 (.string ByteArray.empty) 1 16 := ⟨by kernel_rfl⟩
theorem ti11 : TI Try.prog 11 (.string ByteArray.empty) 1 16 := ⟨by kernel_rfl⟩
theorem ti12 : TI Try.prog 12 (.int .u64 0) 1 8 := ⟨by kernel_rfl⟩
theorem ti13 : TI Try.prog 13 (.agg #[.string ByteArray.empty, .int .u64 0]) 2 24 := ⟨by kernel_rfl⟩
theorem ti14 : TI Try.prog 14 (.agg #[.string ByteArray.empty, .int .u64 0]) 2 24 := ⟨by kernel_rfl⟩
theorem ti15 : TI Try.prog 15 (.pointer none) 1 8 := ⟨by kernel_rfl⟩
theorem ti16 : TI Try.prog 16 (.pointer none) 1 8 := ⟨by kernel_rfl⟩
theorem ti17 : TI Try.prog 17 (.pointer none) 1 8 := ⟨by kernel_rfl⟩
theorem ti18 : TI Try.prog 18 (.agg #[.pointer none]) 1 8 := ⟨by kernel_rfl⟩
theorem ti19 : TI Try.prog 19 (.agg #[.pointer none]) 1 8 := ⟨by kernel_rfl⟩
theorem ti21 : TI Try.prog 21 (.int .i32 0) 1 4 := ⟨by kernel_rfl⟩
theorem ti22 : TI Try.prog 22 (.slice none 0 0) 1 24 := ⟨by kernel_rfl⟩
theorem ti23 : TI Try.prog 23 (.nilFunc) 1 8 := ⟨by kernel_rfl⟩
theorem ti24 : TI Try.prog 24 (.slice none 0 0) 1 24 := ⟨by kernel_rfl⟩
theorem ti25 : TI Try.prog 25 (.int .i64 0) 1 8 := ⟨by kernel_rfl⟩
theorem ti27 : TI Try.prog 27 (.nilFunc) 1 8 := ⟨by kernel_rfl⟩
theorem ti28 : TI Try.prog 28 (.nilFunc) 1 8 := ⟨by kernel_rfl⟩
theorem ti29 : TI Try.prog 29 (.nilFunc) 1 8 := ⟨by kernel_rfl⟩
theorem ti30 : TI Try.prog 30 (.nilFunc) 1 8 := ⟨by kernel_rfl⟩
theorem ti31 : TI Try.prog 31 (.agg #[.int .i64 0, .int .i64 0]) 2 16 := ⟨by kernel_rfl⟩
theorem ti32 : TI Try.prog 32 (.agg #[.int .i64 0, .int .i64 0]) 2 16 := ⟨by kernel_rfl⟩
theorem ti33 : TI Try.prog 33 (.nilFunc) 1 8 := ⟨by kernel_rfl⟩
theorem ti34 : TI Try.prog 34 (.nilFunc) 1 8 := ⟨by kernel_rfl⟩
theorem ti35 : TI Try.prog 35 (.agg #[.int .i64 0, .int .i64 0, .int .i64 0, .int .i64 0, .int .i64 0, .int .i64 0]) 6 48 := ⟨by kernel_rfl⟩
theorem ti36 : TI Try.prog 36 (.agg #[.int .i64 0, .int .i64 0, .int .i64 0, .int .i64 0, .int .i64 0, .int .i64 0]) 6 48 := ⟨by kernel_rfl⟩
theorem ti37 : TI Try.prog 37 (.nilFunc) 1 8 := ⟨by kernel_rfl⟩
theorem ti38 : TI Try.prog 38 (.slice none 0 0) 1 24 := ⟨by kernel_rfl⟩
theorem ti39 : TI Try.prog 39 (.agg (List.replicate 24 (.int .i64 0)).toArray) 24 192 := ⟨by kernel_rfl⟩
theorem ti40 : TI Try.prog 40 (.agg (List.replicate 64 (.int .i64 0)).toArray) 64 512 := ⟨by kernel_rfl⟩
theorem ti41 : TI Try.prog 41 (.agg #[.slice none 0 0, .int .i64 0, .int .i64 0, .int .i64 0, .int .i64 0]) 5 56 := ⟨by kernel_rfl⟩
theorem ti42 : TI Try.prog 42 (.agg #[.slice none 0 0, .int .i64 0, .int .i64 0, .int .i64 0, .int .i64 0]) 5 56 := ⟨by kernel_rfl⟩
theorem ti43 : TI Try.prog 43 (.nilFunc) 1 8 := ⟨by kernel_rfl⟩
theorem ti45 : TI Try.prog 45 (.nilFunc) 1 8 := ⟨by kernel_rfl⟩
theorem ti46 : TI Try.prog 46 (.nilFunc) 1 8 := ⟨by kernel_rfl⟩
theorem ti47 : TI Try.prog 47 (.nilFunc) 1 8 := ⟨by kernel_rfl⟩
theorem ti48 : TI Try.prog 48 (.nilFunc) 1 8 := ⟨by kernel_rfl⟩
theorem ti49 : TI Try.prog 49 (.nilFunc) 1 8 := ⟨by kernel_rfl⟩
theorem ti50 : TI Try.prog 50 (.nilFunc) 1 8 := ⟨by kernel_rfl⟩
theorem ti51 : TI Try.prog 51 (.nilFunc) 1 8 := ⟨by kernel_rfl⟩
theorem ti52 : TI Try.prog 52 (.nilFunc) 1 8 := ⟨by kernel_rfl⟩
theorem ti53 : TI Try.prog 53 (.nilFunc) 1 8 := ⟨by kernel_rfl⟩
theorem ti54 : TI Try.prog 54 (.slice none 0 0) 1 24 := ⟨by kernel_rfl⟩
theorem ti55 : TI Try.prog 55 (.nilFunc) 1 8 := ⟨by kernel_rfl⟩
theorem ti56 : TI Try.prog 56 (.nilFunc) 1 8 := ⟨by kernel_rfl⟩
theorem ti57 : TI Try.prog 57 (.nilFunc) 1 8 := ⟨by kernel_rfl⟩
theorem ti58 : TI Try.prog 58 (.nilFunc) 1 8 := ⟨by kernel_rfl⟩
theorem ti59 : TI Try.prog 59 (.nilFunc) 1 8 := ⟨by kernel_rfl⟩
theorem ti60 : TI Try.prog 60 (.agg (List.replicate 115 (.int .i64 0)).toArray) 115 920 := ⟨by kernel_rfl⟩
theorem ti61 : TI Try.prog 61 (.agg (List.replicate 115 (.int .i64 0)).toArray) 115 920 := ⟨by kernel_rfl⟩
theorem ti63 : TI Try.prog 63 (.nilFunc) 1 8 := ⟨by kernel_rfl⟩
theorem ti64 : TI Try.prog 64 (.nilFunc) 1 8 := ⟨by kernel_rfl⟩
theorem ti65 : TI Try.prog 65 (.nilFunc) 1 8 := ⟨by kernel_rfl⟩
theorem ti66 : TI Try.prog 66 (.nilFunc) 1 8 := ⟨by kernel_rfl⟩
theorem ti67 : TI Try.prog 67 (.nilFunc) 1 8 := ⟨by kernel_rfl⟩
theorem ti68 : TI Try.prog 68 (.nilFunc) 1 8 := ⟨by kernel_rfl⟩
theorem ti69 : TI Try.prog 69 (.nilFunc) 1 8 := ⟨by kernel_rfl⟩
theorem ti70 : TI Try.prog 70 (.nilFunc) 1 8 := ⟨by kernel_rfl⟩
theorem ti71 : TI Try.prog 71 (.nilFunc) 1 8 := ⟨by kernel_rfl⟩
theorem ti72 : TI Try.prog 72 (.nilFunc) 1 8 := ⟨by kernel_rfl⟩
theorem ti73 : TI Try.prog 73 (.nilFunc) 1 8 := ⟨by kernel_rfl⟩
theorem ti74 : TI Try.prog 74 (.pointer none) 1 8 := ⟨by kernel_rfl⟩
theorem ti75 : TI Try.prog 75 (.nilFunc) 1 8 := ⟨by kernel_rfl⟩
theorem ti76 : TI Try.prog 76 (.nilFunc) 1 8 := ⟨by kernel_rfl⟩
theorem ti77 : TI Try.prog 77 (.nilFunc) 1 8 := ⟨by kernel_rfl⟩
theorem ti78 : TI Try.prog 78 (.agg #[.pointer none, .pointer none, .pointer none, .string ByteArray.empty]) 4 40 := ⟨by kernel_rfl⟩
theorem ti79 : TI Try.prog 79 (.agg #[.pointer none, .pointer none, .pointer none, .string ByteArray.empty]) 4 40 := ⟨by kernel_rfl⟩
theorem ti83 : TI Try.prog 83 (.nilFunc) 1 8 := ⟨by kernel_rfl⟩
theorem ti84 : TI Try.prog 84 (.int .u32 0) 1 4 := ⟨by kernel_rfl⟩
theorem ti85 : TI Try.prog 85 (.int .u8 0) 1 1 := ⟨by kernel_rfl⟩
theorem ti86 : TI Try.prog 86 (.int .u8 0) 1 1 := ⟨by kernel_rfl⟩
theorem ti87 : TI Try.prog 87 (.nilFunc) 1 8 := ⟨by kernel_rfl⟩
theorem ti88 : TI Try.prog 88 (.pointer none) 1 8 := ⟨by kernel_rfl⟩
theorem ti89 : TI Try.prog 89 (.int .i32 0) 1 4 := ⟨by kernel_rfl⟩
theorem ti90 : TI Try.prog 90 (.int .i32 0) 1 4 := ⟨by kernel_rfl⟩
theorem ti91 : TI Try.prog 91 (.agg #[.int .u64 0, .int .u64 0, .int .u32 0, .int .u8 0, .int .u8 0, .int .u8 0, .int .u8 0, .nilFunc, .pointer none, .int .i32 0, .int .i32 0]) 11 48 := ⟨by kernel_rfl⟩
theorem ti92 : TI Try.prog 92 (.agg #[.int .u64 0, .int .u64 0, .int .u32 0, .int .u8 0, .int .u8 0, .int .u8 0, .int .u8 0, .nilFunc, .pointer none, .int .i32 0, .int .i32 0]) 11 48 := ⟨by kernel_rfl⟩
theorem call3 : callable Try.prog 3 = true := by kernel_rfl
theorem call4 : callable Try.prog 4 = true := by kernel_rfl
theorem call5 : callable Try.prog 5 = true := by kernel_rfl
theorem call6 : callable Try.prog 6 = true := by kernel_rfl
theorem call7 : callable Try.prog 7 = true := by kernel_rfl
theorem call8 : callable Try.prog 8 = true := by kernel_rfl
theorem call9 : callable Try.prog 9 = true := by kernel_rfl
theorem call10 : callable Try.prog 10 = true := by kernel_rfl
theorem call11 : callable Try.prog 11 = true := by kernel_rfl
theorem call12 : callable Try.prog 12 = true := by kernel_rfl
theorem call13 : callable Try.prog 13 = true := by kernel_rfl
theorem call14 : callable Try.prog 14 = true := by kernel_rfl
theorem call15 : callable Try.prog 15 = true := by kernel_rfl
theorem call16 : callable Try.prog 16 = true := by kernel_rfl
theorem call17 : callable Try.prog 17 = true := by kernel_rfl
theorem call18 : callable Try.prog 18 = true := by kernel_rfl
theorem call19 : callable Try.prog 19 = true := by kernel_rfl
theorem call20 : callable Try.prog 20 = true := by kernel_rfl
theorem call21 : callable Try.prog 21 = true := by kernel_rfl
theorem call22 : callable Try.prog 22 = true := by kernel_rfl
theorem call23 : callable Try.prog 23 = true := by kernel_rfl
theorem call24 : callable Try.prog 24 = true := by kernel_rfl
theorem call25 : callable Try.prog 25 = true := by kernel_rfl
theorem call26 : callable Try.prog 26 = true := by kernel_rfl
theorem call27 : callable Try.prog 27 = true := by kernel_rfl
theorem call28 : callable Try.prog 28 = true := by kernel_rfl
theorem call29 : callable Try.prog 29 = true := by kernel_rfl
theorem call30 : callable Try.prog 30 = true := by kernel_rfl
theorem call31 : callable Try.prog 31 = true := by kernel_rfl
theorem call32 : callable Try.prog 32 = true := by kernel_rfl
theorem call33 : callable Try.prog 33 = true := by kernel_rfl
theorem call34 : callable Try.prog 34 = true := by kernel_rfl
theorem call35 : callable Try.prog 35 = true := by kernel_rfl
theorem call36 : callable Try.prog 36 = true := by kernel_rfl
theorem call37 : callable Try.prog 37 = true := by kernel_rfl
theorem call38 : callable Try.prog 38 = true := by kernel_rfl
theorem call39 : callable Try.prog 39 = true := by kernel_rfl
theorem call40 : callable Try.prog 40 = true := by kernel_rfl
theorem call41 : callable Try.prog 41 = true := by kernel_rfl
theorem call42 : callable Try.prog 42 = true := by kernel_rfl
theorem call43 : callable Try.prog 43 = true := by kernel_rfl
theorem call44 : callable Try.prog 44 = true := by kernel_rfl
theorem call45 : callable Try.prog 45 = true := by kernel_rfl
theorem call46 : callable Try.prog 46 = true := by kernel_rfl
theorem call47 : callable Try.prog 47 = true := by kernel_rfl
theorem call48 : callable Try.prog 48 = true := by kernel_rfl
theorem call49 : callable Try.prog 49 = true := by kernel_rfl
theorem UT : type_of% (And.intro (And.intro (And.intro (And.intro (And.intro (And.intro (And.intro (@Try.underlying1) (@Try.underlying2)) (And.intro (@Try.underlying3) (And.intro (@Try.underlying4) (@Try.underlying5)))) (And.intro (And.intro (@Try.underlying6) (And.intro (@Try.underlying7) (@Try.underlying8))) (And.intro (@Try.underlying9) (And.intro (@Try.underlying10) (@Try.underlying11))))) (And.intro (And.intro (And.intro (@Try.underlying12) (@Try.underlying13)) (And.intro (@Try.underlying14) (And.intro (@Try.underlying15) (@Try.underlying16)))) (And.intro (And.intro (@Try.underlying17) (And.intro (@Try.underlying18) (@Try.underlying19))) (And.intro (@Try.underlying21) (And.intro (@Try.underlying22) (@Try.underlying23)))))) (And.intro (And.intro (And.intro (And.intro (@Try.underlying24) (@Try.underlying25)) (And.intro (@Try.underlying27) (And.intro (@Try.underlying28) (@Try.underlying29)))) (And.intro (And.intro (@Try.underlying30) (And.intro (@Try.underlying31) (@Try.underlying32))) (And.intro (@Try.underlying33) (And.intro (@Try.underlying34) (@Try.underlying35))))) (And.intro (And.intro (And.intro (@Try.underlying36) (@Try.underlying37)) (And.intro (@Try.underlying38) (And.intro (@Try.underlying39) (@Try.underlying40)))) (And.intro (And.intro (@Try.underlying41) (And.intro (@Try.underlying42) (@Try.underlying43))) (And.intro (@Try.underlying45) (And.intro (@Try.underlying46) (@Try.underlying47))))))) (And.intro (And.intro (And.intro (And.intro (And.intro (@Try.underlying48) (@Try.underlying49)) (And.intro (@Try.underlying50) (And.intro (@Try.underlying51) (@Try.underlying52)))) (And.intro (And.intro (@Try.underlying53) (And.intro (@Try.underlying54) (@Try.underlying55))) (And.intro (@Try.underlying56) (And.intro (@Try.underlying57) (@Try.underlying58))))) (And.intro (And.intro (And.intro (@Try.underlying59) (@Try.underlying60)) (And.intro (@Try.underlying61) (And.intro (@Try.underlying63) (@Try.underlying64)))) (And.intro (And.intro (@Try.underlying65) (And.intro (@Try.underlying66) (@Try.underlying67))) (And.intro (@Try.underlying68) (And.intro (@Try.underlying69) (@Try.underlying70)))))) (And.intro (And.intro (And.intro (And.intro (@Try.underlying71) (@Try.underlying72)) (And.intro (@Try.underlying73) (And.intro (@Try.underlying74) (@Try.underlying75)))) (And.intro (And.intro (@Try.underlying76) (And.intro (@Try.underlying77) (@Try.underlying78))) (And.intro (@Try.underlying79) (And.intro (@Try.underlying80) (@Try.underlying81))))) (And.intro (And.intro (And.intro (@Try.underlying82) (@Try.underlying83)) (And.intro (@Try.underlying84) (And.intro (@Try.underlying85) (@Try.underlying86)))) (And.intro (And.intro (@Try.underlying87) (And.intro (@Try.underlying88) (@Try.underlying89))) (And.intro (@Try.underlying90) (And.intro (@Try.underlying91) (@Try.underlying92)))))))) (And.intro (And.intro (And.intro (And.intro (And.intro (And.intro (cells1) (cells2)) (And.intro (cells3) (And.intro (cells4) (cells5)))) (And.intro (And.intro (cells6) (And.intro (cells7) (cells8))) (And.intro (cells9) (And.intro (cells10) (cells11))))) (And.intro (And.intro (And.intro (cells12) (cells13)) (And.intro (cells14) (And.intro (cells15) (cells16)))) (And.intro (And.intro (cells17) (And.intro (cells18) (cells19))) (And.intro (cells21) (And.intro (cells22) (cells23)))))) (And.intro (And.intro (And.intro (And.intro (cells24) (cells25)) (And.intro (cells27) (And.intro (cells28) (cells29)))) (And.intro (And.intro (cells30) (And.intro (cells31) (cells32))) (And.intro (cells33) (And.intro (cells34) (cells35))))) (And.intro (And.intro (And.intro (cells36) (cells37)) (And.intro (cells38) (And.intro (cells39) (cells40)))) (And.intro (And.intro (cells41) (And.intro (cells42) (cells43))) (And.intro (cells45) (And.intro (cells46) (cells47))))))) (And.intro (And.intro (And.intro (And.intro (And.intro (cells48) (cells49)) (And.intro (cells50) (And.intro (cells51) (cells52)))) (And.intro (And.intro (cells53) (And.intro (cells54) (cells55))) (And.intro (cells56) (And.intro (cells57) (cells58))))) (And.intro (And.intro (And.intro (cells59) (cells60)) (And.intro (cells61) (And.intro (cells63) (cells64)))) (And.intro (And.intro (cells65) (And.intro (cells66) (cells67))) (And.intro (cells68) (And.intro (cells69) (cells70)))))) (And.intro (And.intro (And.intro (And.intro (cells71) (cells72)) (And.intro (cells73) (And.intro (cells74) (cells75)))) (And.intro (And.intro (cells76) (And.intro (cells77) (cells78))) (And.intro (cells79) (And.intro (cells80) (cells81))))) (And.intro (And.intro (And.intro (cells82) (cells83)) (And.intro (cells84) (And.intro (cells85) (cells86)))) (And.intro (And.intro (cells87) (And.intro (cells88) (cells89))) (And.intro (cells90) (And.intro (cells91) (cells92))))))))) := And.intro (And.intro (And.intro (And.intro (And.intro (And.intro (And.intro (@Try.underlying1) (@Try.underlying2)) (And.intro (@Try.underlying3) (And.intro (@Try.underlying4) (@Try.underlying5)))) (And.intro (And.intro (@Try.underlying6) (And.intro (@Try.underlying7) (@Try.underlying8))) (And.intro (@Try.underlying9) (And.intro (@Try.underlying10) (@Try.underlying11))))) (And.intro (And.intro (And.intro (@Try.underlying12) (@Try.underlying13)) (And.intro (@Try.underlying14) (And.intro (@Try.underlying15) (@Try.underlying16)))) (And.intro (And.intro (@Try.underlying17) (And.intro (@Try.underlying18) (@Try.underlying19))) (And.intro (@Try.underlying21) (And.intro (@Try.underlying22) (@Try.underlying23)))))) (And.intro (And.intro (And.intro (And.intro (@Try.underlying24) (@Try.underlying25)) (And.intro (@Try.underlying27) (And.intro (@Try.underlying28) (@Try.underlying29)))) (And.intro (And.intro (@Try.underlying30) (And.intro (@Try.underlying31) (@Try.underlying32))) (And.intro (@Try.underlying33) (And.intro (@Try.underlying34) (@Try.underlying35))))) (And.intro (And.intro (And.intro (@Try.underlying36) (@Try.underlying37)) (And.intro (@Try.underlying38) (And.intro (@Try.underlying39) (@Try.underlying40)))) (And.intro (And.intro (@Try.underlying41) (And.intro (@Try.underlying42) (@Try.underlying43))) (And.intro (@Try.underlying45) (And.intro (@Try.underlying46) (@Try.underlying47))))))) (And.intro (And.intro (And.intro (And.intro (And.intro (@Try.underlying48) (@Try.underlying49)) (And.intro (@Try.underlying50) (And.intro (@Try.underlying51) (@Try.underlying52)))) (And.intro (And.intro (@Try.underlying53) (And.intro (@Try.underlying54) (@Try.underlying55))) (And.intro (@Try.underlying56) (And.intro (@Try.underlying57) (@Try.underlying58))))) (And.intro (And.intro (And.intro (@Try.underlying59) (@Try.underlying60)) (And.intro (@Try.underlying61) (And.intro (@Try.underlying63) (@Try.underlying64)))) (And.intro (And.intro (@Try.underlying65) (And.intro (@Try.underlying66) (@Try.underlying67))) (And.intro (@Try.underlying68) (And.intro (@Try.underlying69) (@Try.underlying70)))))) (And.intro (And.intro (And.intro (And.intro (@Try.underlying71) (@Try.underlying72)) (And.intro (@Try.underlying73) (And.intro (@Try.underlying74) (@Try.underlying75)))) (And.intro (And.intro (@Try.underlying76) (And.intro (@Try.underlying77) (@Try.underlying78))) (And.intro (@Try.underlying79) (And.intro (@Try.underlying80) (@Try.underlying81))))) (And.intro (And.intro (And.intro (@Try.underlying82) (@Try.underlying83)) (And.intro (@Try.underlying84) (And.intro (@Try.underlying85) (@Try.underlying86)))) (And.intro (And.intro (@Try.underlying87) (And.intro (@Try.underlying88) (@Try.underlying89))) (And.intro (@Try.underlying90) (And.intro (@Try.underlying91) (@Try.underlying92)))))))) (And.intro (And.intro (And.intro (And.intro (And.intro (And.intro (cells1) (cells2)) (And.intro (cells3) (And.intro (cells4) (cells5)))) (And.intro (And.intro (cells6) (And.intro (cells7) (cells8))) (And.intro (cells9) (And.intro (cells10) (cells11))))) (And.intro (And.intro (And.intro (cells12) (cells13)) (And.intro (cells14) (And.intro (cells15) (cells16)))) (And.intro (And.intro (cells17) (And.intro (cells18) (cells19))) (And.intro (cells21) (And.intro (cells22) (cells23)))))) (And.intro (And.intro (And.intro (And.intro (cells24) (cells25)) (And.intro (cells27) (And.intro (cells28) (cells29)))) (And.intro (And.intro (cells30) (And.intro (cells31) (cells32))) (And.intro (cells33) (And.intro (cells34) (cells35))))) (And.intro (And.intro (And.intro (cells36) (cells37)) (And.intro (cells38) (And.intro (cells39) (cells40)))) (And.intro (And.intro (cells41) (And.intro (cells42) (cells43))) (And.intro (cells45) (And.intro (cells46) (cells47))))))) (And.intro (And.intro (And.intro (And.intro (And.intro (cells48) (cells49)) (And.intro (cells50) (And.intro (cells51) (cells52)))) (And.intro (And.intro (cells53) (And.intro (cells54) (cells55))) (And.intro (cells56) (And.intro (cells57) (cells58))))) (And.intro (And.intro (And.intro (cells59) (cells60)) (And.intro (cells61) (And.intro (cells63) (cells64)))) (And.intro (And.intro (cells65) (And.intro (cells66) (cells67))) (And.intro (cells68) (And.intro (cells69) (cells70)))))) (And.intro (And.intro (And.intro (And.intro (cells71) (cells72)) (And.intro (cells73) (And.intro (cells74) (cells75)))) (And.intro (And.intro (cells76) (And.intro (cells77) (cells78))) (And.intro (cells79) (And.intro (cells80) (cells81))))) (And.intro (And.intro (And.intro (cells82) (cells83)) (And.intro (cells84) (And.intro (cells85) (cells86)))) (And.intro (And.intro (cells87) (And.intro (cells88) (cells89))) (And.intro (cells90) (And.intro (cells91) (cells92))))))))
end Go.Proofs.Ytpkopdhdnnkemaa
