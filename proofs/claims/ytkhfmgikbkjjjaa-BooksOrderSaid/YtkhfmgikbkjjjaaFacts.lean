/- Closed facts of this translation: how many cells a type takes, which functions can be called. Printed by a program of ours. -/
import Derived.Test.YtkhfmgikbkjjjaaProg
import Derived.Test.YtkhfmgikbkjjjaaFk
import Derived.KernelRfl
namespace Go.Proofs.Ytkhfmgikbkjjjaa
open Go Go.Fk
theorem mixed : Try.prog.follows .mixedOrders = true := by kernel_rfl
theorem cells1 : Try.prog.cellsOf 1 = 1 := by kernel_rfl
theorem cells2 : Try.prog.cellsOf 2 = 1 := by kernel_rfl
theorem cells3 : Try.prog.cellsOf 3 = 1 := by kernel_rfl
theorem cells4 : Try.prog.cellsOf 4 = 1 := by kernel_rfl
theorem cells5 : Try.prog.cellsOf 5 = 1 := by kernel_rfl
theorem cells6 : Try.prog.cellsOf 6 = 1 := by kernel_rfl
theorem cells7 : Try.prog.cellsOf 7 = 4 := by kernel_rfl
theorem cells8 : Try.prog.cellsOf 8 = 4 := by kernel_rfl
theorem cells9 : Try.prog.cellsOf 9 = 1 := by kernel_rfl
theorem cells10 : Try.prog.cellsOf 10 = 1 := by kernel_rfl
theorem cells11 : Try.prog.cellsOf 11 = 1 := by kernel_rfl
theorem cells12 : Try.prog.cellsOf 12 = 1 := by kernel_rfl
theorem cells13 : Try.prog.cellsOf 13 = 2 := by kernel_rfl
theorem cells14 : Try.prog.cellsOf 14 = 2 := by kernel_rfl
theorem cells15 : Try.prog.cellsOf 15 = 1 := by kernel_rfl
theorem cells16 : Try.prog.cellsOf 16 = 1 := by kernel_rfl
theorem cells17 : Try.prog.cellsOf 17 = 1 := by kernel_rfl
theorem cells18 : Try.prog.cellsOf 18 = 1 := by kernel_rfl
theorem cells19 : Try.prog.cellsOf 19 = 1 := by kernel_rfl
theorem cells21 : Try.prog.cellsOf 21 = 1 := by kernel_rfl
theorem cells22 : Try.prog.cellsOf 22 = 1 := by kernel_rfl
theorem cells23 : Try.prog.cellsOf 23 = 1 := by kernel_rfl
theorem cells24 : Try.prog.cellsOf 24 = 1 := by kernel_rfl
theorem cells25 : Try.prog.cellsOf 25 = 1 := by kernel_rfl
theorem cells26 : Try.prog.cellsOf 26 = 1 := by kernel_rfl
theorem cells28 : Try.prog.cellsOf 28 = 1 := by kernel_rfl
theorem cells30 : Try.prog.cellsOf 30 = 1 := by kernel_rfl
theorem cells31 : Try.prog.cellsOf 31 = 1 := by kernel_rfl
theorem cells32 : Try.prog.cellsOf 32 = 1 := by kernel_rfl
theorem cells33 : Try.prog.cellsOf 33 = 1 := by kernel_rfl
theorem cells34 : Try.prog.cellsOf 34 = 6 := by kernel_rfl
theorem cells35 : Try.prog.cellsOf 35 = 6 := by kernel_rfl
theorem cells36 : Try.prog.cellsOf 36 = 1 := by kernel_rfl
theorem cells37 : Try.prog.cellsOf 37 = 1 := by kernel_rfl
theorem cells38 : Try.prog.cellsOf 38 = 1 := by kernel_rfl
theorem cells39 : Try.prog.cellsOf 39 = 1 := by kernel_rfl
theorem cells40 : Try.prog.cellsOf 40 = 1 := by kernel_rfl
theorem cells41 : Try.prog.cellsOf 41 = 1 := by kernel_rfl
theorem cells42 : Try.prog.cellsOf 42 = 1 := by kernel_rfl
theorem cells43 : Try.prog.cellsOf 43 = 1 := by kernel_rfl
theorem cells44 : Try.prog.cellsOf 44 = 115 := by kernel_rfl
theorem cells45 : Try.prog.cellsOf 45 = 115 := by kernel_rfl
theorem cells47 : Try.prog.cellsOf 47 = 1 := by kernel_rfl
theorem cells48 : Try.prog.cellsOf 48 = 1 := by kernel_rfl
theorem cells49 : Try.prog.cellsOf 49 = 1 := by kernel_rfl
theorem cells50 : Try.prog.cellsOf 50 = 1 := by kernel_rfl
theorem cells51 : Try.prog.cellsOf 51 = 1 := by kernel_rfl
theorem cells52 : Try.prog.cellsOf 52 = 1 := by kernel_rfl
theorem cells53 : Try.prog.cellsOf 53 = 1 := by kernel_rfl
theorem cells54 : Try.prog.cellsOf 54 = 1 := by kernel_rfl
theorem cells55 : Try.prog.cellsOf 55 = 1 := by kernel_rfl
theorem cells56 : Try.prog.cellsOf 56 = 1 := by kernel_rfl
theorem cells57 : Try.prog.cellsOf 57 = 1 := by kernel_rfl
theorem cells58 : Try.prog.cellsOf 58 = 1 := by kernel_rfl
theorem cells59 : Try.prog.cellsOf 59 = 1 := by kernel_rfl
theorem cells60 : Try.prog.cellsOf 60 = 1 := by kernel_rfl
theorem cells61 : Try.prog.cellsOf 61 = 1 := by kernel_rfl
theorem cells62 : Try.prog.cellsOf 62 = 1 := by kernel_rfl
theorem cells63 : Try.prog.cellsOf 63 = 1 := by kernel_rfl
theorem cells64 : Try.prog.cellsOf 64 = 1 := by kernel_rfl
theorem cells65 : Try.prog.cellsOf 65 = 1 := by kernel_rfl
theorem cells66 : Try.prog.cellsOf 66 = 1 := by kernel_rfl
theorem cells67 : Try.prog.cellsOf 67 = 1 := by kernel_rfl
theorem cells68 : Try.prog.cellsOf 68 = 4 := by kernel_rfl
theorem cells69 : Try.prog.cellsOf 69 = 4 := by kernel_rfl
theorem cells70 : Try.prog.cellsOf 70 = 0 := by kernel_rfl
theorem cells71 : Try.prog.cellsOf 71 = 0 := by kernel_rfl
theorem cells72 : Try.prog.cellsOf 72 = 0 := by kernel_rfl
theorem cells73 : Try.prog.cellsOf 73 = 1 := by kernel_rfl
theorem cells74 : Try.prog.cellsOf 74 = 1 := by kernel_rfl
theorem cells75 : Try.prog.cellsOf 75 = 1 := by kernel_rfl
theorem cells76 : Try.prog.cellsOf 76 = 1 := by kernel_rfl
theorem cells77 : Try.prog.cellsOf 77 = 1 := by kernel_rfl
theorem cells78 : Try.prog.cellsOf 78 = 1 := by kernel_rfl
theorem cells79 : Try.prog.cellsOf 79 = 1 := by kernel_rfl
theorem cells80 : Try.prog.cellsOf 80 = 1 := by kernel_rfl
theorem cells81 : Try.prog.cellsOf 81 = 11 := by kernel_rfl
theorem cells82 : Try.prog.cellsOf 82 = 11 := by kernel_rfl
theorem ti1 : TI Try.prog 1 (.nilFunc) 1 8 := ⟨by kernel_rfl⟩
theorem ti2 : TI Try.prog 2 (.int .i64 0) 1 8 := ⟨by kernel_rfl⟩
theorem ti3 : TI Try.prog 3 (.int .i64 0) 1 8 := ⟨by kernel_rfl⟩
theorem ti4 : TI Try.prog 4 (.bool false) 1 1 := ⟨by kernel_rfl⟩
theorem ti5 : TI Try.prog 5 (.int .u8 0) 1 1 := ⟨by kernel_rfl⟩
theorem ti6 : TI Try.prog 6 (.int .u8 0) 1 1 := ⟨by kernel_rfl⟩
theorem ti7 : TI Try.prog 7 (.agg #[.int .i64 0, .int .i64 0, .bool false, .int .u8 0]) 4 24 := ⟨by kernel_rfl⟩
theorem ti8 : TI Try.prog 8 (.agg #[.int .i64 0, .int .i64 0, .bool false, .int .u8 0]) 4 24 := ⟨by kernel_rfl⟩
theorem ti9 : TI Try.prog 9 (.string ByteArray.empty) 1 16 := ⟨by kernel_rfl⟩
theorem ti10 : TI Try.prog 10 (.string ByteArray.empty) 1 16 := ⟨by kernel_rfl⟩
theorem ti11 : TI Try.prog 11 (.string ByteArray.empty) 1 16 := ⟨by kernel_rfl⟩
theorem ti12 : TI Try.prog 12 (.int .u64 0) 1 8 := ⟨by kernel_rfl⟩
theorem ti13 : TI Try.prog 13 (.agg #[.string ByteArray.empty, .int .u64 0]) 2 24 := ⟨by kernel_rfl⟩
theorem ti14 : TI Try.prog 14 (.agg #[.string ByteArray.empty, .int .u64 0]) 2 24 := ⟨by kernel_rfl⟩
theorem ti15 : TI Try.prog 15 (.pointer none) 1 8 := ⟨by kernel_rfl⟩
theorem ti16 : TI Try.prog 16 (.pointer none) 1 8 := ⟨by kernel_rfl⟩
theorem ti17 : TI Try.prog 17 (.pointer none) 1 8 := ⟨by kernel_rfl⟩
theorem ti18 : TI Try.prog 18 (.agg #[.pointer none]) 1 8 := ⟨by kernel_rfl⟩
theorem ti19 : TI Try.prog 19 (.agg #[.pointer none]) 1 8 := ⟨by kernel_rfl⟩
theorem ti21 : TI Try.prog 21 (.int .i32 0) 1 4 := ⟨by kernel_rfl⟩
theorem ti22 : TI Try.prog 22 (.slice none 0 0) 1 24 := ⟨by kernel_rfl⟩
theorem ti23 : TI Try.prog 23 (.slice none 0 0) 1 24 := ⟨by kernel_rfl⟩
theorem ti24 : TI Try.prog 24 (.nilFunc) 1 8 := ⟨by kernel_rfl⟩
theorem ti25 : TI Try.prog 25 (.nilFunc) 1 8 := ⟨by kernel_rfl⟩
theorem ti26 : TI Try.prog 26 (.int .i64 0) 1 8 := ⟨by kernel_rfl⟩
theorem ti28 : TI Try.prog 28 (.nilFunc) 1 8 := ⟨by kernel_rfl⟩
theorem ti30 : TI Try.prog 30 (.nilFunc) 1 8 := ⟨by kernel_rfl⟩
theorem ti31 : TI Try.prog 31 (.nilFunc) 1 8 := ⟨by kernel_rfl⟩
theorem ti32 : TI Try.prog 32 (.nilFunc) 1 8 := ⟨by kernel_rfl⟩
theorem ti33 : TI Try.prog 33 (.nilFunc) 1 8 := ⟨by kernel_rfl⟩
theorem ti34 : TI Try.prog 34 (.agg #[.int .i64 0, .int .i64 0, .int .i64 0, .int .i64 0, .int .i64 0, .int .i64 0]) 6 48 := ⟨by kernel_rfl⟩
theorem ti35 : TI Try.prog 35 (.agg #[.int .i64 0, .int .i64 0, .int .i64 0, .int .i64 0, .int .i64 0, .int .i64 0]) 6 48 := ⟨by kernel_rfl⟩
theorem ti36 : TI Try.prog 36 (.nilFunc) 1 8 := ⟨by kernel_rfl⟩
theorem ti37 : TI Try.prog 37 (.nilFunc) 1 8 := ⟨by kernel_rfl⟩
theorem ti38 : TI Try.prog 38 (.nilFunc) 1 8 := ⟨by kernel_rfl⟩
theorem ti39 : TI Try.prog 39 (.slice none 0 0) 1 24 := ⟨by kernel_rfl⟩
theorem ti40 : TI Try.prog 40 (.nilFunc) 1 8 := ⟨by kernel_rfl⟩
theorem ti41 : TI Try.prog 41 (.nilFunc) 1 8 := ⟨by kernel_rfl⟩
theorem ti42 : TI Try.prog 42 (.nilFunc) 1 8 := ⟨by kernel_rfl⟩
theorem ti43 : TI Try.prog 43 (.nilFunc) 1 8 := ⟨by kernel_rfl⟩
theorem ti44 : TI Try.prog 44 (.agg (List.replicate 115 (.int .i64 0)).toArray) 115 920 := ⟨by kernel_rfl⟩
theorem ti45 : TI Try.prog 45 (.agg (List.replicate 115 (.int .i64 0)).toArray) 115 920 := ⟨by kernel_rfl⟩
theorem ti47 : TI Try.prog 47 (.nilFunc) 1 8 := ⟨by kernel_rfl⟩
theorem ti48 : TI Try.prog 48 (.nilFunc) 1 8 := ⟨by kernel_rfl⟩
theorem ti49 : TI Try.prog 49 (.nilFunc) 1 8 := ⟨by kernel_rfl⟩
theorem ti50 : TI Try.prog 50 (.nilFunc) 1 8 := ⟨by kernel_rfl⟩
theorem ti51 : TI Try.prog 51 (.nilFunc) 1 8 := ⟨by kernel_rfl⟩
theorem ti52 : TI Try.prog 52 (.nilFunc) 1 8 := ⟨by kernel_rfl⟩
theorem ti53 : TI Try.prog 53 (.nilFunc) 1 8 := ⟨by kernel_rfl⟩
theorem ti54 : TI Try.prog 54 (.nilFunc) 1 8 := ⟨by kernel_rfl⟩
theorem ti55 : TI Try.prog 55 (.slice none 0 0) 1 24 := ⟨by kernel_rfl⟩
theorem ti56 : TI Try.prog 56 (.nilFunc) 1 8 := ⟨by kernel_rfl⟩
theorem ti57 : TI Try.prog 57 (.nilFunc) 1 8 := ⟨by kernel_rfl⟩
theorem ti58 : TI Try.prog 58 (.nilFunc) 1 8 := ⟨by kernel_rfl⟩
theorem ti59 : TI Try.prog 59 (.nilFunc) 1 8 := ⟨by kernel_rfl⟩
theorem ti60 : TI Try.prog 60 (.nilFunc) 1 8 := ⟨by kernel_rfl⟩
theorem ti61 : TI Try.prog 61 (.nilFunc) 1 8 := ⟨by kernel_rfl⟩
theorem ti62 : TI Try.prog 62 (.nilFunc) 1 8 := ⟨by kernel_rfl⟩
theorem ti63 : TI Try.prog 63 (.nilFunc) 1 8 := ⟨by kernel_rfl⟩
theorem ti64 : TI Try.prog 64 (.pointer none) 1 8 := ⟨by kernel_rfl⟩
theorem ti65 : TI Try.prog 65 (.nilFunc) 1 8 := ⟨by kernel_rfl⟩
theorem ti66 : TI Try.prog 66 (.nilFunc) 1 8 := ⟨by kernel_rfl⟩
theorem ti67 : TI Try.prog 67 (.nilFunc) 1 8 := ⟨by kernel_rfl⟩
theorem ti68 : TI Try.prog 68 (.agg #[.pointer none, .pointer none, .pointer none, .string ByteArray.empty]) 4 40 := ⟨by kernel_rfl⟩
theorem ti69 : TI Try.prog 69 (.agg #[.pointer none, .pointer none, .pointer none, .string ByteArray.empty]) 4 40 := ⟨by kernel_rfl⟩
theorem ti73 : TI Try.prog 73 (.nilFunc) 1 8 := ⟨by kernel_rfl⟩
theorem ti74 : TI Try.prog 74 (.int .u32 0) 1 4 := ⟨by kernel_rfl⟩
theorem ti75 : TI Try.prog 75 (.int .u8 0) 1 1 := ⟨by kernel_rfl⟩
theorem ti76 : TI Try.prog 76 (.int .u8 0) 1 1 := ⟨by kernel_rfl⟩
theorem ti77 : TI Try.prog 77 (.nilFunc) 1 8 := ⟨by kernel_rfl⟩
theorem ti78 : TI Try.prog 78 (.pointer none) 1 8 := ⟨by kernel_rfl⟩
theorem ti79 : TI Try.prog 79 (.int .i32 0) 1 4 := ⟨by kernel_rfl⟩
theorem ti80 : TI Try.prog 80 (.int .i32 0) 1 4 := ⟨by kernel_rfl⟩
theorem ti81 : TI Try.prog 81 (.agg #[.int .u64 0, .int .u64 0, .int .u32 0, .int .u8 0, .int .u8 0, .int .u8 0, .int .u8 0, .nilFunc, .pointer none, .int .i32 0, .int .i32 0]) 11 48 := ⟨by kernel_rfl⟩
theorem ti82 : TI Try.prog 82 (.agg #[.int .u64 0, .int .u64 0, .int .u32 0, .int .u8 0, .int .u8 0, .int .u8 0, .int .u8 0, .nilFunc, .pointer none, .int .i32 0, .int .i32 0]) 11 48 := ⟨by kernel_rfl⟩
theorem call3 : callable Try.prog 3 = true := by kernel_rfl
theorem call4 : callable Try.prog 4 = true := by kernel_rfl
theorem call5 : callable Try.prog 5 = true := by kernel_rfl
theorem call6 : callable Try.prog 6 = true := by kernel_rfl
theorem call7 : callable Try.prog 7 = true := by kernel_rfl
theorem call8 : callable Try.prog 8 = true := by kernel_rfl
theorem call9 : callable Try.prog 9 = true := by kernel_rfl
theorem call10 : callable Try.prog 10 = true := by kernel_rfl
theorem call11 : callable Try.prog 11 = true := by kernel_rfl
theorem call12 : callable Try.prog 12 = true := by kernel_rfl
theorem call13 : callable Try.prog 13 = true := by kernel_rfl
theorem call14 : callable Try.prog 14 = true := by kernel_rfl
theorem call15 : callable Try.prog 15 = true := by kernel_rfl
theorem call16 : callable Try.prog 16 = true := by kernel_rfl
theorem call17 : callable Try.prog 17 = true := by kernel_rfl
theorem call18 : callable Try.prog 18 = true := by kernel_rfl
theorem call19 : callable Try.prog 19 = true := by kernel_rfl
theorem call20 : callable Try.prog 20 = true := by kernel_rfl
theorem call21 : callable Try.prog 21 = true := by kernel_rfl
theorem call22 : callable Try.prog 22 = true := by kernel_rfl
theorem call23 : callable Try.prog 23 = true := by kernel_rfl
theorem call24 : callable Try.prog 24 = true := by kernel_rfl
theorem call25 : callable Try.prog 25 = true := by kernel_rfl
theorem call26 : callable Try.prog 26 = true := by kernel_rfl
theorem call27 : callable Try.prog 27 = true := by kernel_rfl
theorem call28 : callable Try.prog 28 = true := by kernel_rfl
theorem call29 : callable Try.prog 29 = true := by kernel_rfl
theorem call30 : callable Try.prog 30 = true := by kernel_rfl
theorem call31 : callable Try.prog 31 = true := by kernel_rfl
theorem call32 : callable Try.prog 32 = true := by kernel_rfl
theorem call33 : callable Try.prog 33 = true := by kernel_rfl
theorem call34 : callable Try.prog 34 = true := by kernel_rfl
theorem call35 : callable Try.prog 35 = true := by kernel_rfl
theorem call36 : callable Try.prog 36 = true := by kernel_rfl
theorem call37 : callable Try.prog 37 = true := by kernel_rfl
theorem call38 : callable Try.prog 38 = true := by kernel_rfl
theorem call39 : callable Try.prog 39 = true := by kernel_rfl
theorem call40 : callable Try.prog 40 = true := by kernel_rfl
theorem call41 : callable Try.prog 41 = true := by kernel_rfl
theorem call42 : callable Try.prog 42 = true := by kernel_rfl
theorem call43 : callable Try.prog 43 = true := by kernel_rfl
theorem call44 : callable Try.prog 44 = true := by kernel_rfl
theorem UT : type_of% (And.intro (And.intro (And.intro (And.intro (And.intro (And.intro (And.intro (@Try.underlying1) (@Try.underlying2)) (And.intro (@Try.underlying3) (@Try.underlying4))) (And.intro (And.intro (@Try.underlying5) (@Try.underlying6)) (And.intro (@Try.underlying7) (And.intro (@Try.underlying8) (@Try.underlying9))))) (And.intro (And.intro (And.intro (@Try.underlying10) (@Try.underlying11)) (And.intro (@Try.underlying12) (And.intro (@Try.underlying13) (@Try.underlying14)))) (And.intro (And.intro (@Try.underlying15) (@Try.underlying16)) (And.intro (@Try.underlying17) (And.intro (@Try.underlying18) (@Try.underlying19)))))) (And.intro (And.intro (And.intro (And.intro (@Try.underlying21) (@Try.underlying22)) (And.intro (@Try.underlying23) (And.intro (@Try.underlying24) (@Try.underlying25)))) (And.intro (And.intro (@Try.underlying26) (@Try.underlying28)) (And.intro (@Try.underlying30) (And.intro (@Try.underlying31) (@Try.underlying32))))) (And.intro (And.intro (And.intro (@Try.underlying33) (@Try.underlying34)) (And.intro (@Try.underlying35) (And.intro (@Try.underlying36) (@Try.underlying37)))) (And.intro (And.intro (@Try.underlying38) (@Try.underlying39)) (And.intro (@Try.underlying40) (And.intro (@Try.underlying41) (@Try.underlying42))))))) (And.intro (And.intro (And.intro (And.intro (And.intro (@Try.underlying43) (@Try.underlying44)) (And.intro (@Try.underlying45) (@Try.underlying47))) (And.intro (And.intro (@Try.underlying48) (@Try.underlying49)) (And.intro (@Try.underlying50) (And.intro (@Try.underlying51) (@Try.underlying52))))) (And.intro (And.intro (And.intro (@Try.underlying53) (@Try.underlying54)) (And.intro (@Try.underlying55) (And.intro (@Try.underlying56) (@Try.underlying57)))) (And.intro (And.intro (@Try.underlying58) (@Try.underlying59)) (And.intro (@Try.underlying60) (And.intro (@Try.underlying61) (@Try.underlying62)))))) (And.intro (And.intro (And.intro (And.intro (@Try.underlying63) (@Try.underlying64)) (And.intro (@Try.underlying65) (And.intro (@Try.underlying66) (@Try.underlying67)))) (And.intro (And.intro (@Try.underlying68) (@Try.underlying69)) (And.intro (@Try.underlying70) (And.intro (@Try.underlying71) (@Try.underlying72))))) (And.intro (And.intro (And.intro (@Try.underlying73) (@Try.underlying74)) (And.intro (@Try.underlying75) (And.intro (@Try.underlying76) (@Try.underlying77)))) (And.intro (And.intro (@Try.underlying78) (@Try.underlying79)) (And.intro (@Try.underlying80) (And.intro (@Try.underlying81) (@Try.underlying82)))))))) (And.intro (And.intro (And.intro (And.intro (And.intro (And.intro (cells1) (cells2)) (And.intro (cells3) (cells4))) (And.intro (And.intro (cells5) (cells6)) (And.intro (cells7) (And.intro (cells8) (cells9))))) (And.intro (And.intro (And.intro (cells10) (cells11)) (And.intro (cells12) (And.intro (cells13) (cells14)))) (And.intro (And.intro (cells15) (cells16)) (And.intro (cells17) (And.intro (cells18) (cells19)))))) (And.intro (And.intro (And.intro (And.intro (cells21) (cells22)) (And.intro (cells23) (And.intro (cells24) (cells25)))) (And.intro (And.intro (cells26) (cells28)) (And.intro (cells30) (And.intro (cells31) (cells32))))) (And.intro (And.intro (And.intro (cells33) (cells34)) (And.intro (cells35) (And.intro (cells36) (cells37)))) (And.intro (And.intro (cells38) (cells39)) (And.intro (cells40) (And.intro (cells41) (cells42))))))) (And.intro (And.intro (And.intro (And.intro (And.intro (cells43) (cells44)) (And.intro (cells45) (cells47))) (And.intro (And.intro (cells48) (cells49)) (And.intro (cells50) (And.intro (cells51) (cells52))))) (And.intro (And.intro (And.intro (cells53) (cells54)) (And.intro (cells55) (And.intro (cells56) (cells57)))) (And.intro (And.intro (cells58) (cells59)) (And.intro (cells60) (And.intro (cells61) (cells62)))))) (And.intro (And.intro (And.intro (And.intro (cells63) (cells64)) (And.intro (cells65) (And.intro (cells66) (cells67)))) (And.intro (And.intro (cells68) (cells69)) (And.intro (cells70) (And.intro (cells71) (cells72))))) (And.intro (And.intro (And.intro (cells73) (cells74)) (And.intro (cells75) (And.intro (cells76) (cells77)))) (And.intro (And.intro (cells78) (cells79)) (And.intro (cells80) (And.intro (cells81) (cells82))))))))) := And.intro (And.intro (And.intro (And.intro (And.intro (And.intro (And.intro (@Try.underlying1) (@Try.underlying2)) (And.intro (@Try.underlying3) (@Try.underlying4))) (And.intro (And.intro (@Try.underlying5) (@Try.underlying6)) (And.intro (@Try.underlying7) (And.intro (@Try.underlying8) (@Try.underlying9))))) (And.intro (And.intro (And.intro (@Try.underlying10) (@Try.underlying11)) (And.intro (@Try.underlying12) (And.intro (@Try.underlying13) (@Try.underlying14)))) (And.intro (And.intro (@Try.underlying15) (@Try.underlying16)) (And.intro (@Try.underlying17) (And.intro (@Try.underlying18) (@Try.underlying19)))))) (And.intro (And.intro (And.intro (And.intro (@Try.underlying21) (@Try.underlying22)) (And.intro (@Try.underlying23) (And.intro (@Try.underlying24) (@Try.underlying25)))) (And.intro (And.intro (@Try.underlying26) (@Try.underlying28)) (And.intro (@Try.underlying30) (And.intro (@Try.underlying31) (@Try.underlying32))))) (And.intro (And.intro (And.intro (@Try.underlying33) (@Try.underlying34)) (And.intro (@Try.underlying35) (And.intro (@Try.underlying36) (@Try.underlying37)))) (And.intro (And.intro (@Try.underlying38) (@Try.underlying39)) (And.intro (@Try.underlying40) (And.intro (@Try.underlying41) (@Try.underlying42))))))) (And.intro (And.intro (And.intro (And.intro (And.intro (@Try.underlying43) (@Try.underlying44)) (And.intro (@Try.underlying45) (@Try.underlying47))) (And.intro (And.intro (@Try.underlying48) (@Try.underlying49)) (And.intro (@Try.underlying50) (And.intro (@Try.underlying51) (@Try.underlying52))))) (And.intro (And.intro (And.intro (@Try.underlying53) (@Try.underlying54)) (And.intro (@Try.underlying55) (And.intro (@Try.underlying56) (@Try.underlying57)))) (And.intro (And.intro (@Try.underlying58) (@Try.underlying59)) (And.intro (@Try.underlying60) (And.intro (@Try.underlying61) (@Try.underlying62)))))) (And.intro (And.intro (And.intro (And.intro (@Try.underlying63) (@Try.underlying64)) (And.intro (@Try.underlying65) (And.intro (@Try.underlying66) (@Try.underlying67)))) (And.intro (And.intro (@Try.underlying68) (@Try.underlying69)) (And.intro (@Try.underlying70) (And.intro (@Try.underlying71) (@Try.underlying72))))) (And.intro (And.intro (And.intro (@Try.underlying73) (@Try.underlying74)) (And.intro (@Try.underlying75) (And.intro (@Try.underlying76) (@Try.underlying77)))) (And.intro (And.intro (@Try.underlying78) (@Try.underlying79)) (And.intro (@Try.underlying80) (And.intro (@Try.underlying81) (@Try.underlying82)))))))) (And.intro (And.intro (And.intro (And.intro (And.intro (And.intro (cells1) (cells2)) (And.intro (cells3) (cells4))) (And.intro (And.intro (cells5) (cells6)) (And.intro (cells7) (And.intro (cells8) (cells9))))) (And.intro (And.intro (And.intro (cells10) (cells11)) (And.intro (cells12) (And.intro (cells13) (cells14)))) (And.intro (And.intro (cells15) (cells16)) (And.intro (cells17) (And.intro (cells18) (cells19)))))) (And.intro (And.intro (And.intro (And.intro (cells21) (cells22)) (And.intro (cells23) (And.intro (cells24) (cells25)))) (And.intro (And.intro (cells26) (cells28)) (And.intro (cells30) (And.intro (cells31) (cells32))))) (And.intro (And.intro (And.intro (cells33) (cells34)) (And.intro (cells35) (And.intro (cells36) (cells37)))) (And.intro (And.intro (cells38) (cells39)) (And.intro (cells40) (And.intro (cells41) (cells42))))))) (And.intro (And.intro (And.intro (And.intro (And.intro (cells43) (cells44)) (And.intro (cells45) (cells47))) (And.intro (And.intro (cells48) (cells49)) (And.intro (cells50) (And.intro (cells51) (cells52))))) (And.intro (And.intro (And.intro (cells53) (cells54)) (And.intro (cells55) (And.intro (cells56) (cells57)))) (And.intro (And.intro (cells58) (cells59)) (And.intro (cells60) (And.intro (cells61) (cells62)))))) (And.intro (And.intro (And.intro (And.intro (cells63) (cells64)) (And.intro (cells65) (And.intro (cells66) (cells67)))) (And.intro (And.intro (cells68) (cells69)) (And.intro (cells70) (And.intro (cells71) (cells72))))) (And.intro (And.intro (And.intro (cells73) (cells74)) (And.intro (cells75) (And.intro (cells76) (cells77)))) (And.intro (And.intro (cells78) (cells79)) (And.intro (cells80) (And.intro (cells81) (cells82))))))))
end Go.Proofs.Ytkhfmgikbkjjjaa
