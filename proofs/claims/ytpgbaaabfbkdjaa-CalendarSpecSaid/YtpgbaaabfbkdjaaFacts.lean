/- Closed facts of this translation: how many cells a type takes, which functions can be called. Printed by a program of ours. -/
import Derived.Test.YtpgbaaabfbkdjaaProg
import Derived.Test.YtpgbaaabfbkdjaaFk
import Derived.KernelRfl
namespace Go.Proofs.Ytpgbaaabfbkdjaa
open Go Go.Fk
theorem mixed : Try.prog.follows .mixedOrders = true := by kernel_rfl
theorem cells2 : Try.prog.cellsOf 2 = 1 := by kernel_rfl
theorem cells3 : Try.prog.cellsOf 3 = 1 := by kernel_rfl
theorem cells4 : Try.prog.cellsOf 4 = 1 := by kernel_rfl
theorem cells5 : Try.prog.cellsOf 5 = 1 := by kernel_rfl
theorem cells6 : Try.prog.cellsOf 6 = 1 := by kernel_rfl
theorem cells7 : Try.prog.cellsOf 7 = 4 := by kernel_rfl
theorem cells8 : Try.prog.cellsOf 8 = 4 := by kernel_rfl
theorem cells9 : Try.prog.cellsOf 9 = 1 := by kernel_rfl
theorem cells10 : Try.prog.cellsOf 10 = 1 := by kernel_rfl
theorem cells11 : Try.prog.cellsOf 11 = 1 := by kernel_rfl
theorem cells12 : Try.prog.cellsOf 12 = 1 := by kernel_rfl
theorem cells13 : Try.prog.cellsOf 13 = 2 := by kernel_rfl
theorem cells14 : Try.prog.cellsOf 14 = 2 := by kernel_rfl
theorem cells15 : Try.prog.cellsOf 15 = 1 := by kernel_rfl
theorem cells16 : Try.prog.cellsOf 16 = 1 := by kernel_rfl
theorem cells17 : Try.prog.cellsOf 17 = 1 := by kernel_rfl
theorem cells18 : Try.prog.cellsOf 18 = 1 := by kernel_rfl
theorem cells19 : Try.prog.cellsOf 19 = 1 := by kernel_rfl
theorem cells21 : Try.prog.cellsOf 21 = 1 := by kernel_rfl
theorem cells22 : Try.prog.cellsOf 22 = 1 := by kernel_rfl
theorem cells23 : Try.prog.cellsOf 23 = 1 := by kernel_rfl
theorem cells25 : Try.prog.cellsOf 25 = 1 := by kernel_rfl
theorem cells26 : Try.prog.cellsOf 26 = 1 := by kernel_rfl
theorem cells36 : Try.prog.cellsOf 36 = 2 := by kernel_rfl
theorem cells37 : Try.prog.cellsOf 37 = 2 := by kernel_rfl
theorem cells39 : Try.prog.cellsOf 39 = 3 := by kernel_rfl
theorem cells40 : Try.prog.cellsOf 40 = 3 := by kernel_rfl
theorem cells42 : Try.prog.cellsOf 42 = 1 := by kernel_rfl
theorem cells49 : Try.prog.cellsOf 49 = 4 := by kernel_rfl
theorem cells50 : Try.prog.cellsOf 50 = 4 := by kernel_rfl
theorem cells51 : Try.prog.cellsOf 51 = 0 := by kernel_rfl
theorem cells52 : Try.prog.cellsOf 52 = 0 := by kernel_rfl
theorem cells53 : Try.prog.cellsOf 53 = 0 := by kernel_rfl
theorem cells55 : Try.prog.cellsOf 55 = 1 := by kernel_rfl
theorem cells56 : Try.prog.cellsOf 56 = 1 := by kernel_rfl
theorem cells57 : Try.prog.cellsOf 57 = 1 := by kernel_rfl
theorem cells59 : Try.prog.cellsOf 59 = 1 := by kernel_rfl
theorem cells60 : Try.prog.cellsOf 60 = 1 := by kernel_rfl
theorem cells61 : Try.prog.cellsOf 61 = 1 := by kernel_rfl
theorem cells62 : Try.prog.cellsOf 62 = 11 := by kernel_rfl
theorem cells63 : Try.prog.cellsOf 63 = 11 := by kernel_rfl
theorem ti2 : TI Try.prog 2 (.int .i64 0) 1 8 := ⟨by kernel_rfl⟩
theorem ti3 : TI Try.prog 3 (.int .i64 0) 1 8 := ⟨by kernel_rfl⟩
theorem ti4 : TI Try.prog 4 (.bool false) 1 1 := ⟨by kernel_rfl⟩
theorem ti5 : TI Try.prog 5 (.int .u8 0) 1 1 := ⟨by kernel_rfl⟩
theorem ti6 : TI Try.prog 6 (.int .u8 0) 1 1 := ⟨by kernel_rfl⟩
theorem ti7 : TI Try.prog 7 (.agg #[.int .i64 0, .int .i64 0, .bool false, .int .u8 0]) 4 24 := ⟨by kernel_rfl⟩
theorem ti8 : TI Try.prog 8 (.agg #[.int .i64 0, .int .i64 0, .bool false, .int .u8 0]) 4 24 := ⟨by kernel_rfl⟩
theorem ti9 : TI Try.prog 9 (.string ByteArray.empty) 1 16 := ⟨by kernel_rfl⟩
theorem ti10 : TI Try.prog 10 (.string ByteArray.empty) 1 16 := ⟨by kernel_rfl⟩
theorem ti11 : TI Try.prog 11 (.string ByteArray.empty) 1 16 := ⟨by kernel_rfl⟩
theorem ti12 : TI Try.prog 12 (.int .u64 0) 1 8 := ⟨by kernel_rfl⟩
theorem ti13 : TI Try.prog 13 (.agg #[.string ByteArray.empty, .int .u64 0]) 2 24 := ⟨by kernel_rfl⟩
theorem ti14 : TI Try.prog 14 (.agg #[.string ByteArray.empty, .int .u64 0]) 2 24 := ⟨by kernel_rfl⟩
theorem ti15 : TI Try.prog 15 (.pointer none) 1 8 := ⟨by kernel_rfl⟩
theorem ti16 : TI Try.prog 16 (.pointer none) 1 8 := ⟨by kernel_rfl⟩
theorem ti17 : TI Try.prog 17 (.pointer none) 1 8 := ⟨by kernel_rfl⟩
theorem ti18 : TI Try.prog 18 (.agg #[.pointer none]) 1 8 := ⟨by kernel_rfl⟩
theorem ti19 : TI Try.prog 19 (.agg #[.pointer none]) 1 8 := ⟨by kernel_rfl⟩
theorem ti21 : TI Try.prog 21 (.int .i32 0) 1 4 := ⟨by kernel_rfl⟩
theorem ti22 : TI Try.prog 22 (.slice none 0 0) 1 24 := ⟨by kernel_rfl⟩
theorem ti23 : TI Try.prog 23 (.slice none 0 0) 1 24 := ⟨by kernel_rfl⟩
theorem ti25 : TI Try.prog 25 (.slice none 0 0) 1 24 := ⟨by kernel_rfl⟩
theorem ti26 : TI Try.prog 26 (.int .i64 0) 1 8 := ⟨by kernel_rfl⟩
theorem ti36 : TI Try.prog 36 (.agg #[.int .i64 0, .int .i64 0]) 2 16 := ⟨by kernel_rfl⟩
theorem ti37 : TI Try.prog 37 (.agg #[.int .i64 0, .int .i64 0]) 2 16 := ⟨by kernel_rfl⟩
theorem ti39 : TI Try.prog 39 (.agg #[.int .i64 0, .int .i64 0, .int .i64 0]) 3 24 := ⟨by kernel_rfl⟩
theorem ti40 : TI Try.prog 40 (.agg #[.int .i64 0, .int .i64 0, .int .i64 0]) 3 24 := ⟨by kernel_rfl⟩
theorem ti42 : TI Try.prog 42 (.nilFunc) 1 8 := ⟨by kernel_rfl⟩
theorem ti49 : TI Try.prog 49 (.agg #[.pointer none, .pointer none, .pointer none, .string ByteArray.empty]) 4 40 := ⟨by kernel_rfl⟩
theorem ti50 : TI Try.prog 50 (.agg #[.pointer none, .pointer none, .pointer none, .string ByteArray.empty]) 4 40 := ⟨by kernel_rfl⟩
theorem ti55 : TI Try.prog 55 (.int .u32 0) 1 4 := ⟨by kernel_rfl⟩
theorem ti56 : TI Try.prog 56 (.int .u8 0) 1 1 := ⟨by kernel_rfl⟩
theorem ti57 : TI Try.prog 57 (.int .u8 0) 1 1 := ⟨by kernel_rfl⟩
theorem ti59 : TI Try.prog 59 (.pointer none) 1 8 := ⟨by kernel_rfl⟩
theorem ti60 : TI Try.prog 60 (.int .i32 0) 1 4 := ⟨by kernel_rfl⟩
theorem ti61 : TI Try.prog 61 (.int .i32 0) 1 4 := ⟨by kernel_rfl⟩
theorem ti62 : TI Try.prog 62 (.agg #[.int .u64 0, .int .u64 0, .int .u32 0, .int .u8 0, .int .u8 0, .int .u8 0, .int .u8 0, .nilFunc, .pointer none, .int .i32 0, .int .i32 0]) 11 48 := ⟨by kernel_rfl⟩
theorem ti63 : TI Try.prog 63 (.agg #[.int .u64 0, .int .u64 0, .int .u32 0, .int .u8 0, .int .u8 0, .int .u8 0, .int .u8 0, .nilFunc, .pointer none, .int .i32 0, .int .i32 0]) 11 48 := ⟨by kernel_rfl⟩
theorem call3 : callable Try.prog 3 = true := by kernel_rfl
theorem call4 : callable Try.prog 4 = true := by kernel_rfl
theorem call5 : callable Try.prog 5 = true := by kernel_rfl
theorem call6 : callable Try.prog 6 = true := by kernel_rfl
theorem call7 : callable Try.prog 7 = true := by kernel_rfl
theorem call8 : callable Try.prog 8 = true := by kernel_rfl
theorem call9 : callable Try.prog 9 = true := by kernel_rfl
theorem call10 : callable Try.prog 10 = true := by kernel_rfl
theorem call11 : callable Try.prog 11 = true := by kernel_rfl
theorem call12 : callable Try.prog 12 = true := by kernel_rfl
theorem call13 : callable Try.prog 13 = true := by kernel_rfl
theorem call14 : callable Try.prog 14 = true := by kernel_rfl
theorem call15 : callable Try.prog 15 = true := by kernel_rfl
theorem call16 : callable Try.prog 16 = true := by kernel_rfl
theorem call17 : callable Try.prog 17 = true := by kernel_rfl
theorem call18 : callable Try.prog 18 = true := by kernel_rfl
theorem call19 : callable Try.prog 19 = true := by kernel_rfl
theorem call20 : callable Try.prog 20 = true := by kernel_rfl
theorem call21 : callable Try.prog 21 = true := by kernel_rfl
theorem call22 : callable Try.prog 22 = true := by kernel_rfl
theorem call23 : callable Try.prog 23 = true := by kernel_rfl
theorem call24 : callable Try.prog 24 = true := by kernel_rfl
theorem UT : type_of% (And.intro (And.intro (And.intro (And.intro (And.intro (And.intro (@Try.underlying2) (@Try.underlying3)) (And.intro (@Try.underlying4) (And.intro (@Try.underlying5) (@Try.underlying6)))) (And.intro (And.intro (@Try.underlying7) (@Try.underlying8)) (And.intro (@Try.underlying9) (And.intro (@Try.underlying10) (@Try.underlying11))))) (And.intro (And.intro (And.intro (@Try.underlying12) (@Try.underlying13)) (And.intro (@Try.underlying14) (And.intro (@Try.underlying15) (@Try.underlying16)))) (And.intro (And.intro (@Try.underlying17) (@Try.underlying18)) (And.intro (@Try.underlying19) (And.intro (@Try.underlying21) (@Try.underlying22)))))) (And.intro (And.intro (And.intro (And.intro (@Try.underlying23) (@Try.underlying25)) (And.intro (@Try.underlying26) (And.intro (@Try.underlying36) (@Try.underlying37)))) (And.intro (And.intro (@Try.underlying39) (@Try.underlying40)) (And.intro (@Try.underlying42) (And.intro (@Try.underlying49) (@Try.underlying50))))) (And.intro (And.intro (And.intro (@Try.underlying51) (@Try.underlying52)) (And.intro (@Try.underlying53) (And.intro (@Try.underlying55) (@Try.underlying56)))) (And.intro (And.intro (@Try.underlying57) (And.intro (@Try.underlying59) (@Try.underlying60))) (And.intro (@Try.underlying61) (And.intro (@Try.underlying62) (@Try.underlying63))))))) (And.intro (And.intro (And.intro (And.intro (And.intro (cells2) (cells3)) (And.intro (cells4) (And.intro (cells5) (cells6)))) (And.intro (And.intro (cells7) (cells8)) (And.intro (cells9) (And.intro (cells10) (cells11))))) (And.intro (And.intro (And.intro (cells12) (cells13)) (And.intro (cells14) (And.intro (cells15) (cells16)))) (And.intro (And.intro (cells17) (cells18)) (And.intro (cells19) (And.intro (cells21) (cells22)))))) (And.intro (And.intro (And.intro (And.intro (cells23) (cells25)) (And.intro (cells26) (And.intro (cells36) (cells37)))) (And.intro (And.intro (cells39) (cells40)) (And.intro (cells42) (And.intro (cells49) (cells50))))) (And.intro (And.intro (And.intro (cells51) (cells52)) (And.intro (cells53) (And.intro (cells55) (cells56)))) (And.intro (And.intro (cells57) (And.intro (cells59) (cells60))) (And.intro (cells61) (And.intro (cells62) (cells63)))))))) := And.intro (And.intro (And.intro (And.intro (And.intro (And.intro (@Try.underlying2) (@Try.underlying3)) (And.intro (@Try.underlying4) (And.intro (@Try.underlying5) (@Try.underlying6)))) (And.intro (And.intro (@Try.underlying7) (@Try.underlying8)) (And.intro (@Try.underlying9) (And.intro (@Try.underlying10) (@Try.underlying11))))) (And.intro (And.intro (And.intro (@Try.underlying12) (@Try.underlying13)) (And.intro (@Try.underlying14) (And.intro (@Try.underlying15) (@Try.underlying16)))) (And.intro (And.intro (@Try.underlying17) (@Try.underlying18)) (And.intro (@Try.underlying19) (And.intro (@Try.underlying21) (@Try.underlying22)))))) (And.intro (And.intro (And.intro (And.intro (@Try.underlying23) (@Try.underlying25)) (And.intro (@Try.underlying26) (And.intro (@Try.underlying36) (@Try.underlying37)))) (And.intro (And.intro (@Try.underlying39) (@Try.underlying40)) (And.intro (@Try.underlying42) (And.intro (@Try.underlying49) (@Try.underlying50))))) (And.intro (And.intro (And.intro (@Try.underlying51) (@Try.underlying52)) (And.intro (@Try.underlying53) (And.intro (@Try.underlying55) (@Try.underlying56)))) (And.intro (And.intro (@Try.underlying57) (And.intro (@Try.underlying59) (@Try.underlying60))) (And.intro (@Try.underlying61) (And.intro (@Try.underlying62) (@Try.underlying63))))))) (And.intro (And.intro (And.intro (And.intro (And.intro (cells2) (cells3)) (And.intro (cells4) (And.intro (cells5) (cells6)))) (And.intro (And.intro (cells7) (cells8)) (And.intro (cells9) (And.intro (cells10) (cells11))))) (And.intro (And.intro (And.intro (cells12) (cells13)) (And.intro (cells14) (And.intro (cells15) (cells16)))) (And.intro (And.intro (cells17) (cells18)) (And.intro (cells19) (And.intro (cells21) (cells22)))))) (And.intro (And.intro (And.intro (And.intro (cells23) (cells25)) (And.intro (cells26) (And.intro (cells36) (cells37)))) (And.intro (And.intro (cells39) (cells40)) (And.intro (cells42) (And.intro (cells49) (cells50))))) (And.intro (And.intro (And.intro (cells51) (cells52)) (And.intro (cells53) (And.intro (cells55) (cells56)))) (And.intro (And.intro (cells57) (And.intro (cells59) (cells60))) (And.intro (cells61) (And.intro (cells62) (cells63)))))))
end Go.Proofs.Ytpgbaaabfbkdjaa
