import Derived.Test.YthengmdnikaooaaGreatProg
import Derived.Test.YthengmdnikaooaaGreatQhFk
import Derived.KernelRfl
namespace Go.Proofs.YthengmdnikaooaaGreat
open Go Go.Fk
theorem mixed : Tryz.prog.follows .mixedOrders = true := by kernel_rfl
theorem cells1 : Tryz.prog.cellsOf 1 = 1 := by kernel_rfl
theorem cells2 : Tryz.prog.cellsOf 2 = 1 := by kernel_rfl
theorem cells3 : Tryz.prog.cellsOf 3 = 1 := by kernel_rfl
theorem cells4 : Tryz.prog.cellsOf 4 = 1 := by kernel_rfl
theorem cells5 : Tryz.prog.cellsOf 5 = 1 := by kernel_rfl
theorem cells6 : Tryz.prog.cellsOf 6 = 1 := by kernel_rfl
theorem cells7 : Tryz.prog.cellsOf 7 = 4 := by kernel_rfl
theorem cells8 : Tryz.prog.cellsOf 8 = 4 := by kernel_rfl
theorem cells9 : Tryz.prog.cellsOf 9 = 1 := by kernel_rfl
theorem cells10 : Tryz.prog.cellsOf 10 = 1 := by kernel_rfl
theorem cells11 : Tryz.prog.cellsOf 11 = 1 := by kernel_rfl
theorem cells12 : Tryz.prog.cellsOf 12 = 1 := by kernel_rfl
theorem cells13 : Tryz.prog.cellsOf 13 = 2 := by kernel_rfl
theorem cells14 : Tryz.prog.cellsOf 14 = 2 := by kernel_rfl
theorem cells15 : Tryz.prog.cellsOf 15 = 1 := by kernel_rfl
theorem cells16 : Tryz.prog.cellsOf 16 = 1 := by kernel_rfl
theorem cells17 : Tryz.prog.cellsOf 17 = 1 := by kernel_rfl
theorem cells18 : Tryz.prog.cellsOf 18 = 1 := by kernel_rfl
theorem cells19 : Tryz.prog.cellsOf 19 = 1 := by kernel_rfl
theorem cells21 : Tryz.prog.cellsOf 21 = 1 := by kernel_rfl
theorem cells22 : Tryz.prog.cellsOf 22 = 1 := by kernel_rfl
theorem cells23 : Tryz.prog.cellsOf 23 = 2 := by kernel_rfl
theorem cells24 : Tryz.prog.cellsOf 24 = 2 := by kernel_rfl
theorem cells25 : Tryz.prog.cellsOf 25 = 1 := by kernel_rfl
theorem cells26 : Tryz.prog.cellsOf 26 = 1 := by kernel_rfl
theorem cells27 : Tryz.prog.cellsOf 27 = 3 := by kernel_rfl
theorem cells28 : Tryz.prog.cellsOf 28 = 3 := by kernel_rfl
theorem cells29 : Tryz.prog.cellsOf 29 = 11 := by kernel_rfl
theorem cells30 : Tryz.prog.cellsOf 30 = 11 := by kernel_rfl
theorem cells31 : Tryz.prog.cellsOf 31 = 3 := by kernel_rfl
theorem cells32 : Tryz.prog.cellsOf 32 = 3 := by kernel_rfl
theorem cells33 : Tryz.prog.cellsOf 33 = 1 := by kernel_rfl
theorem cells34 : Tryz.prog.cellsOf 34 = 1 := by kernel_rfl
theorem cells35 : Tryz.prog.cellsOf 35 = 1 := by kernel_rfl
theorem cells36 : Tryz.prog.cellsOf 36 = 1 := by kernel_rfl
theorem cells38 : Tryz.prog.cellsOf 38 = 1 := by kernel_rfl
theorem cells39 : Tryz.prog.cellsOf 39 = 1 := by kernel_rfl
theorem cells41 : Tryz.prog.cellsOf 41 = 1 := by kernel_rfl
theorem cells42 : Tryz.prog.cellsOf 42 = 1 := by kernel_rfl
theorem cells43 : Tryz.prog.cellsOf 43 = 1 := by kernel_rfl
theorem cells44 : Tryz.prog.cellsOf 44 = 3 := by kernel_rfl
theorem cells45 : Tryz.prog.cellsOf 45 = 3 := by kernel_rfl
theorem cells47 : Tryz.prog.cellsOf 47 = 1 := by kernel_rfl
theorem cells48 : Tryz.prog.cellsOf 48 = 1 := by kernel_rfl
theorem cells49 : Tryz.prog.cellsOf 49 = 1 := by kernel_rfl
theorem cells50 : Tryz.prog.cellsOf 50 = 1 := by kernel_rfl
theorem cells51 : Tryz.prog.cellsOf 51 = 1 := by kernel_rfl
theorem cells52 : Tryz.prog.cellsOf 52 = 1 := by kernel_rfl
theorem cells53 : Tryz.prog.cellsOf 53 = 1 := by kernel_rfl
theorem cells54 : Tryz.prog.cellsOf 54 = 1 := by kernel_rfl
theorem cells55 : Tryz.prog.cellsOf 55 = 1 := by kernel_rfl
theorem cells56 : Tryz.prog.cellsOf 56 = 6 := by kernel_rfl
theorem cells57 : Tryz.prog.cellsOf 57 = 6 := by kernel_rfl
theorem cells59 : Tryz.prog.cellsOf 59 = 1 := by kernel_rfl
theorem cells60 : Tryz.prog.cellsOf 60 = 1 := by kernel_rfl
theorem cells61 : Tryz.prog.cellsOf 61 = 1 := by kernel_rfl
theorem cells62 : Tryz.prog.cellsOf 62 = 1 := by kernel_rfl
theorem cells63 : Tryz.prog.cellsOf 63 = 1 := by kernel_rfl
theorem cells64 : Tryz.prog.cellsOf 64 = 1 := by kernel_rfl
theorem cells65 : Tryz.prog.cellsOf 65 = 1 := by kernel_rfl
theorem cells66 : Tryz.prog.cellsOf 66 = 1 := by kernel_rfl
theorem cells67 : Tryz.prog.cellsOf 67 = 1 := by kernel_rfl
theorem cells68 : Tryz.prog.cellsOf 68 = 1 := by kernel_rfl
theorem cells69 : Tryz.prog.cellsOf 69 = 1 := by kernel_rfl
theorem cells70 : Tryz.prog.cellsOf 70 = 1 := by kernel_rfl
theorem cells71 : Tryz.prog.cellsOf 71 = 1 := by kernel_rfl
theorem cells72 : Tryz.prog.cellsOf 72 = 1 := by kernel_rfl
theorem cells73 : Tryz.prog.cellsOf 73 = 1 := by kernel_rfl
theorem cells74 : Tryz.prog.cellsOf 74 = 1 := by kernel_rfl
theorem cells75 : Tryz.prog.cellsOf 75 = 1 := by kernel_rfl
theorem cells76 : Tryz.prog.cellsOf 76 = 1 := by kernel_rfl
theorem cells77 : Tryz.prog.cellsOf 77 = 1 := by kernel_rfl
theorem cells78 : Tryz.prog.cellsOf 78 = 1 := by kernel_rfl
theorem cells79 : Tryz.prog.cellsOf 79 = 1 := by kernel_rfl
theorem cells80 : Tryz.prog.cellsOf 80 = 2 := by kernel_rfl
theorem cells81 : Tryz.prog.cellsOf 81 = 2 := by kernel_rfl
theorem cells82 : Tryz.prog.cellsOf 82 = 1 := by kernel_rfl
theorem cells83 : Tryz.prog.cellsOf 83 = 1 := by kernel_rfl
theorem cells84 : Tryz.prog.cellsOf 84 = 1 := by kernel_rfl
theorem cells86 : Tryz.prog.cellsOf 86 = 1 := by kernel_rfl
theorem cells87 : Tryz.prog.cellsOf 87 = 1 := by kernel_rfl
theorem cells88 : Tryz.prog.cellsOf 88 = 1 := by kernel_rfl
theorem cells89 : Tryz.prog.cellsOf 89 = 1 := by kernel_rfl
theorem cells90 : Tryz.prog.cellsOf 90 = 1 := by kernel_rfl
theorem cells92 : Tryz.prog.cellsOf 92 = 1 := by kernel_rfl
theorem cells93 : Tryz.prog.cellsOf 93 = 1 := by kernel_rfl
theorem cells95 : Tryz.prog.cellsOf 95 = 1 := by kernel_rfl
theorem cells96 : Tryz.prog.cellsOf 96 = 1 := by kernel_rfl
theorem cells97 : Tryz.prog.cellsOf 97 = 1 := by kernel_rfl
theorem cells98 : Tryz.prog.cellsOf 98 = 3 := by kernel_rfl
theorem cells99 : Tryz.prog.cellsOf 99 = 3 := by kernel_rfl
theorem cells100 : Tryz.prog.cellsOf 100 = 1 := by kernel_rfl
theorem cells101 : Tryz.prog.cellsOf 101 = 1 := by kernel_rfl
theorem cells102 : Tryz.prog.cellsOf 102 = 23 := by kernel_rfl
theorem cells103 : Tryz.prog.cellsOf 103 = 23 := by kernel_rfl
theorem cells104 : Tryz.prog.cellsOf 104 = 1 := by kernel_rfl
theorem cells105 : Tryz.prog.cellsOf 105 = 1 := by kernel_rfl
theorem cells106 : Tryz.prog.cellsOf 106 = 1 := by kernel_rfl
theorem cells107 : Tryz.prog.cellsOf 107 = 1 := by kernel_rfl
theorem cells108 : Tryz.prog.cellsOf 108 = 1 := by kernel_rfl
theorem cells109 : Tryz.prog.cellsOf 109 = 1 := by kernel_rfl
theorem cells110 : Tryz.prog.cellsOf 110 = 1 := by kernel_rfl
theorem cells111 : Tryz.prog.cellsOf 111 = 1 := by kernel_rfl
theorem cells113 : Tryz.prog.cellsOf 113 = 1 := by kernel_rfl
theorem cells114 : Tryz.prog.cellsOf 114 = 1 := by kernel_rfl
theorem cells115 : Tryz.prog.cellsOf 115 = 1 := by kernel_rfl
theorem cells116 : Tryz.prog.cellsOf 116 = 1 := by kernel_rfl
theorem cells117 : Tryz.prog.cellsOf 117 = 1 := by kernel_rfl
theorem cells118 : Tryz.prog.cellsOf 118 = 1 := by kernel_rfl
theorem cells119 : Tryz.prog.cellsOf 119 = 1 := by kernel_rfl
theorem cells120 : Tryz.prog.cellsOf 120 = 1 := by kernel_rfl
theorem cells121 : Tryz.prog.cellsOf 121 = 1 := by kernel_rfl
theorem cells122 : Tryz.prog.cellsOf 122 = 1 := by kernel_rfl
theorem cells123 : Tryz.prog.cellsOf 123 = 1 := by kernel_rfl
theorem cells124 : Tryz.prog.cellsOf 124 = 7 := by kernel_rfl
theorem cells125 : Tryz.prog.cellsOf 125 = 7 := by kernel_rfl
theorem cells126 : Tryz.prog.cellsOf 126 = 1 := by kernel_rfl
theorem cells127 : Tryz.prog.cellsOf 127 = 1 := by kernel_rfl
theorem cells128 : Tryz.prog.cellsOf 128 = 1 := by kernel_rfl
theorem cells129 : Tryz.prog.cellsOf 129 = 1 := by kernel_rfl
theorem cells130 : Tryz.prog.cellsOf 130 = 1 := by kernel_rfl
theorem cells131 : Tryz.prog.cellsOf 131 = 1 := by kernel_rfl
theorem cells132 : Tryz.prog.cellsOf 132 = 2 := by kernel_rfl
theorem cells133 : Tryz.prog.cellsOf 133 = 2 := by kernel_rfl
theorem cells134 : Tryz.prog.cellsOf 134 = 1 := by kernel_rfl
theorem cells135 : Tryz.prog.cellsOf 135 = 1 := by kernel_rfl
theorem cells136 : Tryz.prog.cellsOf 136 = 1 := by kernel_rfl
theorem cells137 : Tryz.prog.cellsOf 137 = 1 := by kernel_rfl
theorem cells138 : Tryz.prog.cellsOf 138 = 1 := by kernel_rfl
theorem cells139 : Tryz.prog.cellsOf 139 = 1 := by kernel_rfl
theorem cells140 : Tryz.prog.cellsOf 140 = 1 := by kernel_rfl
theorem cells141 : Tryz.prog.cellsOf 141 = 1 := by kernel_rfl
theorem cells142 : Tryz.prog.cellsOf 142 = 1 := by kernel_rfl
theorem cells143 : Tryz.prog.cellsOf 143 = 2 := by kernel_rfl
theorem cells144 : Tryz.prog.cellsOf 144 = 2 := by kernel_rfl
theorem cells145 : Tryz.prog.cellsOf 145 = 1 := by kernel_rfl
theorem cells146 : Tryz.prog.cellsOf 146 = 1 := by kernel_rfl
theorem cells147 : Tryz.prog.cellsOf 147 = 1 := by kernel_rfl
theorem cells148 : Tryz.prog.cellsOf 148 = 1 := by kernel_rfl
theorem cells149 : Tryz.prog.cellsOf 149 = 1 := by kernel_rfl
theorem cells150 : Tryz.prog.cellsOf 150 = 1 := by kernel_rfl
theorem cells151 : Tryz.prog.cellsOf 151 = 1 := by kernel_rfl
theorem cells152 : Tryz.prog.cellsOf 152 = 1 := by kernel_rfl
theorem cells153 : Tryz.prog.cellsOf 153 = 1 := by kernel_rfl
theorem cells155 : Tryz.prog.cellsOf 155 = 1 := by kernel_rfl
theorem cells156 : Tryz.prog.cellsOf 156 = 1 := by kernel_rfl
theorem cells157 : Tryz.prog.cellsOf 157 = 1 := by kernel_rfl
theorem cells158 : Tryz.prog.cellsOf 158 = 1 := by kernel_rfl
theorem cells159 : Tryz.prog.cellsOf 159 = 1 := by kernel_rfl
theorem cells160 : Tryz.prog.cellsOf 160 = 1 := by kernel_rfl
theorem cells161 : Tryz.prog.cellsOf 161 = 1 := by kernel_rfl
theorem cells162 : Tryz.prog.cellsOf 162 = 1 := by kernel_rfl
theorem cells164 : Tryz.prog.cellsOf 164 = 1 := by kernel_rfl
theorem cells165 : Tryz.prog.cellsOf 165 = 1 := by kernel_rfl
theorem cells166 : Tryz.prog.cellsOf 166 = 1 := by kernel_rfl
theorem cells168 : Tryz.prog.cellsOf 168 = 1 := by kernel_rfl
theorem cells169 : Tryz.prog.cellsOf 169 = 1 := by kernel_rfl
theorem cells170 : Tryz.prog.cellsOf 170 = 1 := by kernel_rfl
theorem cells171 : Tryz.prog.cellsOf 171 = 1 := by kernel_rfl
theorem cells172 : Tryz.prog.cellsOf 172 = 1 := by kernel_rfl
theorem cells173 : Tryz.prog.cellsOf 173 = 1 := by kernel_rfl
theorem cells175 : Tryz.prog.cellsOf 175 = 1 := by kernel_rfl
theorem cells177 : Tryz.prog.cellsOf 177 = 1 := by kernel_rfl
theorem cells178 : Tryz.prog.cellsOf 178 = 1 := by kernel_rfl
theorem cells179 : Tryz.prog.cellsOf 179 = 1 := by kernel_rfl
theorem cells180 : Tryz.prog.cellsOf 180 = 1 := by kernel_rfl
theorem cells181 : Tryz.prog.cellsOf 181 = 1 := by kernel_rfl
theorem cells182 : Tryz.prog.cellsOf 182 = 1 := by kernel_rfl
theorem cells183 : Tryz.prog.cellsOf 183 = 1 := by kernel_rfl
theorem cells184 : Tryz.prog.cellsOf 184 = 1 := by kernel_rfl
theorem cells185 : Tryz.prog.cellsOf 185 = 1 := by kernel_rfl
theorem cells186 : Tryz.prog.cellsOf 186 = 1 := by kernel_rfl
theorem cells187 : Tryz.prog.cellsOf 187 = 4 := by kernel_rfl
theorem cells188 : Tryz.prog.cellsOf 188 = 4 := by kernel_rfl
theorem cells189 : Tryz.prog.cellsOf 189 = 0 := by kernel_rfl
theorem cells190 : Tryz.prog.cellsOf 190 = 0 := by kernel_rfl
theorem cells191 : Tryz.prog.cellsOf 191 = 0 := by kernel_rfl
theorem cells192 : Tryz.prog.cellsOf 192 = 1 := by kernel_rfl
theorem cells193 : Tryz.prog.cellsOf 193 = 1 := by kernel_rfl
theorem cells194 : Tryz.prog.cellsOf 194 = 1 := by kernel_rfl
theorem cells195 : Tryz.prog.cellsOf 195 = 1 := by kernel_rfl
theorem cells196 : Tryz.prog.cellsOf 196 = 1 := by kernel_rfl
theorem cells197 : Tryz.prog.cellsOf 197 = 1 := by kernel_rfl
theorem cells198 : Tryz.prog.cellsOf 198 = 11 := by kernel_rfl
theorem cells199 : Tryz.prog.cellsOf 199 = 11 := by kernel_rfl
theorem ti3 : TI Tryz.prog 3 (.int .i64 0) 1 8 := ⟨by kernel_rfl⟩
theorem ti4 : TI Tryz.prog 4 (.bool false) 1 1 := ⟨by kernel_rfl⟩
theorem ti24 : TI Tryz.prog 24 (.agg #[.int .i64 0, .slice none 0 0]) 2 32 := ⟨by kernel_rfl⟩
theorem ti25 : TI Tryz.prog 25 (.slice none 0 0) 1 24 := ⟨by kernel_rfl⟩
theorem ti28 : TI Tryz.prog 28 (.agg #[.slice none 0 0, .slice none 0 0, .slice none 0 0]) 3 72 := ⟨by kernel_rfl⟩
theorem ti30 : TI Tryz.prog 30 (.agg #[.int .i64 0, .int .i64 0, .int .i64 0, .int .i64 0, .int .i64 0, .int .i64 0, .int .i64 0, .int .i64 0, .slice none 0 0, .bool false, .int .i64 0]) 11 104 := ⟨by kernel_rfl⟩
theorem ti32 : TI Tryz.prog 32 (.agg #[.int .i64 0, .int .i64 0, .int .i64 0]) 3 24 := ⟨by kernel_rfl⟩
theorem ti33 : TI Tryz.prog 33 (.nilFunc) 1 8 := ⟨by kernel_rfl⟩
theorem ti36 : TI Tryz.prog 36 (.int .i64 0) 1 8 := ⟨by kernel_rfl⟩
theorem ti39 : TI Tryz.prog 39 (.slice none 0 0) 1 24 := ⟨by kernel_rfl⟩
theorem ti45 : TI Tryz.prog 45 (.agg #[.slice none 0 0, .slice none 0 0, .slice none 0 0]) 3 72 := ⟨by kernel_rfl⟩
theorem ti57 : TI Tryz.prog 57 (.agg #[.slice none 0 0, .slice none 0 0, .int .i64 0, .int .i64 0, .slice none 0 0, .slice none 0 0]) 6 112 := ⟨by kernel_rfl⟩
theorem ti76 : TI Tryz.prog 76 (.nilFunc) 1 8 := ⟨by kernel_rfl⟩
theorem ti78 : TI Tryz.prog 78 (.slice none 0 0) 1 24 := ⟨by kernel_rfl⟩
theorem ti79 : TI Tryz.prog 79 (.map none) 1 8 := ⟨by kernel_rfl⟩
theorem ti81 : TI Tryz.prog 81 (.agg #[.int .i64 0, .int .i64 0]) 2 16 := ⟨by kernel_rfl⟩
theorem ti99 : TI Tryz.prog 99 (.agg #[.int .i64 0, .int .i64 0, .int .i64 0]) 3 24 := ⟨by kernel_rfl⟩
theorem ti103 : TI Tryz.prog 103 (.agg #[.slice none 0 0, .slice none 0 0, .slice none 0 0, .slice none 0 0, .slice none 0 0, .int .i64 0, .int .i64 0, .slice none 0 0, .slice none 0 0, .int .i64 0, .int .i64 0, .int .i64 0, .int .i64 0, .int .i64 0, .int .i64 0, .int .i64 0, .int .i64 0, .slice none 0 0, .bool false, .int .i64 0, .int .i64 0, .int .i64 0, .int .i64 0]) 23 312 := ⟨by kernel_rfl⟩
theorem ti106 : TI Tryz.prog 106 (.nilFunc) 1 8 := ⟨by kernel_rfl⟩
theorem ti111 : TI Tryz.prog 111 (.nilFunc) 1 8 := ⟨by kernel_rfl⟩
theorem ti133 : TI Tryz.prog 133 (.agg #[.int .i64 0, .int .i64 0]) 2 16 := ⟨by kernel_rfl⟩
theorem ti144 : TI Tryz.prog 144 (.agg #[.int .i64 0, .int .i64 0]) 2 16 := ⟨by kernel_rfl⟩
theorem call11 : callable Tryz.prog 11 = true := by kernel_rfl
theorem call12 : callable Tryz.prog 12 = true := by kernel_rfl
theorem call13 : callable Tryz.prog 13 = true := by kernel_rfl
theorem call15 : callable Tryz.prog 15 = true := by kernel_rfl
theorem call16 : callable Tryz.prog 16 = true := by kernel_rfl
theorem call17 : callable Tryz.prog 17 = true := by kernel_rfl
theorem call18 : callable Tryz.prog 18 = true := by kernel_rfl
theorem call20 : callable Tryz.prog 20 = true := by kernel_rfl
theorem call21 : callable Tryz.prog 21 = true := by kernel_rfl
theorem call22 : callable Tryz.prog 22 = true := by kernel_rfl
theorem call24 : callable Tryz.prog 24 = true := by kernel_rfl
theorem call25 : callable Tryz.prog 25 = true := by kernel_rfl
theorem call26 : callable Tryz.prog 26 = true := by kernel_rfl
theorem call30 : callable Tryz.prog 30 = true := by kernel_rfl
theorem call31 : callable Tryz.prog 31 = true := by kernel_rfl
theorem call32 : callable Tryz.prog 32 = true := by kernel_rfl
theorem call33 : callable Tryz.prog 33 = true := by kernel_rfl
theorem call34 : callable Tryz.prog 34 = true := by kernel_rfl
theorem call35 : callable Tryz.prog 35 = true := by kernel_rfl
theorem call36 : callable Tryz.prog 36 = true := by kernel_rfl
theorem call37 : callable Tryz.prog 37 = true := by kernel_rfl
theorem call39 : callable Tryz.prog 39 = true := by kernel_rfl
theorem call40 : callable Tryz.prog 40 = true := by kernel_rfl
theorem call41 : callable Tryz.prog 41 = true := by kernel_rfl
theorem call42 : callable Tryz.prog 42 = true := by kernel_rfl
theorem call43 : callable Tryz.prog 43 = true := by kernel_rfl
theorem call44 : callable Tryz.prog 44 = true := by kernel_rfl
theorem call45 : callable Tryz.prog 45 = true := by kernel_rfl
theorem call46 : callable Tryz.prog 46 = true := by kernel_rfl
theorem call47 : callable Tryz.prog 47 = true := by kernel_rfl
theorem call48 : callable Tryz.prog 48 = true := by kernel_rfl
theorem call51 : callable Tryz.prog 51 = true := by kernel_rfl
theorem call52 : callable Tryz.prog 52 = true := by kernel_rfl
theorem call53 : callable Tryz.prog 53 = true := by kernel_rfl
theorem call55 : callable Tryz.prog 55 = true := by kernel_rfl
theorem call56 : callable Tryz.prog 56 = true := by kernel_rfl
theorem call57 : callable Tryz.prog 57 = true := by kernel_rfl
theorem call58 : callable Tryz.prog 58 = true := by kernel_rfl
theorem call59 : callable Tryz.prog 59 = true := by kernel_rfl
theorem call60 : callable Tryz.prog 60 = true := by kernel_rfl
theorem call61 : callable Tryz.prog 61 = true := by kernel_rfl
theorem call62 : callable Tryz.prog 62 = true := by kernel_rfl
theorem call63 : callable Tryz.prog 63 = true := by kernel_rfl
theorem call64 : callable Tryz.prog 64 = true := by kernel_rfl
theorem call65 : callable Tryz.prog 65 = true := by kernel_rfl
theorem call66 : callable Tryz.prog 66 = true := by kernel_rfl
theorem call67 : callable Tryz.prog 67 = true := by kernel_rfl
theorem call69 : callable Tryz.prog 69 = true := by kernel_rfl
theorem call70 : callable Tryz.prog 70 = true := by kernel_rfl
theorem call71 : callable Tryz.prog 71 = true := by kernel_rfl
theorem call72 : callable Tryz.prog 72 = true := by kernel_rfl
theorem call73 : callable Tryz.prog 73 = true := by kernel_rfl
theorem call74 : callable Tryz.prog 74 = true := by kernel_rfl
theorem call75 : callable Tryz.prog 75 = true := by kernel_rfl
theorem call77 : callable Tryz.prog 77 = true := by kernel_rfl
theorem call78 : callable Tryz.prog 78 = true := by kernel_rfl
theorem call79 : callable Tryz.prog 79 = true := by kernel_rfl
theorem call80 : callable Tryz.prog 80 = true := by kernel_rfl
theorem call81 : callable Tryz.prog 81 = true := by kernel_rfl
theorem call82 : callable Tryz.prog 82 = true := by kernel_rfl
theorem call83 : callable Tryz.prog 83 = true := by kernel_rfl
theorem call85 : callable Tryz.prog 85 = true := by kernel_rfl
theorem call86 : callable Tryz.prog 86 = true := by kernel_rfl
theorem call87 : callable Tryz.prog 87 = true := by kernel_rfl
theorem call88 : callable Tryz.prog 88 = true := by kernel_rfl
theorem call89 : callable Tryz.prog 89 = true := by kernel_rfl
theorem call90 : callable Tryz.prog 90 = true := by kernel_rfl
theorem call91 : callable Tryz.prog 91 = true := by kernel_rfl
theorem call92 : callable Tryz.prog 92 = true := by kernel_rfl
theorem call93 : callable Tryz.prog 93 = true := by kernel_rfl
theorem call94 : callable Tryz.prog 94 = true := by kernel_rfl
theorem call95 : callable Tryz.prog 95 = true := by kernel_rfl
theorem call96 : callable Tryz.prog 96 = true := by kernel_rfl
theorem call97 : callable Tryz.prog 97 = true := by kernel_rfl
theorem call98 : callable Tryz.prog 98 = true := by kernel_rfl
theorem call99 : callable Tryz.prog 99 = true := by kernel_rfl
theorem call100 : callable Tryz.prog 100 = true := by kernel_rfl
theorem call101 : callable Tryz.prog 101 = true := by kernel_rfl
theorem call102 : callable Tryz.prog 102 = true := by kernel_rfl
theorem call103 : callable Tryz.prog 103 = true := by kernel_rfl
theorem call104 : callable Tryz.prog 104 = true := by kernel_rfl
theorem call105 : callable Tryz.prog 105 = true := by kernel_rfl
theorem call106 : callable Tryz.prog 106 = true := by kernel_rfl
theorem call107 : callable Tryz.prog 107 = true := by kernel_rfl
theorem call108 : callable Tryz.prog 108 = true := by kernel_rfl
theorem call109 : callable Tryz.prog 109 = true := by kernel_rfl
theorem call110 : callable Tryz.prog 110 = true := by kernel_rfl
theorem call111 : callable Tryz.prog 111 = true := by kernel_rfl
theorem call112 : callable Tryz.prog 112 = true := by kernel_rfl
theorem call113 : callable Tryz.prog 113 = true := by kernel_rfl
theorem call114 : callable Tryz.prog 114 = true := by kernel_rfl
theorem call115 : callable Tryz.prog 115 = true := by kernel_rfl
theorem call116 : callable Tryz.prog 116 = true := by kernel_rfl
theorem call119 : callable Tryz.prog 119 = true := by kernel_rfl
theorem call120 : callable Tryz.prog 120 = true := by kernel_rfl
theorem call121 : callable Tryz.prog 121 = true := by kernel_rfl
theorem call122 : callable Tryz.prog 122 = true := by kernel_rfl
theorem call123 : callable Tryz.prog 123 = true := by kernel_rfl
theorem call124 : callable Tryz.prog 124 = true := by kernel_rfl
theorem call125 : callable Tryz.prog 125 = true := by kernel_rfl
theorem call126 : callable Tryz.prog 126 = true := by kernel_rfl
theorem call127 : callable Tryz.prog 127 = true := by kernel_rfl
theorem call128 : callable Tryz.prog 128 = true := by kernel_rfl
theorem call129 : callable Tryz.prog 129 = true := by kernel_rfl
theorem call130 : callable Tryz.prog 130 = true := by kernel_rfl
theorem call131 : callable Tryz.prog 131 = true := by kernel_rfl
theorem call132 : callable Tryz.prog 132 = true := by kernel_rfl
theorem call143 : callable Tryz.prog 143 = true := by kernel_rfl
theorem call144 : callable Tryz.prog 144 = true := by kernel_rfl
theorem call146 : callable Tryz.prog 146 = true := by kernel_rfl
theorem call147 : callable Tryz.prog 147 = true := by kernel_rfl
theorem U1 : type_of% (aa @Tryz.underlying1 cells1) := aa @Tryz.underlying1 cells1
theorem U2 : type_of% (aa @Tryz.underlying2 cells2) := aa @Tryz.underlying2 cells2
theorem U3 : type_of% (aa @Tryz.underlying3 cells3) := aa @Tryz.underlying3 cells3
theorem U4 : type_of% (aa @Tryz.underlying4 cells4) := aa @Tryz.underlying4 cells4
theorem U5 : type_of% (aa @Tryz.underlying5 cells5) := aa @Tryz.underlying5 cells5
theorem U6 : type_of% (aa @Tryz.underlying6 cells6) := aa @Tryz.underlying6 cells6
theorem U7 : type_of% (aa @Tryz.underlying7 cells7) := aa @Tryz.underlying7 cells7
theorem U8 : type_of% (aa @Tryz.underlying8 cells8) := aa @Tryz.underlying8 cells8
theorem U9 : type_of% (aa @Tryz.underlying9 cells9) := aa @Tryz.underlying9 cells9
theorem U10 : type_of% (aa @Tryz.underlying10 cells10) := aa @Tryz.underlying10 cells10
theorem U11 : type_of% (aa @Tryz.underlying11 cells11) := aa @Tryz.underlying11 cells11
theorem U12 : type_of% (aa @Tryz.underlying12 cells12) := aa @Tryz.underlying12 cells12
theorem U13 : type_of% (aa @Tryz.underlying13 cells13) := aa @Tryz.underlying13 cells13
theorem U14 : type_of% (aa @Tryz.underlying14 cells14) := aa @Tryz.underlying14 cells14
theorem U15 : type_of% (aa @Tryz.underlying15 cells15) := aa @Tryz.underlying15 cells15
theorem U16 : type_of% (aa @Tryz.underlying16 cells16) := aa @Tryz.underlying16 cells16
theorem U17 : type_of% (aa @Tryz.underlying17 cells17) := aa @Tryz.underlying17 cells17
theorem U18 : type_of% (aa @Tryz.underlying18 cells18) := aa @Tryz.underlying18 cells18
theorem U19 : type_of% (aa @Tryz.underlying19 cells19) := aa @Tryz.underlying19 cells19
theorem U21 : type_of% (aa @Tryz.underlying21 cells21) := aa @Tryz.underlying21 cells21
theorem U22 : type_of% (aa @Tryz.underlying22 cells22) := aa @Tryz.underlying22 cells22
theorem U23 : type_of% (aa @Tryz.underlying23 cells23) := aa @Tryz.underlying23 cells23
theorem U24 : type_of% (aa @Tryz.underlying24 cells24) := aa @Tryz.underlying24 cells24
theorem U25 : type_of% (aa @Tryz.underlying25 cells25) := aa @Tryz.underlying25 cells25
theorem U26 : type_of% (aa @Tryz.underlying26 cells26) := aa @Tryz.underlying26 cells26
theorem U27 : type_of% (aa @Tryz.underlying27 cells27) := aa @Tryz.underlying27 cells27
theorem U28 : type_of% (aa @Tryz.underlying28 cells28) := aa @Tryz.underlying28 cells28
theorem U29 : type_of% (aa @Tryz.underlying29 cells29) := aa @Tryz.underlying29 cells29
theorem U30 : type_of% (aa @Tryz.underlying30 cells30) := aa @Tryz.underlying30 cells30
theorem U31 : type_of% (aa @Tryz.underlying31 cells31) := aa @Tryz.underlying31 cells31
theorem U32 : type_of% (aa @Tryz.underlying32 cells32) := aa @Tryz.underlying32 cells32
theorem U33 : type_of% (aa @Tryz.underlying33 cells33) := aa @Tryz.underlying33 cells33
theorem U34 : type_of% (aa @Tryz.underlying34 cells34) := aa @Tryz.underlying34 cells34
theorem U35 : type_of% (aa @Tryz.underlying35 cells35) := aa @Tryz.underlying35 cells35
theorem U36 : type_of% (aa @Tryz.underlying36 cells36) := aa @Tryz.underlying36 cells36
theorem U38 : type_of% (aa @Tryz.underlying38 cells38) := aa @Tryz.underlying38 cells38
theorem U39 : type_of% (aa @Tryz.underlying39 cells39) := aa @Tryz.underlying39 cells39
theorem U41 : type_of% (aa @Tryz.underlying41 cells41) := aa @Tryz.underlying41 cells41
theorem U42 : type_of% (aa @Tryz.underlying42 cells42) := aa @Tryz.underlying42 cells42
theorem U43 : type_of% (aa @Tryz.underlying43 cells43) := aa @Tryz.underlying43 cells43
theorem U44 : type_of% (aa @Tryz.underlying44 cells44) := aa @Tryz.underlying44 cells44
theorem U45 : type_of% (aa @Tryz.underlying45 cells45) := aa @Tryz.underlying45 cells45
theorem U47 : type_of% (aa @Tryz.underlying47 cells47) := aa @Tryz.underlying47 cells47
theorem U48 : type_of% (aa @Tryz.underlying48 cells48) := aa @Tryz.underlying48 cells48
theorem U49 : type_of% (aa @Tryz.underlying49 cells49) := aa @Tryz.underlying49 cells49
theorem U50 : type_of% (aa @Tryz.underlying50 cells50) := aa @Tryz.underlying50 cells50
theorem U51 : type_of% (aa @Tryz.underlying51 cells51) := aa @Tryz.underlying51 cells51
theorem U52 : type_of% (aa @Tryz.underlying52 cells52) := aa @Tryz.underlying52 cells52
theorem U53 : type_of% (aa @Tryz.underlying53 cells53) := aa @Tryz.underlying53 cells53
theorem U54 : type_of% (aa @Tryz.underlying54 cells54) := aa @Tryz.underlying54 cells54
theorem U55 : type_of% (aa @Tryz.underlying55 cells55) := aa @Tryz.underlying55 cells55
theorem U56 : type_of% (aa @Tryz.underlying56 cells56) := aa @Tryz.underlying56 cells56
theorem U57 : type_of% (aa @Tryz.underlying57 cells57) := aa @Tryz.underlying57 cells57
theorem U59 : type_of% (aa @Tryz.underlying59 cells59) := aa @Tryz.underlying59 cells59
theorem U60 : type_of% (aa @Tryz.underlying60 cells60) := aa @Tryz.underlying60 cells60
theorem U61 : type_of% (aa @Tryz.underlying61 cells61) := aa @Tryz.underlying61 cells61
theorem U62 : type_of% (aa @Tryz.underlying62 cells62) := aa @Tryz.underlying62 cells62
theorem U63 : type_of% (aa @Tryz.underlying63 cells63) := aa @Tryz.underlying63 cells63
theorem U64 : type_of% (aa @Tryz.underlying64 cells64) := aa @Tryz.underlying64 cells64
theorem U65 : type_of% (aa @Tryz.underlying65 cells65) := aa @Tryz.underlying65 cells65
theorem U66 : type_of% (aa @Tryz.underlying66 cells66) := aa @Tryz.underlying66 cells66
theorem U67 : type_of% (aa @Tryz.underlying67 cells67) := aa @Tryz.underlying67 cells67
theorem U68 : type_of% (aa @Tryz.underlying68 cells68) := aa @Tryz.underlying68 cells68
theorem U69 : type_of% (aa @Tryz.underlying69 cells69) := aa @Tryz.underlying69 cells69
theorem U70 : type_of% (aa @Tryz.underlying70 cells70) := aa @Tryz.underlying70 cells70
theorem U71 : type_of% (aa @Tryz.underlying71 cells71) := aa @Tryz.underlying71 cells71
theorem U72 : type_of% (aa @Tryz.underlying72 cells72) := aa @Tryz.underlying72 cells72
theorem U73 : type_of% (aa @Tryz.underlying73 cells73) := aa @Tryz.underlying73 cells73
theorem U74 : type_of% (aa @Tryz.underlying74 cells74) := aa @Tryz.underlying74 cells74
theorem U75 : type_of% (aa @Tryz.underlying75 cells75) := aa @Tryz.underlying75 cells75
theorem U76 : type_of% (aa @Tryz.underlying76 cells76) := aa @Tryz.underlying76 cells76
theorem U77 : type_of% (aa @Tryz.underlying77 cells77) := aa @Tryz.underlying77 cells77
theorem U78 : type_of% (aa @Tryz.underlying78 cells78) := aa @Tryz.underlying78 cells78
theorem U79 : type_of% (aa @Tryz.underlying79 cells79) := aa @Tryz.underlying79 cells79
theorem U80 : type_of% (aa @Tryz.underlying80 cells80) := aa @Tryz.underlying80 cells80
theorem U81 : type_of% (aa @Tryz.underlying81 cells81) := aa @Tryz.underlying81 cells81
theorem U82 : type_of% (aa @Tryz.underlying82 cells82) := aa @Tryz.underlying82 cells82
theorem U83 : type_of% (aa @Tryz.underlying83 cells83) := aa @Tryz.underlying83 cells83
theorem U84 : type_of% (aa @Tryz.underlying84 cells84) := aa @Tryz.underlying84 cells84
theorem U86 : type_of% (aa @Tryz.underlying86 cells86) := aa @Tryz.underlying86 cells86
theorem U87 : type_of% (aa @Tryz.underlying87 cells87) := aa @Tryz.underlying87 cells87
theorem U88 : type_of% (aa @Tryz.underlying88 cells88) := aa @Tryz.underlying88 cells88
theorem U89 : type_of% (aa @Tryz.underlying89 cells89) := aa @Tryz.underlying89 cells89
theorem U90 : type_of% (aa @Tryz.underlying90 cells90) := aa @Tryz.underlying90 cells90
theorem U92 : type_of% (aa @Tryz.underlying92 cells92) := aa @Tryz.underlying92 cells92
theorem U93 : type_of% (aa @Tryz.underlying93 cells93) := aa @Tryz.underlying93 cells93
theorem U95 : type_of% (aa @Tryz.underlying95 cells95) := aa @Tryz.underlying95 cells95
theorem U96 : type_of% (aa @Tryz.underlying96 cells96) := aa @Tryz.underlying96 cells96
theorem U97 : type_of% (aa @Tryz.underlying97 cells97) := aa @Tryz.underlying97 cells97
theorem U98 : type_of% (aa @Tryz.underlying98 cells98) := aa @Tryz.underlying98 cells98
theorem U99 : type_of% (aa @Tryz.underlying99 cells99) := aa @Tryz.underlying99 cells99
theorem U100 : type_of% (aa @Tryz.underlying100 cells100) := aa @Tryz.underlying100 cells100
theorem U101 : type_of% (aa @Tryz.underlying101 cells101) := aa @Tryz.underlying101 cells101
theorem U102 : type_of% (aa @Tryz.underlying102 cells102) := aa @Tryz.underlying102 cells102
theorem U103 : type_of% (aa @Tryz.underlying103 cells103) := aa @Tryz.underlying103 cells103
theorem U104 : type_of% (aa @Tryz.underlying104 cells104) := aa @Tryz.underlying104 cells104
theorem U105 : type_of% (aa @Tryz.underlying105 cells105) := aa @Tryz.underlying105 cells105
theorem U106 : type_of% (aa @Tryz.underlying106 cells106) := aa @Tryz.underlying106 cells106
theorem U107 : type_of% (aa @Tryz.underlying107 cells107) := aa @Tryz.underlying107 cells107
theorem U108 : type_of% (aa @Tryz.underlying108 cells108) := aa @Tryz.underlying108 cells108
theorem U109 : type_of% (aa @Tryz.underlying109 cells109) := aa @Tryz.underlying109 cells109
theorem U110 : type_of% (aa @Tryz.underlying110 cells110) := aa @Tryz.underlying110 cells110
theorem U111 : type_of% (aa @Tryz.underlying111 cells111) := aa @Tryz.underlying111 cells111
theorem U113 : type_of% (aa @Tryz.underlying113 cells113) := aa @Tryz.underlying113 cells113
theorem U114 : type_of% (aa @Tryz.underlying114 cells114) := aa @Tryz.underlying114 cells114
theorem U115 : type_of% (aa @Tryz.underlying115 cells115) := aa @Tryz.underlying115 cells115
theorem U116 : type_of% (aa @Tryz.underlying116 cells116) := aa @Tryz.underlying116 cells116
theorem U117 : type_of% (aa @Tryz.underlying117 cells117) := aa @Tryz.underlying117 cells117
theorem U118 : type_of% (aa @Tryz.underlying118 cells118) := aa @Tryz.underlying118 cells118
theorem U119 : type_of% (aa @Tryz.underlying119 cells119) := aa @Tryz.underlying119 cells119
theorem U120 : type_of% (aa @Tryz.underlying120 cells120) := aa @Tryz.underlying120 cells120
theorem U121 : type_of% (aa @Tryz.underlying121 cells121) := aa @Tryz.underlying121 cells121
theorem U122 : type_of% (aa @Tryz.underlying122 cells122) := aa @Tryz.underlying122 cells122
theorem U123 : type_of% (aa @Tryz.underlying123 cells123) := aa @Tryz.underlying123 cells123
theorem U124 : type_of% (aa @Tryz.underlying124 cells124) := aa @Tryz.underlying124 cells124
theorem U125 : type_of% (aa @Tryz.underlying125 cells125) := aa @Tryz.underlying125 cells125
theorem U126 : type_of% (aa @Tryz.underlying126 cells126) := aa @Tryz.underlying126 cells126
theorem U127 : type_of% (aa @Tryz.underlying127 cells127) := aa @Tryz.underlying127 cells127
theorem U128 : type_of% (aa @Tryz.underlying128 cells128) := aa @Tryz.underlying128 cells128
theorem U129 : type_of% (aa @Tryz.underlying129 cells129) := aa @Tryz.underlying129 cells129
theorem U130 : type_of% (aa @Tryz.underlying130 cells130) := aa @Tryz.underlying130 cells130
theorem U131 : type_of% (aa @Tryz.underlying131 cells131) := aa @Tryz.underlying131 cells131
theorem U132 : type_of% (aa @Tryz.underlying132 cells132) := aa @Tryz.underlying132 cells132
theorem U133 : type_of% (aa @Tryz.underlying133 cells133) := aa @Tryz.underlying133 cells133
theorem U134 : type_of% (aa @Tryz.underlying134 cells134) := aa @Tryz.underlying134 cells134
theorem U135 : type_of% (aa @Tryz.underlying135 cells135) := aa @Tryz.underlying135 cells135
theorem U136 : type_of% (aa @Tryz.underlying136 cells136) := aa @Tryz.underlying136 cells136
theorem U137 : type_of% (aa @Tryz.underlying137 cells137) := aa @Tryz.underlying137 cells137
theorem U138 : type_of% (aa @Tryz.underlying138 cells138) := aa @Tryz.underlying138 cells138
theorem U139 : type_of% (aa @Tryz.underlying139 cells139) := aa @Tryz.underlying139 cells139
theorem U140 : type_of% (aa @Tryz.underlying140 cells140) := aa @Tryz.underlying140 cells140
theorem U141 : type_of% (aa @Tryz.underlying141 cells141) := aa @Tryz.underlying141 cells141
theorem U142 : type_of% (aa @Tryz.underlying142 cells142) := aa @Tryz.underlying142 cells142
theorem U143 : type_of% (aa @Tryz.underlying143 cells143) := aa @Tryz.underlying143 cells143
theorem U144 : type_of% (aa @Tryz.underlying144 cells144) := aa @Tryz.underlying144 cells144
theorem U145 : type_of% (aa @Tryz.underlying145 cells145) := aa @Tryz.underlying145 cells145
theorem U146 : type_of% (aa @Tryz.underlying146 cells146) := aa @Tryz.underlying146 cells146
theorem U147 : type_of% (aa @Tryz.underlying147 cells147) := aa @Tryz.underlying147 cells147
theorem U148 : type_of% (aa @Tryz.underlying148 cells148) := aa @Tryz.underlying148 cells148
theorem U149 : type_of% (aa @Tryz.underlying149 cells149) := aa @Tryz.underlying149 cells149
theorem U150 : type_of% (aa @Tryz.underlying150 cells150) := aa @Tryz.underlying150 cells150
theorem U151 : type_of% (aa @Tryz.underlying151 cells151) := aa @Tryz.underlying151 cells151
theorem U152 : type_of% (aa @Tryz.underlying152 cells152) := aa @Tryz.underlying152 cells152
theorem U153 : type_of% (aa @Tryz.underlying153 cells153) := aa @Tryz.underlying153 cells153
theorem U155 : type_of% (aa @Tryz.underlying155 cells155) := aa @Tryz.underlying155 cells155
theorem U156 : type_of% (aa @Tryz.underlying156 cells156) := aa @Tryz.underlying156 cells156
theorem U157 : type_of% (aa @Tryz.underlying157 cells157) := aa @Tryz.underlying157 cells157
theorem U158 : type_of% (aa @Tryz.underlying158 cells158) := aa @Tryz.underlying158 cells158
theorem U159 : type_of% (aa @Tryz.underlying159 cells159) := aa @Tryz.underlying159 cells159
theorem U160 : type_of% (aa @Tryz.underlying160 cells160) := aa @Tryz.underlying160 cells160
theorem U161 : type_of% (aa @Tryz.underlying161 cells161) := aa @Tryz.underlying161 cells161
theorem U162 : type_of% (aa @Tryz.underlying162 cells162) := aa @Tryz.underlying162 cells162
theorem U164 : type_of% (aa @Tryz.underlying164 cells164) := aa @Tryz.underlying164 cells164
theorem U165 : type_of% (aa @Tryz.underlying165 cells165) := aa @Tryz.underlying165 cells165
theorem U166 : type_of% (aa @Tryz.underlying166 cells166) := aa @Tryz.underlying166 cells166
theorem U168 : type_of% (aa @Tryz.underlying168 cells168) := aa @Tryz.underlying168 cells168
theorem U169 : type_of% (aa @Tryz.underlying169 cells169) := aa @Tryz.underlying169 cells169
theorem U170 : type_of% (aa @Tryz.underlying170 cells170) := aa @Tryz.underlying170 cells170
theorem U171 : type_of% (aa @Tryz.underlying171 cells171) := aa @Tryz.underlying171 cells171
theorem U172 : type_of% (aa @Tryz.underlying172 cells172) := aa @Tryz.underlying172 cells172
theorem U173 : type_of% (aa @Tryz.underlying173 cells173) := aa @Tryz.underlying173 cells173
theorem U175 : type_of% (aa @Tryz.underlying175 cells175) := aa @Tryz.underlying175 cells175
theorem U177 : type_of% (aa @Tryz.underlying177 cells177) := aa @Tryz.underlying177 cells177
theorem U178 : type_of% (aa @Tryz.underlying178 cells178) := aa @Tryz.underlying178 cells178
theorem U179 : type_of% (aa @Tryz.underlying179 cells179) := aa @Tryz.underlying179 cells179
theorem U180 : type_of% (aa @Tryz.underlying180 cells180) := aa @Tryz.underlying180 cells180
theorem U181 : type_of% (aa @Tryz.underlying181 cells181) := aa @Tryz.underlying181 cells181
theorem U182 : type_of% (aa @Tryz.underlying182 cells182) := aa @Tryz.underlying182 cells182
theorem U183 : type_of% (aa @Tryz.underlying183 cells183) := aa @Tryz.underlying183 cells183
theorem U184 : type_of% (aa @Tryz.underlying184 cells184) := aa @Tryz.underlying184 cells184
theorem U185 : type_of% (aa @Tryz.underlying185 cells185) := aa @Tryz.underlying185 cells185
theorem U186 : type_of% (aa @Tryz.underlying186 cells186) := aa @Tryz.underlying186 cells186
theorem U187 : type_of% (aa @Tryz.underlying187 cells187) := aa @Tryz.underlying187 cells187
theorem U188 : type_of% (aa @Tryz.underlying188 cells188) := aa @Tryz.underlying188 cells188
theorem U189 : type_of% (aa @Tryz.underlying189 cells189) := aa @Tryz.underlying189 cells189
theorem U190 : type_of% (aa @Tryz.underlying190 cells190) := aa @Tryz.underlying190 cells190
theorem U191 : type_of% (aa @Tryz.underlying191 cells191) := aa @Tryz.underlying191 cells191
theorem U192 : type_of% (aa @Tryz.underlying192 cells192) := aa @Tryz.underlying192 cells192
theorem U193 : type_of% (aa @Tryz.underlying193 cells193) := aa @Tryz.underlying193 cells193
theorem U194 : type_of% (aa @Tryz.underlying194 cells194) := aa @Tryz.underlying194 cells194
theorem U195 : type_of% (aa @Tryz.underlying195 cells195) := aa @Tryz.underlying195 cells195
theorem U196 : type_of% (aa @Tryz.underlying196 cells196) := aa @Tryz.underlying196 cells196
theorem U197 : type_of% (aa @Tryz.underlying197 cells197) := aa @Tryz.underlying197 cells197
theorem U198 : type_of% (aa @Tryz.underlying198 cells198) := aa @Tryz.underlying198 cells198
theorem U199 : type_of% (aa @Tryz.underlying199 cells199) := aa @Tryz.underlying199 cells199
theorem UT : type_of% (aa (aa (aa (aa (aa (aa (aa U1 U2) (aa U3 (aa U4 U5))) (aa (aa U6 (aa U7 U8)) (aa U9 (aa U10 U11)))) (aa (aa (aa U12 (aa U13 U14)) (aa U15 (aa U16 U17))) (aa (aa U18 (aa U19 U21)) (aa U22 (aa U23 U24))))) (aa (aa (aa (aa U25 U26) (aa U27 (aa U28 U29))) (aa (aa U30 (aa U31 U32)) (aa U33 (aa U34 U35)))) (aa (aa (aa U36 (aa U38 U39)) (aa U41 (aa U42 U43))) (aa (aa U44 (aa U45 U47)) (aa U48 (aa U49 U50)))))) (aa (aa (aa (aa (aa U51 U52) (aa U53 (aa U54 U55))) (aa (aa U56 (aa U57 U59)) (aa U60 (aa U61 U62)))) (aa (aa (aa U63 (aa U64 U65)) (aa U66 (aa U67 U68))) (aa (aa U69 (aa U70 U71)) (aa U72 (aa U73 U74))))) (aa (aa (aa (aa U75 U76) (aa U77 (aa U78 U79))) (aa (aa U80 (aa U81 U82)) (aa U83 (aa U84 U86)))) (aa (aa (aa U87 (aa U88 U89)) (aa U90 (aa U92 U93))) (aa (aa U95 (aa U96 U97)) (aa U98 (aa U99 U100))))))) (aa (aa (aa (aa (aa (aa U101 U102) (aa U103 (aa U104 U105))) (aa (aa U106 (aa U107 U108)) (aa U109 (aa U110 U111)))) (aa (aa (aa U113 (aa U114 U115)) (aa U116 (aa U117 U118))) (aa (aa U119 (aa U120 U121)) (aa U122 (aa U123 U124))))) (aa (aa (aa (aa U125 U126) (aa U127 (aa U128 U129))) (aa (aa U130 (aa U131 U132)) (aa U133 (aa U134 U135)))) (aa (aa (aa U136 (aa U137 U138)) (aa U139 (aa U140 U141))) (aa (aa U142 (aa U143 U144)) (aa U145 (aa U146 U147)))))) (aa (aa (aa (aa (aa U148 U149) (aa U150 (aa U151 U152))) (aa (aa U153 (aa U155 U156)) (aa U157 (aa U158 U159)))) (aa (aa (aa U160 (aa U161 U162)) (aa U164 (aa U165 U166))) (aa (aa U168 (aa U169 U170)) (aa U171 (aa U172 U173))))) (aa (aa (aa (aa U175 (aa U177 U178)) (aa U179 (aa U180 U181))) (aa (aa U182 (aa U183 U184)) (aa U185 (aa U186 U187)))) (aa (aa (aa U188 (aa U189 U190)) (aa U191 (aa U192 U193))) (aa (aa U194 (aa U195 U196)) (aa U197 (aa U198 U199)))))))) := aa (aa (aa (aa (aa (aa (aa U1 U2) (aa U3 (aa U4 U5))) (aa (aa U6 (aa U7 U8)) (aa U9 (aa U10 U11)))) (aa (aa (aa U12 (aa U13 U14)) (aa U15 (aa U16 U17))) (aa (aa U18 (aa U19 U21)) (aa U22 (aa U23 U24))))) (aa (aa (aa (aa U25 U26) (aa U27 (aa U28 U29))) (aa (aa U30 (aa U31 U32)) (aa U33 (aa U34 U35)))) (aa (aa (aa U36 (aa U38 U39)) (aa U41 (aa U42 U43))) (aa (aa U44 (aa U45 U47)) (aa U48 (aa U49 U50)))))) (aa (aa (aa (aa (aa U51 U52) (aa U53 (aa U54 U55))) (aa (aa U56 (aa U57 U59)) (aa U60 (aa U61 U62)))) (aa (aa (aa U63 (aa U64 U65)) (aa U66 (aa U67 U68))) (aa (aa U69 (aa U70 U71)) (aa U72 (aa U73 U74))))) (aa (aa (aa (aa U75 U76) (aa U77 (aa U78 U79))) (aa (aa U80 (aa U81 U82)) (aa U83 (aa U84 U86)))) (aa (aa (aa U87 (aa U88 U89)) (aa U90 (aa U92 U93))) (aa (aa U95 (aa U96 U97)) (aa U98 (aa U99 U100))))))) (aa (aa (aa (aa (aa (aa U101 U102) (aa U103 (aa U104 U105))) (aa (aa U106 (aa U107 U108)) (aa U109 (aa U110 U111)))) (aa (aa (aa U113 (aa U114 U115)) (aa U116 (aa U117 U118))) (aa (aa U119 (aa U120 U121)) (aa U122 (aa U123 U124))))) (aa (aa (aa (aa U125 U126) (aa U127 (aa U128 U129))) (aa (aa U130 (aa U131 U132)) (aa U133 (aa U134 U135)))) (aa (aa (aa U136 (aa U137 U138)) (aa U139 (aa U140 U141))) (aa (aa U142 (aa U143 U144)) (aa U145 (aa U146 U147)))))) (aa (aa (aa (aa (aa U148 U149) (aa U150 (aa U151 U152))) (aa (aa U153 (aa U155 U156)) (aa U157 (aa U158 U159)))) (aa (aa (aa U160 (aa U161 U162)) (aa U164 (aa U165 U166))) (aa (aa U168 (aa U169 U170)) (aa U171 (aa U172 U173))))) (aa (aa (aa (aa U175 (aa U177 U178)) (aa U179 (aa U180 U181))) (aa (aa U182 (aa U183 U184)) (aa U185 (aa U186 U187)))) (aa (aa (aa U188 (aa U189 U190)) (aa U191 (aa U192 U193))) (aa (aa U194 (aa U195 U196)) (aa U197 (aa U198 U199)))))))
def KL6 : List Nat := [0, 1, 2, 3, 4, 5, 6, 9, 10, 11, 12, 13, 14, 15, 16, 18, 19, 20, 21, 22, 23, 24, 25, 27, 29, 39, 54, 71, 77, 78, 79, 80, 116, 126, 127, 128, 129, 140, 148, 149, 150, 151, 277, 279, 280, 281, 282, 295]
theorem KE6 : KL6 = [0, 1, 2, 3, 4, 5, 6, 9, 10, 11, 12, 13, 14, 15, 16, 18, 19, 20, 21, 22, 23, 24, 25, 27, 29, 39, 54, 71, 77, 78, 79, 80, 116, 126, 127, 128, 129, 140, 148, 149, 150, 151, 277, 279, 280, 281, 282, 295] := rfl
theorem TF6 : type_of% (aa (aa (aa (aa U1 (aa U2 U3)) (aa (aa U4 U5) (aa U6 U7))) (aa (aa U8 (aa U10 U22)) (aa (aa U24 U25) (aa U26 U28)))) (aa (aa (aa U30 (aa U32 U35)) (aa (aa U36 U39) (aa U45 U54))) (aa (aa U55 (aa U57 U99)) (aa (aa U133 U144) (aa KE6 KT))))) := aa (aa (aa (aa U1 (aa U2 U3)) (aa (aa U4 U5) (aa U6 U7))) (aa (aa U8 (aa U10 U22)) (aa (aa U24 U25) (aa U26 U28)))) (aa (aa (aa U30 (aa U32 U35)) (aa (aa U36 U39) (aa U45 U54))) (aa (aa U55 (aa U57 U99)) (aa (aa U133 U144) (aa KE6 KT))))
def KL11 : List Nat := [0, 1, 2, 3, 4, 5, 6, 7, 8, 9, 11, 12, 13, 14, 15, 16, 17, 18, 19, 20, 21, 23, 24, 25, 26, 27, 29, 30, 33, 34, 35, 36, 37, 39, 40, 167, 168, 169, 170, 174]
theorem KE11 : KL11 = [0, 1, 2, 3, 4, 5, 6, 7, 8, 9, 11, 12, 13, 14, 15, 16, 17, 18, 19, 20, 21, 23, 24, 25, 26, 27, 29, 30, 33, 34, 35, 36, 37, 39, 40, 167, 168, 169, 170, 174] := rfl
theorem TF11 : type_of% (aa (aa (aa (aa U1 (aa U2 U3)) (aa (aa U4 U5) (aa U6 U7))) (aa (aa (aa U8 U9) (aa U10 U11)) (aa (aa U22 U24) (aa U25 U26)))) (aa (aa (aa (aa U28 U30) (aa U32 U35)) (aa (aa U36 U39) (aa U45 U54))) (aa (aa (aa U55 U57) (aa U71 U99)) (aa (aa U133 U144) (aa KE11 KT))))) := aa (aa (aa (aa U1 (aa U2 U3)) (aa (aa U4 U5) (aa U6 U7))) (aa (aa (aa U8 U9) (aa U10 U11)) (aa (aa U22 U24) (aa U25 U26)))) (aa (aa (aa (aa U28 U30) (aa U32 U35)) (aa (aa U36 U39) (aa U45 U54))) (aa (aa (aa U55 U57) (aa U71 U99)) (aa (aa U133 U144) (aa KE11 KT))))
def KL12 : List Nat := [0, 1, 2, 3, 4, 6, 7, 8, 9, 10, 36, 41, 45, 59, 66]
theorem KE12 : KL12 = [0, 1, 2, 3, 4, 6, 7, 8, 9, 10, 36, 41, 45, 59, 66] := rfl
theorem TF12 : type_of% (aa (aa (aa (aa U1 U2) (aa U3 (aa U4 U6))) (aa (aa U22 (aa U24 U25)) (aa U26 (aa U28 U30)))) (aa (aa (aa U32 U35) (aa U36 (aa U39 U54))) (aa (aa U55 (aa U57 U99)) (aa U133 (aa U144 KE12))))) := aa (aa (aa (aa U1 U2) (aa U3 (aa U4 U6))) (aa (aa U22 (aa U24 U25)) (aa U26 (aa U28 U30)))) (aa (aa (aa U32 U35) (aa U36 (aa U39 U54))) (aa (aa U55 (aa U57 U99)) (aa U133 (aa U144 KE12))))
def KL13 : List Nat := [0, 1, 2, 3, 4, 5, 6, 7, 8, 9, 10, 17, 22]
theorem KE13 : KL13 = [0, 1, 2, 3, 4, 5, 6, 7, 8, 9, 10, 17, 22] := rfl
theorem TF13 : type_of% (aa (aa (aa (aa U1 U2) (aa U3 (aa U4 U6))) (aa (aa U8 (aa U9 U22)) (aa U24 (aa U25 U26)))) (aa (aa (aa U28 (aa U30 U32)) (aa U35 (aa U36 U54))) (aa (aa U55 (aa U57 U99)) (aa U133 (aa U144 KE13))))) := aa (aa (aa (aa U1 U2) (aa U3 (aa U4 U6))) (aa (aa U8 (aa U9 U22)) (aa U24 (aa U25 U26)))) (aa (aa (aa U28 (aa U30 U32)) (aa U35 (aa U36 U54))) (aa (aa U55 (aa U57 U99)) (aa U133 (aa U144 KE13))))
def KL15 : List Nat := [0, 1, 2, 3, 4, 5, 6, 7, 8, 15, 28]
theorem KE15 : KL15 = [0, 1, 2, 3, 4, 5, 6, 7, 8, 15, 28] := rfl
theorem TF15 : type_of% (aa (aa (aa (aa U1 (aa U2 U3)) (aa U4 (aa U5 U6))) (aa (aa U7 (aa U22 U24)) (aa U25 (aa U26 U28)))) (aa (aa (aa U30 (aa U32 U35)) (aa U36 (aa U39 U54))) (aa (aa U55 (aa U57 U77)) (aa (aa U99 U133) (aa U144 KE15))))) := aa (aa (aa (aa U1 (aa U2 U3)) (aa U4 (aa U5 U6))) (aa (aa U7 (aa U22 U24)) (aa U25 (aa U26 U28)))) (aa (aa (aa U30 (aa U32 U35)) (aa U36 (aa U39 U54))) (aa (aa U55 (aa U57 U77)) (aa (aa U99 U133) (aa U144 KE15))))
def KL16 : List Nat := [0, 1, 2, 3, 4, 5, 6, 7, 8, 9, 10, 11, 12, 19, 32, 37, 47]
theorem KE16 : KL16 = [0, 1, 2, 3, 4, 5, 6, 7, 8, 9, 10, 11, 12, 19, 32, 37, 47] := rfl
theorem TF16 : type_of% (aa (aa (aa (aa U1 (aa U2 U3)) (aa U4 (aa U5 U6))) (aa (aa U7 (aa U22 U24)) (aa U25 (aa U26 U28)))) (aa (aa (aa U30 (aa U32 U35)) (aa U36 (aa U39 U54))) (aa (aa U55 (aa U57 U99)) (aa U133 (aa U144 KE16))))) := aa (aa (aa (aa U1 (aa U2 U3)) (aa U4 (aa U5 U6))) (aa (aa U7 (aa U22 U24)) (aa U25 (aa U26 U28)))) (aa (aa (aa U30 (aa U32 U35)) (aa U36 (aa U39 U54))) (aa (aa U55 (aa U57 U99)) (aa U133 (aa U144 KE16))))
def KL17 : List Nat := [0, 1, 4, 5, 10, 14, 25]
theorem KE17 : KL17 = [0, 1, 4, 5, 10, 14, 25] := rfl
theorem TF17 : type_of% (aa (aa U3 U4) (aa U32 (aa U39 KE17))) := aa (aa U3 U4) (aa U32 (aa U39 KE17))
def KL18 : List Nat := [0, 1, 2, 3, 4, 5, 6, 7, 8, 9, 10, 11, 12, 13, 14, 15, 16, 17, 18, 24, 30, 31, 32, 33, 48, 58]
theorem KE18 : KL18 = [0, 1, 2, 3, 4, 5, 6, 7, 8, 9, 10, 11, 12, 13, 14, 15, 16, 17, 18, 24, 30, 31, 32, 33, 48, 58] := rfl
theorem TF18 : type_of% (aa (aa (aa (aa U1 (aa U2 U3)) (aa (aa U4 U6) (aa U8 U9))) (aa (aa (aa U10 U22) (aa U24 U25)) (aa (aa U26 U28) (aa U30 U32)))) (aa (aa (aa (aa U35 U36) (aa U39 U45)) (aa (aa U54 U55) (aa U57 U76))) (aa (aa (aa U78 U79) (aa U81 U99)) (aa (aa U133 U144) (aa KE18 KT))))) := aa (aa (aa (aa U1 (aa U2 U3)) (aa (aa U4 U6) (aa U8 U9))) (aa (aa (aa U10 U22) (aa U24 U25)) (aa (aa U26 U28) (aa U30 U32)))) (aa (aa (aa (aa U35 U36) (aa U39 U45)) (aa (aa U54 U55) (aa U57 U76))) (aa (aa (aa U78 U79) (aa U81 U99)) (aa (aa U133 U144) (aa KE18 KT))))
def KL20 : List Nat := [0, 1, 2, 3, 4]
theorem KE20 : KL20 = [0, 1, 2, 3, 4] := rfl
theorem TF20 : type_of% (aa (aa (aa U1 U2) (aa U3 U4)) (aa (aa U25 U32) (aa U39 (aa U45 KE20)))) := aa (aa (aa U1 U2) (aa U3 U4)) (aa (aa U25 U32) (aa U39 (aa U45 KE20)))
def KL21 : List Nat := [0, 1, 2]
theorem KE21 : KL21 = [0, 1, 2] := rfl
theorem TF21 : type_of% (aa (aa (aa U1 U2) (aa U3 U4)) (aa (aa U25 U32) (aa U39 (aa U45 KE21)))) := aa (aa (aa U1 U2) (aa U3 U4)) (aa (aa U25 U32) (aa U39 (aa U45 KE21)))
def KL22 : List Nat := [0, 1, 2, 3, 4, 5, 6, 9, 10, 11, 12, 13, 14, 15, 16, 17, 18, 19, 20, 21, 22, 28, 44, 46, 47, 48, 49, 71, 75, 76, 77, 78, 105, 123, 124, 125, 126, 160]
theorem KE22 : KL22 = [0, 1, 2, 3, 4, 5, 6, 9, 10, 11, 12, 13, 14, 15, 16, 17, 18, 19, 20, 21, 22, 28, 44, 46, 47, 48, 49, 71, 75, 76, 77, 78, 105, 123, 124, 125, 126, 160] := rfl
theorem TF22 : type_of% (aa (aa (aa (aa U1 (aa U2 U3)) (aa U4 (aa U10 U11))) (aa (aa U22 (aa U24 U25)) (aa (aa U26 U28) (aa U30 U32)))) (aa (aa (aa U35 (aa U36 U39)) (aa (aa U45 U54) (aa U55 U57))) (aa (aa U79 (aa U81 U99)) (aa (aa U133 U144) (aa KE22 KT))))) := aa (aa (aa (aa U1 (aa U2 U3)) (aa U4 (aa U10 U11))) (aa (aa U22 (aa U24 U25)) (aa (aa U26 U28) (aa U30 U32)))) (aa (aa (aa U35 (aa U36 U39)) (aa (aa U45 U54) (aa U55 U57))) (aa (aa U79 (aa U81 U99)) (aa (aa U133 U144) (aa KE22 KT))))
def KL24 : List Nat := [0, 1, 2, 3, 4]
theorem KE24 : KL24 = [0, 1, 2, 3, 4] := rfl
theorem TF24 : type_of% (aa (aa (aa U3 (aa U4 U22)) (aa U24 (aa U25 U32))) (aa (aa U36 (aa U54 U55)) (aa (aa U57 U99) (aa U144 KE24)))) := aa (aa (aa U3 (aa U4 U22)) (aa U24 (aa U25 U32))) (aa (aa U36 (aa U54 U55)) (aa (aa U57 U99) (aa U144 KE24)))
def KL25 : List Nat := [0, 1, 2, 3, 4, 8, 9, 10, 11]
theorem KE25 : KL25 = [0, 1, 2, 3, 4, 8, 9, 10, 11] := rfl
theorem TF25 : type_of% (aa (aa (aa U1 (aa U2 U3)) (aa U4 (aa U6 U8))) (aa (aa U9 (aa U25 U26)) (aa (aa U28 U36) (aa U133 KE25)))) := aa (aa (aa U1 (aa U2 U3)) (aa U4 (aa U6 U8))) (aa (aa U9 (aa U25 U26)) (aa (aa U28 U36) (aa U133 KE25)))
def KL26 : List Nat := [0, 1, 4, 5, 9, 17]
theorem KE26 : KL26 = [0, 1, 4, 5, 9, 17] := rfl
theorem TF26 : type_of% (aa (aa U3 U4) (aa U25 KE26)) := aa (aa U3 U4) (aa U25 KE26)
def KL30 : List Nat := [0, 1, 2, 3, 4, 6, 7, 8, 12, 16, 20, 24, 37]
theorem KE30 : KL30 = [0, 1, 2, 3, 4, 6, 7, 8, 12, 16, 20, 24, 37] := rfl
theorem TF30 : type_of% (aa (aa (aa (aa U3 U4) (aa U6 U22)) (aa (aa U24 U25) (aa U26 (aa U28 U30)))) (aa (aa (aa U35 U36) (aa U54 U55)) (aa (aa U57 U99) (aa U133 (aa U144 KE30))))) := aa (aa (aa (aa U3 U4) (aa U6 U22)) (aa (aa U24 U25) (aa U26 (aa U28 U30)))) (aa (aa (aa U35 U36) (aa U54 U55)) (aa (aa U57 U99) (aa U133 (aa U144 KE30))))
def KL31 : List Nat := [0, 1, 2, 3, 4, 8, 9, 58, 93, 98, 133]
theorem KE31 : KL31 = [0, 1, 2, 3, 4, 8, 9, 58, 93, 98, 133] := rfl
theorem TF31 : type_of% (aa (aa (aa U1 (aa U2 U3)) (aa U4 (aa U5 U6))) (aa (aa U7 (aa U8 U10)) (aa U25 (aa U30 KE31)))) := aa (aa (aa U1 (aa U2 U3)) (aa U4 (aa U5 U6))) (aa (aa U7 (aa U8 U10)) (aa U25 (aa U30 KE31)))
def KL32 : List Nat := [0]
theorem KE32 : KL32 = [0] := rfl
theorem TF32 : type_of% (aa (aa (aa U1 (aa U2 U3)) (aa U4 (aa U22 U24))) (aa (aa U25 (aa U54 U55)) (aa (aa U57 U99) (aa U144 KE32)))) := aa (aa (aa U1 (aa U2 U3)) (aa U4 (aa U22 U24))) (aa (aa U25 (aa U54 U55)) (aa (aa U57 U99) (aa U144 KE32)))
def KL33 : List Nat := [0]
theorem KE33 : KL33 = [0] := rfl
theorem TF33 : type_of% (aa (aa U1 (aa U3 U25)) (aa (aa U26 U28) (aa U133 KE33))) := aa (aa U1 (aa U3 U25)) (aa (aa U26 U28) (aa U133 KE33))
def KL34 : List Nat := [0, 1, 2, 6]
theorem KE34 : KL34 = [0, 1, 2, 6] := rfl
theorem TF34 : type_of% (aa (aa (aa U2 U3) (aa U4 U5)) (aa (aa U6 U7) (aa U25 (aa U30 KE34)))) := aa (aa (aa U2 U3) (aa U4 U5)) (aa (aa U6 U7) (aa U25 (aa U30 KE34)))
def KL35 : List Nat := [0, 1, 2, 3, 4, 5, 6, 7, 16, 45, 50, 77]
theorem KE35 : KL35 = [0, 1, 2, 3, 4, 5, 6, 7, 16, 45, 50, 77] := rfl
theorem TF35 : type_of% (aa (aa (aa U1 (aa U2 U3)) (aa (aa U4 U5) (aa U22 U24))) (aa (aa U25 (aa U54 U55)) (aa (aa U57 U99) (aa U144 KE35)))) := aa (aa (aa U1 (aa U2 U3)) (aa (aa U4 U5) (aa U22 U24))) (aa (aa U25 (aa U54 U55)) (aa (aa U57 U99) (aa U144 KE35)))
def KL36 : List Nat := [0, 1, 2, 3, 4, 6, 7, 8, 9, 13, 18, 28]
theorem KE36 : KL36 = [0, 1, 2, 3, 4, 6, 7, 8, 9, 13, 18, 28] := rfl
theorem TF36 : type_of% (aa (aa (aa (aa U3 U4) (aa U6 U22)) (aa (aa U24 U25) (aa U26 (aa U28 U30)))) (aa (aa (aa U35 U36) (aa U54 (aa U55 U57))) (aa (aa U99 U100) (aa U133 (aa U144 KE36))))) := aa (aa (aa (aa U3 U4) (aa U6 U22)) (aa (aa U24 U25) (aa U26 (aa U28 U30)))) (aa (aa (aa U35 U36) (aa U54 (aa U55 U57))) (aa (aa U99 U100) (aa U133 (aa U144 KE36))))
def KL37 : List Nat := [0, 1, 2, 3, 4, 5, 6, 7, 8, 9]
theorem KE37 : KL37 = [0, 1, 2, 3, 4, 5, 6, 7, 8, 9] := rfl
theorem TF37 : type_of% (aa (aa (aa (aa U1 (aa U2 U3)) (aa U4 (aa U6 U8))) (aa (aa U22 (aa U24 U25)) (aa U26 (aa U28 U30)))) (aa (aa (aa U32 (aa U54 U55)) (aa U57 (aa U99 U103))) (aa (aa U105 (aa U106 U108)) (aa (aa U133 U144) (aa KE37 KT))))) := aa (aa (aa (aa U1 (aa U2 U3)) (aa U4 (aa U6 U8))) (aa (aa U22 (aa U24 U25)) (aa U26 (aa U28 U30)))) (aa (aa (aa U32 (aa U54 U55)) (aa U57 (aa U99 U103))) (aa (aa U105 (aa U106 U108)) (aa (aa U133 U144) (aa KE37 KT))))
def KL39 : List Nat := [0, 1, 2, 3, 4, 5, 6, 7, 8, 9, 10, 11, 13, 70, 86, 89, 100]
theorem KE39 : KL39 = [0, 1, 2, 3, 4, 5, 6, 7, 8, 9, 10, 11, 13, 70, 86, 89, 100] := rfl
theorem TF39 : type_of% (aa (aa (aa (aa U1 U2) (aa U3 (aa U4 U5))) (aa (aa U6 (aa U7 U8)) (aa U22 (aa U24 U25)))) (aa (aa (aa U26 (aa U28 U30)) (aa U32 (aa U36 U54))) (aa (aa U55 (aa U57 U99)) (aa U133 (aa U144 KE39))))) := aa (aa (aa (aa U1 U2) (aa U3 (aa U4 U5))) (aa (aa U6 (aa U7 U8)) (aa U22 (aa U24 U25)))) (aa (aa (aa U26 (aa U28 U30)) (aa U32 (aa U36 U54))) (aa (aa U55 (aa U57 U99)) (aa U133 (aa U144 KE39))))
def KL40 : List Nat := [0, 1, 2, 3, 6, 7, 8, 9, 10, 11, 15, 27, 29, 30, 31, 32, 47, 58]
theorem KE40 : KL40 = [0, 1, 2, 3, 6, 7, 8, 9, 10, 11, 15, 27, 29, 30, 31, 32, 47, 58] := rfl
theorem TF40 : type_of% (aa (aa (aa (aa U1 U2) (aa U3 (aa U4 U5))) (aa (aa U6 U7) (aa U22 (aa U24 U25)))) (aa (aa (aa U32 U36) (aa U39 (aa U54 U55))) (aa (aa U57 (aa U89 U99)) (aa U116 (aa U144 KE40))))) := aa (aa (aa (aa U1 U2) (aa U3 (aa U4 U5))) (aa (aa U6 U7) (aa U22 (aa U24 U25)))) (aa (aa (aa U32 U36) (aa U39 (aa U54 U55))) (aa (aa U57 (aa U89 U99)) (aa U116 (aa U144 KE40))))
def KL41 : List Nat := [0, 1, 4, 5, 6, 7, 12, 19, 29]
theorem KE41 : KL41 = [0, 1, 4, 5, 6, 7, 12, 19, 29] := rfl
theorem TF41 : type_of% (aa (aa U3 (aa U4 U32)) (aa U39 (aa U77 KE41))) := aa (aa U3 (aa U4 U32)) (aa U39 (aa U77 KE41))
def KL42 : List Nat := [0, 2, 4]
theorem KE42 : KL42 = [0, 2, 4] := rfl
theorem TF42 : type_of% (aa (aa U2 (aa U3 U4)) (aa U32 (aa U39 KE42))) := aa (aa U2 (aa U3 U4)) (aa U32 (aa U39 KE42))
def KL43 : List Nat := [0, 1, 2, 3, 4, 5]
theorem KE43 : KL43 = [0, 1, 2, 3, 4, 5] := rfl
theorem TF43 : type_of% (aa (aa (aa (aa U3 U4) (aa U5 U22)) (aa (aa U24 U25) (aa U26 U28))) (aa (aa (aa U30 U32) (aa U54 U55)) (aa (aa U57 U99) (aa U133 (aa U144 KE43))))) := aa (aa (aa (aa U3 U4) (aa U5 U22)) (aa (aa U24 U25) (aa U26 U28))) (aa (aa (aa U30 U32) (aa U54 U55)) (aa (aa U57 U99) (aa U133 (aa U144 KE43))))
def KL44 : List Nat := [0, 1, 2, 3, 6, 7, 8, 9, 10, 11, 12, 13, 14, 18, 30, 36, 58, 62, 77, 89]
theorem KE44 : KL44 = [0, 1, 2, 3, 6, 7, 8, 9, 10, 11, 12, 13, 14, 18, 30, 36, 58, 62, 77, 89] := rfl
theorem TF44 : type_of% (aa (aa (aa (aa U1 U2) (aa U3 U4)) (aa (aa U5 U6) (aa U7 (aa U22 U24)))) (aa (aa (aa U25 U32) (aa U36 (aa U39 U54))) (aa (aa U55 U57) (aa U99 (aa U144 KE44))))) := aa (aa (aa (aa U1 U2) (aa U3 U4)) (aa (aa U5 U6) (aa U7 (aa U22 U24)))) (aa (aa (aa U25 U32) (aa U36 (aa U39 U54))) (aa (aa U55 U57) (aa U99 (aa U144 KE44))))
def KL45 : List Nat := [0, 1, 2, 3, 4, 5, 6, 7, 9, 10, 12, 13, 14, 15, 16, 26, 30, 35, 36, 37, 38, 62, 84]
theorem KE45 : KL45 = [0, 1, 2, 3, 4, 5, 6, 7, 9, 10, 12, 13, 14, 15, 16, 26, 30, 35, 36, 37, 38, 62, 84] := rfl
theorem TF45 : type_of% (aa (aa (aa (aa U1 U3) (aa U4 (aa U9 U22))) (aa (aa U24 (aa U25 U30)) (aa U32 (aa U35 U39)))) (aa (aa (aa U54 U55) (aa U57 (aa U76 U78))) (aa (aa U79 (aa U81 U99)) (aa U144 (aa KE45 KT))))) := aa (aa (aa (aa U1 U3) (aa U4 (aa U9 U22))) (aa (aa U24 (aa U25 U30)) (aa U32 (aa U35 U39)))) (aa (aa (aa U54 U55) (aa U57 (aa U76 U78))) (aa (aa U79 (aa U81 U99)) (aa U144 (aa KE45 KT))))
def KL46 : List Nat := [0, 1, 2, 3, 4]
theorem KE46 : KL46 = [0, 1, 2, 3, 4] := rfl
theorem TF46 : type_of% (aa (aa (aa U1 U3) (aa U4 U6)) (aa (aa U25 U30) (aa U81 KE46))) := aa (aa (aa U1 U3) (aa U4 U6)) (aa (aa U25 U30) (aa U81 KE46))
def KL47 : List Nat := [0, 1, 2]
theorem KE47 : KL47 = [0, 1, 2] := rfl
theorem TF47 : type_of% (aa (aa U1 U2) (aa U3 (aa U81 KE47))) := aa (aa U1 U2) (aa U3 (aa U81 KE47))
def KL48 : List Nat := [0, 1, 4, 6, 8, 19, 20, 21, 22, 36, 37, 38, 39]
theorem KE48 : KL48 = [0, 1, 4, 6, 8, 19, 20, 21, 22, 36, 37, 38, 39] := rfl
theorem TF48 : type_of% (aa (aa (aa U1 (aa U2 U3)) (aa U4 (aa U25 U32))) (aa (aa U39 (aa U45 U79)) (aa (aa U81 U89) (aa KE48 KT)))) := aa (aa (aa U1 (aa U2 U3)) (aa U4 (aa U25 U32))) (aa (aa U39 (aa U45 U79)) (aa (aa U81 U89) (aa KE48 KT)))
def KL51 : List Nat := [0, 1, 4, 5, 10, 14, 25]
theorem KE51 : KL51 = [0, 1, 4, 5, 10, 14, 25] := rfl
theorem TF51 : type_of% (aa (aa U3 U4) (aa U25 KE51)) := aa (aa U3 U4) (aa U25 KE51)
def KL52 : List Nat := [0, 1, 2, 3, 4]
theorem KE52 : KL52 = [0, 1, 2, 3, 4] := rfl
theorem TF52 : type_of% (aa (aa (aa U1 U2) (aa U3 U4)) (aa (aa U25 U32) (aa KE52 KT))) := aa (aa (aa U1 U2) (aa U3 U4)) (aa (aa U25 U32) (aa KE52 KT))
def KL53 : List Nat := [0, 1, 2, 3, 4]
theorem KE53 : KL53 = [0, 1, 2, 3, 4] := rfl
theorem TF53 : type_of% (aa (aa U1 U3) (aa U4 (aa U32 KE53))) := aa (aa U1 U3) (aa U4 (aa U32 KE53))
def KL55 : List Nat := [0, 1, 2, 4, 6, 10, 14, 16, 17, 18, 19, 27, 30, 31, 32, 33, 42]
theorem KE55 : KL55 = [0, 1, 2, 4, 6, 10, 14, 16, 17, 18, 19, 27, 30, 31, 32, 33, 42] := rfl
theorem TF55 : type_of% (aa (aa (aa (aa U1 U2) (aa U3 U4)) (aa (aa U5 U22) (aa U24 U25))) (aa (aa (aa U36 U54) (aa U55 U57)) (aa (aa U99 U125) (aa U144 KE55)))) := aa (aa (aa (aa U1 U2) (aa U3 U4)) (aa (aa U5 U22) (aa U24 U25))) (aa (aa (aa U36 U54) (aa U55 U57)) (aa (aa U99 U125) (aa U144 KE55)))
def KL56 : List Nat := [0, 1, 2, 3, 4, 5, 6, 7, 21]
theorem KE56 : KL56 = [0, 1, 2, 3, 4, 5, 6, 7, 21] := rfl
theorem TF56 : type_of% (aa (aa (aa (aa U1 U2) (aa U3 U4)) (aa (aa U5 U22) (aa U24 U25))) (aa (aa (aa U32 U36) (aa U54 U55)) (aa (aa U57 U99) (aa U144 KE56)))) := aa (aa (aa (aa U1 U2) (aa U3 U4)) (aa (aa U5 U22) (aa U24 U25))) (aa (aa (aa U32 U36) (aa U54 U55)) (aa (aa U57 U99) (aa U144 KE56)))
def KL57 : List Nat := [0, 1, 2, 3, 4, 8, 9, 10, 11, 15, 39]
theorem KE57 : KL57 = [0, 1, 2, 3, 4, 8, 9, 10, 11, 15, 39] := rfl
theorem TF57 : type_of% (aa (aa (aa U1 (aa U2 U3)) (aa (aa U4 U6) (aa U8 U9))) (aa (aa (aa U10 U25) (aa U26 U28)) (aa (aa U36 U133) (aa KE57 KT)))) := aa (aa (aa U1 (aa U2 U3)) (aa (aa U4 U6) (aa U8 U9))) (aa (aa (aa U10 U25) (aa U26 U28)) (aa (aa U36 U133) (aa KE57 KT)))
def KL58 : List Nat := [0, 2, 4, 5, 6, 7, 8]
theorem KE58 : KL58 = [0, 2, 4, 5, 6, 7, 8] := rfl
theorem TF58 : type_of% (aa (aa U2 U3) (aa U25 KE58)) := aa (aa U2 U3) (aa U25 KE58)
def KL59 : List Nat := [0, 1, 2, 3, 4, 5, 9, 17, 22, 33, 38, 55]
theorem KE59 : KL59 = [0, 1, 2, 3, 4, 5, 9, 17, 22, 33, 38, 55] := rfl
theorem TF59 : type_of% (aa (aa (aa U1 (aa U2 U3)) (aa (aa U4 U5) (aa U22 U24))) (aa (aa (aa U25 U36) (aa U54 U55)) (aa (aa U57 U99) (aa U144 KE59)))) := aa (aa (aa U1 (aa U2 U3)) (aa (aa U4 U5) (aa U22 U24))) (aa (aa (aa U25 U36) (aa U54 U55)) (aa (aa U57 U99) (aa U144 KE59)))
def KL60 : List Nat := [0, 1, 2, 3, 4, 29, 34, 52, 57, 96]
theorem KE60 : KL60 = [0, 1, 2, 3, 4, 29, 34, 52, 57, 96] := rfl
theorem TF60 : type_of% (aa (aa (aa U1 U2) (aa U3 (aa U4 U25))) (aa (aa U26 U28) (aa U36 (aa U133 KE60)))) := aa (aa (aa U1 U2) (aa U3 (aa U4 U25))) (aa (aa U26 U28) (aa U36 (aa U133 KE60)))
def KL61 : List Nat := [0, 1, 2, 3, 4, 5, 49]
theorem KE61 : KL61 = [0, 1, 2, 3, 4, 5, 49] := rfl
theorem TF61 : type_of% (aa (aa (aa U1 (aa U2 U3)) (aa U4 (aa U25 U26))) (aa (aa U28 (aa U36 U111)) (aa U133 (aa U134 KE61)))) := aa (aa (aa U1 (aa U2 U3)) (aa U4 (aa U25 U26))) (aa (aa U28 (aa U36 U111)) (aa U133 (aa U134 KE61)))
def KL62 : List Nat := [0, 1, 2, 3, 4]
theorem KE62 : KL62 = [0, 1, 2, 3, 4] := rfl
theorem TF62 : type_of% (aa (aa (aa U3 (aa U4 U22)) (aa (aa U24 U25) (aa U26 U28))) (aa (aa (aa U30 U54) (aa U55 U57)) (aa (aa U99 U133) (aa U144 KE62)))) := aa (aa (aa U3 (aa U4 U22)) (aa (aa U24 U25) (aa U26 U28))) (aa (aa (aa U30 U54) (aa U55 U57)) (aa (aa U99 U133) (aa U144 KE62)))
def KL63 : List Nat := [0, 1, 2, 3, 4, 5, 8, 9, 11, 57, 58, 59, 60, 65]
theorem KE63 : KL63 = [0, 1, 2, 3, 4, 5, 8, 9, 11, 57, 58, 59, 60, 65] := rfl
theorem TF63 : type_of% (aa (aa (aa (aa U1 U2) (aa U3 U4)) (aa (aa U5 U6) (aa U7 (aa U8 U9)))) (aa (aa (aa U10 U11) (aa U25 U30)) (aa (aa U33 U137) (aa U138 (aa KE63 KT))))) := aa (aa (aa (aa U1 U2) (aa U3 U4)) (aa (aa U5 U6) (aa U7 (aa U8 U9)))) (aa (aa (aa U10 U11) (aa U25 U30)) (aa (aa U33 U137) (aa U138 (aa KE63 KT))))
def KL64 : List Nat := [0, 1, 4]
theorem KE64 : KL64 = [0, 1, 4] := rfl
theorem TF64 : type_of% (aa (aa U3 (aa U4 U25)) (aa (aa U30 U35) (aa U100 KE64))) := aa (aa U3 (aa U4 U25)) (aa (aa U30 U35) (aa U100 KE64))
def KL65 : List Nat := [0, 1, 4]
theorem KE65 : KL65 = [0, 1, 4] := rfl
theorem TF65 : type_of% (aa (aa U3 (aa U4 U105)) (aa U106 (aa U108 KE65))) := aa (aa U3 (aa U4 U105)) (aa U106 (aa U108 KE65))
def KL66 : List Nat := [0]
theorem KE66 : KL66 = [0] := rfl
theorem TF66 : type_of% (aa (aa (aa U1 U2) (aa U3 U4)) (aa (aa U5 U6) (aa U105 (aa U106 KE66)))) := aa (aa (aa U1 U2) (aa U3 U4)) (aa (aa U5 U6) (aa U105 (aa U106 KE66)))
def KL67 : List Nat := [0, 1, 3]
theorem KE67 : KL67 = [0, 1, 3] := rfl
theorem TF67 : type_of% (aa (aa (aa (aa U3 U4) (aa U25 U26)) (aa (aa U28 U30) (aa U32 U54))) (aa (aa (aa U55 U57) (aa U99 U103)) (aa (aa U106 U133) (aa U144 KE67)))) := aa (aa (aa (aa U3 U4) (aa U25 U26)) (aa (aa U28 U30) (aa U32 U54))) (aa (aa (aa U55 U57) (aa U99 U103)) (aa (aa U106 U133) (aa U144 KE67)))
def KL69 : List Nat := [0, 1, 2, 3, 4, 9]
theorem KE69 : KL69 = [0, 1, 2, 3, 4, 9] := rfl
theorem TF69 : type_of% (aa (aa (aa U1 U2) (aa U3 (aa U4 U25))) (aa (aa U54 (aa U55 U57)) (aa U99 (aa U144 KE69)))) := aa (aa (aa U1 U2) (aa U3 (aa U4 U25))) (aa (aa U54 (aa U55 U57)) (aa U99 (aa U144 KE69)))
def KL70 : List Nat := [0, 1, 4, 5, 8]
theorem KE70 : KL70 = [0, 1, 4, 5, 8] := rfl
theorem TF70 : type_of% (aa U3 (aa U4 KE70)) := aa U3 (aa U4 KE70)
def KL71 : List Nat := [0, 1, 2, 3, 4, 8, 9, 10, 17]
theorem KE71 : KL71 = [0, 1, 2, 3, 4, 8, 9, 10, 17] := rfl
theorem TF71 : type_of% (aa (aa (aa U1 (aa U2 U3)) (aa U4 (aa U6 U8))) (aa (aa U9 (aa U25 U26)) (aa (aa U28 U36) (aa U133 KE71)))) := aa (aa (aa U1 (aa U2 U3)) (aa U4 (aa U6 U8))) (aa (aa U9 (aa U25 U26)) (aa (aa U28 U36) (aa U133 KE71)))
def KL73 : List Nat := [0, 1, 2, 4, 5, 6, 7]
theorem KE73 : KL73 = [0, 1, 2, 4, 5, 6, 7] := rfl
theorem TF73 : type_of% (aa (aa U1 (aa U3 U4)) (aa (aa U32 U39) (aa U116 KE73))) := aa (aa U1 (aa U3 U4)) (aa (aa U32 U39) (aa U116 KE73))
def KL74 : List Nat := [0, 1, 2, 3, 4, 5, 6]
theorem KE74 : KL74 = [0, 1, 2, 3, 4, 5, 6] := rfl
theorem TF74 : type_of% (aa (aa (aa U3 U6) (aa U25 (aa U54 U55))) (aa (aa U57 (aa U99 U115)) (aa U116 (aa U144 KE74)))) := aa (aa (aa U3 U6) (aa U25 (aa U54 U55))) (aa (aa U57 (aa U99 U115)) (aa U116 (aa U144 KE74)))
def KL76 : List Nat := [0, 1, 2, 3, 4]
theorem KE76 : KL76 = [0, 1, 2, 3, 4] := rfl
theorem TF76 : type_of% (aa (aa (aa U1 U2) (aa U3 U4)) (aa (aa U25 U32) (aa KE76 KT))) := aa (aa (aa U1 U2) (aa U3 U4)) (aa (aa U25 U32) (aa KE76 KT))
def KL77 : List Nat := [0, 2, 3, 5, 6, 7, 8, 9, 14]
theorem KE77 : KL77 = [0, 2, 3, 5, 6, 7, 8, 9, 14] := rfl
theorem TF77 : type_of% (aa (aa U2 U3) (aa U4 (aa U25 KE77))) := aa (aa U2 U3) (aa U4 (aa U25 KE77))
def KL78 : List Nat := [0, 1, 4, 5, 6, 11, 12, 13, 16, 19]
theorem KE78 : KL78 = [0, 1, 4, 5, 6, 11, 12, 13, 16, 19] := rfl
theorem TF78 : type_of% (aa U3 (aa U4 KE78)) := aa U3 (aa U4 KE78)
def KL79 : List Nat := [0, 1, 4, 5, 7, 8, 9, 16]
theorem KE79 : KL79 = [0, 1, 4, 5, 7, 8, 9, 16] := rfl
theorem TF79 : type_of% (aa (aa U3 (aa U4 U32)) (aa U39 (aa U77 KE79))) := aa (aa U3 (aa U4 U32)) (aa U39 (aa U77 KE79))
def KL81 : List Nat := [0, 1, 3, 4, 5, 6, 18]
theorem KE81 : KL81 = [0, 1, 3, 4, 5, 6, 18] := rfl
theorem TF81 : type_of% (aa (aa U1 (aa U3 U4)) (aa (aa U32 U39) (aa KE81 KT))) := aa (aa U1 (aa U3 U4)) (aa (aa U32 U39) (aa KE81 KT))
def KL82 : List Nat := [0, 2, 3, 4, 5, 8, 13, 25, 32, 44]
theorem KE82 : KL82 = [0, 2, 3, 4, 5, 8, 13, 25, 32, 44] := rfl
theorem TF82 : type_of% (aa (aa U2 (aa U3 U4)) (aa U32 (aa U39 KE82))) := aa (aa U2 (aa U3 U4)) (aa U32 (aa U39 KE82))
def KL83 : List Nat := [0, 1, 3, 4, 5, 7, 8, 9, 16]
theorem KE83 : KL83 = [0, 1, 3, 4, 5, 7, 8, 9, 16] := rfl
theorem TF83 : type_of% (aa (aa U3 U4) (aa U32 (aa U39 KE83))) := aa (aa U3 U4) (aa U32 (aa U39 KE83))
def KL85 : List Nat := [0, 1, 2, 6]
theorem KE85 : KL85 = [0, 1, 2, 6] := rfl
theorem TF85 : type_of% (aa (aa U3 U4) (aa U6 KE85)) := aa (aa U3 U4) (aa U6 KE85)
def KL86 : List Nat := [0, 1, 2, 4, 13, 14, 15, 16, 21]
theorem KE86 : KL86 = [0, 1, 2, 4, 13, 14, 15, 16, 21] := rfl
theorem TF86 : type_of% (aa (aa (aa U1 (aa U2 U3)) (aa (aa U4 U25) (aa U33 U54))) (aa (aa U55 (aa U57 U99)) (aa (aa U125 U138) (aa U144 KE86)))) := aa (aa (aa U1 (aa U2 U3)) (aa (aa U4 U25) (aa U33 U54))) (aa (aa U55 (aa U57 U99)) (aa (aa U125 U138) (aa U144 KE86)))
def KL88 : List Nat := [0, 1, 2, 4, 5]
theorem KE88 : KL88 = [0, 1, 2, 4, 5] := rfl
theorem TF88 : type_of% (aa (aa (aa U1 U3) (aa U4 (aa U25 U54))) (aa (aa U55 U57) (aa U99 (aa U144 KE88)))) := aa (aa (aa U1 U3) (aa U4 (aa U25 U54))) (aa (aa U55 U57) (aa U99 (aa U144 KE88)))
def KL89 : List Nat := [0, 1, 4, 5, 6, 7, 8, 10, 26, 37]
theorem KE89 : KL89 = [0, 1, 4, 5, 6, 7, 8, 10, 26, 37] := rfl
theorem TF89 : type_of% (aa (aa (aa U1 U3) (aa U4 U9)) (aa (aa U25 U151) (aa KE89 KT))) := aa (aa (aa U1 U3) (aa U4 U9)) (aa (aa U25 U151) (aa KE89 KT))
def KL90 : List Nat := [0, 1, 2, 3, 4, 6, 9, 11, 15]
theorem KE90 : KL90 = [0, 1, 2, 3, 4, 6, 9, 11, 15] := rfl
theorem TF90 : type_of% (aa (aa (aa U1 U2) (aa U3 (aa U4 U25))) (aa (aa U26 U28) (aa U133 (aa U157 KE90)))) := aa (aa (aa U1 U2) (aa U3 (aa U4 U25))) (aa (aa U26 U28) (aa U133 (aa U157 KE90)))
def KL91 : List Nat := [0, 1, 2, 4, 5, 6, 7, 44, 47, 77, 81, 97]
theorem KE91 : KL91 = [0, 1, 2, 4, 5, 6, 7, 44, 47, 77, 81, 97] := rfl
theorem TF91 : type_of% (aa (aa (aa U1 U2) (aa U3 (aa U4 U25))) (aa (aa U54 (aa U55 U57)) (aa U99 (aa U144 KE91)))) := aa (aa (aa U1 U2) (aa U3 (aa U4 U25))) (aa (aa U54 (aa U55 U57)) (aa U99 (aa U144 KE91)))
def KL93 : List Nat := [0, 2]
theorem KE93 : KL93 = [0, 2] := rfl
theorem TF93 : type_of% (aa (aa U2 U3) (aa U4 KE93)) := aa (aa U2 U3) (aa U4 KE93)
def KL94 : List Nat := [1, 4]
theorem KE94 : KL94 = [1, 4] := rfl
theorem TF94 : type_of% (aa U3 (aa U4 KE94)) := aa U3 (aa U4 KE94)
def KL95 : List Nat := [0, 1, 2, 3, 5, 6, 7, 9]
theorem KE95 : KL95 = [0, 1, 2, 3, 5, 6, 7, 9] := rfl
theorem TF95 : type_of% (aa (aa (aa U1 U2) (aa U3 (aa U4 U6))) (aa (aa U25 (aa U26 U28)) (aa U111 (aa U133 KE95)))) := aa (aa (aa U1 U2) (aa U3 (aa U4 U6))) (aa (aa U25 (aa U26 U28)) (aa U111 (aa U133 KE95)))
def KL96 : List Nat := [0, 1, 4, 5, 6, 7, 8, 9, 10, 18]
theorem KE96 : KL96 = [0, 1, 4, 5, 6, 7, 8, 9, 10, 18] := rfl
theorem TF96 : type_of% (aa (aa U3 U4) (aa U25 (aa U111 KE96))) := aa (aa U3 U4) (aa U25 (aa U111 KE96))
def KL97 : List Nat := [0, 1, 4, 5, 6, 7, 8, 9, 10, 18]
theorem KE97 : KL97 = [0, 1, 4, 5, 6, 7, 8, 9, 10, 18] := rfl
theorem TF97 : type_of% (aa (aa U3 (aa U4 U26)) (aa U133 (aa U134 KE97))) := aa (aa U3 (aa U4 U26)) (aa U133 (aa U134 KE97))
def KL98 : List Nat := [0, 1, 2, 3, 4]
theorem KE98 : KL98 = [0, 1, 2, 3, 4] := rfl
theorem TF98 : type_of% (aa (aa U3 U4) (aa U33 KE98)) := aa (aa U3 U4) (aa U33 KE98)
def KL99 : List Nat := [0, 1, 2]
theorem KE99 : KL99 = [0, 1, 2] := rfl
theorem TF99 : type_of% (aa (aa U2 U3) (aa U4 KE99)) := aa (aa U2 U3) (aa U4 KE99)
def KL100 : List Nat := [0, 1]
theorem KE100 : KL100 = [0, 1] := rfl
theorem TF100 : type_of% (aa (aa U1 (aa U2 U3)) (aa (aa U4 U25) (aa U30 KE100))) := aa (aa U1 (aa U2 U3)) (aa (aa U4 U25) (aa U30 KE100))
def KL101 : List Nat := [0, 1, 2, 3, 5, 7, 8, 9, 10, 20]
theorem KE101 : KL101 = [0, 1, 2, 3, 5, 7, 8, 9, 10, 20] := rfl
theorem TF101 : type_of% (aa (aa (aa U2 U3) (aa U4 U6)) (aa (aa U8 U25) (aa U30 KE101))) := aa (aa (aa U2 U3) (aa U4 U6)) (aa (aa U8 U25) (aa U30 KE101))
def KL102 : List Nat := [0, 1, 4, 5, 7, 8, 9, 16]
theorem KE102 : KL102 = [0, 1, 4, 5, 7, 8, 9, 16] := rfl
theorem TF102 : type_of% (aa (aa U3 (aa U4 U25)) (aa (aa U30 U35) (aa U100 KE102))) := aa (aa U3 (aa U4 U25)) (aa (aa U30 U35) (aa U100 KE102))
def KL103 : List Nat := [0, 1, 4, 5, 7, 8, 9, 16]
theorem KE103 : KL103 = [0, 1, 4, 5, 7, 8, 9, 16] := rfl
theorem TF103 : type_of% (aa (aa U3 (aa U4 U105)) (aa U106 (aa U108 KE103))) := aa (aa U3 (aa U4 U105)) (aa U106 (aa U108 KE103))
def KL104 : List Nat := [0, 1, 2]
theorem KE104 : KL104 = [0, 1, 2] := rfl
theorem TF104 : type_of% (aa (aa (aa (aa U1 U2) (aa U3 U4)) (aa (aa U25 U26) (aa U28 U30))) (aa (aa (aa U32 U54) (aa U55 U57)) (aa (aa U99 U103) (aa U133 (aa U144 KE104))))) := aa (aa (aa (aa U1 U2) (aa U3 U4)) (aa (aa U25 U26) (aa U28 U30))) (aa (aa (aa U32 U54) (aa U55 U57)) (aa (aa U99 U103) (aa U133 (aa U144 KE104))))
def KL105 : List Nat := [0, 1, 2]
theorem KE105 : KL105 = [0, 1, 2] := rfl
theorem TF105 : type_of% (aa (aa (aa (aa U1 U2) (aa U3 U4)) (aa (aa U25 U26) (aa U28 U30))) (aa (aa (aa U32 U54) (aa U55 U57)) (aa (aa U99 U103) (aa U133 (aa U144 KE105))))) := aa (aa (aa (aa U1 U2) (aa U3 U4)) (aa (aa U25 U26) (aa U28 U30))) (aa (aa (aa U32 U54) (aa U55 U57)) (aa (aa U99 U103) (aa U133 (aa U144 KE105))))
def KL106 : List Nat := [0, 1, 2]
theorem KE106 : KL106 = [0, 1, 2] := rfl
theorem TF106 : type_of% (aa (aa (aa (aa U1 U2) (aa U3 U4)) (aa (aa U5 U25) (aa U26 (aa U28 U30)))) (aa (aa (aa U32 U54) (aa U55 U57)) (aa (aa U99 U103) (aa U133 (aa U144 KE106))))) := aa (aa (aa (aa U1 U2) (aa U3 U4)) (aa (aa U5 U25) (aa U26 (aa U28 U30)))) (aa (aa (aa U32 U54) (aa U55 U57)) (aa (aa U99 U103) (aa U133 (aa U144 KE106))))
def KL107 : List Nat := [0, 1, 2, 3]
theorem KE107 : KL107 = [0, 1, 2, 3] := rfl
theorem TF107 : type_of% (aa (aa (aa (aa U1 U2) (aa U3 (aa U4 U6))) (aa (aa U7 U25) (aa U26 (aa U28 U30)))) (aa (aa (aa U32 U36) (aa U54 (aa U55 U57))) (aa (aa U99 U103) (aa U133 (aa U144 KE107))))) := aa (aa (aa (aa U1 U2) (aa U3 (aa U4 U6))) (aa (aa U7 U25) (aa U26 (aa U28 U30)))) (aa (aa (aa U32 U36) (aa U54 (aa U55 U57))) (aa (aa U99 U103) (aa U133 (aa U144 KE107))))
def KL108 : List Nat := [0, 1, 2]
theorem KE108 : KL108 = [0, 1, 2] := rfl
theorem TF108 : type_of% (aa (aa (aa (aa U1 U2) (aa U3 U4)) (aa (aa U6 U25) (aa U26 (aa U28 U30)))) (aa (aa (aa U32 U54) (aa U55 U57)) (aa (aa U99 U103) (aa U133 (aa U144 KE108))))) := aa (aa (aa (aa U1 U2) (aa U3 U4)) (aa (aa U6 U25) (aa U26 (aa U28 U30)))) (aa (aa (aa U32 U54) (aa U55 U57)) (aa (aa U99 U103) (aa U133 (aa U144 KE108))))
def KL109 : List Nat := [0, 1, 2]
theorem KE109 : KL109 = [0, 1, 2] := rfl
theorem TF109 : type_of% (aa (aa (aa (aa U1 U2) (aa U3 U4)) (aa (aa U25 U26) (aa U28 (aa U30 U32)))) (aa (aa (aa U54 U55) (aa U57 U99)) (aa (aa U103 U131) (aa U133 (aa U144 KE109))))) := aa (aa (aa (aa U1 U2) (aa U3 U4)) (aa (aa U25 U26) (aa U28 (aa U30 U32)))) (aa (aa (aa U54 U55) (aa U57 U99)) (aa (aa U103 U131) (aa U133 (aa U144 KE109))))
def KL110 : List Nat := [0, 1, 4]
theorem KE110 : KL110 = [0, 1, 4] := rfl
theorem TF110 : type_of% (aa (aa U3 U4) (aa U25 (aa U131 KE110))) := aa (aa U3 U4) (aa U25 (aa U131 KE110))
def KL111 : List Nat := [0, 1, 3]
theorem KE111 : KL111 = [0, 1, 3] := rfl
theorem TF111 : type_of% (aa (aa (aa (aa U2 U3) (aa U4 U6)) (aa (aa U8 U25) (aa U26 (aa U28 U30)))) (aa (aa (aa U32 U54) (aa U55 U57)) (aa (aa U99 U103) (aa U133 (aa U144 KE111))))) := aa (aa (aa (aa U2 U3) (aa U4 U6)) (aa (aa U8 U25) (aa U26 (aa U28 U30)))) (aa (aa (aa U32 U54) (aa U55 U57)) (aa (aa U99 U103) (aa U133 (aa U144 KE111))))
def KL112 : List Nat := [0, 1, 4]
theorem KE112 : KL112 = [0, 1, 4] := rfl
theorem TF112 : type_of% (aa (aa U3 U4) (aa U25 KE112)) := aa (aa U3 U4) (aa U25 KE112)
def KL113 : List Nat := [0, 1, 2, 3, 4, 8, 11, 36]
theorem KE113 : KL113 = [0, 1, 2, 3, 4, 8, 11, 36] := rfl
theorem TF113 : type_of% (aa (aa (aa U2 U3) (aa U4 (aa U6 U8))) (aa (aa U25 (aa U26 U28)) (aa U36 (aa U133 KE113)))) := aa (aa (aa U2 U3) (aa U4 (aa U6 U8))) (aa (aa U25 (aa U26 U28)) (aa U36 (aa U133 KE113)))
def KL114 : List Nat := [0, 1, 2, 4, 5, 6, 11, 21]
theorem KE114 : KL114 = [0, 1, 2, 4, 5, 6, 11, 21] := rfl
theorem TF114 : type_of% (aa (aa (aa U1 U2) (aa U3 U4)) (aa (aa U25 U26) (aa U28 (aa U133 KE114)))) := aa (aa (aa U1 U2) (aa U3 U4)) (aa (aa U25 U26) (aa U28 (aa U133 KE114)))
def KL116 : List Nat := [0, 1, 2, 3, 6, 7, 8, 9, 10, 11, 28]
theorem KE116 : KL116 = [0, 1, 2, 3, 6, 7, 8, 9, 10, 11, 28] := rfl
theorem TF116 : type_of% (aa (aa (aa U1 (aa U2 U3)) (aa (aa U4 U25) (aa U32 U54))) (aa (aa U55 (aa U57 U77)) (aa (aa U99 U144) (aa KE116 KT)))) := aa (aa (aa U1 (aa U2 U3)) (aa (aa U4 U25) (aa U32 U54))) (aa (aa U55 (aa U57 U77)) (aa (aa U99 U144) (aa KE116 KT)))
def KL119 : List Nat := [0, 2]
theorem KE119 : KL119 = [0, 2] := rfl
theorem TF119 : type_of% (aa (aa U2 U3) (aa U4 KE119)) := aa (aa U2 U3) (aa U4 KE119)
def KL121 : List Nat := [0, 1, 2]
theorem KE121 : KL121 = [0, 1, 2] := rfl
theorem TF121 : type_of% (aa (aa (aa U1 (aa U2 U3)) (aa U4 (aa U25 U54))) (aa (aa U55 (aa U57 U99)) (aa U125 (aa U144 KE121)))) := aa (aa (aa U1 (aa U2 U3)) (aa U4 (aa U25 U54))) (aa (aa U55 (aa U57 U99)) (aa U125 (aa U144 KE121)))
def KL122 : List Nat := [0, 1, 2]
theorem KE122 : KL122 = [0, 1, 2] := rfl
theorem TF122 : type_of% (aa (aa (aa U2 U3) (aa U4 (aa U25 U54))) (aa (aa U55 (aa U57 U99)) (aa U125 (aa U144 KE122)))) := aa (aa (aa U2 U3) (aa U4 (aa U25 U54))) (aa (aa U55 (aa U57 U99)) (aa U125 (aa U144 KE122)))
def KL123 : List Nat := [0, 1, 2, 3, 5, 11, 12, 13, 14, 28]
theorem KE123 : KL123 = [0, 1, 2, 3, 5, 11, 12, 13, 14, 28] := rfl
theorem TF123 : type_of% (aa (aa (aa U1 (aa U2 U3)) (aa U4 (aa U25 U54))) (aa (aa U55 (aa U57 U99)) (aa (aa U125 U144) (aa U173 KE123)))) := aa (aa (aa U1 (aa U2 U3)) (aa U4 (aa U25 U54))) (aa (aa U55 (aa U57 U99)) (aa (aa U125 U144) (aa U173 KE123)))
def KL124 : List Nat := [0, 1, 2]
theorem KE124 : KL124 = [0, 1, 2] := rfl
theorem TF124 : type_of% (aa (aa (aa U1 (aa U2 U3)) (aa U4 (aa U25 U54))) (aa (aa U55 (aa U57 U99)) (aa (aa U125 U131) (aa U144 KE124)))) := aa (aa (aa U1 (aa U2 U3)) (aa U4 (aa U25 U54))) (aa (aa U55 (aa U57 U99)) (aa (aa U125 U131) (aa U144 KE124)))
def KL125 : List Nat := [0, 1, 4, 5, 7, 10, 11, 12, 13]
theorem KE125 : KL125 = [0, 1, 4, 5, 7, 10, 11, 12, 13] := rfl
theorem TF125 : type_of% (aa (aa U1 U3) (aa U4 (aa U25 KE125))) := aa (aa U1 U3) (aa U4 (aa U25 KE125))
def KL126 : List Nat := [0, 1, 4, 5, 6, 7, 8, 9]
theorem KE126 : KL126 = [0, 1, 4, 5, 6, 7, 8, 9] := rfl
theorem TF126 : type_of% (aa (aa U1 (aa U4 U5)) (aa (aa U151 U170) (aa U172 KE126))) := aa (aa U1 (aa U4 U5)) (aa (aa U151 U170) (aa U172 KE126))
def KL127 : List Nat := [0, 1, 2]
theorem KE127 : KL127 = [0, 1, 2] := rfl
theorem TF127 : type_of% (aa (aa U2 (aa U3 U26)) (aa (aa U133 U156) (aa U157 KE127))) := aa (aa U2 (aa U3 U26)) (aa (aa U133 U156) (aa U157 KE127))
def KL128 : List Nat := [0, 1, 4, 5, 7, 8, 9, 16]
theorem KE128 : KL128 = [0, 1, 4, 5, 7, 8, 9, 16] := rfl
theorem TF128 : type_of% (aa (aa U3 U4) (aa U25 (aa U131 KE128))) := aa (aa U3 U4) (aa U25 (aa U131 KE128))
def KL129 : List Nat := [0, 1, 4, 5, 7, 8, 9, 16]
theorem KE129 : KL129 = [0, 1, 4, 5, 7, 8, 9, 16] := rfl
theorem TF129 : type_of% (aa (aa U3 U4) (aa U25 KE129)) := aa (aa U3 U4) (aa U25 KE129)
def KL144 : List Nat := [0, 2]
theorem KE144 : KL144 = [0, 2] := rfl
theorem TF144 : type_of% (aa (aa U2 U3) (aa U4 KE144)) := aa (aa U2 U3) (aa U4 KE144)
def KL146 : List Nat := [0, 1, 4, 5, 6, 7, 8, 9, 10, 11, 12, 13]
theorem KE146 : KL146 = [0, 1, 4, 5, 6, 7, 8, 9, 10, 11, 12, 13] := rfl
theorem TF146 : type_of% (aa (aa U4 U5) (aa U151 (aa U172 KE146))) := aa (aa U4 U5) (aa U151 (aa U172 KE146))
def KL147 : List Nat := [0, 1, 3, 8, 18]
theorem KE147 : KL147 = [0, 1, 3, 8, 18] := rfl
theorem TF147 : type_of% (aa (aa U3 (aa U4 U26)) (aa U133 (aa U134 KE147))) := aa (aa U3 (aa U4 U26)) (aa U133 (aa U134 KE147))
theorem jw : type_of% (@jW Tryz.prog mixed) := @jW Tryz.prog mixed
end Go.Proofs.YthengmdnikaooaaGreat
