import Derived.Test.YtbfhenoiienghaaGreatProg
import Derived.Test.YtbfhenoiienghaaGreatReFk
import Derived.KernelRfl
namespace Go.Proofs.YtbfhenoiienghaaGreat
open Go Go.Fk
theorem mixed : Tryz.prog.follows .mixedOrders = true := by kernel_rfl
theorem cells1 : Tryz.prog.cellsOf 1 = 1 := by kernel_rfl
theorem cells2 : Tryz.prog.cellsOf 2 = 1 := by kernel_rfl
theorem cells3 : Tryz.prog.cellsOf 3 = 1 := by kernel_rfl
theorem cells4 : Tryz.prog.cellsOf 4 = 1 := by kernel_rfl
theorem cells5 : Tryz.prog.cellsOf 5 = 1 := by kernel_rfl
theorem cells6 : Tryz.prog.cellsOf 6 = 1 := by kernel_rfl
theorem cells7 : Tryz.prog.cellsOf 7 = 4 := by kernel_rfl
theorem cells8 : Tryz.prog.cellsOf 8 = 4 := by kernel_rfl
theorem cells9 : Tryz.prog.cellsOf 9 = 1 := by kernel_rfl
theorem cells10 : Tryz.prog.cellsOf 10 = 1 := by kernel_rfl
theorem cells11 : Tryz.prog.cellsOf 11 = 1 := by kernel_rfl
theorem cells12 : Tryz.prog.cellsOf 12 = 1 := by kernel_rfl
theorem cells13 : Tryz.prog.cellsOf 13 = 2 := by kernel_rfl
theorem cells14 : Tryz.prog.cellsOf 14 = 2 := by kernel_rfl
theorem cells15 : Tryz.prog.cellsOf 15 = 1 := by kernel_rfl
theorem cells16 : Tryz.prog.cellsOf 16 = 1 := by kernel_rfl
theorem cells17 : Tryz.prog.cellsOf 17 = 1 := by kernel_rfl
theorem cells18 : Tryz.prog.cellsOf 18 = 1 := by kernel_rfl
theorem cells19 : Tryz.prog.cellsOf 19 = 1 := by kernel_rfl
theorem cells21 : Tryz.prog.cellsOf 21 = 1 := by kernel_rfl
theorem cells22 : Tryz.prog.cellsOf 22 = 1 := by kernel_rfl
theorem cells23 : Tryz.prog.cellsOf 23 = 2 := by kernel_rfl
theorem cells24 : Tryz.prog.cellsOf 24 = 2 := by kernel_rfl
theorem cells25 : Tryz.prog.cellsOf 25 = 1 := by kernel_rfl
theorem cells26 : Tryz.prog.cellsOf 26 = 1 := by kernel_rfl
theorem cells27 : Tryz.prog.cellsOf 27 = 3 := by kernel_rfl
theorem cells28 : Tryz.prog.cellsOf 28 = 3 := by kernel_rfl
theorem cells29 : Tryz.prog.cellsOf 29 = 1 := by kernel_rfl
theorem cells30 : Tryz.prog.cellsOf 30 = 1 := by kernel_rfl
theorem cells31 : Tryz.prog.cellsOf 31 = 3 := by kernel_rfl
theorem cells32 : Tryz.prog.cellsOf 32 = 3 := by kernel_rfl
theorem cells33 : Tryz.prog.cellsOf 33 = 1 := by kernel_rfl
theorem cells34 : Tryz.prog.cellsOf 34 = 1 := by kernel_rfl
theorem cells35 : Tryz.prog.cellsOf 35 = 1 := by kernel_rfl
theorem cells37 : Tryz.prog.cellsOf 37 = 1 := by kernel_rfl
theorem cells38 : Tryz.prog.cellsOf 38 = 1 := by kernel_rfl
theorem cells39 : Tryz.prog.cellsOf 39 = 1 := by kernel_rfl
theorem cells41 : Tryz.prog.cellsOf 41 = 1 := by kernel_rfl
theorem cells42 : Tryz.prog.cellsOf 42 = 1 := by kernel_rfl
theorem cells43 : Tryz.prog.cellsOf 43 = 1 := by kernel_rfl
theorem cells45 : Tryz.prog.cellsOf 45 = 1 := by kernel_rfl
theorem cells46 : Tryz.prog.cellsOf 46 = 1 := by kernel_rfl
theorem cells47 : Tryz.prog.cellsOf 47 = 11 := by kernel_rfl
theorem cells48 : Tryz.prog.cellsOf 48 = 11 := by kernel_rfl
theorem cells49 : Tryz.prog.cellsOf 49 = 3 := by kernel_rfl
theorem cells50 : Tryz.prog.cellsOf 50 = 3 := by kernel_rfl
theorem cells52 : Tryz.prog.cellsOf 52 = 1 := by kernel_rfl
theorem cells53 : Tryz.prog.cellsOf 53 = 1 := by kernel_rfl
theorem cells54 : Tryz.prog.cellsOf 54 = 1 := by kernel_rfl
theorem cells55 : Tryz.prog.cellsOf 55 = 6 := by kernel_rfl
theorem cells56 : Tryz.prog.cellsOf 56 = 6 := by kernel_rfl
theorem cells57 : Tryz.prog.cellsOf 57 = 1 := by kernel_rfl
theorem cells58 : Tryz.prog.cellsOf 58 = 1 := by kernel_rfl
theorem cells59 : Tryz.prog.cellsOf 59 = 1 := by kernel_rfl
theorem cells60 : Tryz.prog.cellsOf 60 = 1 := by kernel_rfl
theorem cells61 : Tryz.prog.cellsOf 61 = 1 := by kernel_rfl
theorem cells62 : Tryz.prog.cellsOf 62 = 1 := by kernel_rfl
theorem cells63 : Tryz.prog.cellsOf 63 = 1 := by kernel_rfl
theorem cells64 : Tryz.prog.cellsOf 64 = 6 := by kernel_rfl
theorem cells65 : Tryz.prog.cellsOf 65 = 6 := by kernel_rfl
theorem cells67 : Tryz.prog.cellsOf 67 = 1 := by kernel_rfl
theorem cells68 : Tryz.prog.cellsOf 68 = 1 := by kernel_rfl
theorem cells69 : Tryz.prog.cellsOf 69 = 1 := by kernel_rfl
theorem cells70 : Tryz.prog.cellsOf 70 = 1 := by kernel_rfl
theorem cells71 : Tryz.prog.cellsOf 71 = 1 := by kernel_rfl
theorem cells72 : Tryz.prog.cellsOf 72 = 1 := by kernel_rfl
theorem cells73 : Tryz.prog.cellsOf 73 = 1 := by kernel_rfl
theorem cells74 : Tryz.prog.cellsOf 74 = 1 := by kernel_rfl
theorem cells75 : Tryz.prog.cellsOf 75 = 1 := by kernel_rfl
theorem cells76 : Tryz.prog.cellsOf 76 = 1 := by kernel_rfl
theorem cells77 : Tryz.prog.cellsOf 77 = 1 := by kernel_rfl
theorem cells78 : Tryz.prog.cellsOf 78 = 1 := by kernel_rfl
theorem cells80 : Tryz.prog.cellsOf 80 = 1 := by kernel_rfl
theorem cells81 : Tryz.prog.cellsOf 81 = 1 := by kernel_rfl
theorem cells82 : Tryz.prog.cellsOf 82 = 1 := by kernel_rfl
theorem cells84 : Tryz.prog.cellsOf 84 = 1 := by kernel_rfl
theorem cells86 : Tryz.prog.cellsOf 86 = 1 := by kernel_rfl
theorem cells88 : Tryz.prog.cellsOf 88 = 1 := by kernel_rfl
theorem cells89 : Tryz.prog.cellsOf 89 = 1 := by kernel_rfl
theorem cells90 : Tryz.prog.cellsOf 90 = 1 := by kernel_rfl
theorem cells91 : Tryz.prog.cellsOf 91 = 1 := by kernel_rfl
theorem cells92 : Tryz.prog.cellsOf 92 = 1 := by kernel_rfl
theorem cells93 : Tryz.prog.cellsOf 93 = 1 := by kernel_rfl
theorem cells94 : Tryz.prog.cellsOf 94 = 1 := by kernel_rfl
theorem cells95 : Tryz.prog.cellsOf 95 = 1 := by kernel_rfl
theorem cells96 : Tryz.prog.cellsOf 96 = 1 := by kernel_rfl
theorem cells97 : Tryz.prog.cellsOf 97 = 1 := by kernel_rfl
theorem cells98 : Tryz.prog.cellsOf 98 = 2 := by kernel_rfl
theorem cells99 : Tryz.prog.cellsOf 99 = 2 := by kernel_rfl
theorem cells100 : Tryz.prog.cellsOf 100 = 1 := by kernel_rfl
theorem cells101 : Tryz.prog.cellsOf 101 = 1 := by kernel_rfl
theorem cells103 : Tryz.prog.cellsOf 103 = 1 := by kernel_rfl
theorem cells104 : Tryz.prog.cellsOf 104 = 1 := by kernel_rfl
theorem cells105 : Tryz.prog.cellsOf 105 = 1 := by kernel_rfl
theorem cells106 : Tryz.prog.cellsOf 106 = 1 := by kernel_rfl
theorem cells108 : Tryz.prog.cellsOf 108 = 1 := by kernel_rfl
theorem cells110 : Tryz.prog.cellsOf 110 = 1 := by kernel_rfl
theorem cells111 : Tryz.prog.cellsOf 111 = 1 := by kernel_rfl
theorem cells112 : Tryz.prog.cellsOf 112 = 6 := by kernel_rfl
theorem cells113 : Tryz.prog.cellsOf 113 = 6 := by kernel_rfl
theorem cells114 : Tryz.prog.cellsOf 114 = 8 := by kernel_rfl
theorem cells115 : Tryz.prog.cellsOf 115 = 8 := by kernel_rfl
theorem cells117 : Tryz.prog.cellsOf 117 = 1 := by kernel_rfl
theorem cells118 : Tryz.prog.cellsOf 118 = 1 := by kernel_rfl
theorem cells119 : Tryz.prog.cellsOf 119 = 1 := by kernel_rfl
theorem cells120 : Tryz.prog.cellsOf 120 = 1 := by kernel_rfl
theorem cells121 : Tryz.prog.cellsOf 121 = 1 := by kernel_rfl
theorem cells122 : Tryz.prog.cellsOf 122 = 1 := by kernel_rfl
theorem cells123 : Tryz.prog.cellsOf 123 = 1 := by kernel_rfl
theorem cells124 : Tryz.prog.cellsOf 124 = 1 := by kernel_rfl
theorem cells125 : Tryz.prog.cellsOf 125 = 1 := by kernel_rfl
theorem cells126 : Tryz.prog.cellsOf 126 = 1 := by kernel_rfl
theorem cells128 : Tryz.prog.cellsOf 128 = 1 := by kernel_rfl
theorem cells129 : Tryz.prog.cellsOf 129 = 1 := by kernel_rfl
theorem cells130 : Tryz.prog.cellsOf 130 = 1 := by kernel_rfl
theorem cells131 : Tryz.prog.cellsOf 131 = 3 := by kernel_rfl
theorem cells132 : Tryz.prog.cellsOf 132 = 3 := by kernel_rfl
theorem cells133 : Tryz.prog.cellsOf 133 = 1 := by kernel_rfl
theorem cells134 : Tryz.prog.cellsOf 134 = 1 := by kernel_rfl
theorem cells135 : Tryz.prog.cellsOf 135 = 1 := by kernel_rfl
theorem cells136 : Tryz.prog.cellsOf 136 = 1 := by kernel_rfl
theorem cells137 : Tryz.prog.cellsOf 137 = 1 := by kernel_rfl
theorem cells138 : Tryz.prog.cellsOf 138 = 2 := by kernel_rfl
theorem cells139 : Tryz.prog.cellsOf 139 = 2 := by kernel_rfl
theorem cells141 : Tryz.prog.cellsOf 141 = 1 := by kernel_rfl
theorem cells142 : Tryz.prog.cellsOf 142 = 1 := by kernel_rfl
theorem cells143 : Tryz.prog.cellsOf 143 = 1 := by kernel_rfl
theorem cells144 : Tryz.prog.cellsOf 144 = 1 := by kernel_rfl
theorem cells145 : Tryz.prog.cellsOf 145 = 1 := by kernel_rfl
theorem cells146 : Tryz.prog.cellsOf 146 = 1 := by kernel_rfl
theorem cells147 : Tryz.prog.cellsOf 147 = 1 := by kernel_rfl
theorem cells148 : Tryz.prog.cellsOf 148 = 1 := by kernel_rfl
theorem cells149 : Tryz.prog.cellsOf 149 = 1 := by kernel_rfl
theorem cells150 : Tryz.prog.cellsOf 150 = 1 := by kernel_rfl
theorem cells151 : Tryz.prog.cellsOf 151 = 1 := by kernel_rfl
theorem cells152 : Tryz.prog.cellsOf 152 = 23 := by kernel_rfl
theorem cells153 : Tryz.prog.cellsOf 153 = 23 := by kernel_rfl
theorem cells154 : Tryz.prog.cellsOf 154 = 1 := by kernel_rfl
theorem cells155 : Tryz.prog.cellsOf 155 = 1 := by kernel_rfl
theorem cells156 : Tryz.prog.cellsOf 156 = 1 := by kernel_rfl
theorem cells157 : Tryz.prog.cellsOf 157 = 1 := by kernel_rfl
theorem cells158 : Tryz.prog.cellsOf 158 = 1 := by kernel_rfl
theorem cells159 : Tryz.prog.cellsOf 159 = 1 := by kernel_rfl
theorem cells160 : Tryz.prog.cellsOf 160 = 1 := by kernel_rfl
theorem cells161 : Tryz.prog.cellsOf 161 = 1 := by kernel_rfl
theorem cells162 : Tryz.prog.cellsOf 162 = 1 := by kernel_rfl
theorem cells163 : Tryz.prog.cellsOf 163 = 1 := by kernel_rfl
theorem cells164 : Tryz.prog.cellsOf 164 = 1 := by kernel_rfl
theorem cells165 : Tryz.prog.cellsOf 165 = 1 := by kernel_rfl
theorem cells166 : Tryz.prog.cellsOf 166 = 1 := by kernel_rfl
theorem cells167 : Tryz.prog.cellsOf 167 = 1 := by kernel_rfl
theorem cells168 : Tryz.prog.cellsOf 168 = 1 := by kernel_rfl
theorem cells169 : Tryz.prog.cellsOf 169 = 1 := by kernel_rfl
theorem cells170 : Tryz.prog.cellsOf 170 = 1 := by kernel_rfl
theorem cells171 : Tryz.prog.cellsOf 171 = 1 := by kernel_rfl
theorem cells172 : Tryz.prog.cellsOf 172 = 1 := by kernel_rfl
theorem cells173 : Tryz.prog.cellsOf 173 = 1 := by kernel_rfl
theorem cells174 : Tryz.prog.cellsOf 174 = 7 := by kernel_rfl
theorem cells175 : Tryz.prog.cellsOf 175 = 7 := by kernel_rfl
theorem cells176 : Tryz.prog.cellsOf 176 = 1 := by kernel_rfl
theorem cells177 : Tryz.prog.cellsOf 177 = 2 := by kernel_rfl
theorem cells178 : Tryz.prog.cellsOf 178 = 2 := by kernel_rfl
theorem cells179 : Tryz.prog.cellsOf 179 = 1 := by kernel_rfl
theorem cells180 : Tryz.prog.cellsOf 180 = 1 := by kernel_rfl
theorem cells181 : Tryz.prog.cellsOf 181 = 1 := by kernel_rfl
theorem cells182 : Tryz.prog.cellsOf 182 = 1 := by kernel_rfl
theorem cells183 : Tryz.prog.cellsOf 183 = 1 := by kernel_rfl
theorem cells184 : Tryz.prog.cellsOf 184 = 1 := by kernel_rfl
theorem cells185 : Tryz.prog.cellsOf 185 = 1 := by kernel_rfl
theorem cells186 : Tryz.prog.cellsOf 186 = 1 := by kernel_rfl
theorem cells187 : Tryz.prog.cellsOf 187 = 1 := by kernel_rfl
theorem cells188 : Tryz.prog.cellsOf 188 = 1 := by kernel_rfl
theorem cells189 : Tryz.prog.cellsOf 189 = 1 := by kernel_rfl
theorem cells190 : Tryz.prog.cellsOf 190 = 1 := by kernel_rfl
theorem cells192 : Tryz.prog.cellsOf 192 = 1 := by kernel_rfl
theorem cells193 : Tryz.prog.cellsOf 193 = 1 := by kernel_rfl
theorem cells194 : Tryz.prog.cellsOf 194 = 1 := by kernel_rfl
theorem cells195 : Tryz.prog.cellsOf 195 = 1 := by kernel_rfl
theorem cells196 : Tryz.prog.cellsOf 196 = 1 := by kernel_rfl
theorem cells197 : Tryz.prog.cellsOf 197 = 2 := by kernel_rfl
theorem cells198 : Tryz.prog.cellsOf 198 = 2 := by kernel_rfl
theorem cells199 : Tryz.prog.cellsOf 199 = 1 := by kernel_rfl
theorem cells200 : Tryz.prog.cellsOf 200 = 1 := by kernel_rfl
theorem cells201 : Tryz.prog.cellsOf 201 = 1 := by kernel_rfl
theorem cells202 : Tryz.prog.cellsOf 202 = 1 := by kernel_rfl
theorem cells203 : Tryz.prog.cellsOf 203 = 1 := by kernel_rfl
theorem cells204 : Tryz.prog.cellsOf 204 = 1 := by kernel_rfl
theorem cells205 : Tryz.prog.cellsOf 205 = 1 := by kernel_rfl
theorem cells206 : Tryz.prog.cellsOf 206 = 1 := by kernel_rfl
theorem cells207 : Tryz.prog.cellsOf 207 = 1 := by kernel_rfl
theorem cells208 : Tryz.prog.cellsOf 208 = 1 := by kernel_rfl
theorem cells209 : Tryz.prog.cellsOf 209 = 1 := by kernel_rfl
theorem cells210 : Tryz.prog.cellsOf 210 = 1 := by kernel_rfl
theorem cells211 : Tryz.prog.cellsOf 211 = 1 := by kernel_rfl
theorem cells212 : Tryz.prog.cellsOf 212 = 1 := by kernel_rfl
theorem cells213 : Tryz.prog.cellsOf 213 = 1 := by kernel_rfl
theorem cells215 : Tryz.prog.cellsOf 215 = 1 := by kernel_rfl
theorem cells216 : Tryz.prog.cellsOf 216 = 1 := by kernel_rfl
theorem cells218 : Tryz.prog.cellsOf 218 = 1 := by kernel_rfl
theorem cells219 : Tryz.prog.cellsOf 219 = 1 := by kernel_rfl
theorem cells220 : Tryz.prog.cellsOf 220 = 1 := by kernel_rfl
theorem cells222 : Tryz.prog.cellsOf 222 = 1 := by kernel_rfl
theorem cells223 : Tryz.prog.cellsOf 223 = 1 := by kernel_rfl
theorem cells224 : Tryz.prog.cellsOf 224 = 1 := by kernel_rfl
theorem cells226 : Tryz.prog.cellsOf 226 = 1 := by kernel_rfl
theorem cells227 : Tryz.prog.cellsOf 227 = 1 := by kernel_rfl
theorem cells228 : Tryz.prog.cellsOf 228 = 1 := by kernel_rfl
theorem cells229 : Tryz.prog.cellsOf 229 = 1 := by kernel_rfl
theorem cells230 : Tryz.prog.cellsOf 230 = 1 := by kernel_rfl
theorem cells231 : Tryz.prog.cellsOf 231 = 1 := by kernel_rfl
theorem cells232 : Tryz.prog.cellsOf 232 = 1 := by kernel_rfl
theorem cells233 : Tryz.prog.cellsOf 233 = 1 := by kernel_rfl
theorem cells234 : Tryz.prog.cellsOf 234 = 1 := by kernel_rfl
theorem cells235 : Tryz.prog.cellsOf 235 = 1 := by kernel_rfl
theorem cells236 : Tryz.prog.cellsOf 236 = 1 := by kernel_rfl
theorem cells237 : Tryz.prog.cellsOf 237 = 1 := by kernel_rfl
theorem cells238 : Tryz.prog.cellsOf 238 = 1 := by kernel_rfl
theorem cells239 : Tryz.prog.cellsOf 239 = 1 := by kernel_rfl
theorem cells240 : Tryz.prog.cellsOf 240 = 1 := by kernel_rfl
theorem cells241 : Tryz.prog.cellsOf 241 = 4 := by kernel_rfl
theorem cells242 : Tryz.prog.cellsOf 242 = 4 := by kernel_rfl
theorem cells243 : Tryz.prog.cellsOf 243 = 0 := by kernel_rfl
theorem cells244 : Tryz.prog.cellsOf 244 = 0 := by kernel_rfl
theorem cells245 : Tryz.prog.cellsOf 245 = 0 := by kernel_rfl
theorem cells246 : Tryz.prog.cellsOf 246 = 1 := by kernel_rfl
theorem cells247 : Tryz.prog.cellsOf 247 = 1 := by kernel_rfl
theorem cells248 : Tryz.prog.cellsOf 248 = 1 := by kernel_rfl
theorem cells249 : Tryz.prog.cellsOf 249 = 1 := by kernel_rfl
theorem cells250 : Tryz.prog.cellsOf 250 = 1 := by kernel_rfl
theorem cells251 : Tryz.prog.cellsOf 251 = 1 := by kernel_rfl
theorem cells252 : Tryz.prog.cellsOf 252 = 11 := by kernel_rfl
theorem cells253 : Tryz.prog.cellsOf 253 = 11 := by kernel_rfl
theorem ti3 : TI Tryz.prog 3 (.int .i64 0) 1 8 := ⟨by kernel_rfl⟩
theorem ti4 : TI Tryz.prog 4 (.bool false) 1 1 := ⟨by kernel_rfl⟩
theorem ti24 : TI Tryz.prog 24 (.agg #[.int .i64 0, .slice none 0 0]) 2 32 := ⟨by kernel_rfl⟩
theorem ti25 : TI Tryz.prog 25 (.slice none 0 0) 1 24 := ⟨by kernel_rfl⟩
theorem ti28 : TI Tryz.prog 28 (.agg #[.slice none 0 0, .slice none 0 0, .slice none 0 0]) 3 72 := ⟨by kernel_rfl⟩
theorem ti30 : TI Tryz.prog 30 (.slice none 0 0) 1 24 := ⟨by kernel_rfl⟩
theorem ti32 : TI Tryz.prog 32 (.agg #[.slice none 0 0, .slice none 0 0, .slice none 0 0]) 3 72 := ⟨by kernel_rfl⟩
theorem ti33 : TI Tryz.prog 33 (.nilFunc) 1 8 := ⟨by kernel_rfl⟩
theorem ti35 : TI Tryz.prog 35 (.int .i64 0) 1 8 := ⟨by kernel_rfl⟩
theorem ti48 : TI Tryz.prog 48 (.agg #[.int .i64 0, .int .i64 0, .int .i64 0, .int .i64 0, .int .i64 0, .int .i64 0, .int .i64 0, .int .i64 0, .slice none 0 0, .bool false, .int .i64 0]) 11 104 := ⟨by kernel_rfl⟩
theorem ti50 : TI Tryz.prog 50 (.agg #[.int .i64 0, .int .i64 0, .int .i64 0]) 3 24 := ⟨by kernel_rfl⟩
theorem ti56 : TI Tryz.prog 56 (.agg #[.slice none 0 0, .slice none 0 0, .int .i64 0, .int .i64 0, .slice none 0 0, .slice none 0 0]) 6 112 := ⟨by kernel_rfl⟩
theorem ti65 : TI Tryz.prog 65 (.agg #[.int .i64 0, .slice none 0 0, .int .i64 0, .int .i64 0, .int .i64 0, .int .i64 0]) 6 64 := ⟨by kernel_rfl⟩
theorem ti82 : TI Tryz.prog 82 (.slice none 0 0) 1 24 := ⟨by kernel_rfl⟩
theorem ti96 : TI Tryz.prog 96 (.map none) 1 8 := ⟨by kernel_rfl⟩
theorem ti99 : TI Tryz.prog 99 (.agg #[.int .i64 0, .int .i64 0]) 2 16 := ⟨by kernel_rfl⟩
theorem ti113 : TI Tryz.prog 113 (.agg #[.int .i64 0, .slice none 0 0, .slice none 0 0, .slice none 0 0, .slice none 0 0, .int .i64 0]) 6 112 := ⟨by kernel_rfl⟩
theorem ti115 : TI Tryz.prog 115 (.agg #[.int .i64 0, .slice none 0 0, .slice none 0 0, .slice none 0 0, .slice none 0 0, .int .i64 0, .slice none 0 0, .slice none 0 0]) 8 160 := ⟨by kernel_rfl⟩
theorem ti129 : TI Tryz.prog 129 (.nilFunc) 1 8 := ⟨by kernel_rfl⟩
theorem ti132 : TI Tryz.prog 132 (.agg #[.int .i64 0, .int .i64 0, .int .i64 0]) 3 24 := ⟨by kernel_rfl⟩
theorem ti153 : TI Tryz.prog 153 (.agg #[.slice none 0 0, .slice none 0 0, .slice none 0 0, .slice none 0 0, .slice none 0 0, .int .i64 0, .int .i64 0, .slice none 0 0, .slice none 0 0, .int .i64 0, .int .i64 0, .int .i64 0, .int .i64 0, .int .i64 0, .int .i64 0, .int .i64 0, .int .i64 0, .slice none 0 0, .bool false, .int .i64 0, .int .i64 0, .int .i64 0, .int .i64 0]) 23 312 := ⟨by kernel_rfl⟩
theorem ti156 : TI Tryz.prog 156 (.nilFunc) 1 8 := ⟨by kernel_rfl⟩
theorem ti163 : TI Tryz.prog 163 (.nilFunc) 1 8 := ⟨by kernel_rfl⟩
theorem ti166 : TI Tryz.prog 166 (.nilFunc) 1 8 := ⟨by kernel_rfl⟩
theorem ti178 : TI Tryz.prog 178 (.agg #[.int .i64 0, .int .i64 0]) 2 16 := ⟨by kernel_rfl⟩
theorem ti198 : TI Tryz.prog 198 (.agg #[.int .i64 0, .int .i64 0]) 2 16 := ⟨by kernel_rfl⟩
theorem call21 : callable Tryz.prog 21 = true := by kernel_rfl
theorem call23 : callable Tryz.prog 23 = true := by kernel_rfl
theorem call25 : callable Tryz.prog 25 = true := by kernel_rfl
theorem call30 : callable Tryz.prog 30 = true := by kernel_rfl
theorem call31 : callable Tryz.prog 31 = true := by kernel_rfl
theorem call32 : callable Tryz.prog 32 = true := by kernel_rfl
theorem call34 : callable Tryz.prog 34 = true := by kernel_rfl
theorem call35 : callable Tryz.prog 35 = true := by kernel_rfl
theorem call37 : callable Tryz.prog 37 = true := by kernel_rfl
theorem call39 : callable Tryz.prog 39 = true := by kernel_rfl
theorem call40 : callable Tryz.prog 40 = true := by kernel_rfl
theorem call41 : callable Tryz.prog 41 = true := by kernel_rfl
theorem call44 : callable Tryz.prog 44 = true := by kernel_rfl
theorem call54 : callable Tryz.prog 54 = true := by kernel_rfl
theorem call55 : callable Tryz.prog 55 = true := by kernel_rfl
theorem call56 : callable Tryz.prog 56 = true := by kernel_rfl
theorem call57 : callable Tryz.prog 57 = true := by kernel_rfl
theorem call58 : callable Tryz.prog 58 = true := by kernel_rfl
theorem call59 : callable Tryz.prog 59 = true := by kernel_rfl
theorem call60 : callable Tryz.prog 60 = true := by kernel_rfl
theorem call61 : callable Tryz.prog 61 = true := by kernel_rfl
theorem call62 : callable Tryz.prog 62 = true := by kernel_rfl
theorem call63 : callable Tryz.prog 63 = true := by kernel_rfl
theorem call65 : callable Tryz.prog 65 = true := by kernel_rfl
theorem call67 : callable Tryz.prog 67 = true := by kernel_rfl
theorem call68 : callable Tryz.prog 68 = true := by kernel_rfl
theorem call69 : callable Tryz.prog 69 = true := by kernel_rfl
theorem call70 : callable Tryz.prog 70 = true := by kernel_rfl
theorem call71 : callable Tryz.prog 71 = true := by kernel_rfl
theorem call76 : callable Tryz.prog 76 = true := by kernel_rfl
theorem call78 : callable Tryz.prog 78 = true := by kernel_rfl
theorem call79 : callable Tryz.prog 79 = true := by kernel_rfl
theorem call80 : callable Tryz.prog 80 = true := by kernel_rfl
theorem call81 : callable Tryz.prog 81 = true := by kernel_rfl
theorem call82 : callable Tryz.prog 82 = true := by kernel_rfl
theorem call90 : callable Tryz.prog 90 = true := by kernel_rfl
theorem call92 : callable Tryz.prog 92 = true := by kernel_rfl
theorem call93 : callable Tryz.prog 93 = true := by kernel_rfl
theorem call94 : callable Tryz.prog 94 = true := by kernel_rfl
theorem call95 : callable Tryz.prog 95 = true := by kernel_rfl
theorem call96 : callable Tryz.prog 96 = true := by kernel_rfl
theorem call97 : callable Tryz.prog 97 = true := by kernel_rfl
theorem call98 : callable Tryz.prog 98 = true := by kernel_rfl
theorem call99 : callable Tryz.prog 99 = true := by kernel_rfl
theorem call100 : callable Tryz.prog 100 = true := by kernel_rfl
theorem call101 : callable Tryz.prog 101 = true := by kernel_rfl
theorem call102 : callable Tryz.prog 102 = true := by kernel_rfl
theorem call103 : callable Tryz.prog 103 = true := by kernel_rfl
theorem call104 : callable Tryz.prog 104 = true := by kernel_rfl
theorem call105 : callable Tryz.prog 105 = true := by kernel_rfl
theorem call106 : callable Tryz.prog 106 = true := by kernel_rfl
theorem call107 : callable Tryz.prog 107 = true := by kernel_rfl
theorem call109 : callable Tryz.prog 109 = true := by kernel_rfl
theorem call110 : callable Tryz.prog 110 = true := by kernel_rfl
theorem call111 : callable Tryz.prog 111 = true := by kernel_rfl
theorem call112 : callable Tryz.prog 112 = true := by kernel_rfl
theorem call113 : callable Tryz.prog 113 = true := by kernel_rfl
theorem call114 : callable Tryz.prog 114 = true := by kernel_rfl
theorem call115 : callable Tryz.prog 115 = true := by kernel_rfl
theorem call118 : callable Tryz.prog 118 = true := by kernel_rfl
theorem call119 : callable Tryz.prog 119 = true := by kernel_rfl
theorem call121 : callable Tryz.prog 121 = true := by kernel_rfl
theorem call122 : callable Tryz.prog 122 = true := by kernel_rfl
theorem call123 : callable Tryz.prog 123 = true := by kernel_rfl
theorem call124 : callable Tryz.prog 124 = true := by kernel_rfl
theorem call125 : callable Tryz.prog 125 = true := by kernel_rfl
theorem call126 : callable Tryz.prog 126 = true := by kernel_rfl
theorem call127 : callable Tryz.prog 127 = true := by kernel_rfl
theorem call128 : callable Tryz.prog 128 = true := by kernel_rfl
theorem call130 : callable Tryz.prog 130 = true := by kernel_rfl
theorem call131 : callable Tryz.prog 131 = true := by kernel_rfl
theorem call132 : callable Tryz.prog 132 = true := by kernel_rfl
theorem call133 : callable Tryz.prog 133 = true := by kernel_rfl
theorem call134 : callable Tryz.prog 134 = true := by kernel_rfl
theorem call135 : callable Tryz.prog 135 = true := by kernel_rfl
theorem call136 : callable Tryz.prog 136 = true := by kernel_rfl
theorem call137 : callable Tryz.prog 137 = true := by kernel_rfl
theorem call138 : callable Tryz.prog 138 = true := by kernel_rfl
theorem call139 : callable Tryz.prog 139 = true := by kernel_rfl
theorem call140 : callable Tryz.prog 140 = true := by kernel_rfl
theorem call141 : callable Tryz.prog 141 = true := by kernel_rfl
theorem call142 : callable Tryz.prog 142 = true := by kernel_rfl
theorem call143 : callable Tryz.prog 143 = true := by kernel_rfl
theorem call144 : callable Tryz.prog 144 = true := by kernel_rfl
theorem call145 : callable Tryz.prog 145 = true := by kernel_rfl
theorem call146 : callable Tryz.prog 146 = true := by kernel_rfl
theorem call147 : callable Tryz.prog 147 = true := by kernel_rfl
theorem call148 : callable Tryz.prog 148 = true := by kernel_rfl
theorem call149 : callable Tryz.prog 149 = true := by kernel_rfl
theorem call150 : callable Tryz.prog 150 = true := by kernel_rfl
theorem call151 : callable Tryz.prog 151 = true := by kernel_rfl
theorem call152 : callable Tryz.prog 152 = true := by kernel_rfl
theorem call153 : callable Tryz.prog 153 = true := by kernel_rfl
theorem call154 : callable Tryz.prog 154 = true := by kernel_rfl
theorem call155 : callable Tryz.prog 155 = true := by kernel_rfl
theorem call156 : callable Tryz.prog 156 = true := by kernel_rfl
theorem call157 : callable Tryz.prog 157 = true := by kernel_rfl
theorem call158 : callable Tryz.prog 158 = true := by kernel_rfl
theorem call159 : callable Tryz.prog 159 = true := by kernel_rfl
theorem call160 : callable Tryz.prog 160 = true := by kernel_rfl
theorem call161 : callable Tryz.prog 161 = true := by kernel_rfl
theorem call162 : callable Tryz.prog 162 = true := by kernel_rfl
theorem call163 : callable Tryz.prog 163 = true := by kernel_rfl
theorem call164 : callable Tryz.prog 164 = true := by kernel_rfl
theorem call166 : callable Tryz.prog 166 = true := by kernel_rfl
theorem call169 : callable Tryz.prog 169 = true := by kernel_rfl
theorem call170 : callable Tryz.prog 170 = true := by kernel_rfl
theorem call171 : callable Tryz.prog 171 = true := by kernel_rfl
theorem call172 : callable Tryz.prog 172 = true := by kernel_rfl
theorem call173 : callable Tryz.prog 173 = true := by kernel_rfl
theorem call174 : callable Tryz.prog 174 = true := by kernel_rfl
theorem call175 : callable Tryz.prog 175 = true := by kernel_rfl
theorem call176 : callable Tryz.prog 176 = true := by kernel_rfl
theorem call177 : callable Tryz.prog 177 = true := by kernel_rfl
theorem call179 : callable Tryz.prog 179 = true := by kernel_rfl
theorem call180 : callable Tryz.prog 180 = true := by kernel_rfl
theorem call181 : callable Tryz.prog 181 = true := by kernel_rfl
theorem call192 : callable Tryz.prog 192 = true := by kernel_rfl
theorem call193 : callable Tryz.prog 193 = true := by kernel_rfl
theorem call194 : callable Tryz.prog 194 = true := by kernel_rfl
theorem call195 : callable Tryz.prog 195 = true := by kernel_rfl
theorem call196 : callable Tryz.prog 196 = true := by kernel_rfl
theorem call202 : callable Tryz.prog 202 = true := by kernel_rfl
theorem U1 : type_of% (aa @Tryz.underlying1 cells1) := aa @Tryz.underlying1 cells1
theorem U2 : type_of% (aa @Tryz.underlying2 cells2) := aa @Tryz.underlying2 cells2
theorem U3 : type_of% (aa @Tryz.underlying3 cells3) := aa @Tryz.underlying3 cells3
theorem U4 : type_of% (aa @Tryz.underlying4 cells4) := aa @Tryz.underlying4 cells4
theorem U5 : type_of% (aa @Tryz.underlying5 cells5) := aa @Tryz.underlying5 cells5
theorem U6 : type_of% (aa @Tryz.underlying6 cells6) := aa @Tryz.underlying6 cells6
theorem U7 : type_of% (aa @Tryz.underlying7 cells7) := aa @Tryz.underlying7 cells7
theorem U8 : type_of% (aa @Tryz.underlying8 cells8) := aa @Tryz.underlying8 cells8
theorem U9 : type_of% (aa @Tryz.underlying9 cells9) := aa @Tryz.underlying9 cells9
theorem U10 : type_of% (aa @Tryz.underlying10 cells10) := aa @Tryz.underlying10 cells10
theorem U11 : type_of% (aa @Tryz.underlying11 cells11) := aa @Tryz.underlying11 cells11
theorem U12 : type_of% (aa @Tryz.underlying12 cells12) := aa @Tryz.underlying12 cells12
theorem U13 : type_of% (aa @Tryz.underlying13 cells13) := aa @Tryz.underlying13 cells13
theorem U14 : type_of% (aa @Tryz.underlying14 cells14) := aa @Tryz.underlying14 cells14
theorem U15 : type_of% (aa @Tryz.underlying15 cells15) := aa @Tryz.underlying15 cells15
theorem U16 : type_of% (aa @Tryz.underlying16 cells16) := aa @Tryz.underlying16 cells16
theorem U17 : type_of% (aa @Tryz.underlying17 cells17) := aa @Tryz.underlying17 cells17
theorem U18 : type_of% (aa @Tryz.underlying18 cells18) := aa @Tryz.underlying18 cells18
theorem U19 : type_of% (aa @Tryz.underlying19 cells19) := aa @Tryz.underlying19 cells19
theorem U21 : type_of% (aa @Tryz.underlying21 cells21) := aa @Tryz.underlying21 cells21
theorem U22 : type_of% (aa @Tryz.underlying22 cells22) := aa @Tryz.underlying22 cells22
theorem U23 : type_of% (aa @Tryz.underlying23 cells23) := aa @Tryz.underlying23 cells23
theorem U24 : type_of% (aa @Tryz.underlying24 cells24) := aa @Tryz.underlying24 cells24
theorem U25 : type_of% (aa @Tryz.underlying25 cells25) := aa @Tryz.underlying25 cells25
theorem U26 : type_of% (aa @Tryz.underlying26 cells26) := aa @Tryz.underlying26 cells26
theorem U27 : type_of% (aa @Tryz.underlying27 cells27) := aa @Tryz.underlying27 cells27
theorem U28 : type_of% (aa @Tryz.underlying28 cells28) := aa @Tryz.underlying28 cells28
theorem U29 : type_of% (aa @Tryz.underlying29 cells29) := aa @Tryz.underlying29 cells29
theorem U30 : type_of% (aa @Tryz.underlying30 cells30) := aa @Tryz.underlying30 cells30
theorem U31 : type_of% (aa @Tryz.underlying31 cells31) := aa @Tryz.underlying31 cells31
theorem U32 : type_of% (aa @Tryz.underlying32 cells32) := aa @Tryz.underlying32 cells32
theorem U33 : type_of% (aa @Tryz.underlying33 cells33) := aa @Tryz.underlying33 cells33
theorem U34 : type_of% (aa @Tryz.underlying34 cells34) := aa @Tryz.underlying34 cells34
theorem U35 : type_of% (aa @Tryz.underlying35 cells35) := aa @Tryz.underlying35 cells35
theorem U37 : type_of% (aa @Tryz.underlying37 cells37) := aa @Tryz.underlying37 cells37
theorem U38 : type_of% (aa @Tryz.underlying38 cells38) := aa @Tryz.underlying38 cells38
theorem U39 : type_of% (aa @Tryz.underlying39 cells39) := aa @Tryz.underlying39 cells39
theorem U41 : type_of% (aa @Tryz.underlying41 cells41) := aa @Tryz.underlying41 cells41
theorem U42 : type_of% (aa @Tryz.underlying42 cells42) := aa @Tryz.underlying42 cells42
theorem U43 : type_of% (aa @Tryz.underlying43 cells43) := aa @Tryz.underlying43 cells43
theorem U45 : type_of% (aa @Tryz.underlying45 cells45) := aa @Tryz.underlying45 cells45
theorem U46 : type_of% (aa @Tryz.underlying46 cells46) := aa @Tryz.underlying46 cells46
theorem U47 : type_of% (aa @Tryz.underlying47 cells47) := aa @Tryz.underlying47 cells47
theorem U48 : type_of% (aa @Tryz.underlying48 cells48) := aa @Tryz.underlying48 cells48
theorem U49 : type_of% (aa @Tryz.underlying49 cells49) := aa @Tryz.underlying49 cells49
theorem U50 : type_of% (aa @Tryz.underlying50 cells50) := aa @Tryz.underlying50 cells50
theorem U52 : type_of% (aa @Tryz.underlying52 cells52) := aa @Tryz.underlying52 cells52
theorem U53 : type_of% (aa @Tryz.underlying53 cells53) := aa @Tryz.underlying53 cells53
theorem U54 : type_of% (aa @Tryz.underlying54 cells54) := aa @Tryz.underlying54 cells54
theorem U55 : type_of% (aa @Tryz.underlying55 cells55) := aa @Tryz.underlying55 cells55
theorem U56 : type_of% (aa @Tryz.underlying56 cells56) := aa @Tryz.underlying56 cells56
theorem U57 : type_of% (aa @Tryz.underlying57 cells57) := aa @Tryz.underlying57 cells57
theorem U58 : type_of% (aa @Tryz.underlying58 cells58) := aa @Tryz.underlying58 cells58
theorem U59 : type_of% (aa @Tryz.underlying59 cells59) := aa @Tryz.underlying59 cells59
theorem U60 : type_of% (aa @Tryz.underlying60 cells60) := aa @Tryz.underlying60 cells60
theorem U61 : type_of% (aa @Tryz.underlying61 cells61) := aa @Tryz.underlying61 cells61
theorem U62 : type_of% (aa @Tryz.underlying62 cells62) := aa @Tryz.underlying62 cells62
theorem U63 : type_of% (aa @Tryz.underlying63 cells63) := aa @Tryz.underlying63 cells63
theorem U64 : type_of% (aa @Tryz.underlying64 cells64) := aa @Tryz.underlying64 cells64
theorem U65 : type_of% (aa @Tryz.underlying65 cells65) := aa @Tryz.underlying65 cells65
theorem U67 : type_of% (aa @Tryz.underlying67 cells67) := aa @Tryz.underlying67 cells67
theorem U68 : type_of% (aa @Tryz.underlying68 cells68) := aa @Tryz.underlying68 cells68
theorem U69 : type_of% (aa @Tryz.underlying69 cells69) := aa @Tryz.underlying69 cells69
theorem U70 : type_of% (aa @Tryz.underlying70 cells70) := aa @Tryz.underlying70 cells70
theorem U71 : type_of% (aa @Tryz.underlying71 cells71) := aa @Tryz.underlying71 cells71
theorem U72 : type_of% (aa @Tryz.underlying72 cells72) := aa @Tryz.underlying72 cells72
theorem U73 : type_of% (aa @Tryz.underlying73 cells73) := aa @Tryz.underlying73 cells73
theorem U74 : type_of% (aa @Tryz.underlying74 cells74) := aa @Tryz.underlying74 cells74
theorem U75 : type_of% (aa @Tryz.underlying75 cells75) := aa @Tryz.underlying75 cells75
theorem U76 : type_of% (aa @Tryz.underlying76 cells76) := aa @Tryz.underlying76 cells76
theorem U77 : type_of% (aa @Tryz.underlying77 cells77) := aa @Tryz.underlying77 cells77
theorem U78 : type_of% (aa @Tryz.underlying78 cells78) := aa @Tryz.underlying78 cells78
theorem U80 : type_of% (aa @Tryz.underlying80 cells80) := aa @Tryz.underlying80 cells80
theorem U81 : type_of% (aa @Tryz.underlying81 cells81) := aa @Tryz.underlying81 cells81
theorem U82 : type_of% (aa @Tryz.underlying82 cells82) := aa @Tryz.underlying82 cells82
theorem U84 : type_of% (aa @Tryz.underlying84 cells84) := aa @Tryz.underlying84 cells84
theorem U86 : type_of% (aa @Tryz.underlying86 cells86) := aa @Tryz.underlying86 cells86
theorem U88 : type_of% (aa @Tryz.underlying88 cells88) := aa @Tryz.underlying88 cells88
theorem U89 : type_of% (aa @Tryz.underlying89 cells89) := aa @Tryz.underlying89 cells89
theorem U90 : type_of% (aa @Tryz.underlying90 cells90) := aa @Tryz.underlying90 cells90
theorem U91 : type_of% (aa @Tryz.underlying91 cells91) := aa @Tryz.underlying91 cells91
theorem U92 : type_of% (aa @Tryz.underlying92 cells92) := aa @Tryz.underlying92 cells92
theorem U93 : type_of% (aa @Tryz.underlying93 cells93) := aa @Tryz.underlying93 cells93
theorem U94 : type_of% (aa @Tryz.underlying94 cells94) := aa @Tryz.underlying94 cells94
theorem U95 : type_of% (aa @Tryz.underlying95 cells95) := aa @Tryz.underlying95 cells95
theorem U96 : type_of% (aa @Tryz.underlying96 cells96) := aa @Tryz.underlying96 cells96
theorem U97 : type_of% (aa @Tryz.underlying97 cells97) := aa @Tryz.underlying97 cells97
theorem U98 : type_of% (aa @Tryz.underlying98 cells98) := aa @Tryz.underlying98 cells98
theorem U99 : type_of% (aa @Tryz.underlying99 cells99) := aa @Tryz.underlying99 cells99
theorem U100 : type_of% (aa @Tryz.underlying100 cells100) := aa @Tryz.underlying100 cells100
theorem U101 : type_of% (aa @Tryz.underlying101 cells101) := aa @Tryz.underlying101 cells101
theorem U103 : type_of% (aa @Tryz.underlying103 cells103) := aa @Tryz.underlying103 cells103
theorem U104 : type_of% (aa @Tryz.underlying104 cells104) := aa @Tryz.underlying104 cells104
theorem U105 : type_of% (aa @Tryz.underlying105 cells105) := aa @Tryz.underlying105 cells105
theorem U106 : type_of% (aa @Tryz.underlying106 cells106) := aa @Tryz.underlying106 cells106
theorem U108 : type_of% (aa @Tryz.underlying108 cells108) := aa @Tryz.underlying108 cells108
theorem U110 : type_of% (aa @Tryz.underlying110 cells110) := aa @Tryz.underlying110 cells110
theorem U111 : type_of% (aa @Tryz.underlying111 cells111) := aa @Tryz.underlying111 cells111
theorem U112 : type_of% (aa @Tryz.underlying112 cells112) := aa @Tryz.underlying112 cells112
theorem U113 : type_of% (aa @Tryz.underlying113 cells113) := aa @Tryz.underlying113 cells113
theorem U114 : type_of% (aa @Tryz.underlying114 cells114) := aa @Tryz.underlying114 cells114
theorem U115 : type_of% (aa @Tryz.underlying115 cells115) := aa @Tryz.underlying115 cells115
theorem U117 : type_of% (aa @Tryz.underlying117 cells117) := aa @Tryz.underlying117 cells117
theorem U118 : type_of% (aa @Tryz.underlying118 cells118) := aa @Tryz.underlying118 cells118
theorem U119 : type_of% (aa @Tryz.underlying119 cells119) := aa @Tryz.underlying119 cells119
theorem U120 : type_of% (aa @Tryz.underlying120 cells120) := aa @Tryz.underlying120 cells120
theorem U121 : type_of% (aa @Tryz.underlying121 cells121) := aa @Tryz.underlying121 cells121
theorem U122 : type_of% (aa @Tryz.underlying122 cells122) := aa @Tryz.underlying122 cells122
theorem U123 : type_of% (aa @Tryz.underlying123 cells123) := aa @Tryz.underlying123 cells123
theorem U124 : type_of% (aa @Tryz.underlying124 cells124) := aa @Tryz.underlying124 cells124
theorem U125 : type_of% (aa @Tryz.underlying125 cells125) := aa @Tryz.underlying125 cells125
theorem U126 : type_of% (aa @Tryz.underlying126 cells126) := aa @Tryz.underlying126 cells126
theorem U128 : type_of% (aa @Tryz.underlying128 cells128) := aa @Tryz.underlying128 cells128
theorem U129 : type_of% (aa @Tryz.underlying129 cells129) := aa @Tryz.underlying129 cells129
theorem U130 : type_of% (aa @Tryz.underlying130 cells130) := aa @Tryz.underlying130 cells130
theorem U131 : type_of% (aa @Tryz.underlying131 cells131) := aa @Tryz.underlying131 cells131
theorem U132 : type_of% (aa @Tryz.underlying132 cells132) := aa @Tryz.underlying132 cells132
theorem U133 : type_of% (aa @Tryz.underlying133 cells133) := aa @Tryz.underlying133 cells133
theorem U134 : type_of% (aa @Tryz.underlying134 cells134) := aa @Tryz.underlying134 cells134
theorem U135 : type_of% (aa @Tryz.underlying135 cells135) := aa @Tryz.underlying135 cells135
theorem U136 : type_of% (aa @Tryz.underlying136 cells136) := aa @Tryz.underlying136 cells136
theorem U137 : type_of% (aa @Tryz.underlying137 cells137) := aa @Tryz.underlying137 cells137
theorem U138 : type_of% (aa @Tryz.underlying138 cells138) := aa @Tryz.underlying138 cells138
theorem U139 : type_of% (aa @Tryz.underlying139 cells139) := aa @Tryz.underlying139 cells139
theorem U141 : type_of% (aa @Tryz.underlying141 cells141) := aa @Tryz.underlying141 cells141
theorem U142 : type_of% (aa @Tryz.underlying142 cells142) := aa @Tryz.underlying142 cells142
theorem U143 : type_of% (aa @Tryz.underlying143 cells143) := aa @Tryz.underlying143 cells143
theorem U144 : type_of% (aa @Tryz.underlying144 cells144) := aa @Tryz.underlying144 cells144
theorem U145 : type_of% (aa @Tryz.underlying145 cells145) := aa @Tryz.underlying145 cells145
theorem U146 : type_of% (aa @Tryz.underlying146 cells146) := aa @Tryz.underlying146 cells146
theorem U147 : type_of% (aa @Tryz.underlying147 cells147) := aa @Tryz.underlying147 cells147
theorem U148 : type_of% (aa @Tryz.underlying148 cells148) := aa @Tryz.underlying148 cells148
theorem U149 : type_of% (aa @Tryz.underlying149 cells149) := aa @Tryz.underlying149 cells149
theorem U150 : type_of% (aa @Tryz.underlying150 cells150) := aa @Tryz.underlying150 cells150
theorem U151 : type_of% (aa @Tryz.underlying151 cells151) := aa @Tryz.underlying151 cells151
theorem U152 : type_of% (aa @Tryz.underlying152 cells152) := aa @Tryz.underlying152 cells152
theorem U153 : type_of% (aa @Tryz.underlying153 cells153) := aa @Tryz.underlying153 cells153
theorem U154 : type_of% (aa @Tryz.underlying154 cells154) := aa @Tryz.underlying154 cells154
theorem U155 : type_of% (aa @Tryz.underlying155 cells155) := aa @Tryz.underlying155 cells155
theorem U156 : type_of% (aa @Tryz.underlying156 cells156) := aa @Tryz.underlying156 cells156
theorem U157 : type_of% (aa @Tryz.underlying157 cells157) := aa @Tryz.underlying157 cells157
theorem U158 : type_of% (aa @Tryz.underlying158 cells158) := aa @Tryz.underlying158 cells158
theorem U159 : type_of% (aa @Tryz.underlying159 cells159) := aa @Tryz.underlying159 cells159
theorem U160 : type_of% (aa @Tryz.underlying160 cells160) := aa @Tryz.underlying160 cells160
theorem U161 : type_of% (aa @Tryz.underlying161 cells161) := aa @Tryz.underlying161 cells161
theorem U162 : type_of% (aa @Tryz.underlying162 cells162) := aa @Tryz.underlying162 cells162
theorem U163 : type_of% (aa @Tryz.underlying163 cells163) := aa @Tryz.underlying163 cells163
theorem U164 : type_of% (aa @Tryz.underlying164 cells164) := aa @Tryz.underlying164 cells164
theorem U165 : type_of% (aa @Tryz.underlying165 cells165) := aa @Tryz.underlying165 cells165
theorem U166 : type_of% (aa @Tryz.underlying166 cells166) := aa @Tryz.underlying166 cells166
theorem U167 : type_of% (aa @Tryz.underlying167 cells167) := aa @Tryz.underlying167 cells167
theorem U168 : type_of% (aa @Tryz.underlying168 cells168) := aa @Tryz.underlying168 cells168
theorem U169 : type_of% (aa @Tryz.underlying169 cells169) := aa @Tryz.underlying169 cells169
theorem U170 : type_of% (aa @Tryz.underlying170 cells170) := aa @Tryz.underlying170 cells170
theorem U171 : type_of% (aa @Tryz.underlying171 cells171) := aa @Tryz.underlying171 cells171
theorem U172 : type_of% (aa @Tryz.underlying172 cells172) := aa @Tryz.underlying172 cells172
theorem U173 : type_of% (aa @Tryz.underlying173 cells173) := aa @Tryz.underlying173 cells173
theorem U174 : type_of% (aa @Tryz.underlying174 cells174) := aa @Tryz.underlying174 cells174
theorem U175 : type_of% (aa @Tryz.underlying175 cells175) := aa @Tryz.underlying175 cells175
theorem U176 : type_of% (aa @Tryz.underlying176 cells176) := aa @Tryz.underlying176 cells176
theorem U177 : type_of% (aa @Tryz.underlying177 cells177) := aa @Tryz.underlying177 cells177
theorem U178 : type_of% (aa @Tryz.underlying178 cells178) := aa @Tryz.underlying178 cells178
theorem U179 : type_of% (aa @Tryz.underlying179 cells179) := aa @Tryz.underlying179 cells179
theorem U180 : type_of% (aa @Tryz.underlying180 cells180) := aa @Tryz.underlying180 cells180
theorem U181 : type_of% (aa @Tryz.underlying181 cells181) := aa @Tryz.underlying181 cells181
theorem U182 : type_of% (aa @Tryz.underlying182 cells182) := aa @Tryz.underlying182 cells182
theorem U183 : type_of% (aa @Tryz.underlying183 cells183) := aa @Tryz.underlying183 cells183
theorem U184 : type_of% (aa @Tryz.underlying184 cells184) := aa @Tryz.underlying184 cells184
theorem U185 : type_of% (aa @Tryz.underlying185 cells185) := aa @Tryz.underlying185 cells185
theorem U186 : type_of% (aa @Tryz.underlying186 cells186) := aa @Tryz.underlying186 cells186
theorem U187 : type_of% (aa @Tryz.underlying187 cells187) := aa @Tryz.underlying187 cells187
theorem U188 : type_of% (aa @Tryz.underlying188 cells188) := aa @Tryz.underlying188 cells188
theorem U189 : type_of% (aa @Tryz.underlying189 cells189) := aa @Tryz.underlying189 cells189
theorem U190 : type_of% (aa @Tryz.underlying190 cells190) := aa @Tryz.underlying190 cells190
theorem U192 : type_of% (aa @Tryz.underlying192 cells192) := aa @Tryz.underlying192 cells192
theorem U193 : type_of% (aa @Tryz.underlying193 cells193) := aa @Tryz.underlying193 cells193
theorem U194 : type_of% (aa @Tryz.underlying194 cells194) := aa @Tryz.underlying194 cells194
theorem U195 : type_of% (aa @Tryz.underlying195 cells195) := aa @Tryz.underlying195 cells195
theorem U196 : type_of% (aa @Tryz.underlying196 cells196) := aa @Tryz.underlying196 cells196
theorem U197 : type_of% (aa @Tryz.underlying197 cells197) := aa @Tryz.underlying197 cells197
theorem U198 : type_of% (aa @Tryz.underlying198 cells198) := aa @Tryz.underlying198 cells198
theorem U199 : type_of% (aa @Tryz.underlying199 cells199) := aa @Tryz.underlying199 cells199
theorem U200 : type_of% (aa @Tryz.underlying200 cells200) := aa @Tryz.underlying200 cells200
theorem U201 : type_of% (aa @Tryz.underlying201 cells201) := aa @Tryz.underlying201 cells201
theorem U202 : type_of% (aa @Tryz.underlying202 cells202) := aa @Tryz.underlying202 cells202
theorem U203 : type_of% (aa @Tryz.underlying203 cells203) := aa @Tryz.underlying203 cells203
theorem U204 : type_of% (aa @Tryz.underlying204 cells204) := aa @Tryz.underlying204 cells204
theorem U205 : type_of% (aa @Tryz.underlying205 cells205) := aa @Tryz.underlying205 cells205
theorem U206 : type_of% (aa @Tryz.underlying206 cells206) := aa @Tryz.underlying206 cells206
theorem U207 : type_of% (aa @Tryz.underlying207 cells207) := aa @Tryz.underlying207 cells207
theorem U208 : type_of% (aa @Tryz.underlying208 cells208) := aa @Tryz.underlying208 cells208
theorem U209 : type_of% (aa @Tryz.underlying209 cells209) := aa @Tryz.underlying209 cells209
theorem U210 : type_of% (aa @Tryz.underlying210 cells210) := aa @Tryz.underlying210 cells210
theorem U211 : type_of% (aa @Tryz.underlying211 cells211) := aa @Tryz.underlying211 cells211
theorem U212 : type_of% (aa @Tryz.underlying212 cells212) := aa @Tryz.underlying212 cells212
theorem U213 : type_of% (aa @Tryz.underlying213 cells213) := aa @Tryz.underlying213 cells213
theorem U215 : type_of% (aa @Tryz.underlying215 cells215) := aa @Tryz.underlying215 cells215
theorem U216 : type_of% (aa @Tryz.underlying216 cells216) := aa @Tryz.underlying216 cells216
theorem U218 : type_of% (aa @Tryz.underlying218 cells218) := aa @Tryz.underlying218 cells218
theorem U219 : type_of% (aa @Tryz.underlying219 cells219) := aa @Tryz.underlying219 cells219
theorem U220 : type_of% (aa @Tryz.underlying220 cells220) := aa @Tryz.underlying220 cells220
theorem U222 : type_of% (aa @Tryz.underlying222 cells222) := aa @Tryz.underlying222 cells222
theorem U223 : type_of% (aa @Tryz.underlying223 cells223) := aa @Tryz.underlying223 cells223
theorem U224 : type_of% (aa @Tryz.underlying224 cells224) := aa @Tryz.underlying224 cells224
theorem U226 : type_of% (aa @Tryz.underlying226 cells226) := aa @Tryz.underlying226 cells226
theorem U227 : type_of% (aa @Tryz.underlying227 cells227) := aa @Tryz.underlying227 cells227
theorem U228 : type_of% (aa @Tryz.underlying228 cells228) := aa @Tryz.underlying228 cells228
theorem U229 : type_of% (aa @Tryz.underlying229 cells229) := aa @Tryz.underlying229 cells229
theorem U230 : type_of% (aa @Tryz.underlying230 cells230) := aa @Tryz.underlying230 cells230
theorem U231 : type_of% (aa @Tryz.underlying231 cells231) := aa @Tryz.underlying231 cells231
theorem U232 : type_of% (aa @Tryz.underlying232 cells232) := aa @Tryz.underlying232 cells232
theorem U233 : type_of% (aa @Tryz.underlying233 cells233) := aa @Tryz.underlying233 cells233
theorem U234 : type_of% (aa @Tryz.underlying234 cells234) := aa @Tryz.underlying234 cells234
theorem U235 : type_of% (aa @Tryz.underlying235 cells235) := aa @Tryz.underlying235 cells235
theorem U236 : type_of% (aa @Tryz.underlying236 cells236) := aa @Tryz.underlying236 cells236
theorem U237 : type_of% (aa @Tryz.underlying237 cells237) := aa @Tryz.underlying237 cells237
theorem U238 : type_of% (aa @Tryz.underlying238 cells238) := aa @Tryz.underlying238 cells238
theorem U239 : type_of% (aa @Tryz.underlying239 cells239) := aa @Tryz.underlying239 cells239
theorem U240 : type_of% (aa @Tryz.underlying240 cells240) := aa @Tryz.underlying240 cells240
theorem U241 : type_of% (aa @Tryz.underlying241 cells241) := aa @Tryz.underlying241 cells241
theorem U242 : type_of% (aa @Tryz.underlying242 cells242) := aa @Tryz.underlying242 cells242
theorem U243 : type_of% (aa @Tryz.underlying243 cells243) := aa @Tryz.underlying243 cells243
theorem U244 : type_of% (aa @Tryz.underlying244 cells244) := aa @Tryz.underlying244 cells244
theorem U245 : type_of% (aa @Tryz.underlying245 cells245) := aa @Tryz.underlying245 cells245
theorem U246 : type_of% (aa @Tryz.underlying246 cells246) := aa @Tryz.underlying246 cells246
theorem U247 : type_of% (aa @Tryz.underlying247 cells247) := aa @Tryz.underlying247 cells247
theorem U248 : type_of% (aa @Tryz.underlying248 cells248) := aa @Tryz.underlying248 cells248
theorem U249 : type_of% (aa @Tryz.underlying249 cells249) := aa @Tryz.underlying249 cells249
theorem U250 : type_of% (aa @Tryz.underlying250 cells250) := aa @Tryz.underlying250 cells250
theorem U251 : type_of% (aa @Tryz.underlying251 cells251) := aa @Tryz.underlying251 cells251
theorem U252 : type_of% (aa @Tryz.underlying252 cells252) := aa @Tryz.underlying252 cells252
theorem U253 : type_of% (aa @Tryz.underlying253 cells253) := aa @Tryz.underlying253 cells253
theorem UT : type_of% (aa (aa (aa (aa (aa (aa (aa U1 (aa U2 U3)) (aa (aa U4 U5) (aa U6 U7))) (aa (aa U8 (aa U9 U10)) (aa (aa U11 U12) (aa U13 U14)))) (aa (aa (aa U15 (aa U16 U17)) (aa (aa U18 U19) (aa U21 U22))) (aa (aa (aa U23 U24) (aa U25 U26)) (aa (aa U27 U28) (aa U29 U30))))) (aa (aa (aa (aa U31 (aa U32 U33)) (aa (aa U34 U35) (aa U37 U38))) (aa (aa U39 (aa U41 U42)) (aa (aa U43 U45) (aa U46 U47)))) (aa (aa (aa U48 (aa U49 U50)) (aa (aa U52 U53) (aa U54 U55))) (aa (aa (aa U56 U57) (aa U58 U59)) (aa (aa U60 U61) (aa U62 U63)))))) (aa (aa (aa (aa (aa U64 (aa U65 U67)) (aa (aa U68 U69) (aa U70 U71))) (aa (aa U72 (aa U73 U74)) (aa (aa U75 U76) (aa U77 U78)))) (aa (aa (aa U80 (aa U81 U82)) (aa (aa U84 U86) (aa U88 U89))) (aa (aa (aa U90 U91) (aa U92 U93)) (aa (aa U94 U95) (aa U96 U97))))) (aa (aa (aa (aa U98 (aa U99 U100)) (aa (aa U101 U103) (aa U104 U105))) (aa (aa U106 (aa U108 U110)) (aa (aa U111 U112) (aa U113 U114)))) (aa (aa (aa U115 (aa U117 U118)) (aa (aa U119 U120) (aa U121 U122))) (aa (aa (aa U123 U124) (aa U125 U126)) (aa (aa U128 U129) (aa U130 U131))))))) (aa (aa (aa (aa (aa (aa U132 (aa U133 U134)) (aa (aa U135 U136) (aa U137 U138))) (aa (aa U139 (aa U141 U142)) (aa (aa U143 U144) (aa U145 U146)))) (aa (aa (aa U147 (aa U148 U149)) (aa (aa U150 U151) (aa U152 U153))) (aa (aa (aa U154 U155) (aa U156 U157)) (aa (aa U158 U159) (aa U160 U161))))) (aa (aa (aa (aa U162 (aa U163 U164)) (aa (aa U165 U166) (aa U167 U168))) (aa (aa U169 (aa U170 U171)) (aa (aa U172 U173) (aa U174 U175)))) (aa (aa (aa U176 (aa U177 U178)) (aa (aa U179 U180) (aa U181 U182))) (aa (aa (aa U183 U184) (aa U185 U186)) (aa (aa U187 U188) (aa U189 U190)))))) (aa (aa (aa (aa (aa U192 (aa U193 U194)) (aa (aa U195 U196) (aa U197 U198))) (aa (aa U199 (aa U200 U201)) (aa (aa U202 U203) (aa U204 U205)))) (aa (aa (aa U206 (aa U207 U208)) (aa (aa U209 U210) (aa U211 U212))) (aa (aa (aa U213 U215) (aa U216 U218)) (aa (aa U219 U220) (aa U222 U223))))) (aa (aa (aa (aa U224 (aa U226 U227)) (aa (aa U228 U229) (aa U230 U231))) (aa (aa U232 (aa U233 U234)) (aa (aa U235 U236) (aa U237 U238)))) (aa (aa (aa U239 (aa U240 U241)) (aa (aa U242 U243) (aa U244 U245))) (aa (aa (aa U246 U247) (aa U248 U249)) (aa (aa U250 U251) (aa U252 U253)))))))) := aa (aa (aa (aa (aa (aa (aa U1 (aa U2 U3)) (aa (aa U4 U5) (aa U6 U7))) (aa (aa U8 (aa U9 U10)) (aa (aa U11 U12) (aa U13 U14)))) (aa (aa (aa U15 (aa U16 U17)) (aa (aa U18 U19) (aa U21 U22))) (aa (aa (aa U23 U24) (aa U25 U26)) (aa (aa U27 U28) (aa U29 U30))))) (aa (aa (aa (aa U31 (aa U32 U33)) (aa (aa U34 U35) (aa U37 U38))) (aa (aa U39 (aa U41 U42)) (aa (aa U43 U45) (aa U46 U47)))) (aa (aa (aa U48 (aa U49 U50)) (aa (aa U52 U53) (aa U54 U55))) (aa (aa (aa U56 U57) (aa U58 U59)) (aa (aa U60 U61) (aa U62 U63)))))) (aa (aa (aa (aa (aa U64 (aa U65 U67)) (aa (aa U68 U69) (aa U70 U71))) (aa (aa U72 (aa U73 U74)) (aa (aa U75 U76) (aa U77 U78)))) (aa (aa (aa U80 (aa U81 U82)) (aa (aa U84 U86) (aa U88 U89))) (aa (aa (aa U90 U91) (aa U92 U93)) (aa (aa U94 U95) (aa U96 U97))))) (aa (aa (aa (aa U98 (aa U99 U100)) (aa (aa U101 U103) (aa U104 U105))) (aa (aa U106 (aa U108 U110)) (aa (aa U111 U112) (aa U113 U114)))) (aa (aa (aa U115 (aa U117 U118)) (aa (aa U119 U120) (aa U121 U122))) (aa (aa (aa U123 U124) (aa U125 U126)) (aa (aa U128 U129) (aa U130 U131))))))) (aa (aa (aa (aa (aa (aa U132 (aa U133 U134)) (aa (aa U135 U136) (aa U137 U138))) (aa (aa U139 (aa U141 U142)) (aa (aa U143 U144) (aa U145 U146)))) (aa (aa (aa U147 (aa U148 U149)) (aa (aa U150 U151) (aa U152 U153))) (aa (aa (aa U154 U155) (aa U156 U157)) (aa (aa U158 U159) (aa U160 U161))))) (aa (aa (aa (aa U162 (aa U163 U164)) (aa (aa U165 U166) (aa U167 U168))) (aa (aa U169 (aa U170 U171)) (aa (aa U172 U173) (aa U174 U175)))) (aa (aa (aa U176 (aa U177 U178)) (aa (aa U179 U180) (aa U181 U182))) (aa (aa (aa U183 U184) (aa U185 U186)) (aa (aa U187 U188) (aa U189 U190)))))) (aa (aa (aa (aa (aa U192 (aa U193 U194)) (aa (aa U195 U196) (aa U197 U198))) (aa (aa U199 (aa U200 U201)) (aa (aa U202 U203) (aa U204 U205)))) (aa (aa (aa U206 (aa U207 U208)) (aa (aa U209 U210) (aa U211 U212))) (aa (aa (aa U213 U215) (aa U216 U218)) (aa (aa U219 U220) (aa U222 U223))))) (aa (aa (aa (aa U224 (aa U226 U227)) (aa (aa U228 U229) (aa U230 U231))) (aa (aa U232 (aa U233 U234)) (aa (aa U235 U236) (aa U237 U238)))) (aa (aa (aa U239 (aa U240 U241)) (aa (aa U242 U243) (aa U244 U245))) (aa (aa (aa U246 U247) (aa U248 U249)) (aa (aa U250 U251) (aa U252 U253)))))))
def KL12 : List Nat := [0, 1, 2, 3, 4, 5, 8, 9, 10, 11, 12, 14, 15, 16, 17, 18, 19, 21, 22, 23, 24, 26, 31, 56, 76, 78, 91, 95, 105, 124, 130, 150]
theorem KE12 : KL12 = [0, 1, 2, 3, 4, 5, 8, 9, 10, 11, 12, 14, 15, 16, 17, 18, 19, 21, 22, 23, 24, 26, 31, 56, 76, 78, 91, 95, 105, 124, 130, 150] := rfl
theorem TF12 : type_of% (aa (aa (aa (aa U1 (aa U2 U3)) (aa U4 (aa U6 U8))) (aa (aa U22 (aa U24 U25)) (aa (aa U26 U28) (aa U29 U30)))) (aa (aa (aa U32 (aa U35 U48)) (aa (aa U50 U53) (aa U54 U56))) (aa (aa U63 (aa U65 U75)) (aa (aa U132 U178) (aa U198 KE12))))) := aa (aa (aa (aa U1 (aa U2 U3)) (aa U4 (aa U6 U8))) (aa (aa U22 (aa U24 U25)) (aa (aa U26 U28) (aa U29 U30)))) (aa (aa (aa U32 (aa U35 U48)) (aa (aa U50 U53) (aa U54 U56))) (aa (aa U63 (aa U65 U75)) (aa (aa U132 U178) (aa U198 KE12))))
def KL21 : List Nat := [0, 1, 4, 5, 10, 14, 25]
theorem KE21 : KL21 = [0, 1, 4, 5, 10, 14, 25] := rfl
theorem TF21 : type_of% (aa (aa U3 U4) (aa U25 KE21)) := aa (aa U3 U4) (aa U25 KE21)
def KL23 : List Nat := [0, 1, 2, 3, 4, 5, 6, 9, 10, 11, 12, 13, 14, 15, 16, 17, 18, 19, 20, 21, 22, 28, 44, 46, 47, 48, 49, 71, 75, 76, 77, 78, 105, 123, 124, 125, 126, 160]
theorem KE23 : KL23 = [0, 1, 2, 3, 4, 5, 6, 9, 10, 11, 12, 13, 14, 15, 16, 17, 18, 19, 20, 21, 22, 28, 44, 46, 47, 48, 49, 71, 75, 76, 77, 78, 105, 123, 124, 125, 126, 160] := rfl
theorem TF23 : type_of% (aa (aa (aa (aa U1 (aa U2 U3)) (aa U4 (aa U10 U11))) (aa (aa U22 (aa U24 U25)) (aa (aa U26 U28) (aa U29 U30)))) (aa (aa (aa U32 (aa U35 U48)) (aa (aa U50 U53) (aa U54 U56))) (aa (aa U96 (aa U99 U132)) (aa (aa U178 U198) (aa KE23 KT))))) := aa (aa (aa (aa U1 (aa U2 U3)) (aa U4 (aa U10 U11))) (aa (aa U22 (aa U24 U25)) (aa (aa U26 U28) (aa U29 U30)))) (aa (aa (aa U32 (aa U35 U48)) (aa (aa U50 U53) (aa U54 U56))) (aa (aa U96 (aa U99 U132)) (aa (aa U178 U198) (aa KE23 KT))))
def KL25 : List Nat := [0, 1, 2, 3, 4, 8, 9, 10, 11]
theorem KE25 : KL25 = [0, 1, 2, 3, 4, 8, 9, 10, 11] := rfl
theorem TF25 : type_of% (aa (aa (aa U1 (aa U2 U3)) (aa U4 (aa U6 U8))) (aa (aa U9 (aa U25 U26)) (aa (aa U28 U35) (aa U178 KE25)))) := aa (aa (aa U1 (aa U2 U3)) (aa U4 (aa U6 U8))) (aa (aa U9 (aa U25 U26)) (aa (aa U28 U35) (aa U178 KE25)))
def KL30 : List Nat := [0, 1, 2, 3, 6, 7, 8, 9, 10, 11, 12, 13, 14, 15, 18, 19, 20, 21, 22, 23, 24, 25, 26, 27, 28, 29, 33, 34, 35, 36, 37, 38, 39, 40, 41, 123, 180, 231]
theorem KE30 : KL30 = [0, 1, 2, 3, 6, 7, 8, 9, 10, 11, 12, 13, 14, 15, 18, 19, 20, 21, 22, 23, 24, 25, 26, 27, 28, 29, 33, 34, 35, 36, 37, 38, 39, 40, 41, 123, 180, 231] := rfl
theorem TF30 : type_of% (aa (aa (aa (aa U1 U2) (aa U3 (aa U4 U22))) (aa (aa U24 (aa U25 U26)) (aa U28 (aa U29 U35)))) (aa (aa (aa U48 (aa U50 U53)) (aa U54 (aa U56 U63))) (aa (aa U65 (aa U132 U178)) (aa U198 (aa KE30 KT))))) := aa (aa (aa (aa U1 U2) (aa U3 (aa U4 U22))) (aa (aa U24 (aa U25 U26)) (aa U28 (aa U29 U35)))) (aa (aa (aa U48 (aa U50 U53)) (aa U54 (aa U56 U63))) (aa (aa U65 (aa U132 U178)) (aa U198 (aa KE30 KT))))
def KL31 : List Nat := [0, 1, 2, 3, 4, 6]
theorem KE31 : KL31 = [0, 1, 2, 3, 4, 6] := rfl
theorem TF31 : type_of% (aa (aa (aa (aa U3 U4) (aa U6 U22)) (aa (aa U24 U25) (aa U26 U28))) (aa (aa (aa U29 U48) (aa U53 U54)) (aa (aa U56 U132) (aa U178 (aa U198 KE31))))) := aa (aa (aa (aa U3 U4) (aa U6 U22)) (aa (aa U24 U25) (aa U26 U28))) (aa (aa (aa U29 U48) (aa U53 U54)) (aa (aa U56 U132) (aa U178 (aa U198 KE31))))
def KL32 : List Nat := [0, 1, 2, 3, 4, 5, 6, 7, 8, 9, 10, 11, 12, 14, 16, 17, 19, 21, 23, 24, 36, 41, 52, 56, 57, 58, 59, 60, 61, 81, 89]
theorem KE32 : KL32 = [0, 1, 2, 3, 4, 5, 6, 7, 8, 9, 10, 11, 12, 14, 16, 17, 19, 21, 23, 24, 36, 41, 52, 56, 57, 58, 59, 60, 61, 81, 89] := rfl
theorem TF32 : type_of% (aa (aa (aa (aa (aa U1 U2) (aa U3 U4)) (aa (aa U6 U8) (aa U9 U10))) (aa (aa (aa U11 U22) (aa U24 U25)) (aa (aa U26 U28) (aa U29 (aa U30 U32))))) (aa (aa (aa (aa U35 U48) (aa U50 U53)) (aa (aa U54 U56) (aa U63 U65))) (aa (aa (aa U82 U113) (aa U115 U119)) (aa (aa U132 U178) (aa U198 (aa KE32 KT)))))) := aa (aa (aa (aa (aa U1 U2) (aa U3 U4)) (aa (aa U6 U8) (aa U9 U10))) (aa (aa (aa U11 U22) (aa U24 U25)) (aa (aa U26 U28) (aa U29 (aa U30 U32))))) (aa (aa (aa (aa U35 U48) (aa U50 U53)) (aa (aa U54 U56) (aa U63 U65))) (aa (aa (aa U82 U113) (aa U115 U119)) (aa (aa U132 U178) (aa U198 (aa KE32 KT)))))
def KL34 : List Nat := [0, 1, 4]
theorem KE34 : KL34 = [0, 1, 4] := rfl
theorem TF34 : type_of% (aa (aa U3 U4) (aa U25 KE34)) := aa (aa U3 U4) (aa U25 KE34)
def KL35 : List Nat := [0, 1, 2, 3, 4, 5, 33, 38, 52]
theorem KE35 : KL35 = [0, 1, 2, 3, 4, 5, 33, 38, 52] := rfl
theorem TF35 : type_of% (aa (aa (aa U1 U2) (aa U3 U4)) (aa (aa U50 U63) (aa U65 KE35))) := aa (aa (aa U1 U2) (aa U3 U4)) (aa (aa U50 U63) (aa U65 KE35))
def KL37 : List Nat := [0, 1, 2, 3, 4, 5, 6, 9, 10, 11, 12, 23]
theorem KE37 : KL37 = [0, 1, 2, 3, 4, 5, 6, 9, 10, 11, 12, 23] := rfl
theorem TF37 : type_of% (aa (aa (aa (aa U1 (aa U2 U3)) (aa (aa U4 U10) (aa U11 U22))) (aa (aa U24 (aa U25 U26)) (aa (aa U28 U29) (aa U30 U35)))) (aa (aa (aa U48 (aa U50 U53)) (aa (aa U54 U56) (aa U63 U65))) (aa (aa U82 (aa U113 U115)) (aa (aa U132 U178) (aa U198 KE37))))) := aa (aa (aa (aa U1 (aa U2 U3)) (aa (aa U4 U10) (aa U11 U22))) (aa (aa U24 (aa U25 U26)) (aa (aa U28 U29) (aa U30 U35)))) (aa (aa (aa U48 (aa U50 U53)) (aa (aa U54 U56) (aa U63 U65))) (aa (aa U82 (aa U113 U115)) (aa (aa U132 U178) (aa U198 KE37))))
def KL39 : List Nat := [0, 1, 2, 3, 4, 5, 6, 7, 8, 9, 10, 11, 12, 13, 14, 15, 16, 17, 18, 24, 30, 31, 32, 33, 48, 58]
theorem KE39 : KL39 = [0, 1, 2, 3, 4, 5, 6, 7, 8, 9, 10, 11, 12, 13, 14, 15, 16, 17, 18, 24, 30, 31, 32, 33, 48, 58] := rfl
theorem TF39 : type_of% (aa (aa (aa (aa U1 (aa U2 U3)) (aa (aa U4 U6) (aa U8 U9))) (aa (aa (aa U10 U22) (aa U24 U25)) (aa (aa U26 U28) (aa U29 U30)))) (aa (aa (aa (aa U32 U35) (aa U48 U50)) (aa (aa U53 U54) (aa U56 U82))) (aa (aa (aa U96 U99) (aa U129 U132)) (aa (aa U178 U198) (aa KE39 KT))))) := aa (aa (aa (aa U1 (aa U2 U3)) (aa (aa U4 U6) (aa U8 U9))) (aa (aa (aa U10 U22) (aa U24 U25)) (aa (aa U26 U28) (aa U29 U30)))) (aa (aa (aa (aa U32 U35) (aa U48 U50)) (aa (aa U53 U54) (aa U56 U82))) (aa (aa (aa U96 U99) (aa U129 U132)) (aa (aa U178 U198) (aa KE39 KT))))
def KL40 : List Nat := [0, 1, 2, 6, 7, 8, 9, 13, 18, 29]
theorem KE40 : KL40 = [0, 1, 2, 6, 7, 8, 9, 13, 18, 29] := rfl
theorem TF40 : type_of% (aa (aa U1 (aa U3 U4)) (aa (aa U6 U25) (aa U75 KE40))) := aa (aa U1 (aa U3 U4)) (aa (aa U6 U25) (aa U75 KE40))
def KL41 : List Nat := [0, 1, 4, 5, 6, 10]
theorem KE41 : KL41 = [0, 1, 4, 5, 6, 10] := rfl
theorem TF41 : type_of% (aa (aa U1 (aa U3 U4)) (aa (aa U25 U29) (aa U48 KE41))) := aa (aa U1 (aa U3 U4)) (aa (aa U25 U29) (aa U48 KE41))
def KL44 : List Nat := [0, 1, 2, 3, 4, 6, 7, 8, 9, 10, 36, 41, 45, 59, 66]
theorem KE44 : KL44 = [0, 1, 2, 3, 4, 6, 7, 8, 9, 10, 36, 41, 45, 59, 66] := rfl
theorem TF44 : type_of% (aa (aa (aa (aa U1 U2) (aa U3 (aa U4 U6))) (aa (aa U22 (aa U24 U25)) (aa U26 (aa U28 U29)))) (aa (aa (aa U30 U35) (aa U48 (aa U50 U53))) (aa (aa U54 (aa U56 U132)) (aa U178 (aa U198 KE44))))) := aa (aa (aa (aa U1 U2) (aa U3 (aa U4 U6))) (aa (aa U22 (aa U24 U25)) (aa U26 (aa U28 U29)))) (aa (aa (aa U30 U35) (aa U48 (aa U50 U53))) (aa (aa U54 (aa U56 U132)) (aa U178 (aa U198 KE44))))
def KL54 : List Nat := [0, 1, 2, 3, 4, 6, 7, 8, 9, 13, 18, 28]
theorem KE54 : KL54 = [0, 1, 2, 3, 4, 6, 7, 8, 9, 13, 18, 28] := rfl
theorem TF54 : type_of% (aa (aa (aa (aa U3 U4) (aa U6 U22)) (aa (aa U24 U25) (aa U26 (aa U28 U29)))) (aa (aa (aa U35 U48) (aa U53 (aa U54 U56))) (aa (aa U132 U149) (aa U178 (aa U198 KE54))))) := aa (aa (aa (aa U3 U4) (aa U6 U22)) (aa (aa U24 U25) (aa U26 (aa U28 U29)))) (aa (aa (aa U35 U48) (aa U53 (aa U54 U56))) (aa (aa U132 U149) (aa U178 (aa U198 KE54))))
def KL55 : List Nat := [0, 1, 2, 3, 4]
theorem KE55 : KL55 = [0, 1, 2, 3, 4] := rfl
theorem TF55 : type_of% (aa (aa (aa U3 (aa U4 U22)) (aa U24 (aa U25 U35))) (aa (aa U50 (aa U53 U54)) (aa (aa U56 U132) (aa U198 KE55)))) := aa (aa (aa U3 (aa U4 U22)) (aa U24 (aa U25 U35))) (aa (aa U50 (aa U53 U54)) (aa (aa U56 U132) (aa U198 KE55)))
def KL56 : List Nat := [0, 1, 2, 3, 4]
theorem KE56 : KL56 = [0, 1, 2, 3, 4] := rfl
theorem TF56 : type_of% (aa (aa (aa U1 U2) (aa U3 U4)) (aa (aa U25 U50) (aa KE56 KT))) := aa (aa (aa U1 U2) (aa U3 U4)) (aa (aa U25 U50) (aa KE56 KT))
def KL57 : List Nat := [0, 1, 2, 3, 4, 5, 6, 7, 8, 9]
theorem KE57 : KL57 = [0, 1, 2, 3, 4, 5, 6, 7, 8, 9] := rfl
theorem TF57 : type_of% (aa (aa (aa (aa U1 (aa U2 U3)) (aa U4 (aa U6 U8))) (aa (aa U22 (aa U24 U25)) (aa U26 (aa U28 U48)))) (aa (aa (aa U50 (aa U53 U54)) (aa U56 (aa U132 U153))) (aa (aa U155 (aa U156 U158)) (aa (aa U178 U198) (aa KE57 KT))))) := aa (aa (aa (aa U1 (aa U2 U3)) (aa U4 (aa U6 U8))) (aa (aa U22 (aa U24 U25)) (aa U26 (aa U28 U48)))) (aa (aa (aa U50 (aa U53 U54)) (aa U56 (aa U132 U153))) (aa (aa U155 (aa U156 U158)) (aa (aa U178 U198) (aa KE57 KT))))
def KL58 : List Nat := [0, 1, 2, 3, 4]
theorem KE58 : KL58 = [0, 1, 2, 3, 4] := rfl
theorem TF58 : type_of% (aa (aa (aa U1 U3) (aa U4 U6)) (aa (aa U25 U48) (aa U99 KE58))) := aa (aa (aa U1 U3) (aa U4 U6)) (aa (aa U25 U48) (aa U99 KE58))
def KL59 : List Nat := [0, 1, 2]
theorem KE59 : KL59 = [0, 1, 2] := rfl
theorem TF59 : type_of% (aa (aa U1 U2) (aa U3 (aa U99 KE59))) := aa (aa U1 U2) (aa U3 (aa U99 KE59))
def KL60 : List Nat := [0, 1, 2, 3, 4, 8, 9, 10, 11, 15, 39]
theorem KE60 : KL60 = [0, 1, 2, 3, 4, 8, 9, 10, 11, 15, 39] := rfl
theorem TF60 : type_of% (aa (aa (aa U1 (aa U2 U3)) (aa (aa U4 U6) (aa U8 U9))) (aa (aa (aa U10 U25) (aa U26 U28)) (aa (aa U35 U178) (aa KE60 KT)))) := aa (aa (aa U1 (aa U2 U3)) (aa (aa U4 U6) (aa U8 U9))) (aa (aa (aa U10 U25) (aa U26 U28)) (aa (aa U35 U178) (aa KE60 KT)))
def KL61 : List Nat := [0, 2, 4, 5, 6, 7, 8]
theorem KE61 : KL61 = [0, 2, 4, 5, 6, 7, 8] := rfl
theorem TF61 : type_of% (aa (aa U2 U3) (aa U25 KE61)) := aa (aa U2 U3) (aa U25 KE61)
def KL62 : List Nat := [0, 1, 2, 3, 4]
theorem KE62 : KL62 = [0, 1, 2, 3, 4] := rfl
theorem TF62 : type_of% (aa (aa U1 U3) (aa U4 (aa U50 KE62))) := aa (aa U1 U3) (aa U4 (aa U50 KE62))
def KL63 : List Nat := [0, 1, 2, 3, 4, 6, 7, 8, 12, 16, 20, 24, 37]
theorem KE63 : KL63 = [0, 1, 2, 3, 4, 6, 7, 8, 12, 16, 20, 24, 37] := rfl
theorem TF63 : type_of% (aa (aa (aa (aa U3 U4) (aa U6 U22)) (aa (aa U24 U25) (aa U26 (aa U28 U29)))) (aa (aa (aa U35 U48) (aa U53 U54)) (aa (aa U56 U132) (aa U178 (aa U198 KE63))))) := aa (aa (aa (aa U3 U4) (aa U6 U22)) (aa (aa U24 U25) (aa U26 (aa U28 U29)))) (aa (aa (aa U35 U48) (aa U53 U54)) (aa (aa U56 U132) (aa U178 (aa U198 KE63))))
def KL65 : List Nat := [0, 1, 2, 3, 4, 5, 6, 7, 8, 9, 10, 11, 13, 70, 86, 89, 100]
theorem KE65 : KL65 = [0, 1, 2, 3, 4, 5, 6, 7, 8, 9, 10, 11, 13, 70, 86, 89, 100] := rfl
theorem TF65 : type_of% (aa (aa (aa (aa U1 U2) (aa U3 (aa U4 U5))) (aa (aa U6 (aa U7 U8)) (aa U22 (aa U24 U25)))) (aa (aa (aa U26 (aa U28 U35)) (aa U48 (aa U50 U53))) (aa (aa U54 (aa U56 U132)) (aa U178 (aa U198 KE65))))) := aa (aa (aa (aa U1 U2) (aa U3 (aa U4 U5))) (aa (aa U6 (aa U7 U8)) (aa U22 (aa U24 U25)))) (aa (aa (aa U26 (aa U28 U35)) (aa U48 (aa U50 U53))) (aa (aa U54 (aa U56 U132)) (aa U178 (aa U198 KE65))))
def KL67 : List Nat := [0, 1, 2]
theorem KE67 : KL67 = [0, 1, 2] := rfl
theorem TF67 : type_of% (aa (aa (aa (aa U1 U2) (aa U3 U4)) (aa (aa U22 U24) (aa U25 U26))) (aa (aa (aa U28 U53) (aa U54 U56)) (aa (aa U132 U178) (aa U198 KE67)))) := aa (aa (aa (aa U1 U2) (aa U3 U4)) (aa (aa U22 U24) (aa U25 U26))) (aa (aa (aa U28 U53) (aa U54 U56)) (aa (aa U132 U178) (aa U198 KE67)))
def KL68 : List Nat := [0, 2]
theorem KE68 : KL68 = [0, 2] := rfl
theorem TF68 : type_of% (aa (aa (aa U2 U3) (aa U4 U5)) (aa (aa U6 U25) (aa U48 KE68))) := aa (aa (aa U2 U3) (aa U4 U5)) (aa (aa U6 U25) (aa U48 KE68))
def KL69 : List Nat := [0, 1, 2, 4, 5, 7, 8, 9, 26, 29, 30, 31, 32, 45]
theorem KE69 : KL69 = [0, 1, 2, 4, 5, 7, 8, 9, 26, 29, 30, 31, 32, 45] := rfl
theorem TF69 : type_of% (aa (aa (aa (aa U1 (aa U2 U3)) (aa U4 (aa U5 U22))) (aa (aa U24 (aa U25 U26)) (aa (aa U28 U29) (aa U30 U32)))) (aa (aa (aa U35 (aa U48 U50)) (aa U53 (aa U54 U56))) (aa (aa U82 (aa U113 U115)) (aa (aa U132 U178) (aa U198 KE69))))) := aa (aa (aa (aa U1 (aa U2 U3)) (aa U4 (aa U5 U22))) (aa (aa U24 (aa U25 U26)) (aa (aa U28 U29) (aa U30 U32)))) (aa (aa (aa U35 (aa U48 U50)) (aa U53 (aa U54 U56))) (aa (aa U82 (aa U113 U115)) (aa (aa U132 U178) (aa U198 KE69))))
def KL70 : List Nat := [0, 1, 2]
theorem KE70 : KL70 = [0, 1, 2] := rfl
theorem TF70 : type_of% (aa (aa U2 U3) (aa U118 (aa U119 KE70))) := aa (aa U2 U3) (aa U118 (aa U119 KE70))
def KL71 : List Nat := [0, 1, 2, 4, 5, 7, 10, 29, 42, 43, 44, 45]
theorem KE71 : KL71 = [0, 1, 2, 4, 5, 7, 10, 29, 42, 43, 44, 45] := rfl
theorem TF71 : type_of% (aa (aa (aa (aa U1 U2) (aa U3 (aa U4 U22))) (aa (aa U24 (aa U25 U26)) (aa U28 (aa U29 U30)))) (aa (aa (aa U48 U50) (aa U56 (aa U63 U65))) (aa (aa U82 (aa U113 U115)) (aa U178 (aa KE71 KT))))) := aa (aa (aa (aa U1 U2) (aa U3 (aa U4 U22))) (aa (aa U24 (aa U25 U26)) (aa U28 (aa U29 U30)))) (aa (aa (aa U48 U50) (aa U56 (aa U63 U65))) (aa (aa U82 (aa U113 U115)) (aa U178 (aa KE71 KT))))
def KL76 : List Nat := [0, 1, 2, 3, 5, 6, 7, 8, 9, 12, 38, 69, 108, 109, 110, 111, 129]
theorem KE76 : KL76 = [0, 1, 2, 3, 5, 6, 7, 8, 9, 12, 38, 69, 108, 109, 110, 111, 129] := rfl
theorem TF76 : type_of% (aa (aa (aa (aa U1 U2) (aa U3 (aa U4 U6))) (aa (aa U22 (aa U24 U25)) (aa U26 (aa U28 U29)))) (aa (aa (aa U30 (aa U48 U50)) (aa U56 (aa U63 U65))) (aa (aa U82 (aa U113 U115)) (aa U178 (aa KE76 KT))))) := aa (aa (aa (aa U1 U2) (aa U3 (aa U4 U6))) (aa (aa U22 (aa U24 U25)) (aa U26 (aa U28 U29)))) (aa (aa (aa U30 (aa U48 U50)) (aa U56 (aa U63 U65))) (aa (aa U82 (aa U113 U115)) (aa U178 (aa KE76 KT))))
def KL78 : List Nat := [0, 1, 2, 3, 4, 5, 6, 7, 8, 15, 28]
theorem KE78 : KL78 = [0, 1, 2, 3, 4, 5, 6, 7, 8, 15, 28] := rfl
theorem TF78 : type_of% (aa (aa (aa (aa U1 (aa U2 U3)) (aa U4 (aa U5 U6))) (aa (aa U7 (aa U22 U24)) (aa U25 (aa U26 U28)))) (aa (aa (aa U29 (aa U30 U35)) (aa U48 (aa U50 U53))) (aa (aa U54 (aa U56 U132)) (aa (aa U135 U178) (aa U198 KE78))))) := aa (aa (aa (aa U1 (aa U2 U3)) (aa U4 (aa U5 U6))) (aa (aa U7 (aa U22 U24)) (aa U25 (aa U26 U28)))) (aa (aa (aa U29 (aa U30 U35)) (aa U48 (aa U50 U53))) (aa (aa U54 (aa U56 U132)) (aa (aa U135 U178) (aa U198 KE78))))
def KL79 : List Nat := [0, 1, 2, 3, 4, 5, 6, 7, 9, 10, 12, 13, 14, 15, 16, 26, 30, 35, 36, 37, 38, 62, 84]
theorem KE79 : KL79 = [0, 1, 2, 3, 4, 5, 6, 7, 9, 10, 12, 13, 14, 15, 16, 26, 30, 35, 36, 37, 38, 62, 84] := rfl
theorem TF79 : type_of% (aa (aa (aa (aa U1 U3) (aa U4 (aa U9 U22))) (aa (aa U24 (aa U25 U29)) (aa U30 (aa U48 U50)))) (aa (aa (aa U53 U54) (aa U56 (aa U82 U96))) (aa (aa U99 (aa U129 U132)) (aa U198 (aa KE79 KT))))) := aa (aa (aa (aa U1 U3) (aa U4 (aa U9 U22))) (aa (aa U24 (aa U25 U29)) (aa U30 (aa U48 U50)))) (aa (aa (aa U53 U54) (aa U56 (aa U82 U96))) (aa (aa U99 (aa U129 U132)) (aa U198 (aa KE79 KT))))
def KL80 : List Nat := [0, 1, 4, 6, 8, 19, 20, 21, 22, 36, 37, 38, 39]
theorem KE80 : KL80 = [0, 1, 4, 6, 8, 19, 20, 21, 22, 36, 37, 38, 39] := rfl
theorem TF80 : type_of% (aa (aa (aa U1 (aa U2 U3)) (aa U4 (aa U25 U30))) (aa (aa U32 (aa U50 U95)) (aa (aa U96 U99) (aa KE80 KT)))) := aa (aa (aa U1 (aa U2 U3)) (aa U4 (aa U25 U30))) (aa (aa U32 (aa U50 U95)) (aa (aa U96 U99) (aa KE80 KT)))
def KL81 : List Nat := [0, 1, 2, 3, 4, 5, 6, 7, 16, 45, 50, 77]
theorem KE81 : KL81 = [0, 1, 2, 3, 4, 5, 6, 7, 16, 45, 50, 77] := rfl
theorem TF81 : type_of% (aa (aa (aa U1 (aa U2 U3)) (aa (aa U4 U5) (aa U22 U24))) (aa (aa U25 (aa U53 U54)) (aa (aa U56 U132) (aa U198 KE81)))) := aa (aa (aa U1 (aa U2 U3)) (aa (aa U4 U5) (aa U22 U24))) (aa (aa U25 (aa U53 U54)) (aa (aa U56 U132) (aa U198 KE81)))
def KL82 : List Nat := [0, 1, 2, 3, 4, 5, 6, 7, 8, 9, 10, 11, 12, 19, 32, 37, 47]
theorem KE82 : KL82 = [0, 1, 2, 3, 4, 5, 6, 7, 8, 9, 10, 11, 12, 19, 32, 37, 47] := rfl
theorem TF82 : type_of% (aa (aa (aa (aa U1 (aa U2 U3)) (aa U4 (aa U5 U6))) (aa (aa U7 (aa U22 U24)) (aa U25 (aa U26 U28)))) (aa (aa (aa U29 (aa U30 U35)) (aa U48 (aa U50 U53))) (aa (aa U54 (aa U56 U132)) (aa U178 (aa U198 KE82))))) := aa (aa (aa (aa U1 (aa U2 U3)) (aa U4 (aa U5 U6))) (aa (aa U7 (aa U22 U24)) (aa U25 (aa U26 U28)))) (aa (aa (aa U29 (aa U30 U35)) (aa U48 (aa U50 U53))) (aa (aa U54 (aa U56 U132)) (aa U178 (aa U198 KE82))))
def KL90 : List Nat := [0, 1, 3, 4, 5, 6, 18]
theorem KE90 : KL90 = [0, 1, 3, 4, 5, 6, 18] := rfl
theorem TF90 : type_of% (aa (aa U1 (aa U3 U4)) (aa (aa U30 U50) (aa KE90 KT))) := aa (aa U1 (aa U3 U4)) (aa (aa U30 U50) (aa KE90 KT))
def KL92 : List Nat := [0, 1, 2, 4, 6, 10, 14, 16, 17, 18, 19, 27, 30, 31, 32, 33, 42]
theorem KE92 : KL92 = [0, 1, 2, 4, 6, 10, 14, 16, 17, 18, 19, 27, 30, 31, 32, 33, 42] := rfl
theorem TF92 : type_of% (aa (aa (aa (aa U1 U2) (aa U3 U4)) (aa (aa U5 U22) (aa U24 U25))) (aa (aa (aa U35 U53) (aa U54 U56)) (aa (aa U132 U175) (aa U198 KE92)))) := aa (aa (aa (aa U1 U2) (aa U3 U4)) (aa (aa U5 U22) (aa U24 U25))) (aa (aa (aa U35 U53) (aa U54 U56)) (aa (aa U132 U175) (aa U198 KE92)))
def KL93 : List Nat := [0, 1, 2, 3, 4, 5, 49]
theorem KE93 : KL93 = [0, 1, 2, 3, 4, 5, 49] := rfl
theorem TF93 : type_of% (aa (aa (aa U1 (aa U2 U3)) (aa U4 (aa U25 U26))) (aa (aa U28 (aa U35 U163)) (aa U178 (aa U179 KE93)))) := aa (aa (aa U1 (aa U2 U3)) (aa U4 (aa U25 U26))) (aa (aa U28 (aa U35 U163)) (aa U178 (aa U179 KE93)))
def KL94 : List Nat := [0, 1, 2, 3, 4]
theorem KE94 : KL94 = [0, 1, 2, 3, 4] := rfl
theorem TF94 : type_of% (aa (aa (aa U3 (aa U4 U22)) (aa (aa U24 U25) (aa U26 U28))) (aa (aa (aa U48 U53) (aa U54 U56)) (aa (aa U132 U178) (aa U198 KE94)))) := aa (aa (aa U3 (aa U4 U22)) (aa (aa U24 U25) (aa U26 U28))) (aa (aa (aa U48 U53) (aa U54 U56)) (aa (aa U132 U178) (aa U198 KE94)))
def KL95 : List Nat := [0, 1, 2, 3, 4, 5, 8, 9, 11, 57, 58, 59, 60, 65]
theorem KE95 : KL95 = [0, 1, 2, 3, 4, 5, 8, 9, 11, 57, 58, 59, 60, 65] := rfl
theorem TF95 : type_of% (aa (aa (aa (aa U1 U2) (aa U3 U4)) (aa (aa U5 U6) (aa U7 (aa U8 U9)))) (aa (aa (aa U10 U11) (aa U25 U33)) (aa (aa U48 U182) (aa U183 (aa KE95 KT))))) := aa (aa (aa (aa U1 U2) (aa U3 U4)) (aa (aa U5 U6) (aa U7 (aa U8 U9)))) (aa (aa (aa U10 U11) (aa U25 U33)) (aa (aa U48 U182) (aa U183 (aa KE95 KT))))
def KL96 : List Nat := [0, 1, 4]
theorem KE96 : KL96 = [0, 1, 4] := rfl
theorem TF96 : type_of% (aa (aa U3 (aa U4 U25)) (aa (aa U29 U48) (aa U149 KE96))) := aa (aa U3 (aa U4 U25)) (aa (aa U29 U48) (aa U149 KE96))
def KL97 : List Nat := [0, 1, 2, 3, 4, 5, 6, 7, 21]
theorem KE97 : KL97 = [0, 1, 2, 3, 4, 5, 6, 7, 21] := rfl
theorem TF97 : type_of% (aa (aa (aa (aa U1 U2) (aa U3 U4)) (aa (aa U5 U22) (aa U24 U25))) (aa (aa (aa U35 U50) (aa U53 U54)) (aa (aa U56 U132) (aa U198 KE97)))) := aa (aa (aa (aa U1 U2) (aa U3 U4)) (aa (aa U5 U22) (aa U24 U25))) (aa (aa (aa U35 U50) (aa U53 U54)) (aa (aa U56 U132) (aa U198 KE97)))
def KL98 : List Nat := [0, 2, 3, 5, 6, 7, 8, 9, 14]
theorem KE98 : KL98 = [0, 2, 3, 5, 6, 7, 8, 9, 14] := rfl
theorem TF98 : type_of% (aa (aa U2 U3) (aa U4 (aa U25 KE98))) := aa (aa U2 U3) (aa U4 (aa U25 KE98))
def KL99 : List Nat := [0, 1, 4, 5, 6, 11, 12, 13, 16, 19]
theorem KE99 : KL99 = [0, 1, 4, 5, 6, 11, 12, 13, 16, 19] := rfl
theorem TF99 : type_of% (aa U3 (aa U4 KE99)) := aa U3 (aa U4 KE99)
def KL100 : List Nat := [0, 1, 4]
theorem KE100 : KL100 = [0, 1, 4] := rfl
theorem TF100 : type_of% (aa (aa U3 (aa U4 U155)) (aa U156 (aa U158 KE100))) := aa (aa U3 (aa U4 U155)) (aa U156 (aa U158 KE100))
def KL101 : List Nat := [0]
theorem KE101 : KL101 = [0] := rfl
theorem TF101 : type_of% (aa (aa (aa U1 U2) (aa U3 U4)) (aa (aa U5 U6) (aa U155 (aa U156 KE101)))) := aa (aa (aa U1 U2) (aa U3 U4)) (aa (aa U5 U6) (aa U155 (aa U156 KE101)))
def KL102 : List Nat := [0, 1, 3]
theorem KE102 : KL102 = [0, 1, 3] := rfl
theorem TF102 : type_of% (aa (aa (aa (aa U3 U4) (aa U25 U26)) (aa (aa U28 U48) (aa U50 U53))) (aa (aa (aa U54 U56) (aa U132 U153)) (aa (aa U156 U178) (aa U198 KE102)))) := aa (aa (aa (aa U3 U4) (aa U25 U26)) (aa (aa U28 U48) (aa U50 U53))) (aa (aa (aa U54 U56) (aa U132 U153)) (aa (aa U156 U178) (aa U198 KE102)))
def KL103 : List Nat := [0, 1, 4, 5, 6, 7, 8, 10, 26, 37]
theorem KE103 : KL103 = [0, 1, 4, 5, 6, 7, 8, 10, 26, 37] := rfl
theorem TF103 : type_of% (aa (aa (aa U1 U3) (aa U4 U9)) (aa (aa U25 U190) (aa KE103 KT))) := aa (aa (aa U1 U3) (aa U4 U9)) (aa (aa U25 U190) (aa KE103 KT))
def KL104 : List Nat := [0, 1, 2, 3, 4, 6, 9, 11, 15]
theorem KE104 : KL104 = [0, 1, 2, 3, 4, 6, 9, 11, 15] := rfl
theorem TF104 : type_of% (aa (aa (aa U1 U2) (aa U3 (aa U4 U25))) (aa (aa U26 U28) (aa U178 (aa U194 KE104)))) := aa (aa (aa U1 U2) (aa U3 (aa U4 U25))) (aa (aa U26 U28) (aa U178 (aa U194 KE104)))
def KL105 : List Nat := [0, 1, 2, 3, 4, 5, 9, 17, 22, 33, 38, 55]
theorem KE105 : KL105 = [0, 1, 2, 3, 4, 5, 9, 17, 22, 33, 38, 55] := rfl
theorem TF105 : type_of% (aa (aa (aa U1 (aa U2 U3)) (aa (aa U4 U5) (aa U22 U24))) (aa (aa (aa U25 U35) (aa U53 U54)) (aa (aa U56 U132) (aa U198 KE105)))) := aa (aa (aa U1 (aa U2 U3)) (aa (aa U4 U5) (aa U22 U24))) (aa (aa (aa U25 U35) (aa U53 U54)) (aa (aa U56 U132) (aa U198 KE105)))
def KL106 : List Nat := [0, 1, 2, 3, 4, 29, 34, 52, 57, 96]
theorem KE106 : KL106 = [0, 1, 2, 3, 4, 29, 34, 52, 57, 96] := rfl
theorem TF106 : type_of% (aa (aa (aa U1 U2) (aa U3 (aa U4 U25))) (aa (aa U26 U28) (aa U35 (aa U178 KE106)))) := aa (aa (aa U1 U2) (aa U3 (aa U4 U25))) (aa (aa U26 U28) (aa U35 (aa U178 KE106)))
def KL107 : List Nat := [0, 1, 2, 3, 4, 8, 9, 58, 93, 98, 133]
theorem KE107 : KL107 = [0, 1, 2, 3, 4, 8, 9, 58, 93, 98, 133] := rfl
theorem TF107 : type_of% (aa (aa (aa U1 (aa U2 U3)) (aa U4 (aa U5 U6))) (aa (aa U7 (aa U8 U10)) (aa U25 (aa U48 KE107)))) := aa (aa (aa U1 (aa U2 U3)) (aa U4 (aa U5 U6))) (aa (aa U7 (aa U8 U10)) (aa U25 (aa U48 KE107)))
def KL109 : List Nat := [0, 1, 2, 3, 4, 9]
theorem KE109 : KL109 = [0, 1, 2, 3, 4, 9] := rfl
theorem TF109 : type_of% (aa (aa (aa U1 U2) (aa U3 (aa U4 U25))) (aa (aa U53 (aa U54 U56)) (aa U132 (aa U198 KE109)))) := aa (aa (aa U1 U2) (aa U3 (aa U4 U25))) (aa (aa U53 (aa U54 U56)) (aa U132 (aa U198 KE109)))
def KL110 : List Nat := [0, 1, 4, 5, 8]
theorem KE110 : KL110 = [0, 1, 4, 5, 8] := rfl
theorem TF110 : type_of% (aa U3 (aa U4 KE110)) := aa U3 (aa U4 KE110)
def KL111 : List Nat := [0, 1, 2, 3, 4, 8, 9, 10, 17]
theorem KE111 : KL111 = [0, 1, 2, 3, 4, 8, 9, 10, 17] := rfl
theorem TF111 : type_of% (aa (aa (aa U1 (aa U2 U3)) (aa U4 (aa U6 U8))) (aa (aa U9 (aa U25 U26)) (aa (aa U28 U35) (aa U178 KE111)))) := aa (aa (aa U1 (aa U2 U3)) (aa U4 (aa U6 U8))) (aa (aa U9 (aa U25 U26)) (aa (aa U28 U35) (aa U178 KE111)))
def KL112 : List Nat := [0, 1, 4, 5, 9, 17]
theorem KE112 : KL112 = [0, 1, 4, 5, 9, 17] := rfl
theorem TF112 : type_of% (aa (aa U3 U4) (aa U25 KE112)) := aa (aa U3 U4) (aa U25 KE112)
def KL113 : List Nat := [0, 1, 2, 3, 4, 7, 8, 9, 14]
theorem KE113 : KL113 = [0, 1, 2, 3, 4, 7, 8, 9, 14] := rfl
theorem TF113 : type_of% (aa (aa U3 (aa U4 U25)) (aa U165 (aa U166 KE113))) := aa (aa U3 (aa U4 U25)) (aa U165 (aa U166 KE113))
def KL114 : List Nat := [0, 1, 2, 3, 4, 5, 9, 10, 12, 19, 37]
theorem KE114 : KL114 = [0, 1, 2, 3, 4, 5, 9, 10, 12, 19, 37] := rfl
theorem TF114 : type_of% (aa (aa (aa U1 U3) (aa U4 U9)) (aa (aa U25 U165) (aa U166 (aa KE114 KT)))) := aa (aa (aa U1 U3) (aa U4 U9)) (aa (aa U25 U165) (aa U166 (aa KE114 KT)))
def KL115 : List Nat := [0, 1, 2, 3, 5, 6, 7, 8]
theorem KE115 : KL115 = [0, 1, 2, 3, 5, 6, 7, 8] := rfl
theorem TF115 : type_of% (aa (aa (aa (aa U1 U3) (aa U4 (aa U6 U22))) (aa (aa U24 (aa U25 U26)) (aa U28 (aa U29 U30)))) (aa (aa (aa U48 (aa U50 U53)) (aa U54 (aa U56 U82))) (aa (aa U113 (aa U115 U132)) (aa U178 (aa U198 KE115))))) := aa (aa (aa (aa U1 U3) (aa U4 (aa U6 U22))) (aa (aa U24 (aa U25 U26)) (aa U28 (aa U29 U30)))) (aa (aa (aa U48 (aa U50 U53)) (aa U54 (aa U56 U82))) (aa (aa U113 (aa U115 U132)) (aa U178 (aa U198 KE115))))
def KL118 : List Nat := [0, 1, 3, 4]
theorem KE118 : KL118 = [0, 1, 3, 4] := rfl
theorem TF118 : type_of% (aa (aa U3 U4) (aa U30 (aa U50 KE118))) := aa (aa U3 U4) (aa U30 (aa U50 KE118))
def KL119 : List Nat := [0, 1, 2, 4, 5, 6, 7, 8, 9, 10, 11, 12, 13, 21]
theorem KE119 : KL119 = [0, 1, 2, 4, 5, 6, 7, 8, 9, 10, 11, 12, 13, 21] := rfl
theorem TF119 : type_of% (aa (aa (aa (aa U1 U2) (aa U3 (aa U4 U22))) (aa (aa U24 U25) (aa U26 (aa U28 U29)))) (aa (aa (aa U30 U48) (aa U50 (aa U53 U54))) (aa (aa U56 (aa U82 U113)) (aa U115 (aa U178 KE119))))) := aa (aa (aa (aa U1 U2) (aa U3 (aa U4 U22))) (aa (aa U24 U25) (aa U26 (aa U28 U29)))) (aa (aa (aa U30 U48) (aa U50 (aa U53 U54))) (aa (aa U56 (aa U82 U113)) (aa U115 (aa U178 KE119))))
def KL121 : List Nat := [0, 1, 2, 3, 6, 7, 8, 9, 10, 11, 15, 27, 29, 30, 31, 32, 47, 58]
theorem KE121 : KL121 = [0, 1, 2, 3, 6, 7, 8, 9, 10, 11, 15, 27, 29, 30, 31, 32, 47, 58] := rfl
theorem TF121 : type_of% (aa (aa (aa (aa U1 U2) (aa U3 (aa U4 U5))) (aa (aa U6 U7) (aa U22 (aa U24 U25)))) (aa (aa (aa U30 U35) (aa U50 (aa U53 U54))) (aa (aa U56 (aa U95 U132)) (aa U198 (aa U203 KE121))))) := aa (aa (aa (aa U1 U2) (aa U3 (aa U4 U5))) (aa (aa U6 U7) (aa U22 (aa U24 U25)))) (aa (aa (aa U30 U35) (aa U50 (aa U53 U54))) (aa (aa U56 (aa U95 U132)) (aa U198 (aa U203 KE121))))
def KL122 : List Nat := [0, 1, 4, 5, 6, 7, 12, 19, 29]
theorem KE122 : KL122 = [0, 1, 4, 5, 6, 7, 12, 19, 29] := rfl
theorem TF122 : type_of% (aa (aa U3 (aa U4 U30)) (aa U50 (aa U135 KE122))) := aa (aa U3 (aa U4 U30)) (aa U50 (aa U135 KE122))
def KL123 : List Nat := [0, 2, 4]
theorem KE123 : KL123 = [0, 2, 4] := rfl
theorem TF123 : type_of% (aa (aa U2 (aa U3 U4)) (aa U30 (aa U50 KE123))) := aa (aa U2 (aa U3 U4)) (aa U30 (aa U50 KE123))
def KL124 : List Nat := [0, 1, 2, 3, 4, 5]
theorem KE124 : KL124 = [0, 1, 2, 3, 4, 5] := rfl
theorem TF124 : type_of% (aa (aa (aa (aa U3 U4) (aa U5 U22)) (aa (aa U24 U25) (aa U26 U28))) (aa (aa (aa U48 U50) (aa U53 U54)) (aa (aa U56 U132) (aa U178 (aa U198 KE124))))) := aa (aa (aa (aa U3 U4) (aa U5 U22)) (aa (aa U24 U25) (aa U26 U28))) (aa (aa (aa U48 U50) (aa U53 U54)) (aa (aa U56 U132) (aa U178 (aa U198 KE124))))
def KL126 : List Nat := [0, 2, 3, 4, 5, 8, 13, 25, 32, 44]
theorem KE126 : KL126 = [0, 2, 3, 4, 5, 8, 13, 25, 32, 44] := rfl
theorem TF126 : type_of% (aa (aa U2 (aa U3 U4)) (aa U30 (aa U50 KE126))) := aa (aa U2 (aa U3 U4)) (aa U30 (aa U50 KE126))
def KL127 : List Nat := [0, 1, 3, 4, 5, 7, 8, 9, 16]
theorem KE127 : KL127 = [0, 1, 3, 4, 5, 7, 8, 9, 16] := rfl
theorem TF127 : type_of% (aa (aa U3 U4) (aa U30 (aa U50 KE127))) := aa (aa U3 U4) (aa U30 (aa U50 KE127))
def KL128 : List Nat := [0, 1, 2, 3, 6, 7, 8, 9, 10, 11, 12, 13, 14, 18, 30, 36, 58, 62, 77, 89]
theorem KE128 : KL128 = [0, 1, 2, 3, 6, 7, 8, 9, 10, 11, 12, 13, 14, 18, 30, 36, 58, 62, 77, 89] := rfl
theorem TF128 : type_of% (aa (aa (aa (aa U1 U2) (aa U3 U4)) (aa (aa U5 U6) (aa U7 (aa U22 U24)))) (aa (aa (aa U25 U30) (aa U35 (aa U50 U53))) (aa (aa U54 U56) (aa U132 (aa U198 KE128))))) := aa (aa (aa (aa U1 U2) (aa U3 U4)) (aa (aa U5 U6) (aa U7 (aa U22 U24)))) (aa (aa (aa U25 U30) (aa U35 (aa U50 U53))) (aa (aa U54 U56) (aa U132 (aa U198 KE128))))
def KL130 : List Nat := [0, 1, 2, 6]
theorem KE130 : KL130 = [0, 1, 2, 6] := rfl
theorem TF130 : type_of% (aa (aa U3 U4) (aa U6 KE130)) := aa (aa U3 U4) (aa U6 KE130)
def KL131 : List Nat := [0, 1, 2, 4, 13, 14, 15, 16, 21]
theorem KE131 : KL131 = [0, 1, 2, 4, 13, 14, 15, 16, 21] := rfl
theorem TF131 : type_of% (aa (aa (aa U1 (aa U2 U3)) (aa (aa U4 U25) (aa U33 U53))) (aa (aa U54 (aa U56 U132)) (aa (aa U175 U183) (aa U198 KE131)))) := aa (aa (aa U1 (aa U2 U3)) (aa (aa U4 U25) (aa U33 U53))) (aa (aa U54 (aa U56 U132)) (aa (aa U175 U183) (aa U198 KE131)))
def KL133 : List Nat := [1, 4]
theorem KE133 : KL133 = [1, 4] := rfl
theorem TF133 : type_of% (aa U3 (aa U4 KE133)) := aa U3 (aa U4 KE133)
def KL134 : List Nat := [0, 1, 2, 3, 5, 6, 7, 9]
theorem KE134 : KL134 = [0, 1, 2, 3, 5, 6, 7, 9] := rfl
theorem TF134 : type_of% (aa (aa (aa U1 U2) (aa U3 (aa U4 U6))) (aa (aa U25 (aa U26 U28)) (aa U163 (aa U178 KE134)))) := aa (aa (aa U1 U2) (aa U3 (aa U4 U6))) (aa (aa U25 (aa U26 U28)) (aa U163 (aa U178 KE134)))
def KL135 : List Nat := [0, 1, 4, 5, 6, 7, 8, 9, 10, 18]
theorem KE135 : KL135 = [0, 1, 4, 5, 6, 7, 8, 9, 10, 18] := rfl
theorem TF135 : type_of% (aa (aa U3 U4) (aa U25 (aa U163 KE135))) := aa (aa U3 U4) (aa U25 (aa U163 KE135))
def KL136 : List Nat := [0, 1, 4, 5, 6, 7, 8, 9, 10, 18]
theorem KE136 : KL136 = [0, 1, 4, 5, 6, 7, 8, 9, 10, 18] := rfl
theorem TF136 : type_of% (aa (aa U3 (aa U4 U26)) (aa U178 (aa U179 KE136))) := aa (aa U3 (aa U4 U26)) (aa U178 (aa U179 KE136))
def KL137 : List Nat := [0, 1, 2, 3, 4]
theorem KE137 : KL137 = [0, 1, 2, 3, 4] := rfl
theorem TF137 : type_of% (aa (aa U3 U4) (aa U33 KE137)) := aa (aa U3 U4) (aa U33 KE137)
def KL138 : List Nat := [0, 1, 2]
theorem KE138 : KL138 = [0, 1, 2] := rfl
theorem TF138 : type_of% (aa (aa U2 U3) (aa U4 KE138)) := aa (aa U2 U3) (aa U4 KE138)
def KL139 : List Nat := [0, 1]
theorem KE139 : KL139 = [0, 1] := rfl
theorem TF139 : type_of% (aa (aa U1 (aa U2 U3)) (aa (aa U4 U25) (aa U48 KE139))) := aa (aa U1 (aa U2 U3)) (aa (aa U4 U25) (aa U48 KE139))
def KL140 : List Nat := [0, 1, 2, 3, 5, 7, 8, 9, 10, 20]
theorem KE140 : KL140 = [0, 1, 2, 3, 5, 7, 8, 9, 10, 20] := rfl
theorem TF140 : type_of% (aa (aa (aa U2 U3) (aa U4 U6)) (aa (aa U8 U25) (aa U48 KE140))) := aa (aa (aa U2 U3) (aa U4 U6)) (aa (aa U8 U25) (aa U48 KE140))
def KL141 : List Nat := [0, 1, 4, 5, 7, 8, 9, 16]
theorem KE141 : KL141 = [0, 1, 4, 5, 7, 8, 9, 16] := rfl
theorem TF141 : type_of% (aa (aa U3 (aa U4 U25)) (aa (aa U29 U48) (aa U149 KE141))) := aa (aa U3 (aa U4 U25)) (aa (aa U29 U48) (aa U149 KE141))
def KL143 : List Nat := [0, 1, 2, 4, 5]
theorem KE143 : KL143 = [0, 1, 2, 4, 5] := rfl
theorem TF143 : type_of% (aa (aa (aa U1 U3) (aa U4 (aa U25 U53))) (aa (aa U54 U56) (aa U132 (aa U198 KE143)))) := aa (aa (aa U1 U3) (aa U4 (aa U25 U53))) (aa (aa U54 U56) (aa U132 (aa U198 KE143)))
def KL144 : List Nat := [0, 2]
theorem KE144 : KL144 = [0, 2] := rfl
theorem TF144 : type_of% (aa (aa U2 U3) (aa U4 KE144)) := aa (aa U2 U3) (aa U4 KE144)
def KL145 : List Nat := [0, 1, 4, 5, 7, 8, 9, 16]
theorem KE145 : KL145 = [0, 1, 4, 5, 7, 8, 9, 16] := rfl
theorem TF145 : type_of% (aa (aa U3 (aa U4 U155)) (aa U156 (aa U158 KE145))) := aa (aa U3 (aa U4 U155)) (aa U156 (aa U158 KE145))
def KL146 : List Nat := [0, 1, 2]
theorem KE146 : KL146 = [0, 1, 2] := rfl
theorem TF146 : type_of% (aa (aa (aa (aa U1 U2) (aa U3 U4)) (aa (aa U25 U26) (aa U28 U48))) (aa (aa (aa U50 U53) (aa U54 U56)) (aa (aa U132 U153) (aa U178 (aa U198 KE146))))) := aa (aa (aa (aa U1 U2) (aa U3 U4)) (aa (aa U25 U26) (aa U28 U48))) (aa (aa (aa U50 U53) (aa U54 U56)) (aa (aa U132 U153) (aa U178 (aa U198 KE146))))
def KL147 : List Nat := [0, 1, 2]
theorem KE147 : KL147 = [0, 1, 2] := rfl
theorem TF147 : type_of% (aa (aa (aa (aa U1 U2) (aa U3 U4)) (aa (aa U25 U26) (aa U28 U48))) (aa (aa (aa U50 U53) (aa U54 U56)) (aa (aa U132 U153) (aa U178 (aa U198 KE147))))) := aa (aa (aa (aa U1 U2) (aa U3 U4)) (aa (aa U25 U26) (aa U28 U48))) (aa (aa (aa U50 U53) (aa U54 U56)) (aa (aa U132 U153) (aa U178 (aa U198 KE147))))
def KL148 : List Nat := [0, 1, 2]
theorem KE148 : KL148 = [0, 1, 2] := rfl
theorem TF148 : type_of% (aa (aa (aa (aa U1 U2) (aa U3 U4)) (aa (aa U5 U25) (aa U26 (aa U28 U48)))) (aa (aa (aa U50 U53) (aa U54 U56)) (aa (aa U132 U153) (aa U178 (aa U198 KE148))))) := aa (aa (aa (aa U1 U2) (aa U3 U4)) (aa (aa U5 U25) (aa U26 (aa U28 U48)))) (aa (aa (aa U50 U53) (aa U54 U56)) (aa (aa U132 U153) (aa U178 (aa U198 KE148))))
def KL149 : List Nat := [0, 1, 2, 3]
theorem KE149 : KL149 = [0, 1, 2, 3] := rfl
theorem TF149 : type_of% (aa (aa (aa (aa U1 U2) (aa U3 (aa U4 U6))) (aa (aa U7 U25) (aa U26 (aa U28 U35)))) (aa (aa (aa U48 U50) (aa U53 (aa U54 U56))) (aa (aa U132 U153) (aa U178 (aa U198 KE149))))) := aa (aa (aa (aa U1 U2) (aa U3 (aa U4 U6))) (aa (aa U7 U25) (aa U26 (aa U28 U35)))) (aa (aa (aa U48 U50) (aa U53 (aa U54 U56))) (aa (aa U132 U153) (aa U178 (aa U198 KE149))))
def KL150 : List Nat := [0, 1, 2]
theorem KE150 : KL150 = [0, 1, 2] := rfl
theorem TF150 : type_of% (aa (aa (aa (aa U1 U2) (aa U3 U4)) (aa (aa U6 U25) (aa U26 (aa U28 U48)))) (aa (aa (aa U50 U53) (aa U54 U56)) (aa (aa U132 U153) (aa U178 (aa U198 KE150))))) := aa (aa (aa (aa U1 U2) (aa U3 U4)) (aa (aa U6 U25) (aa U26 (aa U28 U48)))) (aa (aa (aa U50 U53) (aa U54 U56)) (aa (aa U132 U153) (aa U178 (aa U198 KE150))))
def KL151 : List Nat := [0, 1, 2]
theorem KE151 : KL151 = [0, 1, 2] := rfl
theorem TF151 : type_of% (aa (aa (aa (aa U1 U2) (aa U3 U4)) (aa (aa U25 U26) (aa U28 (aa U48 U50)))) (aa (aa (aa U53 U54) (aa U56 U132)) (aa (aa U137 U153) (aa U178 (aa U198 KE151))))) := aa (aa (aa (aa U1 U2) (aa U3 U4)) (aa (aa U25 U26) (aa U28 (aa U48 U50)))) (aa (aa (aa U53 U54) (aa U56 U132)) (aa (aa U137 U153) (aa U178 (aa U198 KE151))))
def KL152 : List Nat := [0, 1, 4]
theorem KE152 : KL152 = [0, 1, 4] := rfl
theorem TF152 : type_of% (aa (aa U3 U4) (aa U25 (aa U137 KE152))) := aa (aa U3 U4) (aa U25 (aa U137 KE152))
def KL153 : List Nat := [0, 1, 3]
theorem KE153 : KL153 = [0, 1, 3] := rfl
theorem TF153 : type_of% (aa (aa (aa (aa U2 U3) (aa U4 U6)) (aa (aa U8 U25) (aa U26 (aa U28 U48)))) (aa (aa (aa U50 U53) (aa U54 U56)) (aa (aa U132 U153) (aa U178 (aa U198 KE153))))) := aa (aa (aa (aa U2 U3) (aa U4 U6)) (aa (aa U8 U25) (aa U26 (aa U28 U48)))) (aa (aa (aa U50 U53) (aa U54 U56)) (aa (aa U132 U153) (aa U178 (aa U198 KE153))))
def KL154 : List Nat := [0, 1, 4]
theorem KE154 : KL154 = [0, 1, 4] := rfl
theorem TF154 : type_of% (aa (aa U3 U4) (aa U25 KE154)) := aa (aa U3 U4) (aa U25 KE154)
def KL155 : List Nat := [0, 1, 4, 5, 6, 7, 8, 9]
theorem KE155 : KL155 = [0, 1, 4, 5, 6, 7, 8, 9] := rfl
theorem TF155 : type_of% (aa (aa U1 (aa U4 U5)) (aa (aa U190 U213) (aa U216 KE155))) := aa (aa U1 (aa U4 U5)) (aa (aa U190 U213) (aa U216 KE155))
def KL156 : List Nat := [0, 1, 2]
theorem KE156 : KL156 = [0, 1, 2] := rfl
theorem TF156 : type_of% (aa (aa U2 (aa U3 U26)) (aa (aa U178 U193) (aa U194 KE156))) := aa (aa U2 (aa U3 U26)) (aa (aa U178 U193) (aa U194 KE156))
def KL157 : List Nat := [0, 1, 2, 4, 5, 6, 7, 44, 47, 77, 81, 97]
theorem KE157 : KL157 = [0, 1, 2, 4, 5, 6, 7, 44, 47, 77, 81, 97] := rfl
theorem TF157 : type_of% (aa (aa (aa U1 U2) (aa U3 (aa U4 U25))) (aa (aa U53 (aa U54 U56)) (aa U132 (aa U198 KE157)))) := aa (aa (aa U1 U2) (aa U3 (aa U4 U25))) (aa (aa U53 (aa U54 U56)) (aa U132 (aa U198 KE157)))
def KL159 : List Nat := [0, 2]
theorem KE159 : KL159 = [0, 2] := rfl
theorem TF159 : type_of% (aa (aa U2 U3) (aa U4 KE159)) := aa (aa U2 U3) (aa U4 KE159)
def KL160 : List Nat := [0, 1, 2, 3, 4, 8, 11, 36]
theorem KE160 : KL160 = [0, 1, 2, 3, 4, 8, 11, 36] := rfl
theorem TF160 : type_of% (aa (aa (aa U2 U3) (aa U4 (aa U6 U8))) (aa (aa U25 (aa U26 U28)) (aa U35 (aa U178 KE160)))) := aa (aa (aa U2 U3) (aa U4 (aa U6 U8))) (aa (aa U25 (aa U26 U28)) (aa U35 (aa U178 KE160)))
def KL161 : List Nat := [0, 1, 2, 4, 5, 6, 11, 21]
theorem KE161 : KL161 = [0, 1, 2, 4, 5, 6, 11, 21] := rfl
theorem TF161 : type_of% (aa (aa (aa U1 U2) (aa U3 U4)) (aa (aa U25 U26) (aa U28 (aa U178 KE161)))) := aa (aa (aa U1 U2) (aa U3 U4)) (aa (aa U25 U26) (aa U28 (aa U178 KE161)))
def KL162 : List Nat := [0, 1, 2, 3, 5, 6, 7, 8, 9, 10, 11, 12, 13, 19]
theorem KE162 : KL162 = [0, 1, 2, 3, 5, 6, 7, 8, 9, 10, 11, 12, 13, 19] := rfl
theorem TF162 : type_of% (aa (aa (aa (aa U1 U2) (aa U3 (aa U4 U6))) (aa (aa U7 U22) (aa U24 (aa U25 U26)))) (aa (aa (aa U28 U29) (aa U30 (aa U48 U50))) (aa (aa U56 (aa U82 U113)) (aa U115 (aa U178 KE162))))) := aa (aa (aa (aa U1 U2) (aa U3 (aa U4 U6))) (aa (aa U7 U22) (aa U24 (aa U25 U26)))) (aa (aa (aa U28 U29) (aa U30 (aa U48 U50))) (aa (aa U56 (aa U82 U113)) (aa U115 (aa U178 KE162))))
def KL163 : List Nat := [0, 1, 2, 4, 5, 6, 7]
theorem KE163 : KL163 = [0, 1, 2, 4, 5, 6, 7] := rfl
theorem TF163 : type_of% (aa (aa U1 (aa U3 U4)) (aa (aa U30 U50) (aa U203 KE163))) := aa (aa U1 (aa U3 U4)) (aa (aa U30 U50) (aa U203 KE163))
def KL164 : List Nat := [0, 1, 2, 3, 4, 5, 6]
theorem KE164 : KL164 = [0, 1, 2, 3, 4, 5, 6] := rfl
theorem TF164 : type_of% (aa (aa (aa U3 U6) (aa U25 (aa U53 U54))) (aa (aa U56 (aa U132 U198)) (aa U202 (aa U203 KE164)))) := aa (aa (aa U3 U6) (aa U25 (aa U53 U54))) (aa (aa U56 (aa U132 U198)) (aa U202 (aa U203 KE164)))
def KL165 : List Nat := [0, 1, 2, 3, 4]
theorem KE165 : KL165 = [0, 1, 2, 3, 4] := rfl
theorem TF165 : type_of% (aa (aa (aa U1 U2) (aa U3 U4)) (aa (aa U25 U50) (aa KE165 KT))) := aa (aa (aa U1 U2) (aa U3 U4)) (aa (aa U25 U50) (aa KE165 KT))
def KL166 : List Nat := [0, 1, 4, 5, 7, 8, 9, 16]
theorem KE166 : KL166 = [0, 1, 4, 5, 7, 8, 9, 16] := rfl
theorem TF166 : type_of% (aa (aa U3 (aa U4 U30)) (aa U50 (aa U135 KE166))) := aa (aa U3 (aa U4 U30)) (aa U50 (aa U135 KE166))
def KL170 : List Nat := [0, 1, 2]
theorem KE170 : KL170 = [0, 1, 2] := rfl
theorem TF170 : type_of% (aa (aa (aa U1 (aa U2 U3)) (aa U4 (aa U25 U53))) (aa (aa U54 (aa U56 U132)) (aa U175 (aa U198 KE170)))) := aa (aa (aa U1 (aa U2 U3)) (aa U4 (aa U25 U53))) (aa (aa U54 (aa U56 U132)) (aa U175 (aa U198 KE170)))
def KL171 : List Nat := [0, 1, 2]
theorem KE171 : KL171 = [0, 1, 2] := rfl
theorem TF171 : type_of% (aa (aa (aa U2 U3) (aa U4 (aa U25 U53))) (aa (aa U54 (aa U56 U132)) (aa U175 (aa U198 KE171)))) := aa (aa (aa U2 U3) (aa U4 (aa U25 U53))) (aa (aa U54 (aa U56 U132)) (aa U175 (aa U198 KE171)))
def KL172 : List Nat := [0, 1, 2, 3, 5, 11, 12, 13, 14, 28]
theorem KE172 : KL172 = [0, 1, 2, 3, 5, 11, 12, 13, 14, 28] := rfl
theorem TF172 : type_of% (aa (aa (aa U1 (aa U2 U3)) (aa U4 (aa U25 U53))) (aa (aa U54 (aa U56 U132)) (aa (aa U175 U198) (aa U230 KE172)))) := aa (aa (aa U1 (aa U2 U3)) (aa U4 (aa U25 U53))) (aa (aa U54 (aa U56 U132)) (aa (aa U175 U198) (aa U230 KE172)))
def KL173 : List Nat := [0, 1, 2]
theorem KE173 : KL173 = [0, 1, 2] := rfl
theorem TF173 : type_of% (aa (aa (aa U1 (aa U2 U3)) (aa U4 (aa U25 U53))) (aa (aa U54 (aa U56 U132)) (aa (aa U137 U175) (aa U198 KE173)))) := aa (aa (aa U1 (aa U2 U3)) (aa U4 (aa U25 U53))) (aa (aa U54 (aa U56 U132)) (aa (aa U137 U175) (aa U198 KE173)))
def KL175 : List Nat := [0, 1, 4, 5, 7, 10, 11, 12, 13]
theorem KE175 : KL175 = [0, 1, 4, 5, 7, 10, 11, 12, 13] := rfl
theorem TF175 : type_of% (aa (aa U1 U3) (aa U4 (aa U25 KE175))) := aa (aa U1 U3) (aa U4 (aa U25 KE175))
def KL176 : List Nat := [0, 1, 4, 5, 7, 8, 9, 16]
theorem KE176 : KL176 = [0, 1, 4, 5, 7, 8, 9, 16] := rfl
theorem TF176 : type_of% (aa (aa U3 U4) (aa U25 (aa U137 KE176))) := aa (aa U3 U4) (aa U25 (aa U137 KE176))
def KL177 : List Nat := [0, 1, 4, 5, 7, 8, 9, 16]
theorem KE177 : KL177 = [0, 1, 4, 5, 7, 8, 9, 16] := rfl
theorem TF177 : type_of% (aa (aa U3 U4) (aa U25 KE177)) := aa (aa U3 U4) (aa U25 KE177)
def KL179 : List Nat := [0, 1, 4, 5, 6, 7, 8, 9, 10, 11, 12, 13]
theorem KE179 : KL179 = [0, 1, 4, 5, 6, 7, 8, 9, 10, 11, 12, 13] := rfl
theorem TF179 : type_of% (aa (aa U4 U5) (aa U190 (aa U216 KE179))) := aa (aa U4 U5) (aa U190 (aa U216 KE179))
def KL180 : List Nat := [0, 1, 3, 8, 18]
theorem KE180 : KL180 = [0, 1, 3, 8, 18] := rfl
theorem TF180 : type_of% (aa (aa U3 (aa U4 U26)) (aa U178 (aa U179 KE180))) := aa (aa U3 (aa U4 U26)) (aa U178 (aa U179 KE180))
def KL181 : List Nat := [0, 1, 2, 3, 6, 7, 8, 9, 10, 11, 28]
theorem KE181 : KL181 = [0, 1, 2, 3, 6, 7, 8, 9, 10, 11, 28] := rfl
theorem TF181 : type_of% (aa (aa (aa U1 (aa U2 U3)) (aa (aa U4 U25) (aa U50 U53))) (aa (aa U54 (aa U56 U132)) (aa (aa U135 U198) (aa KE181 KT)))) := aa (aa (aa U1 (aa U2 U3)) (aa (aa U4 U25) (aa U50 U53))) (aa (aa U54 (aa U56 U132)) (aa (aa U135 U198) (aa KE181 KT)))
def KL193 : List Nat := [0, 2]
theorem KE193 : KL193 = [0, 2] := rfl
theorem TF193 : type_of% (aa (aa U2 U3) (aa U4 KE193)) := aa (aa U2 U3) (aa U4 KE193)
theorem jw : type_of% (@jW Tryz.prog mixed) := @jW Tryz.prog mixed
end Go.Proofs.YtbfhenoiienghaaGreat
