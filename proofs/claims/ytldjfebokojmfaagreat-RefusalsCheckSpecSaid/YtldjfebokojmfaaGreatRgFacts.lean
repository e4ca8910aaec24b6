import Derived.Test.YtldjfebokojmfaaGreatProg
import Derived.Test.YtldjfebokojmfaaGreatRgFk
import Derived.KernelRfl
namespace Go.Proofs.YtldjfebokojmfaaGreat
open Go Go.Fk
theorem mixed : Tryz.prog.follows .mixedOrders = true := by kernel_rfl
theorem un {t : TypeId} {o : Option TypeDesc} (n : Nat) (h : Tryz.prog.underlying t = o) (c : Tryz.prog.cellsOf t = n := by kernel_rfl) : Tryz.prog.underlying t = o ∧ Tryz.prog.cellsOf t = n := ⟨h, c⟩
theorem u1 {t : TypeId} {o : Option TypeDesc} (h : Tryz.prog.underlying t = o) (c : Tryz.prog.cellsOf t = 1 := by kernel_rfl) : Tryz.prog.underlying t = o ∧ Tryz.prog.cellsOf t = 1 := ⟨h, c⟩
theorem cells3 : Tryz.prog.cellsOf 3 = 1 := by kernel_rfl
theorem cells4 : Tryz.prog.cellsOf 4 = 1 := by kernel_rfl
theorem cells22 : Tryz.prog.cellsOf 22 = 1 := by kernel_rfl
theorem cells24 : Tryz.prog.cellsOf 24 = 2 := by kernel_rfl
theorem cells25 : Tryz.prog.cellsOf 25 = 1 := by kernel_rfl
theorem cells26 : Tryz.prog.cellsOf 26 = 1 := by kernel_rfl
theorem cells28 : Tryz.prog.cellsOf 28 = 3 := by kernel_rfl
theorem cells29 : Tryz.prog.cellsOf 29 = 1 := by kernel_rfl
theorem cells32 : Tryz.prog.cellsOf 32 = 1 := by kernel_rfl
theorem cells34 : Tryz.prog.cellsOf 34 = 3 := by kernel_rfl
theorem cells36 : Tryz.prog.cellsOf 36 = 6 := by kernel_rfl
theorem cells37 : Tryz.prog.cellsOf 37 = 1 := by kernel_rfl
theorem cells50 : Tryz.prog.cellsOf 50 = 11 := by kernel_rfl
theorem cells53 : Tryz.prog.cellsOf 53 = 6 := by kernel_rfl
theorem cells54 : Tryz.prog.cellsOf 54 = 1 := by kernel_rfl
theorem cells56 : Tryz.prog.cellsOf 56 = 8 := by kernel_rfl
theorem cells59 : Tryz.prog.cellsOf 59 = 1 := by kernel_rfl
theorem cells61 : Tryz.prog.cellsOf 61 = 3 := by kernel_rfl
theorem cells78 : Tryz.prog.cellsOf 78 = 3 := by kernel_rfl
theorem cells79 : Tryz.prog.cellsOf 79 = 1 := by kernel_rfl
theorem cells80 : Tryz.prog.cellsOf 80 = 1 := by kernel_rfl
theorem cells82 : Tryz.prog.cellsOf 82 = 6 := by kernel_rfl
theorem cells89 : Tryz.prog.cellsOf 89 = 1 := by kernel_rfl
theorem cells90 : Tryz.prog.cellsOf 90 = 1 := by kernel_rfl
theorem cells92 : Tryz.prog.cellsOf 92 = 2 := by kernel_rfl
theorem cells97 : Tryz.prog.cellsOf 97 = 1 := by kernel_rfl
theorem cells126 : Tryz.prog.cellsOf 126 = 2 := by kernel_rfl
theorem cells137 : Tryz.prog.cellsOf 137 = 23 := by kernel_rfl
theorem cells162 : Tryz.prog.cellsOf 162 = 2 := by kernel_rfl
theorem ti3 : TI Tryz.prog 3 (.int .i64 0) 1 8 := ⟨by kernel_rfl⟩
theorem ti4 : TI Tryz.prog 4 (.bool false) 1 1 := ⟨by kernel_rfl⟩
theorem ti24 : TI Tryz.prog 24 (.agg #[.int .i64 0, .slice none 0 0]) 2 32 := ⟨by kernel_rfl⟩
theorem ti25 : TI Tryz.prog 25 (.slice none 0 0) 1 24 := ⟨by kernel_rfl⟩
theorem ti28 : TI Tryz.prog 28 (.agg #[.slice none 0 0, .slice none 0 0, .slice none 0 0]) 3 72 := ⟨by kernel_rfl⟩
theorem ti30 : TI Tryz.prog 30 (.nilFunc) 1 8 := ⟨by kernel_rfl⟩
theorem ti34 : TI Tryz.prog 34 (.agg #[.int .i64 0, .int .i64 0, .int .i64 0]) 3 24 := ⟨by kernel_rfl⟩
theorem ti36 : TI Tryz.prog 36 (.agg #[.int .i64 0, .slice none 0 0, .int .i64 0, .int .i64 0, .int .i64 0, .int .i64 0]) 6 64 := ⟨by kernel_rfl⟩
theorem ti37 : TI Tryz.prog 37 (.int .i64 0) 1 8 := ⟨by kernel_rfl⟩
theorem ti50 : TI Tryz.prog 50 (.agg #[.int .i64 0, .int .i64 0, .int .i64 0, .int .i64 0, .int .i64 0, .int .i64 0, .int .i64 0, .int .i64 0, .slice none 0 0, .bool false, .int .i64 0]) 11 104 := ⟨by kernel_rfl⟩
theorem ti53 : TI Tryz.prog 53 (.agg #[.int .i64 0, .slice none 0 0, .slice none 0 0, .slice none 0 0, .slice none 0 0, .int .i64 0]) 6 112 := ⟨by kernel_rfl⟩
theorem ti54 : TI Tryz.prog 54 (.slice none 0 0) 1 24 := ⟨by kernel_rfl⟩
theorem ti56 : TI Tryz.prog 56 (.agg #[.int .i64 0, .slice none 0 0, .slice none 0 0, .slice none 0 0, .slice none 0 0, .int .i64 0, .slice none 0 0, .slice none 0 0]) 8 160 := ⟨by kernel_rfl⟩
theorem ti59 : TI Tryz.prog 59 (.slice none 0 0) 1 24 := ⟨by kernel_rfl⟩
theorem ti61 : TI Tryz.prog 61 (.agg #[.slice none 0 0, .slice none 0 0, .slice none 0 0]) 3 72 := ⟨by kernel_rfl⟩
theorem ti78 : TI Tryz.prog 78 (.agg #[.int .i64 0, .int .i64 0, .int .i64 0]) 3 24 := ⟨by kernel_rfl⟩
theorem ti82 : TI Tryz.prog 82 (.agg #[.slice none 0 0, .slice none 0 0, .int .i64 0, .int .i64 0, .slice none 0 0, .slice none 0 0]) 6 112 := ⟨by kernel_rfl⟩
theorem ti89 : TI Tryz.prog 89 (.map none) 1 8 := ⟨by kernel_rfl⟩
theorem ti90 : TI Tryz.prog 90 (.nilFunc) 1 8 := ⟨by kernel_rfl⟩
theorem ti92 : TI Tryz.prog 92 (.agg #[.int .i64 0, .int .i64 0]) 2 16 := ⟨by kernel_rfl⟩
theorem ti97 : TI Tryz.prog 97 (.nilFunc) 1 8 := ⟨by kernel_rfl⟩
theorem ti126 : TI Tryz.prog 126 (.agg #[.int .i64 0, .int .i64 0]) 2 16 := ⟨by kernel_rfl⟩
theorem ti130 : TI Tryz.prog 130 (.nilFunc) 1 8 := ⟨by kernel_rfl⟩
theorem ti137 : TI Tryz.prog 137 (.agg #[.slice none 0 0, .slice none 0 0, .slice none 0 0, .slice none 0 0, .slice none 0 0, .int .i64 0, .int .i64 0, .slice none 0 0, .slice none 0 0, .int .i64 0, .int .i64 0, .int .i64 0, .int .i64 0, .int .i64 0, .int .i64 0, .int .i64 0, .int .i64 0, .slice none 0 0, .bool false, .int .i64 0, .int .i64 0, .int .i64 0, .int .i64 0]) 23 312 := ⟨by kernel_rfl⟩
theorem ti140 : TI Tryz.prog 140 (.nilFunc) 1 8 := ⟨by kernel_rfl⟩
theorem ti162 : TI Tryz.prog 162 (.agg #[.int .i64 0, .int .i64 0]) 2 16 := ⟨by kernel_rfl⟩
theorem call5 : callable Tryz.prog 5 = true := by kernel_rfl
theorem call6 : callable Tryz.prog 6 = true := by kernel_rfl
theorem call7 : callable Tryz.prog 7 = true := by kernel_rfl
theorem call9 : callable Tryz.prog 9 = true := by kernel_rfl
theorem call10 : callable Tryz.prog 10 = true := by kernel_rfl
theorem call11 : callable Tryz.prog 11 = true := by kernel_rfl
theorem call12 : callable Tryz.prog 12 = true := by kernel_rfl
theorem call13 : callable Tryz.prog 13 = true := by kernel_rfl
theorem call14 : callable Tryz.prog 14 = true := by kernel_rfl
theorem call15 : callable Tryz.prog 15 = true := by kernel_rfl
theorem call16 : callable Tryz.prog 16 = true := by kernel_rfl
theorem call17 : callable Tryz.prog 17 = true := by kernel_rfl
theorem call18 : callable Tryz.prog 18 = true := by kernel_rfl
theorem call19 : callable Tryz.prog 19 = true := by kernel_rfl
theorem call20 : callable Tryz.prog 20 = true := by kernel_rfl
theorem call21 : callable Tryz.prog 21 = true := by kernel_rfl
theorem call26 : callable Tryz.prog 26 = true := by kernel_rfl
theorem call27 : callable Tryz.prog 27 = true := by kernel_rfl
theorem call28 : callable Tryz.prog 28 = true := by kernel_rfl
theorem call29 : callable Tryz.prog 29 = true := by kernel_rfl
theorem call30 : callable Tryz.prog 30 = true := by kernel_rfl
theorem call31 : callable Tryz.prog 31 = true := by kernel_rfl
theorem call32 : callable Tryz.prog 32 = true := by kernel_rfl
theorem call33 : callable Tryz.prog 33 = true := by kernel_rfl
theorem call34 : callable Tryz.prog 34 = true := by kernel_rfl
theorem call35 : callable Tryz.prog 35 = true := by kernel_rfl
theorem call36 : callable Tryz.prog 36 = true := by kernel_rfl
theorem call37 : callable Tryz.prog 37 = true := by kernel_rfl
theorem call38 : callable Tryz.prog 38 = true := by kernel_rfl
theorem call39 : callable Tryz.prog 39 = true := by kernel_rfl
theorem call40 : callable Tryz.prog 40 = true := by kernel_rfl
theorem call41 : callable Tryz.prog 41 = true := by kernel_rfl
theorem call42 : callable Tryz.prog 42 = true := by kernel_rfl
theorem call44 : callable Tryz.prog 44 = true := by kernel_rfl
theorem call45 : callable Tryz.prog 45 = true := by kernel_rfl
theorem call46 : callable Tryz.prog 46 = true := by kernel_rfl
theorem call47 : callable Tryz.prog 47 = true := by kernel_rfl
theorem call48 : callable Tryz.prog 48 = true := by kernel_rfl
theorem call49 : callable Tryz.prog 49 = true := by kernel_rfl
theorem call50 : callable Tryz.prog 50 = true := by kernel_rfl
theorem call51 : callable Tryz.prog 51 = true := by kernel_rfl
theorem call52 : callable Tryz.prog 52 = true := by kernel_rfl
theorem call53 : callable Tryz.prog 53 = true := by kernel_rfl
theorem call54 : callable Tryz.prog 54 = true := by kernel_rfl
theorem call55 : callable Tryz.prog 55 = true := by kernel_rfl
theorem call56 : callable Tryz.prog 56 = true := by kernel_rfl
theorem call57 : callable Tryz.prog 57 = true := by kernel_rfl
theorem call58 : callable Tryz.prog 58 = true := by kernel_rfl
theorem call59 : callable Tryz.prog 59 = true := by kernel_rfl
theorem call60 : callable Tryz.prog 60 = true := by kernel_rfl
theorem call61 : callable Tryz.prog 61 = true := by kernel_rfl
theorem call62 : callable Tryz.prog 62 = true := by kernel_rfl
theorem call63 : callable Tryz.prog 63 = true := by kernel_rfl
theorem call64 : callable Tryz.prog 64 = true := by kernel_rfl
theorem call65 : callable Tryz.prog 65 = true := by kernel_rfl
theorem call66 : callable Tryz.prog 66 = true := by kernel_rfl
theorem call67 : callable Tryz.prog 67 = true := by kernel_rfl
theorem call68 : callable Tryz.prog 68 = true := by kernel_rfl
theorem call69 : callable Tryz.prog 69 = true := by kernel_rfl
theorem call70 : callable Tryz.prog 70 = true := by kernel_rfl
theorem call72 : callable Tryz.prog 72 = true := by kernel_rfl
theorem call73 : callable Tryz.prog 73 = true := by kernel_rfl
theorem call74 : callable Tryz.prog 74 = true := by kernel_rfl
theorem call75 : callable Tryz.prog 75 = true := by kernel_rfl
theorem call76 : callable Tryz.prog 76 = true := by kernel_rfl
theorem call77 : callable Tryz.prog 77 = true := by kernel_rfl
theorem call78 : callable Tryz.prog 78 = true := by kernel_rfl
theorem call79 : callable Tryz.prog 79 = true := by kernel_rfl
theorem call80 : callable Tryz.prog 80 = true := by kernel_rfl
theorem call81 : callable Tryz.prog 81 = true := by kernel_rfl
theorem call82 : callable Tryz.prog 82 = true := by kernel_rfl
theorem call83 : callable Tryz.prog 83 = true := by kernel_rfl
theorem call84 : callable Tryz.prog 84 = true := by kernel_rfl
theorem call85 : callable Tryz.prog 85 = true := by kernel_rfl
theorem call86 : callable Tryz.prog 86 = true := by kernel_rfl
theorem call87 : callable Tryz.prog 87 = true := by kernel_rfl
theorem call88 : callable Tryz.prog 88 = true := by kernel_rfl
theorem call89 : callable Tryz.prog 89 = true := by kernel_rfl
theorem call90 : callable Tryz.prog 90 = true := by kernel_rfl
theorem call92 : callable Tryz.prog 92 = true := by kernel_rfl
theorem call93 : callable Tryz.prog 93 = true := by kernel_rfl
theorem call94 : callable Tryz.prog 94 = true := by kernel_rfl
theorem call95 : callable Tryz.prog 95 = true := by kernel_rfl
theorem call96 : callable Tryz.prog 96 = true := by kernel_rfl
theorem call97 : callable Tryz.prog 97 = true := by kernel_rfl
theorem call98 : callable Tryz.prog 98 = true := by kernel_rfl
theorem call99 : callable Tryz.prog 99 = true := by kernel_rfl
theorem call100 : callable Tryz.prog 100 = true := by kernel_rfl
theorem call101 : callable Tryz.prog 101 = true := by kernel_rfl
theorem call102 : callable Tryz.prog 102 = true := by kernel_rfl
theorem call103 : callable Tryz.prog 103 = true := by kernel_rfl
theorem call104 : callable Tryz.prog 104 = true := by kernel_rfl
theorem call108 : callable Tryz.prog 108 = true := by kernel_rfl
theorem call109 : callable Tryz.prog 109 = true := by kernel_rfl
theorem call110 : callable Tryz.prog 110 = true := by kernel_rfl
theorem call111 : callable Tryz.prog 111 = true := by kernel_rfl
theorem call112 : callable Tryz.prog 112 = true := by kernel_rfl
theorem call113 : callable Tryz.prog 113 = true := by kernel_rfl
theorem call114 : callable Tryz.prog 114 = true := by kernel_rfl
theorem call115 : callable Tryz.prog 115 = true := by kernel_rfl
theorem call116 : callable Tryz.prog 116 = true := by kernel_rfl
theorem call117 : callable Tryz.prog 117 = true := by kernel_rfl
theorem call118 : callable Tryz.prog 118 = true := by kernel_rfl
theorem call119 : callable Tryz.prog 119 = true := by kernel_rfl
theorem call120 : callable Tryz.prog 120 = true := by kernel_rfl
theorem call121 : callable Tryz.prog 121 = true := by kernel_rfl
theorem call122 : callable Tryz.prog 122 = true := by kernel_rfl
theorem call123 : callable Tryz.prog 123 = true := by kernel_rfl
theorem call124 : callable Tryz.prog 124 = true := by kernel_rfl
theorem call125 : callable Tryz.prog 125 = true := by kernel_rfl
theorem call126 : callable Tryz.prog 126 = true := by kernel_rfl
theorem call127 : callable Tryz.prog 127 = true := by kernel_rfl
theorem call128 : callable Tryz.prog 128 = true := by kernel_rfl
theorem call129 : callable Tryz.prog 129 = true := by kernel_rfl
theorem call130 : callable Tryz.prog 130 = true := by kernel_rfl
theorem call142 : callable Tryz.prog 142 = true := by kernel_rfl
theorem call143 : callable Tryz.prog 143 = true := by kernel_rfl
theorem call144 : callable Tryz.prog 144 = true := by kernel_rfl
theorem call145 : callable Tryz.prog 145 = true := by kernel_rfl
theorem call146 : callable Tryz.prog 146 = true := by kernel_rfl
theorem call147 : callable Tryz.prog 147 = true := by kernel_rfl
theorem call148 : callable Tryz.prog 148 = true := by kernel_rfl
theorem call149 : callable Tryz.prog 149 = true := by kernel_rfl
theorem call150 : callable Tryz.prog 150 = true := by kernel_rfl
theorem call151 : callable Tryz.prog 151 = true := by kernel_rfl
theorem call157 : callable Tryz.prog 157 = true := by kernel_rfl
theorem call158 : callable Tryz.prog 158 = true := by kernel_rfl
theorem call160 : callable Tryz.prog 160 = true := by kernel_rfl
theorem call161 : callable Tryz.prog 161 = true := by kernel_rfl
theorem call163 : callable Tryz.prog 163 = true := by kernel_rfl
theorem call164 : callable Tryz.prog 164 = true := by kernel_rfl
theorem U1 : type_of% (u1 Tryz.underlying1) := u1 Tryz.underlying1
theorem U2 : type_of% (u1 Tryz.underlying2) := u1 Tryz.underlying2
theorem U3 : type_of% (u1 Tryz.underlying3) := u1 Tryz.underlying3
theorem U4 : type_of% (u1 Tryz.underlying4) := u1 Tryz.underlying4
theorem U5 : type_of% (u1 Tryz.underlying5) := u1 Tryz.underlying5
theorem U6 : type_of% (u1 Tryz.underlying6) := u1 Tryz.underlying6
theorem U7 : type_of% (un 4 Tryz.underlying7) := un 4 Tryz.underlying7
theorem U8 : type_of% (un 4 Tryz.underlying8) := un 4 Tryz.underlying8
theorem U9 : type_of% (u1 Tryz.underlying9) := u1 Tryz.underlying9
theorem U10 : type_of% (u1 Tryz.underlying10) := u1 Tryz.underlying10
theorem U11 : type_of% (u1 Tryz.underlying11) := u1 Tryz.underlying11
theorem U12 : type_of% (u1 Tryz.underlying12) := u1 Tryz.underlying12
theorem U13 : type_of% (un 2 Tryz.underlying13) := un 2 Tryz.underlying13
theorem U14 : type_of% (un 2 Tryz.underlying14) := un 2 Tryz.underlying14
theorem U15 : type_of% (u1 Tryz.underlying15) := u1 Tryz.underlying15
theorem U16 : type_of% (u1 Tryz.underlying16) := u1 Tryz.underlying16
theorem U17 : type_of% (u1 Tryz.underlying17) := u1 Tryz.underlying17
theorem U18 : type_of% (u1 Tryz.underlying18) := u1 Tryz.underlying18
theorem U19 : type_of% (u1 Tryz.underlying19) := u1 Tryz.underlying19
theorem U21 : type_of% (u1 Tryz.underlying21) := u1 Tryz.underlying21
theorem U22 : type_of% (u1 Tryz.underlying22) := u1 Tryz.underlying22
theorem U23 : type_of% (un 2 Tryz.underlying23) := un 2 Tryz.underlying23
theorem U24 : type_of% (un 2 Tryz.underlying24) := un 2 Tryz.underlying24
theorem U25 : type_of% (u1 Tryz.underlying25) := u1 Tryz.underlying25
theorem U26 : type_of% (u1 Tryz.underlying26) := u1 Tryz.underlying26
theorem U27 : type_of% (un 3 Tryz.underlying27) := un 3 Tryz.underlying27
theorem U28 : type_of% (un 3 Tryz.underlying28) := un 3 Tryz.underlying28
theorem U29 : type_of% (u1 Tryz.underlying29) := u1 Tryz.underlying29
theorem U30 : type_of% (u1 Tryz.underlying30) := u1 Tryz.underlying30
theorem U31 : type_of% (u1 Tryz.underlying31) := u1 Tryz.underlying31
theorem U32 : type_of% (u1 Tryz.underlying32) := u1 Tryz.underlying32
theorem U33 : type_of% (un 3 Tryz.underlying33) := un 3 Tryz.underlying33
theorem U34 : type_of% (un 3 Tryz.underlying34) := un 3 Tryz.underlying34
theorem U35 : type_of% (un 6 Tryz.underlying35) := un 6 Tryz.underlying35
theorem U36 : type_of% (un 6 Tryz.underlying36) := un 6 Tryz.underlying36
theorem U37 : type_of% (u1 Tryz.underlying37) := u1 Tryz.underlying37
theorem U39 : type_of% (u1 Tryz.underlying39) := u1 Tryz.underlying39
theorem U40 : type_of% (u1 Tryz.underlying40) := u1 Tryz.underlying40
theorem U41 : type_of% (u1 Tryz.underlying41) := u1 Tryz.underlying41
theorem U42 : type_of% (u1 Tryz.underlying42) := u1 Tryz.underlying42
theorem U43 : type_of% (u1 Tryz.underlying43) := u1 Tryz.underlying43
theorem U45 : type_of% (u1 Tryz.underlying45) := u1 Tryz.underlying45
theorem U46 : type_of% (u1 Tryz.underlying46) := u1 Tryz.underlying46
theorem U48 : type_of% (u1 Tryz.underlying48) := u1 Tryz.underlying48
theorem U49 : type_of% (un 11 Tryz.underlying49) := un 11 Tryz.underlying49
theorem U50 : type_of% (un 11 Tryz.underlying50) := un 11 Tryz.underlying50
theorem U51 : type_of% (u1 Tryz.underlying51) := u1 Tryz.underlying51
theorem U52 : type_of% (un 6 Tryz.underlying52) := un 6 Tryz.underlying52
theorem U53 : type_of% (un 6 Tryz.underlying53) := un 6 Tryz.underlying53
theorem U54 : type_of% (u1 Tryz.underlying54) := u1 Tryz.underlying54
theorem U55 : type_of% (un 8 Tryz.underlying55) := un 8 Tryz.underlying55
theorem U56 : type_of% (un 8 Tryz.underlying56) := un 8 Tryz.underlying56
theorem U58 : type_of% (u1 Tryz.underlying58) := u1 Tryz.underlying58
theorem U59 : type_of% (u1 Tryz.underlying59) := u1 Tryz.underlying59
theorem U60 : type_of% (un 3 Tryz.underlying60) := un 3 Tryz.underlying60
theorem U61 : type_of% (un 3 Tryz.underlying61) := un 3 Tryz.underlying61
theorem U63 : type_of% (u1 Tryz.underlying63) := u1 Tryz.underlying63
theorem U64 : type_of% (u1 Tryz.underlying64) := u1 Tryz.underlying64
theorem U65 : type_of% (u1 Tryz.underlying65) := u1 Tryz.underlying65
theorem U66 : type_of% (u1 Tryz.underlying66) := u1 Tryz.underlying66
theorem U67 : type_of% (u1 Tryz.underlying67) := u1 Tryz.underlying67
theorem U69 : type_of% (u1 Tryz.underlying69) := u1 Tryz.underlying69
theorem U70 : type_of% (u1 Tryz.underlying70) := u1 Tryz.underlying70
theorem U71 : type_of% (u1 Tryz.underlying71) := u1 Tryz.underlying71
theorem U72 : type_of% (u1 Tryz.underlying72) := u1 Tryz.underlying72
theorem U73 : type_of% (u1 Tryz.underlying73) := u1 Tryz.underlying73
theorem U74 : type_of% (u1 Tryz.underlying74) := u1 Tryz.underlying74
theorem U75 : type_of% (u1 Tryz.underlying75) := u1 Tryz.underlying75
theorem U76 : type_of% (u1 Tryz.underlying76) := u1 Tryz.underlying76
theorem U77 : type_of% (un 3 Tryz.underlying77) := un 3 Tryz.underlying77
theorem U78 : type_of% (un 3 Tryz.underlying78) := un 3 Tryz.underlying78
theorem U79 : type_of% (u1 Tryz.underlying79) := u1 Tryz.underlying79
theorem U80 : type_of% (u1 Tryz.underlying80) := u1 Tryz.underlying80
theorem U81 : type_of% (un 6 Tryz.underlying81) := un 6 Tryz.underlying81
theorem U82 : type_of% (un 6 Tryz.underlying82) := un 6 Tryz.underlying82
theorem U83 : type_of% (u1 Tryz.underlying83) := u1 Tryz.underlying83
theorem U84 : type_of% (u1 Tryz.underlying84) := u1 Tryz.underlying84
theorem U86 : type_of% (u1 Tryz.underlying86) := u1 Tryz.underlying86
theorem U87 : type_of% (u1 Tryz.underlying87) := u1 Tryz.underlying87
theorem U88 : type_of% (u1 Tryz.underlying88) := u1 Tryz.underlying88
theorem U89 : type_of% (u1 Tryz.underlying89) := u1 Tryz.underlying89
theorem U90 : type_of% (u1 Tryz.underlying90) := u1 Tryz.underlying90
theorem U91 : type_of% (un 2 Tryz.underlying91) := un 2 Tryz.underlying91
theorem U92 : type_of% (un 2 Tryz.underlying92) := un 2 Tryz.underlying92
theorem U93 : type_of% (u1 Tryz.underlying93) := u1 Tryz.underlying93
theorem U94 : type_of% (u1 Tryz.underlying94) := u1 Tryz.underlying94
theorem U95 : type_of% (u1 Tryz.underlying95) := u1 Tryz.underlying95
theorem U96 : type_of% (u1 Tryz.underlying96) := u1 Tryz.underlying96
theorem U97 : type_of% (u1 Tryz.underlying97) := u1 Tryz.underlying97
theorem U98 : type_of% (u1 Tryz.underlying98) := u1 Tryz.underlying98
theorem U100 : type_of% (u1 Tryz.underlying100) := u1 Tryz.underlying100
theorem U101 : type_of% (u1 Tryz.underlying101) := u1 Tryz.underlying101
theorem U102 : type_of% (u1 Tryz.underlying102) := u1 Tryz.underlying102
theorem U103 : type_of% (u1 Tryz.underlying103) := u1 Tryz.underlying103
theorem U104 : type_of% (u1 Tryz.underlying104) := u1 Tryz.underlying104
theorem U106 : type_of% (u1 Tryz.underlying106) := u1 Tryz.underlying106
theorem U107 : type_of% (u1 Tryz.underlying107) := u1 Tryz.underlying107
theorem U108 : type_of% (u1 Tryz.underlying108) := u1 Tryz.underlying108
theorem U109 : type_of% (u1 Tryz.underlying109) := u1 Tryz.underlying109
theorem U110 : type_of% (u1 Tryz.underlying110) := u1 Tryz.underlying110
theorem U111 : type_of% (u1 Tryz.underlying111) := u1 Tryz.underlying111
theorem U112 : type_of% (u1 Tryz.underlying112) := u1 Tryz.underlying112
theorem U113 : type_of% (u1 Tryz.underlying113) := u1 Tryz.underlying113
theorem U114 : type_of% (u1 Tryz.underlying114) := u1 Tryz.underlying114
theorem U115 : type_of% (u1 Tryz.underlying115) := u1 Tryz.underlying115
theorem U116 : type_of% (u1 Tryz.underlying116) := u1 Tryz.underlying116
theorem U117 : type_of% (u1 Tryz.underlying117) := u1 Tryz.underlying117
theorem U118 : type_of% (u1 Tryz.underlying118) := u1 Tryz.underlying118
theorem U119 : type_of% (u1 Tryz.underlying119) := u1 Tryz.underlying119
theorem U120 : type_of% (u1 Tryz.underlying120) := u1 Tryz.underlying120
theorem U121 : type_of% (u1 Tryz.underlying121) := u1 Tryz.underlying121
theorem U122 : type_of% (u1 Tryz.underlying122) := u1 Tryz.underlying122
theorem U123 : type_of% (u1 Tryz.underlying123) := u1 Tryz.underlying123
theorem U124 : type_of% (u1 Tryz.underlying124) := u1 Tryz.underlying124
theorem U125 : type_of% (un 2 Tryz.underlying125) := un 2 Tryz.underlying125
theorem U126 : type_of% (un 2 Tryz.underlying126) := un 2 Tryz.underlying126
theorem U128 : type_of% (u1 Tryz.underlying128) := u1 Tryz.underlying128
theorem U129 : type_of% (u1 Tryz.underlying129) := u1 Tryz.underlying129
theorem U130 : type_of% (u1 Tryz.underlying130) := u1 Tryz.underlying130
theorem U132 : type_of% (u1 Tryz.underlying132) := u1 Tryz.underlying132
theorem U133 : type_of% (u1 Tryz.underlying133) := u1 Tryz.underlying133
theorem U134 : type_of% (u1 Tryz.underlying134) := u1 Tryz.underlying134
theorem U135 : type_of% (u1 Tryz.underlying135) := u1 Tryz.underlying135
theorem U136 : type_of% (un 23 Tryz.underlying136) := un 23 Tryz.underlying136
theorem U137 : type_of% (un 23 Tryz.underlying137) := un 23 Tryz.underlying137
theorem U138 : type_of% (u1 Tryz.underlying138) := u1 Tryz.underlying138
theorem U139 : type_of% (u1 Tryz.underlying139) := u1 Tryz.underlying139
theorem U140 : type_of% (u1 Tryz.underlying140) := u1 Tryz.underlying140
theorem U141 : type_of% (u1 Tryz.underlying141) := u1 Tryz.underlying141
theorem U142 : type_of% (u1 Tryz.underlying142) := u1 Tryz.underlying142
theorem U143 : type_of% (u1 Tryz.underlying143) := u1 Tryz.underlying143
theorem U144 : type_of% (u1 Tryz.underlying144) := u1 Tryz.underlying144
theorem U145 : type_of% (u1 Tryz.underlying145) := u1 Tryz.underlying145
theorem U146 : type_of% (u1 Tryz.underlying146) := u1 Tryz.underlying146
theorem U147 : type_of% (u1 Tryz.underlying147) := u1 Tryz.underlying147
theorem U148 : type_of% (u1 Tryz.underlying148) := u1 Tryz.underlying148
theorem U149 : type_of% (un 7 Tryz.underlying149) := un 7 Tryz.underlying149
theorem U150 : type_of% (un 7 Tryz.underlying150) := un 7 Tryz.underlying150
theorem U151 : type_of% (u1 Tryz.underlying151) := u1 Tryz.underlying151
theorem U152 : type_of% (u1 Tryz.underlying152) := u1 Tryz.underlying152
theorem U153 : type_of% (u1 Tryz.underlying153) := u1 Tryz.underlying153
theorem U154 : type_of% (u1 Tryz.underlying154) := u1 Tryz.underlying154
theorem U155 : type_of% (u1 Tryz.underlying155) := u1 Tryz.underlying155
theorem U156 : type_of% (u1 Tryz.underlying156) := u1 Tryz.underlying156
theorem U157 : type_of% (u1 Tryz.underlying157) := u1 Tryz.underlying157
theorem U158 : type_of% (u1 Tryz.underlying158) := u1 Tryz.underlying158
theorem U159 : type_of% (u1 Tryz.underlying159) := u1 Tryz.underlying159
theorem U160 : type_of% (u1 Tryz.underlying160) := u1 Tryz.underlying160
theorem U161 : type_of% (un 2 Tryz.underlying161) := un 2 Tryz.underlying161
theorem U162 : type_of% (un 2 Tryz.underlying162) := un 2 Tryz.underlying162
theorem U163 : type_of% (u1 Tryz.underlying163) := u1 Tryz.underlying163
theorem U164 : type_of% (u1 Tryz.underlying164) := u1 Tryz.underlying164
theorem U165 : type_of% (u1 Tryz.underlying165) := u1 Tryz.underlying165
theorem U166 : type_of% (u1 Tryz.underlying166) := u1 Tryz.underlying166
theorem U167 : type_of% (u1 Tryz.underlying167) := u1 Tryz.underlying167
theorem U168 : type_of% (u1 Tryz.underlying168) := u1 Tryz.underlying168
theorem U169 : type_of% (u1 Tryz.underlying169) := u1 Tryz.underlying169
theorem U170 : type_of% (u1 Tryz.underlying170) := u1 Tryz.underlying170
theorem U171 : type_of% (u1 Tryz.underlying171) := u1 Tryz.underlying171
theorem U172 : type_of% (u1 Tryz.underlying172) := u1 Tryz.underlying172
theorem U173 : type_of% (u1 Tryz.underlying173) := u1 Tryz.underlying173
theorem U174 : type_of% (u1 Tryz.underlying174) := u1 Tryz.underlying174
theorem U176 : type_of% (u1 Tryz.underlying176) := u1 Tryz.underlying176
theorem U177 : type_of% (u1 Tryz.underlying177) := u1 Tryz.underlying177
theorem U178 : type_of% (u1 Tryz.underlying178) := u1 Tryz.underlying178
theorem U180 : type_of% (u1 Tryz.underlying180) := u1 Tryz.underlying180
theorem U181 : type_of% (u1 Tryz.underlying181) := u1 Tryz.underlying181
theorem U182 : type_of% (u1 Tryz.underlying182) := u1 Tryz.underlying182
theorem U183 : type_of% (u1 Tryz.underlying183) := u1 Tryz.underlying183
theorem U184 : type_of% (u1 Tryz.underlying184) := u1 Tryz.underlying184
theorem U185 : type_of% (u1 Tryz.underlying185) := u1 Tryz.underlying185
theorem U186 : type_of% (u1 Tryz.underlying186) := u1 Tryz.underlying186
theorem U187 : type_of% (u1 Tryz.underlying187) := u1 Tryz.underlying187
theorem U189 : type_of% (u1 Tryz.underlying189) := u1 Tryz.underlying189
theorem U190 : type_of% (u1 Tryz.underlying190) := u1 Tryz.underlying190
theorem U191 : type_of% (u1 Tryz.underlying191) := u1 Tryz.underlying191
theorem U192 : type_of% (u1 Tryz.underlying192) := u1 Tryz.underlying192
theorem U193 : type_of% (u1 Tryz.underlying193) := u1 Tryz.underlying193
theorem U194 : type_of% (u1 Tryz.underlying194) := u1 Tryz.underlying194
theorem U195 : type_of% (u1 Tryz.underlying195) := u1 Tryz.underlying195
theorem U196 : type_of% (u1 Tryz.underlying196) := u1 Tryz.underlying196
theorem U197 : type_of% (u1 Tryz.underlying197) := u1 Tryz.underlying197
theorem U198 : type_of% (u1 Tryz.underlying198) := u1 Tryz.underlying198
theorem U199 : type_of% (u1 Tryz.underlying199) := u1 Tryz.underlying199
theorem U200 : type_of% (u1 Tryz.underlying200) := u1 Tryz.underlying200
theorem U202 : type_of% (u1 Tryz.underlying202) := u1 Tryz.underlying202
theorem U203 : type_of% (u1 Tryz.underlying203) := u1 Tryz.underlying203
theorem U204 : type_of% (u1 Tryz.underlying204) := u1 Tryz.underlying204
theorem U205 : type_of% (u1 Tryz.underlying205) := u1 Tryz.underlying205
theorem U207 : type_of% (u1 Tryz.underlying207) := u1 Tryz.underlying207
theorem U209 : type_of% (u1 Tryz.underlying209) := u1 Tryz.underlying209
theorem U210 : type_of% (u1 Tryz.underlying210) := u1 Tryz.underlying210
theorem U211 : type_of% (un 4 Tryz.underlying211) := un 4 Tryz.underlying211
theorem U212 : type_of% (un 4 Tryz.underlying212) := un 4 Tryz.underlying212
theorem U213 : type_of% (un 0 Tryz.underlying213) := un 0 Tryz.underlying213
theorem U214 : type_of% (un 0 Tryz.underlying214) := un 0 Tryz.underlying214
theorem U215 : type_of% (un 0 Tryz.underlying215) := un 0 Tryz.underlying215
theorem U216 : type_of% (u1 Tryz.underlying216) := u1 Tryz.underlying216
theorem U217 : type_of% (u1 Tryz.underlying217) := u1 Tryz.underlying217
theorem U218 : type_of% (u1 Tryz.underlying218) := u1 Tryz.underlying218
theorem U219 : type_of% (u1 Tryz.underlying219) := u1 Tryz.underlying219
theorem U220 : type_of% (u1 Tryz.underlying220) := u1 Tryz.underlying220
theorem U221 : type_of% (u1 Tryz.underlying221) := u1 Tryz.underlying221
theorem U222 : type_of% (un 11 Tryz.underlying222) := un 11 Tryz.underlying222
theorem U223 : type_of% (un 11 Tryz.underlying223) := un 11 Tryz.underlying223
theorem UT : type_of% (aa (aa (aa (aa (aa (aa (aa U1 (aa U2 U3)) (aa U4 (aa U5 U6))) (aa (aa U7 (aa U8 U9)) (aa U10 (aa U11 U12)))) (aa (aa (aa U13 (aa U14 U15)) (aa U16 (aa U17 U18))) (aa (aa U19 (aa U21 U22)) (aa (aa U23 U24) (aa U25 U26))))) (aa (aa (aa (aa U27 (aa U28 U29)) (aa U30 (aa U31 U32))) (aa (aa U33 (aa U34 U35)) (aa (aa U36 U37) (aa U39 U40)))) (aa (aa (aa U41 (aa U42 U43)) (aa U45 (aa U46 U48))) (aa (aa U49 (aa U50 U51)) (aa (aa U52 U53) (aa U54 U55)))))) (aa (aa (aa (aa (aa U56 (aa U58 U59)) (aa U60 (aa U61 U63))) (aa (aa U64 (aa U65 U66)) (aa U67 (aa U69 U70)))) (aa (aa (aa U71 (aa U72 U73)) (aa U74 (aa U75 U76))) (aa (aa U77 (aa U78 U79)) (aa (aa U80 U81) (aa U82 U83))))) (aa (aa (aa (aa U84 (aa U86 U87)) (aa U88 (aa U89 U90))) (aa (aa U91 (aa U92 U93)) (aa (aa U94 U95) (aa U96 U97)))) (aa (aa (aa U98 (aa U100 U101)) (aa U102 (aa U103 U104))) (aa (aa U106 (aa U107 U108)) (aa (aa U109 U110) (aa U111 U112))))))) (aa (aa (aa (aa (aa (aa U113 (aa U114 U115)) (aa U116 (aa U117 U118))) (aa (aa U119 (aa U120 U121)) (aa U122 (aa U123 U124)))) (aa (aa (aa U125 (aa U126 U128)) (aa U129 (aa U130 U132))) (aa (aa U133 (aa U134 U135)) (aa (aa U136 U137) (aa U138 U139))))) (aa (aa (aa (aa U140 (aa U141 U142)) (aa U143 (aa U144 U145))) (aa (aa U146 (aa U147 U148)) (aa (aa U149 U150) (aa U151 U152)))) (aa (aa (aa U153 (aa U154 U155)) (aa U156 (aa U157 U158))) (aa (aa U159 (aa U160 U161)) (aa (aa U162 U163) (aa U164 U165)))))) (aa (aa (aa (aa (aa U166 (aa U167 U168)) (aa U169 (aa U170 U171))) (aa (aa U172 (aa U173 U174)) (aa (aa U176 U177) (aa U178 U180)))) (aa (aa (aa U181 (aa U182 U183)) (aa U184 (aa U185 U186))) (aa (aa U187 (aa U189 U190)) (aa (aa U191 U192) (aa U193 U194))))) (aa (aa (aa (aa U195 (aa U196 U197)) (aa U198 (aa U199 U200))) (aa (aa U202 (aa U203 U204)) (aa (aa U205 U207) (aa U209 U210)))) (aa (aa (aa U211 (aa U212 U213)) (aa U214 (aa U215 U216))) (aa (aa U217 (aa U218 U219)) (aa (aa U220 U221) (aa U222 U223)))))))) := aa (aa (aa (aa (aa (aa (aa U1 (aa U2 U3)) (aa U4 (aa U5 U6))) (aa (aa U7 (aa U8 U9)) (aa U10 (aa U11 U12)))) (aa (aa (aa U13 (aa U14 U15)) (aa U16 (aa U17 U18))) (aa (aa U19 (aa U21 U22)) (aa (aa U23 U24) (aa U25 U26))))) (aa (aa (aa (aa U27 (aa U28 U29)) (aa U30 (aa U31 U32))) (aa (aa U33 (aa U34 U35)) (aa (aa U36 U37) (aa U39 U40)))) (aa (aa (aa U41 (aa U42 U43)) (aa U45 (aa U46 U48))) (aa (aa U49 (aa U50 U51)) (aa (aa U52 U53) (aa U54 U55)))))) (aa (aa (aa (aa (aa U56 (aa U58 U59)) (aa U60 (aa U61 U63))) (aa (aa U64 (aa U65 U66)) (aa U67 (aa U69 U70)))) (aa (aa (aa U71 (aa U72 U73)) (aa U74 (aa U75 U76))) (aa (aa U77 (aa U78 U79)) (aa (aa U80 U81) (aa U82 U83))))) (aa (aa (aa (aa U84 (aa U86 U87)) (aa U88 (aa U89 U90))) (aa (aa U91 (aa U92 U93)) (aa (aa U94 U95) (aa U96 U97)))) (aa (aa (aa U98 (aa U100 U101)) (aa U102 (aa U103 U104))) (aa (aa U106 (aa U107 U108)) (aa (aa U109 U110) (aa U111 U112))))))) (aa (aa (aa (aa (aa (aa U113 (aa U114 U115)) (aa U116 (aa U117 U118))) (aa (aa U119 (aa U120 U121)) (aa U122 (aa U123 U124)))) (aa (aa (aa U125 (aa U126 U128)) (aa U129 (aa U130 U132))) (aa (aa U133 (aa U134 U135)) (aa (aa U136 U137) (aa U138 U139))))) (aa (aa (aa (aa U140 (aa U141 U142)) (aa U143 (aa U144 U145))) (aa (aa U146 (aa U147 U148)) (aa (aa U149 U150) (aa U151 U152)))) (aa (aa (aa U153 (aa U154 U155)) (aa U156 (aa U157 U158))) (aa (aa U159 (aa U160 U161)) (aa (aa U162 U163) (aa U164 U165)))))) (aa (aa (aa (aa (aa U166 (aa U167 U168)) (aa U169 (aa U170 U171))) (aa (aa U172 (aa U173 U174)) (aa (aa U176 U177) (aa U178 U180)))) (aa (aa (aa U181 (aa U182 U183)) (aa U184 (aa U185 U186))) (aa (aa U187 (aa U189 U190)) (aa (aa U191 U192) (aa U193 U194))))) (aa (aa (aa (aa U195 (aa U196 U197)) (aa U198 (aa U199 U200))) (aa (aa U202 (aa U203 U204)) (aa (aa U205 U207) (aa U209 U210)))) (aa (aa (aa U211 (aa U212 U213)) (aa U214 (aa U215 U216))) (aa (aa U217 (aa U218 U219)) (aa (aa U220 U221) (aa U222 U223)))))))
def KL4 : List Nat := [0, 1, 2, 3, 4, 5, 6, 9, 10, 11, 12, 13, 14, 16, 26]
theorem TF4 : type_of% (aa (aa (aa (aa U1 U3) (aa U4 (aa U10 U22))) (aa (aa U24 (aa U25 U26)) (aa U28 (aa U29 U32)))) (aa (aa (aa U34 U36) (aa U37 (aa U50 U78))) (aa (aa U79 (aa U80 U82)) (aa U126 (aa U162 KL4.eq_1))))) := aa (aa (aa (aa U1 U3) (aa U4 (aa U10 U22))) (aa (aa U24 (aa U25 U26)) (aa U28 (aa U29 U32)))) (aa (aa (aa U34 U36) (aa U37 (aa U50 U78))) (aa (aa U79 (aa U80 U82)) (aa U126 (aa U162 KL4.eq_1))))
def KL5 : List Nat := [0, 1, 2, 3, 6, 7, 8, 9, 10, 11, 12, 13, 14, 15, 18, 19, 20, 21, 22, 23, 24, 25, 26, 27, 28, 29, 33, 34, 35, 36, 37, 38, 39, 40, 41, 123, 180, 231]
theorem TF5 : type_of% (aa (aa (aa (aa U1 U2) (aa U3 (aa U4 U22))) (aa (aa U24 (aa U25 U26)) (aa U28 (aa U29 U32)))) (aa (aa (aa U34 (aa U36 U37)) (aa U50 (aa U78 U79))) (aa (aa U80 (aa U82 U126)) (aa U162 (aa KL5.eq_1 KT))))) := aa (aa (aa (aa U1 U2) (aa U3 (aa U4 U22))) (aa (aa U24 (aa U25 U26)) (aa U28 (aa U29 U32)))) (aa (aa (aa U34 (aa U36 U37)) (aa U50 (aa U78 U79))) (aa (aa U80 (aa U82 U126)) (aa U162 (aa KL5.eq_1 KT))))
def KL6 : List Nat := [0, 1, 2, 3, 4, 6]
theorem TF6 : type_of% (aa (aa (aa (aa U3 U4) (aa U6 U22)) (aa (aa U24 U25) (aa U26 U28))) (aa (aa (aa U29 U50) (aa U78 U79)) (aa (aa U80 U82) (aa U126 (aa U162 KL6.eq_1))))) := aa (aa (aa (aa U3 U4) (aa U6 U22)) (aa (aa U24 U25) (aa U26 U28))) (aa (aa (aa U29 U50) (aa U78 U79)) (aa (aa U80 U82) (aa U126 (aa U162 KL6.eq_1))))
def KL7 : List Nat := [0, 1, 2, 3, 4, 5, 6, 7, 8, 9, 10, 11, 12, 14, 16, 17, 19, 21, 23, 24, 36, 41, 52, 56, 57, 58, 59, 60, 61, 81, 89]
theorem TF7 : type_of% (aa (aa (aa (aa (aa U1 U2) (aa U3 U4)) (aa (aa U6 U8) (aa U9 U10))) (aa (aa (aa U11 U22) (aa U24 U25)) (aa (aa U26 U28) (aa U29 (aa U32 U34))))) (aa (aa (aa (aa U36 U37) (aa U50 U53)) (aa (aa U54 U56) (aa U59 U61))) (aa (aa (aa U65 U78) (aa U79 U80)) (aa (aa U82 U126) (aa U162 (aa KL7.eq_1 KT)))))) := aa (aa (aa (aa (aa U1 U2) (aa U3 U4)) (aa (aa U6 U8) (aa U9 U10))) (aa (aa (aa U11 U22) (aa U24 U25)) (aa (aa U26 U28) (aa U29 (aa U32 U34))))) (aa (aa (aa (aa U36 U37) (aa U50 U53)) (aa (aa U54 U56) (aa U59 U61))) (aa (aa (aa U65 U78) (aa U79 U80)) (aa (aa U82 U126) (aa U162 (aa KL7.eq_1 KT)))))
def KL9 : List Nat := [0, 1, 4]
theorem TF9 : type_of% (aa (aa U3 U4) (aa U25 KL9.eq_1)) := aa (aa U3 U4) (aa U25 KL9.eq_1)
def KL10 : List Nat := [0, 1, 2, 3, 4, 5, 33, 38, 52]
theorem TF10 : type_of% (aa (aa (aa U1 U2) (aa U3 U4)) (aa (aa U32 U34) (aa U36 KL10.eq_1))) := aa (aa (aa U1 U2) (aa U3 U4)) (aa (aa U32 U34) (aa U36 KL10.eq_1))
def KL11 : List Nat := [0, 1, 2]
theorem TF11 : type_of% (aa (aa U2 (aa U3 U4)) (aa (aa U32 U34) (aa U36 KL11.eq_1))) := aa (aa U2 (aa U3 U4)) (aa (aa U32 U34) (aa U36 KL11.eq_1))
def KL12 : List Nat := [0, 1, 2, 3, 4, 5, 6, 9, 10, 11, 12, 23]
theorem TF12 : type_of% (aa (aa (aa (aa U1 (aa U2 U3)) (aa (aa U4 U10) (aa U11 U22))) (aa (aa U24 (aa U25 U26)) (aa (aa U28 U29) (aa U32 U34)))) (aa (aa (aa U36 (aa U37 U50)) (aa (aa U53 U54) (aa U56 U59))) (aa (aa U78 (aa U79 U80)) (aa (aa U82 U126) (aa U162 KL12.eq_1))))) := aa (aa (aa (aa U1 (aa U2 U3)) (aa (aa U4 U10) (aa U11 U22))) (aa (aa U24 (aa U25 U26)) (aa (aa U28 U29) (aa U32 U34)))) (aa (aa (aa U36 (aa U37 U50)) (aa (aa U53 U54) (aa U56 U59))) (aa (aa U78 (aa U79 U80)) (aa (aa U82 U126) (aa U162 KL12.eq_1))))
def KL13 : List Nat := [0, 1, 2, 3, 4, 5, 6, 9, 10, 11, 12, 13, 22]
theorem TF13 : type_of% (aa (aa (aa (aa U1 (aa U3 U4)) (aa U10 (aa U11 U22))) (aa (aa U24 (aa U25 U26)) (aa U28 (aa U29 U32)))) (aa (aa (aa U34 (aa U36 U37)) (aa U50 (aa U54 U59))) (aa (aa U78 (aa U79 U80)) (aa (aa U82 U126) (aa U162 KL13.eq_1))))) := aa (aa (aa (aa U1 (aa U3 U4)) (aa U10 (aa U11 U22))) (aa (aa U24 (aa U25 U26)) (aa U28 (aa U29 U32)))) (aa (aa (aa U34 (aa U36 U37)) (aa U50 (aa U54 U59))) (aa (aa U78 (aa U79 U80)) (aa (aa U82 U126) (aa U162 KL13.eq_1))))
def KL14 : List Nat := [0, 1, 2]
theorem TF14 : type_of% (aa (aa (aa (aa U1 U2) (aa U3 U4)) (aa (aa U22 U24) (aa U25 U26))) (aa (aa (aa U28 U78) (aa U79 U80)) (aa (aa U82 U126) (aa U162 KL14.eq_1)))) := aa (aa (aa (aa U1 U2) (aa U3 U4)) (aa (aa U22 U24) (aa U25 U26))) (aa (aa (aa U28 U78) (aa U79 U80)) (aa (aa U82 U126) (aa U162 KL14.eq_1)))
def KL15 : List Nat := [0, 2]
theorem TF15 : type_of% (aa (aa (aa U2 U3) (aa U4 U5)) (aa (aa U6 U25) (aa U50 KL15.eq_1))) := aa (aa (aa U2 U3) (aa U4 U5)) (aa (aa U6 U25) (aa U50 KL15.eq_1))
def KL16 : List Nat := [0, 1, 2, 3, 4, 6, 7, 8, 9, 10, 36, 41, 45, 59, 66]
theorem TF16 : type_of% (aa (aa (aa (aa U1 U2) (aa U3 (aa U4 U6))) (aa (aa U22 (aa U24 U25)) (aa U26 (aa U28 U29)))) (aa (aa (aa U34 U37) (aa U50 (aa U59 U78))) (aa (aa U79 (aa U80 U82)) (aa U126 (aa U162 KL16.eq_1))))) := aa (aa (aa (aa U1 U2) (aa U3 (aa U4 U6))) (aa (aa U22 (aa U24 U25)) (aa U26 (aa U28 U29)))) (aa (aa (aa U34 U37) (aa U50 (aa U59 U78))) (aa (aa U79 (aa U80 U82)) (aa U126 (aa U162 KL16.eq_1))))
def KL17 : List Nat := [0, 1, 2, 4, 5, 7, 8, 9, 26, 29, 30, 31, 32, 45]
theorem TF17 : type_of% (aa (aa (aa (aa U1 (aa U2 U3)) (aa U4 (aa U5 U22))) (aa (aa U24 (aa U25 U26)) (aa (aa U28 U29) (aa U34 U37)))) (aa (aa (aa U50 (aa U53 U54)) (aa U56 (aa U59 U61))) (aa (aa U78 (aa U79 U80)) (aa (aa U82 U126) (aa U162 KL17.eq_1))))) := aa (aa (aa (aa U1 (aa U2 U3)) (aa U4 (aa U5 U22))) (aa (aa U24 (aa U25 U26)) (aa (aa U28 U29) (aa U34 U37)))) (aa (aa (aa U50 (aa U53 U54)) (aa U56 (aa U59 U61))) (aa (aa U78 (aa U79 U80)) (aa (aa U82 U126) (aa U162 KL17.eq_1))))
def KL18 : List Nat := [0, 1, 2, 3, 4, 5, 6, 7, 8, 9, 10, 11, 12, 13, 14, 15, 16, 17, 18, 24, 30, 31, 32, 33, 48, 58]
theorem TF18 : type_of% (aa (aa (aa (aa U1 (aa U2 U3)) (aa (aa U4 U6) (aa U8 U9))) (aa (aa (aa U10 U22) (aa U24 U25)) (aa (aa U26 U28) (aa U29 U34)))) (aa (aa (aa (aa U37 U50) (aa U54 U59)) (aa (aa U61 U78) (aa U79 U80))) (aa (aa (aa U82 U89) (aa U90 U92)) (aa (aa U126 U162) (aa KL18.eq_1 KT))))) := aa (aa (aa (aa U1 (aa U2 U3)) (aa (aa U4 U6) (aa U8 U9))) (aa (aa (aa U10 U22) (aa U24 U25)) (aa (aa U26 U28) (aa U29 U34)))) (aa (aa (aa (aa U37 U50) (aa U54 U59)) (aa (aa U61 U78) (aa U79 U80))) (aa (aa (aa U82 U89) (aa U90 U92)) (aa (aa U126 U162) (aa KL18.eq_1 KT))))
def KL19 : List Nat := [0, 1, 2]
theorem TF19 : type_of% (aa (aa U2 U3) (aa U64 (aa U65 KL19.eq_1))) := aa (aa U2 U3) (aa U64 (aa U65 KL19.eq_1))
def KL20 : List Nat := [0, 1, 2, 4, 5, 7, 10, 29, 42, 43, 44, 45]
theorem TF20 : type_of% (aa (aa (aa (aa U1 U2) (aa U3 (aa U4 U22))) (aa (aa U24 (aa U25 U26)) (aa U28 (aa U29 U32)))) (aa (aa (aa U34 U36) (aa U50 (aa U53 U54))) (aa (aa U56 (aa U59 U82)) (aa U126 (aa KL20.eq_1 KT))))) := aa (aa (aa (aa U1 U2) (aa U3 (aa U4 U22))) (aa (aa U24 (aa U25 U26)) (aa U28 (aa U29 U32)))) (aa (aa (aa U34 U36) (aa U50 (aa U53 U54))) (aa (aa U56 (aa U59 U82)) (aa U126 (aa KL20.eq_1 KT))))
def KL21 : List Nat := [0, 1, 2, 3, 4, 6, 7, 8, 9, 10, 11, 12, 18, 23, 37]
theorem TF21 : type_of% (aa (aa (aa (aa U1 (aa U2 U3)) (aa U4 (aa U6 U7))) (aa (aa U22 (aa U24 U25)) (aa U26 (aa U28 U29)))) (aa (aa (aa U34 (aa U37 U50)) (aa U54 (aa U59 U78))) (aa (aa U79 (aa U80 U82)) (aa U126 (aa U162 KL21.eq_1))))) := aa (aa (aa (aa U1 (aa U2 U3)) (aa U4 (aa U6 U7))) (aa (aa U22 (aa U24 U25)) (aa U26 (aa U28 U29)))) (aa (aa (aa U34 (aa U37 U50)) (aa U54 (aa U59 U78))) (aa (aa U79 (aa U80 U82)) (aa U126 (aa U162 KL21.eq_1))))
def KL26 : List Nat := [0, 1, 4, 5, 10, 14, 25]
theorem TF26 : type_of% (aa (aa U3 U4) (aa U25 KL26.eq_1)) := aa (aa U3 U4) (aa U25 KL26.eq_1)
def KL27 : List Nat := [0, 1, 2, 4, 5, 6, 16]
theorem TF27 : type_of% (aa (aa U1 (aa U3 U4)) (aa (aa U32 U34) (aa U36 KL27.eq_1))) := aa (aa U1 (aa U3 U4)) (aa (aa U32 U34) (aa U36 KL27.eq_1))
def KL28 : List Nat := [0, 1, 2, 3, 5, 6, 7, 8, 9, 12, 38, 69, 108, 109, 110, 111, 129]
theorem TF28 : type_of% (aa (aa (aa (aa U1 U2) (aa U3 (aa U4 U6))) (aa (aa U22 (aa U24 U25)) (aa U26 (aa U28 U29)))) (aa (aa (aa U32 (aa U34 U36)) (aa U50 (aa U53 U54))) (aa (aa U56 (aa U59 U82)) (aa U126 (aa KL28.eq_1 KT))))) := aa (aa (aa (aa U1 U2) (aa U3 (aa U4 U6))) (aa (aa U22 (aa U24 U25)) (aa U26 (aa U28 U29)))) (aa (aa (aa U32 (aa U34 U36)) (aa U50 (aa U53 U54))) (aa (aa U56 (aa U59 U82)) (aa U126 (aa KL28.eq_1 KT))))
def KL29 : List Nat := [0, 1, 2, 3, 4, 5, 6, 11, 12, 13, 14, 15, 17, 26, 30, 33, 100, 105, 130]
theorem TF29 : type_of% (aa (aa (aa (aa U1 U2) (aa U3 (aa U4 U12))) (aa (aa U22 (aa U24 U25)) (aa U29 (aa U32 U34)))) (aa (aa (aa U36 U50) (aa U54 (aa U59 U78))) (aa (aa U79 (aa U80 U82)) (aa U162 (aa KL29.eq_1 KT))))) := aa (aa (aa (aa U1 U2) (aa U3 (aa U4 U12))) (aa (aa U22 (aa U24 U25)) (aa U29 (aa U32 U34)))) (aa (aa (aa U36 U50) (aa U54 (aa U59 U78))) (aa (aa U79 (aa U80 U82)) (aa U162 (aa KL29.eq_1 KT))))
def KL30 : List Nat := [0, 1, 2, 3, 4, 5, 6, 7, 16, 45, 50, 77]
theorem TF30 : type_of% (aa (aa (aa U1 (aa U2 U3)) (aa (aa U4 U5) (aa U22 U24))) (aa (aa U25 (aa U78 U79)) (aa (aa U80 U82) (aa U162 KL30.eq_1)))) := aa (aa (aa U1 (aa U2 U3)) (aa (aa U4 U5) (aa U22 U24))) (aa (aa U25 (aa U78 U79)) (aa (aa U80 U82) (aa U162 KL30.eq_1)))
def KL31 : List Nat := [0, 1, 2, 3, 4, 6, 7, 8, 12, 16, 20, 24, 37]
theorem TF31 : type_of% (aa (aa (aa (aa U3 U4) (aa U6 U22)) (aa (aa U24 U25) (aa U26 (aa U28 U29)))) (aa (aa (aa U37 U50) (aa U78 U79)) (aa (aa U80 U82) (aa U126 (aa U162 KL31.eq_1))))) := aa (aa (aa (aa U3 U4) (aa U6 U22)) (aa (aa U24 U25) (aa U26 (aa U28 U29)))) (aa (aa (aa U37 U50) (aa U78 U79)) (aa (aa U80 U82) (aa U126 (aa U162 KL31.eq_1))))
def KL32 : List Nat := [0, 1, 2, 3, 4, 5, 6, 7, 8, 9, 10, 11, 12, 19, 32, 37, 47]
theorem TF32 : type_of% (aa (aa (aa (aa U1 (aa U2 U3)) (aa U4 (aa U5 U6))) (aa (aa U7 (aa U22 U24)) (aa U25 (aa U26 U28)))) (aa (aa (aa U29 (aa U34 U37)) (aa U50 (aa U59 U78))) (aa (aa U79 (aa U80 U82)) (aa U126 (aa U162 KL32.eq_1))))) := aa (aa (aa (aa U1 (aa U2 U3)) (aa U4 (aa U5 U6))) (aa (aa U7 (aa U22 U24)) (aa U25 (aa U26 U28)))) (aa (aa (aa U29 (aa U34 U37)) (aa U50 (aa U59 U78))) (aa (aa U79 (aa U80 U82)) (aa U126 (aa U162 KL32.eq_1))))
def KL33 : List Nat := [0, 1, 2, 3, 4, 5, 6, 9, 10, 11, 12, 13, 14, 15, 16, 17, 18, 19, 20, 21, 22, 28, 44, 46, 47, 48, 49, 71, 75, 76, 77, 78, 105, 123, 124, 125, 126, 160]
theorem TF33 : type_of% (aa (aa (aa (aa U1 (aa U2 U3)) (aa U4 (aa U10 U11))) (aa (aa U22 (aa U24 U25)) (aa (aa U26 U28) (aa U29 U34)))) (aa (aa (aa U37 (aa U50 U59)) (aa (aa U61 U78) (aa U79 U80))) (aa (aa U82 (aa U89 U92)) (aa (aa U126 U162) (aa KL33.eq_1 KT))))) := aa (aa (aa (aa U1 (aa U2 U3)) (aa U4 (aa U10 U11))) (aa (aa U22 (aa U24 U25)) (aa (aa U26 U28) (aa U29 U34)))) (aa (aa (aa U37 (aa U50 U59)) (aa (aa U61 U78) (aa U79 U80))) (aa (aa U82 (aa U89 U92)) (aa (aa U126 U162) (aa KL33.eq_1 KT))))
def KL34 : List Nat := [0, 1, 2, 3, 4, 5, 6, 7, 8, 15, 28]
theorem TF34 : type_of% (aa (aa (aa (aa U1 (aa U2 U3)) (aa U4 (aa U5 U6))) (aa (aa U7 (aa U22 U24)) (aa U25 (aa U26 U28)))) (aa (aa (aa U29 (aa U34 U37)) (aa U50 (aa U59 U78))) (aa (aa U79 (aa U80 U82)) (aa (aa U115 U126) (aa U162 KL34.eq_1))))) := aa (aa (aa (aa U1 (aa U2 U3)) (aa U4 (aa U5 U6))) (aa (aa U7 (aa U22 U24)) (aa U25 (aa U26 U28)))) (aa (aa (aa U29 (aa U34 U37)) (aa U50 (aa U59 U78))) (aa (aa U79 (aa U80 U82)) (aa (aa U115 U126) (aa U162 KL34.eq_1))))
def KL35 : List Nat := [0, 1, 2, 3, 4, 6, 7, 8, 9, 13, 18, 28]
theorem TF35 : type_of% (aa (aa (aa (aa U3 U4) (aa U6 U22)) (aa (aa U24 U25) (aa U26 (aa U28 U29)))) (aa (aa (aa U37 U50) (aa U78 (aa U79 U80))) (aa (aa U82 U116) (aa U126 (aa U162 KL35.eq_1))))) := aa (aa (aa (aa U3 U4) (aa U6 U22)) (aa (aa U24 U25) (aa U26 (aa U28 U29)))) (aa (aa (aa U37 U50) (aa U78 (aa U79 U80))) (aa (aa U82 U116) (aa U126 (aa U162 KL35.eq_1))))
def KL36 : List Nat := [0, 1, 2, 3, 4, 5, 6, 7, 9, 10, 12, 13, 14, 15, 16, 26, 30, 35, 36, 37, 38, 62, 84]
theorem TF36 : type_of% (aa (aa (aa (aa U1 U3) (aa U4 (aa U9 U22))) (aa (aa U24 (aa U25 U29)) (aa U34 (aa U50 U54)))) (aa (aa (aa U59 U78) (aa U79 (aa U80 U82))) (aa (aa U89 (aa U90 U92)) (aa U162 (aa KL36.eq_1 KT))))) := aa (aa (aa (aa U1 U3) (aa U4 (aa U9 U22))) (aa (aa U24 (aa U25 U29)) (aa U34 (aa U50 U54)))) (aa (aa (aa U59 U78) (aa U79 (aa U80 U82))) (aa (aa U89 (aa U90 U92)) (aa U162 (aa KL36.eq_1 KT))))
def KL37 : List Nat := [0, 1, 2, 3, 4]
theorem TF37 : type_of% (aa (aa (aa U1 U3) (aa U4 U6)) (aa (aa U25 U50) (aa U92 KL37.eq_1))) := aa (aa (aa U1 U3) (aa U4 U6)) (aa (aa U25 U50) (aa U92 KL37.eq_1))
def KL38 : List Nat := [0, 1, 2]
theorem TF38 : type_of% (aa (aa U1 U2) (aa U3 (aa U92 KL38.eq_1))) := aa (aa U1 U2) (aa U3 (aa U92 KL38.eq_1))
def KL39 : List Nat := [0, 1, 4, 6, 8, 19, 20, 21, 22, 36, 37, 38, 39]
theorem TF39 : type_of% (aa (aa (aa U1 (aa U2 U3)) (aa U4 (aa U25 U34))) (aa (aa U59 (aa U61 U89)) (aa (aa U92 U113) (aa KL39.eq_1 KT)))) := aa (aa (aa U1 (aa U2 U3)) (aa U4 (aa U25 U34))) (aa (aa U59 (aa U61 U89)) (aa (aa U92 U113) (aa KL39.eq_1 KT)))
def KL40 : List Nat := [0, 1, 2, 3, 4, 7, 8, 9, 14]
theorem TF40 : type_of% (aa (aa U3 (aa U4 U25)) (aa U96 (aa U97 KL40.eq_1))) := aa (aa U3 (aa U4 U25)) (aa U96 (aa U97 KL40.eq_1))
def KL41 : List Nat := [0, 1, 2, 3, 4, 5, 9, 10, 12, 19, 37]
theorem TF41 : type_of% (aa (aa (aa U1 U3) (aa U4 U9)) (aa (aa U25 U96) (aa U97 (aa KL41.eq_1 KT)))) := aa (aa (aa U1 U3) (aa U4 U9)) (aa (aa U25 U96) (aa U97 (aa KL41.eq_1 KT)))
def KL42 : List Nat := [0, 1, 2, 3, 5, 6, 7, 8]
theorem TF42 : type_of% (aa (aa (aa (aa U1 U3) (aa U4 (aa U6 U22))) (aa (aa U24 (aa U25 U26)) (aa U28 (aa U29 U34)))) (aa (aa (aa U50 (aa U53 U54)) (aa U56 (aa U59 U78))) (aa (aa U79 (aa U80 U82)) (aa U126 (aa U162 KL42.eq_1))))) := aa (aa (aa (aa U1 U3) (aa U4 (aa U6 U22))) (aa (aa U24 (aa U25 U26)) (aa U28 (aa U29 U34)))) (aa (aa (aa U50 (aa U53 U54)) (aa U56 (aa U59 U78))) (aa (aa U79 (aa U80 U82)) (aa U126 (aa U162 KL42.eq_1))))
def KL44 : List Nat := [0, 1, 4, 5, 6, 7, 8, 9, 10, 15, 25, 37, 56]
theorem TF44 : type_of% (aa (aa (aa U1 (aa U2 U3)) (aa U4 (aa U25 U29))) (aa (aa U34 (aa U50 U59)) (aa U61 (aa KL44.eq_1 KT)))) := aa (aa (aa U1 (aa U2 U3)) (aa U4 (aa U25 U29))) (aa (aa U34 (aa U50 U59)) (aa U61 (aa KL44.eq_1 KT)))
def KL45 : List Nat := [0, 1, 2, 3, 4, 7, 8, 9, 10]
theorem TF45 : type_of% (aa (aa (aa (aa U1 U2) (aa U3 U4)) (aa (aa U6 U8) (aa U22 (aa U24 U25)))) (aa (aa (aa U29 U34) (aa U50 (aa U59 U78))) (aa (aa U79 U80) (aa U82 (aa U162 KL45.eq_1))))) := aa (aa (aa (aa U1 U2) (aa U3 U4)) (aa (aa U6 U8) (aa U22 (aa U24 U25)))) (aa (aa (aa U29 U34) (aa U50 (aa U59 U78))) (aa (aa U79 U80) (aa U82 (aa U162 KL45.eq_1))))
def KL46 : List Nat := [0, 1, 3, 4]
theorem TF46 : type_of% (aa (aa U3 U4) (aa U34 (aa U59 KL46.eq_1))) := aa (aa U3 U4) (aa U34 (aa U59 KL46.eq_1))
def KL47 : List Nat := [0, 1, 2, 4, 5, 6, 7, 8, 9, 10, 11, 12, 13, 21]
theorem TF47 : type_of% (aa (aa (aa (aa U1 U2) (aa U3 (aa U4 U22))) (aa (aa U24 U25) (aa U26 (aa U28 U29)))) (aa (aa (aa U34 U50) (aa U53 (aa U54 U56))) (aa (aa U59 (aa U79 U80)) (aa U82 (aa U126 KL47.eq_1))))) := aa (aa (aa (aa U1 U2) (aa U3 (aa U4 U22))) (aa (aa U24 U25) (aa U26 (aa U28 U29)))) (aa (aa (aa U34 U50) (aa U53 (aa U54 U56))) (aa (aa U59 (aa U79 U80)) (aa U82 (aa U126 KL47.eq_1))))
def KL48 : List Nat := [0, 1, 4, 5, 6, 7, 15]
theorem TF48 : type_of% (aa (aa (aa U2 U3) (aa U4 (aa U25 U29))) (aa (aa U34 U50) (aa U59 (aa U61 KL48.eq_1)))) := aa (aa (aa U2 U3) (aa U4 (aa U25 U29))) (aa (aa U34 U50) (aa U59 (aa U61 KL48.eq_1)))
def KL49 : List Nat := [0, 1, 2, 5, 6, 7, 8, 9, 10, 14, 22]
theorem TF49 : type_of% (aa (aa (aa U2 U3) (aa U4 (aa U6 U7))) (aa (aa U25 (aa U29 U34)) (aa U50 (aa U59 KL49.eq_1)))) := aa (aa (aa U2 U3) (aa U4 (aa U6 U7))) (aa (aa U25 (aa U29 U34)) (aa U50 (aa U59 KL49.eq_1)))
def KL50 : List Nat := [0, 1, 2, 3, 4, 5, 9, 17, 22, 33, 38, 55]
theorem TF50 : type_of% (aa (aa (aa U1 (aa U2 U3)) (aa (aa U4 U5) (aa U22 U24))) (aa (aa (aa U25 U37) (aa U78 U79)) (aa (aa U80 U82) (aa U162 KL50.eq_1)))) := aa (aa (aa U1 (aa U2 U3)) (aa (aa U4 U5) (aa U22 U24))) (aa (aa (aa U25 U37) (aa U78 U79)) (aa (aa U80 U82) (aa U162 KL50.eq_1)))
def KL51 : List Nat := [0, 1, 2, 3, 4, 29, 34, 52, 57, 96]
theorem TF51 : type_of% (aa (aa (aa U1 U2) (aa U3 (aa U4 U25))) (aa (aa U26 U28) (aa U37 (aa U126 KL51.eq_1)))) := aa (aa (aa U1 U2) (aa U3 (aa U4 U25))) (aa (aa U26 U28) (aa U37 (aa U126 KL51.eq_1)))
def KL52 : List Nat := [0, 1, 2, 3, 4, 8, 9, 58, 93, 98, 133]
theorem TF52 : type_of% (aa (aa (aa U1 (aa U2 U3)) (aa U4 (aa U5 U6))) (aa (aa U7 (aa U8 U10)) (aa U25 (aa U50 KL52.eq_1)))) := aa (aa (aa U1 (aa U2 U3)) (aa U4 (aa U5 U6))) (aa (aa U7 (aa U8 U10)) (aa U25 (aa U50 KL52.eq_1)))
def KL53 : List Nat := [0, 1, 2, 3, 6, 7, 8, 9, 10, 11, 12, 13, 14, 18, 30, 36, 58, 62, 77, 89]
theorem TF53 : type_of% (aa (aa (aa (aa U1 U2) (aa U3 U4)) (aa (aa U5 U6) (aa U7 (aa U22 U24)))) (aa (aa (aa U25 U34) (aa U37 (aa U59 U78))) (aa (aa U79 U80) (aa U82 (aa U162 KL53.eq_1))))) := aa (aa (aa (aa U1 U2) (aa U3 U4)) (aa (aa U5 U6) (aa U7 (aa U22 U24)))) (aa (aa (aa U25 U34) (aa U37 (aa U59 U78))) (aa (aa U79 U80) (aa U82 (aa U162 KL53.eq_1))))
def KL54 : List Nat := [0, 1, 2, 3, 4, 5, 6, 7, 8, 9, 10, 11, 13, 70, 86, 89, 100]
theorem TF54 : type_of% (aa (aa (aa (aa U1 U2) (aa U3 (aa U4 U5))) (aa (aa U6 (aa U7 U8)) (aa U22 (aa U24 U25)))) (aa (aa (aa U26 (aa U28 U34)) (aa U37 (aa U50 U78))) (aa (aa U79 (aa U80 U82)) (aa U126 (aa U162 KL54.eq_1))))) := aa (aa (aa (aa U1 U2) (aa U3 (aa U4 U5))) (aa (aa U6 (aa U7 U8)) (aa U22 (aa U24 U25)))) (aa (aa (aa U26 (aa U28 U34)) (aa U37 (aa U50 U78))) (aa (aa U79 (aa U80 U82)) (aa U126 (aa U162 KL54.eq_1))))
def KL55 : List Nat := [0, 1, 2, 3, 4]
theorem TF55 : type_of% (aa (aa (aa U3 (aa U4 U22)) (aa U24 (aa U25 U34))) (aa (aa U37 (aa U78 U79)) (aa (aa U80 U82) (aa U162 KL55.eq_1)))) := aa (aa (aa U3 (aa U4 U22)) (aa U24 (aa U25 U34))) (aa (aa U37 (aa U78 U79)) (aa (aa U80 U82) (aa U162 KL55.eq_1)))
def KL56 : List Nat := [0, 1, 2, 3, 4]
theorem TF56 : type_of% (aa (aa (aa U1 U2) (aa U3 U4)) (aa (aa U25 U34) (aa KL56.eq_1 KT))) := aa (aa (aa U1 U2) (aa U3 U4)) (aa (aa U25 U34) (aa KL56.eq_1 KT))
def KL57 : List Nat := [0, 1, 2, 3, 4, 5, 6, 7, 8, 9]
theorem TF57 : type_of% (aa (aa (aa (aa U1 (aa U2 U3)) (aa U4 (aa U6 U8))) (aa (aa U22 (aa U24 U25)) (aa U26 (aa U28 U34)))) (aa (aa (aa U50 (aa U78 U79)) (aa U80 (aa U82 U126))) (aa (aa U137 (aa U139 U140)) (aa (aa U142 U162) (aa KL57.eq_1 KT))))) := aa (aa (aa (aa U1 (aa U2 U3)) (aa U4 (aa U6 U8))) (aa (aa U22 (aa U24 U25)) (aa U26 (aa U28 U34)))) (aa (aa (aa U50 (aa U78 U79)) (aa U80 (aa U82 U126))) (aa (aa U137 (aa U139 U140)) (aa (aa U142 U162) (aa KL57.eq_1 KT))))
def KL58 : List Nat := [0, 1, 2, 3, 6, 7, 8, 9, 10, 11, 15, 27, 29, 30, 31, 32, 47, 58]
theorem TF58 : type_of% (aa (aa (aa (aa U1 U2) (aa U3 (aa U4 U5))) (aa (aa U6 U7) (aa U22 (aa U24 U25)))) (aa (aa (aa U34 U37) (aa U59 (aa U78 U79))) (aa (aa U80 (aa U82 U113)) (aa U145 (aa U162 KL58.eq_1))))) := aa (aa (aa (aa U1 U2) (aa U3 (aa U4 U5))) (aa (aa U6 U7) (aa U22 (aa U24 U25)))) (aa (aa (aa U34 U37) (aa U59 (aa U78 U79))) (aa (aa U80 (aa U82 U113)) (aa U145 (aa U162 KL58.eq_1))))
def KL59 : List Nat := [0, 1, 4, 5, 6, 7, 12, 19, 29]
theorem TF59 : type_of% (aa (aa U3 (aa U4 U34)) (aa U59 (aa U115 KL59.eq_1))) := aa (aa U3 (aa U4 U34)) (aa U59 (aa U115 KL59.eq_1))
def KL60 : List Nat := [0, 2, 4]
theorem TF60 : type_of% (aa (aa U2 (aa U3 U4)) (aa U34 (aa U59 KL60.eq_1))) := aa (aa U2 (aa U3 U4)) (aa U34 (aa U59 KL60.eq_1))
def KL61 : List Nat := [0, 1, 2, 3, 4, 5]
theorem TF61 : type_of% (aa (aa (aa (aa U3 U4) (aa U5 U22)) (aa (aa U24 U25) (aa U26 U28))) (aa (aa (aa U34 U50) (aa U78 U79)) (aa (aa U80 U82) (aa U126 (aa U162 KL61.eq_1))))) := aa (aa (aa (aa U3 U4) (aa U5 U22)) (aa (aa U24 U25) (aa U26 U28))) (aa (aa (aa U34 U50) (aa U78 U79)) (aa (aa U80 U82) (aa U126 (aa U162 KL61.eq_1))))
def KL62 : List Nat := [0, 1, 2, 4, 6, 10, 14, 16, 17, 18, 19, 27, 30, 31, 32, 33, 42]
theorem TF62 : type_of% (aa (aa (aa (aa U1 U2) (aa U3 U4)) (aa (aa U5 U22) (aa U24 U25))) (aa (aa (aa U37 U78) (aa U79 U80)) (aa (aa U82 U150) (aa U162 KL62.eq_1)))) := aa (aa (aa (aa U1 U2) (aa U3 U4)) (aa (aa U5 U22) (aa U24 U25))) (aa (aa (aa U37 U78) (aa U79 U80)) (aa (aa U82 U150) (aa U162 KL62.eq_1)))
def KL63 : List Nat := [0, 1, 2, 3, 4, 5, 49]
theorem TF63 : type_of% (aa (aa (aa U1 (aa U2 U3)) (aa U4 (aa U25 U26))) (aa (aa U28 (aa U37 U126)) (aa U130 (aa U151 KL63.eq_1)))) := aa (aa (aa U1 (aa U2 U3)) (aa U4 (aa U25 U26))) (aa (aa U28 (aa U37 U126)) (aa U130 (aa U151 KL63.eq_1)))
def KL64 : List Nat := [0, 1, 2, 3, 4]
theorem TF64 : type_of% (aa (aa (aa U3 (aa U4 U22)) (aa (aa U24 U25) (aa U26 U28))) (aa (aa (aa U50 U78) (aa U79 U80)) (aa (aa U82 U126) (aa U162 KL64.eq_1)))) := aa (aa (aa U3 (aa U4 U22)) (aa (aa U24 U25) (aa U26 U28))) (aa (aa (aa U50 U78) (aa U79 U80)) (aa (aa U82 U126) (aa U162 KL64.eq_1)))
def KL65 : List Nat := [0, 1, 2, 3, 4, 5, 8, 9, 11, 57, 58, 59, 60, 65]
theorem TF65 : type_of% (aa (aa (aa (aa U1 U2) (aa U3 U4)) (aa (aa U5 U6) (aa U7 (aa U8 U9)))) (aa (aa (aa U10 U11) (aa U25 U30)) (aa (aa U50 U154) (aa U155 (aa KL65.eq_1 KT))))) := aa (aa (aa (aa U1 U2) (aa U3 U4)) (aa (aa U5 U6) (aa U7 (aa U8 U9)))) (aa (aa (aa U10 U11) (aa U25 U30)) (aa (aa U50 U154) (aa U155 (aa KL65.eq_1 KT))))
def KL66 : List Nat := [0, 1, 4]
theorem TF66 : type_of% (aa (aa U3 (aa U4 U25)) (aa (aa U29 U50) (aa U116 KL66.eq_1))) := aa (aa U3 (aa U4 U25)) (aa (aa U29 U50) (aa U116 KL66.eq_1))
def KL68 : List Nat := [0, 2, 3, 4, 5, 8, 13, 25, 32, 44]
theorem TF68 : type_of% (aa (aa U2 (aa U3 U4)) (aa U34 (aa U59 KL68.eq_1))) := aa (aa U2 (aa U3 U4)) (aa U34 (aa U59 KL68.eq_1))
def KL69 : List Nat := [0, 1, 3, 4, 5, 7, 8, 9, 16]
theorem TF69 : type_of% (aa (aa U3 U4) (aa U34 (aa U59 KL69.eq_1))) := aa (aa U3 U4) (aa U34 (aa U59 KL69.eq_1))
def KL70 : List Nat := [0, 1, 2, 3, 5, 6, 7, 8, 9, 10, 11, 12, 13, 19]
theorem TF70 : type_of% (aa (aa (aa (aa U1 U2) (aa U3 (aa U4 U6))) (aa (aa U7 U22) (aa U24 (aa U25 U26)))) (aa (aa (aa U28 U29) (aa U34 (aa U50 U53))) (aa (aa U54 (aa U56 U59)) (aa U82 (aa U126 KL70.eq_1))))) := aa (aa (aa (aa U1 U2) (aa U3 (aa U4 U6))) (aa (aa U7 U22) (aa U24 (aa U25 U26)))) (aa (aa (aa U28 U29) (aa U34 (aa U50 U53))) (aa (aa U54 (aa U56 U59)) (aa U82 (aa U126 KL70.eq_1))))
def KL72 : List Nat := [0, 1, 3, 4, 5, 9, 17]
theorem TF72 : type_of% (aa (aa U3 U4) (aa U34 (aa U59 KL72.eq_1))) := aa (aa U3 U4) (aa U34 (aa U59 KL72.eq_1))
def KL73 : List Nat := [0, 1, 3, 4, 5, 6, 18]
theorem TF73 : type_of% (aa (aa U1 (aa U3 U4)) (aa (aa U34 U59) (aa KL73.eq_1 KT))) := aa (aa U1 (aa U3 U4)) (aa (aa U34 U59) (aa KL73.eq_1 KT))
def KL74 : List Nat := [0, 1, 2, 4, 5, 6, 7, 44, 47, 77, 81, 97]
theorem TF74 : type_of% (aa (aa (aa U1 U2) (aa U3 (aa U4 U25))) (aa (aa U78 (aa U79 U80)) (aa U82 (aa U162 KL74.eq_1)))) := aa (aa (aa U1 U2) (aa U3 (aa U4 U25))) (aa (aa U78 (aa U79 U80)) (aa U82 (aa U162 KL74.eq_1)))
def KL76 : List Nat := [0, 2]
theorem TF76 : type_of% (aa (aa U2 U3) (aa U4 KL76.eq_1)) := aa (aa U2 U3) (aa U4 KL76.eq_1)
def KL78 : List Nat := [0, 1, 2, 3, 4, 9]
theorem TF78 : type_of% (aa (aa (aa U1 U2) (aa U3 (aa U4 U25))) (aa (aa U78 (aa U79 U80)) (aa U82 (aa U162 KL78.eq_1)))) := aa (aa (aa U1 U2) (aa U3 (aa U4 U25))) (aa (aa U78 (aa U79 U80)) (aa U82 (aa U162 KL78.eq_1)))
def KL79 : List Nat := [0, 1, 4, 5, 8]
theorem TF79 : type_of% (aa U3 (aa U4 KL79.eq_1)) := aa U3 (aa U4 KL79.eq_1)
def KL80 : List Nat := [0, 1, 2, 3, 4, 8, 9, 10, 17]
theorem TF80 : type_of% (aa (aa (aa U1 (aa U2 U3)) (aa U4 (aa U6 U8))) (aa (aa U9 (aa U25 U26)) (aa (aa U28 U37) (aa U126 KL80.eq_1)))) := aa (aa (aa U1 (aa U2 U3)) (aa U4 (aa U6 U8))) (aa (aa U9 (aa U25 U26)) (aa (aa U28 U37) (aa U126 KL80.eq_1)))
def KL81 : List Nat := [0, 1, 4, 5, 9, 17]
theorem TF81 : type_of% (aa (aa U3 U4) (aa U25 KL81.eq_1)) := aa (aa U3 U4) (aa U25 KL81.eq_1)
def KL82 : List Nat := [0, 1, 2, 3, 4, 5, 6, 7, 21]
theorem TF82 : type_of% (aa (aa (aa (aa U1 U2) (aa U3 U4)) (aa (aa U5 U22) (aa U24 U25))) (aa (aa (aa U34 U37) (aa U78 U79)) (aa (aa U80 U82) (aa U162 KL82.eq_1)))) := aa (aa (aa (aa U1 U2) (aa U3 U4)) (aa (aa U5 U22) (aa U24 U25))) (aa (aa (aa U34 U37) (aa U78 U79)) (aa (aa U80 U82) (aa U162 KL82.eq_1)))
def KL83 : List Nat := [0, 2, 3, 5, 6, 7, 8, 9, 14]
theorem TF83 : type_of% (aa (aa U2 U3) (aa U4 (aa U25 KL83.eq_1))) := aa (aa U2 U3) (aa U4 (aa U25 KL83.eq_1))
def KL84 : List Nat := [0, 1, 4, 5, 6, 11, 12, 13, 16, 19]
theorem TF84 : type_of% (aa U3 (aa U4 KL84.eq_1)) := aa U3 (aa U4 KL84.eq_1)
def KL85 : List Nat := [0, 1, 4]
theorem TF85 : type_of% (aa (aa U3 (aa U4 U139)) (aa U140 (aa U142 KL85.eq_1))) := aa (aa U3 (aa U4 U139)) (aa U140 (aa U142 KL85.eq_1))
def KL86 : List Nat := [0]
theorem TF86 : type_of% (aa (aa (aa U1 U2) (aa U3 U4)) (aa (aa U5 U6) (aa U139 (aa U140 KL86.eq_1)))) := aa (aa (aa U1 U2) (aa U3 U4)) (aa (aa U5 U6) (aa U139 (aa U140 KL86.eq_1)))
def KL87 : List Nat := [0, 1, 3]
theorem TF87 : type_of% (aa (aa (aa (aa U3 U4) (aa U25 U26)) (aa (aa U28 U34) (aa U50 U78))) (aa (aa (aa U79 U80) (aa U82 U126)) (aa (aa U137 U140) (aa U162 KL87.eq_1)))) := aa (aa (aa (aa U3 U4) (aa U25 U26)) (aa (aa U28 U34) (aa U50 U78))) (aa (aa (aa U79 U80) (aa U82 U126)) (aa (aa U137 U140) (aa U162 KL87.eq_1)))
def KL89 : List Nat := [0, 1, 2, 4, 5, 6, 7]
theorem TF89 : type_of% (aa (aa U1 (aa U3 U4)) (aa (aa U34 U59) (aa U145 KL89.eq_1))) := aa (aa U1 (aa U3 U4)) (aa (aa U34 U59) (aa U145 KL89.eq_1))
def KL90 : List Nat := [0, 1, 2, 3, 4, 5, 6]
theorem TF90 : type_of% (aa (aa (aa U3 U6) (aa U25 (aa U78 U79))) (aa (aa U80 (aa U82 U144)) (aa U145 (aa U162 KL90.eq_1)))) := aa (aa (aa U3 U6) (aa U25 (aa U78 U79))) (aa (aa U80 (aa U82 U144)) (aa U145 (aa U162 KL90.eq_1)))
def KL91 : List Nat := [0, 1, 2, 3, 4]
theorem TF91 : type_of% (aa (aa (aa U1 U2) (aa U3 U4)) (aa (aa U25 U34) (aa KL91.eq_1 KT))) := aa (aa (aa U1 U2) (aa U3 U4)) (aa (aa U25 U34) (aa KL91.eq_1 KT))
def KL92 : List Nat := [0, 1, 4, 5, 7, 8, 9, 16]
theorem TF92 : type_of% (aa (aa U3 (aa U4 U34)) (aa U59 (aa U115 KL92.eq_1))) := aa (aa U3 (aa U4 U34)) (aa U59 (aa U115 KL92.eq_1))
def KL93 : List Nat := [0, 1, 2, 6]
theorem TF93 : type_of% (aa (aa U3 U4) (aa U6 KL93.eq_1)) := aa (aa U3 U4) (aa U6 KL93.eq_1)
def KL94 : List Nat := [0, 1, 2, 4, 13, 14, 15, 16, 21]
theorem TF94 : type_of% (aa (aa (aa U1 (aa U2 U3)) (aa (aa U4 U25) (aa U30 U78))) (aa (aa U79 (aa U80 U82)) (aa (aa U150 U155) (aa U162 KL94.eq_1)))) := aa (aa (aa U1 (aa U2 U3)) (aa (aa U4 U25) (aa U30 U78))) (aa (aa U79 (aa U80 U82)) (aa (aa U150 U155) (aa U162 KL94.eq_1)))
def KL96 : List Nat := [1, 4]
theorem TF96 : type_of% (aa U3 (aa U4 KL96.eq_1)) := aa U3 (aa U4 KL96.eq_1)
def KL97 : List Nat := [0, 1, 2, 3, 5, 6, 7, 9]
theorem TF97 : type_of% (aa (aa (aa U1 U2) (aa U3 (aa U4 U6))) (aa (aa U25 (aa U26 U28)) (aa U126 (aa U130 KL97.eq_1)))) := aa (aa (aa U1 U2) (aa U3 (aa U4 U6))) (aa (aa U25 (aa U26 U28)) (aa U126 (aa U130 KL97.eq_1)))
def KL98 : List Nat := [0, 1, 4, 5, 6, 7, 8, 9, 10, 18]
theorem TF98 : type_of% (aa (aa U3 U4) (aa U25 (aa U130 KL98.eq_1))) := aa (aa U3 U4) (aa U25 (aa U130 KL98.eq_1))
def KL99 : List Nat := [0, 1, 4, 5, 6, 7, 8, 9, 10, 18]
theorem TF99 : type_of% (aa (aa U3 (aa U4 U26)) (aa U126 (aa U151 KL99.eq_1))) := aa (aa U3 (aa U4 U26)) (aa U126 (aa U151 KL99.eq_1))
def KL100 : List Nat := [0, 1, 2, 3, 4]
theorem TF100 : type_of% (aa (aa U3 U4) (aa U30 KL100.eq_1)) := aa (aa U3 U4) (aa U30 KL100.eq_1)
def KL101 : List Nat := [0, 1, 2]
theorem TF101 : type_of% (aa (aa U2 U3) (aa U4 KL101.eq_1)) := aa (aa U2 U3) (aa U4 KL101.eq_1)
def KL102 : List Nat := [0, 1]
theorem TF102 : type_of% (aa (aa U1 (aa U2 U3)) (aa (aa U4 U25) (aa U50 KL102.eq_1))) := aa (aa U1 (aa U2 U3)) (aa (aa U4 U25) (aa U50 KL102.eq_1))
def KL103 : List Nat := [0, 1, 2, 3, 5, 7, 8, 9, 10, 20]
theorem TF103 : type_of% (aa (aa (aa U2 U3) (aa U4 U6)) (aa (aa U8 U25) (aa U50 KL103.eq_1))) := aa (aa (aa U2 U3) (aa U4 U6)) (aa (aa U8 U25) (aa U50 KL103.eq_1))
def KL104 : List Nat := [0, 1, 4, 5, 7, 8, 9, 16]
theorem TF104 : type_of% (aa (aa U3 (aa U4 U25)) (aa (aa U29 U50) (aa U116 KL104.eq_1))) := aa (aa U3 (aa U4 U25)) (aa (aa U29 U50) (aa U116 KL104.eq_1))
def KL108 : List Nat := [0, 1, 2, 3, 4]
theorem TF108 : type_of% (aa (aa U1 U3) (aa U4 (aa U34 KL108.eq_1))) := aa (aa U1 U3) (aa U4 (aa U34 KL108.eq_1))
def KL110 : List Nat := [0, 1, 2, 3, 4, 8, 11, 36]
theorem TF110 : type_of% (aa (aa (aa U2 U3) (aa U4 (aa U6 U8))) (aa (aa U25 (aa U26 U28)) (aa U37 (aa U126 KL110.eq_1)))) := aa (aa (aa U2 U3) (aa U4 (aa U6 U8))) (aa (aa U25 (aa U26 U28)) (aa U37 (aa U126 KL110.eq_1)))
def KL111 : List Nat := [0, 1, 2, 4, 5, 6, 11, 21]
theorem TF111 : type_of% (aa (aa (aa U1 U2) (aa U3 U4)) (aa (aa U25 U26) (aa U28 (aa U126 KL111.eq_1)))) := aa (aa (aa U1 U2) (aa U3 U4)) (aa (aa U25 U26) (aa U28 (aa U126 KL111.eq_1)))
def KL112 : List Nat := [0, 1, 2, 4, 5]
theorem TF112 : type_of% (aa (aa (aa U1 U3) (aa U4 (aa U25 U78))) (aa (aa U79 U80) (aa U82 (aa U162 KL112.eq_1)))) := aa (aa (aa U1 U3) (aa U4 (aa U25 U78))) (aa (aa U79 U80) (aa U82 (aa U162 KL112.eq_1)))
def KL113 : List Nat := [0, 2]
theorem TF113 : type_of% (aa (aa U2 U3) (aa U4 KL113.eq_1)) := aa (aa U2 U3) (aa U4 KL113.eq_1)
def KL114 : List Nat := [0, 1, 4, 5, 7, 8, 9, 16]
theorem TF114 : type_of% (aa (aa U3 (aa U4 U139)) (aa U140 (aa U142 KL114.eq_1))) := aa (aa U3 (aa U4 U139)) (aa U140 (aa U142 KL114.eq_1))
def KL115 : List Nat := [0, 1, 2]
theorem TF115 : type_of% (aa (aa (aa (aa U1 U2) (aa U3 U4)) (aa (aa U25 U26) (aa U28 U34))) (aa (aa (aa U50 U78) (aa U79 U80)) (aa (aa U82 U126) (aa U137 (aa U162 KL115.eq_1))))) := aa (aa (aa (aa U1 U2) (aa U3 U4)) (aa (aa U25 U26) (aa U28 U34))) (aa (aa (aa U50 U78) (aa U79 U80)) (aa (aa U82 U126) (aa U137 (aa U162 KL115.eq_1))))
def KL116 : List Nat := [0, 1, 2]
theorem TF116 : type_of% (aa (aa (aa (aa U1 U2) (aa U3 U4)) (aa (aa U25 U26) (aa U28 U34))) (aa (aa (aa U50 U78) (aa U79 U80)) (aa (aa U82 U126) (aa U137 (aa U162 KL116.eq_1))))) := aa (aa (aa (aa U1 U2) (aa U3 U4)) (aa (aa U25 U26) (aa U28 U34))) (aa (aa (aa U50 U78) (aa U79 U80)) (aa (aa U82 U126) (aa U137 (aa U162 KL116.eq_1))))
def KL117 : List Nat := [0, 1, 2]
theorem TF117 : type_of% (aa (aa (aa (aa U1 U2) (aa U3 U4)) (aa (aa U5 U25) (aa U26 (aa U28 U34)))) (aa (aa (aa U50 U78) (aa U79 U80)) (aa (aa U82 U126) (aa U137 (aa U162 KL117.eq_1))))) := aa (aa (aa (aa U1 U2) (aa U3 U4)) (aa (aa U5 U25) (aa U26 (aa U28 U34)))) (aa (aa (aa U50 U78) (aa U79 U80)) (aa (aa U82 U126) (aa U137 (aa U162 KL117.eq_1))))
def KL118 : List Nat := [0, 1, 2, 3]
theorem TF118 : type_of% (aa (aa (aa (aa U1 U2) (aa U3 (aa U4 U6))) (aa (aa U7 U25) (aa U26 (aa U28 U34)))) (aa (aa (aa U37 U50) (aa U78 (aa U79 U80))) (aa (aa U82 U126) (aa U137 (aa U162 KL118.eq_1))))) := aa (aa (aa (aa U1 U2) (aa U3 (aa U4 U6))) (aa (aa U7 U25) (aa U26 (aa U28 U34)))) (aa (aa (aa U37 U50) (aa U78 (aa U79 U80))) (aa (aa U82 U126) (aa U137 (aa U162 KL118.eq_1))))
def KL119 : List Nat := [0, 1, 2, 3, 4, 8, 9, 10, 11]
theorem TF119 : type_of% (aa (aa (aa U1 (aa U2 U3)) (aa U4 (aa U6 U8))) (aa (aa U9 (aa U25 U26)) (aa (aa U28 U37) (aa U126 KL119.eq_1)))) := aa (aa (aa U1 (aa U2 U3)) (aa U4 (aa U6 U8))) (aa (aa U9 (aa U25 U26)) (aa (aa U28 U37) (aa U126 KL119.eq_1)))
def KL120 : List Nat := [0, 1, 2]
theorem TF120 : type_of% (aa (aa (aa (aa U1 U2) (aa U3 U4)) (aa (aa U6 U25) (aa U26 (aa U28 U34)))) (aa (aa (aa U50 U78) (aa U79 U80)) (aa (aa U82 U126) (aa U137 (aa U162 KL120.eq_1))))) := aa (aa (aa (aa U1 U2) (aa U3 U4)) (aa (aa U6 U25) (aa U26 (aa U28 U34)))) (aa (aa (aa U50 U78) (aa U79 U80)) (aa (aa U82 U126) (aa U137 (aa U162 KL120.eq_1))))
def KL121 : List Nat := [0, 1, 2]
theorem TF121 : type_of% (aa (aa (aa (aa U1 U2) (aa U3 U4)) (aa (aa U25 U26) (aa U28 (aa U34 U50)))) (aa (aa (aa U78 U79) (aa U80 U82)) (aa (aa U124 U126) (aa U137 (aa U162 KL121.eq_1))))) := aa (aa (aa (aa U1 U2) (aa U3 U4)) (aa (aa U25 U26) (aa U28 (aa U34 U50)))) (aa (aa (aa U78 U79) (aa U80 U82)) (aa (aa U124 U126) (aa U137 (aa U162 KL121.eq_1))))
def KL122 : List Nat := [0, 1, 4]
theorem TF122 : type_of% (aa (aa U3 U4) (aa U25 (aa U124 KL122.eq_1))) := aa (aa U3 U4) (aa U25 (aa U124 KL122.eq_1))
def KL123 : List Nat := [0, 1, 3]
theorem TF123 : type_of% (aa (aa (aa (aa U2 U3) (aa U4 U6)) (aa (aa U8 U25) (aa U26 (aa U28 U34)))) (aa (aa (aa U50 U78) (aa U79 U80)) (aa (aa U82 U126) (aa U137 (aa U162 KL123.eq_1))))) := aa (aa (aa (aa U2 U3) (aa U4 U6)) (aa (aa U8 U25) (aa U26 (aa U28 U34)))) (aa (aa (aa U50 U78) (aa U79 U80)) (aa (aa U82 U126) (aa U137 (aa U162 KL123.eq_1))))
def KL124 : List Nat := [0, 1, 4]
theorem TF124 : type_of% (aa (aa U3 U4) (aa U25 KL124.eq_1)) := aa (aa U3 U4) (aa U25 KL124.eq_1)
def KL126 : List Nat := [0, 1, 2, 3, 6, 7, 8, 9, 10, 11, 28]
theorem TF126 : type_of% (aa (aa (aa U1 (aa U2 U3)) (aa (aa U4 U25) (aa U34 U78))) (aa (aa U79 (aa U80 U82)) (aa (aa U115 U162) (aa KL126.eq_1 KT)))) := aa (aa (aa U1 (aa U2 U3)) (aa (aa U4 U25) (aa U34 U78))) (aa (aa U79 (aa U80 U82)) (aa (aa U115 U162) (aa KL126.eq_1 KT)))
def KL127 : List Nat := [0, 1, 2]
theorem TF127 : type_of% (aa (aa (aa U1 (aa U2 U3)) (aa U4 (aa U25 U78))) (aa (aa U79 (aa U80 U82)) (aa U150 (aa U162 KL127.eq_1)))) := aa (aa (aa U1 (aa U2 U3)) (aa U4 (aa U25 U78))) (aa (aa U79 (aa U80 U82)) (aa U150 (aa U162 KL127.eq_1)))
def KL128 : List Nat := [0, 1, 2]
theorem TF128 : type_of% (aa (aa (aa U2 U3) (aa U4 (aa U25 U78))) (aa (aa U79 (aa U80 U82)) (aa U150 (aa U162 KL128.eq_1)))) := aa (aa (aa U2 U3) (aa U4 (aa U25 U78))) (aa (aa U79 (aa U80 U82)) (aa U150 (aa U162 KL128.eq_1)))
def KL129 : List Nat := [0, 1, 2, 3, 5, 11, 12, 13, 14, 28]
theorem TF129 : type_of% (aa (aa (aa U1 (aa U2 U3)) (aa U4 (aa U25 U78))) (aa (aa U79 (aa U80 U82)) (aa (aa U150 U162) (aa U191 KL129.eq_1)))) := aa (aa (aa U1 (aa U2 U3)) (aa U4 (aa U25 U78))) (aa (aa U79 (aa U80 U82)) (aa (aa U150 U162) (aa U191 KL129.eq_1)))
def KL130 : List Nat := [0, 1, 2]
theorem TF130 : type_of% (aa (aa (aa U1 (aa U2 U3)) (aa U4 (aa U25 U78))) (aa (aa U79 (aa U80 U82)) (aa (aa U124 U150) (aa U162 KL130.eq_1)))) := aa (aa (aa U1 (aa U2 U3)) (aa U4 (aa U25 U78))) (aa (aa U79 (aa U80 U82)) (aa (aa U124 U150) (aa U162 KL130.eq_1)))
def KL143 : List Nat := [0, 1, 4, 5, 7, 10, 11, 12, 13]
theorem TF143 : type_of% (aa (aa U1 U3) (aa U4 (aa U25 KL143.eq_1))) := aa (aa U1 U3) (aa U4 (aa U25 KL143.eq_1))
def KL144 : List Nat := [0, 1, 2, 3, 4, 8, 9, 10, 11, 15, 39]
theorem TF144 : type_of% (aa (aa (aa U1 (aa U2 U3)) (aa (aa U4 U6) (aa U8 U9))) (aa (aa (aa U10 U25) (aa U26 U28)) (aa (aa U37 U126) (aa KL144.eq_1 KT)))) := aa (aa (aa U1 (aa U2 U3)) (aa (aa U4 U6) (aa U8 U9))) (aa (aa (aa U10 U25) (aa U26 U28)) (aa (aa U37 U126) (aa KL144.eq_1 KT)))
def KL145 : List Nat := [0, 2, 4, 5, 6, 7, 8]
theorem TF145 : type_of% (aa (aa U2 U3) (aa U25 KL145.eq_1)) := aa (aa U2 U3) (aa U25 KL145.eq_1)
def KL146 : List Nat := [0, 1, 4, 5, 7, 8, 9, 16]
theorem TF146 : type_of% (aa (aa U3 U4) (aa U25 (aa U124 KL146.eq_1))) := aa (aa U3 U4) (aa U25 (aa U124 KL146.eq_1))
def KL147 : List Nat := [0, 1, 4, 5, 7, 8, 9, 16]
theorem TF147 : type_of% (aa (aa U3 U4) (aa U25 KL147.eq_1)) := aa (aa U3 U4) (aa U25 KL147.eq_1)
def KL151 : List Nat := [0, 2]
theorem TF151 : type_of% (aa (aa U2 U3) (aa U4 KL151.eq_1)) := aa (aa U2 U3) (aa U4 KL151.eq_1)
def KL157 : List Nat := [0, 1, 4, 5, 6, 7, 8, 10, 26, 37]
theorem TF157 : type_of% (aa (aa (aa U1 U3) (aa U4 U9)) (aa (aa U25 U159) (aa KL157.eq_1 KT))) := aa (aa (aa U1 U3) (aa U4 U9)) (aa (aa U25 U159) (aa KL157.eq_1 KT))
def KL158 : List Nat := [0, 1, 2, 3, 4, 6, 9, 11, 15]
theorem TF158 : type_of% (aa (aa (aa U1 U2) (aa U3 (aa U4 U25))) (aa (aa U26 U28) (aa U126 (aa U204 KL158.eq_1)))) := aa (aa (aa U1 U2) (aa U3 (aa U4 U25))) (aa (aa U26 U28) (aa U126 (aa U204 KL158.eq_1)))
def KL160 : List Nat := [0, 1, 4, 5, 6, 7, 8, 9]
theorem TF160 : type_of% (aa (aa U1 (aa U4 U5)) (aa (aa U159 U182) (aa U184 KL160.eq_1))) := aa (aa U1 (aa U4 U5)) (aa (aa U159 U182) (aa U184 KL160.eq_1))
def KL161 : List Nat := [0, 1, 2]
theorem TF161 : type_of% (aa (aa U2 (aa U3 U26)) (aa (aa U126 U203) (aa U204 KL161.eq_1))) := aa (aa U2 (aa U3 U26)) (aa (aa U126 U203) (aa U204 KL161.eq_1))
def KL163 : List Nat := [0, 1, 4, 5, 6, 7, 8, 9, 10, 11, 12, 13]
theorem TF163 : type_of% (aa (aa U4 U5) (aa U159 (aa U184 KL163.eq_1))) := aa (aa U4 U5) (aa U159 (aa U184 KL163.eq_1))
def KL164 : List Nat := [0, 1, 3, 8, 18]
theorem TF164 : type_of% (aa (aa U3 (aa U4 U26)) (aa U126 (aa U151 KL164.eq_1))) := aa (aa U3 (aa U4 U26)) (aa U126 (aa U151 KL164.eq_1))
theorem jw : type_of% (@jW Tryz.prog mixed) := @jW Tryz.prog mixed
end Go.Proofs.YtldjfebokojmfaaGreat
