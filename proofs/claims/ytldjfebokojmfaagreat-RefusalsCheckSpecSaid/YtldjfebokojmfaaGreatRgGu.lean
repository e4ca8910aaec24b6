import Derived.Test.YtldjfebokojmfaaGreatRgHh
import Derived.Test.YtldjfebokojmfaaGreatRgW22t
import Derived.Test.YtldjfebokojmfaaGreatRgHl
import Derived.Test.YtldjfebokojmfaaGreatRgW20v
import Derived.Test.YtldjfebokojmfaaGreatRgGe
import Derived.Test.YtldjfebokojmfaaGreatRgW22k
import Derived.Test.YtldjfebokojmfaaGreatRgGs
namespace Go.Proofs.YtldjfebokojmfaaGreat
open Go Go.Fk
set_option linter.unusedSimpArgs false
set_option linter.unusedVariables false
set_option maxRecDepth 100000
def xL : LineD := ⟨[0, 1, 2], [3, 4], 1, 5, [⟨10, 31, 10⟩], []⟩
def xT : TimeD := ⟨3, [xL]⟩
def xF : TariffD := ⟨[10], [2], []⟩
def xO (a b c : Int) : OrderD := { From := 0, Person := 0, Dest := 2, Class := 0, After := a, By := b, Crowd := c, Pay := 14, Against := [], Back := false, Else := 0 }
def xN : OrderD := { From := 0, Person := 0, Dest := 0, Class := 0, After := 0, By := 0, Crowd := 0, Pay := 0, Against := [], Back := false, Else := 0 }
def xa : RunD := ⟨0, 10, 17⟩
def xb : RunD := ⟨0, 20, 27⟩
def xc : RunD := ⟨0, 30, 37⟩
def xp : PlanD := ⟨[xb], [0, 0], [2]⟩
def xq : PlanD := ⟨[xa, xb], [0, 1], [3, 3]⟩
theorem y1 : Pl.fitsA xT xF (xO 5 17 3) xa = (true, 0) := by kernel_rfl
theorem y2 : Pl.fitsA xT xF (xO 11 40 3) xa = (false, 0) := by kernel_rfl
theorem y3 : Pl.fitsA xT xF (xO 5 17 3) ⟨-1, 0, 0⟩ = (false, 1) := by kernel_rfl
theorem y4 : Pl.options xT xF (xO 11 40 4) = ([xb, xc], 0) := by kernel_rfl
theorem y5 : Pl.options xT xF (xO 11 40 5) = ([], 0) := by kernel_rfl
theorem y6 : Pl.make xT xF [xO 5 40 3, xO 11 40 3] 2 = (xp, true, 0) := by kernel_rfl
theorem y7 : Pl.make xT xF [xO 5 40 3, xO 11 40 3] 9 = (xq, true, 0) := by kernel_rfl
theorem y8 : Pl.make xT xF [xO 5 40 3] 2 = (Pl.noPlan, false, 0) := by kernel_rfl
theorem y9 : Pl.make xT xF [] 0 = (Pl.noPlan, true, 0) := by kernel_rfl
theorem y10 : Pl.make xT xF [] (-1) = (Pl.noPlan, false, 0) := by kernel_rfl
theorem y11 : Pl.make xT xF [xN] 0 = (Pl.noPlan, false, 220) := by kernel_rfl
theorem y12 : Pl.check xT xF [xO 5 40 3, xO 11 40 3] 2 xp = (true, 0) := by kernel_rfl
theorem y13 : Pl.check xT xF [xO 5 40 3, xO 11 40 3] 1 xp = (false, 0) := by kernel_rfl
theorem ints22 {w : World} (xs : List Int) (p : Addr) (hx : xs.all (fun x => decide (-1000000 ≤ x ∧ x ≤ 1000000)) = true) (hl : xs.length ≤ 1000) (hr : Row w p 3 (xs.map fun x => .int .i64 x)) : Sl w (.slice (some p) xs.length xs.length) xs := by
  have hc := Cs.ints (w := w) xs fun x h => by
    have := List.all_eq_true.1 hx x h
    simp only [decide_eq_true_eq] at this
    unfold I64; omega
  refine Sl.of_row (e := 3) (css := (xs.map fun x => (Value.int .i64 x)).map fun v => v.cells.toList) ?_ hc rfl (by omega)
  have e : ((xs.map fun x => (Value.int .i64 x)).map fun v => v.cells.toList).flatten = xs.map fun x => .int .i64 x := by
    clear hx hl hr hc
    induction xs with
    | nil => rfl
    | cons x xs ih => simp only [List.map_cons, List.flatten_cons, ih]; rfl
  rw [e]; exact hr
theorem intLit22 {w : World} {K : Value → World → Prop} (xs : List Int) {parts : Array (Nat × Value)} {n : Nat} (hp : parts.toList = (xs.map fun x => (Value.int .i64 x)).zipIdx.map fun p => (p.2, p.1)) (hn : n = xs.length) (hx : xs.all (fun x => decide (-1000000 ≤ x ∧ x ≤ 1000000)) = true) (hs : n ≤ 1000)
    (hK : ∀ v w', Sl w' v xs → Ext w w' → K v w') : SemW Tryz.prog (Instr.buildSlice 25 n parts) w K :=
  SemW_lit (α := Int) Tryz.underlying25 ti3 rfl (by decide) (xs.map fun x => (Value.int .i64 x)) xs hp (by simpa using hn) (Cs.ints xs fun x h => by
    have := List.all_eq_true.1 hx x h
    simp only [decide_eq_true_eq] at this
    unfold I64; omega) (by show n * 1 ≤ _; omega) hK
def PV (w : World) (p : Addr) (pl : PlanD) : Prop := ∃ v0 v1 v2, Row w p 61 (pl.cs v0 v1 v2) ∧ PlanR w pl v0 v1 v2
theorem PV.ext {w w' : World} {p : Addr} {pl : PlanD} (h : PV w p pl) (x : Ext w w') : PV w' p pl := let ⟨v0, v1, v2, a, b⟩ := h; ⟨v0, v1, v2, a.ext x, b.ext x⟩
theorem extKeep {w0 w w' : World} {b : Nat} (h : Ext w0 w) (k : Keep (fun k => k ≠ b) w w') (hb : w0.heap.size ≤ b) : Ext w0 w' := Keep.ext h k fun q hq => by omega
theorem putPV {w : World} {p : Addr} {pl : PlanD} {v0 v1 v2 : Value} {K : Unit → World → Prop} (hr : Row w p 61 [.slice none 0 0, .slice none 0 0, .slice none 0 0]) (hP : PlanR w pl v0 v1 v2) (hK : ∀ w', Keep (fun k => k ≠ p.block) w w' → PV w' p pl → K () w') :
    SemW Tryz.prog (Instr.storeAt 61 (.pointer (some p)) (.agg (pl.cs v0 v1 v2).toArray)) w K := by
  refine SemW_setW (by rw [cells61]; decide) (by rw [cells61]; rfl) hr (by rw [cells61]; rfl) (by simp [Value.cells, PlanD.cs, isS_o hP.r.s, isS_o hP.o.s, isS_o hP.c.s]) fun wz rz kz zz => hK wz kz ⟨v0, v1, v2, by simpa [Value.cells] using rz, ?_⟩
  have kR : ∀ (v : Value) (xs : List RunD), Sl w v xs → Sl wz v xs := fun v xs hv => hv.keepD hr (fun x _ cs' hc => ⟨.int .i64 x.Line, by rw [hc.1]; rfl, fun hm => by simp at hm⟩) kz
  have kI : ∀ (v : Value) (xs : List Int), Sl w v xs → Sl wz v xs := fun v xs hv => hv.keepD hr (fun x _ cs' hc => ⟨.int .i64 x, by rw [hc.1]; rfl, fun hm => by simp at hm⟩) kz
  exact ⟨kR _ _ hP.r, kI _ _ hP.o, kI _ _ hP.c⟩
theorem ordLit2 {o o2 : OrderD} {g g2 : Value} {w : World} {K : Value → World → Prop} (hO : OrdR w o g) (hO2 : OrdR w o2 g2) (hK : ∀ v w', Sl w' v [o, o2] → Ext w w' → K v w') : SemW Tryz.prog (Instr.buildSlice 29 2 #[(0, .agg (o.cs g).toArray), (1, .agg (o2.cs g2).toArray)]) w K :=
  SemW_lit (α := OrderD) Tryz.underlying29 ti50 rfl (by decide) [.agg (o.cs g).toArray, .agg (o2.cs g2).toArray] [o, o2] rfl rfl (Cs.cons (by simpa [Value.cells] using hO.rep) (Cs.one (by simpa [Value.cells] using hO2.rep))) (by show 2 * 11 ≤ _; decide) hK
section
variable {vl u0 u1 u2 vo v0 v1 v2 g : Value} {t : TimeD} {f : TariffD} {l : List OrderD} {o : OrderD} {r : RunD} {p : PlanD} {covers : Int} {w : World} {K : Value → World → Prop}
end
section
variable {vl u0 u1 u2 vo v0 v1 v2 g : Value} {t : TimeD} {f : TariffD} {l : List OrderD} {o : OrderD} {r : RunD} {p : PlanD} {covers : Int} {w : World} {K : Value → World → Prop}
theorem planVar (hP : PlanR w p v0 v1 v2) {K : Value → World → Prop} (hK : ∀ q w', Ext w w' → PV w' q p → K (.pointer (some q)) w') :
    SemW Tryz.prog (Instr.alloc 61 true (.tuple #[])) w (fun v w' => SemW Tryz.prog (Instr.storeAt 61 v (.agg (p.cs v0 v1 v2).toArray)) w' fun _ w'' => K v w'') :=
  SemW_allocT ti61 fun q w1 h1 => putPV h1.row (hP.ext h1.ext) fun w2 k h => hK q w2 (extKeep h1.ext k (by have := h1.blk; omega)) h
end
section
variable {vl u0 u1 u2 vo v0 v1 v2 g : Value} {t : TimeD} {f : TariffD} {l : List OrderD} {o : OrderD} {r : RunD} {p : PlanD} {covers : Int} {w : World} {K : Value → World → Prop}
end
end Go.Proofs.YtldjfebokojmfaaGreat
