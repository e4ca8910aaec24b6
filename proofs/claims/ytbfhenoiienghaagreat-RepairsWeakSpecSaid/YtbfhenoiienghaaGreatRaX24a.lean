import Derived.Test.YtbfhenoiienghaaGreatRaGu
import Derived.Test.YtbfhenoiienghaaGreatRaGy
import Derived.Test.YtbfhenoiienghaaGreatRaGz
import Derived.Test.YtbfhenoiienghaaGreatRaW22k
namespace Go.Proofs.YtbfhenoiienghaaGreat
open Go Go.Fk
set_option linter.unusedSimpArgs false
set_option linter.unusedVariables false
set_option maxRecDepth 100000
def e24L : LineD := ⟨[0, 1], [5], 1, 3, [⟨10, 21, 10⟩], []⟩
def e24T : TimeD := ⟨2, [e24L]⟩
def e24F : TariffD := ⟨[0], [0], []⟩
def e24O : OrderD := { From := 0, Person := 0, Dest := 1, Class := 0, After := 5, By := 30, Crowd := 1, Pay := 0, Against := [], Back := false, Else := 0 }
def e24a : RunD := ⟨0, 10, 15⟩
def e24b : RunD := ⟨0, 20, 25⟩
def e24p : PlanD := ⟨[e24a], [0], [1]⟩
def e24q : PlanD := ⟨[e24b], [0], [1]⟩
theorem g24_1 : Rp.repair e24T e24F [e24O] 1 e24p 0 = (e24q, true, 0) := by kernel_rfl
theorem g24_2 : Rp.repair e24T e24F [e24O] 1 e24q 0 = (Pl.noPlan, false, 0) := by kernel_rfl
theorem g24_3 : Rp.weak e24T e24F [e24O] 1 e24p = ([], 0) := by kernel_rfl
theorem g24_4 : Rp.weak e24T e24F [e24O] 1 e24q = ([0], 0) := by kernel_rfl
theorem g24_5 : Rp.repair e24T e24F [] 0 Pl.noPlan 0 = (Pl.noPlan, false, 1) := by kernel_rfl
theorem g24_6 : Rp.repair e24T e24F [e24O] 1 Pl.noPlan 0 = (Pl.noPlan, false, 220) := by kernel_rfl
theorem g24_7 : Rp.weak e24T e24F [e24O] 0 e24p = ([], 220) := by kernel_rfl
section
variable {vl u0 u1 u2 vo v0 v1 v2 : Value} {t : TimeD} {f : TariffD} {l : List OrderD} {p : PlanD} {covers run : Int} {w : World} {K : Value → World → Prop}
theorem rpRepairW (hl : Sl w vl t.Lines) (hT : TarR w f u0 u1 u2) (ho : Sl w vo l) (hP : PlanR w p v0 v1 v2) (hcv : I64 covers) {q : PlanD × Bool × Int} (h : Rp.repair t f l covers p run = q) (hK : ∀ a0 a1 a2 w', Ext w w' → PlanR w' q.1 a0 a1 a2 → K (.tuple #[.agg (q.1.cs a0 a1 a2).toArray, .bool q.2.1, .int .i64 q.2.2]) w') :
    CallW Tryz.prog (.func (.func 16) #[] #[]) [.agg #[.int .i64 t.Offices, vl], .agg #[u0, u1, u2], vo, .int .i64 covers, .agg #[v0, v1, v2], .int .i64 run] w K := by
  subst h
  exact CallW_gen call16 (rpRepair vl u0 u1 u2 vo v0 v1 v2 t f l covers p run w hl hT ho hP hcv) fun e w' ⟨a0, a1, a2, he, x, hR⟩ => ⟨_, he, hK a0 a1 a2 w' x hR⟩
theorem rfRepair24W (hl : Sl w vl t.Lines) (hT : TarR w f u0 u1 u2) (ho : Sl w vo l) (hP : PlanR w p v0 v1 v2) {q : PlanD × Bool × Int} (h : Rp.repair t f l covers p run = q) (hK : ∀ a0 a1 a2 w', Ext w w' → PlanR w' q.1 a0 a1 a2 → K (.tuple #[.agg (q.1.cs a0 a1 a2).toArray, .bool q.2.1, .int .i64 q.2.2]) w') :
    CallW Tryz.prog (.func (.func 17) #[] #[]) [.agg #[.int .i64 t.Offices, vl], .agg #[u0, u1, u2], vo, .int .i64 covers, .agg #[v0, v1, v2], .int .i64 run] w K := by
  subst h
  exact CallW_gen call17 (rfRepair24 vl u0 u1 u2 vo v0 v1 v2 t f l covers p run w hl hT ho hP) fun e w' ⟨a0, a1, a2, he, x, hR⟩ => ⟨_, he, hK a0 a1 a2 w' x hR⟩
theorem rpWeakW (hl : Sl w vl t.Lines) (hT : TarR w f u0 u1 u2) (ho : Sl w vo l) (hP : PlanR w p v0 v1 v2) (hcv : I64 covers) (hn : p.Runs.length ≤ 1000000) {q : List Int × Int} (h : Rp.weak t f l covers p = q) (hK : ∀ v w', Ext w w' → Sl w' v q.1 → K (.tuple #[v, .int .i64 q.2]) w') :
    CallW Tryz.prog (.func (.func 19) #[] #[]) [.agg #[.int .i64 t.Offices, vl], .agg #[u0, u1, u2], vo, .int .i64 covers, .agg #[v0, v1, v2]] w K := by
  subst h
  exact CallW_gen call19 (rpWeak vl u0 u1 u2 vo v0 v1 v2 t f l covers p w hl hT ho hP hcv hn) fun e w' ⟨v, he, x, hR⟩ => ⟨_, he, hK v w' x hR⟩
theorem rfWeak24W (hl : Sl w vl t.Lines) (hT : TarR w f u0 u1 u2) (ho : Sl w vo l) (hP : PlanR w p v0 v1 v2) (hn : p.Runs.length ≤ 1000000) {q : List Int × Int} (h : Rp.weak t f l covers p = q) (hK : ∀ v w', Ext w w' → Sl w' v q.1 → K (.tuple #[v, .int .i64 q.2]) w') :
    CallW Tryz.prog (.func (.func 20) #[] #[]) [.agg #[.int .i64 t.Offices, vl], .agg #[u0, u1, u2], vo, .int .i64 covers, .agg #[v0, v1, v2]] w K := by
  subst h
  exact CallW_gen call20 (rfWeak24 vl u0 u1 u2 vo v0 v1 v2 t f l covers p w hl hT ho hP hn) fun e w' ⟨v, he, x, hR⟩ => ⟨_, he, hK v w' x hR⟩
theorem few24 (hl : Sl w vl t.Lines) (hT : TarR w f u0 u1 u2) (ho : Sl w vo l) (hP : PlanR w p v0 v1 v2) :
    Calls Tryz.prog 15 #[.agg (t.cs vl).toArray, .agg (f.cs u0 u1 u2).toArray, vo, .agg (p.cs v0 v1 v2).toArray] w fun e w' => ∃ b, e = .returned (.bool b) ∧ Ext w w' ∧ (b = true → fewPl p = true) := by
  refine Calls_of_Run (args := [.agg (t.cs vl).toArray, .agg (f.cs u0 u1 u2).toArray, vo, .agg (p.cs v0 v1 v2).toArray]) (n := 17) (rs := [.tmp 8]) Tryz.func15 rfl rfl rfl (by simp) ?_
  (repeat with_reducible first | refine js ?_ | refine ja ?_ | refine jw KL15 [] TF15 fun _ => ?_)
  refine SemW_box fun pt w1 h1 => SemW_box fun pf w2 h2 => SemW_box fun pp w3 h3 => ?_
  have x3 := h1.ext.trans (h2.ext.trans h3.ext)
  have t3 : AtN w3 pt 0 (t.cs vl) := (h1.at_.ext (h2.ext.trans h3.ext)).n
  have f3 : AtN w3 pf 0 (f.cs u0 u1 u2) := (h2.at_.ext h3.ext).n
  have P : ∀ w', Ext w3 w' → AtN w' pp 0 (p.cs v0 v1 v2) := fun w' x => (h3.at_.ext x).n
  simp only [TimeD.cs, TariffD.cs, PlanD.cs, AtN, KS, Nat.reduceAdd, Nat.reduceMul, Nat.reduceEqDiff, ↓reduceIte, UT] at t3 f3 P
  (repeat with_reducible first | refine js ?_ | refine ja ?_ | refine jw KL15 [] (aa TF15 (aa t3 (aa f3 KX))) fun _ => ?_)
  refine few22W (hl.ext x3) (hT.ext x3) (ho.ext x3) fun b w7 x7 => ?_
  have y7 := x3.trans x7
  have p7 := P w7 x7
  (repeat with_reducible first | refine js ?_ | refine ja ?_ | refine jw KL15 [] (aa TF15 (aa p7 KX)) fun _ => ?_)
  refine .inr ⟨.bool (fewPl p), fun _ => PC_pure call26 fun w8 x8 => rfFewPlan v0 v1 v2 p w8 (hP.ext (y7.trans x8)), fun w8 x8 => ?_⟩
  unfold hush
  (repeat with_reducible first | refine js ?_ | refine ja ?_ | refine jw KL15 [] (aa TF15 (aa p7 KX)) fun _ => ?_)
  refine Run_ret ?_
  simp only [Rets, RetM, resV, fnd, oneOr, ↓reduceIte]
  exact ⟨_, rfl, _, rfl, y7.trans x8, fun h => (Bool.and_eq_true_iff.1 h).2⟩
theorem few24W (hl : Sl w vl t.Lines) (hT : TarR w f u0 u1 u2) (ho : Sl w vo l) (hP : PlanR w p v0 v1 v2) (hK : ∀ (b : Bool) w', Ext w w' → (b = true → fewPl p = true) → K (.bool b) w') :
    CallW Tryz.prog (.func (.func 15) #[] #[]) [.agg #[.int .i64 t.Offices, vl], .agg #[u0, u1, u2], vo, .agg #[v0, v1, v2]] w K :=
  CallW_gen call15 (few24 hl hT ho hP) fun e w' ⟨b, he, x, h⟩ => ⟨_, he, hK b w' x h⟩
end
set_option maxHeartbeats 1000000 in
theorem lwWorld24 (w : World) : Calls Tryz.prog 43 #[] w fun e w' => ∃ vl u0 u1, e = .returned (.tuple #[.agg (e24T.cs vl).toArray, .agg (e24F.cs u0 u1 (.slice none 0 0)).toArray, .agg (e24O.cs (.slice none 0 0)).toArray]) ∧ Ext w w' ∧ Sl w' vl e24T.Lines ∧ TarR w' e24F u0 u1 (.slice none 0 0) := by
  refine Calls_of_Run (args := []) (n := 16) (rs := [.cell 0 24, .cell 1 28, .cell 2 48]) Tryz.func43 rfl rfl rfl (by simp) ?_
  (repeat with_reducible first | refine js ?_ | refine ja ?_ | refine jw KL43 [] TF43 fun _ => ?_)
  refine SemW_allocT ti24 fun p0 w1 h1 => SemW_allocT ti28 fun p1 w2 h2 => SemW_allocT ti48 fun p2 w3 h3 => ?_
  (repeat with_reducible first | refine js ?_ | refine ja ?_ | refine jw KL43 [] TF43 fun _ => ?_)
  refine SemW_buildSlice (vs := e24L.Offices.map fun x => .int .i64 x) Tryz.underlying25 ti3 rfl rfl rfl (by decide) (by decide) fun pa w4 h4 => ?_
  refine SemW_buildSlice (vs := e24L.Legs.map fun x => .int .i64 x) Tryz.underlying25 ti3 rfl rfl rfl (by decide) (by decide) fun pb w5 h5 => ?_
  refine ⟨.agg #[.int .i64 10, .int .i64 21, .int .i64 10], fun _ => by kernel_rfl, ?_⟩
  refine SemW_buildSlice (vs := [.agg #[.int .i64 10, .int .i64 21, .int .i64 10]]) Tryz.underlying53 ti132 rfl rfl rfl (by simp [Value.cells]) (by decide) fun pr w6 h6 => ?_
  refine ⟨.agg (e24L.cs (.slice (some pa) 2 2) (.slice (some pb) 1 1) (.slice (some pr) 1 1) (.slice none 0 0)).toArray, fun _ => by kernel_rfl, ?_⟩
  refine SemW_buildSlice (vs := [.agg (e24L.cs (.slice (some pa) 2 2) (.slice (some pb) 1 1) (.slice (some pr) 1 1) (.slice none 0 0)).toArray]) Tryz.underlying22 ti56 rfl rfl rfl (by simp [Value.cells, LineD.cs]) (by show 1 * 6 ≤ 16777216; decide) fun pl w7 h7 => ?_
  refine ⟨.agg (e24T.cs (.slice (some pl) 1 1)).toArray, fun _ => by kernel_rfl, ?_⟩
  refine SemW_allocT ti24 fun p3 w8 h8 => ?_
  have b1 := h1.blk
  have b2 := h2.blk
  have b3 := h3.blk
  have b4 := h4.blk
  have b5 := h5.blk
  have b6 := h6.blk
  have b7 := h7.blk
  have b8 := h8.blk
  have s1 := h1.size
  have s2 := h2.size
  have s3 := h3.size
  have s4 := h4.size
  have s5 := h5.size
  have s6 := h6.size
  have s7 := h7.size
  have x13 := h2.ext.trans h3.ext
  have x48 := h4.ext.trans (h5.ext.trans (h6.ext.trans (h7.ext.trans h8.ext)))
  refine SemW_setW (by rw [cells24]; decide) (by rw [cells24]; rfl) h8.row (by rw [cells24]; rfl) rfl fun w9 r9 k9 z9 => ?_
  have r9 : Row w9 p3 24 (e24T.cs (.slice (some pl) 1 1)) := r9
  have x79 : Ext w7 w9 := Keep.ext h8.ext k9 fun b hb => by omega
  have r9n := r9.n
  simp only [e24T, TimeD.cs, AtN, KS, Nat.reduceAdd, Nat.reduceMul, Nat.reduceEqDiff, ↓reduceIte, UT] at r9n
  (repeat with_reducible first | refine js ?_ | refine ja ?_ | refine jw KL43 [] (aa TF43 r9n) fun _ => ?_)
  refine SemW_buildSlice (vs := e24F.Base.map fun x => .int .i64 x) Tryz.underlying25 ti3 rfl rfl rfl (by decide) (by decide) fun pc w10 h10 => ?_
  refine SemW_buildSlice (vs := e24F.Leg.map fun x => .int .i64 x) Tryz.underlying25 ti3 rfl rfl rfl (by decide) (by decide) fun pd w11 h11 => ?_
  refine ⟨.agg (e24F.cs (.slice (some pc) 1 1) (.slice (some pd) 1 1) (.slice none 0 0)).toArray, fun _ => by kernel_rfl, ?_⟩
  refine ⟨.agg (e24O.cs (.slice none 0 0)).toArray, fun _ => by kernel_rfl, ?_⟩
  have b10 := h10.blk
  have b11 := h11.blk
  have s9 := x79.size
  have s10 := h10.size
  have x711 := x79.trans (h10.ext.trans h11.ext)
  have x311 := h4.ext.trans (h5.ext.trans (h6.ext.trans (h7.ext.trans x711)))
  have s311 := x311.size
  refine SemW_setW (by rw [cells24]; decide) (by rw [cells24]; rfl) (h1.row.ext (x13.trans x311)) (by rw [cells24]; rfl) rfl fun wA rA kA zA => ?_
  have rA : Row wA p0 24 (e24T.cs (.slice (some pl) 1 1)) := rA
  refine SemW_setW (by rw [cells28]; decide) (by rw [cells28]; rfl) ((h2.row.ext (h3.ext.trans x311)).keep kA (show p1.block ≠ p0.block by omega)) (by rw [cells28]; rfl) rfl fun wB rB kB zB => ?_
  have rB : Row wB p1 28 (e24F.cs (.slice (some pc) 1 1) (.slice (some pd) 1 1) (.slice none 0 0)) := rB
  refine SemW_setW (by rw [cells48]; decide) (by rw [cells48]; rfl) (((h3.row.ext x311).keep kA (show p2.block ≠ p0.block by omega)).keep kB (show p2.block ≠ p1.block by omega)) (by rw [cells48]; rfl) rfl fun wC rC kC zC => ?_
  have rC : Row wC p2 48 (e24O.cs (.slice none 0 0)) := rC
  have kk : Keep (fun b => b ≠ p0.block ∧ b ≠ p1.block ∧ b ≠ p2.block) w11 wC := ((kA.mono fun b _ h => h.1).trans (kB.mono fun b _ h => h.2.1)).trans (kC.mono fun b _ h => h.2.2)
  have qa := (h4.row.ext (h5.ext.trans (h6.ext.trans (h7.ext.trans x711)))).keep kk (show pa.block ≠ p0.block ∧ pa.block ≠ p1.block ∧ pa.block ≠ p2.block by omega)
  have qb := (h5.row.ext (h6.ext.trans (h7.ext.trans x711))).keep kk (show pb.block ≠ p0.block ∧ pb.block ≠ p1.block ∧ pb.block ≠ p2.block by omega)
  have qr := (h6.row.ext (h7.ext.trans x711)).keep kk (show pr.block ≠ p0.block ∧ pr.block ≠ p1.block ∧ pr.block ≠ p2.block by omega)
  have ql := (h7.row.ext x711).keep kk (show pl.block ≠ p0.block ∧ pl.block ≠ p1.block ∧ pl.block ≠ p2.block by omega)
  have qc := (h10.row.ext h11.ext).keep kk (show pc.block ≠ p0.block ∧ pc.block ≠ p1.block ∧ pc.block ≠ p2.block by omega)
  have qd := h11.row.keep kk (show pd.block ≠ p0.block ∧ pd.block ≠ p1.block ∧ pd.block ≠ p2.block by omega)
  (repeat with_reducible first | refine js ?_ | refine ja ?_ | refine jw KL43 [] TF43 fun _ => ?_)
  refine Run_ret ?_
  simp only [Rets, RetM, resV, fnd, oneOr, ↓reduceIte]
  refine ⟨p0, _, rfl, loadVar_at (by kernel_rfl) (by rw [cells24]; decide) (by rw [cells24]; rfl) ((rA.keep kB (show p0.block ≠ p1.block by omega)).keep kC (show p0.block ≠ p2.block by omega)).at_, p1, _, rfl, loadVar_at (by kernel_rfl) (by rw [cells28]; decide) (by rw [cells28]; rfl) (rB.keep kC (show p1.block ≠ p2.block by omega)).at_, p2, _, rfl, loadVar_at (by kernel_rfl) (by rw [cells48]; decide) (by rw [cells48]; rfl) rC.at_, .slice (some pl) 1 1, .slice (some pc) 1 1, .slice (some pd) 1 1, rfl, Keep.ext ((h1.ext.trans x13).trans x311) kk fun b hb => by omega, ?_, ?_⟩
  · exact Sl.of_row (css := [_]) ql (Cs.one (LineR.rep ⟨ints22 e24L.Offices pa (by decide) (by decide) qa, ints22 e24L.Legs pb (by decide) (by decide) qb, by simp [e24L, I64], by simp [e24L, I64], Sl.of_row (css := [_]) qr (Cs.one ⟨rfl, by simp [I64], by simp [I64], by simp [I64]⟩) rfl (by decide), Sl.nil _⟩)) rfl (by decide)
  · exact ⟨ints22 e24F.Base pc (by decide) (by decide) qc, ints22 e24F.Leg pd (by decide) (by decide) qd, Sl.nil _⟩
end Go.Proofs.YtbfhenoiienghaaGreat
