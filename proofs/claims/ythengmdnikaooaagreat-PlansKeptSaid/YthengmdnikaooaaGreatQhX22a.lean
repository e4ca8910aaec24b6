import Derived.Test.YthengmdnikaooaaGreatQhW22z
import Derived.Test.YthengmdnikaooaaGreatQhGe
namespace Go.Proofs.YthengmdnikaooaaGreat
open Go Go.Fk
set_option linter.unusedSimpArgs false
set_option linter.unusedVariables false
set_option maxRecDepth 100000
def PV (w : World) (p : Addr) (pl : PlanD) : Prop := ∃ v0 v1 v2, Row w p 45 (pl.cs v0 v1 v2) ∧ PlanR w pl v0 v1 v2
theorem PV.ext {w w' : World} {p : Addr} {pl : PlanD} (h : PV w p pl) (x : Ext w w') : PV w' p pl := let ⟨v0, v1, v2, a, b⟩ := h; ⟨v0, v1, v2, a.ext x, b.ext x⟩
theorem extKeep {w0 w w' : World} {b : Nat} (h : Ext w0 w) (k : Keep (fun k => k ≠ b) w w') (hb : w0.heap.size ≤ b) : Ext w0 w' := Keep.ext h k fun q hq => by omega
theorem putPV {w : World} {p : Addr} {pl : PlanD} {v0 v1 v2 : Value} {K : Unit → World → Prop} (hr : Row w p 45 [.slice none 0 0, .slice none 0 0, .slice none 0 0]) (hP : PlanR w pl v0 v1 v2) (hK : ∀ w', Keep (fun k => k ≠ p.block) w w' → PV w' p pl → K () w') :
    SemW Tryz.prog (Instr.storeAt 45 (.pointer (some p)) (.agg (pl.cs v0 v1 v2).toArray)) w K := by
  refine SemW_setW (by rw [cells45]; decide) (by rw [cells45]; rfl) hr (by rw [cells45]; rfl) (by simp [Value.cells, PlanD.cs, isS_o hP.r.s, isS_o hP.o.s, isS_o hP.c.s]) fun wz rz kz zz => hK wz kz ⟨v0, v1, v2, by simpa [Value.cells] using rz, ?_⟩
  have kR : ∀ (v : Value) (xs : List RunD), Sl w v xs → Sl wz v xs := fun v xs hv => hv.keepD hr (fun x _ cs' hc => ⟨.int .i64 x.Line, by rw [hc.1]; rfl, fun hm => by simp at hm⟩) kz
  have kI : ∀ (v : Value) (xs : List Int), Sl w v xs → Sl wz v xs := fun v xs hv => hv.keepD hr (fun x _ cs' hc => ⟨.int .i64 x, by rw [hc.1]; rfl, fun hm => by simp at hm⟩) kz
  exact ⟨kR _ _ hP.r, kI _ _ hP.o, kI _ _ hP.c⟩
theorem ordLit2 {o o2 : OrderD} {g g2 : Value} {w : World} {K : Value → World → Prop} (hO : OrdR w o g) (hO2 : OrdR w o2 g2) (hK : ∀ v w', Sl w' v [o, o2] → Ext w w' → K v w') : SemW Tryz.prog (Instr.buildSlice 35 2 #[(0, .agg (o.cs g).toArray), (1, .agg (o2.cs g2).toArray)]) w K :=
  SemW_lit (α := OrderD) Tryz.underlying35 ti30 rfl (by decide) [.agg (o.cs g).toArray, .agg (o2.cs g2).toArray] [o, o2] rfl rfl (Cs.cons (by simpa [Value.cells] using hO.rep) (Cs.one (by simpa [Value.cells] using hO2.rep))) (by show 2 * 11 ≤ _; decide) hK
section
variable {vl u0 u1 u2 vo v0 v1 v2 g : Value} {t : TimeD} {f : TariffD} {l : List OrderD} {o : OrderD} {r : RunD} {p : PlanD} {covers : Int} {w : World} {K : Value → World → Prop}
theorem plOptW (hl : Sl w vl t.Lines) (hT : TarR w f u0 u1 u2) (hO : OrdR w o g) {q : List RunD × Int} (h : Pl.options t f o = q) (hK : ∀ v w', Ext w w' → Sl w' v q.1 → K (.tuple #[v, .int .i64 q.2]) w') :
    CallW Tryz.prog (.func (.func 15) #[] #[]) [.agg #[.int .i64 t.Offices, vl], .agg #[u0, u1, u2], .agg (o.cs g).toArray] w K := by
  subst h; exact CallW_gen call15 (plOptions vl t f u0 u1 u2 o g w hl hT hO) fun e w' ⟨v, he, x, hs⟩ => ⟨_, he, hK v w' x hs⟩
theorem plMakeW (hl : Sl w vl t.Lines) (hT : TarR w f u0 u1 u2) (ho : Sl w vo l) (hcv : I64 covers) {q : PlanD × Bool × Int} (h : Pl.make t f l covers = q) (hK : ∀ v0 v1 v2 w', Ext w w' → PlanR w' q.1 v0 v1 v2 → K (.tuple #[.agg (q.1.cs v0 v1 v2).toArray, .bool q.2.1, .int .i64 q.2.2]) w') :
    CallW Tryz.prog (.func (.func 18) #[] #[]) [.agg #[.int .i64 t.Offices, vl], .agg #[u0, u1, u2], vo, .int .i64 covers] w K := by
  subst h; exact CallW_gen call18 (plMake vl u0 u1 u2 vo t f l covers w hl hT ho hcv) fun e w' ⟨v0, v1, v2, he, x, hP⟩ => ⟨_, he, hK v0 v1 v2 w' x hP⟩
theorem plChkW (hl : Sl w vl t.Lines) (hT : TarR w f u0 u1 u2) (ho : Sl w vo l) (hP : PlanR w p v0 v1 v2) {q : Bool × Int} (h : Pl.check t f l covers p = q) (hK : ∀ w', Ext w w' → K (.tuple #[.bool q.1, .int .i64 q.2]) w') :
    CallW Tryz.prog (.func (.func 22) #[] #[]) [.agg #[.int .i64 t.Offices, vl], .agg #[u0, u1, u2], vo, .int .i64 covers, .agg #[v0, v1, v2]] w K := by
  subst h; exact CallW_pure call22 (plCheckP vl u0 u1 u2 vo v0 v1 v2 t f l covers p w hl hT ho hP) hK
end
set_option maxHeartbeats 4000000 in
theorem lawSane22 (w : World) : Calls Tryz.prog 11 #[] w fun e w' => e = .returned (.bool true) ∧ Ext w w' := by
  refine Calls_of_Run (args := []) (n := 251) (rs := [.tmp 0]) Tryz.func11 rfl rfl rfl (by simp) ?_
  (repeat with_reducible first | refine js ?_ | refine ja ?_ | refine jw KL11 [3, 4, 5, 6, 7] TF11 fun _ => ?_)
  refine CallW_gen call32 (lwTable w) fun e w1 ⟨vl, he1, x1, sl⟩ => ⟨_, he1, ?_⟩
  refine CallW_gen call33 (lwPrices w1) fun e w2 ⟨u0, u1, he2, x2, sT⟩ => ⟨_, he2, ?_⟩
  refine SemW_allocT ti24 fun pt w3 h3 => SemW_allocT ti28 fun pf w4 h4 => ?_
  have b3 := h3.blk
  have b4 := h4.blk
  have s3 := h3.size
  refine SemW_setW (by rw [cells24]; decide) (by rw [cells24]; rfl) (h3.row.ext h4.ext) (by rw [cells24]; rfl) (by simp [Value.cells, TimeD.cs, isS_o sl.s]; rfl) fun w5 r5 k5 z5 => ?_
  refine SemW_setW (by rw [cells28]; decide) (by rw [cells28]; rfl) (h4.row.keep k5 (by show pf.block ≠ pt.block; omega)) (by rw [cells28]; rfl) (by simp [Value.cells, TariffD.cs, isS_o sT.b.s, isS_o sT.l.s]; rfl) fun w6 r6 k6 z6 => ?_
  have x6 : Ext w2 w6 := Keep.ext (Keep.ext (h3.ext.trans h4.ext) k5 fun b hb => by omega) k6 fun b hb => by omega
  (repeat with_reducible first | refine js ?_ | refine ja ?_ | refine jw KL11 [3, 4, 5, 6, 7] TF11 fun _ => ?_)
  refine ⟨.agg xa.cs.toArray, fun _ => by kernel_rfl, .agg xb.cs.toArray, fun _ => by kernel_rfl, .agg xc.cs.toArray, fun _ => by kernel_rfl, ?_⟩
  refine SemW_allocT ti32 fun pa w7 h7 => SemW_allocT ti32 fun pb w8 h8 => SemW_allocT ti32 fun pc w9 h9 => ?_
  have b7 := h7.blk
  have b8 := h8.blk
  have b9 := h9.blk
  have s7 := h7.size
  have s8 := h8.size
  refine SemW_setW (by rw [cells32]; decide) (by rw [cells32]; rfl) (h7.row.ext (h8.ext.trans h9.ext)) (by rw [cells32]; rfl) rfl fun w10 r10 k10 z10 => ?_
  refine SemW_setW (by rw [cells32]; decide) (by rw [cells32]; rfl) ((h8.row.ext h9.ext).keep k10 (by show pb.block ≠ pa.block; omega)) (by rw [cells32]; rfl) rfl fun w11 r11 k11 z11 => ?_
  refine SemW_setW (by rw [cells32]; decide) (by rw [cells32]; rfl) ((h9.row.keep k10 (by show pc.block ≠ pa.block; omega)).keep k11 (by show pc.block ≠ pb.block; omega)) (by rw [cells32]; rfl) rfl fun wA r12 k12 z12 => ?_
  have r12 : Row wA pc 32 xc.cs := r12
  have r11 : Row wA pb 32 xb.cs := Row.keep r11 k12 (by show pb.block ≠ pc.block; omega)
  have r10 : Row wA pa 32 xa.cs := Row.keep (Row.keep r10 k11 (by show pa.block ≠ pb.block; omega)) k12 (by show pa.block ≠ pc.block; omega)
  have x12 : Ext w6 wA := Keep.ext (Keep.ext (Keep.ext (h7.ext.trans (h8.ext.trans h9.ext)) k10 fun b hb => by omega) k11 fun b hb => by omega) k12 fun b hb => by omega
  have r6 : Row wA pf 28 (xF.cs u0 u1 (.slice none 0 0)) := Row.ext r6 x12
  have r5 : Row wA pt 24 (xT.cs vl) := (Row.keep r5 k6 (by show pt.block ≠ pf.block; omega)).ext x12
  have qA : Ext w wA := x1.trans (x2.trans (x6.trans x12))
  have sL : ∀ w', Ext wA w' → Sl w' vl xT.Lines := fun w' x => sl.ext (x2.trans (x6.trans (x12.trans x)))
  have sF : ∀ w', Ext wA w' → TarR w' xF u0 u1 (.slice none 0 0) := fun w' x => sT.ext (x6.trans (x12.trans x))
  have T : ∀ w', Ext wA w' → AtN w' pt 0 (xT.cs vl) := fun w' x => (r5.ext x).n
  have F : ∀ w', Ext wA w' → AtN w' pf 0 (xF.cs u0 u1 (.slice none 0 0)) := fun w' x => (r6.ext x).n
  have A : ∀ w', Ext wA w' → AtN w' pa 0 xa.cs := fun w' x => (r10.ext x).n
  have B : ∀ w', Ext wA w' → AtN w' pb 0 xb.cs := fun w' x => (r11.ext x).n
  have C : ∀ w', Ext wA w' → AtN w' pc 0 xc.cs := fun w' x => (r12.ext x).n
  clear k12 k11 k10 k6 k5 z12 z11 z10 z6 z5 h3 h4 h7 h8 h9 x12 x6 r5 r6 r10 r11 r12 s3 s7 s8 sl sT x1 x2 he1 he2 b3 b4 b7 b8 b9
  simp only [TimeD.cs, TariffD.cs, RunD.cs, AtN, KS, Nat.reduceAdd, Nat.reduceMul, Nat.reduceEqDiff, ↓reduceIte, UT, xT, xF, xa, xb, xc] at T F A B C
  have t0 := T wA (Ext.refl _)
  have f0 := F wA (Ext.refl _)
  have a0 := A wA (Ext.refl _)
  (repeat with_reducible first | refine js ?_ | refine ja ?_ | refine jw KL11 [3, 4, 5, 6, 7] (aa TF11 (aa t0 (aa f0 a0))) fun _ => ?_)
  have PF : ∀ (a b c : Int) (r : RunD) (q : Bool × Int) (w : World), Ext wA w → Pl.fitsA xT xF (xO a b c) r = q → (0 ≤ a ∧ a ≤ 1000) → (0 ≤ b ∧ b ≤ 1000) → (0 ≤ c ∧ c ≤ 1000) → RunI r → PC Tryz.prog (Ext w) (.func (.func 13) #[] #[]) [.agg #[.int .i64 3, vl], .agg #[u0, u1, .slice none 0 0], .agg ((xO a b c).cs (.slice none 0 0)).toArray, .agg r.cs.toArray] (.tuple #[.bool q.1, .int .i64 q.2]) := fun a b c r q w x h ha hb hc hr => by
    subst h
    exact PC_pure call13 fun w' x' => plFitsP vl xT xF u0 u1 (.slice none 0 0) (xO a b c) (.slice none 0 0) r w' (sL w' (x.trans x')) (sF w' (x.trans x')) (xOR a b c w' ha hb hc) hr
  have PO : ∀ (a b c : Int) (w : World), PC Tryz.prog (Ext w) (.func (.func 34) #[] #[]) [.int .i64 a, .int .i64 b, .int .i64 c] (.agg ((xO a b c).cs (.slice none 0 0)).toArray) := fun a b c w => PC_pure call34 fun w' x => lwOrder a b c w'
  refine ⟨_, PO 5 17 3 wA, _, PF 5 17 3 xa _ wA (Ext.refl _) y1 (by decide) (by decide) (by decide) (by simp [RunI, xa, I64]), ⟨rfl, by simp [tpOf]⟩, ⟨rfl, by simp [tpOf]⟩, fun wB qB => ?_⟩
  have tB := T wB qB
  have fB := F wB qB
  have aB := A wB qB
  (repeat with_reducible first | refine js ?_ | refine ja ?_ | refine jw KL11 [3, 4, 5, 6, 7] (aa TF11 (aa tB (aa fB aB))) fun _ => ?_)
  refine ⟨_, PO 11 40 3 wB, _, PF 11 40 3 xa _ wB qB y2 (by decide) (by decide) (by decide) (by simp [RunI, xa, I64]), ⟨rfl, by simp [tpOf]⟩, ⟨rfl, by simp [tpOf]⟩, fun wC qC => ?_⟩
  have zC := qB.trans qC
  have tC := T wC zC
  have fC := F wC zC
  (repeat with_reducible first | refine js ?_ | refine ja ?_ | refine jw KL11 [3, 4, 5, 6, 7] (aa TF11 (aa tC fC)) fun _ => ?_)
  refine ⟨_, PO 5 17 3 wC, .agg (⟨-1, 0, 0⟩ : RunD).cs.toArray, fun _ => by kernel_rfl, _, PF 5 17 3 ⟨-1, 0, 0⟩ _ wC zC y3 (by decide) (by decide) (by decide) (by simp [RunI, I64]), ⟨rfl, by simp [tpOf]⟩, ⟨rfl, by simp [tpOf]⟩, fun wD qD => ?_⟩
  have zD := zC.trans qD
  (repeat with_reducible first | refine jq ?_ | refine jk ?_ | refine jc ?_ | refine jl ?_ | refine jb ?_ | refine jo ?_ | refine ji ?_ | refine jx rfl ?_)
  refine Run_ec (id := 6) KL11 (.first 0 (.first 1 (.alt 2 (.alt 3 (.first 4 (.first 5 (.first 6 (.first 7 (.first 8 .done))))) .stop) .stop))) mixed (by kernel_rfl) (by kernel_rfl) fun wE qE _ => ?_
  have zE := zD.trans qE
  have tE := T wE zE
  have fE := F wE zE
  (try simp (maxSteps := 5000000) only [KS, Nat.reduceAdd, Nat.reduceMul, Nat.reduceEqDiff, ↓reduceIte, forall_const, Int.cast_ofNat_Int, Int.reduceToNat, List.take_succ_cons, List.take_zero, List.drop_succ_cons, List.drop_zero, TF11, KL11, ec, tE, fE]); (try simp (disch := omega) only [wrapI, tmodI, tdivI])
  refine ⟨Ext.refl _, CallW_pure call34 (lwOrder 11 40 4 wE) fun wF qF => ⟨qF, plOptW (t := xT) (f := xF) (o := xO 11 40 4) (g := .slice none 0 0) (sL _ (zE.trans qF)) (sF _ (zE.trans qF)) (xOR 11 40 4 _ (by decide) (by decide) (by decide)) y4 fun vL wG qG sLL => ⟨⟨rfl, by simp [tpOf]⟩, ⟨rfl, by simp [tpOf]⟩, qF.trans qG, ?_⟩⟩⟩
  have zG := zE.trans (qF.trans qG)
  (repeat with_reducible first | refine jq ?_ | refine jk ?_ | refine jc ?_ | refine jl ?_ | refine jb ?_ | refine jo ?_ | refine ji ?_ | refine jx rfl ?_)
  refine Run_ec (id := 7) KL11 (.first 0 (.first 1 (.alt 2 (.alt 3 (.first 4 (.first 5 (.first 6 (.first 7 (.first 8 .done))))) .stop) .stop))) mixed (by kernel_rfl) (by kernel_rfl) fun wH qH _ => ?_
  have zH := zG.trans qH
  have tH := T wH zH
  have fH := F wH zH
  (try simp (maxSteps := 5000000) only [KS, Nat.reduceAdd, Nat.reduceMul, Nat.reduceEqDiff, ↓reduceIte, forall_const, Int.cast_ofNat_Int, Int.reduceToNat, List.take_succ_cons, List.take_zero, List.drop_succ_cons, List.drop_zero, TF11, KL11, ec, tH, fH]); (try simp (disch := omega) only [wrapI, tmodI, tdivI])
  refine ⟨Ext.refl _, CallW_pure call34 (lwOrder 11 40 5 wH) fun wI qI => ⟨qI, plOptW (t := xT) (f := xF) (o := xO 11 40 5) (g := .slice none 0 0) (sL _ (zH.trans qI)) (sF _ (zH.trans qI)) (xOR 11 40 5 _ (by decide) (by decide) (by decide)) y5 fun vM wJ qJ sM => ⟨⟨rfl, by simp [tpOf]⟩, ⟨rfl, by simp [tpOf]⟩, qI.trans qJ, ?_⟩⟩⟩
  have zJ := zH.trans (qI.trans qJ)
  (repeat with_reducible first | refine jq ?_ | refine jk ?_ | refine jc ?_ | refine jl ?_ | refine jb ?_ | refine jo ?_ | refine ji ?_ | refine jx rfl ?_)
  refine Run_cutV [16, 17, 18] (σ := Addr) (fun p => [(16, some (.pointer (some p))), (17, some (.bool true)), (18, some (.int .i64 0))]) (fun p w' => Ext wJ w' ∧ PV w' p xp) ?_ ?_
  · refine Run_ec (id := 8) KL11 (.first 0 (.first 1 (.alt 2 (.alt 3 (.alt 4 (.alt 5 (.first 6 (.first 7 (.first 8 (.first 9 (.alt 10 (.alt 11 (.first 12 (.first 13 .done)) .stop) .stop))))) (.alt 10 (.alt 5 (.first 6 (.first 7 (.first 8 (.first 9 (.alt 11 (.first 12 (.first 13 .done)) .stop))))) .stop) .stop)) (.alt 10 (.alt 4 (.alt 5 (.first 6 (.first 7 (.first 8 (.first 9 (.alt 11 (.first 12 (.first 13 .done)) .stop))))) .stop) .stop) .stop)) (.alt 10 (.alt 3 (.alt 4 (.alt 5 (.first 6 (.first 7 (.first 8 (.first 9 (.alt 11 (.first 12 (.first 13 .done)) .stop))))) .stop) .stop) .stop) .stop)) (.alt 10 (.alt 2 (.alt 3 (.alt 4 (.alt 5 (.first 6 (.first 7 (.first 8 (.first 9 (.alt 11 (.first 12 (.first 13 .done)) .stop))))) .stop) .stop) .stop) .stop) .stop)))) mixed (by kernel_rfl) (by kernel_rfl) fun w0 x0 _ => ?_
    have z0 := zJ.trans x0
    have t0 := T w0 z0
    have f0 := F w0 z0
    (try simp (maxSteps := 5000000) only [KS, Nat.reduceAdd, Nat.reduceMul, Nat.reduceEqDiff, ↓reduceIte, forall_const, Int.cast_ofNat_Int, Int.reduceToNat, List.take_succ_cons, List.take_zero, List.drop_succ_cons, List.drop_zero, TF11, KL11, ec, t0, f0]); (try simp (disch := omega) only [wrapI, tmodI, tdivI])
    refine ⟨Ext.refl w0, ?_⟩
    refine ⟨?_, (Ext.refl w0), ?_⟩
    · skip
      refine CallW_pure call34 (lwOrder 5 40 3 w0) fun w1 x1 => ⟨((Ext.refl w0).trans x1), ?_⟩
      refine ⟨?_, ((Ext.refl w0).trans x1), ?_⟩
      · skip
        refine CallW_pure call34 (lwOrder 11 40 3 w1) fun w2 x2 => ⟨(((Ext.refl w0).trans x1).trans x2), ?_⟩
        refine ⟨?_, (((Ext.refl w0).trans x1).trans x2), ?_⟩
        · skip
          refine ordLit2 (xOR 5 40 3 _ (by decide) (by decide) (by decide)) (xOR 11 40 3 _ (by decide) (by decide) (by decide)) fun vS w3 sS x3 => ⟨((((Ext.refl w0).trans x1).trans x2).trans x3), ?_⟩
          refine ⟨?_, ((((Ext.refl w0).trans x1).trans x2).trans x3), ?_⟩
          · skip
            refine plMakeW (t := xT) (f := xF) (l := [xO 5 40 3, xO 11 40 3]) (sL _ (z0.trans ((((Ext.refl w0).trans x1).trans x2).trans x3))) (sF _ (z0.trans ((((Ext.refl w0).trans x1).trans x2).trans x3))) sS (by simp [I64]) y6 fun v0 v1 v2 w4 x4 hP => ⟨⟨rfl, by simp [tpOf]⟩, ⟨rfl, by simp [tpOf]⟩, ⟨rfl, by simp [tpOf]⟩, (((((Ext.refl w0).trans x1).trans x2).trans x3).trans x4), ?_⟩
            refine SemW_allocT ti45 fun pp w5 hA => ⟨(((((Ext.refl w0).trans x1).trans x2).trans x3).trans x4).trans hA.ext, ?_⟩
            have x5 := hA.ext
            have bA := hA.blk
            have rA : Row w5 pp 45 [.slice none 0 0, .slice none 0 0, .slice none 0 0] := hA.row
            have szA : w0.heap.size ≤ w4.heap.size := (((((Ext.refl w0).trans x1).trans x2).trans x3).trans x4).size
            refine putPV rA (hP.ext x5) fun w6 k h => ⟨extKeep ((((((Ext.refl w0).trans x1).trans x2).trans x3).trans x4).trans x5) k (by omega), ?_⟩
            exact Run_lp ⟨pp, by simp [SubB, fnd, strike, has], x0.trans (extKeep ((((((Ext.refl w0).trans x1).trans x2).trans x3).trans x4).trans x5) k (by omega)), h⟩
          · skip
            refine SemW_allocT ti45 fun pp w4 hA => ⟨((((Ext.refl w0).trans x1).trans x2).trans x3).trans hA.ext, ?_⟩
            have x4 := hA.ext
            have bA := hA.blk
            have rA : Row w4 pp 45 [.slice none 0 0, .slice none 0 0, .slice none 0 0] := hA.row
            have szA : w0.heap.size ≤ w3.heap.size := ((((Ext.refl w0).trans x1).trans x2).trans x3).size
            refine plMakeW (t := xT) (f := xF) (l := [xO 5 40 3, xO 11 40 3]) (sL _ (z0.trans (((((Ext.refl w0).trans x1).trans x2).trans x3).trans x4))) (sF _ (z0.trans (((((Ext.refl w0).trans x1).trans x2).trans x3).trans x4))) (sS.ext x4) (by simp [I64]) y6 fun v0 v1 v2 w5 x5 hP => ⟨⟨rfl, by simp [tpOf]⟩, ⟨rfl, by simp [tpOf]⟩, ⟨rfl, by simp [tpOf]⟩, ((((((Ext.refl w0).trans x1).trans x2).trans x3).trans x4).trans x5), ?_⟩
            refine putPV (rA.ext x5) hP fun w6 k h => ⟨extKeep ((((((Ext.refl w0).trans x1).trans x2).trans x3).trans x4).trans x5) k (by omega), ?_⟩
            exact Run_lp ⟨pp, by simp [SubB, fnd, strike, has], x0.trans (extKeep ((((((Ext.refl w0).trans x1).trans x2).trans x3).trans x4).trans x5) k (by omega)), h⟩
        · skip
          refine SemW_allocT ti45 fun pp w3 hA => ⟨(((Ext.refl w0).trans x1).trans x2).trans hA.ext, ?_⟩
          have x3 := hA.ext
          have bA := hA.blk
          have rA : Row w3 pp 45 [.slice none 0 0, .slice none 0 0, .slice none 0 0] := hA.row
          have szA : w0.heap.size ≤ w2.heap.size := (((Ext.refl w0).trans x1).trans x2).size
          refine ordLit2 (xOR 5 40 3 _ (by decide) (by decide) (by decide)) (xOR 11 40 3 _ (by decide) (by decide) (by decide)) fun vS w4 sS x4 => ⟨(((((Ext.refl w0).trans x1).trans x2).trans x3).trans x4), ?_⟩
          refine plMakeW (t := xT) (f := xF) (l := [xO 5 40 3, xO 11 40 3]) (sL _ (z0.trans (((((Ext.refl w0).trans x1).trans x2).trans x3).trans x4))) (sF _ (z0.trans (((((Ext.refl w0).trans x1).trans x2).trans x3).trans x4))) sS (by simp [I64]) y6 fun v0 v1 v2 w5 x5 hP => ⟨⟨rfl, by simp [tpOf]⟩, ⟨rfl, by simp [tpOf]⟩, ⟨rfl, by simp [tpOf]⟩, ((((((Ext.refl w0).trans x1).trans x2).trans x3).trans x4).trans x5), ?_⟩
          refine putPV ((rA.ext x4).ext x5) hP fun w6 k h => ⟨extKeep ((((((Ext.refl w0).trans x1).trans x2).trans x3).trans x4).trans x5) k (by omega), ?_⟩
          exact Run_lp ⟨pp, by simp [SubB, fnd, strike, has], x0.trans (extKeep ((((((Ext.refl w0).trans x1).trans x2).trans x3).trans x4).trans x5) k (by omega)), h⟩
      · skip
        refine SemW_allocT ti45 fun pp w2 hA => ⟨((Ext.refl w0).trans x1).trans hA.ext, ?_⟩
        have x2 := hA.ext
        have bA := hA.blk
        have rA : Row w2 pp 45 [.slice none 0 0, .slice none 0 0, .slice none 0 0] := hA.row
        have szA : w0.heap.size ≤ w1.heap.size := ((Ext.refl w0).trans x1).size
        refine CallW_pure call34 (lwOrder 11 40 3 w2) fun w3 x3 => ⟨((((Ext.refl w0).trans x1).trans x2).trans x3), ?_⟩
        refine ordLit2 (xOR 5 40 3 _ (by decide) (by decide) (by decide)) (xOR 11 40 3 _ (by decide) (by decide) (by decide)) fun vS w4 sS x4 => ⟨(((((Ext.refl w0).trans x1).trans x2).trans x3).trans x4), ?_⟩
        refine plMakeW (t := xT) (f := xF) (l := [xO 5 40 3, xO 11 40 3]) (sL _ (z0.trans (((((Ext.refl w0).trans x1).trans x2).trans x3).trans x4))) (sF _ (z0.trans (((((Ext.refl w0).trans x1).trans x2).trans x3).trans x4))) sS (by simp [I64]) y6 fun v0 v1 v2 w5 x5 hP => ⟨⟨rfl, by simp [tpOf]⟩, ⟨rfl, by simp [tpOf]⟩, ⟨rfl, by simp [tpOf]⟩, ((((((Ext.refl w0).trans x1).trans x2).trans x3).trans x4).trans x5), ?_⟩
        refine putPV (((rA.ext x3).ext x4).ext x5) hP fun w6 k h => ⟨extKeep ((((((Ext.refl w0).trans x1).trans x2).trans x3).trans x4).trans x5) k (by omega), ?_⟩
        exact Run_lp ⟨pp, by simp [SubB, fnd, strike, has], x0.trans (extKeep ((((((Ext.refl w0).trans x1).trans x2).trans x3).trans x4).trans x5) k (by omega)), h⟩
    · skip
      refine SemW_allocT ti45 fun pp w1 hA => ⟨(Ext.refl w0).trans hA.ext, ?_⟩
      have x1 := hA.ext
      have bA := hA.blk
      have rA : Row w1 pp 45 [.slice none 0 0, .slice none 0 0, .slice none 0 0] := hA.row
      have szA : w0.heap.size ≤ w0.heap.size := (Ext.refl w0).size
      refine CallW_pure call34 (lwOrder 5 40 3 w1) fun w2 x2 => ⟨(((Ext.refl w0).trans x1).trans x2), ?_⟩
      refine CallW_pure call34 (lwOrder 11 40 3 w2) fun w3 x3 => ⟨((((Ext.refl w0).trans x1).trans x2).trans x3), ?_⟩
      refine ordLit2 (xOR 5 40 3 _ (by decide) (by decide) (by decide)) (xOR 11 40 3 _ (by decide) (by decide) (by decide)) fun vS w4 sS x4 => ⟨(((((Ext.refl w0).trans x1).trans x2).trans x3).trans x4), ?_⟩
      refine plMakeW (t := xT) (f := xF) (l := [xO 5 40 3, xO 11 40 3]) (sL _ (z0.trans (((((Ext.refl w0).trans x1).trans x2).trans x3).trans x4))) (sF _ (z0.trans (((((Ext.refl w0).trans x1).trans x2).trans x3).trans x4))) sS (by simp [I64]) y6 fun v0 v1 v2 w5 x5 hP => ⟨⟨rfl, by simp [tpOf]⟩, ⟨rfl, by simp [tpOf]⟩, ⟨rfl, by simp [tpOf]⟩, ((((((Ext.refl w0).trans x1).trans x2).trans x3).trans x4).trans x5), ?_⟩
      refine putPV ((((rA.ext x2).ext x3).ext x4).ext x5) hP fun w6 k h => ⟨extKeep ((((((Ext.refl w0).trans x1).trans x2).trans x3).trans x4).trans x5) k (by omega), ?_⟩
      exact Run_lp ⟨pp, by simp [SubB, fnd, strike, has], x0.trans (extKeep ((((((Ext.refl w0).trans x1).trans x2).trans x3).trans x4).trans x5) k (by omega)), h⟩
  rintro p16 wK ⟨qK, PK⟩
  have zK := zJ.trans qK
  (repeat with_reducible first | refine jq ?_ | refine jk ?_ | refine jc ?_ | refine jl ?_ | refine jb ?_ | refine jo ?_ | refine ji ?_ | refine jx rfl ?_)
  refine Run_cutV [19, 20, 21] (σ := Addr) (fun p => [(19, some (.pointer (some p))), (20, some (.bool true)), (21, some (.int .i64 0))]) (fun p w' => Ext wK w' ∧ PV w' p xq) ?_ ?_
  · refine Run_ec (id := 9) KL11 (.first 0 (.first 1 (.alt 2 (.alt 3 (.alt 4 (.alt 5 (.first 6 (.first 7 (.first 8 (.first 9 (.alt 10 (.alt 11 (.first 12 (.first 13 .done)) .stop) .stop))))) (.alt 10 (.alt 5 (.first 6 (.first 7 (.first 8 (.first 9 (.alt 11 (.first 12 (.first 13 .done)) .stop))))) .stop) .stop)) (.alt 10 (.alt 4 (.alt 5 (.first 6 (.first 7 (.first 8 (.first 9 (.alt 11 (.first 12 (.first 13 .done)) .stop))))) .stop) .stop) .stop)) (.alt 10 (.alt 3 (.alt 4 (.alt 5 (.first 6 (.first 7 (.first 8 (.first 9 (.alt 11 (.first 12 (.first 13 .done)) .stop))))) .stop) .stop) .stop) .stop)) (.alt 10 (.alt 2 (.alt 3 (.alt 4 (.alt 5 (.first 6 (.first 7 (.first 8 (.first 9 (.alt 11 (.first 12 (.first 13 .done)) .stop))))) .stop) .stop) .stop) .stop) .stop)))) mixed (by kernel_rfl) (by kernel_rfl) fun w0 x0 _ => ?_
    have z0 := zK.trans x0
    have t0 := T w0 z0
    have f0 := F w0 z0
    (try simp (maxSteps := 5000000) only [KS, Nat.reduceAdd, Nat.reduceMul, Nat.reduceEqDiff, ↓reduceIte, forall_const, Int.cast_ofNat_Int, Int.reduceToNat, List.take_succ_cons, List.take_zero, List.drop_succ_cons, List.drop_zero, TF11, KL11, ec, t0, f0]); (try simp (disch := omega) only [wrapI, tmodI, tdivI])
    refine ⟨Ext.refl w0, ?_⟩
    refine ⟨?_, (Ext.refl w0), ?_⟩
    · skip
      refine CallW_pure call34 (lwOrder 5 40 3 w0) fun w1 x1 => ⟨((Ext.refl w0).trans x1), ?_⟩
      refine ⟨?_, ((Ext.refl w0).trans x1), ?_⟩
      · skip
        refine CallW_pure call34 (lwOrder 11 40 3 w1) fun w2 x2 => ⟨(((Ext.refl w0).trans x1).trans x2), ?_⟩
        refine ⟨?_, (((Ext.refl w0).trans x1).trans x2), ?_⟩
        · skip
          refine ordLit2 (xOR 5 40 3 _ (by decide) (by decide) (by decide)) (xOR 11 40 3 _ (by decide) (by decide) (by decide)) fun vS w3 sS x3 => ⟨((((Ext.refl w0).trans x1).trans x2).trans x3), ?_⟩
          refine ⟨?_, ((((Ext.refl w0).trans x1).trans x2).trans x3), ?_⟩
          · skip
            refine plMakeW (t := xT) (f := xF) (l := [xO 5 40 3, xO 11 40 3]) (sL _ (z0.trans ((((Ext.refl w0).trans x1).trans x2).trans x3))) (sF _ (z0.trans ((((Ext.refl w0).trans x1).trans x2).trans x3))) sS (by simp [I64]) y7 fun v0 v1 v2 w4 x4 hP => ⟨⟨rfl, by simp [tpOf]⟩, ⟨rfl, by simp [tpOf]⟩, ⟨rfl, by simp [tpOf]⟩, (((((Ext.refl w0).trans x1).trans x2).trans x3).trans x4), ?_⟩
            refine SemW_allocT ti45 fun pp w5 hA => ⟨(((((Ext.refl w0).trans x1).trans x2).trans x3).trans x4).trans hA.ext, ?_⟩
            have x5 := hA.ext
            have bA := hA.blk
            have rA : Row w5 pp 45 [.slice none 0 0, .slice none 0 0, .slice none 0 0] := hA.row
            have szA : w0.heap.size ≤ w4.heap.size := (((((Ext.refl w0).trans x1).trans x2).trans x3).trans x4).size
            refine putPV rA (hP.ext x5) fun w6 k h => ⟨extKeep ((((((Ext.refl w0).trans x1).trans x2).trans x3).trans x4).trans x5) k (by omega), ?_⟩
            exact Run_lp ⟨pp, by simp [SubB, fnd, strike, has], x0.trans (extKeep ((((((Ext.refl w0).trans x1).trans x2).trans x3).trans x4).trans x5) k (by omega)), h⟩
          · skip
            refine SemW_allocT ti45 fun pp w4 hA => ⟨((((Ext.refl w0).trans x1).trans x2).trans x3).trans hA.ext, ?_⟩
            have x4 := hA.ext
            have bA := hA.blk
            have rA : Row w4 pp 45 [.slice none 0 0, .slice none 0 0, .slice none 0 0] := hA.row
            have szA : w0.heap.size ≤ w3.heap.size := ((((Ext.refl w0).trans x1).trans x2).trans x3).size
            refine plMakeW (t := xT) (f := xF) (l := [xO 5 40 3, xO 11 40 3]) (sL _ (z0.trans (((((Ext.refl w0).trans x1).trans x2).trans x3).trans x4))) (sF _ (z0.trans (((((Ext.refl w0).trans x1).trans x2).trans x3).trans x4))) (sS.ext x4) (by simp [I64]) y7 fun v0 v1 v2 w5 x5 hP => ⟨⟨rfl, by simp [tpOf]⟩, ⟨rfl, by simp [tpOf]⟩, ⟨rfl, by simp [tpOf]⟩, ((((((Ext.refl w0).trans x1).trans x2).trans x3).trans x4).trans x5), ?_⟩
            refine putPV (rA.ext x5) hP fun w6 k h => ⟨extKeep ((((((Ext.refl w0).trans x1).trans x2).trans x3).trans x4).trans x5) k (by omega), ?_⟩
            exact Run_lp ⟨pp, by simp [SubB, fnd, strike, has], x0.trans (extKeep ((((((Ext.refl w0).trans x1).trans x2).trans x3).trans x4).trans x5) k (by omega)), h⟩
        · skip
          refine SemW_allocT ti45 fun pp w3 hA => ⟨(((Ext.refl w0).trans x1).trans x2).trans hA.ext, ?_⟩
          have x3 := hA.ext
          have bA := hA.blk
          have rA : Row w3 pp 45 [.slice none 0 0, .slice none 0 0, .slice none 0 0] := hA.row
          have szA : w0.heap.size ≤ w2.heap.size := (((Ext.refl w0).trans x1).trans x2).size
          refine ordLit2 (xOR 5 40 3 _ (by decide) (by decide) (by decide)) (xOR 11 40 3 _ (by decide) (by decide) (by decide)) fun vS w4 sS x4 => ⟨(((((Ext.refl w0).trans x1).trans x2).trans x3).trans x4), ?_⟩
          refine plMakeW (t := xT) (f := xF) (l := [xO 5 40 3, xO 11 40 3]) (sL _ (z0.trans (((((Ext.refl w0).trans x1).trans x2).trans x3).trans x4))) (sF _ (z0.trans (((((Ext.refl w0).trans x1).trans x2).trans x3).trans x4))) sS (by simp [I64]) y7 fun v0 v1 v2 w5 x5 hP => ⟨⟨rfl, by simp [tpOf]⟩, ⟨rfl, by simp [tpOf]⟩, ⟨rfl, by simp [tpOf]⟩, ((((((Ext.refl w0).trans x1).trans x2).trans x3).trans x4).trans x5), ?_⟩
          refine putPV ((rA.ext x4).ext x5) hP fun w6 k h => ⟨extKeep ((((((Ext.refl w0).trans x1).trans x2).trans x3).trans x4).trans x5) k (by omega), ?_⟩
          exact Run_lp ⟨pp, by simp [SubB, fnd, strike, has], x0.trans (extKeep ((((((Ext.refl w0).trans x1).trans x2).trans x3).trans x4).trans x5) k (by omega)), h⟩
      · skip
        refine SemW_allocT ti45 fun pp w2 hA => ⟨((Ext.refl w0).trans x1).trans hA.ext, ?_⟩
        have x2 := hA.ext
        have bA := hA.blk
        have rA : Row w2 pp 45 [.slice none 0 0, .slice none 0 0, .slice none 0 0] := hA.row
        have szA : w0.heap.size ≤ w1.heap.size := ((Ext.refl w0).trans x1).size
        refine CallW_pure call34 (lwOrder 11 40 3 w2) fun w3 x3 => ⟨((((Ext.refl w0).trans x1).trans x2).trans x3), ?_⟩
        refine ordLit2 (xOR 5 40 3 _ (by decide) (by decide) (by decide)) (xOR 11 40 3 _ (by decide) (by decide) (by decide)) fun vS w4 sS x4 => ⟨(((((Ext.refl w0).trans x1).trans x2).trans x3).trans x4), ?_⟩
        refine plMakeW (t := xT) (f := xF) (l := [xO 5 40 3, xO 11 40 3]) (sL _ (z0.trans (((((Ext.refl w0).trans x1).trans x2).trans x3).trans x4))) (sF _ (z0.trans (((((Ext.refl w0).trans x1).trans x2).trans x3).trans x4))) sS (by simp [I64]) y7 fun v0 v1 v2 w5 x5 hP => ⟨⟨rfl, by simp [tpOf]⟩, ⟨rfl, by simp [tpOf]⟩, ⟨rfl, by simp [tpOf]⟩, ((((((Ext.refl w0).trans x1).trans x2).trans x3).trans x4).trans x5), ?_⟩
        refine putPV (((rA.ext x3).ext x4).ext x5) hP fun w6 k h => ⟨extKeep ((((((Ext.refl w0).trans x1).trans x2).trans x3).trans x4).trans x5) k (by omega), ?_⟩
        exact Run_lp ⟨pp, by simp [SubB, fnd, strike, has], x0.trans (extKeep ((((((Ext.refl w0).trans x1).trans x2).trans x3).trans x4).trans x5) k (by omega)), h⟩
    · skip
      refine SemW_allocT ti45 fun pp w1 hA => ⟨(Ext.refl w0).trans hA.ext, ?_⟩
      have x1 := hA.ext
      have bA := hA.blk
      have rA : Row w1 pp 45 [.slice none 0 0, .slice none 0 0, .slice none 0 0] := hA.row
      have szA : w0.heap.size ≤ w0.heap.size := (Ext.refl w0).size
      refine CallW_pure call34 (lwOrder 5 40 3 w1) fun w2 x2 => ⟨(((Ext.refl w0).trans x1).trans x2), ?_⟩
      refine CallW_pure call34 (lwOrder 11 40 3 w2) fun w3 x3 => ⟨((((Ext.refl w0).trans x1).trans x2).trans x3), ?_⟩
      refine ordLit2 (xOR 5 40 3 _ (by decide) (by decide) (by decide)) (xOR 11 40 3 _ (by decide) (by decide) (by decide)) fun vS w4 sS x4 => ⟨(((((Ext.refl w0).trans x1).trans x2).trans x3).trans x4), ?_⟩
      refine plMakeW (t := xT) (f := xF) (l := [xO 5 40 3, xO 11 40 3]) (sL _ (z0.trans (((((Ext.refl w0).trans x1).trans x2).trans x3).trans x4))) (sF _ (z0.trans (((((Ext.refl w0).trans x1).trans x2).trans x3).trans x4))) sS (by simp [I64]) y7 fun v0 v1 v2 w5 x5 hP => ⟨⟨rfl, by simp [tpOf]⟩, ⟨rfl, by simp [tpOf]⟩, ⟨rfl, by simp [tpOf]⟩, ((((((Ext.refl w0).trans x1).trans x2).trans x3).trans x4).trans x5), ?_⟩
      refine putPV ((((rA.ext x2).ext x3).ext x4).ext x5) hP fun w6 k h => ⟨extKeep ((((((Ext.refl w0).trans x1).trans x2).trans x3).trans x4).trans x5) k (by omega), ?_⟩
      exact Run_lp ⟨pp, by simp [SubB, fnd, strike, has], x0.trans (extKeep ((((((Ext.refl w0).trans x1).trans x2).trans x3).trans x4).trans x5) k (by omega)), h⟩
  rintro p19 wL ⟨qL, PL⟩
  have zL := zK.trans qL
  (repeat with_reducible first | refine jq ?_ | refine jk ?_ | refine jc ?_ | refine jl ?_ | refine jb ?_ | refine jo ?_ | refine ji ?_ | refine jx rfl ?_)
  refine Run_cutV [22, 23, 24] (σ := Addr) (fun p => [(23, some (.bool false)), (24, some (.int .i64 0))]) (fun p w' => Ext wL w' ∧ PV w' p Pl.noPlan) ?_ ?_
  · refine Run_ec (id := 10) KL11 (.first 0 (.first 1 (.alt 2 (.alt 3 (.alt 4 (.first 5 (.first 6 (.first 7 (.first 8 (.alt 9 (.alt 10 (.first 11 (.first 12 .done)) .stop) .stop))))) (.alt 9 (.alt 4 (.first 5 (.first 6 (.first 7 (.first 8 (.alt 10 (.first 11 (.first 12 .done)) .stop))))) .stop) .stop)) (.alt 9 (.alt 3 (.alt 4 (.first 5 (.first 6 (.first 7 (.first 8 (.alt 10 (.first 11 (.first 12 .done)) .stop))))) .stop) .stop) .stop)) (.alt 9 (.alt 2 (.alt 3 (.alt 4 (.first 5 (.first 6 (.first 7 (.first 8 (.alt 10 (.first 11 (.first 12 .done)) .stop))))) .stop) .stop) .stop) .stop)))) mixed (by kernel_rfl) (by kernel_rfl) fun w0 x0 _ => ?_
    have z0 := zL.trans x0
    have t0 := T w0 z0
    have f0 := F w0 z0
    (try simp (maxSteps := 5000000) only [KS, Nat.reduceAdd, Nat.reduceMul, Nat.reduceEqDiff, ↓reduceIte, forall_const, Int.cast_ofNat_Int, Int.reduceToNat, List.take_succ_cons, List.take_zero, List.drop_succ_cons, List.drop_zero, TF11, KL11, ec, t0, f0]); (try simp (disch := omega) only [wrapI, tmodI, tdivI])
    refine ⟨Ext.refl w0, ?_⟩
    refine ⟨?_, (Ext.refl w0), ?_⟩
    · skip
      refine CallW_pure call34 (lwOrder 5 40 3 w0) fun w1 x1 => ⟨((Ext.refl w0).trans x1), ?_⟩
      refine ⟨?_, ((Ext.refl w0).trans x1), ?_⟩
      · skip
        refine ordLit (xOR 5 40 3 _ (by decide) (by decide) (by decide)) fun vS w2 sS x2 => ⟨(((Ext.refl w0).trans x1).trans x2), ?_⟩
        refine ⟨?_, (((Ext.refl w0).trans x1).trans x2), ?_⟩
        · skip
          refine plMakeW (t := xT) (f := xF) (l := [xO 5 40 3]) (sL _ (z0.trans (((Ext.refl w0).trans x1).trans x2))) (sF _ (z0.trans (((Ext.refl w0).trans x1).trans x2))) sS (by simp [I64]) y8 fun v0 v1 v2 w3 x3 hP => ⟨⟨rfl, by simp [tpOf]⟩, ⟨rfl, by simp [tpOf]⟩, ⟨rfl, by simp [tpOf]⟩, ((((Ext.refl w0).trans x1).trans x2).trans x3), ?_⟩
          refine SemW_allocT ti45 fun pp w4 hA => ⟨((((Ext.refl w0).trans x1).trans x2).trans x3).trans hA.ext, ?_⟩
          have x4 := hA.ext
          have bA := hA.blk
          have rA : Row w4 pp 45 [.slice none 0 0, .slice none 0 0, .slice none 0 0] := hA.row
          have szA : w0.heap.size ≤ w3.heap.size := ((((Ext.refl w0).trans x1).trans x2).trans x3).size
          refine putPV rA (hP.ext x4) fun w5 k h => ⟨extKeep (((((Ext.refl w0).trans x1).trans x2).trans x3).trans x4) k (by omega), ?_⟩
          exact Run_lp ⟨pp, by simp [SubB, fnd, strike, has], x0.trans (extKeep (((((Ext.refl w0).trans x1).trans x2).trans x3).trans x4) k (by omega)), h⟩
        · skip
          refine SemW_allocT ti45 fun pp w3 hA => ⟨(((Ext.refl w0).trans x1).trans x2).trans hA.ext, ?_⟩
          have x3 := hA.ext
          have bA := hA.blk
          have rA : Row w3 pp 45 [.slice none 0 0, .slice none 0 0, .slice none 0 0] := hA.row
          have szA : w0.heap.size ≤ w2.heap.size := (((Ext.refl w0).trans x1).trans x2).size
          refine plMakeW (t := xT) (f := xF) (l := [xO 5 40 3]) (sL _ (z0.trans ((((Ext.refl w0).trans x1).trans x2).trans x3))) (sF _ (z0.trans ((((Ext.refl w0).trans x1).trans x2).trans x3))) (sS.ext x3) (by simp [I64]) y8 fun v0 v1 v2 w4 x4 hP => ⟨⟨rfl, by simp [tpOf]⟩, ⟨rfl, by simp [tpOf]⟩, ⟨rfl, by simp [tpOf]⟩, (((((Ext.refl w0).trans x1).trans x2).trans x3).trans x4), ?_⟩
          refine putPV (rA.ext x4) hP fun w5 k h => ⟨extKeep (((((Ext.refl w0).trans x1).trans x2).trans x3).trans x4) k (by omega), ?_⟩
          exact Run_lp ⟨pp, by simp [SubB, fnd, strike, has], x0.trans (extKeep (((((Ext.refl w0).trans x1).trans x2).trans x3).trans x4) k (by omega)), h⟩
      · skip
        refine SemW_allocT ti45 fun pp w2 hA => ⟨((Ext.refl w0).trans x1).trans hA.ext, ?_⟩
        have x2 := hA.ext
        have bA := hA.blk
        have rA : Row w2 pp 45 [.slice none 0 0, .slice none 0 0, .slice none 0 0] := hA.row
        have szA : w0.heap.size ≤ w1.heap.size := ((Ext.refl w0).trans x1).size
        refine ordLit (xOR 5 40 3 _ (by decide) (by decide) (by decide)) fun vS w3 sS x3 => ⟨((((Ext.refl w0).trans x1).trans x2).trans x3), ?_⟩
        refine plMakeW (t := xT) (f := xF) (l := [xO 5 40 3]) (sL _ (z0.trans ((((Ext.refl w0).trans x1).trans x2).trans x3))) (sF _ (z0.trans ((((Ext.refl w0).trans x1).trans x2).trans x3))) sS (by simp [I64]) y8 fun v0 v1 v2 w4 x4 hP => ⟨⟨rfl, by simp [tpOf]⟩, ⟨rfl, by simp [tpOf]⟩, ⟨rfl, by simp [tpOf]⟩, (((((Ext.refl w0).trans x1).trans x2).trans x3).trans x4), ?_⟩
        refine putPV ((rA.ext x3).ext x4) hP fun w5 k h => ⟨extKeep (((((Ext.refl w0).trans x1).trans x2).trans x3).trans x4) k (by omega), ?_⟩
        exact Run_lp ⟨pp, by simp [SubB, fnd, strike, has], x0.trans (extKeep (((((Ext.refl w0).trans x1).trans x2).trans x3).trans x4) k (by omega)), h⟩
    · skip
      refine SemW_allocT ti45 fun pp w1 hA => ⟨(Ext.refl w0).trans hA.ext, ?_⟩
      have x1 := hA.ext
      have bA := hA.blk
      have rA : Row w1 pp 45 [.slice none 0 0, .slice none 0 0, .slice none 0 0] := hA.row
      have szA : w0.heap.size ≤ w0.heap.size := (Ext.refl w0).size
      refine CallW_pure call34 (lwOrder 5 40 3 w1) fun w2 x2 => ⟨(((Ext.refl w0).trans x1).trans x2), ?_⟩
      refine ordLit (xOR 5 40 3 _ (by decide) (by decide) (by decide)) fun vS w3 sS x3 => ⟨((((Ext.refl w0).trans x1).trans x2).trans x3), ?_⟩
      refine plMakeW (t := xT) (f := xF) (l := [xO 5 40 3]) (sL _ (z0.trans ((((Ext.refl w0).trans x1).trans x2).trans x3))) (sF _ (z0.trans ((((Ext.refl w0).trans x1).trans x2).trans x3))) sS (by simp [I64]) y8 fun v0 v1 v2 w4 x4 hP => ⟨⟨rfl, by simp [tpOf]⟩, ⟨rfl, by simp [tpOf]⟩, ⟨rfl, by simp [tpOf]⟩, (((((Ext.refl w0).trans x1).trans x2).trans x3).trans x4), ?_⟩
      refine putPV (((rA.ext x2).ext x3).ext x4) hP fun w5 k h => ⟨extKeep (((((Ext.refl w0).trans x1).trans x2).trans x3).trans x4) k (by omega), ?_⟩
      exact Run_lp ⟨pp, by simp [SubB, fnd, strike, has], x0.trans (extKeep (((((Ext.refl w0).trans x1).trans x2).trans x3).trans x4) k (by omega)), h⟩
  rintro p22 wM ⟨qM, PM⟩
  have zM := zL.trans qM
  have tM := T wM zM
  have fM := F wM zM
  (repeat with_reducible first | refine js ?_ | refine ja ?_ | refine jw KL11 [3, 4, 5, 6, 7] (aa TF11 (aa tM fM)) fun _ => ?_)
  refine plMakeW (t := xT) (f := xF) (l := []) (sL _ zM) (sF _ zM) (Sl.nil _) (by simp [I64]) y9 fun v0 v1 v2 wa qa hP => ⟨⟨rfl, by simp [tpOf]⟩, ⟨rfl, by simp [tpOf]⟩, ⟨rfl, by simp [tpOf]⟩, ?_⟩
  refine SemW_allocT ti45 fun p25 wb hb => ?_
  have bb := hb.blk
  refine putPV hb.row (hP.ext hb.ext) fun wN kN PN => ?_
  have qN : Ext wM wN := extKeep (qa.trans hb.ext) kN (by have := qa.size; omega)
  have zN := zM.trans qN
  clear hP qa kN hb bb
  have tN := T wN zN
  have fN := F wN zN
  (try simp (maxSteps := 5000000) only [KS, Nat.reduceAdd, Nat.reduceMul, Nat.reduceEqDiff, ↓reduceIte, forall_const, Int.cast_ofNat_Int, Int.reduceToNat, List.take_succ_cons, List.take_zero, List.drop_succ_cons, List.drop_zero, TF11, KL11]); (try simp (disch := omega) only [wrapI, tmodI, tdivI])
  (repeat with_reducible first | refine js ?_ | refine ja ?_ | refine jw KL11 [3, 4, 5, 6, 7] (aa TF11 (aa tN fN)) fun _ => ?_)
  refine plMakeW (t := xT) (f := xF) (l := []) (sL _ zN) (sF _ zN) (Sl.nil _) (by simp [I64]) y10 fun v0 v1 v2 wa qa hP => ⟨⟨rfl, by simp [tpOf]⟩, ⟨rfl, by simp [tpOf]⟩, ⟨rfl, by simp [tpOf]⟩, ?_⟩
  refine SemW_allocT ti45 fun p28 wb hb => ?_
  have bb := hb.blk
  refine putPV hb.row (hP.ext hb.ext) fun wO kO PO' => ?_
  have qO : Ext wN wO := extKeep (qa.trans hb.ext) kO (by have := qa.size; omega)
  have zO := zN.trans qO
  clear hP qa kO hb bb PO'
  have tO := T wO zO
  have fO := F wO zO
  (try simp (maxSteps := 5000000) only [KS, Nat.reduceAdd, Nat.reduceMul, Nat.reduceEqDiff, ↓reduceIte, forall_const, Int.cast_ofNat_Int, Int.reduceToNat, List.take_succ_cons, List.take_zero, List.drop_succ_cons, List.drop_zero, TF11, KL11]); (try simp (disch := omega) only [wrapI, tmodI, tdivI])
  (repeat with_reducible first | refine js ?_ | refine ja ?_ | refine jw KL11 [3, 4, 5, 6, 7] (aa TF11 (aa tO fO)) fun _ => ?_)
  refine ⟨.agg (xN.cs (.slice none 0 0)).toArray, fun _ => by kernel_rfl, ?_⟩
  refine ordLit (o := xN) (g := .slice none 0 0) ⟨by simp [xN, I64], by simp [xN, I64], by simp [xN, I64], by simp [xN, I64], by simp [xN, I64], by simp [xN, I64], by simp [xN, I64], by simp [xN, I64], Sl.nil _, by simp [xN, I64]⟩ fun vS wc sS qc => ?_
  refine plMakeW (t := xT) (f := xF) (l := [xN]) (sL _ (zO.trans qc)) (sF _ (zO.trans qc)) sS (by simp [I64]) y11 fun v0 v1 v2 wa qa hP => ⟨⟨rfl, by simp [tpOf]⟩, ⟨rfl, by simp [tpOf]⟩, ⟨rfl, by simp [tpOf]⟩, ?_⟩
  refine SemW_allocT ti45 fun p31 wb hb => ?_
  have bb := hb.blk
  refine putPV hb.row (hP.ext hb.ext) fun wQ kQ PQ => ?_
  have qQ : Ext wO wQ := extKeep (qc.trans (qa.trans hb.ext)) kQ (by have := qa.size; have := qc.size; omega)
  have zQ := zO.trans qQ
  clear hP qa kQ hb bb PQ qc sS
  obtain ⟨v0, v1, v2, rP, hP⟩ := PK.ext (qL.trans (qM.trans (qN.trans (qO.trans qQ))))
  (try simp (maxSteps := 5000000) only [KS, Nat.reduceAdd, Nat.reduceMul, Nat.reduceEqDiff, ↓reduceIte, forall_const, Int.cast_ofNat_Int, Int.reduceToNat, List.take_succ_cons, List.take_zero, List.drop_succ_cons, List.drop_zero, TF11, KL11]); (try simp (disch := omega) only [wrapI, tmodI, tdivI])
  (repeat with_reducible first | refine jq ?_ | refine jk ?_ | refine jc ?_ | refine jl ?_ | refine jb ?_ | refine jo ?_ | refine ji ?_ | refine jx rfl ?_)
  refine Run_ec (id := 14) KL11 (.first 0 (.first 1 (.first 5 (.alt 2 (.alt 3 (.alt 4 (.alt 6 (.first 7 (.first 8 (.first 9 (.first 10 (.first 11 .done))))) .stop) .stop) .stop) .stop)))) mixed (by kernel_rfl) (by kernel_rfl) fun w0 x0 _ => ?_
  have z0 := zQ.trans x0
  have t0 := T w0 z0
  have f0 := F w0 z0
  have p0 := (rP.ext x0).n
  simp only [AtN, KS, Nat.reduceAdd, Nat.reduceMul, Nat.reduceEqDiff, ↓reduceIte, UT, PlanD.cs] at p0
  (try simp (maxSteps := 5000000) only [KS, Nat.reduceAdd, Nat.reduceMul, Nat.reduceEqDiff, ↓reduceIte, forall_const, Int.cast_ofNat_Int, Int.reduceToNat, List.take_succ_cons, List.take_zero, List.drop_succ_cons, List.drop_zero, TF11, KL11, ec, t0, f0, p0]); (try simp (disch := omega) only [wrapI, tmodI, tdivI])
  refine ⟨Ext.refl _, ?_⟩
  refine CallW_pure call34 (lwOrder 5 40 3 w0) fun w1 x1 => ⟨x1, ?_⟩
  refine CallW_pure call34 (lwOrder 11 40 3 w1) fun w2 x2 => ⟨x1.trans x2, ?_⟩
  refine ordLit2 (xOR 5 40 3 _ (by decide) (by decide) (by decide)) (xOR 11 40 3 _ (by decide) (by decide) (by decide)) fun vS w3 sS x3 => ⟨(x1.trans x2).trans x3, ?_⟩
  have x03 := (x1.trans x2).trans x3
  refine plChkW (t := xT) (f := xF) (l := [xO 5 40 3, xO 11 40 3]) (covers := 2) (p := xp) (sL _ (z0.trans x03)) (sF _ (z0.trans x03)) sS (hP.ext (x0.trans x03)) y12 fun wR qR => ⟨⟨rfl, by simp [tpOf]⟩, ⟨rfl, by simp [tpOf]⟩, x03.trans qR, ?_⟩
  have qQR := x0.trans (x03.trans qR)
  have zR := zQ.trans qQR
  clear qR x03 sS x3 x2 x1 p0 f0 t0 z0 x0
  (try simp (maxSteps := 5000000) only [KS, Nat.reduceAdd, Nat.reduceMul, Nat.reduceEqDiff, ↓reduceIte, forall_const, Int.cast_ofNat_Int, Int.reduceToNat, List.take_succ_cons, List.take_zero, List.drop_succ_cons, List.drop_zero, TF11, KL11]); (try simp (disch := omega) only [wrapI, tmodI, tdivI])
  (repeat with_reducible first | refine jq ?_ | refine jk ?_ | refine jc ?_ | refine jl ?_ | refine jb ?_ | refine jo ?_ | refine ji ?_ | refine jx rfl ?_)
  refine Run_ec (id := 15) KL11 (.first 0 (.first 1 (.first 5 (.alt 2 (.alt 3 (.alt 4 (.alt 6 (.first 7 (.first 8 (.first 9 (.first 10 (.first 11 .done))))) .stop) .stop) .stop) .stop)))) mixed (by kernel_rfl) (by kernel_rfl) fun w0 x0 _ => ?_
  have z0 := zR.trans x0
  have t0 := T w0 z0
  have f0 := F w0 z0
  have p0 := (rP.ext (qQR.trans x0)).n
  simp only [AtN, KS, Nat.reduceAdd, Nat.reduceMul, Nat.reduceEqDiff, ↓reduceIte, UT, PlanD.cs] at p0
  (try simp (maxSteps := 5000000) only [KS, Nat.reduceAdd, Nat.reduceMul, Nat.reduceEqDiff, ↓reduceIte, forall_const, Int.cast_ofNat_Int, Int.reduceToNat, List.take_succ_cons, List.take_zero, List.drop_succ_cons, List.drop_zero, TF11, KL11, ec, t0, f0, p0]); (try simp (disch := omega) only [wrapI, tmodI, tdivI])
  refine ⟨Ext.refl _, ?_⟩
  refine CallW_pure call34 (lwOrder 5 40 3 w0) fun w1 x1 => ⟨x1, ?_⟩
  refine CallW_pure call34 (lwOrder 11 40 3 w1) fun w2 x2 => ⟨x1.trans x2, ?_⟩
  refine ordLit2 (xOR 5 40 3 _ (by decide) (by decide) (by decide)) (xOR 11 40 3 _ (by decide) (by decide) (by decide)) fun vS w3 sS x3 => ⟨(x1.trans x2).trans x3, ?_⟩
  have x03 := (x1.trans x2).trans x3
  refine plChkW (t := xT) (f := xF) (l := [xO 5 40 3, xO 11 40 3]) (covers := 1) (p := xp) (sL _ (z0.trans x03)) (sF _ (z0.trans x03)) sS (hP.ext (qQR.trans (x0.trans x03))) y13 fun wS qS => ⟨⟨rfl, by simp [tpOf]⟩, ⟨rfl, by simp [tpOf]⟩, x03.trans qS, ?_⟩
  have qRS := x0.trans (x03.trans qS)
  have zS := zR.trans qRS
  clear qS x03 sS x3 x2 x1 p0 f0 t0 z0 x0
  (try simp (maxSteps := 5000000) only [KS, Nat.reduceAdd, Nat.reduceMul, Nat.reduceEqDiff, ↓reduceIte, forall_const, Int.cast_ofNat_Int, Int.reduceToNat, List.take_succ_cons, List.take_zero, List.drop_succ_cons, List.drop_zero, TF11, KL11]); (try simp (disch := omega) only [wrapI, tmodI, tdivI])
  (repeat with_reducible first | refine js ?_ | refine ja ?_ | refine jw KL11 [3, 4, 5, 6, 7] TF11 fun _ => ?_)
  refine SemW_lit (α := Int) Tryz.underlying71 ti36 rfl (by decide) ((List.replicate 11 0).map fun x => (Value.int .i64 x)) (List.replicate 11 0) rfl (by simp) (Cs.ints _ fun x h => by rw [(List.mem_replicate.1 h).2]; simp [I64]) (by show 11 * 1 ≤ _; decide) fun vE wT sE qT => ⟨sE.s, ?_⟩
  have lE : slLen vE = 11 := sE.len
  rw [lE]
  (repeat with_reducible first | refine js ?_ | refine ja ?_ | refine jw KL11 [3, 4, 5, 6, 7] TF11 fun _ => ?_)
  refine Run_loopV [0, 39, 169, 170, 174] (σ := Nat) (fun k => [(169, some (.int .i64 k)), (0, some (.bool false))]) (fun k w' => k ≤ 11 ∧ Ext wT w') (fun k => 11 - k) 0 (by simp [SubB, fnd]) ⟨by omega, Ext.refl _⟩ ?_
  rintro k wU ⟨hk, qU⟩
  (repeat with_reducible first | refine js ?_ | refine ja ?_ | refine jw KL11 [3, 4, 5, 6, 7] TF11 fun _ => ?_)
  refine Run_condS (fun _ => rfl) (fun h => ?_) (fun h => ?_)
  · simp at h
    have hk11 : k < 11 := by omega
    have hkc : (k : Int) < 11 := by omega
    clear h
    obtain ⟨f1, f2, f3⟩ := (sE.ext qU).get (i := k) (by simp; omega)
    rw [List.getElem_replicate] at f1
    (repeat with_reducible first | refine js ?_ | refine ja ?_ | refine jw KL11 [3, 4, 5, 6, 7] (aa TF11 (aa sE.s (aa lE (aa f1 f2)))) fun _ => ?_)
    refine Run_condS (fun _ => rfl) (fun h => by cases h) (fun _ => ?_)
    (repeat with_reducible first | refine js ?_ | refine ja ?_ | refine jw KL11 [3, 4, 5, 6, 7] TF11 fun _ => ?_)
    exact Run_lp ⟨k + 1, by simp [SubB, fnd, strike, has], ⟨by omega, qU⟩, by omega⟩
  simp at h
  obtain rfl : k = 11 := by omega
  clear h
  have qSU := qT.trans qU
  have zU := zS.trans qSU
  have b0 := B wU zU
  have c0 := C wU zU
  (repeat with_reducible first | refine js ?_ | refine ja ?_ | refine jw KL11 [3, 4, 5, 6, 7] (aa TF11 (aa b0 (aa c0 KX))) fun _ => ?_)
  refine .inl ⟨by decide, ?_⟩
  refine runLit22 [xb, xc] rfl rfl (by simp [xb, xc, RunI, I64]) (by decide) fun vX wV sX qV => ?_
  unfold hush
  have zV := zU.trans qV
  have b1 := B wV zV
  have c1 := C wV zV
  (repeat with_reducible first | refine js ?_ | refine ja ?_ | refine jw KL11 [3, 4, 5, 6, 7] (aa TF11 (aa b1 (aa c1 KX))) fun _ => ?_)
  first | refine .inl ⟨by decide, ?_⟩ | refine .inl (.inl ⟨by decide, ?_⟩)
  refine same20W (b := true) (by decide) (sLL.ext (qH.trans (qI.trans (qJ.trans (qK.trans (qL.trans (qM.trans (qN.trans (qO.trans (qQ.trans (qQR.trans (qRS.trans (qSU.trans qV))))))))))))) sX fun wW qW => ?_
  unfold hush
  have zW := zV.trans qW
  have b2 := B wW zW
  have c2 := C wW zW
  have lM : slLen vM = 0 := sM.len
  have p2 := (rP.ext (qQR.trans (qRS.trans (qSU.trans (qV.trans qW))))).n
  simp only [AtN, KS, Nat.reduceAdd, Nat.reduceMul, Nat.reduceEqDiff, ↓reduceIte, UT, PlanD.cs] at p2
  have q2 := qQR.trans (qRS.trans (qSU.trans (qV.trans qW)))
  (repeat with_reducible first | refine js ?_ | refine ja ?_ | refine jw KL11 [3, 4, 5, 6, 7] (aa TF11 (aa b2 (aa c2 (aa sM.s (aa lM (aa p2 KX)))))) fun _ => ?_)
  refine .inl ⟨by decide, ?_⟩
  refine runLit22 [xb] rfl rfl (by simp [xb, RunI, I64]) (by decide) fun vY w3 sY q3 => ?_
  unfold hush
  have z3 := zW.trans q3
  have b3 := B w3 z3
  have p3 := (rP.ext (q2.trans q3)).n
  simp only [AtN, KS, Nat.reduceAdd, Nat.reduceMul, Nat.reduceEqDiff, ↓reduceIte, UT, PlanD.cs] at p3
  (repeat with_reducible first | refine js ?_ | refine ja ?_ | refine jw KL11 [3, 4, 5, 6, 7] (aa TF11 (aa b2 (aa c2 (aa p2 (aa b3 (aa sM.s (aa lM (aa p3 KX)))))))) fun _ => ?_)
  first | refine .inl ⟨by decide, ?_⟩ | refine .inl (.inl ⟨by decide, ?_⟩)
  refine intLit22 [0, 0] rfl rfl (by decide) (by decide) fun vZ w4 sZ q4 => ?_
  unfold hush
  have q24 := q2.trans (q3.trans q4)
  have z4 := z3.trans q4
  have b4 := B w4 z4
  have p4 := (rP.ext q24).n
  simp only [AtN, KS, Nat.reduceAdd, Nat.reduceMul, Nat.reduceEqDiff, ↓reduceIte, UT, PlanD.cs] at p4
  (repeat with_reducible first | refine js ?_ | refine ja ?_ | refine jw KL11 [3, 4, 5, 6, 7] (aa TF11 (aa b2 (aa c2 (aa p2 (aa b3 (aa b4 (aa sM.s (aa lM (aa p4 KX))))))))) fun _ => ?_)
  first | refine .inl ⟨by decide, ?_⟩ | refine .inl (.inl ⟨by decide, ?_⟩)
  refine intLit22 [2] rfl rfl (by decide) (by decide) fun vA w5 sA q5 => ?_
  unfold hush
  have z5 := z4.trans q5
  have b5 := B w5 z5
  have p5 := (rP.ext (q24.trans q5)).n
  simp only [AtN, KS, Nat.reduceAdd, Nat.reduceMul, Nat.reduceEqDiff, ↓reduceIte, UT, PlanD.cs] at p5
  (repeat with_reducible first | refine js ?_ | refine ja ?_ | refine jw KL11 [3, 4, 5, 6, 7] (aa TF11 (aa b2 (aa c2 (aa p2 (aa b5 (aa sM.s (aa lM (aa p5 KX)))))))) fun _ => ?_)
  have hPx : PlanR w5 xp vY vZ vA := ⟨sY.ext (q4.trans q5), sZ.ext q5, sA⟩
  refine ⟨_, fun _ => planBuild hPx, ?_⟩
  first | refine .inl ⟨by decide, ?_⟩ | refine .inl (.inl ⟨by decide, ?_⟩)
  refine same22W (p := xp) (q := xp) (b := true) (by decide) (hP.ext (q24.trans q5)) hPx fun w6 q6 => ?_
  unfold hush
  have z6 := z5.trans q6
  have q26 := q24.trans (q5.trans q6)
  have p6 := (rP.ext q26).n
  have b6 := B w6 z6
  simp only [AtN, KS, Nat.reduceAdd, Nat.reduceMul, Nat.reduceEqDiff, ↓reduceIte, UT, PlanD.cs] at p6
  (repeat with_reducible first | refine js ?_ | refine ja ?_ | refine jw KL11 [3, 4, 5, 6, 7] (aa TF11 (aa b2 (aa c2 (aa p2 (aa b6 (aa sM.s (aa lM (aa p6 KX)))))))) fun _ => ?_)
  have a6 := A w6 z6
  obtain ⟨s0, s1, s2, rS, hS⟩ := PL.ext (qM.trans (qN.trans (qO.trans (qQ.trans q26))))
  obtain ⟨n0, n1, n2, rN, hN⟩ := PN.ext (qO.trans (qQ.trans q26))
  have r6 := rS.n
  have t6 := rN.n
  simp only [AtN, KS, Nat.reduceAdd, Nat.reduceMul, Nat.reduceEqDiff, ↓reduceIte, UT, PlanD.cs] at r6 t6
  (repeat with_reducible first | refine js ?_ | refine ja ?_ | refine jw KL11 [3, 4, 5, 6, 7] (aa TF11 (aa a6 (aa b6 (aa r6 (aa t6 KX))))) fun _ => ?_)
  first | refine .inl ⟨by decide, ?_⟩ | refine .inl (.inl ⟨by decide, ?_⟩)
  refine runLit22 [xa, xb] rfl rfl (by simp [xa, xb, RunI, I64]) (by decide) fun vY2 w7 sY2 q7 => ?_
  unfold hush
  (repeat with_reducible first | refine js ?_ | refine ja ?_ | refine jw KL11 [3, 4, 5, 6, 7] (aa TF11 (aa a6 (aa b6 (aa r6 (aa t6 KX))))) fun _ => ?_)
  first | refine .inl ⟨by decide, ?_⟩ | refine .inl (.inl ⟨by decide, ?_⟩)
  refine intLit22 [0, 1] rfl rfl (by decide) (by decide) fun vZ2 w8 sZ2 q8 => ?_
  unfold hush
  (repeat with_reducible first | refine js ?_ | refine ja ?_ | refine jw KL11 [3, 4, 5, 6, 7] (aa TF11 (aa a6 (aa b6 (aa r6 (aa t6 KX))))) fun _ => ?_)
  first | refine .inl ⟨by decide, ?_⟩ | refine .inl (.inl ⟨by decide, ?_⟩)
  refine intLit22 [3, 3] rfl rfl (by decide) (by decide) fun vA2 w9 sA2 q9 => ?_
  unfold hush
  have hPx2 : PlanR w9 xq vY2 vZ2 vA2 := ⟨sY2.ext (q8.trans q9), sZ2.ext q9, sA2⟩
  (repeat with_reducible first | refine js ?_ | refine ja ?_ | refine jw KL11 [3, 4, 5, 6, 7] (aa TF11 (aa a6 (aa b6 (aa r6 (aa t6 KX))))) fun _ => ?_)
  refine ⟨_, fun _ => planBuild hPx2, ?_⟩
  first | refine .inl ⟨by decide, ?_⟩ | refine .inl (.inl ⟨by decide, ?_⟩)
  have q69 := q7.trans (q8.trans q9)
  refine same22W (p := xq) (q := xq) (b := true) (by decide) (hS.ext q69) hPx2 fun w10 q10 => ?_
  unfold hush
  have t10 := (rN.ext (q69.trans q10)).n
  have lN : slLen n0 = 0 := hN.r.len
  simp only [AtN, KS, Nat.reduceAdd, Nat.reduceMul, Nat.reduceEqDiff, ↓reduceIte, UT, PlanD.cs] at t10
  (repeat with_reducible first | refine js ?_ | refine ja ?_ | refine jw KL11 [3, 4, 5, 6, 7] (aa TF11 (aa a6 (aa b6 (aa r6 (aa t10 (aa hN.r.s (aa lN KX))))))) fun _ => ?_)
  refine Run_ret ?_
  simp [Rets, RetM, resV, fnd, oneOr]
  exact qA.trans (z6.trans (q69.trans q10))
theorem sane22W {w : World} {K : Value → World → Prop} (hK : ∀ w', Ext w w' → K (.bool true) w') : CallW Tryz.prog (.func (.func 11) #[] #[]) [] w K :=
  CallW_pure call11 (lawSane22 w) hK
end Go.Proofs.YthengmdnikaooaaGreat
