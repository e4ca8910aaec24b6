import Derived.Test.YtoadfmgnpmcbfaaGreatQaW22j
import Derived.Test.YtoadfmgnpmcbfaaGreatQaW39m
import Derived.Test.YtoadfmgnpmcbfaaGreatQaGe
/- Chapter 39: the reference's Error, Line. -/
/- Chapter 39: the reference's Error, Line, Price, Post. -/
namespace Go.Proofs.YtoadfmgnpmcbfaaGreat
open Go Go.Fk
set_option linter.unusedSimpArgs false
set_option linter.unusedVariables false
set_option maxRecDepth 100000
theorem rpchkW {vl u0 u1 u2 vo v0 v1 v2 : Value} {t : TimeD} {f : TariffD} {l : List OrderD} {covers : Int} {p : PlanD} {w : World} {K : Value → World → Prop} {r : Bool × Int} (h : Pl.check t f l covers p = r) (hl : Sl w vl t.Lines) (hT : TarR w f u0 u1 u2) (ho : Sl w vo l) (hP : PlanR w p v0 v1 v2)
    (hK : ∀ w', Ext w w' → K (.tuple #[.bool r.1, .int .i64 r.2]) w') : CallW Tryz.prog (.func (.func 59) #[] #[]) [.agg #[.int .i64 t.Offices, vl], .agg #[u0, u1, u2], vo, .int .i64 covers, .agg #[v0, v1, v2]] w K := by
  subst h; exact CallW_pure call59 (rfCheckP vl u0 u1 u2 vo v0 v1 v2 t f l covers p w hl hT ho hP) hK
theorem rfError39 (vl u0 u1 u2 vo v0 v1 v2 : Value) (t : TimeD) (f : TariffD) (l : List OrderD) (p : PlanD) (w : World) (hl : Sl w vl t.Lines) (hT : TarR w f u0 u1 u2) (ho : Sl w vo l) (hP : PlanR w p v0 v1 v2) :
    Calls Tryz.prog 24 #[.agg (t.cs vl).toArray, .agg (f.cs u0 u1 u2).toArray, vo, .agg (p.cs v0 v1 v2).toArray] w fun e w' => e = .returned (.int .i64 (Ec.err t f l p)) ∧ Ext w w' := by
  refine Calls_of_Run (args := [.agg (t.cs vl).toArray, .agg (f.cs u0 u1 u2).toArray, vo, .agg (p.cs v0 v1 v2).toArray]) (n := 24) (rs := [.tmp 8]) Tryz.func24 rfl rfl rfl (by simp) ?_
  (repeat with_reducible first | refine js ?_ | refine ja ?_ | refine jw KL24 [] TF24 fun _ => ?_)
  refine SemW_box fun pt w1 h1 => SemW_box fun pf w2 h2 => SemW_box fun pp w3 h3 => ?_
  have x3 := h1.ext.trans (h2.ext.trans h3.ext)
  have t3 : AtN w3 pt 0 (t.cs vl) := (h1.at_.ext (h2.ext.trans h3.ext)).n
  have f3 : AtN w3 pf 0 (f.cs u0 u1 u2) := (h2.at_.ext h3.ext).n
  have p3 : AtN w3 pp 0 (p.cs v0 v1 v2) := h3.at_.n
  simp only [TimeD.cs, TariffD.cs, PlanD.cs, AtN, KS, Nat.reduceAdd, Nat.reduceMul, Nat.reduceEqDiff, ↓reduceIte, UT] at t3 f3 p3
  (repeat with_reducible first | refine js ?_ | refine ja ?_ | refine jw KL24 [] (aa TF24 (aa t3 (aa f3 p3))) fun _ => ?_)
  refine rpchkW rfl (hl.ext x3) (hT.ext x3) (ho.ext x3) (hP.ext x3) fun w4 x4 => ?_
  have y4 := x3.trans x4
  have he : Ec.err t f l p = if (Pl.check t f l 1099511627776 p).2 ≠ 0 then (Pl.check t f l 1099511627776 p).2 else if (Pl.check t f l 1099511627776 p).1 then 0 else 220 := rfl
  generalize Pl.check t f l 1099511627776 p = r at *
  obtain ⟨b, c⟩ := r
  simp only at he
  (repeat with_reducible first | refine js ?_ | refine ja ?_ | refine jw KL24 [] TF24 fun _ => ?_)
  refine Run_condS (fun _ => rfl) (fun h => ?_) (fun h => ?_)
  · (repeat with_reducible first | refine js ?_ | refine ja ?_ | refine jw KL24 [] TF24 fun _ => ?_)
    refine Run_ret ?_
    simp at h
    simp [Rets, RetM, resV, fnd, oneOr, he, h, y4]
  · simp at h
    subst h
    (repeat with_reducible first | refine js ?_ | refine ja ?_ | refine jw KL24 [] TF24 fun _ => ?_)
    cases b
    · refine Run_condS (fun _ => rfl) (fun _ => ?_) (fun h => by cases h)
      (repeat with_reducible first | refine js ?_ | refine ja ?_ | refine jw KL24 [] TF24 fun _ => ?_)
      refine Run_ret ?_
      simp [Rets, RetM, resV, fnd, oneOr, he, y4]
    · refine Run_condS (fun _ => rfl) (fun h => by cases h) (fun _ => ?_)
      (repeat with_reducible first | refine js ?_ | refine ja ?_ | refine jw KL24 [] TF24 fun _ => ?_)
      refine Run_ret ?_
      simp [Rets, RetM, resV, fnd, oneOr, he, y4]
theorem rerrW {vl u0 u1 u2 vo v0 v1 v2 : Value} {t : TimeD} {f : TariffD} {l : List OrderD} {p : PlanD} {w : World} {K : Value → World → Prop} (hl : Sl w vl t.Lines) (hT : TarR w f u0 u1 u2) (ho : Sl w vo l) (hP : PlanR w p v0 v1 v2)
    (hK : ∀ w', Ext w w' → K (.int .i64 (Ec.err t f l p)) w') : CallW Tryz.prog (.func (.func 24) #[] #[]) [.agg #[.int .i64 t.Offices, vl], .agg #[u0, u1, u2], vo, .agg #[v0, v1, v2]] w K :=
  CallW_pure call24 (rfError39 vl u0 u1 u2 vo v0 v1 v2 t f l p w hl hT ho hP) hK
/-- the cells of the line of a run -/
structure LineC (w : World) (vl : Value) (t : TimeD) (p : PlanD) (run : Int) (x : LineD) (l0 l1 l2 l3 : Value) : Prop where
  r : run.toNat < p.Runs.length
  r0 : 0 ≤ run
  n : p.Runs[run.toNat].Line.toNat < t.Lines.length
  n0 : 0 ≤ p.Runs[run.toNat].Line
  a : At w ((slAt vl).add (p.Runs[run.toNat].Line.toNat * 6)) (x.cs l0 l1 l2 l3)
  l : LineR w x l0 l1 l2 l3
theorem LineC.ext {w w' : World} {vl : Value} {t : TimeD} {p : PlanD} {run : Int} {x : LineD} {l0 l1 l2 l3 : Value} (h : LineC w vl t p run x l0 l1 l2 l3) (e : Ext w w') : LineC w' vl t p run x l0 l1 l2 l3 := ⟨h.r, h.r0, h.n, h.n0, h.a.ext e, h.l.ext e⟩
theorem lineC {w : World} {vl : Value} {t : TimeD} {f : TariffD} {l : List OrderD} {p : PlanD} (hl : Sl w vl t.Lines) (h : Ec.Ok t f l p) {q : Int} (h0 : 0 ≤ q) (h1 : q < p.Runs.length) : ∃ l0 l1 l2 l3, LineC w vl t p q (Ec.lineP t p q) l0 l1 l2 l3 := by
  obtain ⟨hr, hn, hL, hle, _⟩ := line_at h h0 h1
  obtain ⟨l0, l1, l2, l3, _, a2, hR⟩ := hl.line hn
  rw [← hle] at a2 hR
  exact ⟨l0, l1, l2, l3, hr, h0, hn, hL.1, a2, hR⟩
theorem rfLine39 (vl v0 v1 v2 : Value) (t : TimeD) (p : PlanD) (run : Int) (x : LineD) (l0 l1 l2 l3 : Value) (w : World) (hl : Sl w vl t.Lines) (hP : PlanR w p v0 v1 v2) (hx : LineC w vl t p run x l0 l1 l2 l3) :
    Calls Tryz.prog 52 #[.agg (t.cs vl).toArray, .agg (p.cs v0 v1 v2).toArray, .int .i64 run] w fun e w' => e = .returned (.agg (x.cs l0 l1 l2 l3).toArray) ∧ Ext w w' := by
  have hrl := hP.r.len
  have hll := hl.len
  have hrn := hx.r
  have hr0 := hx.r0
  have hn := hx.n
  have hn0 := hx.n0
  have hone := hx.l.one
  refine Calls_of_Run (args := [.agg (t.cs vl).toArray, .agg (p.cs v0 v1 v2).toArray, .int .i64 run]) (n := 17) (rs := [.cell 6 52]) Tryz.func52 rfl rfl rfl (by simp) ?_
  (repeat with_reducible first | refine js ?_ | refine ja ?_ | (refine jT (id := 1) KL52 8 mixed (by kernel_rfl) (by kernel_rfl) (by kernel_rfl) fun _ => ?_; refine jw KL52 [] TF52 fun _ => ?_) | refine jw KL52 [] TF52 fun _ => ?_)
  refine SemW_box fun pt w1 h1 => SemW_box fun pp w2 h2 => SemW_allocT ti52 fun px w3 h3 => ?_
  have x3 := h1.ext.trans (h2.ext.trans h3.ext)
  have b3 := h3.blk
  have b2 := h2.blk
  have b1 := h1.blk
  have s1 := h1.size
  have s2 := h2.size
  have bR : (slAt v0).block < w.heap.size := hP.r.blk (by decide) hrn
  have bL : (slAt vl).block < w.heap.size := hl.blk (by decide) hn
  let S : Nat → Prop := fun k => k ≠ px.block
  (repeat with_reducible first | refine jq ?_ | refine jk ?_ | refine jc ?_ | refine jl ?_ | refine jb ?_ | refine jo ?_ | refine ji ?_ | refine jx rfl ?_)
  refine Run_eh S [10] [(1, [10]), (3, [10]), (7, [10]), (9, [10])] (id := 1) KL52 (.first 0 (.first 1 (.first 2 (.first 3 (.first 4 (.first 5 (.first 6 (.first 7 (.first 8 (.first 9 (.alt true 10 (.done false) .stop))))))))))) mixed (by kernel_rfl) (by kernel_rfl) fun w4 x4 _ => ?_
  have y4 := x3.trans x4
  have t4 : AtN w4 pt 0 (t.cs vl) := (h1.at_.ext (h2.ext.trans (h3.ext.trans x4))).n
  have p4 : AtN w4 pp 0 (p.cs v0 v1 v2) := (h2.at_.ext (h3.ext.trans x4)).n
  obtain ⟨e1, _⟩ := (hP.r.ext y4).runD hrn
  have a1 := (hx.a.ext y4).n
  have r4 := h3.row.ext x4
  generalize hrr : p.Runs[run.toNat] = r at *
  simp only [TimeD.cs, PlanD.cs, RunD.cs, LineD.cs, AtN, KS, Nat.reduceAdd, Nat.reduceMul, Nat.reduceEqDiff, ↓reduceIte, UT] at t4 p4 e1 a1
  (try simp (maxSteps := 5000000) only [KS, Nat.reduceAdd, Nat.reduceMul, Nat.reduceEqDiff, ↓reduceIte, forall_const, Int.cast_ofNat_Int, Int.reduceToNat, List.take_succ_cons, List.take_zero, List.drop_succ_cons, List.drop_zero, TF52, KL52, eh, gres, qopS, putL, ung, t4, p4, hP.r.s, hP.r.len, e1, hl.s, hl.len, a1]); (try simp (disch := omega) only [wrapI, tmodI, tdivI])
  refine ⟨(show pt.block ≠ px.block by omega), (show pp.block ≠ px.block by omega), ⟨by omega, by omega⟩, (by show ((slAt v0).add _).block ≠ px.block; rw [blk_add]; omega), ⟨by omega, by omega⟩, (by show ((slAt vl).add _).block ≠ px.block; rw [blk_add]; omega), Keep.refl _ _, ?_⟩
  simp only [LineD.cs] at hone
  refine SemW_setW (by rw [cells52]; decide) (by rw [cells52]; rfl) r4 (by rw [cells52]; rfl) (by simpa [Value.cells] using hone) fun w5 r5 k5 z5 => ⟨fun h => h.elim, ?_⟩
  have r5 : Row w5 px 52 (x.cs l0 l1 l2 l3) := by simpa [Value.cells, LineD.cs] using r5
  (repeat with_reducible first | refine js ?_ | refine ja ?_ | (refine jT (id := 1) KL52 8 mixed (by kernel_rfl) (by kernel_rfl) (by kernel_rfl) fun _ => ?_; refine jw KL52 [] TF52 fun _ => ?_) | refine jw KL52 [] TF52 fun _ => ?_)
  refine Run_ret ?_
  simp only [Rets, RetM, resV, fnd, oneOr, ↓reduceIte]
  refine ⟨px, _, rfl, loadVar_at (by kernel_rfl) (by rw [cells52]; decide) (by rw [cells52]; rfl) r5.at_, rfl, Keep.ext y4 k5 fun k hk => by omega⟩
end Go.Proofs.YtoadfmgnpmcbfaaGreat
