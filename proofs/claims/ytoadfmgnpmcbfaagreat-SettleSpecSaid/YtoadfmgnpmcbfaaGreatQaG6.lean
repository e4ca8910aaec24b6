import Derived.Test.YtoadfmgnpmcbfaaGreatQaG5
/- Chapter 40: the reference's Cost, Cover; Few; Same. -/
namespace Go.Proofs.YtoadfmgnpmcbfaaGreat
open Go Go.Fk
set_option linter.unusedSimpArgs false
set_option linter.unusedVariables false
set_option maxRecDepth 100000
def optN : Option Int → Int | none => -1 | some x => x
theorem rfLeast (f : TariffD) (u0 u1 u2 : Value) (c : Int) (w : World) (hT : TarR w f u0 u1 u2) (hf : ∀ x ∈ f.Leg, 0 ≤ x ∧ x ≤ 1048576) :
    Calls Tryz.prog 180 #[.agg (f.cs u0 u1 u2).toArray, .int .i64 c] w fun e w' => e = .returned (.int .i64 (optN (Fd.least (Fd.bit c) f.Leg))) ∧ Ext w w' := by
  have hn := hT.l.small
  have hlen := hT.l.len
  refine Calls_of_Run (args := [.agg (f.cs u0 u1 u2).toArray, .int .i64 c]) (n := 38) (rs := [.tmp 4]) Tryz.func180 rfl rfl rfl (by simp) ?_
  (repeat with_reducible first | refine js ?_ | refine ja ?_ | refine jw KL180 [] TF180 fun _ => ?_)
  refine SemW_box fun p w1 hN => ?_
  have x1 := hN.ext
  have F : ∀ w', Ext w1 w' → AtN w' p 0 (f.cs u0 u1 u2) := fun w' x => (hN.at_.ext x).n
  simp only [TariffD.cs, AtN, KS, Nat.reduceAdd, Nat.reduceMul, Nat.reduceEqDiff, ↓reduceIte, UT] at F
  (repeat with_reducible first | refine js ?_ | refine ja ?_ | refine jw KL180 [] TF180 fun _ => ?_)
  refine Run_loopV [5, 6, 11, 31] (σ := Nat × Option Int) (fun s => [(6, some (.int .i64 s.1)), (5, some (.int .i64 (optN s.2)))]) (fun s w' => s.1 ≤ f.Leg.length ∧ (∀ x, s.2 = some x → 0 ≤ x) ∧ Fd.least (Fd.bit c) f.Leg = Fd.leastF (Fd.bit c) s.1 (f.Leg.drop s.1) s.2 ∧ Ext w1 w') (fun s => f.Leg.length - s.1) (0, none) (by simp [SubB, fnd, optN]) ⟨by simp, by simp, by simp [Fd.least], Ext.refl _⟩ ?_
  rintro ⟨k, a⟩ w2 ⟨hk, ha, hle, x2⟩
  simp only at hk ha hle
  have y2 := x1.trans x2
  have f2 := F w2 x2
  (repeat with_reducible first | refine js ?_ | refine ja ?_ | refine jw KL180 [] (aa TF180 (aa f2 (aa hT.l.s hT.l.len))) fun _ => ?_)
  refine Run_condS (fun _ => rfl) (fun h => ?_) (fun h => ?_)
  · simp at h
    have hkl := h
    obtain ⟨q1, q2, q3⟩ := (hT.l.ext y2).get hkl
    have hx := hf _ (List.getElem_mem hkl)
    rw [Fd.leastF_drop hkl] at hle
    have hb : Fd.better a f.Leg[k] = (decide (optN a < 0) || decide (f.Leg[k] < optN a)) := by
      cases a with
      | none => simp [Fd.better, optN]
      | some m => have := ha m rfl; show decide (f.Leg[k] < m) = (decide (m < 0) || decide (f.Leg[k] < m)); rw [decide_eq_false (show ¬ m < 0 by omega), Bool.false_or]
    have hbit : (iand .i64 (c.fdiv (2 ^ (min k IntKind.i64.bits))) 1 == 1) = Fd.bit c k := rfl
    (repeat with_reducible first | refine js ?_ | refine ja ?_ | refine jw KL180 [] (aa TF180 (aa f2 (aa hT.l.s (aa hT.l.len (aa q1 q2))))) fun _ => ?_)
    rw [hbit, ← hb]
    refine Run_condS (fun _ => rfl) (fun h => ?_) (fun h => ?_)
    · rw [if_pos h] at hle
      (repeat with_reducible first | refine js ?_ | refine ja ?_ | refine jw KL180 [] (aa TF180 (aa f2 (aa hT.l.s (aa hT.l.len (aa q1 q2))))) fun _ => ?_)
      refine Run_lp ⟨(k + 1, some f.Leg[k]), ?_, ⟨by simp only; omega, fun x hx' => by cases hx'; exact hx.1, hle, x2⟩, by simp only; omega⟩
      simp [SubB, fnd, strike, has, optN]
    · rw [if_neg (by simp [h])] at hle
      (repeat with_reducible first | refine js ?_ | refine ja ?_ | refine jw KL180 [] TF180 fun _ => ?_)
      refine Run_lp ⟨(k + 1, a), ?_, ⟨by simp only; omega, ha, hle, x2⟩, by simp only; omega⟩
      simp [SubB, fnd, strike, has]
  · simp at h
    obtain rfl : k = f.Leg.length := by omega
    rw [List.drop_length] at hle
    (repeat with_reducible first | refine js ?_ | refine ja ?_ | refine jw KL180 [] TF180 fun _ => ?_)
    refine Run_ret ?_
    simp [Rets, RetM, resV, fnd, oneOr, hle, Fd.leastF, y2]
theorem rfCost (vl v0 v1 v2 u0 u1 u2 : Value) (t : TimeD) (f : TariffD) (p : PlanD) (run : Int) (w : World) (hl : Sl w vl t.Lines) (hT : TarR w f u0 u1 u2) (hP : PlanR w p v0 v1 v2) :
    Calls Tryz.prog 132 #[.agg (t.cs vl).toArray, .agg (f.cs u0 u1 u2).toArray, .agg (p.cs v0 v1 v2).toArray, .int .i64 run] w (CostRet w (Fd.cost t f p run)) := by
  have hlen := hl.len
  have rlen := hP.r.len
  have clen := hP.c.len
  refine Calls_of_Run (args := [.agg (t.cs vl).toArray, .agg (f.cs u0 u1 u2).toArray, .agg (p.cs v0 v1 v2).toArray, .int .i64 run]) (n := 56) (rs := [.tmp 8, .tmp 9]) Tryz.func132 rfl rfl rfl (by simp) ?_
  (repeat with_reducible first | refine js ?_ | refine ja ?_ | refine jw KL132 [10] TF132 fun _ => ?_)
  refine SemW_box fun pt w1 h1 => SemW_box fun pf w2 h2 => SemW_box fun pp w3 h3 => ?_
  have x3 := h1.ext.trans (h2.ext.trans h3.ext)
  have T : ∀ w', Ext w3 w' → AtN w' pt 0 (t.cs vl) := fun w' x => (h1.at_.ext (h2.ext.trans (h3.ext.trans x))).n
  have F : ∀ w', Ext w3 w' → AtN w' pf 0 (f.cs u0 u1 u2) := fun w' x => (h2.at_.ext (h3.ext.trans x)).n
  have P : ∀ w', Ext w3 w' → AtN w' pp 0 (p.cs v0 v1 v2) := fun w' x => (h3.at_.ext x).n
  simp only [TimeD.cs, TariffD.cs, PlanD.cs, AtN, KS, Nat.reduceAdd, Nat.reduceMul, Nat.reduceEqDiff, ↓reduceIte, UT] at T F P
  have t3 := T w3 (Ext.refl _)
  (repeat with_reducible first | refine js ?_ | refine ja ?_ | refine jw KL132 [10] (aa TF132 t3) fun _ => ?_)
  refine chk20W rfl (hl.ext x3) fun w4 x4 => ?_
  have y4 := x3.trans x4
  have f4 := F w4 x4
  (repeat with_reducible first | refine js ?_ | refine ja ?_ | refine jw KL132 [10] TF132 fun _ => ?_)
  by_cases hc : Tt.chk t = 0
  rotate_left
  · refine Run_condS (fun _ => rfl) (fun h => by simp at h; exact (hc h).elim) (fun _ => ?_)
    (repeat with_reducible first | refine js ?_ | refine ja ?_ | refine jw KL132 [10] TF132 fun _ => ?_)
    refine Run_condS (fun _ => rfl) (fun _ => ?_) (fun h => by simp at h; exact (hc h).elim)
    (repeat with_reducible first | refine js ?_ | refine ja ?_ | refine jw KL132 [10] TF132 fun _ => ?_)
    refine Run_ret ?_
    simp [Rets, RetM, resV, fnd, oneOr, CostRet, Fd.cost, hc, y4]
  refine Run_condS (fun _ => rfl) (fun _ => ?_) (fun h => by simp at h; exact (h hc).elim)
  (repeat with_reducible first | refine js ?_ | refine ja ?_ | refine jw KL132 [10] (aa TF132 f4) fun _ => ?_)
  refine CallW_pure call162 (rfCheck21 f u0 u1 u2 w4 (hT.ext y4)) fun w5 x5 => ?_
  have y5 := y4.trans x5
  (repeat with_reducible first | refine js ?_ | refine ja ?_ | refine jw KL132 [10] TF132 fun _ => ?_)
  refine Run_condS (fun _ => rfl) (fun h => ?_) (fun h => ?_)
  · simp at h
    (repeat with_reducible first | refine js ?_ | refine ja ?_ | refine jw KL132 [10] TF132 fun _ => ?_)
    refine Run_ret ?_
    simp [Rets, RetM, resV, fnd, oneOr, CostRet, Fd.cost, hc, h, y5]
  simp at h
  have hfc := h
  have t5 := T w5 (x4.trans x5)
  have p5 := P w5 (x4.trans x5)
  (repeat with_reducible first | refine js ?_ | refine ja ?_ | refine jw KL132 [10] (aa TF132 (aa t5 p5)) fun _ => ?_)
  refine CallW_pure call179 (rfFormed vl v0 v1 v2 t p w5 (hl.ext y5) (hP.ext y5)) fun w6 x6 => ?_
  have y6 := y5.trans x6
  (repeat with_reducible first | refine js ?_ | refine ja ?_ | refine jw KL132 [10] TF132 fun _ => ?_)
  refine Run_condS (fun _ => rfl) (fun h => ?_) (fun h => ?_)
  · simp at h
    (repeat with_reducible first | refine js ?_ | refine ja ?_ | refine jw KL132 [10] TF132 fun _ => ?_)
    refine Run_ret ?_
    simp [Rets, RetM, resV, fnd, oneOr, CostRet, Fd.cost, hc, hfc, h, y6]
  simp at h
  have hfm := h
  obtain ⟨c1, c2, c3, c4⟩ := formed_ok hfm
  have x36 := x4.trans (x5.trans x6)
  have t6 := T w6 x36
  have p6 := P w6 x36
  have f6 := F w6 x36
  (repeat with_reducible first | refine js ?_ | refine ja ?_ | refine jw KL132 [10] (aa TF132 (aa p6 (aa hP.r.s hP.r.len))) fun _ => ?_)
  refine Run_condS (fun _ => rfl) (fun h => ?_) (fun h => ?_)
  · simp at h
    (repeat with_reducible first | refine js ?_ | refine ja ?_ | refine jw KL132 [10] TF132 fun _ => ?_)
    refine Run_ret ?_
    have : Fd.cost t f p run = (0, 1) := by
      unfold Fd.cost
      rw [if_neg (by simp [hc]), if_neg (by simp [hfc]), if_neg (by simp [hfm]), if_pos (by omega)]
    simp [Rets, RetM, resV, fnd, oneOr, CostRet, this, y6]
  simp at h
  have hrn : run.toNat < p.Runs.length := by omega
  have hg : p.Runs.getD run.toNat default = p.Runs[run.toNat] := by simp [List.getD_eq_getElem?_getD, hrn]
  have hrun := isRun_line (c2 _ (List.getElem_mem hrn))
  obtain ⟨q6, _⟩ := (hP.r.ext y6).runD hrn
  have hgc : p.Covers.getD run.toNat 0 = p.Covers[run.toNat] := by simp [List.getD_eq_getElem?_getD, show run.toNat < p.Covers.length by omega]
  have hcv := c4 _ (List.getElem_mem (show run.toNat < p.Covers.length by omega))
  have hln : p.Runs[run.toNat].Line.toNat < t.Lines.length := by omega
  have hlo : Fd.lineOf t p run = t.Lines[p.Runs[run.toNat].Line.toNat] := by
    unfold Fd.lineOf; rw [hg]; simp [List.getD_eq_getElem?_getD, hln]
  obtain ⟨l0, l1, l2, l3, e6, e2, hR⟩ := (hl.ext y6).line hln
  have hres : Fd.cost t f p run = match Fd.least (Fd.bit (Fd.lineOf t p run).Classes) f.Leg with
      | none => (0, 210)
      | some x => (x * p.Covers.getD run.toNat 0, 0) := by
    unfold Fd.cost
    rw [if_neg (by simp [hc]), if_neg (by simp [hfc]), if_neg (by simp [hfm]), if_neg (by omega)]
    rfl
  rw [hlo, hgc] at hres
  generalize hxx : t.Lines[p.Runs[run.toNat].Line.toNat] = x at *
  generalize hrr : p.Runs[run.toNat] = r at *
  simp only [RunD.cs, LineD.cs, AtN, KS, Nat.reduceAdd, Nat.reduceMul, Nat.reduceEqDiff, ↓reduceIte, UT] at q6 e6
  have ok := Tf.chk_ok hfc
  (repeat with_reducible first | refine js ?_ | refine ja ?_ | refine jw KL132 [10] (aa TF132 (aa t6 (aa p6 (aa f6 (aa hP.r.s (aa hP.r.len (aa hl.s (aa hl.len (aa q6 e6))))))))) fun _ => ?_)
  refine ⟨_, PC_pure call180 fun w7 x7 => rfLeast f u0 u1 u2 x.Classes w7 (hT.ext (y6.trans x7)) ok.l, fun w7 x7 => ?_⟩
  have y7 := y6.trans x7
  cases hle : Fd.least (Fd.bit x.Classes) f.Leg with
  | none =>
    rw [hle] at hres
    (repeat with_reducible first | refine js ?_ | refine ja ?_ | refine jw KL132 [10] TF132 fun _ => ?_)
    refine Run_condS (fun _ => rfl) (fun _ => ?_) (fun h => by simp [optN] at h)
    (repeat with_reducible first | refine js ?_ | refine ja ?_ | refine jw KL132 [10] TF132 fun _ => ?_)
    refine Run_ret ?_
    simp [Rets, RetM, resV, fnd, oneOr, CostRet, hres, y7]
  | some m =>
    rw [hle] at hres
    have hm := ok.l _ (Fd.least_mem hle)
    have p7 := P w7 (x36.trans x7)
    obtain ⟨g1, g2, g3⟩ := (hP.c.ext y7).get (show run.toNat < p.Covers.length by omega)
    (repeat with_reducible first | refine js ?_ | refine ja ?_ | refine jw KL132 [10] TF132 fun _ => ?_)
    refine Run_condS (fun _ => rfl) (fun h => absurd (of_decide_eq_true h : m < 0) (by omega)) (fun _ => ?_)
    have hmul : 0 ≤ p.Covers[run.toNat] * m ∧ p.Covers[run.toNat] * m ≤ 64 * 1048576 := by
      constructor
      · exact Int.mul_nonneg hcv.1 hm.1
      · exact Int.mul_le_mul hcv.2 hm.2 hm.1 (by omega)
    have hres : Fd.cost t f p run = (p.Covers[run.toNat] * m, 0) := by rw [hres, Int.mul_comm]
    generalize hcc : p.Covers[run.toNat] = c at *
    have eo : optN (some m) = m := rfl
    rw [eo]
    generalize hmm : c * m = mc at *
    (repeat with_reducible first | refine js ?_ | refine ja ?_ | refine jw KL132 [10] (aa TF132 (aa p7 (aa hP.c.s (aa hP.c.len (aa g1 (aa g2 hmm)))))) fun _ => ?_)
    refine Run_ret ?_
    simp [Rets, RetM, resV, fnd, oneOr, CostRet, hres, y7, hmm]
end Go.Proofs.YtoadfmgnpmcbfaaGreat
/- Chapter 40: the reference's Cover; Few; Same. -/
namespace Go.Proofs.YtoadfmgnpmcbfaaGreat
open Go Go.Fk
set_option linter.unusedSimpArgs false
set_option linter.unusedVariables false
set_option maxRecDepth 100000
theorem rcostW {vl v0 v1 v2 u0 u1 u2 : Value} {t : TimeD} {f : TariffD} {p : PlanD} {run : Int} {r : Int × Int} {w : World} {K : Value → World → Prop} (h : Fd.cost t f p run = r) (hl : Sl w vl t.Lines) (hT : TarR w f u0 u1 u2) (hP : PlanR w p v0 v1 v2)
    (hK : ∀ w', Ext w w' → K (.tuple #[.int .i64 r.1, .int .i64 r.2]) w') : CallW Tryz.prog (.func (.func 132) #[] #[]) [.agg #[.int .i64 t.Offices, vl], .agg #[u0, u1, u2], .agg #[v0, v1, v2], .int .i64 run] w K := by
  subst h; exact CallW_gen call132 (rfCost vl v0 v1 v2 u0 u1 u2 t f p run w hl hT hP) fun e w' ⟨he, x⟩ => ⟨_, he, hK w' x⟩
theorem rfCover (vl v0 v1 v2 u0 u1 u2 : Value) (t : TimeD) (f : TariffD) (p : PlanD) (run handed : Int) (w : World) (hl : Sl w vl t.Lines) (hT : TarR w f u0 u1 u2) (hP : PlanR w p v0 v1 v2) (hr : I64 run) :
    Calls Tryz.prog 85 #[.agg (t.cs vl).toArray, .agg (f.cs u0 u1 u2).toArray, .agg (p.cs v0 v1 v2).toArray, .int .i64 run, .int .i64 handed] w (MvRet w (Fd.cover t f p run handed)) := by
  have hlen := hl.len
  have rlen := hP.r.len
  refine Calls_of_Run (args := [.agg (t.cs vl).toArray, .agg (f.cs u0 u1 u2).toArray, .agg (p.cs v0 v1 v2).toArray, .int .i64 run, .int .i64 handed]) (n := 67) (rs := [.tmp 10, .tmp 11]) Tryz.func85 rfl rfl rfl (by simp) ?_
  (repeat with_reducible first | refine js ?_ | refine ja ?_ | refine jw KL85 [] TF85 fun _ => ?_)
  refine SemW_box fun pt w1 h1 => SemW_box fun pf w2 h2 => SemW_box fun pp w3 h3 => ?_
  have x3 := h1.ext.trans (h2.ext.trans h3.ext)
  have T : ∀ w', Ext w3 w' → AtN w' pt 0 (t.cs vl) := fun w' x => (h1.at_.ext (h2.ext.trans (h3.ext.trans x))).n
  have F : ∀ w', Ext w3 w' → AtN w' pf 0 (f.cs u0 u1 u2) := fun w' x => (h2.at_.ext (h3.ext.trans x)).n
  have P : ∀ w', Ext w3 w' → AtN w' pp 0 (p.cs v0 v1 v2) := fun w' x => (h3.at_.ext x).n
  simp only [TimeD.cs, TariffD.cs, PlanD.cs, AtN, KS, Nat.reduceAdd, Nat.reduceMul, Nat.reduceEqDiff, ↓reduceIte, UT] at T F P
  have t3 := T w3 (Ext.refl _)
  have f3 := F w3 (Ext.refl _)
  have p3 := P w3 (Ext.refl _)
  (repeat with_reducible first | refine js ?_ | refine ja ?_ | refine jw KL85 [] (aa TF85 (aa t3 (aa f3 p3))) fun _ => ?_)
  refine rcostW rfl (hl.ext x3) (hT.ext x3) (hP.ext x3) fun w4 x4 => ?_
  have y4 := x3.trans x4
  (repeat with_reducible first | refine js ?_ | refine ja ?_ | refine jw KL85 [] TF85 fun _ => ?_)
  refine Run_condS (fun _ => rfl) (fun h => ?_) (fun h => ?_)
  · simp at h
    (repeat with_reducible first | refine js ?_ | refine ja ?_ | refine jw KL85 [] TF85 fun _ => ?_)
    refine Run_ret ?_
    simp [Rets, RetM, resV, fnd, oneOr, MvRet, Fd.cover, h]
    exact ⟨y4, Sl.nil _⟩
  simp at h
  have hc := h
  obtain ⟨_, _, hfm, r0, r1, n0, n1, _⟩ := cost_ok hc
  obtain ⟨hrn, hln, hlo, q0, q1, hxo⟩ := line_ok hc
  have hres : Fd.cover t f p run handed = if handed < 0 ∨ (Fd.lineOf t p run).Legs.length < handed then ([], 1) else (Fd.covs (Fd.cost t f p run).1 run ((Fd.lineOf t p run).Offices.take handed.toNat), 0) := by
    unfold Fd.cover; rw [if_neg (by simp [hc])]
  obtain ⟨l0, l1, l2, l3, e1, e2, hR⟩ := (hl.ext y4).line hln
  have Q : ∀ w', Ext w w' → AtN w' ((slAt v0).add (run.toNat * 3)) 0 p.Runs[run.toNat].cs := fun w' x => ((hP.r.ext x).runD hrn).1
  have hone := hR.one
  rw [hlo] at hxo hres
  generalize hxx : t.Lines[p.Runs[run.toNat].Line.toNat] = x at *
  generalize hrr : p.Runs[run.toNat] = r at *
  generalize (Fd.cost t f p run).1 = n at *
  simp only [RunD.cs, AtN, KS, Nat.reduceAdd, Nat.reduceMul, Nat.reduceEqDiff, ↓reduceIte, UT] at Q
  simp only [LineD.cs] at hone
  (repeat with_reducible first | refine jq ?_ | refine jk ?_ | refine jc ?_ | refine jl ?_ | refine jb ?_ | refine jo ?_ | refine ji ?_ | refine jx rfl ?_)
  refine Run_ec (id := 4) KL85 (.first 0 (.first 1 (.first 2 (.first 3 (.first 4 (.first 5 (.first 6 (.first 7 (.first 8 (.first 9 (.alt 10 (.alt 11 .done .stop) .stop))))))))))) mixed (by kernel_rfl) (by kernel_rfl) fun w7 x7 _ => ?_
  have t7 := T w7 (x4.trans x7)
  have p7 := P w7 (x4.trans x7)
  have q7 := Q w7 (y4.trans x7)
  have e7 := (e2.ext x7).n
  simp only [LineD.cs, AtN, KS, Nat.reduceAdd, Nat.reduceMul, Nat.reduceEqDiff, ↓reduceIte, UT] at e7
  (try simp (maxSteps := 5000000) only [KS, Nat.reduceAdd, Nat.reduceMul, Nat.reduceEqDiff, ↓reduceIte, forall_const, Int.cast_ofNat_Int, Int.reduceToNat, List.take_succ_cons, List.take_zero, List.drop_succ_cons, List.drop_zero, TF85, KL85, ec, t7, p7, hP.r.s, hP.r.len, hl.s, hl.len, q7, e7]); (try simp (disch := omega) only [wrapI, tmodI, tdivI])
  (try simp (maxSteps := 5000000) only [KS, Nat.reduceAdd, Nat.reduceMul, Nat.reduceEqDiff, ↓reduceIte, forall_const, Int.cast_ofNat_Int, Int.reduceToNat, List.take_succ_cons, List.take_zero, List.drop_succ_cons, List.drop_zero, TF85, KL85, ec, t7, p7, hP.r.s, hP.r.len, hl.s, hl.len, q7, e7]); (try simp (disch := omega) only [wrapI, tmodI, tdivI])
  refine ⟨by omega, by omega, Ext.refl _, SemW_allocT ti52 fun px w8 h8 => ⟨h8.ext, ?_⟩⟩
  have b8 := h8.blk
  refine SemW_setW (by rw [cells52]; decide) (by rw [cells52]; rfl) h8.row (by rw [cells52]; rfl) (by simpa [Value.cells] using hone) fun w9 r9 k9 z9 => ?_
  have r9 : Row w9 px 52 (x.cs l0 l1 l2 l3) := by simpa [Value.cells, LineD.cs] using r9
  have x9 : Ext w7 w9 := Keep.ext h8.ext k9 fun q hq => by omega
  refine ⟨x9, ?_⟩
  have y9 := y4.trans (x7.trans x9)
  have hR9 := hR.ext (x7.trans x9)
  have q9 := r9.n
  have cap0 := hR9.o.cap
  have hll := hR9.l.len
  have hol := hR9.o.len
  simp only [LineD.cs, AtN, KS, Nat.reduceAdd, Nat.reduceMul, Nat.reduceEqDiff, ↓reduceIte, UT] at q9
  have ho2 := hxo.o9
  have ho1 := hxo.l1
  (repeat with_reducible first | refine js ?_ | refine ja ?_ | refine jw KL85 [] (aa TF85 (aa q9 (aa hR9.l.s hR9.l.len))) fun _ => ?_)
  refine Run_condS (fun _ => rfl) (fun h => ?_) (fun h => ?_)
  · simp at h
    (repeat with_reducible first | refine js ?_ | refine ja ?_ | refine jw KL85 [] TF85 fun _ => ?_)
    refine Run_ret ?_
    rw [if_pos (by omega)] at hres
    simp [Rets, RetM, resV, fnd, oneOr, MvRet, hres]
    exact ⟨y9, Sl.nil _⟩
  · simp at h
    rw [if_neg (by omega)] at hres
    have htake : ∀ o ∈ x.Offices.take handed.toNat, 0 ≤ o ∧ o ≤ 24 := fun o ho => by
      have := hxo.s o (List.mem_of_mem_take ho)
      have := (Tt.chk_ok (cost_ok hc).1).o
      omega
    have hmi := covs_mi ⟨n0, n1⟩ hr htake (by simp; omega)
    have htl : (x.Offices.take handed.toNat).length = handed.toNat := by simp; omega
    (repeat with_reducible first | refine js ?_ | refine ja ?_ | refine jw KL85 [] TF85 fun _ => ?_)
    refine SemW_buildF (α := MoveD) (W := w9) Tryz.underlying35 ti70 rfl (by decide) (Ext.refl _) [] [] rfl rfl (Cs.nil _) (by decide) fun p0 w0 b0 _ x0 => ?_
    (repeat with_reducible first | refine js ?_ | refine ja ?_ | refine jw KL85 [] TF85 fun _ => ?_)
    refine Run_loopV [15, 16, 50] (σ := Nat × Value) (fun q => [(16, some (.int .i64 q.1)), (15, some q.2)]) (fun q w' => q.1 ≤ handed.toNat ∧ BufL (α := MoveD) 70 w9 w' q.2 ((Fd.covs n run (x.Offices.take handed.toNat)).take q.1)) (fun q => handed.toNat - q.1) (0, .slice (some p0) 0 0) (by simp [SubB, fnd]) ⟨by simp, by simpa using b0⟩ ?_
    rintro ⟨k, vm⟩ w2' ⟨hk, hb⟩
    simp only at hk hb
    have hbl := hb.isS
    rw [List.length_take, Fd.covs_len, htl] at hbl
    have xb := hb.ext0
    have qb := (r9.at_.ext xb).n
    simp only [LineD.cs, AtN, KS, Nat.reduceAdd, Nat.reduceMul, Nat.reduceEqDiff, ↓reduceIte, UT] at qb
    (repeat with_reducible first | refine js ?_ | refine ja ?_ | refine jw KL85 [] TF85 fun _ => ?_)
    refine Run_condS (fun _ => rfl) (fun h => ?_) (fun h => ?_)
    · simp at h
      have hkl : k < handed.toNat := by omega
      obtain ⟨g1, g2, g3⟩ := (hR9.o.ext xb).get (show k < x.Offices.length by omega)
      have hkt : k < (x.Offices.take handed.toNat).length := by omega
      have ho : x.Offices[k]'(by omega) = (x.Offices.take handed.toNat)[k] := by simp
      have hob := htake _ (List.getElem_mem hkt)
      rw [ho] at g1
      have hmk := hmi _ (List.getElem_mem (show k < (Fd.covs n run (x.Offices.take handed.toNat)).length by rw [Fd.covs_len]; exact hkt))
      rw [Fd.covs_get _ hkt] at hmk
      have htk := Fd.covs_take (n := n) (run := run) hkt
      generalize (x.Offices.take handed.toNat)[k] = o at *
      (repeat with_reducible first | refine js ?_ | refine ja ?_ | refine jw KL85 [] (aa TF85 (aa qb (aa hR9.o.s (aa hR9.o.len (aa g1 g2))))) fun _ => ?_)
      refine ⟨.agg (Fd.covM n run k o).cs.toArray, fun w' => by kernel_rfl, ?_⟩
      refine SemW_append1F (α := MoveD) (X := .agg (Fd.covM n run k o).cs.toArray) (x := Fd.covM n run k o) Tryz.underlying35 ti70 rfl (by decide) hb ⟨rfl, hmk⟩ (by simp [maxLen, Fd.covs_len]; omega) fun u v' w3' b3 _ x3' _ => ?_
      rw [← htk] at b3
      (repeat with_reducible first | refine js ?_ | refine ja ?_ | refine jw KL85 [] TF85 fun _ => ?_)
      refine Run_lp ⟨(k + 1, v'), ?_, ⟨by simp only; omega, b3⟩, by simp only; omega⟩
      simp [SubB, fnd, strike, has]
    · simp at h
      obtain rfl : k = handed.toNat := by omega
      rw [List.take_of_length_le (by rw [Fd.covs_len]; omega)] at hb
      (repeat with_reducible first | refine js ?_ | refine ja ?_ | refine jw KL85 [] TF85 fun _ => ?_)
      refine Run_ret ?_
      simp [Rets, RetM, resV, fnd, oneOr, MvRet, hres]
      exact ⟨y9.trans hb.ext0, hb.sl (by rw [Fd.covs_len]; omega)⟩
theorem eqM (a b : MoveD) : (a.No == b.No && (a.From == b.From && (a.To == b.To && (a.Amount == b.Amount && (a.Why == b.Why && (a.Run == b.Run && true)))))) = decide (a = b) := by
  rw [Bool.eq_iff_iff]
  cases a; cases b
  simp
end Go.Proofs.YtoadfmgnpmcbfaaGreat
