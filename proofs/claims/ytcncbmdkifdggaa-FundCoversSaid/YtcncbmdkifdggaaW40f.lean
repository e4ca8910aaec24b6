/- Chapter 40: the reference's Cost, Cover; Few; Same. -/
import Derived.Test.YtcncbmdkifdggaaW40e
namespace Go.Proofs.Ytcncbmdkifdggaa
open Go Go.Fk
set_option linter.unusedSimpArgs false
set_option linter.unusedVariables false
set_option maxRecDepth 100000

def optN : Option Int → Int | none => -1 | some x => x
theorem rfLeast (f : TariffD) (u0 u1 u2 : Value) (c : Int) (w : World) (hT : TarR w f u0 u1 u2) (hf : ∀ x ∈ f.Leg, 0 ≤ x ∧ x ≤ 1048576) :
    Calls Try.prog 30 #[.agg (f.cs u0 u1 u2).toArray, .int .i64 c] w fun e w' => e = .returned (.int .i64 (optN (Fd.least (Fd.bit c) f.Leg))) ∧ Ext w w' := by
  have hn := hT.l.small
  have hlen := hT.l.len
  refine Calls_of_Run (args := [.agg (f.cs u0 u1 u2).toArray, .int .i64 c]) (n := 38) (rs := [.tmp 4]) Try.func30 rfl rfl rfl (by simp) ?_
  (repeat first | with_reducible first | refine jq ?_ | refine jk ?_ | refine jc ?_ | refine jl ?_ | refine jb ?_ | refine jo ?_ | refine ji ?_ | refine jx rfl ?_ | refine And.intro (by first | assumption | omega | (intros; omega)) ?_ | ((first | refine jR KL30 (by kernel_rfl) fun _ => ?_ | skip); simp only [KS, Nat.reduceAdd, Nat.reduceMul, Nat.reduceEqDiff, ↓reduceIte, forall_const, Int.cast_ofNat_Int, Int.reduceToNat, TF30, KL30]; (try simp (disch := omega) only [wrapI, tmodI, tdivI]); (fail_if_success (with_reducible show False))))
  refine SemW_box fun p w1 hN => ?_
  have x1 := hN.ext
  have F : ∀ w', Ext w1 w' → AtN w' p 0 (f.cs u0 u1 u2) := fun w' x => (hN.at_.ext x).n
  simp only [TariffD.cs, AtN, KS, Nat.reduceAdd, Nat.reduceMul, Nat.reduceEqDiff, ↓reduceIte, UT] at F
  (repeat first | with_reducible first | refine jq ?_ | refine jk ?_ | refine jc ?_ | refine jl ?_ | refine jb ?_ | refine jo ?_ | refine ji ?_ | refine jx rfl ?_ | refine And.intro (by first | assumption | omega | (intros; omega)) ?_ | ((first | refine jR KL30 (by kernel_rfl) fun _ => ?_ | skip); simp only [KS, Nat.reduceAdd, Nat.reduceMul, Nat.reduceEqDiff, ↓reduceIte, forall_const, Int.cast_ofNat_Int, Int.reduceToNat, TF30, KL30]; (try simp (disch := omega) only [wrapI, tmodI, tdivI]); (fail_if_success (with_reducible show False))))
  refine Run_loopV [5, 6, 11, 31] (σ := Nat × Option Int) (fun s => [(6, some (.int .i64 s.1)), (5, some (.int .i64 (optN s.2)))]) (fun s w' => s.1 ≤ f.Leg.length ∧ (∀ x, s.2 = some x → 0 ≤ x) ∧ Fd.least (Fd.bit c) f.Leg = Fd.leastF (Fd.bit c) s.1 (f.Leg.drop s.1) s.2 ∧ Ext w1 w') (fun s => f.Leg.length - s.1) (0, none) (by simp [SubB, fnd, optN]) ⟨by simp, by simp, by simp [Fd.least], Ext.refl _⟩ ?_
  rintro ⟨k, a⟩ w2 ⟨hk, ha, hle, x2⟩
  simp only at hk ha hle
  have y2 := x1.trans x2
  have f2 := F w2 x2
  (repeat first | with_reducible first | refine jq ?_ | refine jk ?_ | refine jc ?_ | refine jl ?_ | refine jb ?_ | refine jo ?_ | refine ji ?_ | refine jx rfl ?_ | refine And.intro (by first | assumption | omega | (intros; omega)) ?_ | ((first | refine jR KL30 (by kernel_rfl) fun _ => ?_ | skip); simp only [KS, Nat.reduceAdd, Nat.reduceMul, Nat.reduceEqDiff, ↓reduceIte, forall_const, Int.cast_ofNat_Int, Int.reduceToNat, TF30, KL30, f2, hT.l.s, hT.l.len]; (try simp (disch := omega) only [wrapI, tmodI, tdivI]); (fail_if_success (with_reducible show False))))
  refine Run_condS (fun _ => rfl) (fun h => ?_) (fun h => ?_)
  · simp at h
    have hkl := h
    obtain ⟨q1, q2, q3⟩ := (hT.l.ext y2).get hkl
    have hx := hf _ (List.getElem_mem hkl)
    rw [Fd.leastF_drop hkl] at hle
    have hb : Fd.better a f.Leg[k] = (decide (optN a < 0) || decide (f.Leg[k] < optN a)) := by
      cases a with
      | none => simp [Fd.better, optN]
      | some m => have := ha m rfl; show decide (f.Leg[k] < m) = (decide (m < 0) || decide (f.Leg[k] < m)); rw [decide_eq_false (show ¬ m < 0 by omega), Bool.false_or]
    have hbit : (iand .i64 (c.fdiv (2 ^ (min k IntKind.i64.bits))) 1 == 1) = Fd.bit c k := rfl
    (repeat first | with_reducible first | refine jq ?_ | refine jk ?_ | refine jc ?_ | refine jl ?_ | refine jb ?_ | refine jo ?_ | refine ji ?_ | refine jx rfl ?_ | refine And.intro (by first | assumption | omega | (intros; omega)) ?_ | ((first | refine jR KL30 (by kernel_rfl) fun _ => ?_ | skip); simp only [KS, Nat.reduceAdd, Nat.reduceMul, Nat.reduceEqDiff, ↓reduceIte, forall_const, Int.cast_ofNat_Int, Int.reduceToNat, TF30, KL30, f2, hT.l.s, hT.l.len, q1, q2]; (try simp (disch := omega) only [wrapI, tmodI, tdivI]); (fail_if_success (with_reducible show False))))
    rw [hbit, ← hb]
    refine Run_condS (fun _ => rfl) (fun h => ?_) (fun h => ?_)
    · rw [if_pos h] at hle
      (repeat first | with_reducible first | refine jq ?_ | refine jk ?_ | refine jc ?_ | refine jl ?_ | refine jb ?_ | refine jo ?_ | refine ji ?_ | refine jx rfl ?_ | refine And.intro (by first | assumption | omega | (intros; omega)) ?_ | ((first | refine jR KL30 (by kernel_rfl) fun _ => ?_ | skip); simp only [KS, Nat.reduceAdd, Nat.reduceMul, Nat.reduceEqDiff, ↓reduceIte, forall_const, Int.cast_ofNat_Int, Int.reduceToNat, TF30, KL30, f2, hT.l.s, hT.l.len, q1, q2]; (try simp (disch := omega) only [wrapI, tmodI, tdivI]); (fail_if_success (with_reducible show False))))
      refine Run_lp ⟨(k + 1, some f.Leg[k]), ?_, ⟨by simp only; omega, fun x hx' => by cases hx'; exact hx.1, hle, x2⟩, by simp only; omega⟩
      simp [SubB, fnd, strike, has, optN]
    · rw [if_neg (by simp [h])] at hle
      (repeat first | with_reducible first | refine jq ?_ | refine jk ?_ | refine jc ?_ | refine jl ?_ | refine jb ?_ | refine jo ?_ | refine ji ?_ | refine jx rfl ?_ | refine And.intro (by first | assumption | omega | (intros; omega)) ?_ | ((first | refine jR KL30 (by kernel_rfl) fun _ => ?_ | skip); simp only [KS, Nat.reduceAdd, Nat.reduceMul, Nat.reduceEqDiff, ↓reduceIte, forall_const, Int.cast_ofNat_Int, Int.reduceToNat, TF30, KL30]; (try simp (disch := omega) only [wrapI, tmodI, tdivI]); (fail_if_success (with_reducible show False))))
      refine Run_lp ⟨(k + 1, a), ?_, ⟨by simp only; omega, ha, hle, x2⟩, by simp only; omega⟩
      simp [SubB, fnd, strike, has]
  · simp at h
    obtain rfl : k = f.Leg.length := by omega
    rw [List.drop_length] at hle
    (repeat first | with_reducible first | refine jq ?_ | refine jk ?_ | refine jc ?_ | refine jl ?_ | refine jb ?_ | refine jo ?_ | refine ji ?_ | refine jx rfl ?_ | refine And.intro (by first | assumption | omega | (intros; omega)) ?_ | ((first | refine jR KL30 (by kernel_rfl) fun _ => ?_ | skip); simp only [KS, Nat.reduceAdd, Nat.reduceMul, Nat.reduceEqDiff, ↓reduceIte, forall_const, Int.cast_ofNat_Int, Int.reduceToNat, TF30, KL30]; (try simp (disch := omega) only [wrapI, tmodI, tdivI]); (fail_if_success (with_reducible show False))))
    refine Run_ret ?_
    simp [Rets, RetM, resV, fnd, oneOr, hle, Fd.leastF, y2]
theorem rfCost (vl v0 v1 v2 u0 u1 u2 : Value) (t : TimeD) (f : TariffD) (p : PlanD) (run : Int) (w : World) (hl : Sl w vl t.Lines) (hT : TarR w f u0 u1 u2) (hP : PlanR w p v0 v1 v2) :
    Calls Try.prog 11 #[.agg (t.cs vl).toArray, .agg (f.cs u0 u1 u2).toArray, .agg (p.cs v0 v1 v2).toArray, .int .i64 run] w (CostRet w (Fd.cost t f p run)) := by
  have hlen := hl.len
  have rlen := hP.r.len
  have clen := hP.c.len
  refine Calls_of_Run (args := [.agg (t.cs vl).toArray, .agg (f.cs u0 u1 u2).toArray, .agg (p.cs v0 v1 v2).toArray, .int .i64 run]) (n := 56) (rs := [.tmp 8, .tmp 9]) Try.func11 rfl rfl rfl (by simp) ?_
  (repeat first | with_reducible first | refine jq ?_ | refine jk ?_ | refine jc ?_ | refine jl ?_ | refine jb ?_ | refine jo ?_ | refine ji ?_ | refine jx rfl ?_ | refine And.intro (by first | assumption | omega | (intros; omega)) ?_ | ((first | refine jR KL11 (by kernel_rfl) fun _ => ?_ | refine jD (id := 10) KL11 mixed (by kernel_rfl) (by kernel_rfl) fun _ => ?_ | skip); simp only [KS, Nat.reduceAdd, Nat.reduceMul, Nat.reduceEqDiff, ↓reduceIte, forall_const, Int.cast_ofNat_Int, Int.reduceToNat, TF11, KL11]; (try simp (disch := omega) only [wrapI, tmodI, tdivI]); (fail_if_success (with_reducible show False))))
  refine SemW_box fun pt w1 h1 => SemW_box fun pf w2 h2 => SemW_box fun pp w3 h3 => ?_
  have x3 := h1.ext.trans (h2.ext.trans h3.ext)
  have T : ∀ w', Ext w3 w' → AtN w' pt 0 (t.cs vl) := fun w' x => (h1.at_.ext (h2.ext.trans (h3.ext.trans x))).n
  have F : ∀ w', Ext w3 w' → AtN w' pf 0 (f.cs u0 u1 u2) := fun w' x => (h2.at_.ext (h3.ext.trans x)).n
  have P : ∀ w', Ext w3 w' → AtN w' pp 0 (p.cs v0 v1 v2) := fun w' x => (h3.at_.ext x).n
  simp only [TimeD.cs, TariffD.cs, PlanD.cs, AtN, KS, Nat.reduceAdd, Nat.reduceMul, Nat.reduceEqDiff, ↓reduceIte, UT] at T F P
  have t3 := T w3 (Ext.refl _)
  (repeat first | with_reducible first | refine jq ?_ | refine jk ?_ | refine jc ?_ | refine jl ?_ | refine jb ?_ | refine jo ?_ | refine ji ?_ | refine jx rfl ?_ | refine And.intro (by first | assumption | omega | (intros; omega)) ?_ | ((first | refine jR KL11 (by kernel_rfl) fun _ => ?_ | refine jD (id := 10) KL11 mixed (by kernel_rfl) (by kernel_rfl) fun _ => ?_ | skip); simp only [KS, Nat.reduceAdd, Nat.reduceMul, Nat.reduceEqDiff, ↓reduceIte, forall_const, Int.cast_ofNat_Int, Int.reduceToNat, TF11, KL11, t3]; (try simp (disch := omega) only [wrapI, tmodI, tdivI]); (fail_if_success (with_reducible show False))))
  refine chk20W rfl (hl.ext x3) fun w4 x4 => ?_
  have y4 := x3.trans x4
  have f4 := F w4 x4
  (repeat first | with_reducible first | refine jq ?_ | refine jk ?_ | refine jc ?_ | refine jl ?_ | refine jb ?_ | refine jo ?_ | refine ji ?_ | refine jx rfl ?_ | refine And.intro (by first | assumption | omega | (intros; omega)) ?_ | ((first | refine jR KL11 (by kernel_rfl) fun _ => ?_ | refine jD (id := 10) KL11 mixed (by kernel_rfl) (by kernel_rfl) fun _ => ?_ | skip); simp only [KS, Nat.reduceAdd, Nat.reduceMul, Nat.reduceEqDiff, ↓reduceIte, forall_const, Int.cast_ofNat_Int, Int.reduceToNat, TF11, KL11]; (try simp (disch := omega) only [wrapI, tmodI, tdivI]); (fail_if_success (with_reducible show False))))
  by_cases hc : Tt.chk t = 0
  rotate_left
  · refine Run_condS (fun _ => rfl) (fun h => by simp at h; exact (hc h).elim) (fun _ => ?_)
    (repeat first | with_reducible first | refine jq ?_ | refine jk ?_ | refine jc ?_ | refine jl ?_ | refine jb ?_ | refine jo ?_ | refine ji ?_ | refine jx rfl ?_ | refine And.intro (by first | assumption | omega | (intros; omega)) ?_ | ((first | refine jR KL11 (by kernel_rfl) fun _ => ?_ | refine jD (id := 10) KL11 mixed (by kernel_rfl) (by kernel_rfl) fun _ => ?_ | skip); simp only [KS, Nat.reduceAdd, Nat.reduceMul, Nat.reduceEqDiff, ↓reduceIte, forall_const, Int.cast_ofNat_Int, Int.reduceToNat, TF11, KL11]; (try simp (disch := omega) only [wrapI, tmodI, tdivI]); (fail_if_success (with_reducible show False))))
    refine Run_condS (fun _ => rfl) (fun _ => ?_) (fun h => by simp at h; exact (hc h).elim)
    (repeat first | with_reducible first | refine jq ?_ | refine jk ?_ | refine jc ?_ | refine jl ?_ | refine jb ?_ | refine jo ?_ | refine ji ?_ | refine jx rfl ?_ | refine And.intro (by first | assumption | omega | (intros; omega)) ?_ | ((first | refine jR KL11 (by kernel_rfl) fun _ => ?_ | refine jD (id := 10) KL11 mixed (by kernel_rfl) (by kernel_rfl) fun _ => ?_ | skip); simp only [KS, Nat.reduceAdd, Nat.reduceMul, Nat.reduceEqDiff, ↓reduceIte, forall_const, Int.cast_ofNat_Int, Int.reduceToNat, TF11, KL11]; (try simp (disch := omega) only [wrapI, tmodI, tdivI]); (fail_if_success (with_reducible show False))))
    refine Run_ret ?_
    simp [Rets, RetM, resV, fnd, oneOr, CostRet, Fd.cost, hc, y4]
  refine Run_condS (fun _ => rfl) (fun _ => ?_) (fun h => by simp at h; exact (h hc).elim)
  (repeat first | with_reducible first | refine jq ?_ | refine jk ?_ | refine jc ?_ | refine jl ?_ | refine jb ?_ | refine jo ?_ | refine ji ?_ | refine jx rfl ?_ | refine And.intro (by first | assumption | omega | (intros; omega)) ?_ | ((first | refine jR KL11 (by kernel_rfl) fun _ => ?_ | refine jD (id := 10) KL11 mixed (by kernel_rfl) (by kernel_rfl) fun _ => ?_ | skip); simp only [KS, Nat.reduceAdd, Nat.reduceMul, Nat.reduceEqDiff, ↓reduceIte, forall_const, Int.cast_ofNat_Int, Int.reduceToNat, TF11, KL11, f4]; (try simp (disch := omega) only [wrapI, tmodI, tdivI]); (fail_if_success (with_reducible show False))))
  refine CallW_pure call28 (rfCheck21 f u0 u1 u2 w4 (hT.ext y4)) fun w5 x5 => ?_
  have y5 := y4.trans x5
  (repeat first | with_reducible first | refine jq ?_ | refine jk ?_ | refine jc ?_ | refine jl ?_ | refine jb ?_ | refine jo ?_ | refine ji ?_ | refine jx rfl ?_ | refine And.intro (by first | assumption | omega | (intros; omega)) ?_ | ((first | refine jR KL11 (by kernel_rfl) fun _ => ?_ | refine jD (id := 10) KL11 mixed (by kernel_rfl) (by kernel_rfl) fun _ => ?_ | skip); simp only [KS, Nat.reduceAdd, Nat.reduceMul, Nat.reduceEqDiff, ↓reduceIte, forall_const, Int.cast_ofNat_Int, Int.reduceToNat, TF11, KL11]; (try simp (disch := omega) only [wrapI, tmodI, tdivI]); (fail_if_success (with_reducible show False))))
  refine Run_condS (fun _ => rfl) (fun h => ?_) (fun h => ?_)
  · simp at h
    (repeat first | with_reducible first | refine jq ?_ | refine jk ?_ | refine jc ?_ | refine jl ?_ | refine jb ?_ | refine jo ?_ | refine ji ?_ | refine jx rfl ?_ | refine And.intro (by first | assumption | omega | (intros; omega)) ?_ | ((first | refine jR KL11 (by kernel_rfl) fun _ => ?_ | refine jD (id := 10) KL11 mixed (by kernel_rfl) (by kernel_rfl) fun _ => ?_ | skip); simp only [KS, Nat.reduceAdd, Nat.reduceMul, Nat.reduceEqDiff, ↓reduceIte, forall_const, Int.cast_ofNat_Int, Int.reduceToNat, TF11, KL11]; (try simp (disch := omega) only [wrapI, tmodI, tdivI]); (fail_if_success (with_reducible show False))))
    refine Run_ret ?_
    simp [Rets, RetM, resV, fnd, oneOr, CostRet, Fd.cost, hc, h, y5]
  simp at h
  have hfc := h
  have t5 := T w5 (x4.trans x5)
  have p5 := P w5 (x4.trans x5)
  (repeat first | with_reducible first | refine jq ?_ | refine jk ?_ | refine jc ?_ | refine jl ?_ | refine jb ?_ | refine jo ?_ | refine ji ?_ | refine jx rfl ?_ | refine And.intro (by first | assumption | omega | (intros; omega)) ?_ | ((first | refine jR KL11 (by kernel_rfl) fun _ => ?_ | refine jD (id := 10) KL11 mixed (by kernel_rfl) (by kernel_rfl) fun _ => ?_ | skip); simp only [KS, Nat.reduceAdd, Nat.reduceMul, Nat.reduceEqDiff, ↓reduceIte, forall_const, Int.cast_ofNat_Int, Int.reduceToNat, TF11, KL11, t5, p5]; (try simp (disch := omega) only [wrapI, tmodI, tdivI]); (fail_if_success (with_reducible show False))))
  refine CallW_pure call29 (rfFormed vl v0 v1 v2 t p w5 (hl.ext y5) (hP.ext y5)) fun w6 x6 => ?_
  have y6 := y5.trans x6
  (repeat first | with_reducible first | refine jq ?_ | refine jk ?_ | refine jc ?_ | refine jl ?_ | refine jb ?_ | refine jo ?_ | refine ji ?_ | refine jx rfl ?_ | refine And.intro (by first | assumption | omega | (intros; omega)) ?_ | ((first | refine jR KL11 (by kernel_rfl) fun _ => ?_ | refine jD (id := 10) KL11 mixed (by kernel_rfl) (by kernel_rfl) fun _ => ?_ | skip); simp only [KS, Nat.reduceAdd, Nat.reduceMul, Nat.reduceEqDiff, ↓reduceIte, forall_const, Int.cast_ofNat_Int, Int.reduceToNat, TF11, KL11]; (try simp (disch := omega) only [wrapI, tmodI, tdivI]); (fail_if_success (with_reducible show False))))
  refine Run_condS (fun _ => rfl) (fun h => ?_) (fun h => ?_)
  · simp at h
    (repeat first | with_reducible first | refine jq ?_ | refine jk ?_ | refine jc ?_ | refine jl ?_ | refine jb ?_ | refine jo ?_ | refine ji ?_ | refine jx rfl ?_ | refine And.intro (by first | assumption | omega | (intros; omega)) ?_ | ((first | refine jR KL11 (by kernel_rfl) fun _ => ?_ | refine jD (id := 10) KL11 mixed (by kernel_rfl) (by kernel_rfl) fun _ => ?_ | skip); simp only [KS, Nat.reduceAdd, Nat.reduceMul, Nat.reduceEqDiff, ↓reduceIte, forall_const, Int.cast_ofNat_Int, Int.reduceToNat, TF11, KL11]; (try simp (disch := omega) only [wrapI, tmodI, tdivI]); (fail_if_success (with_reducible show False))))
    refine Run_ret ?_
    simp [Rets, RetM, resV, fnd, oneOr, CostRet, Fd.cost, hc, hfc, h, y6]
  simp at h
  have hfm := h
  obtain ⟨c1, c2, c3, c4⟩ := formed_ok hfm
  have x36 := x4.trans (x5.trans x6)
  have t6 := T w6 x36
  have p6 := P w6 x36
  have f6 := F w6 x36
  (repeat first | with_reducible first | refine jq ?_ | refine jk ?_ | refine jc ?_ | refine jl ?_ | refine jb ?_ | refine jo ?_ | refine ji ?_ | refine jx rfl ?_ | refine And.intro (by first | assumption | omega | (intros; omega)) ?_ | ((first | refine jR KL11 (by kernel_rfl) fun _ => ?_ | refine jD (id := 10) KL11 mixed (by kernel_rfl) (by kernel_rfl) fun _ => ?_ | skip); simp only [KS, Nat.reduceAdd, Nat.reduceMul, Nat.reduceEqDiff, ↓reduceIte, forall_const, Int.cast_ofNat_Int, Int.reduceToNat, TF11, KL11, p6, hP.r.s, hP.r.len]; (try simp (disch := omega) only [wrapI, tmodI, tdivI]); (fail_if_success (with_reducible show False))))
  refine Run_condS (fun _ => rfl) (fun h => ?_) (fun h => ?_)
  · simp at h
    (repeat first | with_reducible first | refine jq ?_ | refine jk ?_ | refine jc ?_ | refine jl ?_ | refine jb ?_ | refine jo ?_ | refine ji ?_ | refine jx rfl ?_ | refine And.intro (by first | assumption | omega | (intros; omega)) ?_ | ((first | refine jR KL11 (by kernel_rfl) fun _ => ?_ | refine jD (id := 10) KL11 mixed (by kernel_rfl) (by kernel_rfl) fun _ => ?_ | skip); simp only [KS, Nat.reduceAdd, Nat.reduceMul, Nat.reduceEqDiff, ↓reduceIte, forall_const, Int.cast_ofNat_Int, Int.reduceToNat, TF11, KL11]; (try simp (disch := omega) only [wrapI, tmodI, tdivI]); (fail_if_success (with_reducible show False))))
    refine Run_ret ?_
    have : Fd.cost t f p run = (0, 1) := by
      unfold Fd.cost
      rw [if_neg (by simp [hc]), if_neg (by simp [hfc]), if_neg (by simp [hfm]), if_pos (by omega)]
    simp [Rets, RetM, resV, fnd, oneOr, CostRet, this, y6]
  simp at h
  have hrn : run.toNat < p.Runs.length := by omega
  have hg : p.Runs.getD run.toNat default = p.Runs[run.toNat] := by simp [List.getD_eq_getElem?_getD, hrn]
  have hrun := isRun_line (c2 _ (List.getElem_mem hrn))
  obtain ⟨q6, _⟩ := (hP.r.ext y6).runD hrn
  have hgc : p.Covers.getD run.toNat 0 = p.Covers[run.toNat] := by simp [List.getD_eq_getElem?_getD, show run.toNat < p.Covers.length by omega]
  have hcv := c4 _ (List.getElem_mem (show run.toNat < p.Covers.length by omega))
  have hln : p.Runs[run.toNat].Line.toNat < t.Lines.length := by omega
  have hlo : Fd.lineOf t p run = t.Lines[p.Runs[run.toNat].Line.toNat] := by
    unfold Fd.lineOf; rw [hg]; simp [List.getD_eq_getElem?_getD, hln]
  obtain ⟨l0, l1, l2, l3, e6, e2, hR⟩ := (hl.ext y6).line hln
  have hres : Fd.cost t f p run = match Fd.least (Fd.bit (Fd.lineOf t p run).Classes) f.Leg with
      | none => (0, 210)
      | some x => (x * p.Covers.getD run.toNat 0, 0) := by
    unfold Fd.cost
    rw [if_neg (by simp [hc]), if_neg (by simp [hfc]), if_neg (by simp [hfm]), if_neg (by omega)]
    rfl
  rw [hlo, hgc] at hres
  generalize hxx : t.Lines[p.Runs[run.toNat].Line.toNat] = x at *
  generalize hrr : p.Runs[run.toNat] = r at *
  simp only [RunD.cs, LineD.cs, AtN, KS, Nat.reduceAdd, Nat.reduceMul, Nat.reduceEqDiff, ↓reduceIte, UT] at q6 e6
  have ok := Tf.chk_ok hfc
  (repeat first | with_reducible first | refine jq ?_ | refine jk ?_ | refine jc ?_ | refine jl ?_ | refine jb ?_ | refine jo ?_ | refine ji ?_ | refine jx rfl ?_ | refine And.intro (by first | assumption | omega | (intros; omega)) ?_ | ((first | refine jR KL11 (by kernel_rfl) fun _ => ?_ | refine jD (id := 10) KL11 mixed (by kernel_rfl) (by kernel_rfl) fun _ => ?_ | skip); simp only [KS, Nat.reduceAdd, Nat.reduceMul, Nat.reduceEqDiff, ↓reduceIte, forall_const, Int.cast_ofNat_Int, Int.reduceToNat, TF11, KL11, t6, p6, f6, hP.r.s, hP.r.len, hl.s, hl.len, q6, e6]; (try simp (disch := omega) only [wrapI, tmodI, tdivI]); (fail_if_success (with_reducible show False))))
  refine ⟨_, PC_pure call30 fun w7 x7 => rfLeast f u0 u1 u2 x.Classes w7 (hT.ext (y6.trans x7)) ok.l, fun w7 x7 => ?_⟩
  have y7 := y6.trans x7
  cases hle : Fd.least (Fd.bit x.Classes) f.Leg with
  | none =>
    rw [hle] at hres
    (repeat first | with_reducible first | refine jq ?_ | refine jk ?_ | refine jc ?_ | refine jl ?_ | refine jb ?_ | refine jo ?_ | refine ji ?_ | refine jx rfl ?_ | refine And.intro (by first | assumption | omega | (intros; omega)) ?_ | ((first | refine jR KL11 (by kernel_rfl) fun _ => ?_ | refine jD (id := 10) KL11 mixed (by kernel_rfl) (by kernel_rfl) fun _ => ?_ | skip); simp only [KS, Nat.reduceAdd, Nat.reduceMul, Nat.reduceEqDiff, ↓reduceIte, forall_const, Int.cast_ofNat_Int, Int.reduceToNat, TF11, KL11]; (try simp (disch := omega) only [wrapI, tmodI, tdivI]); (fail_if_success (with_reducible show False))))
    refine Run_condS (fun _ => rfl) (fun _ => ?_) (fun h => by simp [optN] at h)
    (repeat first | with_reducible first | refine jq ?_ | refine jk ?_ | refine jc ?_ | refine jl ?_ | refine jb ?_ | refine jo ?_ | refine ji ?_ | refine jx rfl ?_ | refine And.intro (by first | assumption | omega | (intros; omega)) ?_ | ((first | refine jR KL11 (by kernel_rfl) fun _ => ?_ | refine jD (id := 10) KL11 mixed (by kernel_rfl) (by kernel_rfl) fun _ => ?_ | skip); simp only [KS, Nat.reduceAdd, Nat.reduceMul, Nat.reduceEqDiff, ↓reduceIte, forall_const, Int.cast_ofNat_Int, Int.reduceToNat, TF11, KL11]; (try simp (disch := omega) only [wrapI, tmodI, tdivI]); (fail_if_success (with_reducible show False))))
    refine Run_ret ?_
    simp [Rets, RetM, resV, fnd, oneOr, CostRet, hres, y7]
  | some m =>
    rw [hle] at hres
    have hm := ok.l _ (Fd.least_mem hle)
    have p7 := P w7 (x36.trans x7)
    obtain ⟨g1, g2, g3⟩ := (hP.c.ext y7).get (show run.toNat < p.Covers.length by omega)
    (repeat first | with_reducible first | refine jq ?_ | refine jk ?_ | refine jc ?_ | refine jl ?_ | refine jb ?_ | refine jo ?_ | refine ji ?_ | refine jx rfl ?_ | refine And.intro (by first | assumption | omega | (intros; omega)) ?_ | ((first | refine jR KL11 (by kernel_rfl) fun _ => ?_ | refine jD (id := 10) KL11 mixed (by kernel_rfl) (by kernel_rfl) fun _ => ?_ | skip); simp only [KS, Nat.reduceAdd, Nat.reduceMul, Nat.reduceEqDiff, ↓reduceIte, forall_const, Int.cast_ofNat_Int, Int.reduceToNat, TF11, KL11]; (try simp (disch := omega) only [wrapI, tmodI, tdivI]); (fail_if_success (with_reducible show False))))
    refine Run_condS (fun _ => rfl) (fun h => absurd (of_decide_eq_true h : m < 0) (by omega)) (fun _ => ?_)
    have hmul : 0 ≤ p.Covers[run.toNat] * m ∧ p.Covers[run.toNat] * m ≤ 64 * 1048576 := by
      constructor
      · exact Int.mul_nonneg hcv.1 hm.1
      · exact Int.mul_le_mul hcv.2 hm.2 hm.1 (by omega)
    have hres : Fd.cost t f p run = (p.Covers[run.toNat] * m, 0) := by rw [hres, Int.mul_comm]
    generalize hcc : p.Covers[run.toNat] = c at *
    have eo : optN (some m) = m := rfl
    rw [eo]
    generalize hmm : c * m = mc at *
    (repeat first | with_reducible first | refine jq ?_ | refine jk ?_ | refine jc ?_ | refine jl ?_ | refine jb ?_ | refine jo ?_ | refine ji ?_ | refine jx rfl ?_ | refine And.intro (by first | assumption | omega | (intros; omega)) ?_ | ((first | refine jR KL11 (by kernel_rfl) fun _ => ?_ | refine jD (id := 10) KL11 mixed (by kernel_rfl) (by kernel_rfl) fun _ => ?_ | skip); simp only [KS, Nat.reduceAdd, Nat.reduceMul, Nat.reduceEqDiff, ↓reduceIte, forall_const, Int.cast_ofNat_Int, Int.reduceToNat, TF11, KL11, p7, hP.c.s, hP.c.len, g1, g2, hmm]; (try simp (disch := omega) only [wrapI, tmodI, tdivI]); (fail_if_success (with_reducible show False))))
    refine Run_ret ?_
    simp [Rets, RetM, resV, fnd, oneOr, CostRet, hres, y7, hmm]
end Go.Proofs.Ytcncbmdkifdggaa
