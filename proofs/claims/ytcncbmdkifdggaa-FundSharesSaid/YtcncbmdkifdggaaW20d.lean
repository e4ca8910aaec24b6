/- Chapter 20: the reference's Is, Before, Few. -/
import Derived.Test.YtcncbmdkifdggaaW20c
namespace Go.Proofs.Ytcncbmdkifdggaa
open Go Go.Fk
set_option linter.unusedSimpArgs false
set_option linter.unusedVariables false
set_option maxRecDepth 100000

theorem rfLength (x : LineD) (v0 v1 v2 v3 : Value) (w : World) (hR : LineR w x v0 v1 v2 v3) (n : Int) (hx : Tt.LOk x n) :
    Calls Try.prog 83 #[.agg (x.cs v0 v1 v2 v3).toArray] w fun e w' => e = .returned (.int .i64 (Tt.leng x)) ∧ Ext w w' := by
  have hl9 : x.Legs.length ≤ 8 := by have := hx.l1; have := hx.o9; omega
  have hbd := Tt.sm_bd hx.l
  have hln := hR.l.len
  refine Calls_of_Run (args := [.agg (x.cs v0 v1 v2 v3).toArray]) (n := 20) (rs := [.tmp 2]) Try.func83 rfl rfl rfl (by simp) ?_
  (repeat first | with_reducible first | refine jq ?_ | refine jk ?_ | refine jc ?_ | refine jl ?_ | refine jb ?_ | refine jo ?_ | refine ji ?_ | refine jx rfl ?_ | refine And.intro (by first | assumption | omega | (intros; omega)) ?_ | ((first | refine jR KL83 (by kernel_rfl) fun _ => ?_ | skip); simp only [KS, Nat.reduceAdd, Nat.reduceMul, Nat.reduceEqDiff, ↓reduceIte, forall_const, Int.cast_ofNat_Int, Int.reduceToNat, TF83, KL83]; (try simp (disch := omega) only [wrapI, tmodI, tdivI]); (fail_if_success (with_reducible show False))))
  refine SemW_box fun p w1 hN => ?_
  have x1 := hN.ext
  have G : ∀ w', Ext w1 w' → AtN w' p 0 (x.cs v0 v1 v2 v3) := fun w' x => (hN.at_.ext x).n
  simp only [LineD.cs, AtN, KS, Nat.reduceAdd, Nat.reduceMul, Nat.reduceEqDiff, ↓reduceIte, UT] at G
  (repeat first | with_reducible first | refine jq ?_ | refine jk ?_ | refine jc ?_ | refine jl ?_ | refine jb ?_ | refine jo ?_ | refine ji ?_ | refine jx rfl ?_ | refine And.intro (by first | assumption | omega | (intros; omega)) ?_ | ((first | refine jR KL83 (by kernel_rfl) fun _ => ?_ | skip); simp only [KS, Nat.reduceAdd, Nat.reduceMul, Nat.reduceEqDiff, ↓reduceIte, forall_const, Int.cast_ofNat_Int, Int.reduceToNat, TF83, KL83]; (try simp (disch := omega) only [wrapI, tmodI, tdivI]); (fail_if_success (with_reducible show False))))
  refine Run_loopV [3, 4, 9] (σ := Nat) (fun k => [(4, some (.int .i64 k)), (3, some (.int .i64 (Tt.sm (x.Legs.take k))))]) (fun k w' => k ≤ x.Legs.length ∧ Ext w1 w') (fun k => x.Legs.length - k) 0 (by simp [SubB, fnd, Tt.sm]) ⟨by omega, Ext.refl _⟩ ?_
  rintro k w3 ⟨hk, x3⟩
  have y3 := x1.trans x3
  have g3 := G w3 x3
  (repeat first | with_reducible first | refine jq ?_ | refine jk ?_ | refine jc ?_ | refine jl ?_ | refine jb ?_ | refine jo ?_ | refine ji ?_ | refine jx rfl ?_ | refine And.intro (by first | assumption | omega | (intros; omega)) ?_ | ((first | refine jR KL83 (by kernel_rfl) fun _ => ?_ | skip); simp only [KS, Nat.reduceAdd, Nat.reduceMul, Nat.reduceEqDiff, ↓reduceIte, forall_const, Int.cast_ofNat_Int, Int.reduceToNat, TF83, KL83, g3, hR.l.s, hR.l.len]; (try simp (disch := omega) only [wrapI, tmodI, tdivI]); (fail_if_success (with_reducible show False))))
  refine Run_condS (fun _ => rfl) (fun h => ?_) (fun h => ?_)
  · simp at h
    obtain ⟨f1, f2, f3⟩ := (hR.l.ext y3).get h
    have b1 := hbd k (by omega)
    have b2 := hbd (k + 1) (by omega)
    have e1 := Tt.sm_take x.Legs k h
    (repeat first | with_reducible first | refine jq ?_ | refine jk ?_ | refine jc ?_ | refine jl ?_ | refine jb ?_ | refine jo ?_ | refine ji ?_ | refine jx rfl ?_ | refine And.intro (by first | assumption | omega | (intros; omega)) ?_ | ((first | refine jR KL83 (by kernel_rfl) fun _ => ?_ | skip); simp only [KS, Nat.reduceAdd, Nat.reduceMul, Nat.reduceEqDiff, ↓reduceIte, forall_const, Int.cast_ofNat_Int, Int.reduceToNat, TF83, KL83, g3, hR.l.s, hR.l.len, f1, f2]; (try simp (disch := omega) only [wrapI, tmodI, tdivI]); (fail_if_success (with_reducible show False))))
    refine Run_lp ⟨k + 1, ?_, ⟨by omega, x3⟩, by omega⟩
    rw [e1]
    simp [SubB, fnd, strike, has]
  · simp at h
    obtain rfl : k = x.Legs.length := by omega
    rw [List.take_length]
    (repeat first | with_reducible first | refine jq ?_ | refine jk ?_ | refine jc ?_ | refine jl ?_ | refine jb ?_ | refine jo ?_ | refine ji ?_ | refine jx rfl ?_ | refine And.intro (by first | assumption | omega | (intros; omega)) ?_ | ((first | refine jR KL83 (by kernel_rfl) fun _ => ?_ | skip); simp only [KS, Nat.reduceAdd, Nat.reduceMul, Nat.reduceEqDiff, ↓reduceIte, forall_const, Int.cast_ofNat_Int, Int.reduceToNat, TF83, KL83]; (try simp (disch := omega) only [wrapI, tmodI, tdivI]); (fail_if_success (with_reducible show False))))
    refine Run_ret ?_
    simp [Rets, RetM, resV, fnd, oneOr, y3, Tt.leng]
theorem rfBefore (a b : RunD) (w : World) : Calls Try.prog 61 #[.agg a.cs.toArray, .agg b.cs.toArray] w fun e w' => e = .returned (.bool (Tt.before a b)) ∧ Ext w w' := by
  refine Calls_of_Run (args := [.agg a.cs.toArray, .agg b.cs.toArray]) (n := 24) (rs := [.tmp 4]) Try.func61 rfl rfl rfl (by simp) ?_
  (repeat first | with_reducible first | refine jq ?_ | refine jk ?_ | refine jc ?_ | refine jl ?_ | refine jb ?_ | refine jo ?_ | refine ji ?_ | refine jx rfl ?_ | refine And.intro (by first | assumption | omega | (intros; omega)) ?_ | ((first | refine jR KL61 (by kernel_rfl) fun _ => ?_ | skip); simp only [KS, Nat.reduceAdd, Nat.reduceMul, Nat.reduceEqDiff, ↓reduceIte, forall_const, Int.cast_ofNat_Int, Int.reduceToNat, TF61, KL61]; (try simp (disch := omega) only [wrapI, tmodI, tdivI]); (fail_if_success (with_reducible show False))))
  refine SemW_box fun p w1 hN => SemW_box fun q w2 hQ => ?_
  have g1 := (hN.at_.ext hQ.ext).n
  have g2 := hQ.at_.n
  simp only [RunD.cs, AtN, KS, Nat.reduceAdd, Nat.reduceMul, Nat.reduceEqDiff, ↓reduceIte, UT] at g1 g2
  (repeat first | with_reducible first | refine jq ?_ | refine jk ?_ | refine jc ?_ | refine jl ?_ | refine jb ?_ | refine jo ?_ | refine ji ?_ | refine jx rfl ?_ | refine And.intro (by first | assumption | omega | (intros; omega)) ?_ | ((first | refine jR KL61 (by kernel_rfl) fun _ => ?_ | skip); simp only [KS, Nat.reduceAdd, Nat.reduceMul, Nat.reduceEqDiff, ↓reduceIte, forall_const, Int.cast_ofNat_Int, Int.reduceToNat, TF61, KL61, g1, g2]; (try simp (disch := omega) only [wrapI, tmodI, tdivI]); (fail_if_success (with_reducible show False))))
  refine Run_ret ?_
  simp [Rets, RetM, resV, fnd, oneOr]
  refine ⟨?_, hN.ext.trans hQ.ext⟩
  rw [Bool.eq_iff_iff]; simp [Tt.before]
theorem chk20W {vl : Value} {t : TimeD} {w : World} {e : Int} {K : Value → World → Prop} (h : Tt.chk t = e) (hl : Sl w vl t.Lines) (hK : ∀ w', Ext w w' → K (.int .i64 e) w') : CallW Try.prog (.func (.func 27) #[] #[]) [.agg #[.int .i64 t.Offices, vl]] w K := by
  subst h; exact CallW_pure call27 (rfCheck20 vl t w hl) hK
theorem rfIs (vl : Value) (t : TimeD) (r : RunD) (w : World) (hl : Sl w vl t.Lines) (hr : RunI r) :
    Calls Try.prog 60 #[.agg (t.cs vl).toArray, .agg r.cs.toArray] w fun e w' => e = .returned (.bool (Tt.isRun t r)) ∧ Ext w w' := by
  have hn := hl.small
  have hlen := hl.len
  refine Calls_of_Run (args := [.agg (t.cs vl).toArray, .agg r.cs.toArray]) (n := 60) (rs := [.tmp 4]) Try.func60 rfl rfl rfl (by simp) ?_
  (repeat first | with_reducible first | refine jq ?_ | refine jk ?_ | refine jc ?_ | refine jl ?_ | refine jb ?_ | refine jo ?_ | refine ji ?_ | refine jx rfl ?_ | refine And.intro (by first | assumption | omega | (intros; omega)) ?_ | ((first | refine jR KL60 (by kernel_rfl) fun _ => ?_ | refine jD (id := 4) KL60 mixed (by kernel_rfl) (by kernel_rfl) fun _ => ?_ | skip); simp only [KS, Nat.reduceAdd, Nat.reduceMul, Nat.reduceEqDiff, ↓reduceIte, forall_const, Int.cast_ofNat_Int, Int.reduceToNat, TF60, KL60]; (try simp (disch := omega) only [wrapI, tmodI, tdivI]); (fail_if_success (with_reducible show False))))
  refine SemW_box fun p w1 hN => SemW_box fun q w2 hQ => ?_
  have x2 := hN.ext.trans hQ.ext
  have G : ∀ w', Ext w2 w' → AtN w' p 0 (t.cs vl) := fun w' x => (hN.at_.ext (hQ.ext.trans x)).n
  have G' : ∀ w', Ext w2 w' → AtN w' q 0 r.cs := fun w' x => (hQ.at_.ext x).n
  simp only [TimeD.cs, RunD.cs, AtN, KS, Nat.reduceAdd, Nat.reduceMul, Nat.reduceEqDiff, ↓reduceIte, UT] at G G'
  have g2 := G w2 (Ext.refl _)
  (repeat first | with_reducible first | refine jq ?_ | refine jk ?_ | refine jc ?_ | refine jl ?_ | refine jb ?_ | refine jo ?_ | refine ji ?_ | refine jx rfl ?_ | refine And.intro (by first | assumption | omega | (intros; omega)) ?_ | ((first | refine jR KL60 (by kernel_rfl) fun _ => ?_ | refine jD (id := 4) KL60 mixed (by kernel_rfl) (by kernel_rfl) fun _ => ?_ | skip); simp only [KS, Nat.reduceAdd, Nat.reduceMul, Nat.reduceEqDiff, ↓reduceIte, forall_const, Int.cast_ofNat_Int, Int.reduceToNat, TF60, KL60, g2]; (try simp (disch := omega) only [wrapI, tmodI, tdivI]); (fail_if_success (with_reducible show False))))
  refine chk20W rfl (hl.ext x2) fun w3 x3 => ?_
  have y3 := x2.trans x3
  have g3 := G w3 x3
  have k3 := G' w3 x3
  (repeat first | with_reducible first | refine jq ?_ | refine jk ?_ | refine jc ?_ | refine jl ?_ | refine jb ?_ | refine jo ?_ | refine ji ?_ | refine jx rfl ?_ | refine And.intro (by first | assumption | omega | (intros; omega)) ?_ | ((first | refine jR KL60 (by kernel_rfl) fun _ => ?_ | refine jD (id := 4) KL60 mixed (by kernel_rfl) (by kernel_rfl) fun _ => ?_ | skip); simp only [KS, Nat.reduceAdd, Nat.reduceMul, Nat.reduceEqDiff, ↓reduceIte, forall_const, Int.cast_ofNat_Int, Int.reduceToNat, TF60, KL60, g3, k3, hl.s, hl.len]; (try simp (disch := omega) only [wrapI, tmodI, tdivI]); (fail_if_success (with_reducible show False))))
  refine Run_condS (fun _ => rfl) (fun h => ?_) (fun h => ?_)
  · (repeat first | with_reducible first | refine jq ?_ | refine jk ?_ | refine jc ?_ | refine jl ?_ | refine jb ?_ | refine jo ?_ | refine ji ?_ | refine jx rfl ?_ | refine And.intro (by first | assumption | omega | (intros; omega)) ?_ | ((first | refine jR KL60 (by kernel_rfl) fun _ => ?_ | refine jD (id := 4) KL60 mixed (by kernel_rfl) (by kernel_rfl) fun _ => ?_ | skip); simp only [KS, Nat.reduceAdd, Nat.reduceMul, Nat.reduceEqDiff, ↓reduceIte, forall_const, Int.cast_ofNat_Int, Int.reduceToNat, TF60, KL60]; (try simp (disch := omega) only [wrapI, tmodI, tdivI]); (fail_if_success (with_reducible show False))))
    refine Run_ret ?_
    have : Tt.isRun t r = false := by
      simp at h
      simp only [Tt.isRun, Tt.isR]
      by_cases hc : Tt.chk t = 0
      · rw [Bool.and_eq_false_iff]; right
        rw [Bool.and_eq_false_iff]; left
        simp; omega
      · simp [hc]
    simp [Rets, RetM, resV, fnd, oneOr, this, y3]
  · simp at h
    have hc : Tt.chk t = 0 := by omega
    have ht := Tt.chk_ok hc
    have hlt : r.Line.toNat < t.Lines.length := by omega
    obtain ⟨v0, v1, v2, v3, f1, f2, hR⟩ := (hl.ext y3).line hlt
    simp only [LineD.cs, AtN, KS, Nat.reduceAdd, Nat.reduceMul, Nat.reduceEqDiff, ↓reduceIte, UT] at f1
    have hone := hR.one
    simp only [LineD.cs] at hone
    have hgd : t.Lines.getD r.Line.toNat default = t.Lines[r.Line.toNat] := by simp [List.getD_eq_getElem?_getD, hlt]
    have hxo := Tt.right_ok (ht.r _ (List.getElem_mem hlt))
    have hxc := Cal.chk_ok (ht.c _ (List.getElem_mem hlt))
    have hres : Tt.isRun t r = (decide (0 ≤ r.At ∧ r.At < 2097152) && (Cal.departs (t.Lines.getD r.Line.toNat default).Rules (t.Lines.getD r.Line.toNat default).Off r.At && decide (r.Arrive = r.At + Tt.leng (t.Lines.getD r.Line.toNat default) ∧ r.Arrive < 2097152))) := by
      unfold Tt.isRun Tt.isR
      rw [decide_eq_true hc, Bool.true_and, show decide (0 ≤ r.Line ∧ r.Line < t.Lines.length ∧ 0 ≤ r.At ∧ r.At < 2097152) = decide (0 ≤ r.At ∧ r.At < 2097152) by rw [Bool.eq_iff_iff]; simp; omega]
    rw [hgd] at hres
    generalize hxx : t.Lines[r.Line.toNat] = x at *
    (repeat first | with_reducible first | refine jq ?_ | refine jk ?_ | refine jc ?_ | refine jl ?_ | refine jb ?_ | refine jo ?_ | refine ji ?_ | refine jx rfl ?_ | refine And.intro (by first | assumption | omega | (intros; omega)) ?_ | ((first | refine jR KL60 (by kernel_rfl) fun _ => ?_ | refine jD (id := 4) KL60 mixed (by kernel_rfl) (by kernel_rfl) fun _ => ?_ | skip); simp only [KS, Nat.reduceAdd, Nat.reduceMul, Nat.reduceEqDiff, ↓reduceIte, forall_const, Int.cast_ofNat_Int, Int.reduceToNat, TF60, KL60, g3, k3, hl.s, hl.len, f1]; (try simp (disch := omega) only [wrapI, tmodI, tdivI]); (fail_if_success (with_reducible show False))))
    refine SemW_var ti55 rfl rfl (by decide) (by simpa [Value.cells] using hone) fun px w5 h5 => ?_
    have y5 := y3.trans h5.ext
    have q5 := h5.at_.n
    simp only [AtN, KS, Nat.reduceAdd, Nat.reduceMul, Nat.reduceEqDiff, ↓reduceIte, UT] at q5
    have k5 := G' w5 (x3.trans h5.ext)
    have hbd := Tt.sm_bd hxo.l x.Legs.length (Nat.le_refl _)
    rw [List.take_length] at hbd
    have hl9 : x.Legs.length ≤ 8 := by have := hxo.l1; have := hxo.o9; omega
    have hbd2 : 0 ≤ Tt.leng x ∧ Tt.leng x ≤ 800000 := by unfold Tt.leng; omega
    by_cases hat : 0 ≤ r.At ∧ r.At < 2097152
    · have hd : (decide (0 ≤ r.At) && decide (r.At < 2097152)) = true := by simp; omega
      (repeat first | with_reducible first | refine jq ?_ | refine jk ?_ | refine jc ?_ | refine jl ?_ | refine jb ?_ | refine jo ?_ | refine ji ?_ | refine jx rfl ?_ | refine And.intro (by first | assumption | omega | (intros; omega)) ?_ | ((first | refine jR KL60 (by kernel_rfl) fun _ => ?_ | refine jD (id := 4) KL60 mixed (by kernel_rfl) (by kernel_rfl) fun _ => ?_ | skip); simp only [KS, Nat.reduceAdd, Nat.reduceMul, Nat.reduceEqDiff, ↓reduceIte, forall_const, Int.cast_ofNat_Int, Int.reduceToNat, TF60, KL60, k5, q5, hd, pk_true, pk_false, false_or, or_false, false_imp_iff, true_imp_iff, not_true_eq_false, not_false_eq_true, Bool.true_or, Bool.false_or, Bool.or_true, Bool.or_false, Bool.true_and, Bool.false_and, Bool.and_true, Bool.and_false]; (try simp (disch := omega) only [wrapI, tmodI, tdivI]); (fail_if_success (with_reducible show False))))
      refine ⟨.bool (Cal.departs x.Rules x.Off r.At), PC_pure call82 fun w6 x6 => refDeparts v2 v3 x.Rules x.Off r.At w6 (hR.r.ext (h5.ext.trans x6)) (hR.g.ext (h5.ext.trans x6)) hxc (by omega) (by omega), ?_⟩
      refine ⟨.int .i64 (Tt.leng x), fun _ => PC_pure call83 fun w6 x6 => rfLength x v0 v1 v2 v3 w6 (hR.ext (h5.ext.trans x6)) t.Offices hxo, (fun _ => rfl), rfl, fun w6 x6 => ?_⟩
      have y6 := y5.trans x6
      simp only [bOf_mk, iOf_mk]
      rw [wrapI (by omega) (by omega)]
      refine Run_ret ?_
      simp only [Rets, RetM, resV, fnd, oneOr, ↓reduceIte]
      refine ⟨_, rfl, ?_, y6⟩
      rw [hres, decide_eq_true hat]
      congr 2
      rw [Bool.eq_iff_iff]; simp [and_assoc]
    · have hd : (decide (0 ≤ r.At) && decide (r.At < 2097152)) = false := by simp; omega
      (repeat first | with_reducible first | refine jq ?_ | refine jk ?_ | refine jc ?_ | refine jl ?_ | refine jb ?_ | refine jo ?_ | refine ji ?_ | refine jx rfl ?_ | refine And.intro (by first | assumption | omega | (intros; omega)) ?_ | ((first | refine jR KL60 (by kernel_rfl) fun _ => ?_ | refine jD (id := 4) KL60 mixed (by kernel_rfl) (by kernel_rfl) fun _ => ?_ | skip); simp only [KS, Nat.reduceAdd, Nat.reduceMul, Nat.reduceEqDiff, ↓reduceIte, forall_const, Int.cast_ofNat_Int, Int.reduceToNat, TF60, KL60, k5, q5, hd, pk_true, pk_false, false_or, or_false, false_imp_iff, true_imp_iff, not_true_eq_false, not_false_eq_true, Bool.true_or, Bool.false_or, Bool.or_true, Bool.or_false, Bool.true_and, Bool.false_and, Bool.and_true, Bool.and_false]; (try simp (disch := omega) only [wrapI, tmodI, tdivI]); (fail_if_success (with_reducible show False))))
      refine ⟨undef, undef, fun w6 x6 => ?_⟩
      refine Run_ret ?_
      simp only [Rets, RetM, resV, fnd, oneOr, ↓reduceIte]
      refine ⟨_, rfl, ?_, y5.trans x6⟩
      rw [hres, decide_eq_false hat, Bool.false_and]
theorem momW {va vb : Value} {rules : List Rule} {off : List Gap} {a b : Int} {w : World} {K : Value → World → Prop} (hx : Sl w va rules) (hy : Sl w vb off) (hK : ∀ v w', Ext w w' → Sl w' v (Cal.moments rules off a b).1 → K (.tuple #[v, .int .i64 (Cal.moments rules off a b).2]) w') :
    CallW Try.prog (.func (.func 40) #[] #[]) [va, vb, .int .i64 a, .int .i64 b] w K :=
  CallW_gen call40 (refMoments va vb rules off a b w hx hy) fun e w' ⟨v, he, x, hs⟩ => ⟨_, he, hK v w' x hs⟩
/-- are there few lines and runs? -/
def few20 (t : TimeD) (a b : Int) : Bool :=
  if 6 < t.Lines.length then decide (64 < t.Lines.length ∧ t.Lines.length ≤ 100)
  else t.Lines.all (fun x => decide (x.Offices.length ≤ 20 ∧ x.Legs.length ≤ 20 ∧ x.Rules.length ≤ 20 ∧ x.Off.length ≤ 70)) &&
    (if Tt.chk t ≠ 0 ∨ a < 0 ∨ b < a ∨ 2097152 < b then true else t.Lines.all fun x => decide (¬ ((Cal.moments x.Rules x.Off a b).2 = 0 ∧ 30 < (Cal.moments x.Rules x.Off a b).1.length)))
theorem rfFew20 (vl : Value) (t : TimeD) (a b : Int) (w : World) (hl : Sl w vl t.Lines) :
    Calls Try.prog 21 #[.agg (t.cs vl).toArray, .int .i64 a, .int .i64 b] w fun e w' => e = .returned (.bool (few20 t a b)) ∧ Ext w w' := by
  have hn := hl.small
  have hlen := hl.len
  refine Calls_of_Run (args := [.agg (t.cs vl).toArray, .int .i64 a, .int .i64 b]) (n := 108) (rs := [.tmp 6]) Try.func21 rfl rfl rfl (by simp) ?_
  (repeat first | with_reducible first | refine jq ?_ | refine jk ?_ | refine jc ?_ | refine jl ?_ | refine jb ?_ | refine jo ?_ | refine ji ?_ | refine jx rfl ?_ | refine And.intro (by first | assumption | omega | (intros; omega)) ?_ | ((first | refine jR KL21 (by kernel_rfl) fun _ => ?_ | refine jD (id := 14) KL21 mixed (by kernel_rfl) (by kernel_rfl) fun _ => ?_ | skip); simp only [KS, Nat.reduceAdd, Nat.reduceMul, Nat.reduceEqDiff, ↓reduceIte, forall_const, Int.cast_ofNat_Int, Int.reduceToNat, TF21, KL21]; (try simp (disch := omega) only [wrapI, tmodI, tdivI]); (fail_if_success (with_reducible show False))))
  refine SemW_box fun p w1 hN => ?_
  have x1 := hN.ext
  have G : ∀ w', Ext w1 w' → AtN w' p 0 (t.cs vl) := fun w' x => (hN.at_.ext x).n
  simp only [TimeD.cs, AtN, KS, Nat.reduceAdd, Nat.reduceMul, Nat.reduceEqDiff, ↓reduceIte, UT] at G
  have g1 := G w1 (Ext.refl _)
  (repeat first | with_reducible first | refine jq ?_ | refine jk ?_ | refine jc ?_ | refine jl ?_ | refine jb ?_ | refine jo ?_ | refine ji ?_ | refine jx rfl ?_ | refine And.intro (by first | assumption | omega | (intros; omega)) ?_ | ((first | refine jR KL21 (by kernel_rfl) fun _ => ?_ | refine jD (id := 14) KL21 mixed (by kernel_rfl) (by kernel_rfl) fun _ => ?_ | skip); simp only [KS, Nat.reduceAdd, Nat.reduceMul, Nat.reduceEqDiff, ↓reduceIte, forall_const, Int.cast_ofNat_Int, Int.reduceToNat, TF21, KL21, g1, hl.s, hl.len]; (try simp (disch := omega) only [wrapI, tmodI, tdivI]); (fail_if_success (with_reducible show False))))
  refine Run_condS (fun _ => rfl) (fun h => ?_) (fun h => ?_)
  · simp at h
    (repeat first | with_reducible first | refine jq ?_ | refine jk ?_ | refine jc ?_ | refine jl ?_ | refine jb ?_ | refine jo ?_ | refine ji ?_ | refine jx rfl ?_ | refine And.intro (by first | assumption | omega | (intros; omega)) ?_ | ((first | refine jR KL21 (by kernel_rfl) fun _ => ?_ | refine jD (id := 14) KL21 mixed (by kernel_rfl) (by kernel_rfl) fun _ => ?_ | skip); simp only [KS, Nat.reduceAdd, Nat.reduceMul, Nat.reduceEqDiff, ↓reduceIte, forall_const, Int.cast_ofNat_Int, Int.reduceToNat, TF21, KL21, g1, hl.s, hl.len]; (try simp (disch := omega) only [wrapI, tmodI, tdivI]); (fail_if_success (with_reducible show False))))
    refine Run_ret ?_
    simp [Rets, RetM, resV, fnd, oneOr, few20, x1]
    rw [if_pos (by omega), Bool.eq_iff_iff]; simp; omega
  simp at h
  have h6 : ¬ 6 < t.Lines.length := by omega
  (repeat first | with_reducible first | refine jq ?_ | refine jk ?_ | refine jc ?_ | refine jl ?_ | refine jb ?_ | refine jo ?_ | refine ji ?_ | refine jx rfl ?_ | refine And.intro (by first | assumption | omega | (intros; omega)) ?_ | ((first | refine jR KL21 (by kernel_rfl) fun _ => ?_ | refine jD (id := 14) KL21 mixed (by kernel_rfl) (by kernel_rfl) fun _ => ?_ | skip); simp only [KS, Nat.reduceAdd, Nat.reduceMul, Nat.reduceEqDiff, ↓reduceIte, forall_const, Int.cast_ofNat_Int, Int.reduceToNat, TF21, KL21]; (try simp (disch := omega) only [wrapI, tmodI, tdivI]); (fail_if_success (with_reducible show False))))
  refine Run_loopV [6, 7, 8, 30, 59] (σ := Nat) (fun k => [(7, some (.int .i64 k))]) (fun k w' => k ≤ t.Lines.length ∧ (∀ j (h : j < t.Lines.length), j < k → (t.Lines[j].Offices.length ≤ 20 ∧ t.Lines[j].Legs.length ≤ 20 ∧ t.Lines[j].Rules.length ≤ 20 ∧ t.Lines[j].Off.length ≤ 70)) ∧ Ext w1 w') (fun k => t.Lines.length - k) 0 (by simp [SubB, fnd]) ⟨by omega, by simp, Ext.refl _⟩ ?_
  rintro k w3 ⟨hk, hf, x3⟩
  have y3 := x1.trans x3
  have g3 := G w3 x3
  (repeat first | with_reducible first | refine jq ?_ | refine jk ?_ | refine jc ?_ | refine jl ?_ | refine jb ?_ | refine jo ?_ | refine ji ?_ | refine jx rfl ?_ | refine And.intro (by first | assumption | omega | (intros; omega)) ?_ | ((first | refine jR KL21 (by kernel_rfl) fun _ => ?_ | refine jD (id := 14) KL21 mixed (by kernel_rfl) (by kernel_rfl) fun _ => ?_ | skip); simp only [KS, Nat.reduceAdd, Nat.reduceMul, Nat.reduceEqDiff, ↓reduceIte, forall_const, Int.cast_ofNat_Int, Int.reduceToNat, TF21, KL21, g3, hl.s, hl.len]; (try simp (disch := omega) only [wrapI, tmodI, tdivI]); (fail_if_success (with_reducible show False))))
  refine Run_condS (fun _ => rfl) (fun h => ?_) (fun h => ?_)
  · simp at h
    have hkl := h
    obtain ⟨v0, v1, v2, v3, f1, f2, hR⟩ := (hl.ext y3).line hkl
    simp only [LineD.cs, AtN, KS, Nat.reduceAdd, Nat.reduceMul, Nat.reduceEqDiff, ↓reduceIte, UT] at f1
    have hone := hR.one
    simp only [LineD.cs] at hone
    have hmem := List.getElem_mem hkl
    generalize hxx : t.Lines[k] = x at *
    (repeat first | with_reducible first | refine jq ?_ | refine jk ?_ | refine jc ?_ | refine jl ?_ | refine jb ?_ | refine jo ?_ | refine ji ?_ | refine jx rfl ?_ | refine And.intro (by first | assumption | omega | (intros; omega)) ?_ | ((first | refine jR KL21 (by kernel_rfl) fun _ => ?_ | refine jD (id := 14) KL21 mixed (by kernel_rfl) (by kernel_rfl) fun _ => ?_ | skip); simp only [KS, Nat.reduceAdd, Nat.reduceMul, Nat.reduceEqDiff, ↓reduceIte, forall_const, Int.cast_ofNat_Int, Int.reduceToNat, TF21, KL21, hl.s, hl.len, f1, g3]; (try simp (disch := omega) only [wrapI, tmodI, tdivI]); (fail_if_success (with_reducible show False))))
    refine SemW_var ti55 rfl rfl (by decide) (by simpa [Value.cells] using hone) fun px w4 h4 => ?_
    have q4 := h4.at_.n
    simp only [AtN, KS, Nat.reduceAdd, Nat.reduceMul, Nat.reduceEqDiff, ↓reduceIte, UT] at q4
    (repeat first | with_reducible first | refine jq ?_ | refine jk ?_ | refine jc ?_ | refine jl ?_ | refine jb ?_ | refine jo ?_ | refine ji ?_ | refine jx rfl ?_ | refine And.intro (by first | assumption | omega | (intros; omega)) ?_ | ((first | refine jR KL21 (by kernel_rfl) fun _ => ?_ | refine jD (id := 14) KL21 mixed (by kernel_rfl) (by kernel_rfl) fun _ => ?_ | skip); simp only [KS, Nat.reduceAdd, Nat.reduceMul, Nat.reduceEqDiff, ↓reduceIte, forall_const, Int.cast_ofNat_Int, Int.reduceToNat, TF21, KL21, q4, hR.o.s, hR.o.len, hR.l.s, hR.l.len, hR.r.s, hR.r.len, hR.g.s, hR.g.len]; (try simp (disch := omega) only [wrapI, tmodI, tdivI]); (fail_if_success (with_reducible show False))))
    refine Run_condS (fun _ => rfl) (fun h => ?_) (fun h => ?_)
    · (repeat first | with_reducible first | refine jq ?_ | refine jk ?_ | refine jc ?_ | refine jl ?_ | refine jb ?_ | refine jo ?_ | refine ji ?_ | refine jx rfl ?_ | refine And.intro (by first | assumption | omega | (intros; omega)) ?_ | ((first | refine jR KL21 (by kernel_rfl) fun _ => ?_ | refine jD (id := 14) KL21 mixed (by kernel_rfl) (by kernel_rfl) fun _ => ?_ | skip); simp only [KS, Nat.reduceAdd, Nat.reduceMul, Nat.reduceEqDiff, ↓reduceIte, forall_const, Int.cast_ofNat_Int, Int.reduceToNat, TF21, KL21]; (try simp (disch := omega) only [wrapI, tmodI, tdivI]); (fail_if_success (with_reducible show False))))
      refine Run_ret ?_
      have : few20 t a b = false := by
        unfold few20
        rw [if_neg h6, Bool.and_eq_false_iff]; left
        rw [List.all_eq_false]
        refine ⟨x, hmem, ?_⟩
        simp at h ⊢; omega
      simp [Rets, RetM, resV, fnd, oneOr, this]
      exact y3.trans h4.ext
    · simp at h
      (repeat first | with_reducible first | refine jq ?_ | refine jk ?_ | refine jc ?_ | refine jl ?_ | refine jb ?_ | refine jo ?_ | refine ji ?_ | refine jx rfl ?_ | refine And.intro (by first | assumption | omega | (intros; omega)) ?_ | ((first | refine jR KL21 (by kernel_rfl) fun _ => ?_ | refine jD (id := 14) KL21 mixed (by kernel_rfl) (by kernel_rfl) fun _ => ?_ | skip); simp only [KS, Nat.reduceAdd, Nat.reduceMul, Nat.reduceEqDiff, ↓reduceIte, forall_const, Int.cast_ofNat_Int, Int.reduceToNat, TF21, KL21]; (try simp (disch := omega) only [wrapI, tmodI, tdivI]); (fail_if_success (with_reducible show False))))
      have hb : x.Offices.length ≤ 20 ∧ x.Legs.length ≤ 20 ∧ x.Rules.length ≤ 20 ∧ x.Off.length ≤ 70 := by omega
      refine Run_lp ⟨k + 1, ?_, ⟨by omega, fun j hj hjk => ?_, x3.trans h4.ext⟩, by omega⟩
      · simp [SubB, fnd, strike, has]
      · by_cases e : j = k
        · subst e; rw [hxx]; exact hb
        · exact hf j hj (by omega)
  simp at h
  obtain rfl : k = t.Lines.length := by omega
  have hall : t.Lines.all (fun x => decide (x.Offices.length ≤ 20 ∧ x.Legs.length ≤ 20 ∧ x.Rules.length ≤ 20 ∧ x.Off.length ≤ 70)) = true := List.all_eq_true.2 fun x hx => by
    obtain ⟨j, hj, rfl⟩ := List.getElem_of_mem hx
    exact decide_eq_true (hf j hj hj)
  have hres : few20 t a b = (if Tt.chk t ≠ 0 ∨ a < 0 ∨ b < a ∨ 2097152 < b then true else t.Lines.all fun x => decide (¬ ((Cal.moments x.Rules x.Off a b).2 = 0 ∧ 30 < (Cal.moments x.Rules x.Off a b).1.length))) := by
    unfold few20
    rw [if_neg h6, hall, Bool.true_and]
  (repeat first | with_reducible first | refine jq ?_ | refine jk ?_ | refine jc ?_ | refine jl ?_ | refine jb ?_ | refine jo ?_ | refine ji ?_ | refine jx rfl ?_ | refine And.intro (by first | assumption | omega | (intros; omega)) ?_ | ((first | refine jR KL21 (by kernel_rfl) fun _ => ?_ | refine jD (id := 14) KL21 mixed (by kernel_rfl) (by kernel_rfl) fun _ => ?_ | skip); simp only [KS, Nat.reduceAdd, Nat.reduceMul, Nat.reduceEqDiff, ↓reduceIte, forall_const, Int.cast_ofNat_Int, Int.reduceToNat, TF21, KL21, g3]; (try simp (disch := omega) only [wrapI, tmodI, tdivI]); (fail_if_success (with_reducible show False))))
  refine chk20W rfl (hl.ext y3) fun w4 x4 => ?_
  have y4 := y3.trans x4
  (repeat first | with_reducible first | refine jq ?_ | refine jk ?_ | refine jc ?_ | refine jl ?_ | refine jb ?_ | refine jo ?_ | refine ji ?_ | refine jx rfl ?_ | refine And.intro (by first | assumption | omega | (intros; omega)) ?_ | ((first | refine jR KL21 (by kernel_rfl) fun _ => ?_ | refine jD (id := 14) KL21 mixed (by kernel_rfl) (by kernel_rfl) fun _ => ?_ | skip); simp only [KS, Nat.reduceAdd, Nat.reduceMul, Nat.reduceEqDiff, ↓reduceIte, forall_const, Int.cast_ofNat_Int, Int.reduceToNat, TF21, KL21]; (try simp (disch := omega) only [wrapI, tmodI, tdivI]); (fail_if_success (with_reducible show False))))
  refine Run_condS (fun _ => rfl) (fun h => ?_) (fun h => ?_)
  · (repeat first | with_reducible first | refine jq ?_ | refine jk ?_ | refine jc ?_ | refine jl ?_ | refine jb ?_ | refine jo ?_ | refine ji ?_ | refine jx rfl ?_ | refine And.intro (by first | assumption | omega | (intros; omega)) ?_ | ((first | refine jR KL21 (by kernel_rfl) fun _ => ?_ | refine jD (id := 14) KL21 mixed (by kernel_rfl) (by kernel_rfl) fun _ => ?_ | skip); simp only [KS, Nat.reduceAdd, Nat.reduceMul, Nat.reduceEqDiff, ↓reduceIte, forall_const, Int.cast_ofNat_Int, Int.reduceToNat, TF21, KL21]; (try simp (disch := omega) only [wrapI, tmodI, tdivI]); (fail_if_success (with_reducible show False))))
    refine Run_ret ?_
    simp at h
    rw [if_pos (by omega)] at hres
    simp [Rets, RetM, resV, fnd, oneOr, hres, y4]
  · simp at h
    rw [if_neg (by omega)] at hres
    (repeat first | with_reducible first | refine jq ?_ | refine jk ?_ | refine jc ?_ | refine jl ?_ | refine jb ?_ | refine jo ?_ | refine ji ?_ | refine jx rfl ?_ | refine And.intro (by first | assumption | omega | (intros; omega)) ?_ | ((first | refine jR KL21 (by kernel_rfl) fun _ => ?_ | refine jD (id := 14) KL21 mixed (by kernel_rfl) (by kernel_rfl) fun _ => ?_ | skip); simp only [KS, Nat.reduceAdd, Nat.reduceMul, Nat.reduceEqDiff, ↓reduceIte, forall_const, Int.cast_ofNat_Int, Int.reduceToNat, TF21, KL21]; (try simp (disch := omega) only [wrapI, tmodI, tdivI]); (fail_if_success (with_reducible show False))))
    refine Run_loopV [6, 9, 10, 11, 80, 107] (σ := Nat) (fun k => [(9, some (.int .i64 k))]) (fun k w' => k ≤ t.Lines.length ∧ (∀ j (h : j < t.Lines.length), j < k → ¬ ((Cal.moments t.Lines[j].Rules t.Lines[j].Off a b).2 = 0 ∧ 30 < (Cal.moments t.Lines[j].Rules t.Lines[j].Off a b).1.length)) ∧ Ext w1 w') (fun k => t.Lines.length - k) 0 (by simp [SubB, fnd]) ⟨by omega, by simp, x3.trans x4⟩ ?_
    rintro k w5 ⟨hk, hf, x5⟩
    have y5 := x1.trans x5
    have g5 := G w5 x5
    (repeat first | with_reducible first | refine jq ?_ | refine jk ?_ | refine jc ?_ | refine jl ?_ | refine jb ?_ | refine jo ?_ | refine ji ?_ | refine jx rfl ?_ | refine And.intro (by first | assumption | omega | (intros; omega)) ?_ | ((first | refine jR KL21 (by kernel_rfl) fun _ => ?_ | refine jD (id := 14) KL21 mixed (by kernel_rfl) (by kernel_rfl) fun _ => ?_ | skip); simp only [KS, Nat.reduceAdd, Nat.reduceMul, Nat.reduceEqDiff, ↓reduceIte, forall_const, Int.cast_ofNat_Int, Int.reduceToNat, TF21, KL21, g5, hl.s, hl.len]; (try simp (disch := omega) only [wrapI, tmodI, tdivI]); (fail_if_success (with_reducible show False))))
    refine Run_condS (fun _ => rfl) (fun h => ?_) (fun h => ?_)
    · simp at h
      have hkl := h
      obtain ⟨v0, v1, v2, v3, f1, f2, hR⟩ := (hl.ext y5).line hkl
      have F : ∀ w', Ext w5 w' → AtN w' ((slAt vl).add (k * 6)) 0 (t.Lines[k].cs v0 v1 v2 v3) := fun w' x => (f2.ext x).n
      have hmem := List.getElem_mem hkl
      generalize hxx : t.Lines[k] = x at *
      simp only [LineD.cs, AtN, KS, Nat.reduceAdd, Nat.reduceMul, Nat.reduceEqDiff, ↓reduceIte, UT] at f1 F
      (repeat with_reducible first | refine jq ?_ | refine jk ?_ | refine jc ?_ | refine jl ?_ | refine jb ?_ | refine jo ?_ | refine ji ?_ | refine jx rfl ?_)
      refine Run_ep (id := 14) [0, 1, 2, 3, 6, 7, 8, 9, 10, 11, 15, 30, 59, 75, 80, 107] (.first 0 (.first 2 (.first 6 (.first 8 (.first 12 (.first 13 (.alt 1 (.first 3 (.first 4 (.alt 5 (.alt 7 (.first 9 (.first 10 (.alt 11 (.alt 14 (.first 15 (.first 16 (.first 17 (.first 18 (.first 19 .done))))) .stop) .stop))) .stop) (.alt 7 (.first 9 (.first 10 (.alt 5 (.alt 11 (.alt 14 (.first 15 (.first 16 (.first 17 (.first 18 (.first 19 .done))))) .stop) .stop) (.alt 11 (.alt 5 (.alt 14 (.first 15 (.first 16 (.first 17 (.first 18 (.first 19 .done))))) .stop) .stop) .stop)))) .stop)))) (.alt 7 (.first 9 (.first 10 (.alt 1 (.first 3 (.first 4 (.alt 5 (.alt 11 (.alt 14 (.first 15 (.first 16 (.first 17 (.first 18 (.first 19 .done))))) .stop) .stop) (.alt 11 (.alt 5 (.alt 14 (.first 15 (.first 16 (.first 17 (.first 18 (.first 19 .done))))) .stop) .stop) .stop)))) (.alt 11 (.alt 1 (.first 3 (.first 4 (.alt 5 (.alt 14 (.first 15 (.first 16 (.first 17 (.first 18 (.first 19 .done))))) .stop) .stop))) .stop) .stop)))) .stop)))))))) mixed (by kernel_rfl) (by kernel_rfl) fun w6 x6 _ => ?_
      have F6 := F w6 x6
      have g6 := G w6 (x5.trans x6)
      (try simp only [KS, Nat.reduceAdd, Nat.reduceMul, Nat.reduceEqDiff, ↓reduceIte, forall_const, Int.cast_ofNat_Int, Int.reduceToNat, List.take_succ_cons, List.take_zero, List.drop_succ_cons, List.drop_zero, TF21, KL21, F6, g6, hl.s, hl.len]); (try simp (disch := omega) only [wrapI, tmodI, tdivI])
      repeat' (first | with_reducible refine And.intro ?_ ?_ | omega | (with_reducible refine momW (hR.r.ext x6) (hR.g.ext x6) fun vm w7 x7 s7 => ?_; (try simp only [KS, Nat.reduceAdd, Nat.reduceMul, Nat.reduceEqDiff, ↓reduceIte, forall_const, Int.cast_ofNat_Int, Int.reduceToNat, List.take_succ_cons, List.take_zero, List.drop_succ_cons, List.drop_zero, TF21, KL21]); (try simp (disch := omega) only [wrapI, tmodI, tdivI])))
      all_goals
        have y7 := y5.trans (x6.trans x7)
        (repeat first | with_reducible first | refine jq ?_ | refine jk ?_ | refine jc ?_ | refine jl ?_ | refine jb ?_ | refine jo ?_ | refine ji ?_ | refine jx rfl ?_ | refine And.intro (by first | assumption | omega | (intros; omega)) ?_ | ((first | refine jR KL21 (by kernel_rfl) fun _ => ?_ | refine jD (id := 14) KL21 mixed (by kernel_rfl) (by kernel_rfl) fun _ => ?_ | skip); simp only [KS, Nat.reduceAdd, Nat.reduceMul, Nat.reduceEqDiff, ↓reduceIte, forall_const, Int.cast_ofNat_Int, Int.reduceToNat, TF21, KL21, s7.s, s7.len]; (try simp (disch := omega) only [wrapI, tmodI, tdivI]); (fail_if_success (with_reducible show False))))
        refine Run_condS (fun _ => rfl) (fun h => ?_) (fun h => ?_)
        · (repeat first | with_reducible first | refine jq ?_ | refine jk ?_ | refine jc ?_ | refine jl ?_ | refine jb ?_ | refine jo ?_ | refine ji ?_ | refine jx rfl ?_ | refine And.intro (by first | assumption | omega | (intros; omega)) ?_ | ((first | refine jR KL21 (by kernel_rfl) fun _ => ?_ | refine jD (id := 14) KL21 mixed (by kernel_rfl) (by kernel_rfl) fun _ => ?_ | skip); simp only [KS, Nat.reduceAdd, Nat.reduceMul, Nat.reduceEqDiff, ↓reduceIte, forall_const, Int.cast_ofNat_Int, Int.reduceToNat, TF21, KL21]; (try simp (disch := omega) only [wrapI, tmodI, tdivI]); (fail_if_success (with_reducible show False))))
          refine Run_ret ?_
          have : few20 t a b = false := by
            rw [hres, List.all_eq_false]
            refine ⟨x, hmem, ?_⟩
            simp at h ⊢; omega
          simp [Rets, RetM, resV, fnd, oneOr, this, y7]
        · have hb : ¬ ((Cal.moments x.Rules x.Off a b).2 = 0 ∧ 30 < (Cal.moments x.Rules x.Off a b).1.length) := by
            simp at h; intro hh; have := h hh.1; omega
          (repeat first | with_reducible first | refine jq ?_ | refine jk ?_ | refine jc ?_ | refine jl ?_ | refine jb ?_ | refine jo ?_ | refine ji ?_ | refine jx rfl ?_ | refine And.intro (by first | assumption | omega | (intros; omega)) ?_ | ((first | refine jR KL21 (by kernel_rfl) fun _ => ?_ | refine jD (id := 14) KL21 mixed (by kernel_rfl) (by kernel_rfl) fun _ => ?_ | skip); simp only [KS, Nat.reduceAdd, Nat.reduceMul, Nat.reduceEqDiff, ↓reduceIte, forall_const, Int.cast_ofNat_Int, Int.reduceToNat, TF21, KL21]; (try simp (disch := omega) only [wrapI, tmodI, tdivI]); (fail_if_success (with_reducible show False))))
          refine Run_lp ⟨k + 1, ?_, ⟨by omega, fun j hj hjk => ?_, x5.trans (x6.trans x7)⟩, by omega⟩
          · simp [SubB, fnd, strike, has]
          · by_cases e : j = k
            · subst e; rw [hxx]; exact hb
            · exact hf j hj (by omega)
    · simp at h
      obtain rfl : k = t.Lines.length := by omega
      (repeat first | with_reducible first | refine jq ?_ | refine jk ?_ | refine jc ?_ | refine jl ?_ | refine jb ?_ | refine jo ?_ | refine ji ?_ | refine jx rfl ?_ | refine And.intro (by first | assumption | omega | (intros; omega)) ?_ | ((first | refine jR KL21 (by kernel_rfl) fun _ => ?_ | refine jD (id := 14) KL21 mixed (by kernel_rfl) (by kernel_rfl) fun _ => ?_ | skip); simp only [KS, Nat.reduceAdd, Nat.reduceMul, Nat.reduceEqDiff, ↓reduceIte, forall_const, Int.cast_ofNat_Int, Int.reduceToNat, TF21, KL21]; (try simp (disch := omega) only [wrapI, tmodI, tdivI]); (fail_if_success (with_reducible show False))))
      refine Run_ret ?_
      have : few20 t a b = true := by
        rw [hres, List.all_eq_true]
        intro x hx
        obtain ⟨j, hj, rfl⟩ := List.getElem_of_mem hx
        exact decide_eq_true (hf j hj hj)
      simp [Rets, RetM, resV, fnd, oneOr, this, y5]
end Go.Proofs.Ytcncbmdkifdggaa
