import Derived.Test.YtoadfmgnpmcbfaaGreatQoW39q
import Derived.Test.YtoadfmgnpmcbfaaGreatQoGb
import Derived.Test.YtoadfmgnpmcbfaaGreatQoW22k
/- Chapter 39: Same, Few, the examples. -/
namespace Go.Proofs.YtoadfmgnpmcbfaaGreat
open Go Go.Fk
set_option linter.unusedSimpArgs false
set_option linter.unusedVariables false
set_option maxRecDepth 100000
theorem eqM (a b : MoveD) : (a.No == b.No && (a.From == b.From && (a.To == b.To && (a.Amount == b.Amount && (a.Why == b.Why && (a.Run == b.Run && true)))))) = decide (a = b) := by
  rw [Bool.eq_iff_iff]
  cases a; cases b
  simp
theorem rfSame39 (va vb : Value) (l m : List MoveD) (w : World) (hx : Sl w va l) (hy : Sl w vb m) : Calls Tryz.prog 20 #[va, vb] w fun e w' => e = .returned (.bool (decide (l = m))) ∧ Ext w w' := by
  have hn := hx.small
  refine Calls_of_Run (args := [va, vb]) (n := 26) (rs := [.tmp 4]) Tryz.func20 rfl rfl rfl (by simp) ?_
  (repeat with_reducible first | refine js ?_ | refine ja ?_ | refine jw KL20 [6] (aa TF20 (aa hx.s (aa hx.len (aa hy.s hy.len)))) fun _ => ?_)
  refine Run_condS (fun _ => rfl) (fun h => ?_) (fun h => ?_)
  · (repeat with_reducible first | refine js ?_ | refine ja ?_ | refine jw KL20 [6] TF20 fun _ => ?_)
    refine Run_ret ?_
    simp at h
    have : decide (l = m) = false := by simp; intro e; subst e; omega
    simp [Rets, RetM, resV, fnd, oneOr, this, Ext.refl]
  · simp at h
    have hl : l.length = m.length := by omega
    (repeat with_reducible first | refine js ?_ | refine ja ?_ | refine jw KL20 [6] TF20 fun _ => ?_)
    refine Run_loopV [4, 5, 14, 25] (σ := Nat) (fun k => [(5, some (.int .i64 k))]) (fun k w' => k ≤ l.length ∧ (∀ j (h : j < l.length), j < k → l[j] = m[j]) ∧ Ext w w') (fun k => l.length - k) 0 (by simp [SubB, fnd]) ⟨by omega, by simp, Ext.refl _⟩ ?_
    rintro k w3 ⟨hk, hf, x3⟩
    (repeat with_reducible first | refine js ?_ | refine ja ?_ | refine jw KL20 [6] (aa TF20 (aa hx.s (aa hx.len (aa hy.s hy.len)))) fun _ => ?_)
    refine Run_condS (fun _ => rfl) (fun h => ?_) (fun h => ?_)
    · simp at h
      have hkl := h
      obtain ⟨f1, f2⟩ := (hx.ext x3).moveD h
      obtain ⟨g1, g2⟩ := (hy.ext x3).moveD (show k < m.length by omega)
      simp only [MoveD.cs, AtN, KS, Nat.reduceAdd, Nat.reduceMul, Nat.reduceEqDiff, ↓reduceIte, UT] at f1 g1
      (repeat with_reducible first | refine js ?_ | refine ja ?_ | refine jw KL20 [6] (aa TF20 (aa hx.s (aa hx.len (aa hy.s (aa hy.len (aa f1 g1)))))) fun _ => ?_)
      refine ⟨by kernel_rfl, fun w4 x4 => ?_⟩
      rw [eqM]
      refine Run_condS (fun _ => rfl) (fun h => ?_) (fun h => ?_)
      · (repeat with_reducible first | refine js ?_ | refine ja ?_ | refine jw KL20 [6] TF20 fun _ => ?_)
        refine Run_ret ?_
        have : decide (l = m) = false := by
          simp at h ⊢; intro e; subst e; exact h rfl
        simp [Rets, RetM, resV, fnd, oneOr, this]
        exact x3.trans x4
      · (repeat with_reducible first | refine js ?_ | refine ja ?_ | refine jw KL20 [6] TF20 fun _ => ?_)
        refine Run_lp ⟨k + 1, ?_, ⟨by omega, fun j hj hjk => ?_, x3.trans x4⟩, by omega⟩
        · simp [SubB, fnd, strike, has]
        · by_cases e : j = k
          · subst e; simpa using h
          · exact hf j hj (by omega)
    · simp at h
      obtain rfl : k = l.length := by omega
      (repeat with_reducible first | refine js ?_ | refine ja ?_ | refine jw KL20 [6] TF20 fun _ => ?_)
      refine Run_ret ?_
      have : decide (l = m) = true := decide_eq_true (List.ext_getElem hl fun j h1 h2 => hf j h1 h1)
      simp [Rets, RetM, resV, fnd, oneOr, this, x3]
/-- a small input -/
structure FewP (T : TimeD) (F : TariffD) (L : List OrderD) (P : PlanD) : Prop where
  t : T.Lines.length ≤ 66
  x : ∀ x ∈ T.Lines, lineFew x = true
  l : L.length ≤ 12
  p : fewPl P = true
set_option maxHeartbeats 2000000 in
theorem rfFew39 (vl u0 u1 u2 vo v0 v1 v2 : Value) (t : TimeD) (f : TariffD) (l : List OrderD) (p : PlanD) (w : World) (hl : Sl w vl t.Lines) (hT : TarR w f u0 u1 u2) (ho : Sl w vo l) (hP : PlanR w p v0 v1 v2) :
    Calls Tryz.prog 17 #[.agg (t.cs vl).toArray, .agg (f.cs u0 u1 u2).toArray, vo, .agg (p.cs v0 v1 v2).toArray] w fun e w' => ∃ b : Bool, e = .returned (.bool b) ∧ Ext w w' ∧ (b = true → FewP t f l p) := by
  have l1 := hT.b.len
  have l2 := hT.l.len
  have l3 := hT.t.len
  have l4 := ho.len
  refine Calls_of_Run (args := [.agg (t.cs vl).toArray, .agg (f.cs u0 u1 u2).toArray, vo, .agg (p.cs v0 v1 v2).toArray]) (n := 38) (rs := [.tmp 8]) Tryz.func17 rfl rfl rfl (by simp) ?_
  (repeat with_reducible first | refine js ?_ | refine ja ?_ | refine jw KL17 [] TF17 fun _ => ?_)
  refine SemW_box fun pt w1 h1 => SemW_box fun pf w2 h2 => SemW_box fun pp w3 h3 => ?_
  have x3 := h1.ext.trans (h2.ext.trans h3.ext)
  have T : ∀ w', Ext w3 w' → AtN w' pt 0 (t.cs vl) := fun w' x => (h1.at_.ext (h2.ext.trans (h3.ext.trans x))).n
  have F : ∀ w', Ext w3 w' → AtN w' pf 0 (f.cs u0 u1 u2) := fun w' x => (h2.at_.ext (h3.ext.trans x)).n
  have P : ∀ w', Ext w3 w' → AtN w' pp 0 (p.cs v0 v1 v2) := fun w' x => (h3.at_.ext x).n
  simp only [TimeD.cs, TariffD.cs, PlanD.cs, AtN, KS, Nat.reduceAdd, Nat.reduceMul, Nat.reduceEqDiff, ↓reduceIte, UT] at T F P
  have t3 := T w3 (Ext.refl _)
  (repeat with_reducible first | refine js ?_ | refine ja ?_ | refine jw KL17 [] (aa TF17 t3) fun _ => ?_)
  refine CallW_gen call44 (rfFewTable vl t w3 (hl.ext x3)) fun e w4 ⟨b, he, x4, hb⟩ => ⟨_, he, ?_⟩
  have y4 := x3.trans x4
  have f4 := F w4 x4
  have p4 := P w4 x4
  (repeat with_reducible first | refine js ?_ | refine ja ?_ | refine jw KL17 [] (aa TF17 (aa f4 (aa p4 (aa hT.b.s (aa hT.b.len (aa hT.l.s (aa hT.l.len (aa hT.t.s (aa hT.t.len (aa ho.s (aa ho.len KX))))))))))) fun _ => ?_)
  refine .inr ⟨.bool (fewPl p), fun _ => PC_pure call45 fun w5 x5 => rfFewPlan v0 v1 v2 p w5 (hP.ext (y4.trans x5)), fun w5 x5 => ?_⟩
  unfold hush
  (repeat with_reducible first | refine js ?_ | refine ja ?_ | refine jw KL17 [] (aa TF17 (aa f4 (aa p4 (aa hT.b.s (aa hT.b.len (aa hT.l.s (aa hT.l.len (aa hT.t.s (aa hT.t.len (aa ho.s (aa ho.len KX))))))))))) fun _ => ?_)
  refine Run_ret ?_
  simp only [Rets, RetM, resV, fnd, oneOr, ↓reduceIte]
  refine ⟨_, rfl, _, rfl, y4.trans x5, fun h => ?_⟩
  simp only [Bool.and_eq_true, decide_eq_true_eq] at h
  obtain ⟨⟨⟨⟨⟨g1, g2⟩, g3⟩, g4⟩, g5⟩, g6⟩ := h
  obtain ⟨q1, q2⟩ := hb g1
  exact ⟨q1, q2, by omega, g6⟩
end Go.Proofs.YtoadfmgnpmcbfaaGreat
