import Derived.Test.YtbfhenoiienghaaGreatRbX24b
import Derived.Test.YtbfhenoiienghaaGreatRbP24d
namespace Go.Fk
open Go
namespace Rp
theorem weakF_pre {t : TimeD} {f : TariffD} {l : List OrderD} {covers : Int} {p : PlanD} : ∀ {n k : Nat} {a : List Int}, (weakF t f l covers p k n a).2 = 0 → a <+: (weakF t f l covers p k n a).1
  | 0, k, a, _ => List.prefix_refl _
  | n + 1, k, a, h => by
    unfold weakF at h ⊢
    split
    · rename_i g
      rw [if_pos g] at h
      exact (g h).elim
    · rename_i g
      rw [if_neg g] at h
      refine List.IsPrefix.trans ?_ (weakF_pre h)
      split
      · exact List.prefix_refl _
      · exact List.prefix_append _ _
theorem weakF_err {t : TimeD} {f : TariffD} {l : List OrderD} {covers : Int} {p : PlanD} : ∀ {n k : Nat} {a : List Int}, (weakF t f l covers p k n a).2 ≠ 0 → (weakF t f l covers p k n a).1 = []
  | 0, k, a, h => (h rfl).elim
  | n + 1, k, a, h => by
    unfold weakF at h ⊢
    split
    · rfl
    · rename_i g
      rw [if_neg g] at h
      exact weakF_err h
end Rp
end Go.Fk
namespace Go.Proofs.YtbfhenoiienghaaGreat
open Go Go.Fk
set_option linter.unusedSimpArgs false
set_option linter.unusedVariables false
set_option maxRecDepth 100000
set_option maxHeartbeats 2000000 in
theorem lawWeak24 (vl : Value) (t : TimeD) (f : TariffD) (u0 u1 u2 vo v0 v1 v2 : Value) (l : List OrderD) (covers : Int) (p : PlanD) (w : World) (hl : Sl w vl t.Lines) (hT : TarR w f u0 u1 u2) (ho : Sl w vo l) (hP : PlanR w p v0 v1 v2) (hcv : I64 covers) :
    Calls Tryz.prog 8 #[.agg (t.cs vl).toArray, .agg (f.cs u0 u1 u2).toArray, vo, .int .i64 covers, .agg (p.cs v0 v1 v2).toArray] w fun e w' => e = .returned (.bool true) ∧ Ext w w' := by
  have rs := hP.r.s
  have rl := hP.r.len
  refine Calls_of_Run (args := [.agg (t.cs vl).toArray, .agg (f.cs u0 u1 u2).toArray, vo, .int .i64 covers, .agg (p.cs v0 v1 v2).toArray]) (n := 106) (rs := [.tmp 10]) Tryz.func8 rfl rfl rfl (by simp) ?_
  (repeat with_reducible first | refine js ?_ | refine ja ?_ | refine jw KL8 [] TF8 fun _ => ?_)
  refine SemW_box fun pt w1 h1 => SemW_box fun pf w2 h2 => SemW_box fun pp w3 h3 => ?_
  have x3 := h1.ext.trans (h2.ext.trans h3.ext)
  have T : ∀ w', Ext w3 w' → AtN w' pt 0 (t.cs vl) := fun w' x => (h1.at_.ext (h2.ext.trans (h3.ext.trans x))).n
  have F : ∀ w', Ext w3 w' → AtN w' pf 0 (f.cs u0 u1 u2) := fun w' x => (h2.at_.ext (h3.ext.trans x)).n
  have P : ∀ w', Ext w3 w' → AtN w' pp 0 (p.cs v0 v1 v2) := fun w' x => (h3.at_.ext x).n
  simp only [TimeD.cs, TariffD.cs, PlanD.cs, AtN, KS, Nat.reduceAdd, Nat.reduceMul, Nat.reduceEqDiff, ↓reduceIte, UT] at T F P
  (repeat with_reducible first | refine js ?_ | refine ja ?_ | refine jw KL8 [] TF8 fun _ => ?_)
  refine sane24W fun w5 x5 => ?_
  have y5 := x3.trans x5
  have t5 := T w5 x5
  have f5 := F w5 x5
  have p5 := P w5 x5
  (repeat with_reducible first | refine js ?_ | refine ja ?_ | refine jw KL8 [] TF8 fun _ => ?_)
  refine Run_condS (fun _ => rfl) (fun h => by cases h) (fun _ => ?_)
  (repeat with_reducible first | refine js ?_ | refine ja ?_ | refine jw KL8 [] (aa TF8 (aa t5 (aa f5 p5))) fun _ => ?_)
  refine few24W (hl.ext y5) (hT.ext y5) (ho.ext y5) (hP.ext y5) fun b w7 x7 hfew => ?_
  have y7 := y5.trans x7
  have z7 := x5.trans x7
  (repeat with_reducible first | refine js ?_ | refine ja ?_ | refine jw KL8 [] TF8 fun _ => ?_)
  refine Run_condS (fun _ => rfl) (fun h => ?_) (fun h => ?_)
  · (repeat with_reducible first | refine js ?_ | refine ja ?_ | refine jw KL8 [] TF8 fun _ => ?_)
    refine Run_ret ?_
    simp [Rets, RetM, resV, fnd, oneOr, y7]
  have hfp : p.Runs.length ≤ 1000000 := by
    have := hfew (by simpa using h)
    simp [fewPl] at this
    omega
  clear h
  have t7 := T w7 z7
  have f7 := F w7 z7
  have p7 := P w7 z7
  (repeat with_reducible first | refine js ?_ | refine ja ?_ | refine jw KL8 [] (aa TF8 (aa t7 (aa f7 p7))) fun _ => ?_)
  refine rChkW (hl.ext y7) (hT.ext y7) (ho.ext y7) (hP.ext y7) fun w8 x8 => ?_
  have hd : Rp.err t f l covers p = if (Pl.check t f l covers p).2 ≠ 0 then (Pl.check t f l covers p).2 else if (Pl.check t f l covers p).1 then 0 else 220 := rfl
  generalize (Pl.check t f l covers p).1 = c1 at *
  generalize (Pl.check t f l covers p).2 = c2 at *
  have y8 := y7.trans x8
  have z8 := z7.trans x8
  (repeat with_reducible first | refine js ?_ | refine ja ?_ | refine jw KL8 [] (aa TF8 KX) fun _ => ?_)
  refine Run_condS (fun _ => rfl) (fun h => ?_) (fun h => ?_)
  · (repeat with_reducible first | refine js ?_ | refine ja ?_ | refine jw KL8 [] TF8 fun _ => ?_)
    refine Run_ret ?_
    simp [Rets, RetM, resV, fnd, oneOr, y8]
  have hc : c2 = 0 ∧ c1 = true := by simpa using h
  clear h
  have he : Rp.err t f l covers p = 0 := by rw [hd, if_neg (by simp [hc.1]), if_pos hc.2]
  have hR : Rp.weakF t f l covers p 0 p.Runs.length [] = Rp.weak t f l covers p := by unfold Rp.weak; rw [if_neg (by simp [he])]
  have t8 := T w8 z8
  have f8 := F w8 z8
  have p8 := P w8 z8
  (repeat with_reducible first | refine js ?_ | refine ja ?_ | refine jw KL8 [] (aa TF8 (aa t8 (aa f8 p8))) fun _ => ?_)
  refine rpWeakW (hl.ext y8) (hT.ext y8) (ho.ext y8) (hP.ext y8) hcv hfp rfl fun vw w9 x9 sw => ?_
  generalize Rp.weak t f l covers p = R at *
  have y9 := y8.trans x9
  have z9 := z8.trans x9
  have p9 := P w9 z9
  have ws := sw.s
  have wl := sw.len
  (try simp (maxSteps := 5000000) only [KS, Nat.reduceAdd, Nat.reduceMul, Nat.reduceEqDiff, ↓reduceIte, forall_const, Int.cast_ofNat_Int, Int.reduceToNat, List.take_succ_cons, List.take_zero, List.drop_succ_cons, List.drop_zero, TF8, KL8]); (try simp (disch := omega) only [wrapI, tmodI, tdivI])
  refine ⟨by simp [tpOf], by simp [tpOf], ?_⟩
  (repeat with_reducible first | refine js ?_ | refine ja ?_ | refine jw KL8 [] (aa TF8 (aa p9 (aa rs rl))) fun _ => ?_)
  refine Run_loopV [10, 15, 16, 18, 19, 55, 56, 70, 80, 92] (σ := Nat × List Int) (fun q => [(55, some (.int .i64 q.1)), (15, some (.int .i64 q.2.length))]) (fun q w' => q.1 ≤ p.Runs.length ∧ Ext w9 w' ∧ Rp.weakF t f l covers p q.1 (p.Runs.length - q.1) q.2 = R ∧ q.2.length ≤ q.1) (fun q => p.Runs.length - q.1) (0, []) (by simp [SubB, fnd]) ⟨by simp, Ext.refl _, by simpa using hR, by simp⟩ ?_
  rintro ⟨q, a⟩ w10 ⟨hq, x10, hf, ha⟩
  simp only at hq x10 hf ha
  have hpre := fun h0 : R.2 = 0 => Rp.weakF_pre (by rw [hf]; exact h0 : (Rp.weakF t f l covers p q (p.Runs.length - q) a).2 = 0)
  have herr := fun h0 : R.2 ≠ 0 => Rp.weakF_err (by rw [hf]; exact h0 : (Rp.weakF t f l covers p q (p.Runs.length - q) a).2 ≠ 0)
  rw [hf] at hpre herr
  (repeat with_reducible first | refine js ?_ | refine ja ?_ | refine jw KL8 [] TF8 fun _ => ?_)
  refine Run_condS (fun _ => rfl) (fun h => ?_) (fun h => ?_)
  · simp at h
    have hql : q < p.Runs.length := by omega
    have hqc : (q : Int) < p.Runs.length := by omega
    clear h
    rw [Rp.weakF_step hql] at hf
    have z10 := z9.trans x10
    have y10 := x3.trans z10
    have t10 := T w10 z10
    have f10 := F w10 z10
    have p10 := P w10 z10
    (repeat with_reducible first | refine js ?_ | refine ja ?_ | refine jw KL8 [] (aa TF8 (aa t10 (aa f10 p10))) fun _ => ?_)
    refine rpRepairW (hl.ext y10) (hT.ext y10) (ho.ext y10) (hP.ext y10) hcv rfl fun b0 b1 b2 wB xB hRp => ?_
    generalize Rp.repair t f l covers p q = res at *
    (try simp (maxSteps := 5000000) only [KS, Nat.reduceAdd, Nat.reduceMul, Nat.reduceEqDiff, ↓reduceIte, forall_const, Int.cast_ofNat_Int, Int.reduceToNat, List.take_succ_cons, List.take_zero, List.drop_succ_cons, List.drop_zero, TF8, KL8]); (try simp (disch := omega) only [wrapI, tmodI, tdivI])
    refine ⟨by simp [tpOf], by simp [tpOf], by simp [tpOf], ?_⟩
    refine planVar hRp fun px wC xC _ => ?_
    have x1C := x10.trans (xB.trans xC)
    have sC := (sw.ext x1C)
    obtain ⟨_, ok, g⟩ := res
    simp only at hf ⊢
    (repeat with_reducible first | refine js ?_ | refine ja ?_ | refine jw KL8 [] (aa TF8 KX) fun _ => ?_)
    refine Run_condS (fun _ => rfl) (fun h => ?_) (fun h => ?_)
    · have hg : g ≠ 0 := by simpa using h
      rw [if_pos hg] at hf
      subst hf
      simp only [List.length_nil] at wl
      (repeat with_reducible first | refine js ?_ | refine ja ?_ | refine jw KL8 [] (aa TF8 (aa ws (aa wl KX))) fun _ => ?_)
      refine Run_ret ?_
      simp [Rets, RetM, resV, fnd, oneOr]
      exact y9.trans x1C
    have hg : g = 0 := by simpa using h
    clear h
    rw [if_neg (by simp [hg])] at hf
    cases ok with
    | true =>
      (repeat with_reducible first | refine js ?_ | refine ja ?_ | refine jw KL8 [] (aa TF8 KX) fun _ => ?_)
      refine Run_condS (fun _ => rfl) (fun h => by cases h) (fun _ => ?_)
      (repeat with_reducible first | refine js ?_ | refine ja ?_ | refine jw KL8 [] TF8 fun _ => ?_)
      exact Run_lp ⟨(q + 1, a), by simp [SubB, fnd, strike, has], ⟨by show q + 1 ≤ p.Runs.length; omega, x1C, by simpa using hf, by show a.length ≤ q + 1; omega⟩, by show p.Runs.length - (q + 1) < p.Runs.length - q; omega⟩
    | false =>
      (repeat with_reducible first | refine js ?_ | refine ja ?_ | refine jw KL8 [] (aa TF8 KX) fun _ => ?_)
      refine Run_condS (fun _ => rfl) (fun _ => ?_) (fun h => by cases h)
      simp only [Bool.false_eq_true, if_false] at hf
      by_cases hr : R.2 = 0
      · have hp2 := Rp.weakF_pre (by rw [hf]; exact hr : (Rp.weakF t f l covers p (q + 1) (p.Runs.length - (q + 1)) (a ++ [(q : Int)])).2 = 0)
        rw [hf] at hp2
        obtain ⟨s, hs⟩ := hp2
        have hal : a.length < R.1.length := by rw [← hs]; simp
        have halc : (a.length : Int) < R.1.length := by omega
        have hget : R.1[a.length] = (q : Int) := by simp [← hs]
        obtain ⟨e1, e2, e3⟩ := sC.get hal
        rw [hget] at e1
        have g1 : decide ((R.1.length : Int) ≤ a.length) = false := by simp; omega
        (repeat with_reducible first | refine js ?_ | refine ja ?_ | refine jw KL8 [] (aa TF8 (aa ws (aa wl (aa g1 (aa e1 (aa e2 (aa @bne_self_eq_false.{0} KX))))))) fun _ => ?_)
        refine Run_condS (fun _ => rfl) (fun h => by cases h) (fun _ => ?_)
        (repeat with_reducible first | refine js ?_ | refine ja ?_ | refine jw KL8 [] TF8 fun _ => ?_)
        exact Run_lp ⟨(q + 1, a ++ [(q : Int)]), by simp [SubB, fnd, strike, has], ⟨by show q + 1 ≤ p.Runs.length; omega, x1C, hf, by show (a ++ [(q : Int)]).length ≤ q + 1; simp; omega⟩, by show p.Runs.length - (q + 1) < p.Runs.length - q; omega⟩
      · have hl0 := herr hr
        have g1 : decide ((R.1.length : Int) ≤ a.length) = true := by rw [hl0]; simp
        (repeat with_reducible first | refine js ?_ | refine ja ?_ | refine jw KL8 [] (aa TF8 (aa ws (aa wl (aa g1 KX)))) fun _ => ?_)
        refine Run_condS (fun _ => rfl) (fun _ => ?_) (fun h => by cases h)
        (repeat with_reducible first | refine js ?_ | refine ja ?_ | refine jw KL8 [] TF8 fun _ => ?_)
        refine Run_ret ?_
        simp [Rets, RetM, resV, fnd, oneOr, hr]
        exact y9.trans x1C
  · simp at h
    obtain rfl : q = p.Runs.length := by omega
    rw [Nat.sub_self] at hf
    have hf : (a, (0 : Int)) = R := hf
    subst hf
    (repeat with_reducible first | refine js ?_ | refine ja ?_ | refine jw KL8 [] (aa TF8 (aa ws (aa wl KX))) fun _ => ?_)
    refine Run_ret ?_
    simp [Rets, RetM, resV, fnd, oneOr]
    exact y9.trans x10
end Go.Proofs.YtbfhenoiienghaaGreat
