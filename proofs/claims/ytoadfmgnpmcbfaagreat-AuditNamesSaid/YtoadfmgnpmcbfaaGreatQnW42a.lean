import Derived.Test.YtoadfmgnpmcbfaaGreatQnW39r
import Derived.Test.YtoadfmgnpmcbfaaGreatQnGq
namespace Go.Proofs.YtoadfmgnpmcbfaaGreat
open Go Go.Fk
set_option linter.unusedSimpArgs false
set_option linter.unusedVariables false
set_option maxRecDepth 100000
theorem rfError42 (vl u0 u1 u2 vo v0 v1 v2 vh : Value) (t : TimeD) (f : TariffD) (l : List OrderD) (p : PlanD) (hd : List Int) (w : World) (hl : Sl w vl t.Lines) (hT : TarR w f u0 u1 u2) (ho : Sl w vo l) (hP : PlanR w p v0 v1 v2) (hh : Sl w vh hd) :
    Calls Tryz.prog 31 #[.agg (t.cs vl).toArray, .agg (f.cs u0 u1 u2).toArray, vo, .agg (p.cs v0 v1 v2).toArray, vh] w fun e w' => e = .returned (.int .i64 (Au.err t f l p hd)) ∧ Ext w w' := by
  refine Calls_of_Run (args := [.agg (t.cs vl).toArray, .agg (f.cs u0 u1 u2).toArray, vo, .agg (p.cs v0 v1 v2).toArray, vh]) (n := 63) (rs := [.tmp 10]) Tryz.func31 rfl rfl rfl (by simp) ?_
  (repeat with_reducible first | refine js ?_ | refine ja ?_ | refine jw KL31 [11] TF31 fun _ => ?_)
  refine SemW_box fun pt w1 h1 => SemW_box fun pf w2 h2 => SemW_box fun pp w3 h3 => ?_
  have x3 := h1.ext.trans (h2.ext.trans h3.ext)
  have T : ∀ w', Ext w3 w' → AtN w' pt 0 (t.cs vl) := fun w' x => (h1.at_.ext (h2.ext.trans (h3.ext.trans x))).n
  have F : ∀ w', Ext w3 w' → AtN w' pf 0 (f.cs u0 u1 u2) := fun w' x => (h2.at_.ext (h3.ext.trans x)).n
  have P : ∀ w', Ext w3 w' → AtN w' pp 0 (p.cs v0 v1 v2) := fun w' x => (h3.at_.ext x).n
  simp only [TimeD.cs, TariffD.cs, PlanD.cs, AtN, KS, Nat.reduceAdd, Nat.reduceMul, Nat.reduceEqDiff, ↓reduceIte, UT] at T F P
  have t3 := T w3 (Ext.refl _)
  have f3 := F w3 (Ext.refl _)
  have p3 := P w3 (Ext.refl _)
  (repeat with_reducible first | refine js ?_ | refine ja ?_ | refine jw KL31 [11] (aa TF31 (aa t3 (aa f3 p3))) fun _ => ?_)
  refine rpchkW rfl (hl.ext x3) (hT.ext x3) (ho.ext x3) (hP.ext x3) fun w4 x4 => ?_
  have y4 := x3.trans x4
  have he : Ec.err t f l p = if (Pl.check t f l 1099511627776 p).2 ≠ 0 then (Pl.check t f l 1099511627776 p).2 else if (Pl.check t f l 1099511627776 p).1 then 0 else 220 := rfl
  have ha : Au.err t f l p hd = if Ec.err t f l p ≠ 0 then Ec.err t f l p else if hd.length ≠ p.Runs.length then 1 else if Au.hOk t p hd then 0 else 1 := rfl
  have hok : Ec.err t f l p = 0 → Ec.Ok t f l p := Ec.err_ok
  generalize Pl.check t f l 1099511627776 p = r at *
  obtain ⟨b, c⟩ := r
  simp only at he
  generalize hA : Au.err t f l p hd = A at *
  (repeat with_reducible first | refine js ?_ | refine ja ?_ | refine jw KL31 [11] TF31 fun _ => ?_)
  refine Run_condS (fun _ => rfl) (fun h => ?_) (fun h => ?_)
  · simp at h
    rw [if_pos h] at he
    rw [if_pos (by rw [he]; exact h), he] at ha
    subst ha
    (repeat with_reducible first | refine js ?_ | refine ja ?_ | refine jw KL31 [11] TF31 fun _ => ?_)
    refine Run_ret ?_
    simp [Rets, RetM, resV, fnd, oneOr, y4]
  simp at h
  subst h
  rw [if_neg (by simp)] at he
  (repeat with_reducible first | refine js ?_ | refine ja ?_ | refine jw KL31 [11] TF31 fun _ => ?_)
  refine Run_condS (fun _ => rfl) (fun h => ?_) (fun h => ?_)
  · simp at h
    subst h
    rw [if_neg (by simp)] at he
    rw [he, if_pos (by simp)] at ha
    subst ha
    (repeat with_reducible first | refine js ?_ | refine ja ?_ | refine jw KL31 [11] TF31 fun _ => ?_)
    refine Run_ret ?_
    simp [Rets, RetM, resV, fnd, oneOr, y4]
  simp at h
  subst h
  rw [if_pos rfl] at he
  have ok := hok he
  rw [if_neg (by simp [he])] at ha
  clear hok
  have p4 := P w4 x4
  have hrl := hP.r.len
  have hrs := hP.r.small
  have hhl := hh.len
  have hhs := hh.small
  (repeat with_reducible first | refine js ?_ | refine ja ?_ | refine jw KL31 [11] (aa TF31 (aa p4 (aa hP.r.s (aa hP.r.len (aa hh.s hh.len))))) fun _ => ?_)
  refine Run_condS (fun _ => rfl) (fun h => ?_) (fun h => ?_)
  · simp at h
    rw [if_pos (by omega)] at ha
    subst ha
    (repeat with_reducible first | refine js ?_ | refine ja ?_ | refine jw KL31 [11] TF31 fun _ => ?_)
    refine Run_ret ?_
    simp [Rets, RetM, resV, fnd, oneOr, y4]
  simp at h
  have hlen : hd.length = p.Runs.length := by omega
  rw [if_neg (by simp [hlen])] at ha
  clear h
  (repeat with_reducible first | refine js ?_ | refine ja ?_ | refine jw KL31 [11] TF31 fun _ => ?_)
  refine Run_loopV [10, 13, 36, 62] (σ := Nat) (fun k => [(13, some (.int .i64 k))]) (fun k w' => k ≤ hd.length ∧ (∀ j, j < k → (0 ≤ hd.getD j 0 ∧ hd.getD j 0 ≤ ((Ec.lineP t p j).Legs.length : Int))) ∧ Ext w4 w') (fun k => hd.length - k) 0 (by simp [SubB, fnd]) ⟨by omega, by simp, Ext.refl _⟩ ?_
  rintro k w5 ⟨hk, hj, x5⟩
  have y5 := y4.trans x5
  have z5 := x4.trans x5
  (repeat with_reducible first | refine js ?_ | refine ja ?_ | refine jw KL31 [11] (aa TF31 (aa hh.s hh.len)) fun _ => ?_)
  refine Run_condS (fun _ => rfl) (fun h => ?_) (fun h => ?_)
  · simp at h
    have hkl := h
    have hg : hd.getD k 0 = hd[k] := by simp [List.getD_eq_getElem?_getD, hkl]
    obtain ⟨l0, l1, l2, l3, hC⟩ := lineC hl ok (q := (k : Int)) (by omega) (by omega)
    have hrn := hC.r
    have hn0 := hC.n0
    have hlnn := hC.n
    have hR := hC.l
    have hrll := hR.l.len
    have hll := hl.len
    obtain ⟨_, _, _, _, hlo⟩ := line_at ok (q := (k : Int)) (by omega) (by omega)
    have ox9 := hlo.o9
    have oxl := hlo.l1
    have g1 := ((hP.r.ext y5).runD hrn).1
    have g2 := (hC.a.ext y5).n
    obtain ⟨d1, d2, -⟩ := (hh.ext y5).get hkl
    have hbad : ¬ (0 ≤ hd[k] ∧ hd[k] ≤ ((Ec.lineP t p k).Legs.length : Int)) → A = 1 := fun hb => by
      rw [ha, if_neg]
      intro hh'
      have := List.all_eq_true.1 hh' k (by simpa using hkl)
      simp only [decide_eq_true_eq] at this
      rw [hg] at this
      exact hb this
    have hgood : (0 ≤ hd[k] ∧ hd[k] ≤ ((Ec.lineP t p k).Legs.length : Int)) → ∀ j, j < k + 1 → (0 ≤ hd.getD j 0 ∧ hd.getD j 0 ≤ ((Ec.lineP t p j).Legs.length : Int)) := fun hb j hjk => by
      by_cases e : j = k
      · subst e; rw [hg]; exact hb
      · exact hj j (by omega)
    generalize hxx : Ec.lineP t p (k : Int) = x at *
    simp only [Int.toNat_natCast] at hrn hn0 hlnn g1 g2
    generalize hrr : p.Runs[k] = r at *
    simp only [RunD.cs, LineD.cs, AtN, KS, Nat.reduceAdd, Nat.reduceMul, Nat.reduceEqDiff, ↓reduceIte, UT] at g1 g2
    have t5 := T w5 z5
    have p5 := P w5 z5
    generalize hd[k] = y at *
    by_cases hy : y < 0
    · have e0 : decide (y < 0) = true := by simpa using hy
      (repeat with_reducible first | refine js ?_ | refine ja ?_ | refine jw KL31 [11] (aa TF31 (aa hh.s (aa hh.len (aa d1 (aa d2 (aa e0 KX)))))) fun _ => ?_)
      intro w6 x6
      refine Run_condS (fun _ => rfl) (fun _ => ?_) (fun h => by cases h)
      (repeat with_reducible first | refine js ?_ | refine ja ?_ | refine jw KL31 [11] TF31 fun _ => ?_)
      refine Run_ret ?_
      simp [Rets, RetM, resV, fnd, oneOr, hbad (by omega), y5.trans x6]
    · have e0 : decide (y < 0) = false := by simp; omega
      (repeat with_reducible first | refine js ?_ | refine ja ?_ | refine jw KL31 [11] (aa TF31 (aa hh.s (aa hh.len (aa d1 (aa d2 (aa e0 (aa t5 (aa p5 (aa hP.r.s (aa hP.r.len (aa hl.s (aa hl.len (aa g1 (aa g2 (aa hR.l.s (aa hR.l.len KX)))))))))))))))) fun _ => ?_)
      intro w6 x6
      refine Run_condS (fun _ => rfl) (fun h => ?_) (fun h => ?_)
      · simp at h
        (repeat with_reducible first | refine js ?_ | refine ja ?_ | refine jw KL31 [11] TF31 fun _ => ?_)
        refine Run_ret ?_
        simp [Rets, RetM, resV, fnd, oneOr, hbad (by omega), y5.trans x6]
      · simp at h
        (repeat with_reducible first | refine js ?_ | refine ja ?_ | refine jw KL31 [11] TF31 fun _ => ?_)
        refine Run_lp ⟨k + 1, ?_, ⟨by omega, hgood (by omega), x5.trans x6⟩, by omega⟩
        simp [SubB, fnd, strike, has]
  · simp at h
    obtain rfl : k = hd.length := by omega
    have hall : Au.hOk t p hd = true := List.all_eq_true.2 fun j hjm => by
      simp at hjm; simpa using hj j hjm
    rw [if_pos hall] at ha
    subst ha
    (repeat with_reducible first | refine js ?_ | refine ja ?_ | refine jw KL31 [11] TF31 fun _ => ?_)
    refine Run_ret ?_
    simp [Rets, RetM, resV, fnd, oneOr, y5]
end Go.Proofs.YtoadfmgnpmcbfaaGreat
