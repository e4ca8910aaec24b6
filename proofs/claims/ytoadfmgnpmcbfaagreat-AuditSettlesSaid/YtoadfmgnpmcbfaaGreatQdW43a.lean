import Derived.Test.YtoadfmgnpmcbfaaGreatQdW41w
import Derived.Test.YtoadfmgnpmcbfaaGreatQdW42s
import Derived.Test.YtoadfmgnpmcbfaaGreatQdP43
/- Chapter 42: AuditSettles. -/
namespace Go.Proofs.YtoadfmgnpmcbfaaGreat
open Go Go.Fk
set_option linter.unusedSimpArgs false
set_option linter.unusedVariables false
set_option maxRecDepth 100000
theorem eqM42 (a b : MoveD) : (a.No == b.No && (a.From == b.From && (a.To == b.To && (a.Amount == b.Amount && (a.Why == b.Why && (a.Run == b.Run && true)))))) = decide (a = b) := by
  rw [Bool.eq_iff_iff]
  cases a; cases b
  simp
theorem rfSame42 (va vb : Value) (l m : List MoveD) (w : World) (hx : Sl w va l) (hy : Sl w vb m) : Calls Tryz.prog 40 #[va, vb] w fun e w' => e = .returned (.bool (decide (l = m))) ∧ Ext w w' := by
  have hn := hx.small
  refine Calls_of_Run (args := [va, vb]) (n := 26) (rs := [.tmp 4]) Tryz.func40 rfl rfl rfl (by simp) ?_
  (repeat with_reducible first | refine js ?_ | refine ja ?_ | refine jw KL40 [6] (aa TF40 (aa hx.s (aa hx.len (aa hy.s hy.len)))) fun _ => ?_)
  refine Run_condS (fun _ => rfl) (fun h => ?_) (fun h => ?_)
  · (repeat with_reducible first | refine js ?_ | refine ja ?_ | refine jw KL40 [6] TF40 fun _ => ?_)
    refine Run_ret ?_
    simp at h
    have : decide (l = m) = false := by simp; intro e; subst e; omega
    simp [Rets, RetM, resV, fnd, oneOr, this, Ext.refl]
  · simp at h
    have hl : l.length = m.length := by omega
    (repeat with_reducible first | refine js ?_ | refine ja ?_ | refine jw KL40 [6] TF40 fun _ => ?_)
    refine Run_loopV [4, 5, 14, 25] (σ := Nat) (fun k => [(5, some (.int .i64 k))]) (fun k w' => k ≤ l.length ∧ (∀ j (h : j < l.length), j < k → l[j] = m[j]) ∧ Ext w w') (fun k => l.length - k) 0 (by simp [SubB, fnd]) ⟨by omega, by simp, Ext.refl _⟩ ?_
    rintro k w3 ⟨hk, hf, x3⟩
    (repeat with_reducible first | refine js ?_ | refine ja ?_ | refine jw KL40 [6] (aa TF40 (aa hx.s (aa hx.len (aa hy.s hy.len)))) fun _ => ?_)
    refine Run_condS (fun _ => rfl) (fun h => ?_) (fun h => ?_)
    · simp at h
      have hkl := h
      obtain ⟨f1, f2⟩ := (hx.ext x3).moveD h
      obtain ⟨g1, g2⟩ := (hy.ext x3).moveD (show k < m.length by omega)
      simp only [MoveD.cs, AtN, KS, Nat.reduceAdd, Nat.reduceMul, Nat.reduceEqDiff, ↓reduceIte, UT] at f1 g1
      (repeat with_reducible first | refine js ?_ | refine ja ?_ | refine jw KL40 [6] (aa TF40 (aa hx.s (aa hx.len (aa hy.s (aa hy.len (aa f1 g1)))))) fun _ => ?_)
      refine ⟨by kernel_rfl, fun w4 x4 => ?_⟩
      rw [eqM42]
      refine Run_condS (fun _ => rfl) (fun h => ?_) (fun h => ?_)
      · (repeat with_reducible first | refine js ?_ | refine ja ?_ | refine jw KL40 [6] TF40 fun _ => ?_)
        refine Run_ret ?_
        have : decide (l = m) = false := by
          simp at h ⊢; intro e; subst e; exact h rfl
        simp [Rets, RetM, resV, fnd, oneOr, this]
        exact x3.trans x4
      · (repeat with_reducible first | refine js ?_ | refine ja ?_ | refine jw KL40 [6] TF40 fun _ => ?_)
        refine Run_lp ⟨k + 1, ?_, ⟨by omega, fun j hj hjk => ?_, x3.trans x4⟩, by omega⟩
        · simp [SubB, fnd, strike, has]
        · by_cases e : j = k
          · subst e; simpa using h
          · exact hf j hj (by omega)
    · simp at h
      obtain rfl : k = l.length := by omega
      (repeat with_reducible first | refine js ?_ | refine ja ?_ | refine jw KL40 [6] TF40 fun _ => ?_)
      refine Run_ret ?_
      have : decide (l = m) = true := decide_eq_true (List.ext_getElem hl fun j h1 h2 => hf j h1 h1)
      simp [Rets, RetM, resV, fnd, oneOr, this, x3]
theorem same42W {va vb : Value} {l m : List MoveD} {b : Bool} {w : World} {K : Value → World → Prop} (h : decide (l = m) = b) (hx : Sl w va l) (hy : Sl w vb m) (hK : ∀ w', Ext w w' → K (.bool b) w') : CallW Tryz.prog (.func (.func 40) #[] #[]) [va, vb] w K := by
  subst h; exact CallW_pure call40 (rfSame42 va vb l m w hx hy) hK
set_option maxHeartbeats 2000000 in
theorem lawAuditSettles (vl u0 u1 u2 vo v0 v1 v2 vh vm : Value) (t : TimeD) (f : TariffD) (l : List OrderD) (p : PlanD) (hd : List Int) (m : List MoveD) (w : World) (hl : Sl w vl t.Lines) (hT : TarR w f u0 u1 u2) (ho : Sl w vo l) (hP : PlanR w p v0 v1 v2) (hh : Sl w vh hd) (hm : Sl w vm m) :
    Calls Tryz.prog 14 #[.agg (t.cs vl).toArray, .agg (f.cs u0 u1 u2).toArray, vo, .agg (p.cs v0 v1 v2).toArray, vh, vm] w fun e w' => e = .returned (.bool true) ∧ Ext w w' := by
  refine Calls_of_Run (args := [.agg (t.cs vl).toArray, .agg (f.cs u0 u1 u2).toArray, vo, .agg (p.cs v0 v1 v2).toArray, vh, vm]) (n := 98) (rs := [.tmp 12]) Tryz.func14 rfl rfl rfl (by simp) ?_
  (repeat with_reducible first | refine js ?_ | refine ja ?_ | refine jw KL14 [] TF14 fun _ => ?_)
  refine SemW_box fun pt w1 h1 => SemW_box fun pf w2 h2 => SemW_box fun pp w3 h3 => ?_
  have x3 := h1.ext.trans (h2.ext.trans h3.ext)
  have T : ∀ w', Ext w3 w' → AtN w' pt 0 (t.cs vl) := fun w' x => (h1.at_.ext (h2.ext.trans (h3.ext.trans x))).n
  have F : ∀ w', Ext w3 w' → AtN w' pf 0 (f.cs u0 u1 u2) := fun w' x => (h2.at_.ext (h3.ext.trans x)).n
  have P : ∀ w', Ext w3 w' → AtN w' pp 0 (p.cs v0 v1 v2) := fun w' x => (h3.at_.ext x).n
  simp only [TimeD.cs, TariffD.cs, PlanD.cs, AtN, KS, Nat.reduceAdd, Nat.reduceMul, Nat.reduceEqDiff, ↓reduceIte, UT] at T F P
  (repeat with_reducible first | refine js ?_ | refine ja ?_ | refine jw KL14 [] TF14 fun _ => ?_)
  refine sane42W fun w4 x4 => ?_
  (repeat with_reducible first | refine js ?_ | refine ja ?_ | refine jw KL14 [] TF14 fun _ => ?_)
  refine Run_condS (fun _ => rfl) (fun h => by cases h) (fun _ => ?_)
  have y4 := x3.trans x4
  have t4 := T w4 x4
  have f4 := F w4 x4
  have p4 := P w4 x4
  (repeat with_reducible first | refine js ?_ | refine ja ?_ | refine jw KL14 [] (aa TF14 (aa t4 (aa f4 p4))) fun _ => ?_)
  refine few42W (hl.ext y4) (hT.ext y4) (ho.ext y4) (hP.ext y4) (hh.ext y4) (hm.ext y4) fun b w5 x5 hb => ?_
  have y5 := y4.trans x5
  (repeat with_reducible first | refine js ?_ | refine ja ?_ | refine jw KL14 [] TF14 fun _ => ?_)
  refine Run_condS (fun _ => rfl) (fun h => ?_) (fun h => ?_)
  · (repeat with_reducible first | refine js ?_ | refine ja ?_ | refine jw KL14 [] TF14 fun _ => ?_)
    refine Run_ret ?_
    simp [Rets, RetM, resV, fnd, oneOr, y5]
  have hb := hb (by simpa using h)
  clear h
  have z5 := x4.trans x5
  have t5 := T w5 z5
  have f5 := F w5 z5
  have p5 := P w5 z5
  (repeat with_reducible first | refine js ?_ | refine ja ?_ | refine jw KL14 [] (aa TF14 (aa t5 (aa f5 p5))) fun _ => ?_)
  refine allW rfl (hl.ext y5) (hT.ext y5) (ho.ext y5) (hP.ext y5) (hh.ext y5) hb.2.1 (by omega) fun vb w6 x6 sb => ?_
  have y6 := y5.trans x6
  have z6 := z5.trans x6
  have t6 := T w6 z6
  have f6 := F w6 z6
  have p6 := P w6 z6
  (repeat with_reducible first | refine js ?_ | refine ja ?_ | refine jw KL14 [] (aa TF14 (aa t6 (aa f6 p6))) fun _ => ?_)
  refine auCheckW (ra := (Au.check t f l p hd m).1) (rb := (Au.check t f l p hd m).2.1) (rc := (Au.check t f l p hd m).2.2) rfl (hl.ext y6) (hT.ext y6) (ho.ext y6) (hP.ext y6) (hh.ext y6) (hm.ext y6) hb.2.1 fun w7 x7 => ?_
  have y7 := y6.trans x7
  have z7 := z6.trans x7
  have t7 := T w7 z7
  have f7 := F w7 z7
  have p7 := P w7 z7
  (repeat with_reducible first | refine js ?_ | refine ja ?_ | refine jw KL14 [] TF14 fun _ => ?_)
  refine Run_condS (fun _ => rfl) (fun h => ?_) (fun h => ?_)
  · have h0 : (Au.all t f l p hd).2 ≠ 0 := by simpa using h
    obtain ⟨c1, c2⟩ := Au.check_no h0 hb.2.1 (show l.length ≤ 64 by omega) m
    generalize (Au.all t f l p hd).2 = e at *
    generalize Au.check t f l p hd m = r at *
    obtain ⟨r1, r2, r3⟩ := r
    simp only at c1 c2
    subst c1
    (repeat with_reducible first | refine js ?_ | refine ja ?_ | refine jw KL14 [] (aa TF14 KX) fun _ => ?_)
    refine Run_ret ?_
    simp only [Rets, RetM, resV, fnd, oneOr, ↓reduceIte]
    refine ⟨_, rfl, ?_, y7⟩
    rcases c2 with ⟨rfl, rfl⟩ | rfl <;> simp
  have h0 : (Au.all t f l p hd).2 = 0 := by simpa using h
  clear h
  have hc := Au.check_yes h0 hb.2.1 (show l.length ≤ 64 by omega)
  have hlen : (Au.all t f l p hd).1.length ≤ 1000 := by
    obtain ⟨he, _, ha⟩ := Au.all_ok h0
    have := Au.asked_len (Au.err_ok he) hb.2.1
    rw [ha]; simp only [Au.num_len]; omega
  have sbl := sb.len
  (repeat with_reducible first | refine js ?_ | refine ja ?_ | refine jw KL14 [] (aa TF14 (aa sb.s sbl)) fun _ => ?_)
  refine Run_condS (fun _ => rfl) (fun h => ?_) (fun h => ?_)
  · simp at h; omega
  clear h
  (repeat with_reducible first | refine js ?_ | refine ja ?_ | refine jw KL14 [] (aa TF14 (aa t7 (aa f7 p7))) fun _ => ?_)
  refine auCheckW (ra := (Au.check t f l p hd (Au.all t f l p hd).1).1) (rb := true) (rc := 0) (by
    have := hc (Au.all t f l p hd).1
    rw [decide_eq_true rfl] at this
    rw [← this]) (hl.ext y7) (hT.ext y7) (ho.ext y7) (hP.ext y7) (hh.ext y7) (sb.ext x7) hb.2.1 fun w8 x8 => ?_
  have hcm := hc m
  rw [show (Au.check t f l p hd m).2.1 = decide (m = (Au.all t f l p hd).1) by rw [hcm], show (Au.check t f l p hd m).2.2 = 0 by rw [hcm]]
  (repeat with_reducible first | refine js ?_ | refine ja ?_ | refine jw KL14 [] (aa TF14 (aa @beq_self_eq_true.{0} (aa @Bool.and_self KX))) fun _ => ?_)
  refine .inl (same42W rfl (hm.ext (y7.trans x8)) (sb.ext (x7.trans x8)) fun w9 x9 => ?_)
  unfold hush
  (repeat with_reducible first | refine js ?_ | refine ja ?_ | refine jw KL14 [] (aa TF14 (aa @beq_self_eq_true.{0} KX)) fun _ => ?_)
  refine Run_ret ?_
  simp [Rets, RetM, resV, fnd, oneOr]
  exact y7.trans (x8.trans x9)
end Go.Proofs.YtoadfmgnpmcbfaaGreat
