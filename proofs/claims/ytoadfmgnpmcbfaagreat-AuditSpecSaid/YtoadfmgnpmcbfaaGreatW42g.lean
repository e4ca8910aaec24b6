/- Chapter 42: the reference's Check, Few. -/
import Derived.Test.YtoadfmgnpmcbfaaGreatW42f
import Derived.Test.YtoadfmgnpmcbfaaGreatW22k
namespace Go.Proofs.YtoadfmgnpmcbfaaGreat
open Go Go.Fk
set_option linter.unusedSimpArgs false
set_option linter.unusedVariables false
set_option maxRecDepth 100000

theorem book_w {t : TimeD} {f : TariffD} {l : List OrderD} {p : PlanD} {hd : List Int} (hok : Au.Ok t f l p hd) (hR : p.Runs.length ≤ 70) : (∀ m ∈ Au.book t f l p hd, Ec.MvOk m) ∧ (Au.book t f l p hd).length ≤ 1264 := by
  have h64 := hok.e.o.n
  have h1 := Au.pre_len hok hR
  have h2 := Au.asked_len hok hR
  unfold Au.book
  split
  · exact ⟨fun m hm => (Au.num_mv (Au.pre_mv hok hR) 0 m hm).ok, by rw [Au.num_len]; omega⟩
  · rename_i h
    exact ⟨fun m hm => (Au.num_mv (Au.asked_mv hok hR (by omega)) 0 m hm).ok, by rw [Au.num_len]; omega⟩
theorem rerr42W {vl u0 u1 u2 vo v0 v1 v2 vh : Value} {t : TimeD} {f : TariffD} {l : List OrderD} {p : PlanD} {hd : List Int} {w : World} {K : Value → World → Prop} (hl : Sl w vl t.Lines) (hT : TarR w f u0 u1 u2) (ho : Sl w vo l) (hP : PlanR w p v0 v1 v2) (hh : Sl w vh hd)
    (hK : ∀ w', Ext w w' → K (.int .i64 (Au.err t f l p hd)) w') : CallW Tryz.prog (.func (.func 31) #[] #[]) [.agg #[.int .i64 t.Offices, vl], .agg #[u0, u1, u2], vo, .agg #[v0, v1, v2], vh] w K :=
  CallW_pure call31 (rfError42 vl u0 u1 u2 vo v0 v1 v2 vh t f l p hd w hl hT ho hP hh) hK
set_option maxHeartbeats 1000000 in
theorem rfCheck42 (vl u0 u1 u2 vo v0 v1 v2 vh vm : Value) (t : TimeD) (f : TariffD) (l : List OrderD) (p : PlanD) (hd : List Int) (m : List MoveD) (w : World) (hl : Sl w vl t.Lines) (hT : TarR w f u0 u1 u2) (ho : Sl w vo l) (hP : PlanR w p v0 v1 v2) (hh : Sl w vh hd) (hm : Sl w vm m) (hR : p.Runs.length ≤ 70) :
    Calls Tryz.prog 30 #[.agg (t.cs vl).toArray, .agg (f.cs u0 u1 u2).toArray, vo, .agg (p.cs v0 v1 v2).toArray, vh, vm] w fun e w' => e = .returned (.tuple #[.int .i64 (Au.check t f l p hd m).1, .bool (Au.check t f l p hd m).2.1, .int .i64 (Au.check t f l p hd m).2.2]) ∧ Ext w w' := by
  refine Calls_of_Run (args := [.agg (t.cs vl).toArray, .agg (f.cs u0 u1 u2).toArray, vo, .agg (p.cs v0 v1 v2).toArray, vh, vm]) (n := 70) (rs := [.tmp 12, .tmp 13, .tmp 14]) Tryz.func30 rfl rfl rfl (by simp) ?_
  (repeat with_reducible first | refine js ?_ | refine ja ?_ | refine jw KL30 [8] TF30 fun _ => ?_)
  refine SemW_box fun pt w1 h1 => SemW_box fun pf w2 h2 => SemW_box fun pp w3 h3 => ?_
  have x3 := h1.ext.trans (h2.ext.trans h3.ext)
  have T : ∀ w', Ext w3 w' → AtN w' pt 0 (t.cs vl) := fun w' x => (h1.at_.ext (h2.ext.trans (h3.ext.trans x))).n
  have F : ∀ w', Ext w3 w' → AtN w' pf 0 (f.cs u0 u1 u2) := fun w' x => (h2.at_.ext (h3.ext.trans x)).n
  have P : ∀ w', Ext w3 w' → AtN w' pp 0 (p.cs v0 v1 v2) := fun w' x => (h3.at_.ext x).n
  simp only [TimeD.cs, TariffD.cs, PlanD.cs, AtN, KS, Nat.reduceAdd, Nat.reduceMul, Nat.reduceEqDiff, ↓reduceIte, UT] at T F P
  have t3 := T w3 (Ext.refl _)
  have f3 := F w3 (Ext.refl _)
  have p3 := P w3 (Ext.refl _)
  have hchk : Au.check t f l p hd m = if Au.err t f l p hd ≠ 0 then (0, false, Au.err t f l p hd) else (((Au.scan 0 0 (Au.book t f l p hd) m).1 : Int), (Au.scan 0 0 (Au.book t f l p hd) m).2, 0) := rfl
  (repeat with_reducible first | refine js ?_ | refine ja ?_ | refine jw KL30 [8] (aa TF30 (aa t3 (aa f3 p3))) fun _ => ?_)
  refine rerr42W (hl.ext x3) (hT.ext x3) (ho.ext x3) (hP.ext x3) (hh.ext x3) fun w4 x4 => ?_
  have y4 := x3.trans x4
  (repeat with_reducible first | refine js ?_ | refine ja ?_ | refine jw KL30 [8] TF30 fun _ => ?_)
  refine Run_condS (fun _ => rfl) (fun h => ?_) (fun h => ?_)
  · simp at h
    rw [if_pos h] at hchk
    rw [hchk]
    (repeat with_reducible first | refine js ?_ | refine ja ?_ | refine jw KL30 [8] TF30 fun _ => ?_)
    refine Run_ret ?_
    simp [Rets, RetM, resV, fnd, oneOr, y4]
  simp at h
  have hok := Au.err_ok h
  rw [if_neg (by simp [h])] at hchk
  clear h
  have t4 := T w4 x4
  have f4 := F w4 x4
  have p4 := P w4 x4
  obtain ⟨hbm, hbl⟩ := book_w hok hR
  (repeat with_reducible first | refine js ?_ | refine ja ?_ | refine jw KL30 [8] (aa TF30 (aa t4 (aa f4 p4))) fun _ => ?_)
  refine CallW_gen call68 (rfBook42 vl u0 u1 u2 vo v0 v1 v2 vh t f l p hd w4 (hl.ext y4) (hT.ext y4) (ho.ext y4) (hP.ext y4) (hh.ext y4) hok hR) fun e w5 ⟨vb, he, x5, sb⟩ => ⟨_, he, ?_⟩
  have y5 := y4.trans x5
  generalize Au.book t f l p hd = b at *
  have hsc := fun k => scan_stop b m (k := k)
  have hse := scan_end b m
  have hml := hm.len
  have hms := hm.small
  have hvb := sb.len
  (repeat with_reducible first | refine js ?_ | refine ja ?_ | refine jw KL30 [8] TF30 fun _ => ?_)
  refine Run_loopV [12, 13, 14, 17, 36, 61] (σ := Nat) (fun i => [(17, some (.int .i64 i))]) (fun i w' => i ≤ m.length ∧ (∀ j, j < i → j < b.length ∧ m[j]? = b[j]? ∧ 0 ≤ Ec.eff (b.take (j + 1)) 1) ∧ Ext w5 w') (fun i => m.length - i) 0 (by simp [SubB, fnd]) ⟨by omega, by simp, Ext.refl _⟩ ?_
  rintro i w6 ⟨hi, ha, x6⟩
  have y6 := y5.trans x6
  have hib : i ≤ b.length := by
    by_cases e : i = 0
    · omega
    · have := (ha (i - 1) (by omega)).1; omega
  (repeat with_reducible first | refine js ?_ | refine ja ?_ | refine jw KL30 [8] (aa TF30 (aa hm.s hm.len)) fun _ => ?_)
  refine Run_condS (fun _ => rfl) (fun h => ?_) (fun h => ?_)
  · simp at h
    have him := h
    by_cases hbi : i < b.length
    · have d0 : decide ((b.length : Int) ≤ i) = false := by simp; omega
      obtain ⟨g1, _⟩ := (hm.ext y6).moveD him
      obtain ⟨g2, _⟩ := (sb.ext x6).moveD hbi
      have hst := hsc i hbi ha
      have hgo : m[i]? = b[i]? → 0 ≤ Ec.eff (b.take (i + 1)) 1 → ∀ j, j < i + 1 → j < b.length ∧ m[j]? = b[j]? ∧ 0 ≤ Ec.eff (b.take (j + 1)) 1 := fun h1 h2 j hj => by
        by_cases e : j = i
        · subst e; exact ⟨hbi, h1, h2⟩
        · exact ha j (by omega)
      have hF : ∀ w7, Ext w6 w7 → PC Tryz.prog (Ext w7) (.func (.func 69) #[] #[]) [slSub 6 vb 0 (i + 1) (slCap vb)] (.int .i64 (Ec.eff (b.take (i + 1)) 1)) := fun w7 x7 => PC_pure call69 fun w8 x8 => by
        have hs : Sl w8 (slSub 6 vb 0 (i + 1) (slCap vb)) ((b.take (i + 1)).drop 0) := (sb.ext (x6.trans (x7.trans x8))).sub (l := 0) (r := i + 1) (m := slCap vb) (by omega) (by omega) (by have := sb.cap; omega) (Nat.le_refl _)
        rw [List.drop_zero] at hs
        exact rfFund42 _ _ w8 hs (fun x hx => hbm x (List.mem_of_mem_take hx)) (by simp; omega)
      rw [List.getElem?_eq_getElem him, List.getElem?_eq_getElem hbi] at hst hgo
      simp only [MoveD.cs, AtN, KS, Nat.reduceAdd, Nat.reduceMul, Nat.reduceEqDiff, ↓reduceIte, UT] at g1 g2
      generalize m[i] = z at *
      generalize b[i] = y at *
      generalize Ec.eff (b.take (i + 1)) 1 = fu at *
      (repeat with_reducible first | refine js ?_ | refine ja ?_ | refine jw KL30 [8] (aa TF30 (aa hm.s (aa hm.len (aa sb.s (aa sb.len (aa d0 (aa g1 (aa g2 KX)))))))) fun _ => ?_)
      refine ⟨by kernel_rfl, fun _ => ⟨by omega, by omega, by have := sb.cap; omega⟩, .int .i64 fu, fun _ => hF w6 (Ext.refl _), fun _ => rfl, fun w7 x7 => ?_⟩
      simp only [iOf_mk]
      rw [eqM2]
      refine Run_condS (fun _ => rfl) (fun h => ?_) (fun h => ?_)
      · have hst2 := hst fun e => by
          have e' := Option.some.inj e
          subst e'
          simp at h
          exact of_decide_eq_true h
        rw [hst2] at hchk
        rw [hchk]
        (repeat with_reducible first | refine js ?_ | refine ja ?_ | refine jw KL30 [8] TF30 fun _ => ?_)
        refine Run_ret ?_
        simp [Rets, RetM, resV, fnd, oneOr, y6.trans x7]
      · simp at h
        obtain ⟨hzy, hfu⟩ := h
        have hfu := of_decide_eq_false hfu
        (repeat with_reducible first | refine js ?_ | refine ja ?_ | refine jw KL30 [8] TF30 fun _ => ?_)
        refine Run_lp ⟨i + 1, ?_, ⟨by omega, hgo (by rw [hzy]) (by omega), x6.trans x7⟩, by omega⟩
        simp [SubB, fnd, strike, has]
    · obtain rfl : i = b.length := by omega
      have d0 : decide ((b.length : Int) ≤ (b.length : Int)) = true := by simp
      have hs2 := hse ha
      rw [if_pos him] at hs2
      rw [hs2] at hchk
      rw [hchk]
      (repeat with_reducible first | refine js ?_ | refine ja ?_ | refine jw KL30 [8] (aa TF30 (aa sb.s (aa sb.len (aa d0 KX)))) fun _ => ?_)
      refine ⟨by kernel_rfl, undef, fun w7 x7 => ?_⟩
      refine Run_condS (fun _ => rfl) (fun _ => ?_) (fun h => by cases h)
      (repeat with_reducible first | refine js ?_ | refine ja ?_ | refine jw KL30 [8] TF30 fun _ => ?_)
      refine Run_ret ?_
      simp [Rets, RetM, resV, fnd, oneOr, y6.trans x7]
  · simp at h
    obtain rfl : i = m.length := by omega
    (repeat with_reducible first | refine js ?_ | refine ja ?_ | refine jw KL30 [8] (aa TF30 (aa hm.s (aa hm.len (aa sb.s sb.len)))) fun _ => ?_)
    refine Run_condS (fun _ => rfl) (fun h => ?_) (fun h => ?_)
    · simp at h
      have hst := hsc m.length (by omega) ha fun e => by
        rw [List.getElem?_eq_none (Nat.le_refl _), List.getElem?_eq_getElem (by omega)] at e; cases e
      rw [hst] at hchk
      rw [hchk]
      (repeat with_reducible first | refine js ?_ | refine ja ?_ | refine jw KL30 [8] (aa TF30 (aa hm.s hm.len)) fun _ => ?_)
      refine Run_ret ?_
      simp [Rets, RetM, resV, fnd, oneOr, y6]
    · simp at h
      have hs2 := hse fun j hj => ha j (by omega)
      rw [if_neg (by omega)] at hs2
      rw [hs2] at hchk
      rw [hchk]
      (repeat with_reducible first | refine js ?_ | refine ja ?_ | refine jw KL30 [8] TF30 fun _ => ?_)
      refine Run_ret ?_
      simp [Rets, RetM, resV, fnd, oneOr, y6]
theorem fewPl42 {p : PlanD} {v0 v1 v2 : Value} {w : World} {K : Value → World → Prop} (hP : PlanR w p v0 v1 v2) (hK : ∀ w', Ext w w' → K (.bool (fewPl p)) w') : CallW Tryz.prog (.func (.func 45) #[] #[]) [.agg #[v0, v1, v2]] w K := CallW_pure call45 (rfFewPlan v0 v1 v2 p w hP) hK
set_option maxHeartbeats 2000000 in
theorem rfFew42 (vl u0 u1 u2 vo v0 v1 v2 vh vm : Value) (t : TimeD) (f : TariffD) (l : List OrderD) (p : PlanD) (hd : List Int) (m : List MoveD) (w : World) (hl : Sl w vl t.Lines) (hT : TarR w f u0 u1 u2) (ho : Sl w vo l) (hP : PlanR w p v0 v1 v2) (hh : Sl w vh hd) (hm : Sl w vm m) :
    Calls Tryz.prog 28 #[.agg (t.cs vl).toArray, .agg (f.cs u0 u1 u2).toArray, vo, .agg (p.cs v0 v1 v2).toArray, vh, vm] w fun e w' => ∃ b : Bool, e = .returned (.bool b) ∧ Ext w w' ∧ (b = true → l.length ≤ 8 ∧ fewPl p = true ∧ m.length ≤ 300) := by
  have l1 := hT.b.len
  have l2 := hT.l.len
  have l3 := hT.t.len
  have l4 := ho.len
  have l5 := hh.len
  have l6 := hm.len
  refine Calls_of_Run (args := [.agg (t.cs vl).toArray, .agg (f.cs u0 u1 u2).toArray, vo, .agg (p.cs v0 v1 v2).toArray, vh, vm]) (n := 52) (rs := [.tmp 12]) Tryz.func28 rfl rfl rfl (by simp) ?_
  (repeat with_reducible first | refine js ?_ | refine ja ?_ | refine jw KL28 [] TF28 fun _ => ?_)
  refine SemW_box fun pt w1 h1 => SemW_box fun pf w2 h2 => SemW_box fun pp w3 h3 => ?_
  have x3 := h1.ext.trans (h2.ext.trans h3.ext)
  have T : ∀ w', Ext w3 w' → AtN w' pt 0 (t.cs vl) := fun w' x => (h1.at_.ext (h2.ext.trans (h3.ext.trans x))).n
  have F : ∀ w', Ext w3 w' → AtN w' pf 0 (f.cs u0 u1 u2) := fun w' x => (h2.at_.ext (h3.ext.trans x)).n
  have P : ∀ w', Ext w3 w' → AtN w' pp 0 (p.cs v0 v1 v2) := fun w' x => (h3.at_.ext x).n
  simp only [TimeD.cs, TariffD.cs, PlanD.cs, AtN, KS, Nat.reduceAdd, Nat.reduceMul, Nat.reduceEqDiff, ↓reduceIte, UT] at T F P
  have t3 := T w3 (Ext.refl _)
  (repeat with_reducible first | refine js ?_ | refine ja ?_ | refine jw KL28 [] (aa TF28 t3) fun _ => ?_)
  refine CallW_gen call44 (rfFewTable vl t w3 (hl.ext x3)) fun e w4 ⟨b, he, x4, hb⟩ => ⟨_, he, ?_⟩
  have y4 := x3.trans x4
  have f4 := F w4 x4
  have p4 := P w4 x4
  (repeat with_reducible first | refine js ?_ | refine ja ?_ | refine jw KL28 [] (aa TF28 (aa f4 (aa p4 (aa hT.b.s (aa hT.b.len (aa hT.l.s (aa hT.l.len (aa hT.t.s (aa hT.t.len (aa ho.s (aa ho.len (aa hh.s (aa hh.len (aa hm.s (aa hm.len KX))))))))))))))) fun _ => ?_)
  refine .inr ⟨.bool (fewPl p), fun _ => PC_pure call45 fun w5 x5 => rfFewPlan v0 v1 v2 p w5 (hP.ext (y4.trans x5)), fun w5 x5 => ?_⟩
  unfold hush
  (repeat with_reducible first | refine js ?_ | refine ja ?_ | refine jw KL28 [] (aa TF28 (aa f4 (aa p4 (aa hT.b.s (aa hT.b.len (aa hT.l.s (aa hT.l.len (aa hT.t.s (aa hT.t.len (aa ho.s (aa ho.len (aa hh.s (aa hh.len (aa hm.s (aa hm.len KX))))))))))))))) fun _ => ?_)
  refine Run_ret ?_
  simp only [Rets, RetM, resV, fnd, oneOr, ↓reduceIte]
  refine ⟨_, rfl, _, rfl, y4.trans x5, fun h => ?_⟩
  simp only [Bool.and_eq_true, decide_eq_true_eq] at h
  obtain ⟨⟨⟨⟨⟨⟨⟨g1, g2⟩, g3⟩, g4⟩, g5⟩, g6⟩, g7⟩, g8⟩ := h
  exact ⟨by omega, g6, by omega⟩
end Go.Proofs.YtoadfmgnpmcbfaaGreat
