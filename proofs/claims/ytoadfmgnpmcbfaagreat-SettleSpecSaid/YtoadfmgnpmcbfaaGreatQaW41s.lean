import Derived.Test.YtoadfmgnpmcbfaaGreatQaG7
import Derived.Test.YtoadfmgnpmcbfaaGreatQaW39q
import Derived.Test.YtoadfmgnpmcbfaaGreatQaG6
import Derived.Test.YtoadfmgnpmcbfaaGreatQaGq
/- Chapter 41: the reference's All. -/
namespace Go.Proofs.YtoadfmgnpmcbfaaGreat
open Go Go.Fk
set_option linter.unusedSimpArgs false
set_option linter.unusedVariables false
set_option maxRecDepth 100000
theorem fund41W {v : Value} {l : List MoveD} {w : World} {K : Value → World → Prop} (hl : Sl w v l) (hI : ∀ m ∈ l, 0 ≤ m.Amount ∧ m.Amount ≤ 1099511627776) (hn : l.length ≤ 4096) (hK : ∀ w', Ext w w' → K (.int .i64 (Ec.eff l 1)) w') :
    CallW Tryz.prog (.func (.func 86) #[] #[]) [v] w K := CallW_pure call86 (rfFund41 v l w hl hI hn) hK
set_option maxHeartbeats 4000000 in
theorem rfAll41 (vl u0 u1 u2 vo v0 v1 v2 vh : Value) (t : TimeD) (f : TariffD) (l : List OrderD) (p : PlanD) (hd : List Int) (w : World) (hl : Sl w vl t.Lines) (hT : TarR w f u0 u1 u2) (ho : Sl w vo l) (hP : PlanR w p v0 v1 v2) (hh : Sl w vh hd) (hR : p.Runs.length ≤ 70) (hl64 : l.length ≤ 64) :
    Calls Tryz.prog 37 #[.agg (t.cs vl).toArray, .agg (f.cs u0 u1 u2).toArray, vo, .agg (p.cs v0 v1 v2).toArray, vh] w (MvR w (Au.all t f l p hd)) := by
  have hol := ho.len
  have hrl := hP.r.len
  have hhl := hh.len
  have hhs := hh.small
  refine Calls_of_Run (args := [.agg (t.cs vl).toArray, .agg (f.cs u0 u1 u2).toArray, vo, .agg (p.cs v0 v1 v2).toArray, vh]) (n := 118) (rs := [.tmp 10, .tmp 11]) Tryz.func37 rfl rfl rfl (by simp) ?_
  (repeat with_reducible first | refine js ?_ | refine ja ?_ | refine jw KL37 [9, 16] TF37 fun _ => ?_)
  refine SemW_box fun pt w1 h1 => SemW_box fun pf w2 h2 => SemW_box fun pp w3 h3 => ?_
  have x3 := h1.ext.trans (h2.ext.trans h3.ext)
  have T : ∀ w', Ext w3 w' → AtN w' pt 0 (t.cs vl) := fun w' x => (h1.at_.ext (h2.ext.trans (h3.ext.trans x))).n
  have F : ∀ w', Ext w3 w' → AtN w' pf 0 (f.cs u0 u1 u2) := fun w' x => (h2.at_.ext (h3.ext.trans x)).n
  have P : ∀ w', Ext w3 w' → AtN w' pp 0 (p.cs v0 v1 v2) := fun w' x => (h3.at_.ext x).n
  simp only [TimeD.cs, TariffD.cs, PlanD.cs, AtN, KS, Nat.reduceAdd, Nat.reduceMul, Nat.reduceEqDiff, ↓reduceIte, UT] at T F P
  have t3 := T w3 (Ext.refl _)
  have f3 := F w3 (Ext.refl _)
  have p3 := P w3 (Ext.refl _)
  (repeat with_reducible first | refine js ?_ | refine ja ?_ | refine jw KL37 [9, 16] (aa TF37 (aa t3 (aa f3 p3))) fun _ => ?_)
  refine CallW_cl call19 (rfPost39O vl u0 u1 u2 vo v0 v1 v2 t f l p w3 (hl.ext x3) (hT.ext x3) (ho.ext x3) (hP.ext x3)) (fun e w4 ⟨vm, he, x4, sl4, b4⟩ => ⟨_, he, ?_⟩) (he := by simp [TimeD.cs, TariffD.cs, PlanD.cs])
  have y4 := x3.trans x4
  (repeat with_reducible first | refine js ?_ | refine ja ?_ | refine jw KL37 [9, 16] TF37 fun _ => ?_)
  refine Run_condS (fun _ => rfl) (fun h => ?_) (fun h => ?_)
  · have hc : (Ec.post t f l p).2 ≠ 0 := by simpa using h
    have he : Ec.err t f l p ≠ 0 := fun e => hc (by unfold Ec.post; rw [if_neg (by simp [e])])
    have hp : Ec.post t f l p = ([], Ec.err t f l p) := by unfold Ec.post; rw [if_pos he]
    have ha : Au.all t f l p hd = ([], Ec.err t f l p) := by
      have : Au.err t f l p hd = Ec.err t f l p := by unfold Au.err; rw [if_pos he]
      unfold Au.all; rw [if_pos (by rw [this]; exact he), this]
    rw [hp]
    (repeat with_reducible first | refine js ?_ | refine ja ?_ | refine jw KL37 [9, 16] TF37 fun _ => ?_)
    refine Run_ret ?_
    rw [ha]
    simp [Rets, RetM, resV, fnd, oneOr, MvR]
    exact ⟨y4, Sl.nil _⟩
  have hc : (Ec.post t f l p).2 = 0 := by simpa using h
  clear h
  have he : Ec.err t f l p = 0 := Decidable.byContradiction fun e => by
    have hp : Ec.post t f l p = ([], Ec.err t f l p) := by unfold Ec.post; rw [if_pos e]
    rw [hp] at hc; exact e hc
  have hk := Ec.err_ok he
  have hp : Ec.post t f l p = (Ec.posts t f l p l.length, 0) := by unfold Ec.post; rw [if_neg (by simp [he])]
  rw [hp] at b4 sl4 ⊢
  simp only at b4 sl4
  have p4 := P w4 x4
  have s4 := x4.size
  (repeat with_reducible first | refine js ?_ | refine ja ?_ | refine jw KL37 [9, 16] (aa TF37 (aa p4 (aa hh.s (aa hhl (aa hP.r.s hrl))))) fun _ => ?_)
  refine Run_condS (fun _ => rfl) (fun h => ?_) (fun h => ?_)
  · have hne : hd.length ≠ p.Runs.length := by simp at h; omega
    have ha : Au.all t f l p hd = ([], 1) := by
      have : Au.err t f l p hd = 1 := by unfold Au.err; rw [if_neg (by simp [he]), if_pos hne]
      unfold Au.all; rw [if_pos (by rw [this]; decide), this]
    (repeat with_reducible first | refine js ?_ | refine ja ?_ | refine jw KL37 [9, 16] TF37 fun _ => ?_)
    refine Run_ret ?_
    rw [ha]
    simp [Rets, RetM, resV, fnd, oneOr, MvR]
    exact ⟨y4, Sl.nil _⟩
  have hlen : hd.length = p.Runs.length := by simp at h; omega
  clear h
  have hpl := Ec.posts_len t f l p l.length
  (repeat with_reducible first | refine js ?_ | refine ja ?_ | refine jw KL37 [9, 16] TF37 fun _ => ?_)
  refine Run_loopV [10, 11, 12, 14, 15, 16, 43, 60] (σ := Nat × Value) (fun q => [(14, some (.int .i64 q.1)), (12, some q.2)]) (fun q w' => q.1 ≤ hd.length ∧ (∀ j, j < q.1 → 0 ≤ hd.getD j 0 ∧ hd.getD j 0 ≤ ((Ec.lineP t p j).Legs.length : Int)) ∧ BufO (α := MoveD) 70 w3.heap.size w' q.2 (Ec.posts t f l p l.length ++ Au.cat (Au.runPays t f l p hd) q.1) ∧ Ext w3 w')
    (fun q => hd.length - q.1) (0, vm) (by simp [SubB, fnd]) ⟨by simp, by simp, by simpa [Au.cat_nil] using b4, x4⟩ ?_
  rintro ⟨k, vk⟩ w5 ⟨hkn, hin, hB, x5⟩
  simp only at hkn hin hB
  have y5 := x3.trans x5
  (repeat with_reducible first | refine js ?_ | refine ja ?_ | refine jw KL37 [9, 16] (aa TF37 (aa hh.s hhl)) fun _ => ?_)
  refine Run_condS (fun _ => rfl) (fun h => ?_) (fun h => ?_)
  · simp at h
    have hkl : k < hd.length := by omega
    have hcast : (k : Int) < hd.length := by omega
    clear h
    (repeat with_reducible first | refine jq ?_ | refine jk ?_ | refine jc ?_ | refine jl ?_ | refine jb ?_ | refine jo ?_ | refine ji ?_ | refine jx rfl ?_)
    refine Run_ec (id := 9) KL37 (.first 0 (.first 1 (.first 2 (.first 3 (.first 4 (.first 5 (.first 6 (.first 7 (.first 8 (.alt 9 (.first 10 (.first 11 (.first 12 (.first 13 (.first 14 .done))))) .stop)))))))))) mixed (by kernel_rfl) (by kernel_rfl) fun w6 x6 _ => ?_
    have z6 := x5.trans x6
    have y6 := x3.trans z6
    have t6 := T w6 z6
    have f6 := F w6 z6
    have p6 := P w6 z6
    obtain ⟨m2, a2, i2⟩ := (hh.ext y6).get hkl
    (try simp (maxSteps := 5000000) only [KS, Nat.reduceAdd, Nat.reduceMul, Nat.reduceEqDiff, ↓reduceIte, forall_const, Int.cast_ofNat_Int, Int.reduceToNat, List.take_succ_cons, List.take_zero, List.drop_succ_cons, List.drop_zero, TF37, KL37, ec, t6, f6, p6, hh.s, hhl, hkl, hcast, m2, a2]); (try simp (disch := omega) only [wrapI, tmodI, tdivI])
    have hcat : (Au.cat (Au.runPays t f l p hd) k).length ≤ 576 * k := Au.catP_len hk hl64 k (by omega) fun j hj => by
      have := hin j hj
      unfold Au.hn; omega
    refine ⟨by omega, Ext.refl _, CallW_cl call22 (rfPay39 vl u0 u1 u2 vo v0 v1 v2 t f l p k hd[k] w6 (hl.ext y6) (hT.ext y6) (ho.ext y6) (hP.ext y6) (by unfold I64; omega)) (fun e w7 ⟨vx, he7, x7, s7⟩ => ⟨_, he7, ?_⟩) (he := by simp [TimeD.cs, TariffD.cs, PlanD.cs])⟩
    have hgd : hd.getD k 0 = hd[k] := by rw [List.getD_eq_getElem?_getD, List.getElem?_eq_getElem hkl]; rfl
    have hpg : Ec.pay t f l p k hd[k] = Au.payG t f l p hd k := by unfold Au.payG; rw [hgd]
    rw [hpg] at s7 ⊢
    have hB7 := hB.keepQ (Keep.of_ext (S := fun _ => True) (x6.trans x7)) fun _ _ => trivial
    have z7 := (z6.trans x7).size
    rcases Au.payG_or (h := hd) (l := l) (f := f) he k with h0 | h0
    · have hh0 : Au.hn hd k ≤ (Ec.lineP t p k).Legs.length := by unfold Au.hn; omega
      have hpay := Au.pay_ok (h := hd) hk he (show k < p.Runs.length by omega) h0
      have hple := Au.runPays_len (h := hd) hk hl64 (show k < p.Runs.length by omega) hh0
      rw [hpay] at s7 ⊢
      simp only at s7
      (try simp (maxSteps := 5000000) only [KS, Nat.reduceAdd, Nat.reduceMul, Nat.reduceEqDiff, ↓reduceIte, forall_const, Int.cast_ofNat_Int, Int.reduceToNat, List.take_succ_cons, List.take_zero, List.drop_succ_cons, List.drop_zero, TF37, KL37, ec]); (try simp (disch := omega) only [wrapI, tmodI, tdivI])
      refine ⟨by decide, by decide, x7, ?_⟩
      (repeat with_reducible first | refine js ?_ | refine ja ?_ | refine jw KL37 [9, 16] TF37 fun _ => ?_)
      refine Run_condS (fun _ => rfl) (fun h => ?_) (fun h => ?_)
      · exact absurd h (by decide)
      (repeat with_reducible first | refine js ?_ | refine ja ?_ | refine jw KL37 [9, 16] TF37 fun _ => ?_)
      refine SemW_appendFO (α := MoveD) Tryz.underlying35 ti70 rfl (by decide) hB7 (by omega) s7 (by rw [List.length_append, hpl]; simp only [maxLen]; omega) fun v' w8 b8 k8 => ?_
      (repeat with_reducible first | refine js ?_ | refine ja ?_ | refine jw KL37 [9, 16] TF37 fun _ => ?_)
      refine Run_lp ⟨(k + 1, v'), by simp [SubB, fnd, strike, has], ⟨by simp only; omega, ?_, ?_, ?_⟩, by simp only; omega⟩
      · intro j hj
        simp only at hj
        rcases Nat.lt_or_ge j k with h1 | h1
        · exact hin j h1
        · obtain rfl : j = k := by omega
          exact h0
      · rw [List.append_assoc] at b8
        exact b8
      · exact Keep.ext (z6.trans x7) k8 fun b hb e => by have := (hB7.own_lt e.symm).1; omega
    · rw [h0] at s7 ⊢
      have ha : Au.all t f l p hd = ([], 1) := by
        have hno : Au.hOk t p hd ≠ true := fun ho => by
          have := List.all_eq_true.1 ho k (by simpa using hkl)
          have h1 : 0 ≤ hd.getD k 0 ∧ hd.getD k 0 ≤ ((Ec.lineP t p k).Legs.length : Int) := by simpa using this
          have := Au.pay_ok (h := hd) hk he (show k < p.Runs.length by omega) h1
          rw [h0] at this
          have := congrArg Prod.snd this
          simp at this
        have : Au.err t f l p hd = 1 := by unfold Au.err; rw [if_neg (by simp [he]), if_neg (by simp [hlen]), if_neg hno]
        unfold Au.all; rw [if_pos (by rw [this]; decide), this]
      (try simp (maxSteps := 5000000) only [KS, Nat.reduceAdd, Nat.reduceMul, Nat.reduceEqDiff, ↓reduceIte, forall_const, Int.cast_ofNat_Int, Int.reduceToNat, List.take_succ_cons, List.take_zero, List.drop_succ_cons, List.drop_zero, TF37, KL37, ec]); (try simp (disch := omega) only [wrapI, tmodI, tdivI])
      refine ⟨by decide, by decide, x7, ?_⟩
      (repeat with_reducible first | refine js ?_ | refine ja ?_ | refine jw KL37 [9, 16] TF37 fun _ => ?_)
      refine Run_condS (fun _ => rfl) (fun h => ?_) (fun h => ?_)
      rotate_left
      · exact absurd h (by decide)
      (repeat with_reducible first | refine js ?_ | refine ja ?_ | refine jw KL37 [9, 16] TF37 fun _ => ?_)
      refine Run_ret ?_
      rw [ha]
      simp [Rets, RetM, resV, fnd, oneOr, MvR]
      exact ⟨y6.trans x7, Sl.nil _⟩
  · simp at h
    obtain rfl : k = hd.length := by omega
    clear h
    have ho' : Au.hOk t p hd = true := by
      unfold Au.hOk
      rw [List.all_eq_true]
      intro j hj
      have := hin j (by simpa using hj)
      simpa using this
    have h0 : Au.err t f l p hd = 0 := by unfold Au.err; rw [if_neg (by simp [he]), if_neg (by simp [hlen]), if_pos ho']
    have hK := Au.err_ok h0
    have hcatP : (Au.cat (Au.runPays t f l p hd) hd.length).length ≤ 576 * hd.length := Au.catP_len hk hl64 _ (by omega) fun j hj => by
      have := hin j hj
      unfold Au.hn; omega
    have hcatC : ∀ k, k ≤ hd.length → (Au.cat (Au.runCovs t f p hd) k).length ≤ 8 * k := fun k hk => Au.catCovs_len hK k (by omega)
    (repeat with_reducible first | refine js ?_ | refine ja ?_ | refine jw KL37 [9, 16] TF37 fun _ => ?_)
    refine Run_loopV [10, 11, 12, 17, 18, 19, 68, 84] (σ := Nat × Value) (fun q => [(17, some (.int .i64 q.1)), (12, some q.2)]) (fun q w' => q.1 ≤ hd.length ∧ BufO (α := MoveD) 70 w3.heap.size w' q.2 (Ec.posts t f l p l.length ++ Au.cat (Au.runPays t f l p hd) hd.length ++ Au.cat (Au.runCovs t f p hd) q.1) ∧ Ext w3 w')
      (fun q => hd.length - q.1) (0, vk) (by simp [SubB, fnd]) ⟨by simp, by simpa [Au.cat_nil] using hB, x5⟩ ?_
    clear hB x5 y5
    rintro ⟨k, vk⟩ w5 ⟨hkn, hB, x5⟩
    simp only at hkn hB
    have y5 := x3.trans x5
    have hcC := hcatC k hkn
    (repeat with_reducible first | refine js ?_ | refine ja ?_ | refine jw KL37 [9, 16] (aa TF37 (aa hh.s hhl)) fun _ => ?_)
    refine Run_condS (fun _ => rfl) (fun h => ?_) (fun h => ?_)
    · simp at h
      have hkl : k < hd.length := by omega
      have hcast : (k : Int) < hd.length := by omega
      clear h
      (repeat with_reducible first | refine jq ?_ | refine jk ?_ | refine jc ?_ | refine jl ?_ | refine jb ?_ | refine jo ?_ | refine ji ?_ | refine jx rfl ?_)
      refine Run_ec (id := 16) KL37 (.first 0 (.first 1 (.first 2 (.first 3 (.first 4 (.first 5 (.first 6 (.first 7 (.alt 8 (.first 9 (.first 10 (.first 11 (.first 12 (.first 13 .done))))) .stop))))))))) mixed (by kernel_rfl) (by kernel_rfl) fun w6 x6 _ => ?_
      have z6 := x5.trans x6
      have y6 := x3.trans z6
      have t6 := T w6 z6
      have f6 := F w6 z6
      have p6 := P w6 z6
      obtain ⟨m2, a2, i2⟩ := (hh.ext y6).get hkl
      have hgd : hd.getD k 0 = hd[k] := by rw [List.getD_eq_getElem?_getD, List.getElem?_eq_getElem hkl]; rfl
      have hcg : Fd.cover t f p k hd[k] = (Au.runCovs t f p hd k, 0) := by
        have := Au.cover_ok hK (show k < p.Runs.length by omega)
        unfold Au.covG at this
        rwa [hgd] at this
      have hcl := Au.runCovs_len hK (show k < p.Runs.length by omega)
      (try simp (maxSteps := 5000000) only [KS, Nat.reduceAdd, Nat.reduceMul, Nat.reduceEqDiff, ↓reduceIte, forall_const, Int.cast_ofNat_Int, Int.reduceToNat, List.take_succ_cons, List.take_zero, List.drop_succ_cons, List.drop_zero, TF37, KL37, ec, t6, f6, p6, hh.s, hhl, hkl, hcast, m2, a2]); (try simp (disch := omega) only [wrapI, tmodI, tdivI])
      refine ⟨by omega, Ext.refl _, CallW_cl call85 (rfCover vl v0 v1 v2 u0 u1 u2 t f p k hd[k] w6 (hl.ext y6) (hT.ext y6) (hP.ext y6) (by unfold I64; omega)) (fun e w7 ⟨vx, he7, x7, s7⟩ => ⟨_, he7, ?_⟩) (he := by simp [TimeD.cs, TariffD.cs, PlanD.cs])⟩
      have hB7 := hB.keepQ (Keep.of_ext (S := fun _ => True) (x6.trans x7)) fun _ _ => trivial
      have z7 := (z6.trans x7).size
      rw [hcg] at s7 ⊢
      simp only at s7
      (try simp (maxSteps := 5000000) only [KS, Nat.reduceAdd, Nat.reduceMul, Nat.reduceEqDiff, ↓reduceIte, forall_const, Int.cast_ofNat_Int, Int.reduceToNat, List.take_succ_cons, List.take_zero, List.drop_succ_cons, List.drop_zero, TF37, KL37, ec]); (try simp (disch := omega) only [wrapI, tmodI, tdivI])
      refine ⟨by decide, by decide, x7, ?_⟩
      (repeat with_reducible first | refine js ?_ | refine ja ?_ | refine jw KL37 [9, 16] TF37 fun _ => ?_)
      refine Run_condS (fun _ => rfl) (fun h => ?_) (fun h => ?_)
      · exact absurd h (by decide)
      (repeat with_reducible first | refine js ?_ | refine ja ?_ | refine jw KL37 [9, 16] TF37 fun _ => ?_)
      refine SemW_appendFO (α := MoveD) Tryz.underlying35 ti70 rfl (by decide) hB7 (by omega) s7 (by rw [List.length_append, List.length_append, hpl]; simp only [maxLen]; omega) fun v' w8 b8 k8 => ?_
      (repeat with_reducible first | refine js ?_ | refine ja ?_ | refine jw KL37 [9, 16] TF37 fun _ => ?_)
      refine Run_lp ⟨(k + 1, v'), by simp [SubB, fnd, strike, has], ⟨by simp only; omega, ?_, ?_⟩, by simp only; omega⟩
      · rw [List.append_assoc] at b8
        exact b8
      · exact Keep.ext (z6.trans x7) k8 fun b hb e => by have := (hB7.own_lt e.symm).1; omega
    simp at h
    obtain rfl : k = hd.length := by omega
    clear h
    have hpre : Ec.posts t f l p l.length ++ Au.cat (Au.runPays t f l p hd) hd.length ++ Au.cat (Au.runCovs t f p hd) hd.length = Au.pre t f l p hd := by
      unfold Au.pre; rw [hlen, List.append_assoc]
    rw [hpre] at hB
    have hpl2 := Au.pre_len hK hR
    have hmv := Au.pre_mv hK hR
    have hp1 := Au.pre_one hK hR
    have hall : Au.all t f l p hd = if Au.negAt (Au.pre t f l p hd) then ([], 381) else (Au.num 0 (Au.asked t f l p hd), 0) := by
      unfold Au.all; rw [if_neg (by simp [h0])]
    have hask : Au.asked t f l p hd = Au.pre t f l p hd ++ Au.shs (Ec.eff (Au.pre t f l p hd) 1) l.length := rfl
    have hnr : l.length = 0 → Au.pre t f l p hd = [] := fun e => by
      have h1 := Au.no_runs hk e
      unfold Au.pre
      rw [h1, e]
      rfl
    clear hpre hcatP hcatC hcC hin hp sl4 b4 hc
    rw [hall]
    generalize Au.pre t f l p hd = X at *
    rw [hask]
    clear hask hall
    have sX := hB.sl (by omega)
    have sXl := sX.len
    (repeat with_reducible first | refine js ?_ | refine ja ?_ | refine jw KL37 [9, 16] TF37 fun _ => ?_)
    refine Run_loopV [10, 11, 20, 92, 99] (σ := Nat) (fun k => [(20, some (.int .i64 k))]) (fun k w' => k ≤ X.length + 1 ∧ (∀ j, j < k → 0 ≤ Ec.eff (X.take j) 1) ∧ Ext w5 w') (fun k => X.length + 1 - k) 0 (by simp [SubB, fnd]) ⟨by simp, by simp, Ext.refl _⟩ ?_
    rintro k w6 ⟨hkx, hnn, x6⟩
    have sX6 := sX.ext x6
    (repeat with_reducible first | refine js ?_ | refine ja ?_ | refine jw KL37 [9, 16] (aa TF37 (aa sX.s sXl)) fun _ => ?_)
    refine Run_condS (fun _ => rfl) (fun h => ?_) (fun h => ?_)
    · simp at h
      have hkl : k ≤ X.length := by omega
      have hcast : (k : Int) ≤ X.length := by omega
      clear h
      have hcap := sX.cap
      (repeat with_reducible first | refine js ?_ | refine ja ?_ | refine jw KL37 [9, 16] (aa TF37 (aa sX.s sXl)) fun _ => ?_)
      have hm2 : ∀ m ∈ X, 0 ≤ m.Amount ∧ m.Amount ≤ 1099511627776 := fun m hm => (hmv m hm).2.2.2.1
      have sub : Sl w6 (slSub 6 vk 0 k (slCap vk)) ((X.take k).drop 0) := sX6.sub (l := 0) (r := k) (m := slCap vk) (by omega) (by omega) (by omega) (Nat.le_refl _)
      rw [List.drop_zero] at sub
      refine fund41W sub (fun m hm => hm2 m (List.mem_of_mem_take hm)) (by rw [List.length_take]; omega) fun w7 x7 => ?_
      (repeat with_reducible first | refine js ?_ | refine ja ?_ | refine jw KL37 [9, 16] TF37 fun _ => ?_)
      refine Run_condS (fun _ => rfl) (fun h => ?_) (fun h => ?_)
      · have hneg : Ec.eff (X.take k) 1 < 0 := by simpa using h
        have hn : Au.negAt X = true := Au.negAt_iff.2 ⟨k, hkl, hneg⟩
        rw [hn, if_pos rfl]
        (repeat with_reducible first | refine js ?_ | refine ja ?_ | refine jw KL37 [9, 16] TF37 fun _ => ?_)
        refine Run_ret ?_
        simp [Rets, RetM, resV, fnd, oneOr, MvR]
        exact ⟨y5.trans (x6.trans x7), Sl.nil _⟩
      have hpos : 0 ≤ Ec.eff (X.take k) 1 := by simpa using h
      clear h
      (repeat with_reducible first | refine js ?_ | refine ja ?_ | refine jw KL37 [9, 16] TF37 fun _ => ?_)
      refine Run_lp ⟨k + 1, by simp [SubB, fnd, strike, has], ⟨by omega, fun j hj => ?_, x6.trans x7⟩, by omega⟩
      rcases Nat.lt_or_ge j k with h1 | h1
      · exact hnn j h1
      · obtain rfl : j = k := by omega
        exact hpos
    · simp at h
      have hkl : k = X.length + 1 := by omega
      clear h
      have hneg : Au.negAt X = false := by
        cases e : Au.negAt X with
        | false => rfl
        | true =>
          obtain ⟨j, j1, j2⟩ := Au.negAt_iff.1 e
          have := hnn j (by omega)
          omega
      have hF : 0 ≤ Ec.eff X 1 := by
        have := hnn X.length (by omega)
        rwa [List.take_length] at this
      rw [hneg, if_neg (by simp)]
      (repeat with_reducible first | refine js ?_ | refine ja ?_ | refine jw KL37 [9, 16] (aa TF37 (aa ho.s hol)) fun _ => ?_)
      refine Run_condS (fun _ => rfl) (fun h => ?_) (fun h => ?_)
      · have hl0 : l.length = 0 := by simpa using h
        have hX := hnr hl0
        subst hX
        (repeat with_reducible first | refine js ?_ | refine ja ?_ | refine jw KL37 [9, 16] TF37 fun _ => ?_)
        refine Run_ret ?_
        rw [hl0]
        simp [Rets, RetM, resV, fnd, oneOr, MvR, Au.shs, Au.num]
        exact ⟨y5.trans x6, Sl.nil _⟩
      have hl1 : l.length ≠ 0 := by simpa using h
      have hl0 : 0 < l.length := by omega
      clear h
      have hsh : Fd.share (Ec.eff X 1) l.length = (Au.shs (Ec.eff X 1) l.length, 0) := by
        unfold Fd.share
        rw [if_neg (by omega), Au.shs_eq hF, Int.toNat_natCast]
      have hsl : (Au.shs (Ec.eff X 1) l.length).length = l.length := by simp [Au.shs]
      (repeat with_reducible first | refine js ?_ | refine ja ?_ | refine jw KL37 [9, 16] (aa TF37 (aa ho.s hol)) fun _ => ?_)
      have hm2 : ∀ m ∈ X, 0 ≤ m.Amount ∧ m.Amount ≤ 1099511627776 := fun m hm => (hmv m hm).2.2.2.1
      refine fund41W sX6 hm2 (by omega) fun w7 x7 => ?_
      refine CallW_cl call87 (rfShare (Ec.eff X 1) l.length w7) fun e w8 ⟨vx, he8, x8, s8⟩ => ⟨_, he8, ?_⟩
      rw [hsh] at s8 ⊢
      simp only at s8
      have x68 := x6.trans (x7.trans x8)
      have hB8 := hB.keepQ (Keep.of_ext (S := fun _ => True) x68) fun _ _ => trivial
      have z8 := (x5.trans x68).size
      (try simp (maxSteps := 5000000) only [KS, Nat.reduceAdd, Nat.reduceMul, Nat.reduceEqDiff, ↓reduceIte, forall_const, Int.cast_ofNat_Int, Int.reduceToNat, List.take_succ_cons, List.take_zero, List.drop_succ_cons, List.drop_zero, TF37, KL37]); (try simp (disch := omega) only [wrapI, tmodI, tdivI])
      refine ⟨by decide, by decide, ?_⟩
      (repeat with_reducible first | refine js ?_ | refine ja ?_ | refine jw KL37 [9, 16] TF37 fun _ => ?_)
      refine Run_condS (fun _ => rfl) (fun h => ?_) (fun h => ?_)
      · exact absurd h (by decide)
      (repeat with_reducible first | refine js ?_ | refine ja ?_ | refine jw KL37 [9, 16] TF37 fun _ => ?_)
      refine SemW_appendFO (α := MoveD) Tryz.underlying35 ti70 rfl (by decide) hB8 (by omega) s8 (by simp only [maxLen]; omega) fun v' w9 b9 k9 => ?_
      have x9 : Ext w w9 := Keep.ext (x3.trans (x5.trans x68)) k9 fun b hb e => by have := (hB8.own_lt e.symm).1; have := x3.size; omega
      have s9 := b9.sl (by rw [List.length_append]; omega)
      (repeat with_reducible first | refine js ?_ | refine ja ?_ | refine jw KL37 [9, 16] TF37 fun _ => ?_)
      refine CallW_cl call88 (rfNumbered v' _ w9 s9 (by rw [List.length_append]; omega)) fun e w10 ⟨v10, he10, x10, s10⟩ => ⟨_, he10, ?_⟩
      (repeat with_reducible first | refine js ?_ | refine ja ?_ | refine jw KL37 [9, 16] TF37 fun _ => ?_)
      refine Run_ret ?_
      simp [Rets, RetM, resV, fnd, oneOr, MvR]
      exact ⟨x9.trans x10, s10⟩
end Go.Proofs.YtoadfmgnpmcbfaaGreat
