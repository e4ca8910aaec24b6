import Derived.Test.YthengmdnikaooaaGreatQgX22b
import Derived.Test.YthengmdnikaooaaGreatQgGs
import Derived.Test.YthengmdnikaooaaGreatQgGe
namespace Go.Proofs.YthengmdnikaooaaGreat
open Go Go.Fk
set_option linter.unusedSimpArgs false
set_option linter.unusedVariables false
set_option maxRecDepth 100000
section
variable {vl u0 u1 u2 vo v0 v1 v2 g : Value} {t : TimeD} {f : TariffD} {l : List OrderD} {o : OrderD} {r : RunD} {p : PlanD} {covers : Int} {w : World} {K : Value → World → Prop}
theorem ofW (hP : PlanR w p v0 v1 v2) (hin : ∀ k ∈ p.Of, 0 ≤ k ∧ k < p.Runs.length) (hn : p.Of.length ≤ 1000000) (hK : ∀ v w', Ext w w' → Sl w' v (Pl.ofs p) → K v w') : CallW Tryz.prog (.func (.func 29) #[] #[]) [.agg #[v0, v1, v2]] w K :=
  CallW_gen call29 (rfOf p v0 v1 v2 w hP hin hn) fun e w' ⟨v, he, x, hs⟩ => ⟨_, he, hK v w' x hs⟩
theorem lessW {va vb : Value} {a b : List RunD} (ha : Sl w va a) (hb : Sl w vb b) (hn : a.length ≤ b.length) (hK : ∀ w', Ext w w' → K (.bool (Pl.lessL a b)) w') : CallW Tryz.prog (.func (.func 28) #[] #[]) [va, vb] w K :=
  CallW_pure call28 (rfLess va vb a b w ha hb hn ha.small) hK
end
set_option maxHeartbeats 2000000 in
theorem lawLeast22 (vl : Value) (t : TimeD) (f : TariffD) (u0 u1 u2 vo v0 v1 v2 : Value) (l : List OrderD) (covers : Int) (p : PlanD) (w : World) (hl : Sl w vl t.Lines) (hT : TarR w f u0 u1 u2) (ho : Sl w vo l) (hP : PlanR w p v0 v1 v2) (hcv : I64 covers) :
    Calls Tryz.prog 7 #[.agg (t.cs vl).toArray, .agg (f.cs u0 u1 u2).toArray, vo, .int .i64 covers, .agg (p.cs v0 v1 v2).toArray] w fun e w' => Yes22 e ∧ Ext w w' := by
  have hol := ho.len
  refine Calls_of_Run (args := [.agg (t.cs vl).toArray, .agg (f.cs u0 u1 u2).toArray, vo, .int .i64 covers, .agg (p.cs v0 v1 v2).toArray]) (n := 122) (rs := [.tmp 10]) Tryz.func7 rfl rfl rfl (by simp) ?_
  (repeat with_reducible first | refine js ?_ | refine ja ?_ | refine jw KL7 [13] TF7 fun _ => ?_)
  refine SemW_box fun pt w1 h1 => SemW_box fun pf w2 h2 => SemW_box fun pp w3 h3 => ?_
  have x3 := h1.ext.trans (h2.ext.trans h3.ext)
  have T : ∀ w', Ext w3 w' → AtN w' pt 0 (t.cs vl) := fun w' x => (h1.at_.ext (h2.ext.trans (h3.ext.trans x))).n
  have F : ∀ w', Ext w3 w' → AtN w' pf 0 (f.cs u0 u1 u2) := fun w' x => (h2.at_.ext (h3.ext.trans x)).n
  have P : ∀ w', Ext w3 w' → AtN w' pp 0 (p.cs v0 v1 v2) := fun w' x => (h3.at_.ext x).n
  simp only [TimeD.cs, TariffD.cs, PlanD.cs, AtN, KS, Nat.reduceAdd, Nat.reduceMul, Nat.reduceEqDiff, ↓reduceIte, UT] at T F P
  (repeat with_reducible first | refine js ?_ | refine ja ?_ | refine jw KL7 [13] TF7 fun _ => ?_)
  refine sane22W fun w5 x5 => ?_
  have y5 := x3.trans x5
  have t5 := T w5 x5
  have f5 := F w5 x5
  (repeat with_reducible first | refine js ?_ | refine ja ?_ | refine jw KL7 [13] TF7 fun _ => ?_)
  refine Run_condS (fun _ => rfl) (fun h => by cases h) (fun _ => ?_)
  (repeat with_reducible first | refine js ?_ | refine ja ?_ | refine jw KL7 [13] (aa TF7 (aa t5 (aa f5 KX))) fun _ => ?_)
  refine few22W (hl.ext y5) (hT.ext y5) (ho.ext y5) fun b w7 x7 => ?_
  have y7 := y5.trans x7
  have z7 := x5.trans x7
  have p7 := P w7 z7
  (repeat with_reducible first | refine js ?_ | refine ja ?_ | refine jw KL7 [13] (aa TF7 (aa p7 KX)) fun _ => ?_)
  refine .inr ⟨.bool (fewPl p), fun _ => PC_pure call21 fun w8 x8 => rfFewPlan v0 v1 v2 p w8 (hP.ext (y7.trans x8)), fun w8 x8 => ?_⟩
  unfold hush
  have y8 := y7.trans x8
  have z8 := z7.trans x8
  (repeat with_reducible first | refine js ?_ | refine ja ?_ | refine jw KL7 [13] (aa TF7 (aa p7 KX)) fun _ => ?_)
  refine Run_condS (fun _ => rfl) (fun h => ?_) (fun h => ?_)
  · (repeat with_reducible first | refine js ?_ | refine ja ?_ | refine jw KL7 [13] TF7 fun _ => ?_)
    refine Run_ret ?_
    simp [Rets, RetM, resV, fnd, oneOr, y8]
  clear h
  have t8 := T w8 z8
  have f8 := F w8 z8
  (repeat with_reducible first | refine js ?_ | refine ja ?_ | refine jw KL7 [13] (aa TF7 (aa t8 f8)) fun _ => ?_)
  rcases Pl.make_cases t f l covers with ⟨of, hmk, he, hoE, hm⟩ | ⟨e, hm, hno⟩
  · obtain ⟨hck, hac, hof⟩ := Pl.make_good hoE he hmk
    refine plMakeW (hl.ext y8) (hT.ext y8) (ho.ext y8) hcv hm fun a0 a1 a2 w9 x9 hQ => ?_
    (try simp (maxSteps := 5000000) only [KS, Nat.reduceAdd, Nat.reduceMul, Nat.reduceEqDiff, ↓reduceIte, forall_const, Int.cast_ofNat_Int, Int.reduceToNat, List.take_succ_cons, List.take_zero, List.drop_succ_cons, List.drop_zero, TF7, KL7]); (try simp (disch := omega) only [wrapI, tmodI, tdivI])
    refine ⟨by decide, by decide, by decide, ?_⟩
    refine planVar hQ fun pq w10 x10 PQ => ?_
    have z10 := z8.trans (x9.trans x10)
    have y10 := x3.trans z10
    obtain ⟨b0, b1, b2, rq, hq⟩ := PQ
    have t10 := T w10 z10
    have f10 := F w10 z10
    have q10 := rq.n
    simp only [AtN, KS, Nat.reduceAdd, Nat.reduceMul, Nat.reduceEqDiff, ↓reduceIte, UT, PlanD.cs] at q10
    (repeat with_reducible first | refine js ?_ | refine ja ?_ | refine jw KL7 [13] (aa TF7 KX) fun _ => ?_)
    refine Run_condS (fun _ => rfl) (fun h => by cases h) (fun _ => ?_)
    (repeat with_reducible first | refine js ?_ | refine ja ?_ | refine jw KL7 [13] (aa TF7 (aa t10 (aa f10 q10))) fun _ => ?_)
    refine plChkW (hl.ext y10) (hT.ext y10) (ho.ext y10) hq hck fun w11 x11 => ?_
    have y11 := y10.trans x11
    have z11 := z10.trans x11
    have t11 := T w11 z11
    have f11 := F w11 z11
    have p11 := P w11 z11
    (try simp (maxSteps := 5000000) only [KS, Nat.reduceAdd, Nat.reduceMul, Nat.reduceEqDiff, ↓reduceIte, forall_const, Int.cast_ofNat_Int, Int.reduceToNat, List.take_succ_cons, List.take_zero, List.drop_succ_cons, List.drop_zero, TF7, KL7]); (try simp (disch := omega) only [wrapI, tmodI, tdivI])
    refine ⟨by decide, by decide, ?_⟩
    (repeat with_reducible first | refine js ?_ | refine ja ?_ | refine jw KL7 [13] (aa TF7 (aa t11 (aa f11 p11))) fun _ => ?_)
    refine plChkW (hl.ext y11) (hT.ext y11) (ho.ext y11) (hP.ext y11) rfl fun w12 x12 => ?_
    rw [Pl.check_err he]
    have y12 := y11.trans x12
    have z12 := z11.trans x12
    have q12 := (rq.ext (x11.trans x12)).n
    simp only [AtN, KS, Nat.reduceAdd, Nat.reduceMul, Nat.reduceEqDiff, ↓reduceIte, UT, PlanD.cs] at q12
    (try simp (maxSteps := 5000000) only [KS, Nat.reduceAdd, Nat.reduceMul, Nat.reduceEqDiff, ↓reduceIte, forall_const, Int.cast_ofNat_Int, Int.reduceToNat, List.take_succ_cons, List.take_zero, List.drop_succ_cons, List.drop_zero, TF7, KL7]); (try simp (disch := omega) only [wrapI, tmodI, tdivI])
    refine ⟨by simp [tpOf], by simp [tpOf], ?_⟩
    (repeat with_reducible first | refine js ?_ | refine ja ?_ | refine jw KL7 [13] (aa TF7 (aa q12 (aa hol (aa ho.s KX)))) fun _ => ?_)
    refine .inl (.inl ⟨by decide, CallW_pure call27 (lwInside (Pl.planOf l of) l.length b0 b1 b2 w12 (hq.ext (x11.trans x12))) fun w13 x13 => ?_⟩)
    rw [hac.inside]
    unfold hush
    (repeat with_reducible first | refine js ?_ | refine ja ?_ | refine jw KL7 [13] (aa TF7 (aa q12 (aa hol (aa ho.s KX)))) fun _ => ?_)
    refine Run_condS (fun _ => rfl) (fun h => by cases h) (fun _ => ?_)
    have y13 := y12.trans x13
    have z13 := z12.trans x13
    have hn64 := (Pl.err_ok he).n
    cases hp1 : (Pl.check t f l covers p).1 with
    | false =>
      have p13 := P w13 z13
      have q13 := (rq.ext (x11.trans (x12.trans x13))).n
      simp only [AtN, KS, Nat.reduceAdd, Nat.reduceMul, Nat.reduceEqDiff, ↓reduceIte, UT, PlanD.cs] at q13
      (repeat with_reducible first | refine js ?_ | refine ja ?_ | refine jw KL7 [13] (aa TF7 (aa p13 (aa q13 (aa hol (aa ho.s KX))))) fun _ => ?_)
      refine ⟨undef, undef, undef, undef, fun w14 x14 => ?_⟩
      refine Run_ret ?_
      simp [Rets, RetM, resV, fnd, oneOr]
      exact y13.trans x14
    | true =>
      obtain ⟨_, pac, _⟩ := Pl.check_yes hp1
      let S : Nat → Prop := fun _ => True
      (repeat with_reducible first | refine jq ?_ | refine jk ?_ | refine jc ?_ | refine jl ?_ | refine jb ?_ | refine jo ?_ | refine ji ?_ | refine jx rfl ?_)
      refine Run_eh S [12] [(3, [6, 7, 12]), (8, [9, 12]), (10, [11, 12])] (id := 13) KL7 (.first 0 (.first 1 (.first 2 (.first 3 (.first 4 (.first 5 (.alt true 6 (.first 7 (.first 8 (.first 10 (.alt true 9 (.alt true 11 (.alt true 12 (.first 13 (.alt false 14 (.free (.alt 15 (.first 16 .done) .stop)) .stop)) .stop) .stop) .stop)))) .stop))))))) mixed (by kernel_rfl) (by kernel_rfl) fun w14 x14 _ => ?_
      generalize hTT : (.first 7 (.first 8 (.first 10 (.alt true 9 (.alt true 11 (.alt true 12 (.first 13 (.alt false 14 (.free (.alt 15 (.first 16 .done) .stop)) .stop)) .stop) .stop) .stop))) : OH) = TT
      have z14 := z13.trans x14
      have p14 := P w14 z14
      have q14 := (rq.ext (x11.trans (x12.trans (x13.trans x14)))).n
      simp only [AtN, KS, Nat.reduceAdd, Nat.reduceMul, Nat.reduceEqDiff, ↓reduceIte, UT, PlanD.cs] at q14
      (try simp (maxSteps := 5000000) only [KS, Nat.reduceAdd, Nat.reduceMul, Nat.reduceEqDiff, ↓reduceIte, forall_const, Int.cast_ofNat_Int, Int.reduceToNat, List.take_succ_cons, List.take_zero, List.drop_succ_cons, List.drop_zero, TF7, KL7, eh, gres, qopS, putL, ung, p14, q14, hol, ho.s]); (try simp (disch := omega) only [wrapI, tmodI, tdivI])
      refine ⟨trivial, Keep.refl _ _, ?_⟩
      refine CallW_pure call27 (lwInside p l.length v0 v1 v2 w14 (hP.ext (y13.trans x14))) fun w15 x15 => ?_
      rw [pac.inside]
      subst hTT
      have p15 := P w15 (z14.trans x15)
      have q15 := (rq.ext (x11.trans (x12.trans (x13.trans (x14.trans x15))))).n
      simp only [AtN, KS, Nat.reduceAdd, Nat.reduceMul, Nat.reduceEqDiff, ↓reduceIte, UT, PlanD.cs] at q15
      (try simp (maxSteps := 5000000) only [KS, Nat.reduceAdd, Nat.reduceMul, Nat.reduceEqDiff, ↓reduceIte, forall_const, Int.cast_ofNat_Int, Int.reduceToNat, List.take_succ_cons, List.take_zero, List.drop_succ_cons, List.drop_zero, TF7, KL7, eh, gres, qopS, putL, ung, p14, q14, p15, q15, hol, ho.s, beq_self_eq_true, if_true]); (try simp (disch := omega) only [wrapI, tmodI, tdivI])
      refine ⟨trivial, trivial, Keep.of_ext x15, ?_⟩
      refine ofW (hP.ext (y13.trans (x14.trans x15))) pac.ins (by have := pac.ol; omega) fun va w16 x16 sa => ⟨Keep.of_ext (x15.trans x16), ?_⟩
      refine ofW (p := Pl.planOf l of) (hq.ext (x11.trans (x12.trans (x13.trans (x14.trans (x15.trans x16)))))) hac.ins (by have := hac.ol; omega) fun vb w17 x17 sb => ⟨Keep.of_ext (x15.trans (x16.trans x17)), ?_⟩
      rw [hof] at sb
      obtain ⟨of', hof', hlt⟩ := Pl.make_least pac hoE
      rw [hmk] at hof'
      obtain rfl : of = of' := Option.some.inj hof'
      refine lessW (sa.ext x17) sb (by rw [Pl.ofs_len, pac.ol, (Pl.mk_ok hoE hmk).n]; exact Nat.le_refl _) fun w18 x18 => ?_
      rw [hlt]
      refine ⟨rfl, fun h => h.elim, ?_⟩
      (repeat with_reducible first | refine js ?_ | refine ja ?_ | refine jw KL7 [13] (aa TF7 KX) fun _ => ?_)
      refine Run_ret ?_
      simp [Rets, RetM, resV, fnd, oneOr]
      exact y13.trans (x14.trans (x15.trans (x16.trans (x17.trans x18))))
  · refine plMakeW (hl.ext y8) (hT.ext y8) (ho.ext y8) hcv hm fun a0 a1 a2 w9 x9 hQ => ?_
    (try simp (maxSteps := 5000000) only [KS, Nat.reduceAdd, Nat.reduceMul, Nat.reduceEqDiff, ↓reduceIte, forall_const, Int.cast_ofNat_Int, Int.reduceToNat, List.take_succ_cons, List.take_zero, List.drop_succ_cons, List.drop_zero, TF7, KL7]); (try simp (disch := omega) only [wrapI, tmodI, tdivI])
    refine ⟨by decide, by decide, by decide, ?_⟩
    refine planVar hQ fun pq w10 x10 PQ => ?_
    have z10 := z8.trans (x9.trans x10)
    have y10 := x3.trans z10
    obtain ⟨b0, b1, b2, rq, hq⟩ := PQ
    have t10 := T w10 z10
    have f10 := F w10 z10
    have p10 := P w10 z10
    (repeat with_reducible first | refine js ?_ | refine ja ?_ | refine jw KL7 [13] (aa TF7 KX) fun _ => ?_)
    refine Run_condS (fun _ => rfl) (fun _ => ?_) (fun h => by simp at h)
    (repeat with_reducible first | refine js ?_ | refine ja ?_ | refine jw KL7 [13] (aa TF7 (aa t10 (aa f10 p10))) fun _ => ?_)
    refine plChkW (hl.ext y10) (hT.ext y10) (ho.ext y10) (hP.ext y10) rfl fun w11 x11 => ?_
    have hc := Pl.check_none hm hno p
    have q11 := (rq.ext x11).n
    simp only [AtN, KS, Nat.reduceAdd, Nat.reduceMul, Nat.reduceEqDiff, ↓reduceIte, UT, PlanD.cs] at q11
    (try simp (maxSteps := 5000000) only [KS, Nat.reduceAdd, Nat.reduceMul, Nat.reduceEqDiff, ↓reduceIte, forall_const, Int.cast_ofNat_Int, Int.reduceToNat, List.take_succ_cons, List.take_zero, List.drop_succ_cons, List.drop_zero, TF7, KL7]); (try simp (disch := omega) only [wrapI, tmodI, tdivI])
    refine ⟨by simp [tpOf], by simp [tpOf], ?_⟩
    (repeat with_reducible first | refine js ?_ | refine ja ?_ | refine jw KL7 [13] (aa TF7 (aa q11 KX)) fun _ => ?_)
    have hc2 : ((Pl.check t f l covers p).1 && (Pl.check t f l covers p).2 == 0 && e == 0) = false := by
      rw [Bool.eq_false_iff] at hc ⊢
      intro h
      apply hc
      simpa [and_assoc] using h
    refine ⟨.agg #[.slice none 0 0, .slice none 0 0, .slice none 0 0], fun _ => by kernel_rfl, ?_⟩
    refine same22W (p := Pl.noPlan) (q := Pl.noPlan) (b := true) (by decide) (hq.ext x11) ⟨Sl.nil _, Sl.nil _, Sl.nil _⟩ fun w12 x12 => ⟨rfl, ?_⟩
    rw [hc2]
    (repeat with_reducible first | refine js ?_ | refine ja ?_ | refine jw KL7 [13] (aa TF7 KX) fun _ => ?_)
    refine Run_ret ?_
    simp [Rets, RetM, resV, fnd, oneOr]
    exact y10.trans (x11.trans x12)
end Go.Proofs.YthengmdnikaooaaGreat
