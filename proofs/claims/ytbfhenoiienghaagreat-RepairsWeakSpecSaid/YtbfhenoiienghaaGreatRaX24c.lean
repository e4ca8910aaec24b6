import Derived.Test.YtbfhenoiienghaaGreatRaX24b
namespace Go.Proofs.YtbfhenoiienghaaGreat
open Go Go.Fk
set_option linter.unusedSimpArgs false
set_option linter.unusedVariables false
set_option maxRecDepth 100000
abbrev Yes24 (e : Ending) : Prop := e = .returned (.bool true)
set_option maxHeartbeats 1000000 in
theorem lawSpec24 (vl : Value) (t : TimeD) (f : TariffD) (u0 u1 u2 vo v0 v1 v2 : Value) (l : List OrderD) (covers : Int) (p : PlanD) (run : Int) (w : World) (hl : Sl w vl t.Lines) (hT : TarR w f u0 u1 u2) (ho : Sl w vo l) (hP : PlanR w p v0 v1 v2) (hcv : I64 covers) :
    Calls Tryz.prog 3 #[.agg (t.cs vl).toArray, .agg (f.cs u0 u1 u2).toArray, vo, .int .i64 covers, .agg (p.cs v0 v1 v2).toArray, .int .i64 run] w fun e w' => Yes24 e ∧ Ext w w' := by
  refine Calls_of_Run (args := [.agg (t.cs vl).toArray, .agg (f.cs u0 u1 u2).toArray, vo, .int .i64 covers, .agg (p.cs v0 v1 v2).toArray, .int .i64 run]) (n := 62) (rs := [.tmp 12]) Tryz.func3 rfl rfl rfl (by simp) ?_
  (repeat with_reducible first | refine js ?_ | refine ja ?_ | refine jw KL3 [] TF3 fun _ => ?_)
  refine SemW_box fun pt w1 h1 => SemW_box fun pf w2 h2 => SemW_box fun pp w3 h3 => ?_
  have x3 := h1.ext.trans (h2.ext.trans h3.ext)
  have T : ∀ w', Ext w3 w' → AtN w' pt 0 (t.cs vl) := fun w' x => (h1.at_.ext (h2.ext.trans (h3.ext.trans x))).n
  have F : ∀ w', Ext w3 w' → AtN w' pf 0 (f.cs u0 u1 u2) := fun w' x => (h2.at_.ext (h3.ext.trans x)).n
  have P : ∀ w', Ext w3 w' → AtN w' pp 0 (p.cs v0 v1 v2) := fun w' x => (h3.at_.ext x).n
  simp only [TimeD.cs, TariffD.cs, PlanD.cs, AtN, KS, Nat.reduceAdd, Nat.reduceMul, Nat.reduceEqDiff, ↓reduceIte, UT] at T F P
  (repeat with_reducible first | refine js ?_ | refine ja ?_ | refine jw KL3 [] TF3 fun _ => ?_)
  refine sane24W fun w5 x5 => ?_
  have y5 := x3.trans x5
  have t5 := T w5 x5
  have f5 := F w5 x5
  have p5 := P w5 x5
  (repeat with_reducible first | refine js ?_ | refine ja ?_ | refine jw KL3 [] TF3 fun _ => ?_)
  refine Run_condS (fun _ => rfl) (fun h => by cases h) (fun _ => ?_)
  (repeat with_reducible first | refine js ?_ | refine ja ?_ | refine jw KL3 [] (aa TF3 (aa t5 (aa f5 p5))) fun _ => ?_)
  refine few24W (hl.ext y5) (hT.ext y5) (ho.ext y5) (hP.ext y5) fun b w7 x7 _ => ?_
  have y7 := y5.trans x7
  have z7 := x5.trans x7
  (repeat with_reducible first | refine js ?_ | refine ja ?_ | refine jw KL3 [] TF3 fun _ => ?_)
  refine Run_condS (fun _ => rfl) (fun h => ?_) (fun h => ?_)
  · (repeat with_reducible first | refine js ?_ | refine ja ?_ | refine jw KL3 [] TF3 fun _ => ?_)
    refine Run_ret ?_
    simp [Rets, RetM, resV, fnd, oneOr, y7]
  clear h
  have t7 := T w7 z7
  have f7 := F w7 z7
  have p7 := P w7 z7
  (repeat with_reducible first | refine js ?_ | refine ja ?_ | refine jw KL3 [] (aa TF3 (aa t7 (aa f7 p7))) fun _ => ?_)
  refine rpRepairW (hl.ext y7) (hT.ext y7) (ho.ext y7) (hP.ext y7) hcv rfl fun a0 a1 a2 w8 x8 hR => ?_
  generalize hq : Rp.repair t f l covers p run = q at *
  (try simp (maxSteps := 5000000) only [KS, Nat.reduceAdd, Nat.reduceMul, Nat.reduceEqDiff, ↓reduceIte, forall_const, Int.cast_ofNat_Int, Int.reduceToNat, List.take_succ_cons, List.take_zero, List.drop_succ_cons, List.drop_zero, TF3, KL3]); (try simp (disch := omega) only [wrapI, tmodI, tdivI])
  refine ⟨by simp [tpOf], by simp [tpOf], by simp [tpOf], ?_⟩
  refine planVar hR fun p9 w9 x9 P9 => ?_
  have z9 := z7.trans (x8.trans x9)
  have y9 := x3.trans z9
  have t9 := T w9 z9
  have f9 := F w9 z9
  have q9 := P w9 z9
  (repeat with_reducible first | refine js ?_ | refine ja ?_ | refine jw KL3 [] (aa TF3 (aa t9 (aa f9 q9))) fun _ => ?_)
  refine rfRepair24W (hl.ext y9) (hT.ext y9) (ho.ext y9) (hP.ext y9) hq fun b0 b1 b2 wA xA hQ => ?_
  (try simp (maxSteps := 5000000) only [KS, Nat.reduceAdd, Nat.reduceMul, Nat.reduceEqDiff, ↓reduceIte, forall_const, Int.cast_ofNat_Int, Int.reduceToNat, List.take_succ_cons, List.take_zero, List.drop_succ_cons, List.drop_zero, TF3, KL3]); (try simp (disch := omega) only [wrapI, tmodI, tdivI])
  refine ⟨by simp [tpOf], by simp [tpOf], by simp [tpOf], ?_⟩
  refine planVar hQ fun pB wB xB PB => ?_
  have z11 := xA.trans xB
  obtain ⟨b0, b1, b2, rp, hp⟩ := P9.ext z11
  obtain ⟨c0, c1, c2, rq, hq'⟩ := PB
  have p1 := rp.n
  have q1 := rq.n
  simp only [AtN, KS, Nat.reduceAdd, Nat.reduceMul, Nat.reduceEqDiff, ↓reduceIte, UT, PlanD.cs] at p1 q1
  (repeat with_reducible first | refine js ?_ | refine ja ?_ | refine jw KL3 [] (aa TF3 (aa p1 (aa q1 KX))) fun _ => ?_)
  refine same22W (b := true) (decide_eq_true rfl) hp hq' fun wC xC => ?_
  (repeat with_reducible first | refine js ?_ | refine ja ?_ | refine jw KL3 [] (aa TF3 KX) fun _ => ?_)
  refine Run_ret ?_
  simp [Rets, RetM, resV, fnd, oneOr]
  exact y9.trans (z11.trans xC)
set_option maxHeartbeats 1000000 in
theorem lawWeakSpec24 (vl : Value) (t : TimeD) (f : TariffD) (u0 u1 u2 vo v0 v1 v2 : Value) (l : List OrderD) (covers : Int) (p : PlanD) (w : World) (hl : Sl w vl t.Lines) (hT : TarR w f u0 u1 u2) (ho : Sl w vo l) (hP : PlanR w p v0 v1 v2) (hcv : I64 covers) :
    Calls Tryz.prog 4 #[.agg (t.cs vl).toArray, .agg (f.cs u0 u1 u2).toArray, vo, .int .i64 covers, .agg (p.cs v0 v1 v2).toArray] w fun e w' => Yes24 e ∧ Ext w w' := by
  refine Calls_of_Run (args := [.agg (t.cs vl).toArray, .agg (f.cs u0 u1 u2).toArray, vo, .int .i64 covers, .agg (p.cs v0 v1 v2).toArray]) (n := 49) (rs := [.tmp 10]) Tryz.func4 rfl rfl rfl (by simp) ?_
  (repeat with_reducible first | refine js ?_ | refine ja ?_ | refine jw KL4 [] TF4 fun _ => ?_)
  refine SemW_box fun pt w1 h1 => SemW_box fun pf w2 h2 => SemW_box fun pp w3 h3 => ?_
  have x3 := h1.ext.trans (h2.ext.trans h3.ext)
  have T : ∀ w', Ext w3 w' → AtN w' pt 0 (t.cs vl) := fun w' x => (h1.at_.ext (h2.ext.trans (h3.ext.trans x))).n
  have F : ∀ w', Ext w3 w' → AtN w' pf 0 (f.cs u0 u1 u2) := fun w' x => (h2.at_.ext (h3.ext.trans x)).n
  have P : ∀ w', Ext w3 w' → AtN w' pp 0 (p.cs v0 v1 v2) := fun w' x => (h3.at_.ext x).n
  simp only [TimeD.cs, TariffD.cs, PlanD.cs, AtN, KS, Nat.reduceAdd, Nat.reduceMul, Nat.reduceEqDiff, ↓reduceIte, UT] at T F P
  (repeat with_reducible first | refine js ?_ | refine ja ?_ | refine jw KL4 [] TF4 fun _ => ?_)
  refine sane24W fun w5 x5 => ?_
  have y5 := x3.trans x5
  have t5 := T w5 x5
  have f5 := F w5 x5
  have p5 := P w5 x5
  (repeat with_reducible first | refine js ?_ | refine ja ?_ | refine jw KL4 [] TF4 fun _ => ?_)
  refine Run_condS (fun _ => rfl) (fun h => by cases h) (fun _ => ?_)
  (repeat with_reducible first | refine js ?_ | refine ja ?_ | refine jw KL4 [] (aa TF4 (aa t5 (aa f5 p5))) fun _ => ?_)
  refine few24W (hl.ext y5) (hT.ext y5) (ho.ext y5) (hP.ext y5) fun b w7 x7 hfew => ?_
  have y7 := y5.trans x7
  have z7 := x5.trans x7
  (repeat with_reducible first | refine js ?_ | refine ja ?_ | refine jw KL4 [] TF4 fun _ => ?_)
  refine Run_condS (fun _ => rfl) (fun h => ?_) (fun h => ?_)
  · (repeat with_reducible first | refine js ?_ | refine ja ?_ | refine jw KL4 [] TF4 fun _ => ?_)
    refine Run_ret ?_
    simp [Rets, RetM, resV, fnd, oneOr, y7]
  have hfp : p.Runs.length ≤ 1000000 := by
    have := hfew (by simpa using h)
    simp [fewPl] at this
    omega
  clear h
  have t7 := T w7 z7
  have f7 := F w7 z7
  have p7 := P w7 z7
  (repeat with_reducible first | refine js ?_ | refine ja ?_ | refine jw KL4 [] (aa TF4 (aa t7 (aa f7 p7))) fun _ => ?_)
  refine rpWeakW (hl.ext y7) (hT.ext y7) (ho.ext y7) (hP.ext y7) hcv hfp rfl fun va w8 x8 sa => ?_
  generalize hq : Rp.weak t f l covers p = q at *
  (try simp (maxSteps := 5000000) only [KS, Nat.reduceAdd, Nat.reduceMul, Nat.reduceEqDiff, ↓reduceIte, forall_const, Int.cast_ofNat_Int, Int.reduceToNat, List.take_succ_cons, List.take_zero, List.drop_succ_cons, List.drop_zero, TF4, KL4]); (try simp (disch := omega) only [wrapI, tmodI, tdivI])
  refine ⟨by simp [tpOf], by simp [tpOf], ?_⟩
  have z8 := z7.trans x8
  have y8 := x3.trans z8
  have t8 := T w8 z8
  have f8 := F w8 z8
  have q8 := P w8 z8
  (repeat with_reducible first | refine js ?_ | refine ja ?_ | refine jw KL4 [] (aa TF4 (aa t8 (aa f8 q8))) fun _ => ?_)
  refine rfWeak24W (hl.ext y8) (hT.ext y8) (ho.ext y8) (hP.ext y8) hfp hq fun vb w9 x9 sb => ?_
  (try simp (maxSteps := 5000000) only [KS, Nat.reduceAdd, Nat.reduceMul, Nat.reduceEqDiff, ↓reduceIte, forall_const, Int.cast_ofNat_Int, Int.reduceToNat, List.take_succ_cons, List.take_zero, List.drop_succ_cons, List.drop_zero, TF4, KL4]); (try simp (disch := omega) only [wrapI, tmodI, tdivI])
  refine ⟨by simp [tpOf], by simp [tpOf], ?_⟩
  (repeat with_reducible first | refine js ?_ | refine ja ?_ | refine jw KL4 [] (aa TF4 KX) fun _ => ?_)
  refine CallW_pure call21 (rfSameInts20 va vb q.1 q.1 w9 (sa.ext x9) sb) fun wC xC => ?_
  (repeat with_reducible first | refine js ?_ | refine ja ?_ | refine jw KL4 [] (aa TF4 KX) fun _ => ?_)
  refine Run_ret ?_
  simp [Rets, RetM, resV, fnd, oneOr]
  exact y8.trans (x9.trans xC)
end Go.Proofs.YtbfhenoiienghaaGreat
