import Derived.Test.YthengmdnikaooaaGreatQfX22a
import Derived.Test.YthengmdnikaooaaGreatQfW22k
namespace Go.Proofs.YthengmdnikaooaaGreat
open Go Go.Fk
set_option linter.unusedSimpArgs false
set_option linter.unusedVariables false
set_option maxRecDepth 100000
abbrev Yes22 (e : Ending) : Prop := e = .returned (.bool true)
section
variable {vl u0 u1 u2 vo v0 v1 v2 g : Value} {t : TimeD} {f : TariffD} {l : List OrderD} {o : OrderD} {r : RunD} {p : PlanD} {covers : Int} {w : World} {K : Value → World → Prop}
theorem few22W (hl : Sl w vl t.Lines) (hT : TarR w f u0 u1 u2) (ho : Sl w vo l) (hK : ∀ (b : Bool) w', Ext w w' → K (.bool b) w') : CallW Tryz.prog (.func (.func 12) #[] #[]) [.agg #[.int .i64 t.Offices, vl], .agg #[u0, u1, u2], vo] w K :=
  CallW_gen call12 (rfFew22 vl u0 u1 u2 vo t f l w hl hT ho) fun e w' ⟨b, he, x⟩ => ⟨_, he, hK b w' x⟩
theorem rOptW (hl : Sl w vl t.Lines) (hT : TarR w f u0 u1 u2) (hO : OrdR w o g) (hK : ∀ v w', Ext w w' → Sl w' v (Pl.options t f o).1 → K (.tuple #[v, .int .i64 (Pl.options t f o).2]) w') :
    CallW Tryz.prog (.func (.func 16) #[] #[]) [.agg #[.int .i64 t.Offices, vl], .agg #[u0, u1, u2], .agg (o.cs g).toArray] w K :=
  CallW_gen call16 (rfOptions vl t f u0 u1 u2 o g w hl hT hO) fun e w' ⟨v, he, x, hs⟩ => ⟨_, he, hK v w' x hs⟩
theorem rMakeW (hl : Sl w vl t.Lines) (hT : TarR w f u0 u1 u2) (ho : Sl w vo l) (hK : ∀ v0 v1 v2 w', Ext w w' → PlanR w' (Pl.make t f l covers).1 v0 v1 v2 → K (.tuple #[.agg ((Pl.make t f l covers).1.cs v0 v1 v2).toArray, .bool (Pl.make t f l covers).2.1, .int .i64 (Pl.make t f l covers).2.2]) w') :
    CallW Tryz.prog (.func (.func 19) #[] #[]) [.agg #[.int .i64 t.Offices, vl], .agg #[u0, u1, u2], vo, .int .i64 covers] w K :=
  CallW_gen call19 (rfMake vl u0 u1 u2 vo t f l covers w hl hT ho) fun e w' ⟨v0, v1, v2, he, x, hP⟩ => ⟨_, he, hK v0 v1 v2 w' x hP⟩
theorem rChkW (hl : Sl w vl t.Lines) (hT : TarR w f u0 u1 u2) (ho : Sl w vo l) (hP : PlanR w p v0 v1 v2) (hK : ∀ w', Ext w w' → K (.tuple #[.bool (Pl.check t f l covers p).1, .int .i64 (Pl.check t f l covers p).2]) w') :
    CallW Tryz.prog (.func (.func 23) #[] #[]) [.agg #[.int .i64 t.Offices, vl], .agg #[u0, u1, u2], vo, .int .i64 covers, .agg #[v0, v1, v2]] w K :=
  CallW_pure call23 (rfCheckP vl u0 u1 u2 vo v0 v1 v2 t f l covers p w hl hT ho hP) hK
theorem planVar (hP : PlanR w p v0 v1 v2) {K : Value → World → Prop} (hK : ∀ q w', Ext w w' → PV w' q p → K (.pointer (some q)) w') :
    SemW Tryz.prog (Instr.alloc 45 true (.tuple #[])) w (fun v w' => SemW Tryz.prog (Instr.storeAt 45 v (.agg (p.cs v0 v1 v2).toArray)) w' fun _ w'' => K v w'') :=
  SemW_allocT ti45 fun q w1 h1 => putPV h1.row (hP.ext h1.ext) fun w2 k h => hK q w2 (extKeep h1.ext k (by have := h1.blk; omega)) h
end
set_option maxHeartbeats 1000000 in
theorem lawFitsSpec22 (vl : Value) (t : TimeD) (f : TariffD) (u0 u1 u2 : Value) (o : OrderD) (g : Value) (r : RunD) (w : World) (hl : Sl w vl t.Lines) (hT : TarR w f u0 u1 u2) (hO : OrdR w o g) (hr : RunI r) :
    Calls Tryz.prog 3 #[.agg (t.cs vl).toArray, .agg (f.cs u0 u1 u2).toArray, .agg (o.cs g).toArray, .agg r.cs.toArray] w fun e w' => Yes22 e ∧ Ext w w' := by
  refine Calls_of_Run (args := [.agg (t.cs vl).toArray, .agg (f.cs u0 u1 u2).toArray, .agg (o.cs g).toArray, .agg r.cs.toArray]) (n := 73) (rs := [.tmp 8]) Tryz.func3 rfl rfl rfl (by simp) ?_
  (repeat with_reducible first | refine js ?_ | refine ja ?_ | refine jw KL3 [] TF3 fun _ => ?_)
  refine SemW_box fun pt w1 h1 => SemW_box fun pf w2 h2 => SemW_box fun po w3 h3 => SemW_box fun pr w4 h4 => ?_
  have x4 := h1.ext.trans (h2.ext.trans (h3.ext.trans h4.ext))
  have T : ∀ w', Ext w4 w' → AtN w' pt 0 (t.cs vl) := fun w' x => (h1.at_.ext (h2.ext.trans (h3.ext.trans (h4.ext.trans x)))).n
  have F : ∀ w', Ext w4 w' → AtN w' pf 0 (f.cs u0 u1 u2) := fun w' x => (h2.at_.ext (h3.ext.trans (h4.ext.trans x))).n
  have O : ∀ w', Ext w4 w' → AtN w' po 0 (o.cs g) := fun w' x => (h3.at_.ext (h4.ext.trans x)).n
  have R : ∀ w', Ext w4 w' → AtN w' pr 0 r.cs := fun w' x => (h4.at_.ext x).n
  simp only [TimeD.cs, TariffD.cs, OrderD.cs, RunD.cs, AtN, KS, Nat.reduceAdd, Nat.reduceMul, Nat.reduceEqDiff, ↓reduceIte, UT] at T F O R
  have hone := hO.one
  (repeat with_reducible first | refine js ?_ | refine ja ?_ | refine jw KL3 [] TF3 fun _ => ?_)
  refine sane22W fun w5 x5 => ?_
  have y5 := x4.trans x5
  have t5 := T w5 x5
  have f5 := F w5 x5
  have o5 := O w5 x5
  (repeat with_reducible first | refine js ?_ | refine ja ?_ | refine jw KL3 [] TF3 fun _ => ?_)
  refine Run_condS (fun _ => rfl) (fun h => by cases h) (fun _ => ?_)
  (repeat with_reducible first | refine js ?_ | refine ja ?_ | refine jw KL3 [] (aa TF3 (aa t5 (aa f5 o5))) fun _ => ?_)
  refine ordLit (hO.ext y5) fun vo w6 so x6 => ?_
  have y6 := y5.trans x6
  refine few22W (hl.ext y6) (hT.ext y6) so fun b w7 x7 => ?_
  have y7 := y6.trans x7
  have z7 := x5.trans (x6.trans x7)
  (repeat with_reducible first | refine js ?_ | refine ja ?_ | refine jw KL3 [] TF3 fun _ => ?_)
  refine Run_condS (fun _ => rfl) (fun h => ?_) (fun h => ?_)
  · (repeat with_reducible first | refine js ?_ | refine ja ?_ | refine jw KL3 [] TF3 fun _ => ?_)
    refine Run_ret ?_
    simp [Rets, RetM, resV, fnd, oneOr, y7]
  clear h
  have t7 := T w7 z7
  have f7 := F w7 z7
  have o7 := O w7 z7
  have r7 := R w7 z7
  (repeat with_reducible first | refine js ?_ | refine ja ?_ | refine jw KL3 [] (aa TF3 (aa t7 (aa f7 (aa o7 r7)))) fun _ => ?_)
  refine CallW_pure call13 (plFitsP vl t f u0 u1 u2 o g r w7 (hl.ext y7) (hT.ext y7) (hO.ext y7) hr) fun w8 x8 => ?_
  have y8 := y7.trans x8
  have z8 := z7.trans x8
  have t8 := T w8 z8
  have f8 := F w8 z8
  have o8 := O w8 z8
  have r8 := R w8 z8
  (repeat with_reducible first | refine js ?_ | refine ja ?_ | refine jw KL3 [] (aa TF3 (aa t8 (aa f8 (aa o8 r8)))) fun _ => ?_)
  refine CallW_pure call14 (rfFitsP vl t f u0 u1 u2 o g r w8 (hl.ext y8) (hT.ext y8) (hO.ext y8) hr) fun w9 x9 => ?_
  have y9 := y8.trans x9
  have z9 := z8.trans x9
  have t9 := T w9 z9
  have f9 := F w9 z9
  have o9 := O w9 z9
  (repeat with_reducible first | refine js ?_ | refine ja ?_ | refine jw KL3 [] (aa TF3 (aa t9 (aa f9 o9))) fun _ => ?_)
  refine plOptW (hl.ext y9) (hT.ext y9) (hO.ext y9) rfl fun va wA xA sa => ?_
  have yA := y9.trans xA
  have zA := z9.trans xA
  have tA := T wA zA
  have fA := F wA zA
  have oA := O wA zA
  (repeat with_reducible first | refine js ?_ | refine ja ?_ | refine jw KL3 [] (aa TF3 (aa tA (aa fA oA))) fun _ => ?_)
  refine rOptW (hl.ext yA) (hT.ext yA) (hO.ext yA) fun vb wB xB sb => ?_
  have yB := yA.trans xB
  (repeat with_reducible first | refine js ?_ | refine ja ?_ | refine jw KL3 [] (aa TF3 KX) fun _ => ?_)
  refine .inl (.inl ⟨by simp, same20W (b := true) (decide_eq_true rfl) (sa.ext xB) sb fun wC xC => ?_⟩)
  unfold hush
  (repeat with_reducible first | refine js ?_ | refine ja ?_ | refine jw KL3 [] (aa TF3 KX) fun _ => ?_)
  refine Run_ret ?_
  simp [Rets, RetM, resV, fnd, oneOr]
  exact yB.trans xC
set_option maxHeartbeats 1000000 in
theorem lawMakeSpec22 (vl : Value) (t : TimeD) (f : TariffD) (u0 u1 u2 vo : Value) (l : List OrderD) (covers : Int) (w : World) (hl : Sl w vl t.Lines) (hT : TarR w f u0 u1 u2) (ho : Sl w vo l) (hcv : I64 covers) :
    Calls Tryz.prog 4 #[.agg (t.cs vl).toArray, .agg (f.cs u0 u1 u2).toArray, vo, .int .i64 covers] w fun e w' => Yes22 e ∧ Ext w w' := by
  refine Calls_of_Run (args := [.agg (t.cs vl).toArray, .agg (f.cs u0 u1 u2).toArray, vo, .int .i64 covers]) (n := 53) (rs := [.tmp 8]) Tryz.func4 rfl rfl rfl (by simp) ?_
  (repeat with_reducible first | refine js ?_ | refine ja ?_ | refine jw KL4 [] TF4 fun _ => ?_)
  refine SemW_box fun pt w1 h1 => SemW_box fun pf w2 h2 => ?_
  have x2 := h1.ext.trans h2.ext
  have T : ∀ w', Ext w2 w' → AtN w' pt 0 (t.cs vl) := fun w' x => (h1.at_.ext (h2.ext.trans x)).n
  have F : ∀ w', Ext w2 w' → AtN w' pf 0 (f.cs u0 u1 u2) := fun w' x => (h2.at_.ext x).n
  simp only [TimeD.cs, TariffD.cs, AtN, KS, Nat.reduceAdd, Nat.reduceMul, Nat.reduceEqDiff, ↓reduceIte, UT] at T F
  (repeat with_reducible first | refine js ?_ | refine ja ?_ | refine jw KL4 [] TF4 fun _ => ?_)
  refine sane22W fun w5 x5 => ?_
  have y5 := x2.trans x5
  have t5 := T w5 x5
  have f5 := F w5 x5
  (repeat with_reducible first | refine js ?_ | refine ja ?_ | refine jw KL4 [] TF4 fun _ => ?_)
  refine Run_condS (fun _ => rfl) (fun h => by cases h) (fun _ => ?_)
  (repeat with_reducible first | refine js ?_ | refine ja ?_ | refine jw KL4 [] (aa TF4 (aa t5 f5)) fun _ => ?_)
  refine few22W (hl.ext y5) (hT.ext y5) (ho.ext y5) fun b w7 x7 => ?_
  have y7 := y5.trans x7
  have z7 := x5.trans x7
  (repeat with_reducible first | refine js ?_ | refine ja ?_ | refine jw KL4 [] TF4 fun _ => ?_)
  refine Run_condS (fun _ => rfl) (fun h => ?_) (fun h => ?_)
  · (repeat with_reducible first | refine js ?_ | refine ja ?_ | refine jw KL4 [] TF4 fun _ => ?_)
    refine Run_ret ?_
    simp [Rets, RetM, resV, fnd, oneOr, y7]
  clear h
  have t7 := T w7 z7
  have f7 := F w7 z7
  (repeat with_reducible first | refine js ?_ | refine ja ?_ | refine jw KL4 [] (aa TF4 (aa t7 f7)) fun _ => ?_)
  refine plMakeW (hl.ext y7) (hT.ext y7) (ho.ext y7) hcv rfl fun v0 v1 v2 w8 x8 hP => ?_
  (try simp (maxSteps := 5000000) only [KS, Nat.reduceAdd, Nat.reduceMul, Nat.reduceEqDiff, ↓reduceIte, forall_const, Int.cast_ofNat_Int, Int.reduceToNat, List.take_succ_cons, List.take_zero, List.drop_succ_cons, List.drop_zero, TF4, KL4]); (try simp (disch := omega) only [wrapI, tmodI, tdivI])
  refine ⟨by decide, by decide, by decide, ?_⟩
  refine planVar hP fun p9 w9 x9 P9 => ?_
  have z9 := z7.trans (x8.trans x9)
  have y9 := x2.trans z9
  have t9 := T w9 z9
  have f9 := F w9 z9
  (repeat with_reducible first | refine js ?_ | refine ja ?_ | refine jw KL4 [] (aa TF4 (aa t9 f9)) fun _ => ?_)
  refine rMakeW (hl.ext y9) (hT.ext y9) (ho.ext y9) fun a0 a1 a2 wA xA hQ => ?_
  (try simp (maxSteps := 5000000) only [KS, Nat.reduceAdd, Nat.reduceMul, Nat.reduceEqDiff, ↓reduceIte, forall_const, Int.cast_ofNat_Int, Int.reduceToNat, List.take_succ_cons, List.take_zero, List.drop_succ_cons, List.drop_zero, TF4, KL4]); (try simp (disch := omega) only [wrapI, tmodI, tdivI])
  refine ⟨by decide, by decide, by decide, ?_⟩
  refine planVar hQ fun pB wB xB PB => ?_
  have z11 := xA.trans xB
  obtain ⟨b0, b1, b2, rp, hp⟩ := P9.ext z11
  obtain ⟨c0, c1, c2, rq, hq⟩ := PB
  have p1 := rp.n
  have q1 := rq.n
  simp only [AtN, KS, Nat.reduceAdd, Nat.reduceMul, Nat.reduceEqDiff, ↓reduceIte, UT, PlanD.cs] at p1 q1
  (repeat with_reducible first | refine js ?_ | refine ja ?_ | refine jw KL4 [] (aa TF4 (aa p1 (aa q1 KX))) fun _ => ?_)
  refine same22W (b := true) (decide_eq_true rfl) hp hq fun wC xC => ?_
  (repeat with_reducible first | refine js ?_ | refine ja ?_ | refine jw KL4 [] (aa TF4 KX) fun _ => ?_)
  refine Run_ret ?_
  simp [Rets, RetM, resV, fnd, oneOr]
  exact y9.trans (z11.trans xC)
set_option maxHeartbeats 1000000 in
theorem lawCheckSpec22 (vl : Value) (t : TimeD) (f : TariffD) (u0 u1 u2 vo v0 v1 v2 : Value) (l : List OrderD) (covers : Int) (p : PlanD) (w : World) (hl : Sl w vl t.Lines) (hT : TarR w f u0 u1 u2) (ho : Sl w vo l) (hP : PlanR w p v0 v1 v2) :
    Calls Tryz.prog 5 #[.agg (t.cs vl).toArray, .agg (f.cs u0 u1 u2).toArray, vo, .int .i64 covers, .agg (p.cs v0 v1 v2).toArray] w fun e w' => Yes22 e ∧ Ext w w' := by
  refine Calls_of_Run (args := [.agg (t.cs vl).toArray, .agg (f.cs u0 u1 u2).toArray, vo, .int .i64 covers, .agg (p.cs v0 v1 v2).toArray]) (n := 53) (rs := [.tmp 10]) Tryz.func5 rfl rfl rfl (by simp) ?_
  (repeat with_reducible first | refine js ?_ | refine ja ?_ | refine jw KL5 [] TF5 fun _ => ?_)
  refine SemW_box fun pt w1 h1 => SemW_box fun pf w2 h2 => SemW_box fun pp w3 h3 => ?_
  have x3 := h1.ext.trans (h2.ext.trans h3.ext)
  have T : ∀ w', Ext w3 w' → AtN w' pt 0 (t.cs vl) := fun w' x => (h1.at_.ext (h2.ext.trans (h3.ext.trans x))).n
  have F : ∀ w', Ext w3 w' → AtN w' pf 0 (f.cs u0 u1 u2) := fun w' x => (h2.at_.ext (h3.ext.trans x)).n
  have P : ∀ w', Ext w3 w' → AtN w' pp 0 (p.cs v0 v1 v2) := fun w' x => (h3.at_.ext x).n
  simp only [TimeD.cs, TariffD.cs, PlanD.cs, AtN, KS, Nat.reduceAdd, Nat.reduceMul, Nat.reduceEqDiff, ↓reduceIte, UT] at T F P
  (repeat with_reducible first | refine js ?_ | refine ja ?_ | refine jw KL5 [] TF5 fun _ => ?_)
  refine sane22W fun w5 x5 => ?_
  have y5 := x3.trans x5
  have t5 := T w5 x5
  have f5 := F w5 x5
  (repeat with_reducible first | refine js ?_ | refine ja ?_ | refine jw KL5 [] TF5 fun _ => ?_)
  refine Run_condS (fun _ => rfl) (fun h => by cases h) (fun _ => ?_)
  (repeat with_reducible first | refine js ?_ | refine ja ?_ | refine jw KL5 [] (aa TF5 (aa t5 (aa f5 KX))) fun _ => ?_)
  refine few22W (hl.ext y5) (hT.ext y5) (ho.ext y5) fun b w7 x7 => ?_
  have y7 := y5.trans x7
  have z7 := x5.trans x7
  have p7 := P w7 z7
  (repeat with_reducible first | refine js ?_ | refine ja ?_ | refine jw KL5 [] (aa TF5 (aa p7 KX)) fun _ => ?_)
  refine .inr ⟨.bool (fewPl p), fun _ => PC_pure call21 fun w8 x8 => rfFewPlan v0 v1 v2 p w8 (hP.ext (y7.trans x8)), fun w8 x8 => ?_⟩
  unfold hush
  have y8 := y7.trans x8
  have z8 := z7.trans x8
  (repeat with_reducible first | refine js ?_ | refine ja ?_ | refine jw KL5 [] (aa TF5 (aa p7 KX)) fun _ => ?_)
  refine Run_condS (fun _ => rfl) (fun h => ?_) (fun h => ?_)
  · (repeat with_reducible first | refine js ?_ | refine ja ?_ | refine jw KL5 [] TF5 fun _ => ?_)
    refine Run_ret ?_
    simp [Rets, RetM, resV, fnd, oneOr, y8]
  clear h
  have t8 := T w8 z8
  have f8 := F w8 z8
  have p8 := P w8 z8
  (repeat with_reducible first | refine js ?_ | refine ja ?_ | refine jw KL5 [] (aa TF5 (aa t8 (aa f8 p8))) fun _ => ?_)
  refine plChkW (hl.ext y8) (hT.ext y8) (ho.ext y8) (hP.ext y8) rfl fun w9 x9 => ?_
  have y9 := y8.trans x9
  have z9 := z8.trans x9
  have t9 := T w9 z9
  have f9 := F w9 z9
  have p9 := P w9 z9
  (repeat with_reducible first | refine js ?_ | refine ja ?_ | refine jw KL5 [] (aa TF5 (aa t9 (aa f9 p9))) fun _ => ?_)
  refine rChkW (hl.ext y9) (hT.ext y9) (ho.ext y9) (hP.ext y9) fun wA xA => ?_
  (repeat with_reducible first | refine js ?_ | refine ja ?_ | refine jw KL5 [] (aa TF5 KX) fun _ => ?_)
  refine Run_ret ?_
  simp [Rets, RetM, resV, fnd, oneOr]
  exact y9.trans xA
end Go.Proofs.YthengmdnikaooaaGreat
