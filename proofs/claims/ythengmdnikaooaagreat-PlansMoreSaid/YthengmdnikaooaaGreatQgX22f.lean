import Derived.Test.YthengmdnikaooaaGreatQgX22c
import Derived.Test.YthengmdnikaooaaGreatQgGb
import Derived.Test.YthengmdnikaooaaGreatQgGe
namespace Go.Proofs.YthengmdnikaooaaGreat
open Go Go.Fk
set_option linter.unusedSimpArgs false
set_option linter.unusedVariables false
set_option maxRecDepth 100000
set_option maxHeartbeats 4000000 in
theorem lawMore22 (vl : Value) (t : TimeD) (f : TariffD) (u0 u1 u2 vo : Value) (l : List OrderD) (c m a : Int) (w : World) (hl : Sl w vl t.Lines) (hT : TarR w f u0 u1 u2) (ho : Sl w vo l) (hc : 0 ≤ c ∧ c ≤ 255) (hm : 0 ≤ m ∧ m ≤ 255) (ha : 0 ≤ a ∧ a ≤ 255) :
    Calls Tryz.prog 9 #[.agg (t.cs vl).toArray, .agg (f.cs u0 u1 u2).toArray, vo, .int .u8 c, .int .u8 m, .int .u8 a] w fun e w' => Yes22 e ∧ Ext w w' := by
  have hol := ho.len
  refine Calls_of_Run (args := [.agg (t.cs vl).toArray, .agg (f.cs u0 u1 u2).toArray, vo, .int .u8 c, .int .u8 m, .int .u8 a]) (n := 119) (rs := [.tmp 12]) Tryz.func9 rfl rfl rfl (by simp) ?_
  (repeat with_reducible first | refine js ?_ | refine ja ?_ | refine jw KL9 [9] TF9 fun _ => ?_)
  refine SemW_box fun pt w1 h1 => SemW_box fun pf w2 h2 => ?_
  have x2 := h1.ext.trans h2.ext
  have T : ∀ w', Ext w2 w' → AtN w' pt 0 (t.cs vl) := fun w' x => (h1.at_.ext (h2.ext.trans x)).n
  have F : ∀ w', Ext w2 w' → AtN w' pf 0 (f.cs u0 u1 u2) := fun w' x => (h2.at_.ext x).n
  simp only [TimeD.cs, TariffD.cs, AtN, KS, Nat.reduceAdd, Nat.reduceMul, Nat.reduceEqDiff, ↓reduceIte, UT] at T F
  (repeat with_reducible first | refine js ?_ | refine ja ?_ | refine jw KL9 [9] TF9 fun _ => ?_)
  refine sane22W fun w5 x5 => ?_
  have y5 := x2.trans x5
  have t5 := T w5 x5
  have f5 := F w5 x5
  (repeat with_reducible first | refine js ?_ | refine ja ?_ | refine jw KL9 [9] TF9 fun _ => ?_)
  refine Run_condS (fun _ => rfl) (fun h => by cases h) (fun _ => ?_)
  (repeat with_reducible first | refine js ?_ | refine ja ?_ | refine jw KL9 [9] (aa TF9 (aa t5 f5)) fun _ => ?_)
  refine few22W (hl.ext y5) (hT.ext y5) (ho.ext y5) fun b w7 x7 => ?_
  have y7 := y5.trans x7
  have z7 := x5.trans x7
  (repeat with_reducible first | refine js ?_ | refine ja ?_ | refine jw KL9 [9] TF9 fun _ => ?_)
  refine Run_condS (fun _ => rfl) (fun h => ?_) (fun h => ?_)
  · (repeat with_reducible first | refine js ?_ | refine ja ?_ | refine jw KL9 [9] TF9 fun _ => ?_)
    refine Run_ret ?_
    simp [Rets, RetM, resV, fnd, oneOr, y7]
  clear h
  have t7 := T w7 z7
  have f7 := F w7 z7
  (repeat with_reducible first | refine js ?_ | refine ja ?_ | refine jw KL9 [9] (aa TF9 (aa t7 f7)) fun _ => ?_)
  rcases Pl.make_cases t f l c with ⟨of, hmk, he, hoE, hmak⟩ | ⟨e, hmak, hno⟩
  · refine plMakeW (hl.ext y7) (hT.ext y7) (ho.ext y7) (by unfold I64; omega) hmak fun a0 a1 a2 w8 x8 hP => ?_
    (try simp (maxSteps := 5000000) only [KS, Nat.reduceAdd, Nat.reduceMul, Nat.reduceEqDiff, ↓reduceIte, forall_const, Int.cast_ofNat_Int, Int.reduceToNat, List.take_succ_cons, List.take_zero, List.drop_succ_cons, List.drop_zero, TF9, KL9]); (try simp (disch := omega) only [wrapI, tmodI, tdivI])
    refine ⟨by decide, by decide, by decide, ?_⟩
    refine planVar hP fun pp w9 x9 PP => ?_
    have z9 := z7.trans (x8.trans x9)
    have y9 := x2.trans z9
    obtain ⟨b0, b1, b2, rp, hp⟩ := PP
    have t9 := T w9 z9
    have f9 := F w9 z9
    (repeat with_reducible first | refine js ?_ | refine ja ?_ | refine jw KL9 [9] (aa TF9 KX) fun _ => ?_)
    refine Run_condS (fun _ => rfl) (fun h => by cases h) (fun _ => ?_)
    (repeat with_reducible first | refine js ?_ | refine ja ?_ | refine jw KL9 [9] (aa TF9 (aa t9 f9)) fun _ => ?_)
    obtain ⟨of2, hmk2, hlt⟩ := Pl.make_more (show c ≤ c + m by omega) hoE hmk
    have hmak2 := Pl.make_of he hoE hmk2
    obtain ⟨_, hac, hof⟩ := Pl.make_good hoE he hmk
    obtain ⟨_, hac2, hof2⟩ := Pl.make_good hoE he hmk2
    have hn64 := (Pl.err_ok he).n
    refine plMakeW (hl.ext y9) (hT.ext y9) (ho.ext y9) (by unfold I64; omega) hmak2 fun a0 a1 a2 w10 x10 hQ => ?_
    (try simp (maxSteps := 5000000) only [KS, Nat.reduceAdd, Nat.reduceMul, Nat.reduceEqDiff, ↓reduceIte, forall_const, Int.cast_ofNat_Int, Int.reduceToNat, List.take_succ_cons, List.take_zero, List.drop_succ_cons, List.drop_zero, TF9, KL9]); (try simp (disch := omega) only [wrapI, tmodI, tdivI])
    refine ⟨by decide, by decide, by decide, ?_⟩
    refine planVar hQ fun pq w11 x11 PQ => ?_
    have z11 := z9.trans (x10.trans x11)
    have y11 := x2.trans z11
    obtain ⟨c0, c1, c2, rq, hq⟩ := PQ
    have hp11 := hp.ext (x10.trans x11)
    have rp11 := rp.ext (x10.trans x11)
    let S : Nat → Prop := fun _ => True
    (repeat with_reducible first | refine jq ?_ | refine jk ?_ | refine jc ?_ | refine jl ?_ | refine jb ?_ | refine jo ?_ | refine ji ?_ | refine jx rfl ?_)
    refine Run_eh S [25] [(7, [10, 13, 17, 20, 25]), (14, [17, 20, 25]), (21, [22, 25]), (23, [24, 25])] (id := 9) KL9 (.first 0 (.first 1 (.first 2 (.first 3 (.first 4 (.alt true 5 (.first 6 (.first 7 (.first 8 (.first 9 (.alt true 10 (.first 11 (.alt true 12 (.first 13 (.first 14 (.first 15 (.first 16 (.alt true 17 (.first 18 (.alt true 19 (.first 20 (.first 21 (.first 23 (.alt true 22 (.alt true 24 (.alt true 25 (.free (.alt 26 .done .stop)) .stop) .stop) .stop)))) .stop)) .stop))))) .stop)) .stop))))) .stop)))))) mixed (by kernel_rfl) (by kernel_rfl) fun w12 x12 _ => ?_
    have p12 := (rp11.ext x12).n
    have q12 := (rq.ext x12).n
    simp only [AtN, KS, Nat.reduceAdd, Nat.reduceMul, Nat.reduceEqDiff, ↓reduceIte, UT, PlanD.cs] at p12 q12
    (repeat first | with_reducible exact eh_stop | (with_reducible refine And.intro ?_ ?_; (first | exact trivial | exact rfl)) | refine eh_skip1 rfl rfl rfl rfl rfl rfl ?_ | (refine eh_go1 rfl rfl rfl rfl rfl rfl fun _ => ?_; try (try simp (maxSteps := 5000000) only [KS, Nat.reduceAdd, Nat.reduceMul, Nat.reduceEqDiff, ↓reduceIte, forall_const, Int.cast_ofNat_Int, Int.reduceToNat, List.take_succ_cons, List.take_zero, List.drop_succ_cons, List.drop_zero, TF9, KL9, gres, qopS, putL, ung, p12, q12, hol, ho.s]); (try simp (disch := omega) only [wrapI, tmodI, tdivI])) | (refine eh_fr1 rfl rfl fun _ => ?_; try (try simp (maxSteps := 5000000) only [KS, Nat.reduceAdd, Nat.reduceMul, Nat.reduceEqDiff, ↓reduceIte, forall_const, Int.cast_ofNat_Int, Int.reduceToNat, List.take_succ_cons, List.take_zero, List.drop_succ_cons, List.drop_zero, TF9, KL9, gres, qopS, putL, ung, p12, q12, hol, ho.s]); (try simp (disch := omega) only [wrapI, tmodI, tdivI])) | (refine eh_frA rfl rfl (fun _ => by first | exact Keep.refl _ _ | assumption) (fun _ => ?_) eh_stop; try (try simp (maxSteps := 5000000) only [KS, Nat.reduceAdd, Nat.reduceMul, Nat.reduceEqDiff, ↓reduceIte, forall_const, Int.cast_ofNat_Int, Int.reduceToNat, List.take_succ_cons, List.take_zero, List.drop_succ_cons, List.drop_zero, TF9, KL9, gres, qopS, putL, ung, p12, q12, hol, ho.s]); (try simp (disch := omega) only [wrapI, tmodI, tdivI])) | (refine eh_goA rfl rfl rfl rfl rfl rfl (fun _ => by first | exact Keep.refl _ _ | assumption) (fun _ => ?_) eh_stop; try (try simp (maxSteps := 5000000) only [KS, Nat.reduceAdd, Nat.reduceMul, Nat.reduceEqDiff, ↓reduceIte, forall_const, Int.cast_ofNat_Int, Int.reduceToNat, List.take_succ_cons, List.take_zero, List.drop_succ_cons, List.drop_zero, TF9, KL9, gres, qopS, putL, ung, p12, q12, hol, ho.s]); (try simp (disch := omega) only [wrapI, tmodI, tdivI])) | (refine eh_skipA rfl rfl rfl rfl rfl rfl (fun _ => by first | exact Keep.refl _ _ | assumption) ?_ eh_stop))
    refine CallW_pure call27 (lwInside (Pl.planOf l of) l.length b0 b1 b2 w12 (hp11.ext x12)) fun w13 x13 => ?_
    rw [hac.inside]
    have p13 := (rp11.ext (x12.trans x13)).n
    have q13 := (rq.ext (x12.trans x13)).n
    simp only [AtN, KS, Nat.reduceAdd, Nat.reduceMul, Nat.reduceEqDiff, ↓reduceIte, UT, PlanD.cs] at p13 q13
    have k13 : Keep S w12 w13 := Keep.of_ext x13
    (repeat first | with_reducible exact eh_stop | (with_reducible refine And.intro ?_ ?_; (first | exact trivial | exact rfl)) | refine eh_skip1 rfl rfl rfl rfl rfl rfl ?_ | (refine eh_go1 rfl rfl rfl rfl rfl rfl fun _ => ?_; try (try simp (maxSteps := 5000000) only [KS, Nat.reduceAdd, Nat.reduceMul, Nat.reduceEqDiff, ↓reduceIte, forall_const, Int.cast_ofNat_Int, Int.reduceToNat, List.take_succ_cons, List.take_zero, List.drop_succ_cons, List.drop_zero, TF9, KL9, gres, qopS, putL, ung, p12, q12, p13, q13, hol, ho.s]); (try simp (disch := omega) only [wrapI, tmodI, tdivI])) | (refine eh_fr1 rfl rfl fun _ => ?_; try (try simp (maxSteps := 5000000) only [KS, Nat.reduceAdd, Nat.reduceMul, Nat.reduceEqDiff, ↓reduceIte, forall_const, Int.cast_ofNat_Int, Int.reduceToNat, List.take_succ_cons, List.take_zero, List.drop_succ_cons, List.drop_zero, TF9, KL9, gres, qopS, putL, ung, p12, q12, p13, q13, hol, ho.s]); (try simp (disch := omega) only [wrapI, tmodI, tdivI])) | (refine eh_frA rfl rfl (fun _ => by first | exact Keep.refl _ _ | assumption) (fun _ => ?_) eh_stop; try (try simp (maxSteps := 5000000) only [KS, Nat.reduceAdd, Nat.reduceMul, Nat.reduceEqDiff, ↓reduceIte, forall_const, Int.cast_ofNat_Int, Int.reduceToNat, List.take_succ_cons, List.take_zero, List.drop_succ_cons, List.drop_zero, TF9, KL9, gres, qopS, putL, ung, p12, q12, p13, q13, hol, ho.s]); (try simp (disch := omega) only [wrapI, tmodI, tdivI])) | (refine eh_goA rfl rfl rfl rfl rfl rfl (fun _ => by first | exact Keep.refl _ _ | assumption) (fun _ => ?_) eh_stop; try (try simp (maxSteps := 5000000) only [KS, Nat.reduceAdd, Nat.reduceMul, Nat.reduceEqDiff, ↓reduceIte, forall_const, Int.cast_ofNat_Int, Int.reduceToNat, List.take_succ_cons, List.take_zero, List.drop_succ_cons, List.drop_zero, TF9, KL9, gres, qopS, putL, ung, p12, q12, p13, q13, hol, ho.s]); (try simp (disch := omega) only [wrapI, tmodI, tdivI])) | (refine eh_skipA rfl rfl rfl rfl rfl rfl (fun _ => by first | exact Keep.refl _ _ | assumption) ?_ eh_stop))
    refine CallW_pure call27 (lwInside (Pl.planOf l of2) l.length c0 c1 c2 w13 (hq.ext (x12.trans x13))) fun w14 x14 => ?_
    rw [hac2.inside]
    have p14 := (rp11.ext (x12.trans (x13.trans x14))).n
    have q14 := (rq.ext (x12.trans (x13.trans x14))).n
    simp only [AtN, KS, Nat.reduceAdd, Nat.reduceMul, Nat.reduceEqDiff, ↓reduceIte, UT, PlanD.cs] at p14 q14
    have k14 : Keep S w12 w14 := Keep.of_ext (x13.trans x14)
    (repeat first | with_reducible exact eh_stop | (with_reducible refine And.intro ?_ ?_; (first | exact trivial | exact rfl)) | refine eh_skip1 rfl rfl rfl rfl rfl rfl ?_ | (refine eh_go1 rfl rfl rfl rfl rfl rfl fun _ => ?_; try (try simp (maxSteps := 5000000) only [KS, Nat.reduceAdd, Nat.reduceMul, Nat.reduceEqDiff, ↓reduceIte, forall_const, Int.cast_ofNat_Int, Int.reduceToNat, List.take_succ_cons, List.take_zero, List.drop_succ_cons, List.drop_zero, TF9, KL9, gres, qopS, putL, ung, p12, q12, p13, q13, p14, q14, hol, ho.s]); (try simp (disch := omega) only [wrapI, tmodI, tdivI])) | (refine eh_fr1 rfl rfl fun _ => ?_; try (try simp (maxSteps := 5000000) only [KS, Nat.reduceAdd, Nat.reduceMul, Nat.reduceEqDiff, ↓reduceIte, forall_const, Int.cast_ofNat_Int, Int.reduceToNat, List.take_succ_cons, List.take_zero, List.drop_succ_cons, List.drop_zero, TF9, KL9, gres, qopS, putL, ung, p12, q12, p13, q13, p14, q14, hol, ho.s]); (try simp (disch := omega) only [wrapI, tmodI, tdivI])) | (refine eh_frA rfl rfl (fun _ => by first | exact Keep.refl _ _ | assumption) (fun _ => ?_) eh_stop; try (try simp (maxSteps := 5000000) only [KS, Nat.reduceAdd, Nat.reduceMul, Nat.reduceEqDiff, ↓reduceIte, forall_const, Int.cast_ofNat_Int, Int.reduceToNat, List.take_succ_cons, List.take_zero, List.drop_succ_cons, List.drop_zero, TF9, KL9, gres, qopS, putL, ung, p12, q12, p13, q13, p14, q14, hol, ho.s]); (try simp (disch := omega) only [wrapI, tmodI, tdivI])) | (refine eh_goA rfl rfl rfl rfl rfl rfl (fun _ => by first | exact Keep.refl _ _ | assumption) (fun _ => ?_) eh_stop; try (try simp (maxSteps := 5000000) only [KS, Nat.reduceAdd, Nat.reduceMul, Nat.reduceEqDiff, ↓reduceIte, forall_const, Int.cast_ofNat_Int, Int.reduceToNat, List.take_succ_cons, List.take_zero, List.drop_succ_cons, List.drop_zero, TF9, KL9, gres, qopS, putL, ung, p12, q12, p13, q13, p14, q14, hol, ho.s]); (try simp (disch := omega) only [wrapI, tmodI, tdivI])) | (refine eh_skipA rfl rfl rfl rfl rfl rfl (fun _ => by first | exact Keep.refl _ _ | assumption) ?_ eh_stop))
    refine ofW (p := Pl.planOf l of) (hp11.ext (x12.trans (x13.trans x14))) hac.ins (by have := hac.ol; omega) fun va w15 x15 sa => ?_
    rw [hof] at sa
    have k15 : Keep S w12 w15 := Keep.of_ext (x13.trans (x14.trans x15))
    (repeat first | with_reducible exact eh_stop | (with_reducible refine And.intro ?_ ?_; (first | exact trivial | exact rfl)) | refine eh_skip1 rfl rfl rfl rfl rfl rfl ?_ | (refine eh_go1 rfl rfl rfl rfl rfl rfl fun _ => ?_; try (try simp (maxSteps := 5000000) only [KS, Nat.reduceAdd, Nat.reduceMul, Nat.reduceEqDiff, ↓reduceIte, forall_const, Int.cast_ofNat_Int, Int.reduceToNat, List.take_succ_cons, List.take_zero, List.drop_succ_cons, List.drop_zero, TF9, KL9, gres, qopS, putL, ung, p12, q12, p13, q13, p14, q14, hol, ho.s]); (try simp (disch := omega) only [wrapI, tmodI, tdivI])) | (refine eh_fr1 rfl rfl fun _ => ?_; try (try simp (maxSteps := 5000000) only [KS, Nat.reduceAdd, Nat.reduceMul, Nat.reduceEqDiff, ↓reduceIte, forall_const, Int.cast_ofNat_Int, Int.reduceToNat, List.take_succ_cons, List.take_zero, List.drop_succ_cons, List.drop_zero, TF9, KL9, gres, qopS, putL, ung, p12, q12, p13, q13, p14, q14, hol, ho.s]); (try simp (disch := omega) only [wrapI, tmodI, tdivI])) | (refine eh_frA rfl rfl (fun _ => by first | exact Keep.refl _ _ | assumption) (fun _ => ?_) eh_stop; try (try simp (maxSteps := 5000000) only [KS, Nat.reduceAdd, Nat.reduceMul, Nat.reduceEqDiff, ↓reduceIte, forall_const, Int.cast_ofNat_Int, Int.reduceToNat, List.take_succ_cons, List.take_zero, List.drop_succ_cons, List.drop_zero, TF9, KL9, gres, qopS, putL, ung, p12, q12, p13, q13, p14, q14, hol, ho.s]); (try simp (disch := omega) only [wrapI, tmodI, tdivI])) | (refine eh_goA rfl rfl rfl rfl rfl rfl (fun _ => by first | exact Keep.refl _ _ | assumption) (fun _ => ?_) eh_stop; try (try simp (maxSteps := 5000000) only [KS, Nat.reduceAdd, Nat.reduceMul, Nat.reduceEqDiff, ↓reduceIte, forall_const, Int.cast_ofNat_Int, Int.reduceToNat, List.take_succ_cons, List.take_zero, List.drop_succ_cons, List.drop_zero, TF9, KL9, gres, qopS, putL, ung, p12, q12, p13, q13, p14, q14, hol, ho.s]); (try simp (disch := omega) only [wrapI, tmodI, tdivI])) | (refine eh_skipA rfl rfl rfl rfl rfl rfl (fun _ => by first | exact Keep.refl _ _ | assumption) ?_ eh_stop))
    refine ofW (p := Pl.planOf l of2) (hq.ext (x12.trans (x13.trans (x14.trans x15)))) hac2.ins (by have := hac2.ol; omega) fun vb w16 x16 sb => ?_
    rw [hof2] at sb
    have k16 : Keep S w12 w16 := Keep.of_ext (x13.trans (x14.trans (x15.trans x16)))
    (repeat first | with_reducible exact eh_stop | (with_reducible refine And.intro ?_ ?_; (first | exact trivial | exact rfl)) | refine eh_skip1 rfl rfl rfl rfl rfl rfl ?_ | (refine eh_go1 rfl rfl rfl rfl rfl rfl fun _ => ?_; try (try simp (maxSteps := 5000000) only [KS, Nat.reduceAdd, Nat.reduceMul, Nat.reduceEqDiff, ↓reduceIte, forall_const, Int.cast_ofNat_Int, Int.reduceToNat, List.take_succ_cons, List.take_zero, List.drop_succ_cons, List.drop_zero, TF9, KL9, gres, qopS, putL, ung, p12, q12, p13, q13, p14, q14, hol, ho.s]); (try simp (disch := omega) only [wrapI, tmodI, tdivI])) | (refine eh_fr1 rfl rfl fun _ => ?_; try (try simp (maxSteps := 5000000) only [KS, Nat.reduceAdd, Nat.reduceMul, Nat.reduceEqDiff, ↓reduceIte, forall_const, Int.cast_ofNat_Int, Int.reduceToNat, List.take_succ_cons, List.take_zero, List.drop_succ_cons, List.drop_zero, TF9, KL9, gres, qopS, putL, ung, p12, q12, p13, q13, p14, q14, hol, ho.s]); (try simp (disch := omega) only [wrapI, tmodI, tdivI])) | (refine eh_frA rfl rfl (fun _ => by first | exact Keep.refl _ _ | assumption) (fun _ => ?_) eh_stop; try (try simp (maxSteps := 5000000) only [KS, Nat.reduceAdd, Nat.reduceMul, Nat.reduceEqDiff, ↓reduceIte, forall_const, Int.cast_ofNat_Int, Int.reduceToNat, List.take_succ_cons, List.take_zero, List.drop_succ_cons, List.drop_zero, TF9, KL9, gres, qopS, putL, ung, p12, q12, p13, q13, p14, q14, hol, ho.s]); (try simp (disch := omega) only [wrapI, tmodI, tdivI])) | (refine eh_goA rfl rfl rfl rfl rfl rfl (fun _ => by first | exact Keep.refl _ _ | assumption) (fun _ => ?_) eh_stop; try (try simp (maxSteps := 5000000) only [KS, Nat.reduceAdd, Nat.reduceMul, Nat.reduceEqDiff, ↓reduceIte, forall_const, Int.cast_ofNat_Int, Int.reduceToNat, List.take_succ_cons, List.take_zero, List.drop_succ_cons, List.drop_zero, TF9, KL9, gres, qopS, putL, ung, p12, q12, p13, q13, p14, q14, hol, ho.s]); (try simp (disch := omega) only [wrapI, tmodI, tdivI])) | (refine eh_skipA rfl rfl rfl rfl rfl rfl (fun _ => by first | exact Keep.refl _ _ | assumption) ?_ eh_stop))
    refine lessW (sa.ext x16) sb (by rw [(Pl.mk_ok hoE hmk).n, (Pl.mk_ok hoE hmk2).n]; exact Nat.le_refl _) fun w17 x17 => ?_
    rw [hlt]
    have k17 : Keep S w12 w17 := Keep.of_ext (x13.trans (x14.trans (x15.trans (x16.trans x17))))
    (repeat first | with_reducible exact eh_stop | (with_reducible refine And.intro ?_ ?_; (first | exact trivial | exact rfl)) | refine eh_skip1 rfl rfl rfl rfl rfl rfl ?_ | (refine eh_go1 rfl rfl rfl rfl rfl rfl fun _ => ?_; try (try simp (maxSteps := 5000000) only [KS, Nat.reduceAdd, Nat.reduceMul, Nat.reduceEqDiff, ↓reduceIte, forall_const, Int.cast_ofNat_Int, Int.reduceToNat, List.take_succ_cons, List.take_zero, List.drop_succ_cons, List.drop_zero, TF9, KL9, gres, qopS, putL, ung, p12, q12, p13, q13, p14, q14, hol, ho.s]); (try simp (disch := omega) only [wrapI, tmodI, tdivI])) | (refine eh_fr1 rfl rfl fun _ => ?_; try (try simp (maxSteps := 5000000) only [KS, Nat.reduceAdd, Nat.reduceMul, Nat.reduceEqDiff, ↓reduceIte, forall_const, Int.cast_ofNat_Int, Int.reduceToNat, List.take_succ_cons, List.take_zero, List.drop_succ_cons, List.drop_zero, TF9, KL9, gres, qopS, putL, ung, p12, q12, p13, q13, p14, q14, hol, ho.s]); (try simp (disch := omega) only [wrapI, tmodI, tdivI])) | (refine eh_frA rfl rfl (fun _ => by first | exact Keep.refl _ _ | assumption) (fun _ => ?_) eh_stop; try (try simp (maxSteps := 5000000) only [KS, Nat.reduceAdd, Nat.reduceMul, Nat.reduceEqDiff, ↓reduceIte, forall_const, Int.cast_ofNat_Int, Int.reduceToNat, List.take_succ_cons, List.take_zero, List.drop_succ_cons, List.drop_zero, TF9, KL9, gres, qopS, putL, ung, p12, q12, p13, q13, p14, q14, hol, ho.s]); (try simp (disch := omega) only [wrapI, tmodI, tdivI])) | (refine eh_goA rfl rfl rfl rfl rfl rfl (fun _ => by first | exact Keep.refl _ _ | assumption) (fun _ => ?_) eh_stop; try (try simp (maxSteps := 5000000) only [KS, Nat.reduceAdd, Nat.reduceMul, Nat.reduceEqDiff, ↓reduceIte, forall_const, Int.cast_ofNat_Int, Int.reduceToNat, List.take_succ_cons, List.take_zero, List.drop_succ_cons, List.drop_zero, TF9, KL9, gres, qopS, putL, ung, p12, q12, p13, q13, p14, q14, hol, ho.s]); (try simp (disch := omega) only [wrapI, tmodI, tdivI])) | (refine eh_skipA rfl rfl rfl rfl rfl rfl (fun _ => by first | exact Keep.refl _ _ | assumption) ?_ eh_stop))
    (try simp (maxSteps := 5000000) only [KS, Nat.reduceAdd, Nat.reduceMul, Nat.reduceEqDiff, ↓reduceIte, forall_const, Int.cast_ofNat_Int, Int.reduceToNat, List.take_succ_cons, List.take_zero, List.drop_succ_cons, List.drop_zero, TF9, KL9, eh, gres, qopS, putL, ung]); (try simp (disch := omega) only [wrapI, tmodI, tdivI])
    refine Run_condS (fun _ => rfl) (fun h => by cases h) (fun _ => ?_)
    have y17 := y11.trans (x12.trans (x13.trans (x14.trans (x15.trans (x16.trans x17)))))
    have z17 := z11.trans (x12.trans (x13.trans (x14.trans (x15.trans (x16.trans x17)))))
    clear k13 k14 k15 k16 k17 p12 p13 p14 q12 q13 q14 sa sb
    (repeat with_reducible first | refine js ?_ | refine ja ?_ | refine jw KL9 [9] (aa TF9 (aa hol ho.s)) fun _ => ?_)
    refine Run_condS (fun _ => rfl) (fun h => ?_) (fun h => ?_)
    · (repeat with_reducible first | refine js ?_ | refine ja ?_ | refine jw KL9 [9] TF9 fun _ => ?_)
      refine Run_ret ?_
      simp [Rets, RetM, resV, fnd, oneOr, y17]
    have hl0 : 0 < l.length := by simp at h; exact List.length_pos_iff.2 h
    clear h
    obtain ⟨k, hk, hkl⟩ : ∃ k : Nat, a % (l.length : Int) = k ∧ k < l.length := by
      have h1 := Int.emod_nonneg a (show (l.length : Int) ≠ 0 by omega)
      have h2 := Int.emod_lt_of_pos a (show (0 : Int) < l.length by omega)
      exact ⟨(a % l.length).toNat, by omega, by omega⟩
    have hl0' : (l.length : Int) ≠ 0 := by omega
    (repeat with_reducible first | refine js ?_ | refine ja ?_ | refine jw KL9 [9] (aa TF9 (aa hol (aa ho.s (aa hk hl0')))) fun _ => ?_)
    obtain ⟨rs, srs, rr⟩ := (ho.ext y17).rawO
    have hrn := rr.n
    have hcap := srs.cap
    (repeat with_reducible first | refine jq ?_ | refine jk ?_ | refine jc ?_ | refine jl ?_ | refine jb ?_ | refine jo ?_ | refine ji ?_ | refine jx rfl ?_)
    refine Run_cutV [21, 22] (σ := Unit) (fun _ => [(21, some (.bool true)), (22, some (.int .i64 0))]) (fun _ w' => Ext w17 w') ?_ ?_
    · refine Run_ec (id := 14) KL9 (.first 0 (.first 1 (.first 3 (.first 4 (.first 5 (.first 7 (.first 8 (.first 9 (.first 10 (.first 12 (.first 13 (.first 14 (.alt 2 (.alt 6 (.alt 11 (.alt 15 (.first 16 (.first 17 (.first 18 (.first 19 (.alt 20 (.alt 21 (.first 22 (.first 23 .done)) .stop) .stop))))) (.alt 20 (.alt 15 (.first 16 (.first 17 (.first 18 (.first 19 (.alt 21 (.first 22 (.first 23 .done)) .stop))))) .stop) .stop)) (.alt 20 (.alt 11 (.alt 15 (.first 16 (.first 17 (.first 18 (.first 19 (.alt 21 (.first 22 (.first 23 .done)) .stop))))) .stop) .stop) .stop)) (.alt 20 (.alt 6 (.alt 11 (.alt 15 (.first 16 (.first 17 (.first 18 (.first 19 (.alt 21 (.first 22 (.first 23 .done)) .stop))))) .stop) .stop) .stop) .stop)) (.alt 20 (.alt 2 (.alt 6 (.alt 11 (.alt 15 (.first 16 (.first 17 (.first 18 (.first 19 (.alt 21 (.first 22 (.first 23 .done)) .stop))))) .stop) .stop) .stop) .stop) .stop)))))))))))))) mixed (by kernel_rfl) (by kernel_rfl) fun w0 x0 _ => ?_
      have z0 := z17.trans x0
      have t0 := T w0 z0
      have f0 := F w0 z0
      have ek : ((k : Int) + 1).toNat = k + 1 := by omega
      (try simp (maxSteps := 5000000) only [KS, Nat.reduceAdd, Nat.reduceMul, Nat.reduceEqDiff, ↓reduceIte, forall_const, Int.cast_ofNat_Int, Int.reduceToNat, List.take_succ_cons, List.take_zero, List.drop_succ_cons, List.drop_zero, TF9, KL9, ec, t0, f0, hol, ho.s, ek]); (try simp (disch := omega) only [wrapI, tmodI, tdivI])
      have y0 := y17.trans x0
      have hcapo : slCap vo = slCap vo := rfl
      have hll : rs.length ≤ slCap vo := hcap
      have sr0 := srs.ext x0
      have s1 := fun w' (x : Ext w0 w') => (sr0.ext x).sub (l := 0) (r := k) (m := slCap vo) (by omega) (by omega) (by omega) (Nat.le_refl _)
      have s2 := fun w' (x : Ext w0 w') => (sr0.ext x).sub (l := k + 1) (r := rs.length) (m := slCap vo) (by omega) (by omega) (by omega) (Nat.le_refl _)
      rw [List.take_length] at s2
      simp only [List.drop_zero] at s1
      rw [hrn] at s2
      obtain ⟨plz, hless⟩ := Pl.make_less hkl he hoE hmk
      have rr2 : RR w17 (rs.take k ++ rs.drop (k + 1)) (l.take k ++ l.drop (k + 1)) := (rr.take k).app (rr.drop (k + 1))
      have hA1 : ∀ {v : Value} {W : World} {K : Value → World → Prop}, BufL (α := RawO) 30 w0 W v [] → Ext w0 W → (∀ v' W', BufL (α := RawO) 30 w0 W' v' (rs.take k) → Keep (fun q => some q ≠ v.ownBlock) W W' → Ext w0 W' → K v' W') → SemW Tryz.prog (Builtin.append_ #[35, 35] 35 #[v, slSub 11 vo 0 k (slCap vo)]) W K := fun hb hx hK =>
        SemW_appendF (α := RawO) Tryz.underlying35 ti30 rfl (by decide) hb (s1 _ hx) (by simp [maxLen]; omega) fun v2 w'' hb' hg hx' => hK v2 w'' (by simpa using hb') (grown_keepO hg) hx'
      have hA2 : ∀ {v : Value} {W : World} {K : Value → World → Prop}, BufL (α := RawO) 30 w0 W v (rs.take k) → Ext w0 W → (∀ v' W', BufL (α := RawO) 30 w0 W' v' (rs.take k ++ rs.drop (k + 1)) → Keep (fun q => some q ≠ v.ownBlock) W W' → Ext w0 W' → K v' W') → SemW Tryz.prog (Builtin.append_ #[35, 35] 35 #[v, slSub 11 vo (k + 1) l.length (slCap vo)]) W K := fun hb hx hK =>
        SemW_appendF (α := RawO) Tryz.underlying35 ti30 rfl (by decide) hb (s2 _ hx) (by simp [maxLen]; omega) fun v2 w'' hb' hg hx' => hK v2 w'' hb' (grown_keepO hg) hx'
      refine ⟨⟨by omega, by omega, by omega, fun h => h.elim⟩, ⟨by omega, by omega, fun h => h.elim, fun h => h.elim⟩, ?_⟩
      refine ⟨Ext.refl w0, ?_⟩
      refine ⟨?_, (Ext.refl w0), ?_⟩
      · skip
        refine SemW_buildSlice (vs := []) Tryz.underlying35 ti30 rfl rfl rfl (by simp) (by simp) fun pe w1 hE => ⟨(Ext.refl w0).trans hE.ext, ?_⟩
        have x1 := hE.ext
        have e1 := (Ext.refl w0).trans x1
        have B1 : BufL (α := RawO) 30 w0 w1 (.slice (some pe) 0 0) [] := BufL.new (css := []) (xs := ([] : List RawO)) hE (Ext.refl w0) (Cs.nil _) (by simp)
        refine ⟨?_, e1, ?_⟩
        · skip
          refine hA1 B1 e1 fun v2 w2 B2 k2 e2 => ⟨e2, ?_⟩
          refine ⟨?_, e2, ?_⟩
          · skip
            refine hA2 B2 e2 fun v3 w3 B3 k3 e3 => ⟨e3, ?_⟩
            refine ⟨?_, e3, ?_⟩
            · skip
              refine plMakeW (l := l.take k ++ l.drop (k + 1)) (hl.ext (y0.trans e3)) (hT.ext (y0.trans e3)) ((B3.sl (by simp; omega)).unrawO (rr2.ext (x0.trans e3))) (by unfold I64; omega) hless fun a0 a1 a2 w4 x4 hP4 => ⟨⟨rfl, by simp [tpOf]⟩, ⟨rfl, by simp [tpOf]⟩, ⟨rfl, by simp [tpOf]⟩, e3.trans x4, ?_⟩
              have e4 := e3.trans x4
              refine SemW_allocT ti45 fun pz w5 hZ => ⟨e4.trans hZ.ext, ?_⟩
              have x5 := hZ.ext
              have e5 := e4.trans x5
              have bZ : w0.heap.size ≤ pz.block := by have := hZ.blk; have := e4.size; omega
              have r5 : Row w5 pz 45 [.slice none 0 0, .slice none 0 0, .slice none 0 0] := hZ.row
              have hP5 := hP4.ext x5
              refine putPV r5 hP5 fun w6 kz hz => ⟨extKeep e5 kz bZ, ?_⟩
              exact Run_lp ⟨(), by simp [SubB, fnd, strike, has], x0.trans (extKeep e5 kz bZ)⟩
            · skip
              refine SemW_allocT ti45 fun pz w4 hZ => ⟨e3.trans hZ.ext, ?_⟩
              have x4 := hZ.ext
              have e4 := e3.trans x4
              have bZ : w0.heap.size ≤ pz.block := by have := hZ.blk; have := e3.size; omega
              have r4 : Row w4 pz 45 [.slice none 0 0, .slice none 0 0, .slice none 0 0] := hZ.row
              have B4 := B3.ext x4
              refine plMakeW (l := l.take k ++ l.drop (k + 1)) (hl.ext (y0.trans e4)) (hT.ext (y0.trans e4)) ((B4.sl (by simp; omega)).unrawO (rr2.ext (x0.trans e4))) (by unfold I64; omega) hless fun a0 a1 a2 w5 x5 hP5 => ⟨⟨rfl, by simp [tpOf]⟩, ⟨rfl, by simp [tpOf]⟩, ⟨rfl, by simp [tpOf]⟩, e4.trans x5, ?_⟩
              have e5 := e4.trans x5
              have r5 := r4.ext x5
              refine putPV r5 hP5 fun w6 kz hz => ⟨extKeep e5 kz bZ, ?_⟩
              exact Run_lp ⟨(), by simp [SubB, fnd, strike, has], x0.trans (extKeep e5 kz bZ)⟩
          · skip
            refine SemW_allocT ti45 fun pz w3 hZ => ⟨e2.trans hZ.ext, ?_⟩
            have x3 := hZ.ext
            have e3 := e2.trans x3
            have bZ : w0.heap.size ≤ pz.block := by have := hZ.blk; have := e2.size; omega
            have r3 : Row w3 pz 45 [.slice none 0 0, .slice none 0 0, .slice none 0 0] := hZ.row
            have B3 := B2.ext x3
            refine hA2 B3 e3 fun v4 w4 B4 k4 e4 => ⟨e4, ?_⟩
            have r4 := r3.keep k4 (B3.o.ne r3 (by decide))
            refine plMakeW (l := l.take k ++ l.drop (k + 1)) (hl.ext (y0.trans e4)) (hT.ext (y0.trans e4)) ((B4.sl (by simp; omega)).unrawO (rr2.ext (x0.trans e4))) (by unfold I64; omega) hless fun a0 a1 a2 w5 x5 hP5 => ⟨⟨rfl, by simp [tpOf]⟩, ⟨rfl, by simp [tpOf]⟩, ⟨rfl, by simp [tpOf]⟩, e4.trans x5, ?_⟩
            have e5 := e4.trans x5
            have r5 := r4.ext x5
            refine putPV r5 hP5 fun w6 kz hz => ⟨extKeep e5 kz bZ, ?_⟩
            exact Run_lp ⟨(), by simp [SubB, fnd, strike, has], x0.trans (extKeep e5 kz bZ)⟩
        · skip
          refine SemW_allocT ti45 fun pz w2 hZ => ⟨e1.trans hZ.ext, ?_⟩
          have x2 := hZ.ext
          have e2 := e1.trans x2
          have bZ : w0.heap.size ≤ pz.block := by have := hZ.blk; have := e1.size; omega
          have r2 : Row w2 pz 45 [.slice none 0 0, .slice none 0 0, .slice none 0 0] := hZ.row
          have B2 := B1.ext x2
          refine hA1 B2 e2 fun v3 w3 B3 k3 e3 => ⟨e3, ?_⟩
          have r3 := r2.keep k3 (B2.o.ne r2 (by decide))
          refine hA2 B3 e3 fun v4 w4 B4 k4 e4 => ⟨e4, ?_⟩
          have r4 := r3.keep k4 (B3.o.ne r3 (by decide))
          refine plMakeW (l := l.take k ++ l.drop (k + 1)) (hl.ext (y0.trans e4)) (hT.ext (y0.trans e4)) ((B4.sl (by simp; omega)).unrawO (rr2.ext (x0.trans e4))) (by unfold I64; omega) hless fun a0 a1 a2 w5 x5 hP5 => ⟨⟨rfl, by simp [tpOf]⟩, ⟨rfl, by simp [tpOf]⟩, ⟨rfl, by simp [tpOf]⟩, e4.trans x5, ?_⟩
          have e5 := e4.trans x5
          have r5 := r4.ext x5
          refine putPV r5 hP5 fun w6 kz hz => ⟨extKeep e5 kz bZ, ?_⟩
          exact Run_lp ⟨(), by simp [SubB, fnd, strike, has], x0.trans (extKeep e5 kz bZ)⟩
      · skip
        refine SemW_allocT ti45 fun pz w1 hZ => ⟨(Ext.refl w0).trans hZ.ext, ?_⟩
        have x1 := hZ.ext
        have e1 := (Ext.refl w0).trans x1
        have bZ : w0.heap.size ≤ pz.block := by have := hZ.blk; have := (Ext.refl w0).size; omega
        have r1 : Row w1 pz 45 [.slice none 0 0, .slice none 0 0, .slice none 0 0] := hZ.row
        refine SemW_buildSlice (vs := []) Tryz.underlying35 ti30 rfl rfl rfl (by simp) (by simp) fun pe w2 hE => ⟨e1.trans hE.ext, ?_⟩
        have x2 := hE.ext
        have e2 := e1.trans x2
        have B2 : BufL (α := RawO) 30 w0 w2 (.slice (some pe) 0 0) [] := BufL.new (css := []) (xs := ([] : List RawO)) hE e1 (Cs.nil _) (by simp)
        have r2 := r1.ext x2
        refine hA1 B2 e2 fun v3 w3 B3 k3 e3 => ⟨e3, ?_⟩
        have r3 := r2.keep k3 (B2.o.ne r2 (by decide))
        refine hA2 B3 e3 fun v4 w4 B4 k4 e4 => ⟨e4, ?_⟩
        have r4 := r3.keep k4 (B3.o.ne r3 (by decide))
        refine plMakeW (l := l.take k ++ l.drop (k + 1)) (hl.ext (y0.trans e4)) (hT.ext (y0.trans e4)) ((B4.sl (by simp; omega)).unrawO (rr2.ext (x0.trans e4))) (by unfold I64; omega) hless fun a0 a1 a2 w5 x5 hP5 => ⟨⟨rfl, by simp [tpOf]⟩, ⟨rfl, by simp [tpOf]⟩, ⟨rfl, by simp [tpOf]⟩, e4.trans x5, ?_⟩
        have e5 := e4.trans x5
        have r5 := r4.ext x5
        refine putPV r5 hP5 fun w6 kz hz => ⟨extKeep e5 kz bZ, ?_⟩
        exact Run_lp ⟨(), by simp [SubB, fnd, strike, has], x0.trans (extKeep e5 kz bZ)⟩
    rintro _ w18 x18
    (repeat with_reducible first | refine js ?_ | refine ja ?_ | refine jw KL9 [9] (aa TF9 KX) fun _ => ?_)
    refine Run_ret ?_
    simp [Rets, RetM, resV, fnd, oneOr]
    exact y17.trans x18
  · refine plMakeW (hl.ext y7) (hT.ext y7) (ho.ext y7) (by unfold I64; omega) hmak fun a0 a1 a2 w8 x8 hP => ?_
    (try simp (maxSteps := 5000000) only [KS, Nat.reduceAdd, Nat.reduceMul, Nat.reduceEqDiff, ↓reduceIte, forall_const, Int.cast_ofNat_Int, Int.reduceToNat, List.take_succ_cons, List.take_zero, List.drop_succ_cons, List.drop_zero, TF9, KL9]); (try simp (disch := omega) only [wrapI, tmodI, tdivI])
    refine ⟨by decide, by decide, by decide, ?_⟩
    refine planVar hP fun pp w9 x9 PP => ?_
    have z9 := z7.trans (x8.trans x9)
    have y9 := x2.trans z9
    (repeat with_reducible first | refine js ?_ | refine ja ?_ | refine jw KL9 [9] (aa TF9 KX) fun _ => ?_)
    refine Run_condS (fun _ => rfl) (fun _ => ?_) (fun h => by simp at h)
    (repeat with_reducible first | refine js ?_ | refine ja ?_ | refine jw KL9 [9] TF9 fun _ => ?_)
    refine Run_ret ?_
    simp [Rets, RetM, resV, fnd, oneOr, y9]
end Go.Proofs.YthengmdnikaooaaGreat
