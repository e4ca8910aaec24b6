import Derived.Test.YthengmdnikaooaaGreatQgX22c
import Derived.Test.YthengmdnikaooaaGreatQgGe
namespace Go.Proofs.YthengmdnikaooaaGreat
open Go Go.Fk
set_option linter.unusedSimpArgs false
set_option linter.unusedVariables false
set_option maxRecDepth 100000
set_option maxHeartbeats 2000000 in
theorem lawAlone22 (vl : Value) (t : TimeD) (f : TariffD) (u0 u1 u2 : Value) (o : OrderD) (g : Value) (covers : Int) (w : World) (hl : Sl w vl t.Lines) (hT : TarR w f u0 u1 u2) (hO : OrdR w o g) (hcv : I64 covers) :
    Calls Tryz.prog 8 #[.agg (t.cs vl).toArray, .agg (f.cs u0 u1 u2).toArray, .agg (o.cs g).toArray, .int .i64 covers] w fun e w' => Yes22 e ∧ Ext w w' := by
  refine Calls_of_Run (args := [.agg (t.cs vl).toArray, .agg (f.cs u0 u1 u2).toArray, .agg (o.cs g).toArray, .int .i64 covers]) (n := 77) (rs := [.tmp 8]) Tryz.func8 rfl rfl rfl (by simp) ?_
  (repeat with_reducible first | refine js ?_ | refine ja ?_ | refine jw KL8 [] TF8 fun _ => ?_)
  refine SemW_box fun pt w1 h1 => SemW_box fun pf w2 h2 => SemW_box fun po w3 h3 => ?_
  have x3 := h1.ext.trans (h2.ext.trans h3.ext)
  have T : ∀ w', Ext w3 w' → AtN w' pt 0 (t.cs vl) := fun w' x => (h1.at_.ext (h2.ext.trans (h3.ext.trans x))).n
  have F : ∀ w', Ext w3 w' → AtN w' pf 0 (f.cs u0 u1 u2) := fun w' x => (h2.at_.ext (h3.ext.trans x)).n
  have O : ∀ w', Ext w3 w' → AtN w' po 0 (o.cs g) := fun w' x => (h3.at_.ext x).n
  simp only [TimeD.cs, TariffD.cs, OrderD.cs, AtN, KS, Nat.reduceAdd, Nat.reduceMul, Nat.reduceEqDiff, ↓reduceIte, UT] at T F O
  have hone := hO.one
  (repeat with_reducible first | refine js ?_ | refine ja ?_ | refine jw KL8 [] TF8 fun _ => ?_)
  refine sane22W fun w5 x5 => ?_
  have y5 := x3.trans x5
  have t5 := T w5 x5
  have f5 := F w5 x5
  have o5 := O w5 x5
  (repeat with_reducible first | refine js ?_ | refine ja ?_ | refine jw KL8 [] TF8 fun _ => ?_)
  refine Run_condS (fun _ => rfl) (fun h => by cases h) (fun _ => ?_)
  (repeat with_reducible first | refine js ?_ | refine ja ?_ | refine jw KL8 [] (aa TF8 (aa t5 (aa f5 o5))) fun _ => ?_)
  refine ordLit (hO.ext y5) fun vo w6 so x6 => ?_
  have y6 := y5.trans x6
  have z6 := x5.trans x6
  have t6 := T w6 z6
  have f6 := F w6 z6
  (repeat with_reducible first | refine js ?_ | refine ja ?_ | refine jw KL8 [] (aa TF8 (aa t6 f6)) fun _ => ?_)
  refine few22W (hl.ext y6) (hT.ext y6) so fun b w7 x7 => ?_
  have y7 := y6.trans x7
  have z7 := z6.trans x7
  (repeat with_reducible first | refine js ?_ | refine ja ?_ | refine jw KL8 [] TF8 fun _ => ?_)
  refine Run_condS (fun _ => rfl) (fun h => ?_) (fun h => ?_)
  · (repeat with_reducible first | refine js ?_ | refine ja ?_ | refine jw KL8 [] TF8 fun _ => ?_)
    refine Run_ret ?_
    simp [Rets, RetM, resV, fnd, oneOr, y7]
  clear h
  have t7 := T w7 z7
  have f7 := F w7 z7
  have o7 := O w7 z7
  (repeat with_reducible first | refine js ?_ | refine ja ?_ | refine jw KL8 [] (aa TF8 (aa t7 (aa f7 o7))) fun _ => ?_)
  refine plOptW (hl.ext y7) (hT.ext y7) (hO.ext y7) rfl fun va w8 x8 sa => ?_
  have y8 := y7.trans x8
  have z8 := z7.trans x8
  have t8 := T w8 z8
  have f8 := F w8 z8
  (repeat with_reducible first | refine js ?_ | refine ja ?_ | refine jw KL8 [] (aa TF8 (aa t8 f8)) fun _ => ?_)
  by_cases hopt : (Pl.options t f o).2 = 0
  · have hm := Pl.make_alone hopt covers
    have ha := sa.len
    rw [hopt]
    have hsa := sa.s
    by_cases hgo : 0 < (Pl.options t f o).1.length ∧ o.Crowd ≤ covers
    · obtain ⟨r, rest, hr⟩ := List.exists_cons_of_length_pos hgo.1
      rw [hr] at hm
      simp only [if_pos hgo.2] at hm
      refine plMakeW (hl.ext y8) (hT.ext y8) (so.ext (x7.trans x8)) hcv hm fun a0 a1 a2 w9 x9 hQ => ?_
      (try simp (maxSteps := 5000000) only [KS, Nat.reduceAdd, Nat.reduceMul, Nat.reduceEqDiff, ↓reduceIte, forall_const, Int.cast_ofNat_Int, Int.reduceToNat, List.take_succ_cons, List.take_zero, List.drop_succ_cons, List.drop_zero, TF8, KL8]); (try simp (disch := omega) only [wrapI, tmodI, tdivI])
      refine ⟨by decide, by decide, by decide, ?_⟩
      refine planVar hQ fun pq w10 x10 PQ => ?_
      have z10 := z8.trans (x9.trans x10)
      have y10 := x3.trans z10
      obtain ⟨b0, b1, b2, rq, hq⟩ := PQ
      have o10 := O w10 z10
      (repeat with_reducible first | refine js ?_ | refine ja ?_ | refine jw KL8 [] (aa TF8 KX) fun _ => ?_)
      refine Run_condS (fun _ => rfl) (fun h => by cases h) (fun _ => ?_)
      have g1 : decide (0 < ((Pl.options t f o).1.length : Int)) = true := by simpa using hgo.1
      have g2 : decide (o.Crowd ≤ covers) = true := decide_eq_true hgo.2
      (repeat with_reducible first | refine js ?_ | refine ja ?_ | refine jw KL8 [] (aa TF8 (aa o10 (aa hsa (aa ha (aa g1 (aa g2 KX)))))) fun _ => ?_)
      refine Run_condS (fun _ => rfl) (fun h => by simp at h) (fun _ => ?_)
      have s10 := rq.n
      simp only [AtN, KS, Nat.reduceAdd, Nat.reduceMul, Nat.reduceEqDiff, ↓reduceIte, UT, PlanD.cs] at s10
      let S : Nat → Prop := fun _ => True
      (repeat with_reducible first | refine jq ?_ | refine jk ?_ | refine jc ?_ | refine jl ?_ | refine jb ?_ | refine jo ?_ | refine ji ?_ | refine jx rfl ?_)
      refine Run_eh S [11] [(3, [11]), (8, [9, 10, 11])] (id := 12) KL8 (.first 0 (.first 1 (.first 2 (.first 3 (.first 4 (.first 5 (.first 7 (.first 8 (.alt true 6 (.alt true 9 (.first 10 (.alt true 11 (.free (.alt 12 (.first 13 .done) .stop)) .stop)) .stop) (.alt true 9 (.alt true 6 (.first 10 (.alt true 11 (.free (.alt 12 (.first 13 .done) .stop)) .stop)) .stop) .stop)))))))))) mixed (by kernel_rfl) (by kernel_rfl) fun w11 x11 _ => ?_
      have o11 := O w11 (z10.trans x11)
      have q11 := (rq.ext x11).n
      simp only [AtN, KS, Nat.reduceAdd, Nat.reduceMul, Nat.reduceEqDiff, ↓reduceIte, UT, PlanD.cs] at q11
      generalize hTT : (.first 10 (.alt true 11 (.free (.alt 12 (.first 13 .done) .stop)) .stop) : OH) = TT
      (try simp (maxSteps := 5000000) only [KS, Nat.reduceAdd, Nat.reduceMul, Nat.reduceEqDiff, ↓reduceIte, forall_const, Int.cast_ofNat_Int, Int.reduceToNat, List.take_succ_cons, List.take_zero, List.drop_succ_cons, List.drop_zero, TF8, KL8, eh, gres, qopS, putL, ung, o11, q11, hsa, ha, Bool.not_true, Bool.not_false, beq_self_eq_true, if_true]); (try simp (disch := omega) only [wrapI, tmodI, tdivI])
      have hcap := sa.cap
      have hgl := hgo.1
      have y11 := x9.trans (x10.trans x11)
      have sub := fun w' (x : Ext w11 w') => (sa.ext (y11.trans x)).sub (l := 0) (r := 1) (m := slCap va) (by omega) (by omega) (by omega) (Nat.le_refl _)
      have htk : ((Pl.options t f o).1.take 1).drop 0 = [r] := by rw [hr]; rfl
      simp only [htk] at sub
      have hPx : ∀ w', Ext w11 w' → ∀ {vZ vC : Value}, Sl w' vZ [(0 : Int)] → Sl w' vC [o.Crowd] → PlanR w' ⟨[r], [0], [o.Crowd]⟩ (slSub 3 va 0 1 (slCap va)) vZ vC := fun w' x _ _ a b => ⟨sub w' x, a, b⟩
      refine ⟨trivial, ⟨by omega, by omega, by omega, fun h => h.elim⟩, trivial, Keep.refl _ _, ?_, Keep.refl _ _, ?_⟩
      · refine intLit22 [0] rfl rfl (by decide) (by decide) fun vZ w12 sZ x12 => ⟨Keep.of_ext x12, ?_⟩
        refine SemW_lit (α := Int) Tryz.underlying25 ti3 rfl (by decide) [.int .i64 o.Crowd] [o.Crowd] rfl rfl (Cs.one ⟨rfl, hO.i6⟩) (by show 1 * 1 ≤ _; decide) fun vC w13 sC' x13 => ?_
        have sZ' := sZ.ext x13
        subst hTT
        (try simp (maxSteps := 5000000) only [KS, Nat.reduceAdd, Nat.reduceMul, Nat.reduceEqDiff, ↓reduceIte, forall_const, Int.cast_ofNat_Int, Int.reduceToNat, List.take_succ_cons, List.take_zero, List.drop_succ_cons, List.drop_zero, TF8, KL8, eh, gres, qopS, putL, ung, beq_self_eq_true, ↓reduceIte]); (try simp (disch := omega) only [wrapI, tmodI, tdivI])
        refine ⟨.agg #[slSub 3 va 0 1 (slCap va), vZ, vC], fun w' => planBuild (hPx w13 (x12.trans x13) sZ' sC') w', Keep.of_ext (x12.trans x13), ?_⟩
        refine same22W (b := true) (decide_eq_true rfl) (hq.ext (x11.trans (x12.trans x13))) (hPx w13 (x12.trans x13) sZ' sC') fun w14 x14 => ?_
        (repeat with_reducible first | refine js ?_ | refine ja ?_ | refine jw KL8 [] (aa TF8 KX) fun _ => ?_)
        refine Run_ret ?_
        simp [Rets, RetM, resV, fnd, oneOr]
        exact y10.trans (x11.trans (x12.trans (x13.trans x14)))
      · refine SemW_lit (α := Int) Tryz.underlying25 ti3 rfl (by decide) [.int .i64 o.Crowd] [o.Crowd] rfl rfl (Cs.one ⟨rfl, hO.i6⟩) (by show 1 * 1 ≤ _; decide) fun vC w12 sC x12 => ⟨Keep.of_ext x12, ?_⟩
        refine intLit22 [0] rfl rfl (by decide) (by decide) fun vZ w13 sZ' x13 => ?_
        have sC' := sC.ext x13
        subst hTT
        (try simp (maxSteps := 5000000) only [KS, Nat.reduceAdd, Nat.reduceMul, Nat.reduceEqDiff, ↓reduceIte, forall_const, Int.cast_ofNat_Int, Int.reduceToNat, List.take_succ_cons, List.take_zero, List.drop_succ_cons, List.drop_zero, TF8, KL8, eh, gres, qopS, putL, ung, beq_self_eq_true, ↓reduceIte]); (try simp (disch := omega) only [wrapI, tmodI, tdivI])
        refine ⟨.agg #[slSub 3 va 0 1 (slCap va), vZ, vC], fun w' => planBuild (hPx w13 (x12.trans x13) sZ' sC') w', Keep.of_ext (x12.trans x13), ?_⟩
        refine same22W (b := true) (decide_eq_true rfl) (hq.ext (x11.trans (x12.trans x13))) (hPx w13 (x12.trans x13) sZ' sC') fun w14 x14 => ?_
        (repeat with_reducible first | refine js ?_ | refine ja ?_ | refine jw KL8 [] (aa TF8 KX) fun _ => ?_)
        refine Run_ret ?_
        simp [Rets, RetM, resV, fnd, oneOr]
        exact y10.trans (x11.trans (x12.trans (x13.trans x14)))
    · have hm2 : Pl.make t f [o] covers = (Pl.noPlan, false, 0) := by
        rw [hm]
        cases hx : (Pl.options t f o).1 with
        | nil => rfl
        | cons r rest =>
          rw [hx] at hgo
          simp only
          rw [if_neg (fun e => hgo ⟨by simp, e⟩)]
      refine plMakeW (hl.ext y8) (hT.ext y8) (so.ext (x7.trans x8)) hcv hm2 fun a0 a1 a2 w9 x9 hQ => ?_
      (try simp (maxSteps := 5000000) only [KS, Nat.reduceAdd, Nat.reduceMul, Nat.reduceEqDiff, ↓reduceIte, forall_const, Int.cast_ofNat_Int, Int.reduceToNat, List.take_succ_cons, List.take_zero, List.drop_succ_cons, List.drop_zero, TF8, KL8]); (try simp (disch := omega) only [wrapI, tmodI, tdivI])
      refine ⟨by decide, by decide, by decide, ?_⟩
      refine planVar hQ fun pq w10 x10 PQ => ?_
      have z10 := z8.trans (x9.trans x10)
      have y10 := x3.trans z10
      obtain ⟨b0, b1, b2, rq, hq⟩ := PQ
      have o10 := O w10 z10
      have q10 := rq.n
      simp only [AtN, KS, Nat.reduceAdd, Nat.reduceMul, Nat.reduceEqDiff, ↓reduceIte, UT, PlanD.cs] at q10
      (repeat with_reducible first | refine js ?_ | refine ja ?_ | refine jw KL8 [] (aa TF8 KX) fun _ => ?_)
      refine Run_condS (fun _ => rfl) (fun h => by cases h) (fun _ => ?_)
      have g12 : (decide (0 < ((Pl.options t f o).1.length : Int)) && decide (o.Crowd ≤ covers)) = false := by
        rw [Bool.and_eq_false_iff]
        by_cases h : 0 < (Pl.options t f o).1.length
        · exact .inr (decide_eq_false fun e => hgo ⟨h, e⟩)
        · exact .inl (decide_eq_false (by omega))
      (repeat with_reducible first | refine js ?_ | refine ja ?_ | refine jw KL8 [] (aa TF8 (aa o10 (aa hsa (aa ha (aa g12 KX))))) fun _ => ?_)
      refine Run_condS (fun _ => rfl) (fun h => by cases h) (fun _ => ?_)
      (repeat with_reducible first | refine js ?_ | refine ja ?_ | refine jw KL8 [] TF8 fun _ => ?_)
      let S : Nat → Prop := fun _ => True
      (repeat with_reducible first | refine jq ?_ | refine jk ?_ | refine jc ?_ | refine jl ?_ | refine jb ?_ | refine jo ?_ | refine ji ?_ | refine jx rfl ?_)
      refine Run_eh S [11] [(3, [11]), (8, [9, 10, 11])] (id := 12) KL8 (.first 0 (.first 1 (.first 2 (.first 3 (.first 4 (.first 5 (.first 7 (.first 8 (.alt true 6 (.alt true 9 (.first 10 (.alt true 11 (.free (.alt 12 (.first 13 .done) .stop)) .stop)) .stop) (.alt true 9 (.alt true 6 (.first 10 (.alt true 11 (.free (.alt 12 (.first 13 .done) .stop)) .stop)) .stop) .stop)))))))))) mixed (by kernel_rfl) (by kernel_rfl) fun w11 x11 _ => ?_
      generalize hTT : (.first 3 (.first 4 (.first 5 (.first 7 (.first 8 (.alt true 6 (.alt true 9 (.first 10 (.alt true 11 (.free (.alt 12 (.first 13 .done) .stop)) .stop)) .stop) (.alt true 9 (.alt true 6 (.first 10 (.alt true 11 (.free (.alt 12 (.first 13 .done) .stop)) .stop)) .stop) .stop)))))) : OH) = TT
      (try simp (maxSteps := 5000000) only [KS, Nat.reduceAdd, Nat.reduceMul, Nat.reduceEqDiff, ↓reduceIte, forall_const, Int.cast_ofNat_Int, Int.reduceToNat, List.take_succ_cons, List.take_zero, List.drop_succ_cons, List.drop_zero, TF8, KL8, eh, gres, qopS, putL, ung, Bool.not_true, Bool.not_false, beq_self_eq_true, ↓reduceIte]); (try simp (disch := omega) only [wrapI, tmodI, tdivI])
      subst hTT
      have kk := Keep.refl S w11
      repeat' first | with_reducible exact eh_stop | refine eh_skip1 rfl rfl rfl rfl rfl rfl ?_ | refine eh_skipA rfl rfl rfl rfl rfl rfl (fun _ => kk) ?_ ?_
      all_goals
        (try simp (maxSteps := 5000000) only [KS, Nat.reduceAdd, Nat.reduceMul, Nat.reduceEqDiff, ↓reduceIte, forall_const, Int.cast_ofNat_Int, Int.reduceToNat, List.take_succ_cons, List.take_zero, List.drop_succ_cons, List.drop_zero, TF8, KL8, eh, gres, qopS, putL, ung]); (try simp (disch := omega) only [wrapI, tmodI, tdivI])
        refine Run_ret ?_
        simp [Rets, RetM, resV, fnd, oneOr, pk]
        exact ⟨rfl, y10.trans x11⟩
  · have hm := Pl.make_alone_bad hopt covers
    refine plMakeW (hl.ext y8) (hT.ext y8) (so.ext (x7.trans x8)) hcv hm fun a0 a1 a2 w9 x9 hQ => ?_
    (try simp (maxSteps := 5000000) only [KS, Nat.reduceAdd, Nat.reduceMul, Nat.reduceEqDiff, ↓reduceIte, forall_const, Int.cast_ofNat_Int, Int.reduceToNat, List.take_succ_cons, List.take_zero, List.drop_succ_cons, List.drop_zero, TF8, KL8]); (try simp (disch := omega) only [wrapI, tmodI, tdivI])
    refine ⟨by decide, by decide, by decide, ?_⟩
    refine planVar hQ fun pq w10 x10 PQ => ?_
    have hb : ((Pl.options t f o).2 != 0) = true := by simpa using hopt
    (repeat with_reducible first | refine js ?_ | refine ja ?_ | refine jw KL8 [] (aa TF8 (aa hb KX)) fun _ => ?_)
    refine Run_condS (fun _ => rfl) (fun _ => ?_) (fun h => by cases h)
    (repeat with_reducible first | refine js ?_ | refine ja ?_ | refine jw KL8 [] (aa TF8 KX) fun _ => ?_)
    refine Run_ret ?_
    simp [Rets, RetM, resV, fnd, oneOr]
    exact y8.trans (x9.trans x10)
end Go.Proofs.YthengmdnikaooaaGreat
