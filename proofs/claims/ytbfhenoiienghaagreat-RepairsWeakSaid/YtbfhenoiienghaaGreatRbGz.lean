import Derived.Test.YtbfhenoiienghaaGreatRbW22w
import Derived.Test.YtbfhenoiienghaaGreatRbW22u
import Derived.Test.YtbfhenoiienghaaGreatRbGs
import Derived.Test.YtbfhenoiienghaaGreatRbGe
import Derived.Test.YtbfhenoiienghaaGreatRbGy
namespace Go.Proofs.YtbfhenoiienghaaGreat
open Go Go.Fk
set_option linter.unusedSimpArgs false
set_option linter.unusedVariables false
set_option maxRecDepth 100000
section
variable {vl u0 u1 u2 vo vO : Value} {t : TimeD} {f : TariffD} {l : List OrderD} {covers : Int} {opts : List (List RunD)}
end
set_option maxHeartbeats 4000000 in
theorem rfIs24 (vo v0 v1 v2 u0 u1 u2 : Value) (l : List OrderD) (p q : PlanD) (run : Int) (w : World) (ho : Sl w vo l) (hP : PlanR w p v0 v1 v2) (hQ : PlanR w q u0 u1 u2) (hol : p.Of.length = l.length) (hin : ∀ k ∈ p.Of, 0 ≤ k ∧ k < p.Runs.length) (h64 : l.length ≤ 1000000) :
    Calls Tryz.prog 24 #[vo, .agg (p.cs v0 v1 v2).toArray, .agg (q.cs u0 u1 u2).toArray, .int .i64 run] w fun e w' => e = .returned (.bool (Rp.isRep l p q run)) ∧ Ext w w' := by
  have hos := ho.s
  have hll := ho.len
  have rl := hP.r.len
  have ol := hP.o.len
  have ql := hQ.r.len
  have qol := hQ.o.len
  have hqs := hQ.r.small
  refine Calls_of_Run (args := [vo, .agg (p.cs v0 v1 v2).toArray, .agg (q.cs u0 u1 u2).toArray, .int .i64 run]) (n := 87) (rs := [.tmp 8]) Tryz.func24 rfl rfl rfl (by simp) ?_
  (repeat with_reducible first | refine js ?_ | refine ja ?_ | refine jw KL24 [6] TF24 fun _ => ?_)
  refine SemW_box fun pp w1 h1 => SemW_box fun pq w2 h2 => ?_
  have x2 := h1.ext.trans h2.ext
  have P : ∀ w', Ext w2 w' → AtN w' pp 0 (p.cs v0 v1 v2) := fun w' x => (h1.at_.ext (h2.ext.trans x)).n
  have Q : ∀ w', Ext w2 w' → AtN w' pq 0 (q.cs u0 u1 u2) := fun w' x => (h2.at_.ext x).n
  simp only [PlanD.cs, AtN, KS, Nat.reduceAdd, Nat.reduceMul, Nat.reduceEqDiff, ↓reduceIte, UT] at P Q
  have q2 := Q w2 (Ext.refl _)
  (repeat with_reducible first | refine js ?_ | refine ja ?_ | refine jw KL24 [6] (aa TF24 (aa q2 (aa hQ.o.s (aa qol (aa hos hll))))) fun _ => ?_)
  refine Run_condS (fun _ => rfl) (fun h => ?_) (fun h => ?_)
  · have hne : q.Of.length ≠ l.length := by
      simp at h; omega
    (repeat with_reducible first | refine js ?_ | refine ja ?_ | refine jw KL24 [6] TF24 fun _ => ?_)
    refine Run_ret ?_
    have : Rp.isRep l p q run = false := by unfold Rp.isRep; rw [decide_eq_false hne]; rfl
    simp [Rets, RetM, resV, fnd, oneOr, this, x2]
  have hql : q.Of.length = l.length := by
    simp at h; omega
  clear h
  have hrep : Rp.isRep l p q run = (List.range l.length).all (Rp.isAt p q run) := by unfold Rp.isRep; rw [decide_eq_true hql, Bool.true_and]
  rw [hrep]
  (repeat with_reducible first | refine js ?_ | refine ja ?_ | refine jw KL24 [6] TF24 fun _ => ?_)
  refine Run_loopV [8, 9, 10, 11, 21, 40, 86] (σ := Nat) (fun k => [(9, some (.int .i64 k))]) (fun k w' => k ≤ l.length ∧ (∀ j, j < k → Rp.isAt p q run j = true) ∧ Ext w2 w') (fun k => l.length - k) 0 (by simp [SubB, fnd]) ⟨by omega, by simp, Ext.refl _⟩ ?_
  rintro k w3 ⟨hk, hf, x3⟩
  (repeat with_reducible first | refine js ?_ | refine ja ?_ | refine jw KL24 [6] (aa TF24 (aa hos hll)) fun _ => ?_)
  refine Run_condS (fun _ => rfl) (fun h => ?_) (fun h => ?_)
  · simp at h
    have hkl : k < l.length := by omega
    have hkc : (k : Int) < l.length := by omega
    clear h
    have hko : k < p.Of.length := by omega
    have hkq : k < q.Of.length := by omega
    have hkoc : (k : Int) < p.Of.length := by omega
    have hkqc : (k : Int) < q.Of.length := by omega
    have y3 := x2.trans x3
    have hpg : p.Of.getD k 0 = p.Of[k] := by simp [List.getD_eq_getElem?_getD, hko]
    have hqg : q.Of.getD k 0 = q.Of[k] := by simp [List.getD_eq_getElem?_getD, hkq]
    have hat : Rp.isAt p q run k = (decide (0 ≤ q.Of[k] ∧ q.Of[k] < q.Runs.length) && (if p.Of[k] = run then decide ((p.Runs.getD (p.Of[k]).toNat default).At < (q.Runs.getD (q.Of[k]).toNat default).At) else decide (p.Runs.getD (p.Of[k]).toNat default = q.Runs.getD (q.Of[k]).toNat default))) := by
      unfold Rp.isAt Rp.runOf
      rw [hpg, hqg]
    have hPo := fun w' (x : Ext w3 w') => ((hP.o.ext (y3.trans x)).get hko)
    have hQo := fun w' (x : Ext w3 w') => ((hQ.o.ext (y3.trans x)).get hkq)
    have hi := hin _ (List.getElem_mem hko)
    generalize p.Of[k] = a at *
    generalize q.Of[k] = b at *
    have q3 := Q w3 x3
    obtain ⟨c1, c2, c3⟩ := hQo w3 (Ext.refl _)
    by_cases hb : 0 ≤ b ∧ b < q.Runs.length
    rotate_left
    · rw [decide_eq_false hb, Bool.false_and] at hat
      have hor : (decide (b < 0) || decide ((q.Runs.length : Int) ≤ b)) = true := by
        rw [Bool.or_eq_true, decide_eq_true_eq, decide_eq_true_eq]; omega
      (repeat with_reducible first | refine js ?_ | refine ja ?_ | refine jw KL24 [6] (aa TF24 (aa q3 (aa hQ.o.s (aa qol (aa hQ.r.s (aa ql (aa c1 (aa c2 KX)))))))) fun _ => ?_)
      intro w4 x4
      rw [hor]
      refine Run_condS (fun _ => rfl) (fun _ => ?_) (fun h => by cases h)
      (repeat with_reducible first | refine js ?_ | refine ja ?_ | refine jw KL24 [6] TF24 fun _ => ?_)
      refine Run_ret ?_
      simp [Rets, RetM, resV, fnd, oneOr, not_range hkl hat]
      exact y3.trans x4
    · rw [decide_eq_true hb, Bool.true_and] at hat
      have e1 : decide (b < 0) = false := by simp; omega
      have e2 : decide ((q.Runs.length : Int) ≤ b) = false := by simp; omega
      (repeat with_reducible first | refine js ?_ | refine ja ?_ | refine jw KL24 [6] (aa TF24 (aa q3 (aa hQ.o.s (aa qol (aa hQ.r.s (aa ql (aa c1 (aa c2 (aa e1 (aa e2 KX)))))))))) fun _ => ?_)
      intro w4 x4
      refine Run_condS (fun _ => rfl) (fun h => by cases h) (fun _ => ?_)
      have hal : a.toNat < p.Runs.length := by omega
      have hbl : b.toNat < q.Runs.length := by omega
      have hag : p.Runs.getD a.toNat default = p.Runs[a.toNat] := by simp [List.getD_eq_getElem?_getD, hal]
      have hbg : q.Runs.getD b.toNat default = q.Runs[b.toNat] := by simp [List.getD_eq_getElem?_getD, hbl]
      rw [hag, hbg] at hat
      have hRa := fun w' (x : Ext w3 w') => ((hP.r.ext (y3.trans x)).runD hal)
      have hRb := fun w' (x : Ext w3 w') => ((hQ.r.ext (y3.trans x)).runD hbl)
      generalize p.Runs[a.toNat] = ra at *
      generalize q.Runs[b.toNat] = rb at *
      let S : Nat → Prop := fun _ => True
      (repeat with_reducible first | refine jq ?_ | refine jk ?_ | refine jc ?_ | refine jl ?_ | refine jb ?_ | refine jo ?_ | refine ji ?_ | refine jx rfl ?_)
      refine Run_eh S [10] [(1, [10]), (3, [10]), (6, [10]), (8, [10])] (id := 8) KL24 (.first 0 (.first 1 (.first 2 (.first 3 (.first 4 (.first 5 (.first 6 (.first 7 (.first 8 (.alt true 9 (.alt true 10 (.done false) .stop) .stop)))))))))) mixed (by kernel_rfl) (by kernel_rfl) fun w5 x5 _ => ?_
      have z5 := x4.trans x5
      have p5 := P w5 (x3.trans z5)
      obtain ⟨d1, d2, d3⟩ := hPo w5 z5
      have ra5 := (hRa w5 z5).1
      simp only [RunD.cs, AtN, KS, Nat.reduceAdd, Nat.reduceMul, Nat.reduceEqDiff, ↓reduceIte, UT] at ra5
      (try simp (maxSteps := 5000000) only [KS, Nat.reduceAdd, Nat.reduceMul, Nat.reduceEqDiff, ↓reduceIte, forall_const, Int.cast_ofNat_Int, Int.reduceToNat, List.take_succ_cons, List.take_zero, List.drop_succ_cons, List.drop_zero, TF24, KL24, eh, gres, qopS, putL, ung, p5, hP.o.s, ol, hP.r.s, rl, d1, d2, ra5]); (try simp (disch := omega) only [wrapI, tmodI, tdivI])
      refine ⟨trivial, trivial, ⟨by omega, by omega⟩, trivial, ⟨by omega, by omega⟩, trivial, Keep.refl _ _, ?_⟩
      refine SemW_allocT ti50 fun qa w6 h6 => ⟨Keep.of_ext h6.ext, ?_⟩
      have b6 := h6.blk
      refine SemW_setW (by rw [cells50]; decide) (by rw [cells50]; rfl) h6.row (by rw [cells50]; rfl) rfl fun w7 r7 k7 z7 => ⟨fun h => h.elim, ?_⟩
      have r7 : Row w7 qa 50 ra.cs := r7
      have x57 : Ext w5 w7 := Keep.ext h6.ext k7 fun b hb => by omega
      have z7' := z5.trans x57
      let S : Nat → Prop := fun _ => True
      (repeat with_reducible first | refine jq ?_ | refine jk ?_ | refine jc ?_ | refine jl ?_ | refine jb ?_ | refine jo ?_ | refine ji ?_ | refine jx rfl ?_)
      refine Run_eh S [10] [(1, [10]), (3, [10]), (6, [10]), (8, [10])] (id := 9) KL24 (.first 0 (.first 1 (.first 2 (.first 3 (.first 4 (.first 5 (.first 6 (.first 7 (.first 8 (.alt true 9 (.alt true 10 (.done false) .stop) .stop)))))))))) mixed (by kernel_rfl) (by kernel_rfl) fun w8 x8 _ => ?_
      have z8 := z7'.trans x8
      have q8 := Q w8 (x3.trans z8)
      obtain ⟨g1, g2, g3⟩ := hQo w8 z8
      have rb8 := (hRb w8 z8).1
      simp only [RunD.cs, AtN, KS, Nat.reduceAdd, Nat.reduceMul, Nat.reduceEqDiff, ↓reduceIte, UT] at rb8
      (try simp (maxSteps := 5000000) only [KS, Nat.reduceAdd, Nat.reduceMul, Nat.reduceEqDiff, ↓reduceIte, forall_const, Int.cast_ofNat_Int, Int.reduceToNat, List.take_succ_cons, List.take_zero, List.drop_succ_cons, List.drop_zero, TF24, KL24, eh, gres, qopS, putL, ung, q8, hQ.o.s, qol, hQ.r.s, ql, g1, g2, rb8]); (try simp (disch := omega) only [wrapI, tmodI, tdivI])
      refine ⟨trivial, trivial, ⟨by omega, by omega⟩, trivial, ⟨by omega, by omega⟩, trivial, Keep.refl _ _, ?_⟩
      refine SemW_allocT ti50 fun qb w9 h9 => ⟨Keep.of_ext h9.ext, ?_⟩
      have b9 := h9.blk
      refine SemW_setW (by rw [cells50]; decide) (by rw [cells50]; rfl) h9.row (by rw [cells50]; rfl) rfl fun w10 r10 k10 z10 => ⟨fun h => h.elim, ?_⟩
      have r10 : Row w10 qb 50 rb.cs := r10
      have x810 : Ext w8 w10 := Keep.ext h9.ext k10 fun b hb => by omega
      have x10 := z8.trans x810
      have p10 := P w10 (x3.trans x10)
      obtain ⟨m1, m2, m3⟩ := hPo w10 x10
      have na := (r7.ext (x8.trans x810)).n
      have nb := r10.n
      simp only [RunD.cs, AtN, KS, Nat.reduceAdd, Nat.reduceMul, Nat.reduceEqDiff, ↓reduceIte, UT] at na nb
      by_cases hk2 : a = run
      · rw [if_pos hk2] at hat
        have f1 : (a != run) = false := by simp [hk2]
        have f2 : (a == run) = true := by simp [hk2]
        (repeat with_reducible first | refine js ?_ | refine ja ?_ | refine jw KL24 [6] (aa TF24 (aa p10 (aa hP.o.s (aa ol (aa m1 (aa m2 (aa na (aa nb (aa f1 (aa f2 KX)))))))))) fun _ => ?_)
        refine ⟨by kernel_rfl, ⟨by omega, by omega⟩, ?_⟩
        refine Run_condS (fun _ => rfl) (fun h => ?_) (fun h => ?_)
        · have hno : Rp.isAt p q run k = false := by rw [hat]; simp at h ⊢; omega
          (repeat with_reducible first | refine js ?_ | refine ja ?_ | refine jw KL24 [6] TF24 fun _ => ?_)
          refine Run_ret ?_
          simp [Rets, RetM, resV, fnd, oneOr, not_range hkl hno]
          exact y3.trans x10
        · have hyes : Rp.isAt p q run k = true := by rw [hat]; simp at h ⊢; omega
          (repeat with_reducible first | refine js ?_ | refine ja ?_ | refine jw KL24 [6] TF24 fun _ => ?_)
          exact Run_lp ⟨k + 1, by simp [SubB, fnd, strike, has], ⟨by omega, fun j hj => (by by_cases e : j = k; exact e ▸ hyes; exact hf j (by omega)), x3.trans x10⟩, by omega⟩
      · rw [if_neg hk2] at hat
        have f1 : (a != run) = true := by simp [hk2]
        have f2 : (a == run) = false := by simp [hk2]
        (repeat with_reducible first | refine js ?_ | refine ja ?_ | refine jw KL24 [6] (aa TF24 (aa p10 (aa hP.o.s (aa ol (aa m1 (aa m2 (aa na (aa nb (aa f1 (aa f2 KX)))))))))) fun _ => ?_)
        refine ⟨by kernel_rfl, fun _ => ⟨by omega, by omega⟩, ?_⟩
        have heq : (ra.Line == rb.Line && (ra.At == rb.At && ra.Arrive == rb.Arrive)) = decide (ra = rb) := by
          rw [Bool.eq_iff_iff]
          cases ra; cases rb
          simp
        rw [heq]
        refine Run_condS (fun _ => rfl) (fun h => ?_) (fun h => ?_)
        · have hno : Rp.isAt p q run k = false := by rw [hat]; simpa using h
          (repeat with_reducible first | refine js ?_ | refine ja ?_ | refine jw KL24 [6] TF24 fun _ => ?_)
          refine Run_ret ?_
          simp [Rets, RetM, resV, fnd, oneOr, not_range hkl hno]
          exact y3.trans x10
        · have hyes : Rp.isAt p q run k = true := by rw [hat]; simpa using h
          (repeat with_reducible first | refine js ?_ | refine ja ?_ | refine jw KL24 [6] TF24 fun _ => ?_)
          exact Run_lp ⟨k + 1, by simp [SubB, fnd, strike, has], ⟨by omega, fun j hj => (by by_cases e : j = k; exact e ▸ hyes; exact hf j (by omega)), x3.trans x10⟩, by omega⟩
  · simp at h
    obtain rfl : k = l.length := by omega
    have hall : (List.range l.length).all (Rp.isAt p q run) = true := all_range hf
    (repeat with_reducible first | refine js ?_ | refine ja ?_ | refine jw KL24 [6] TF24 fun _ => ?_)
    refine Run_ret ?_
    simp [Rets, RetM, resV, fnd, oneOr, hall]
    exact x2.trans x3
end Go.Proofs.YtbfhenoiienghaaGreat
