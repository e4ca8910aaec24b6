/- Books (chapter 38), for other seats: the two Checks; Start. -/
import Derived.Test.YtcncbmdkifdggaaB38a
namespace Go.Proofs.Ytcncbmdkifdggaa
open Go Go.Fk
set_option linter.unusedSimpArgs false
set_option linter.unusedVariables false
set_option maxRecDepth 100000

theorem CallW_fnv {g : FuncId} {args : List Value} {w : World} {K : Value → World → Prop} {v : Value} (hc : callable Try.prog g = true) (h : Calls Try.prog g args.toArray w fun e w' => e = .returned v ∧ Ext w w') (hK : ∀ w', Ext w w' → K v w') : CallW Try.prog (fnv g) args w K := CallW_pure hc h hK
theorem Pred_fn {g : FuncId} {args : List Value} {w : World} {b : Bool} (hc : callable Try.prog g = true) (h : ∀ w, Calls Try.prog g args.toArray w fun e w' => e = .returned (.bool b) ∧ Ext w w') : Pred Try.prog (fnv g) args w b :=
  fun w1 _ => CallW_pure hc (h w1) fun w2 x2 => ⟨rfl, x2⟩
/-- a function that has captured values -/
theorem CallW_cap {g : FuncId} {args cap : List Value} {w : World} {K : Value → World → Prop} {v : Value} (hc : callable Try.prog g = true) (h : Calls Try.prog g (args ++ cap).toArray w fun e w' => e = .returned v ∧ Ext w w') (hK : ∀ w', Ext w w' → K v w') :
    CallW Try.prog (.func (.func g) #[] cap.toArray) args w K := by
  refine ⟨hc, ?_⟩
  have e : (#[] ++ args.toArray ++ cap.toArray : Array Value) = (args ++ cap).toArray := by simp
  rw [e]
  exact h.mono fun e w' ⟨he, hw⟩ => ⟨v, he, hK w' hw⟩

def condN (m : MoveD) : Nat → Bool
  | 0 => cond1 m
  | 1 => cond2 m
  | 2 => cond3 m
  | 3 => cond4 m
  | _ => cond5 m
theorem mOk_eq (m : MoveD) (i : Int) : Bk.mOk m i = (decide (m.No = i) && !anyN 5 (fun k => !condN m k)) := by
  have : anyN 5 (fun k => !condN m k) = (!cond1 m || (!cond2 m || (!cond3 m || (!cond4 m || !cond5 m)))) := by simp [anyN, List.range, List.range.loop, condN]
  rw [this, Bool.eq_iff_iff]
  simp [Bk.mOk, cond1, cond2, cond3, cond4, cond5]
  omega
theorem predC (m : MoveD) (w : World) (k : Nat) (hk : k < conds.length) : Pred Try.prog conds[k].v [.agg m.cs.toArray] w (condN m k) := by
  have : k = 0 ∨ k = 1 ∨ k = 2 ∨ k = 3 ∨ k = 4 := by simp [conds] at hk; omega
  rcases this with rfl | rfl | rfl | rfl | rfl
  · exact Pred_fn call67 (bkC1 m)
  · exact Pred_fn call68 (bkC2 m)
  · exact Pred_fn call69 (bkC3 m)
  · exact Pred_fn call70 (bkC4 m)
  · exact Pred_fn call71 (bkC5 m)
theorem bkCheck1 (fv : Value) (b : Bool) (p : Addr) (m : MoveD) (w : World) (ha : At w p m.cs) (hp : Pred Try.prog fv [.agg m.cs.toArray] w b) :
    Calls Try.prog 39 #[fv, .pointer (some p)] w fun e w' => e = .returned (.bool (!b)) ∧ Ext w w' := by
  have g1 := ha.n
  simp only [MoveD.cs, AtN, KS, Nat.reduceAdd, Nat.reduceMul, Nat.reduceEqDiff, ↓reduceIte, UT] at g1
  refine Calls_of_Run (args := [fv, .pointer (some p)]) (n := 8) (rs := [.tmp 3]) Try.func39 rfl rfl rfl (by simp) ?_
  (repeat first | with_reducible first | refine jq ?_ | refine jk ?_ | refine jc ?_ | refine jl ?_ | refine jb ?_ | refine jo ?_ | refine ji ?_ | refine jx rfl ?_ | refine And.intro (by first | assumption | omega | (intros; omega)) ?_ | ((first | refine jR KL39 (by kernel_rfl) fun _ => ?_ | skip); simp only [KS, Nat.reduceAdd, Nat.reduceMul, Nat.reduceEqDiff, ↓reduceIte, forall_const, Int.cast_ofNat_Int, Int.reduceToNat, TF39, KL39, g1]; (try simp (disch := omega) only [wrapI, tmodI, tdivI]); (fail_if_success (with_reducible show False))))
  refine (hp w (Ext.refl w)).mono fun v w1 ⟨hv, x1⟩ => ?_
  subst hv
  (repeat first | with_reducible first | refine jq ?_ | refine jk ?_ | refine jc ?_ | refine jl ?_ | refine jb ?_ | refine jo ?_ | refine ji ?_ | refine jx rfl ?_ | refine And.intro (by first | assumption | omega | (intros; omega)) ?_ | ((first | refine jR KL39 (by kernel_rfl) fun _ => ?_ | skip); simp only [KS, Nat.reduceAdd, Nat.reduceMul, Nat.reduceEqDiff, ↓reduceIte, forall_const, Int.cast_ofNat_Int, Int.reduceToNat, TF39, KL39]; (try simp (disch := omega) only [wrapI, tmodI, tdivI]); (fail_if_success (with_reducible show False))))
  refine Run_ret ?_
  simp [Rets, RetM, resV, fnd, oneOr, x1]

theorem bkCheck (va : Value) (l : List MoveD) (w : World) (hx : Sl w va l) :
    Calls Try.prog 19 #[va] w fun e w' => e = .returned (.int .i64 (Bk.chk l)) ∧ Ext w w' := by
  refine Calls_of_Run (args := [va]) (n := 27) (rs := [.tmp 2]) Try.func19 rfl rfl rfl (by simp) ?_
  (repeat first | with_reducible first | refine jq ?_ | refine jk ?_ | refine jc ?_ | refine jl ?_ | refine jb ?_ | refine jo ?_ | refine ji ?_ | refine jx rfl ?_ | refine And.intro (by first | assumption | omega | (intros; omega)) ?_ | ((first | refine jR KL19 (by kernel_rfl) fun _ => ?_ | skip); simp only [KS, Nat.reduceAdd, Nat.reduceMul, Nat.reduceEqDiff, ↓reduceIte, forall_const, Int.cast_ofNat_Int, Int.reduceToNat, TF19, KL19, hx.s, hx.len]; (try simp (disch := omega) only [wrapI, tmodI, tdivI]); (fail_if_success (with_reducible show False))))
  refine Run_condS (fun _ => rfl) (fun h => ?_) (fun h => ?_)
  · (repeat first | with_reducible first | refine jq ?_ | refine jk ?_ | refine jc ?_ | refine jl ?_ | refine jb ?_ | refine jo ?_ | refine ji ?_ | refine jx rfl ?_ | refine And.intro (by first | assumption | omega | (intros; omega)) ?_ | ((first | refine jR KL19 (by kernel_rfl) fun _ => ?_ | skip); simp only [KS, Nat.reduceAdd, Nat.reduceMul, Nat.reduceEqDiff, ↓reduceIte, forall_const, Int.cast_ofNat_Int, Int.reduceToNat, TF19, KL19]; (try simp (disch := omega) only [wrapI, tmodI, tdivI]); (fail_if_success (with_reducible show False))))
    refine Run_ret ?_
    simp at h
    simp [Rets, RetM, resV, fnd, oneOr, Ext.refl, Bk.chk]
    omega
  · simp at h
    have hc : Bk.chk l = if Bk.allOk 0 l then 0 else 380 := by unfold Bk.chk; rw [if_neg (by omega)]
    (repeat first | with_reducible first | refine jq ?_ | refine jk ?_ | refine jc ?_ | refine jl ?_ | refine jb ?_ | refine jo ?_ | refine ji ?_ | refine jx rfl ?_ | refine And.intro (by first | assumption | omega | (intros; omega)) ?_ | ((first | refine jR KL19 (by kernel_rfl) fun _ => ?_ | skip); simp only [KS, Nat.reduceAdd, Nat.reduceMul, Nat.reduceEqDiff, ↓reduceIte, forall_const, Int.cast_ofNat_Int, Int.reduceToNat, TF19, KL19]; (try simp (disch := omega) only [wrapI, tmodI, tdivI]); (fail_if_success (with_reducible show False))))
    refine CallW_gen call37 (bkConds _) fun e w1 ⟨vc, he, x1, sc⟩ => ⟨_, he, ?_⟩
    (repeat first | with_reducible first | refine jq ?_ | refine jk ?_ | refine jc ?_ | refine jl ?_ | refine jb ?_ | refine jo ?_ | refine ji ?_ | refine jx rfl ?_ | refine And.intro (by first | assumption | omega | (intros; omega)) ?_ | ((first | refine jR KL19 (by kernel_rfl) fun _ => ?_ | skip); simp only [KS, Nat.reduceAdd, Nat.reduceMul, Nat.reduceEqDiff, ↓reduceIte, forall_const, Int.cast_ofNat_Int, Int.reduceToNat, TF19, KL19, hx.s, hx.len]; (try simp (disch := omega) only [wrapI, tmodI, tdivI]); (fail_if_success (with_reducible show False))))
    refine Run_loopV [2, 4, 5, 12, 13, 25] (σ := Nat) (fun k => [(12, some (.int .i64 k))]) (fun k w' => k ≤ l.length ∧ Bk.allOk 0 l = Bk.allOk k (l.drop k) ∧ Ext w1 w') (fun k => l.length - k) 0 (by simp [SubB, fnd]) ⟨by omega, by simp, Ext.refl _⟩ ?_
    rintro k w2 ⟨hk, ht, x2⟩
    have y2 := x1.trans x2
    (repeat first | with_reducible first | refine jq ?_ | refine jk ?_ | refine jc ?_ | refine jl ?_ | refine jb ?_ | refine jo ?_ | refine ji ?_ | refine jx rfl ?_ | refine And.intro (by first | assumption | omega | (intros; omega)) ?_ | ((first | refine jR KL19 (by kernel_rfl) fun _ => ?_ | skip); simp only [KS, Nat.reduceAdd, Nat.reduceMul, Nat.reduceEqDiff, ↓reduceIte, forall_const, Int.cast_ofNat_Int, Int.reduceToNat, TF19, KL19]; (try simp (disch := omega) only [wrapI, tmodI, tdivI]); (fail_if_success (with_reducible show False))))
    refine Run_condS (fun _ => rfl) (fun h => ?_) (fun h => ?_)
    · simp at h
      obtain ⟨f1, f2⟩ := (hx.ext y2).moveD h
      rw [Bk.allOk_drop (by assumption), mOk_eq] at ht
      generalize hm : l[k] = m at *
      simp only [MoveD.cs, AtN, KS, Nat.reduceAdd, Nat.reduceMul, Nat.reduceEqDiff, ↓reduceIte, UT] at f1
      (repeat first | with_reducible first | refine jq ?_ | refine jk ?_ | refine jc ?_ | refine jl ?_ | refine jb ?_ | refine jo ?_ | refine ji ?_ | refine jx rfl ?_ | refine And.intro (by first | assumption | omega | (intros; omega)) ?_ | ((first | refine jR KL19 (by kernel_rfl) fun _ => ?_ | skip); simp only [KS, Nat.reduceAdd, Nat.reduceMul, Nat.reduceEqDiff, ↓reduceIte, forall_const, Int.cast_ofNat_Int, Int.reduceToNat, TF19, KL19, hx.s, hx.len, f1]; (try simp (disch := omega) only [wrapI, tmodI, tdivI]); (fail_if_success (with_reducible show False))))
      refine SemW_var ti45 rfl rfl (by decide) rfl fun p w3 hN => ?_
      have g1 := hN.at_.n
      simp only [AtN, KS, Nat.reduceAdd, Nat.reduceMul, Nat.reduceEqDiff, ↓reduceIte, UT] at g1
      have y3 := y2.trans hN.ext
      (repeat first | with_reducible first | refine jq ?_ | refine jk ?_ | refine jc ?_ | refine jl ?_ | refine jb ?_ | refine jo ?_ | refine ji ?_ | refine jx rfl ?_ | refine And.intro (by first | assumption | omega | (intros; omega)) ?_ | ((first | refine jR KL19 (by kernel_rfl) fun _ => ?_ | skip); simp only [KS, Nat.reduceAdd, Nat.reduceMul, Nat.reduceEqDiff, ↓reduceIte, forall_const, Int.cast_ofNat_Int, Int.reduceToNat, TF19, KL19, g1]; (try simp (disch := omega) only [wrapI, tmodI, tdivI]); (fail_if_success (with_reducible show False))))
      refine .inr ⟨.bool (anyN 5 fun k => !condN m k), fun _ => PC_pure call38 fun w4 x4 => ?_, fun w4 x4 => ?_⟩
      · refine hasRaw vc _ conds (fun k => !condN m k) w4 (sc.ext (x2.trans (hN.ext.trans x4))) fun j hj w5 x5 => ?_
        refine CallW_cap (cap := [.pointer (some p)]) call39 (bkCheck1 _ (condN m j) p m w5 (hN.at_.ext (x4.trans x5)) (predC m w5 j hj)) fun w6 x6 => ⟨rfl, x6⟩
      unfold hush
      (repeat first | with_reducible first | refine jq ?_ | refine jk ?_ | refine jc ?_ | refine jl ?_ | refine jb ?_ | refine jo ?_ | refine ji ?_ | refine jx rfl ?_ | refine And.intro (by first | assumption | omega | (intros; omega)) ?_ | ((first | refine jR KL19 (by kernel_rfl) fun _ => ?_ | skip); simp only [KS, Nat.reduceAdd, Nat.reduceMul, Nat.reduceEqDiff, ↓reduceIte, forall_const, Int.cast_ofNat_Int, Int.reduceToNat, TF19, KL19, g1]; (try simp (disch := omega) only [wrapI, tmodI, tdivI]); (fail_if_success (with_reducible show False))))
      refine Run_condS (fun _ => rfl) (fun h => ?_) (fun h => ?_)
      · (repeat first | with_reducible first | refine jq ?_ | refine jk ?_ | refine jc ?_ | refine jl ?_ | refine jb ?_ | refine jo ?_ | refine ji ?_ | refine jx rfl ?_ | refine And.intro (by first | assumption | omega | (intros; omega)) ?_ | ((first | refine jR KL19 (by kernel_rfl) fun _ => ?_ | skip); simp only [KS, Nat.reduceAdd, Nat.reduceMul, Nat.reduceEqDiff, ↓reduceIte, forall_const, Int.cast_ofNat_Int, Int.reduceToNat, TF19, KL19]; (try simp (disch := omega) only [wrapI, tmodI, tdivI]); (fail_if_success (with_reducible show False))))
        refine Run_ret ?_
        have : Bk.chk l = 380 := by
          rw [hc, ht]
          simp at h
          rcases h with h | h
          · simp [h]
          · simp [h]
        simp [Rets, RetM, resV, fnd, oneOr, this]
        exact y3.trans x4
      · (repeat first | with_reducible first | refine jq ?_ | refine jk ?_ | refine jc ?_ | refine jl ?_ | refine jb ?_ | refine jo ?_ | refine ji ?_ | refine jx rfl ?_ | refine And.intro (by first | assumption | omega | (intros; omega)) ?_ | ((first | refine jR KL19 (by kernel_rfl) fun _ => ?_ | skip); simp only [KS, Nat.reduceAdd, Nat.reduceMul, Nat.reduceEqDiff, ↓reduceIte, forall_const, Int.cast_ofNat_Int, Int.reduceToNat, TF19, KL19]; (try simp (disch := omega) only [wrapI, tmodI, tdivI]); (fail_if_success (with_reducible show False))))
        refine Run_lp ⟨k + 1, ?_, ⟨by omega, ?_, x2.trans (hN.ext.trans x4)⟩, by omega⟩
        · simp [SubB, fnd, strike, has]
        · rw [ht]
          simp at h
          simp [h]
    · simp at h
      obtain rfl : k = l.length := by omega
      (repeat first | with_reducible first | refine jq ?_ | refine jk ?_ | refine jc ?_ | refine jl ?_ | refine jb ?_ | refine jo ?_ | refine ji ?_ | refine jx rfl ?_ | refine And.intro (by first | assumption | omega | (intros; omega)) ?_ | ((first | refine jR KL19 (by kernel_rfl) fun _ => ?_ | skip); simp only [KS, Nat.reduceAdd, Nat.reduceMul, Nat.reduceEqDiff, ↓reduceIte, forall_const, Int.cast_ofNat_Int, Int.reduceToNat, TF19, KL19]; (try simp (disch := omega) only [wrapI, tmodI, tdivI]); (fail_if_success (with_reducible show False))))
      refine Run_ret ?_
      have : Bk.chk l = 0 := by rw [hc, ht]; simp [Bk.allOk]
      simp [Rets, RetM, resV, fnd, oneOr, this]
      exact y2

end Go.Proofs.Ytcncbmdkifdggaa
