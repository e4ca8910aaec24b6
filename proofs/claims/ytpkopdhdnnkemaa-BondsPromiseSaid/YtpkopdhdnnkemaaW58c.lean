/- Chapter 58: Deposit, Free, formed, Pay. -/
import Derived.Test.YtpkopdhdnnkemaaW58b
namespace Go.Proofs.Ytpkopdhdnnkemaa
open Go Go.Fk
set_option linter.unusedSimpArgs false
set_option linter.unusedVariables false
set_option maxRecDepth 100000

/-- a list of moves and an error -/
def MvRet (w : World) (r : List MoveD × Int) (e : Ending) (w' : World) : Prop := ∃ v, e = .returned (.tuple #[v, .int .i64 r.2]) ∧ Ext w w' ∧ Sl w' v r.1 ∧ BufO (α := MoveD) 36 w.heap.size w' v r.1
theorem numW {ps : Addr} {v : Value} {xs : List Int} {fv : Value} {F : Int → Int → MoveD} {w : World} {K : Value → World → Prop} (hx : Sl w v xs) (hps : Row w ps 22 [v]) (hof : OfP Try.prog fv F xs w) (hF : ∀ k (hk : k < xs.length), MI (F k xs[k])) (hn : xs.length ≤ 1000) (hfv : fv.cells = #[fv]) (hf1 : fv.oneCell' = true)
    (hK : ∀ v' w', Ext w w' → BufO (α := MoveD) 36 w.heap.size w' v' (Bd.mk F xs) → K v' w') : CallW Try.prog (.func (.func 20) #[] #[]) [fIt ps, fv] w K :=
  CallW_gen call20 (bdNum ps v xs fv F w hx hps hof hF hn hfv hf1) fun e w' ⟨v', he, x, hs⟩ => ⟨_, he, hK v' w' x hs⟩
theorem allW {v : Value} {w : World} {K : Value → World → Prop} (hl : v.cells = #[v]) (hK : ∀ ps w', Ext w w' → Row w' ps 22 [v] → K (fIt ps) w') : CallW Try.prog (.func (.func 19) #[] #[]) [v] w K :=
  CallW_gen call19 (slAll v w hl) fun e w' ⟨ps, he, hr, x, _⟩ => ⟨_, he, hK ps w' x hr⟩

theorem makeInts {n : Nat} {w : World} {K : Value → World → Prop} (hn : n ≤ 1000000) (hK : ∀ p w' , NewB w p (List.replicate n (Value.int .i64 0)) 3 w' → Sl w' (.slice (some p) n n) (List.replicate n (0 : Int)) → Ext w w' → K (.slice (some p) n n) w') :
    SemW Try.prog (Instr.makeSlice 22 (.int .i64 (n : Int)) (.int .i64 (n : Int))) w K := by
  refine SemW_make (n := n) Try.underlying22 ti3 (by omega) (by omega) (by unfold maxLen; omega) fun p w1 cs hcs hN hz => ?_
  have e := hz rfl rfl
  subst e
  have e2 : (Value.int .i64 0).cells[0]! = Value.int .i64 0 := rfl
  rw [e2] at hN
  refine hK p w1 hN ?_ hN.ext
  have := Sl.flat (α := Int) (xs := List.replicate n (0 : Int)) hN (fun i hi => ?_) (by simp; omega)
  · simpa using this
  · simp at hi
    simp only [List.getElem_replicate]
    refine ⟨?_, by simp [I64]⟩
    show List.take 1 (List.drop (i * 1) _) = _
    rw [Nat.mul_one, List.drop_replicate, List.take_replicate, show min 1 (n - i) = 1 by omega]; rfl
theorem bdDeposit (n a : Int) (w : World) (ha : I64 a) : Calls Try.prog 8 #[.int .i64 n, .int .i64 a] w (MvRet w (Bd.deposit n a)) := by
  refine Calls_of_Run (args := [.int .i64 n, .int .i64 a]) (n := 25) (rs := [.tmp 4, .tmp 5]) Try.func8 rfl rfl rfl (by simp) ?_
  (repeat first | with_reducible first | refine jq ?_ | refine jk ?_ | refine jc ?_ | refine jl ?_ | refine jb ?_ | refine jo ?_ | refine ji ?_ | refine jx rfl ?_ | refine And.intro (by first | assumption | omega | (intros; omega)) ?_ | ((first | refine jR KL8 (by kernel_rfl) fun _ => ?_ | skip); simp only [KS, Nat.reduceAdd, Nat.reduceMul, Nat.reduceEqDiff, ↓reduceIte, forall_const, Int.cast_ofNat_Int, Int.reduceToNat, TF8, KL8]; (try simp (disch := omega) only [wrapI, tmodI, tdivI]); (fail_if_success (with_reducible show False))))
  refine SemW_box fun pa w1 h1 => ?_
  have g1 := h1.at_.n
  simp only [AtN, KS, Nat.reduceAdd, Nat.reduceMul, Nat.reduceEqDiff, ↓reduceIte, UT] at g1
  have x1 := h1.ext
  by_cases hn : 0 ≤ n ∧ n ≤ 24
  · (repeat first | with_reducible first | refine jq ?_ | refine jk ?_ | refine jc ?_ | refine jl ?_ | refine jb ?_ | refine jo ?_ | refine ji ?_ | refine jx rfl ?_ | refine And.intro (by first | assumption | omega | (intros; omega)) ?_ | ((first | refine jR KL8 (by kernel_rfl) fun _ => ?_ | skip); simp only [KS, Nat.reduceAdd, Nat.reduceMul, Nat.reduceEqDiff, ↓reduceIte, forall_const, Int.cast_ofNat_Int, Int.reduceToNat, TF8, KL8, g1]; (try simp (disch := omega) only [wrapI, tmodI, tdivI]); (fail_if_success (with_reducible show False))))
    refine .inl ⟨by simp; omega, ?_⟩
    refine SemW_buildF (α := Int) (W := w1) Try.underlying22 ti3 rfl (by decide) (Ext.refl _) [_] [a] rfl rfl (Cs.one ⟨rfl, ha⟩) (by simp [Enc.n]) fun p w2 b2 s2 x2 => ?_
    unfold hush
    (repeat first | with_reducible first | refine jq ?_ | refine jk ?_ | refine jc ?_ | refine jl ?_ | refine jb ?_ | refine jo ?_ | refine ji ?_ | refine jx rfl ?_ | refine And.intro (by first | assumption | omega | (intros; omega)) ?_ | ((first | refine jR KL8 (by kernel_rfl) fun _ => ?_ | skip); simp only [KS, Nat.reduceAdd, Nat.reduceMul, Nat.reduceEqDiff, ↓reduceIte, forall_const, Int.cast_ofNat_Int, Int.reduceToNat, TF8, KL8]; (try simp (disch := omega) only [wrapI, tmodI, tdivI]); (fail_if_success (with_reducible show False))))
    refine .inl (.inl ⟨by simp; omega, ?_⟩)
    refine CallW_pure call18 (bdAmounts _ [a] w2 s2) fun w3 x3 => ?_
    unfold hush
    (repeat first | with_reducible first | refine jq ?_ | refine jk ?_ | refine jc ?_ | refine jl ?_ | refine jb ?_ | refine jo ?_ | refine ji ?_ | refine jx rfl ?_ | refine And.intro (by first | assumption | omega | (intros; omega)) ?_ | ((first | refine jR KL8 (by kernel_rfl) fun _ => ?_ | skip); simp only [KS, Nat.reduceAdd, Nat.reduceMul, Nat.reduceEqDiff, ↓reduceIte, forall_const, Int.cast_ofNat_Int, Int.reduceToNat, TF8, KL8]; (try simp (disch := omega) only [wrapI, tmodI, tdivI]); (fail_if_success (with_reducible show False))))
    refine Run_condS (fun _ => rfl) (fun h => ?_) (fun h => ?_)
    · (repeat first | with_reducible first | refine jq ?_ | refine jk ?_ | refine jc ?_ | refine jl ?_ | refine jb ?_ | refine jo ?_ | refine ji ?_ | refine jx rfl ?_ | refine And.intro (by first | assumption | omega | (intros; omega)) ?_ | ((first | refine jR KL8 (by kernel_rfl) fun _ => ?_ | skip); simp only [KS, Nat.reduceAdd, Nat.reduceMul, Nat.reduceEqDiff, ↓reduceIte, forall_const, Int.cast_ofNat_Int, Int.reduceToNat, TF8, KL8]; (try simp (disch := omega) only [wrapI, tmodI, tdivI]); (fail_if_success (with_reducible show False))))
      refine Run_ret ?_
      have : Bd.deposit n a = ([], 1) := by
        unfold Bd.deposit; rw [if_neg]; simp at h; intro hh; simp [hh.2.2] at h; omega
      simp [Rets, RetM, resV, fnd, oneOr, MvRet, this]
      exact ⟨x1.trans (x2.trans x3), Sl.nil _, BufO.nil⟩
    · have hd : Bd.deposit n a = (Bd.mk (Bd.depM a) (List.replicate n.toNat 0), 0) := by
        unfold Bd.deposit; rw [if_pos]; simp at h; exact ⟨hn.1, hn.2, h.2⟩
      have y3 := x1.trans (x2.trans x3)
      (repeat first | with_reducible first | refine jq ?_ | refine jk ?_ | refine jc ?_ | refine jl ?_ | refine jb ?_ | refine jo ?_ | refine ji ?_ | refine jx rfl ?_ | refine And.intro (by first | assumption | omega | (intros; omega)) ?_ | ((first | refine jR KL8 (by kernel_rfl) fun _ => ?_ | skip); simp only [KS, Nat.reduceAdd, Nat.reduceMul, Nat.reduceEqDiff, ↓reduceIte, forall_const, Int.cast_ofNat_Int, Int.reduceToNat, TF8, KL8]; (try simp (disch := omega) only [wrapI, tmodI, tdivI]); (fail_if_success (with_reducible show False))))
      have hr : (Value.int .i64 n) = .int .i64 (n.toNat : Int) := by congr 1; omega
      rw [hr]
      refine makeInts (n := n.toNat) (by omega) fun p4 w4 h4 s4 x4 => ?_
      (repeat first | with_reducible first | refine jq ?_ | refine jk ?_ | refine jc ?_ | refine jl ?_ | refine jb ?_ | refine jo ?_ | refine ji ?_ | refine jx rfl ?_ | refine And.intro (by first | assumption | omega | (intros; omega)) ?_ | ((first | refine jR KL8 (by kernel_rfl) fun _ => ?_ | skip); simp only [KS, Nat.reduceAdd, Nat.reduceMul, Nat.reduceEqDiff, ↓reduceIte, forall_const, Int.cast_ofNat_Int, Int.reduceToNat, TF8, KL8]; (try simp (disch := omega) only [wrapI, tmodI, tdivI]); (fail_if_success (with_reducible show False))))
      refine allW rfl fun ps w5 x5 r5 => ?_
      (repeat first | with_reducible first | refine jq ?_ | refine jk ?_ | refine jc ?_ | refine jl ?_ | refine jb ?_ | refine jo ?_ | refine ji ?_ | refine jx rfl ?_ | refine And.intro (by first | assumption | omega | (intros; omega)) ?_ | ((first | refine jR KL8 (by kernel_rfl) fun _ => ?_ | skip); simp only [KS, Nat.reduceAdd, Nat.reduceMul, Nat.reduceEqDiff, ↓reduceIte, forall_const, Int.cast_ofNat_Int, Int.reduceToNat, TF8, KL8]; (try simp (disch := omega) only [wrapI, tmodI, tdivI]); (fail_if_success (with_reducible show False))))
      have x45 := x4.trans x5
      refine numW (F := Bd.depM a) (s4.ext x5) r5 (fun k hk w6 x6 => ?_) (fun k hk => ?_) (by simp; omega) rfl rfl fun v' w6 x6 s6 => ?_
      · simp at hk
        exact CallW_cap (cap := [.pointer (some pa)]) call21 (bdDep1 _ _ a pa w6 (h1.at_.ext (x2.trans (x3.trans (x45.trans x6)))) (by omega) (by omega)) fun w7 x7 => ⟨rfl, x7⟩
      · simp at hk
        simp [MI, Bd.depM, I64]; unfold I64 at ha; omega
      (repeat first | with_reducible first | refine jq ?_ | refine jk ?_ | refine jc ?_ | refine jl ?_ | refine jb ?_ | refine jo ?_ | refine ji ?_ | refine jx rfl ?_ | refine And.intro (by first | assumption | omega | (intros; omega)) ?_ | ((first | refine jR KL8 (by kernel_rfl) fun _ => ?_ | skip); simp only [KS, Nat.reduceAdd, Nat.reduceMul, Nat.reduceEqDiff, ↓reduceIte, forall_const, Int.cast_ofNat_Int, Int.reduceToNat, TF8, KL8]; (try simp (disch := omega) only [wrapI, tmodI, tdivI]); (fail_if_success (with_reducible show False))))
      refine Run_ret ?_
      simp [Rets, RetM, resV, fnd, oneOr, MvRet, hd]
      exact ⟨y3.trans (x45.trans x6), s6.sl (by simp [Bd.mk_len]; omega), s6.mono (y3.trans x45).size⟩
  · have hc : (decide (n < 0) || decide (24 < n)) = true := by simp; omega
    (repeat first | with_reducible first | refine jq ?_ | refine jk ?_ | refine jc ?_ | refine jl ?_ | refine jb ?_ | refine jo ?_ | refine ji ?_ | refine jx rfl ?_ | refine And.intro (by first | assumption | omega | (intros; omega)) ?_ | ((first | refine jR KL8 (by kernel_rfl) fun _ => ?_ | skip); simp only [KS, Nat.reduceAdd, Nat.reduceMul, Nat.reduceEqDiff, ↓reduceIte, forall_const, Int.cast_ofNat_Int, Int.reduceToNat, TF8, KL8, g1, hc, false_or, or_false, false_imp_iff, true_imp_iff, not_true_eq_false, not_false_eq_true, Bool.true_or, Bool.false_or, Bool.or_true, Bool.or_false, Bool.true_and, Bool.false_and, Bool.and_true, Bool.and_false]; (try simp (disch := omega) only [wrapI, tmodI, tdivI]); (fail_if_success (with_reducible show False))))
    unfold hush
    (repeat first | with_reducible first | refine jq ?_ | refine jk ?_ | refine jc ?_ | refine jl ?_ | refine jb ?_ | refine jo ?_ | refine ji ?_ | refine jx rfl ?_ | refine And.intro (by first | assumption | omega | (intros; omega)) ?_ | ((first | refine jR KL8 (by kernel_rfl) fun _ => ?_ | skip); simp only [KS, Nat.reduceAdd, Nat.reduceMul, Nat.reduceEqDiff, ↓reduceIte, forall_const, Int.cast_ofNat_Int, Int.reduceToNat, TF8, KL8, hc, false_or, or_false, false_imp_iff, true_imp_iff, not_true_eq_false, not_false_eq_true, Bool.true_or, Bool.false_or, Bool.or_true, Bool.or_false, Bool.true_and, Bool.false_and, Bool.and_true, Bool.and_false]; (try simp (disch := omega) only [wrapI, tmodI, tdivI]); (fail_if_success (with_reducible show False))))
    refine .inl ?_
    unfold hush
    (repeat first | with_reducible first | refine jq ?_ | refine jk ?_ | refine jc ?_ | refine jl ?_ | refine jb ?_ | refine jo ?_ | refine ji ?_ | refine jx rfl ?_ | refine And.intro (by first | assumption | omega | (intros; omega)) ?_ | ((first | refine jR KL8 (by kernel_rfl) fun _ => ?_ | skip); simp only [KS, Nat.reduceAdd, Nat.reduceMul, Nat.reduceEqDiff, ↓reduceIte, forall_const, Int.cast_ofNat_Int, Int.reduceToNat, TF8, KL8, hc, false_or, or_false, false_imp_iff, true_imp_iff, not_true_eq_false, not_false_eq_true, Bool.true_or, Bool.false_or, Bool.or_true, Bool.or_false, Bool.true_and, Bool.false_and, Bool.and_true, Bool.and_false]; (try simp (disch := omega) only [wrapI, tmodI, tdivI]); (fail_if_success (with_reducible show False))))
    refine Run_condS (fun _ => rfl) (fun _ => ?_) (fun h => by cases h)
    (repeat first | with_reducible first | refine jq ?_ | refine jk ?_ | refine jc ?_ | refine jl ?_ | refine jb ?_ | refine jo ?_ | refine ji ?_ | refine jx rfl ?_ | refine And.intro (by first | assumption | omega | (intros; omega)) ?_ | ((first | refine jR KL8 (by kernel_rfl) fun _ => ?_ | skip); simp only [KS, Nat.reduceAdd, Nat.reduceMul, Nat.reduceEqDiff, ↓reduceIte, forall_const, Int.cast_ofNat_Int, Int.reduceToNat, TF8, KL8]; (try simp (disch := omega) only [wrapI, tmodI, tdivI]); (fail_if_success (with_reducible show False))))
    refine Run_ret ?_
    have : Bd.deposit n a = ([], 1) := by
      unfold Bd.deposit; rw [if_neg]; omega
    simp [Rets, RetM, resV, fnd, oneOr, MvRet, this]
    exact ⟨x1, Sl.nil _, BufO.nil⟩

theorem bdFree (v : Value) (xs : List Int) (w : World) (hx : Sl w v xs) : Calls Try.prog 10 #[v] w (MvRet w (Bd.free xs)) := by
  have hl := hx.len
  refine Calls_of_Run (args := [v]) (n := 15) (rs := [.tmp 2, .tmp 3]) Try.func10 rfl rfl rfl (by simp) ?_
  (repeat first | with_reducible first | refine jq ?_ | refine jk ?_ | refine jc ?_ | refine jl ?_ | refine jb ?_ | refine jo ?_ | refine ji ?_ | refine jx rfl ?_ | refine And.intro (by first | assumption | omega | (intros; omega)) ?_ | ((first | refine jR KL10 (by kernel_rfl) fun _ => ?_ | skip); simp only [KS, Nat.reduceAdd, Nat.reduceMul, Nat.reduceEqDiff, ↓reduceIte, forall_const, Int.cast_ofNat_Int, Int.reduceToNat, TF10, KL10, hx.s, hx.len]; (try simp (disch := omega) only [wrapI, tmodI, tdivI]); (fail_if_success (with_reducible show False))))
  refine .inr ⟨.bool (xs.all Bd.am), fun _ => PC_pure call18 fun w3 x3 => bdAmounts v xs w3 (hx.ext x3), fun w1 x1 => ?_⟩
  unfold hush
  (repeat first | with_reducible first | refine jq ?_ | refine jk ?_ | refine jc ?_ | refine jl ?_ | refine jb ?_ | refine jo ?_ | refine ji ?_ | refine jx rfl ?_ | refine And.intro (by first | assumption | omega | (intros; omega)) ?_ | ((first | refine jR KL10 (by kernel_rfl) fun _ => ?_ | skip); simp only [KS, Nat.reduceAdd, Nat.reduceMul, Nat.reduceEqDiff, ↓reduceIte, forall_const, Int.cast_ofNat_Int, Int.reduceToNat, TF10, KL10]; (try simp (disch := omega) only [wrapI, tmodI, tdivI]); (fail_if_success (with_reducible show False))))
  refine Run_condS (fun _ => rfl) (fun h => ?_) (fun h => ?_)
  · (repeat first | with_reducible first | refine jq ?_ | refine jk ?_ | refine jc ?_ | refine jl ?_ | refine jb ?_ | refine jo ?_ | refine ji ?_ | refine jx rfl ?_ | refine And.intro (by first | assumption | omega | (intros; omega)) ?_ | ((first | refine jR KL10 (by kernel_rfl) fun _ => ?_ | skip); simp only [KS, Nat.reduceAdd, Nat.reduceMul, Nat.reduceEqDiff, ↓reduceIte, forall_const, Int.cast_ofNat_Int, Int.reduceToNat, TF10, KL10]; (try simp (disch := omega) only [wrapI, tmodI, tdivI]); (fail_if_success (with_reducible show False))))
    refine Run_ret ?_
    have : Bd.free xs = ([], 1) := by
      unfold Bd.free; rw [if_neg]; rintro ⟨h1, h2⟩; simp only [h2, Bool.not_true, Bool.or_false, decide_eq_true_eq] at h; omega
    simp [Rets, RetM, resV, fnd, oneOr, MvRet, this]
    exact ⟨x1, Sl.nil _, BufO.nil⟩
  · simp only [Bool.or_eq_false_iff, decide_eq_false_iff_not, Bool.not_eq_false'] at h
    have hn : xs.length ≤ 24 := by omega
    have hd : Bd.free xs = (Bd.mk Bd.freeM xs, 0) := by unfold Bd.free; rw [if_pos ⟨hn, h.2⟩]
    have ha := List.all_eq_true.1 h.2
    (repeat first | with_reducible first | refine jq ?_ | refine jk ?_ | refine jc ?_ | refine jl ?_ | refine jb ?_ | refine jo ?_ | refine ji ?_ | refine jx rfl ?_ | refine And.intro (by first | assumption | omega | (intros; omega)) ?_ | ((first | refine jR KL10 (by kernel_rfl) fun _ => ?_ | skip); simp only [KS, Nat.reduceAdd, Nat.reduceMul, Nat.reduceEqDiff, ↓reduceIte, forall_const, Int.cast_ofNat_Int, Int.reduceToNat, TF10, KL10]; (try simp (disch := omega) only [wrapI, tmodI, tdivI]); (fail_if_success (with_reducible show False))))
    refine allW (isS_cells hx.s) fun ps w2 x2 r2 => ?_
    have y2 := x1.trans x2
    (repeat first | with_reducible first | refine jq ?_ | refine jk ?_ | refine jc ?_ | refine jl ?_ | refine jb ?_ | refine jo ?_ | refine ji ?_ | refine jx rfl ?_ | refine And.intro (by first | assumption | omega | (intros; omega)) ?_ | ((first | refine jR KL10 (by kernel_rfl) fun _ => ?_ | skip); simp only [KS, Nat.reduceAdd, Nat.reduceMul, Nat.reduceEqDiff, ↓reduceIte, forall_const, Int.cast_ofNat_Int, Int.reduceToNat, TF10, KL10]; (try simp (disch := omega) only [wrapI, tmodI, tdivI]); (fail_if_success (with_reducible show False))))
    refine numW (F := Bd.freeM) (hx.ext y2) r2 (fun k hk w3 x3 => ?_) (fun k hk => ?_) (by omega) rfl rfl fun v' w3 x3 s3 => ?_
    · exact CallW_pure call23 (bdFree1 _ _ w3 (by omega) (by omega)) fun w4 x4 => ⟨rfl, x4⟩
    · have := ha _ (List.getElem_mem hk)
      simp only [Bd.am, decide_eq_true_eq] at this
      simp [MI, Bd.freeM, I64]; omega
    (repeat first | with_reducible first | refine jq ?_ | refine jk ?_ | refine jc ?_ | refine jl ?_ | refine jb ?_ | refine jo ?_ | refine ji ?_ | refine jx rfl ?_ | refine And.intro (by first | assumption | omega | (intros; omega)) ?_ | ((first | refine jR KL10 (by kernel_rfl) fun _ => ?_ | skip); simp only [KS, Nat.reduceAdd, Nat.reduceMul, Nat.reduceEqDiff, ↓reduceIte, forall_const, Int.cast_ofNat_Int, Int.reduceToNat, TF10, KL10]; (try simp (disch := omega) only [wrapI, tmodI, tdivI]); (fail_if_success (with_reducible show False))))
    refine Run_ret ?_
    simp [Rets, RetM, resV, fnd, oneOr, MvRet, hd]
    exact ⟨y2.trans x3, s3.sl (by simp [Bd.mk_len]; omega), s3.mono y2.size⟩
theorem slIndex (v : Value) (xs : List Int) (n : Int) (w : World) (hx : Sl w v xs) : Calls Try.prog 49 #[v, .int .i64 n] w fun e w' => ∃ r, e = .returned (.int .i64 r) ∧ Ext w w' ∧ ((r = -1 ∧ n ∉ xs) ∨ ∃ k, ∃ h : k < xs.length, r = (k : Int) ∧ xs[k] = n ∧ ∀ j (h : j < xs.length), j < k → xs[j] ≠ n) := by
  have hn := hx.small
  refine Calls_of_Run (args := [v, .int .i64 n]) (n := 19) (rs := [.tmp 4]) Try.func49 rfl rfl rfl (by simp) ?_
  (repeat first | with_reducible first | refine jq ?_ | refine jk ?_ | refine jc ?_ | refine jl ?_ | refine jb ?_ | refine jo ?_ | refine ji ?_ | refine jx rfl ?_ | refine And.intro (by first | assumption | omega | (intros; omega)) ?_ | ((first | refine jR KL49 (by kernel_rfl) fun _ => ?_ | skip); simp only [KS, Nat.reduceAdd, Nat.reduceMul, Nat.reduceEqDiff, ↓reduceIte, forall_const, Int.cast_ofNat_Int, Int.reduceToNat, TF49, KL49, hx.s, hx.len]; (try simp (disch := omega) only [wrapI, tmodI, tdivI]); (fail_if_success (with_reducible show False))))
  refine Run_loopV [4, 5, 8, 9, 16] (σ := Nat) (fun k => [(8, some (.int .i64 k))]) (fun k w' => k ≤ xs.length ∧ (∀ j (h : j < xs.length), j < k → xs[j] ≠ n) ∧ Ext w w') (fun k => xs.length - k) 0 (by simp [SubB, fnd]) ⟨by omega, by simp, Ext.refl _⟩ ?_
  rintro k w1 ⟨hk, hf, x1⟩
  (repeat first | with_reducible first | refine jq ?_ | refine jk ?_ | refine jc ?_ | refine jl ?_ | refine jb ?_ | refine jo ?_ | refine ji ?_ | refine jx rfl ?_ | refine And.intro (by first | assumption | omega | (intros; omega)) ?_ | ((first | refine jR KL49 (by kernel_rfl) fun _ => ?_ | skip); simp only [KS, Nat.reduceAdd, Nat.reduceMul, Nat.reduceEqDiff, ↓reduceIte, forall_const, Int.cast_ofNat_Int, Int.reduceToNat, TF49, KL49]; (try simp (disch := omega) only [wrapI, tmodI, tdivI]); (fail_if_success (with_reducible show False))))
  refine Run_condS (fun _ => rfl) (fun h => ?_) (fun h => ?_)
  · simp at h
    have hkl := h
    obtain ⟨f1, f2, f3⟩ := (hx.ext x1).get h
    (repeat first | with_reducible first | refine jq ?_ | refine jk ?_ | refine jc ?_ | refine jl ?_ | refine jb ?_ | refine jo ?_ | refine ji ?_ | refine jx rfl ?_ | refine And.intro (by first | assumption | omega | (intros; omega)) ?_ | ((first | refine jR KL49 (by kernel_rfl) fun _ => ?_ | skip); simp only [KS, Nat.reduceAdd, Nat.reduceMul, Nat.reduceEqDiff, ↓reduceIte, forall_const, Int.cast_ofNat_Int, Int.reduceToNat, TF49, KL49, hx.s, hx.len, f1, f2]; (try simp (disch := omega) only [wrapI, tmodI, tdivI]); (fail_if_success (with_reducible show False))))
    refine Run_condS (fun _ => rfl) (fun h => ?_) (fun h => ?_)
    · (repeat first | with_reducible first | refine jq ?_ | refine jk ?_ | refine jc ?_ | refine jl ?_ | refine jb ?_ | refine jo ?_ | refine ji ?_ | refine jx rfl ?_ | refine And.intro (by first | assumption | omega | (intros; omega)) ?_ | ((first | refine jR KL49 (by kernel_rfl) fun _ => ?_ | skip); simp only [KS, Nat.reduceAdd, Nat.reduceMul, Nat.reduceEqDiff, ↓reduceIte, forall_const, Int.cast_ofNat_Int, Int.reduceToNat, TF49, KL49]; (try simp (disch := omega) only [wrapI, tmodI, tdivI]); (fail_if_success (with_reducible show False))))
      refine Run_ret ?_
      have h2 := of_decide_eq_true h
      simp only [Rets, RetM, resV, fnd, oneOr]
      exact ⟨_, rfl, k, rfl, x1, .inr ⟨k, hkl, rfl, h2.symm, hf⟩⟩
    · (repeat first | with_reducible first | refine jq ?_ | refine jk ?_ | refine jc ?_ | refine jl ?_ | refine jb ?_ | refine jo ?_ | refine ji ?_ | refine jx rfl ?_ | refine And.intro (by first | assumption | omega | (intros; omega)) ?_ | ((first | refine jR KL49 (by kernel_rfl) fun _ => ?_ | skip); simp only [KS, Nat.reduceAdd, Nat.reduceMul, Nat.reduceEqDiff, ↓reduceIte, forall_const, Int.cast_ofNat_Int, Int.reduceToNat, TF49, KL49]; (try simp (disch := omega) only [wrapI, tmodI, tdivI]); (fail_if_success (with_reducible show False))))
      have h2 := of_decide_eq_false h
      refine Run_lp ⟨k + 1, ?_, ⟨by omega, fun j hj hjk => ?_, x1⟩, by omega⟩
      · simp [SubB, fnd, strike, has]
      · by_cases e : j = k
        · subst e; exact fun e => h2 e.symm
        · exact hf j hj (by omega)
  · simp at h
    obtain rfl : k = xs.length := by omega
    (repeat first | with_reducible first | refine jq ?_ | refine jk ?_ | refine jc ?_ | refine jl ?_ | refine jb ?_ | refine jo ?_ | refine ji ?_ | refine jx rfl ?_ | refine And.intro (by first | assumption | omega | (intros; omega)) ?_ | ((first | refine jR KL49 (by kernel_rfl) fun _ => ?_ | skip); simp only [KS, Nat.reduceAdd, Nat.reduceMul, Nat.reduceEqDiff, ↓reduceIte, forall_const, Int.cast_ofNat_Int, Int.reduceToNat, TF49, KL49]; (try simp (disch := omega) only [wrapI, tmodI, tdivI]); (fail_if_success (with_reducible show False))))
    refine Run_ret ?_
    simp only [Rets, RetM, resV, fnd, oneOr]
    refine ⟨_, rfl, -1, rfl, x1, .inl ⟨rfl, fun hm => ?_⟩⟩
    obtain ⟨j, hj, e⟩ := List.getElem_of_mem hm
    exact hf j hj hj e
theorem slContains (v : Value) (xs : List Int) (n : Int) (w : World) (hx : Sl w v xs) : Calls Try.prog 37 #[v, .int .i64 n] w fun e w' => e = .returned (.bool (xs.contains n)) ∧ Ext w w' := by
  refine Calls_of_Run (args := [v, .int .i64 n]) (n := 9) (rs := [.tmp 4]) Try.func37 rfl rfl rfl (by simp) ?_
  (repeat first | with_reducible first | refine jq ?_ | refine jk ?_ | refine jc ?_ | refine jl ?_ | refine jb ?_ | refine jo ?_ | refine ji ?_ | refine jx rfl ?_ | refine And.intro (by first | assumption | omega | (intros; omega)) ?_ | ((first | refine jR KL37 (by kernel_rfl) fun _ => ?_ | skip); simp only [KS, Nat.reduceAdd, Nat.reduceMul, Nat.reduceEqDiff, ↓reduceIte, forall_const, Int.cast_ofNat_Int, Int.reduceToNat, TF37, KL37]; (try simp (disch := omega) only [wrapI, tmodI, tdivI]); (fail_if_success (with_reducible show False))))
  refine CallW_gen call49 (slIndex v xs n w hx) fun e w1 ⟨r, he, x1, hr⟩ => ⟨_, he, ?_⟩
  (repeat first | with_reducible first | refine jq ?_ | refine jk ?_ | refine jc ?_ | refine jl ?_ | refine jb ?_ | refine jo ?_ | refine ji ?_ | refine jx rfl ?_ | refine And.intro (by first | assumption | omega | (intros; omega)) ?_ | ((first | refine jR KL37 (by kernel_rfl) fun _ => ?_ | skip); simp only [KS, Nat.reduceAdd, Nat.reduceMul, Nat.reduceEqDiff, ↓reduceIte, forall_const, Int.cast_ofNat_Int, Int.reduceToNat, TF37, KL37]; (try simp (disch := omega) only [wrapI, tmodI, tdivI]); (fail_if_success (with_reducible show False))))
  refine Run_ret ?_
  simp [Rets, RetM, resV, fnd, oneOr, x1]
  rcases hr with ⟨rfl, h⟩ | ⟨k, h, rfl, h2, _⟩
  · simp [h]
  · simp [← h2]
/-- what a formed list of offices is, as the loops see it -/
theorem offs_take {l : List Int} : Bd.offs l = true ↔ ∀ j (h : j < l.length), (0 ≤ l[j] ∧ l[j] < 24) ∧ (l.take j).contains l[j] = false := by
  simp only [Bd.offs, Bool.and_eq_true, List.all_eq_true, decide_eq_true_eq, Bd.diff_iff]
  constructor
  · rintro ⟨h1, h2⟩ j h
    refine ⟨h1 _ (List.getElem_mem h), ?_⟩
    simp only [List.contains_eq_mem, decide_eq_false_iff_not]
    intro hm
    obtain ⟨i, hi, e⟩ := List.getElem_of_mem hm
    simp at hi e
    exact h2 j h i (by omega) e
  · intro h
    refine ⟨fun x hx => ?_, fun j hj i hi e => ?_⟩
    · obtain ⟨j, hj, rfl⟩ := List.getElem_of_mem hx
      exact (h j hj).1
    · have := (h j hj).2
      simp only [List.contains_eq_mem, decide_eq_false_iff_not] at this
      exact this (List.mem_of_getElem (i := i) (h := by simp; omega) (by simp [e]))
theorem bdFormed (va : Value) (l : List Int) (x : VerdictD) (w : World) (hx : Sl w va l) : Calls Try.prog 24 #[va, .agg x.cs.toArray] w fun e w' => e = .returned (.bool (Bd.formed l x)) ∧ Ext w w' := by
  have hn := hx.small
  have hcap := hx.cap
  refine Calls_of_Run (args := [va, .agg x.cs.toArray]) (n := 52) (rs := [.tmp 4]) Try.func24 rfl rfl rfl (by simp) ?_
  (repeat first | with_reducible first | refine jq ?_ | refine jk ?_ | refine jc ?_ | refine jl ?_ | refine jb ?_ | refine jo ?_ | refine ji ?_ | refine jx rfl ?_ | refine And.intro (by first | assumption | omega | (intros; omega)) ?_ | ((first | refine jR KL24 (by kernel_rfl) fun _ => ?_ | skip); simp only [KS, Nat.reduceAdd, Nat.reduceMul, Nat.reduceEqDiff, ↓reduceIte, forall_const, Int.cast_ofNat_Int, Int.reduceToNat, TF24, KL24]; (try simp (disch := omega) only [wrapI, tmodI, tdivI]); (fail_if_success (with_reducible show False))))
  refine SemW_box fun p w1 hN => ?_
  have x1 := hN.ext
  (repeat first | with_reducible first | refine jq ?_ | refine jk ?_ | refine jc ?_ | refine jl ?_ | refine jb ?_ | refine jo ?_ | refine ji ?_ | refine jx rfl ?_ | refine And.intro (by first | assumption | omega | (intros; omega)) ?_ | ((first | refine jR KL24 (by kernel_rfl) fun _ => ?_ | skip); simp only [KS, Nat.reduceAdd, Nat.reduceMul, Nat.reduceEqDiff, ↓reduceIte, forall_const, Int.cast_ofNat_Int, Int.reduceToNat, TF24, KL24, hx.s, hx.len]; (try simp (disch := omega) only [wrapI, tmodI, tdivI]); (fail_if_success (with_reducible show False))))
  refine Run_loopV [4, 5, 6, 9, 10, 26] (σ := Nat) (fun k => [(9, some (.int .i64 k))]) (fun k w' => k ≤ l.length ∧ (∀ j (h : j < l.length), j < k → (0 ≤ l[j] ∧ l[j] < 24) ∧ (l.take j).contains l[j] = false) ∧ Ext w1 w') (fun k => l.length - k) 0 (by simp [SubB, fnd]) ⟨by omega, by simp, Ext.refl _⟩ ?_
  rintro k w2 ⟨hk, hf, x2⟩
  have y2 := x1.trans x2
  (repeat first | with_reducible first | refine jq ?_ | refine jk ?_ | refine jc ?_ | refine jl ?_ | refine jb ?_ | refine jo ?_ | refine ji ?_ | refine jx rfl ?_ | refine And.intro (by first | assumption | omega | (intros; omega)) ?_ | ((first | refine jR KL24 (by kernel_rfl) fun _ => ?_ | skip); simp only [KS, Nat.reduceAdd, Nat.reduceMul, Nat.reduceEqDiff, ↓reduceIte, forall_const, Int.cast_ofNat_Int, Int.reduceToNat, TF24, KL24]; (try simp (disch := omega) only [wrapI, tmodI, tdivI]); (fail_if_success (with_reducible show False))))
  refine Run_condS (fun _ => rfl) (fun h => ?_) (fun h => ?_)
  · simp at h
    have hkl := h
    obtain ⟨f1, f2, f3⟩ := (hx.ext y2).get h
    (repeat first | with_reducible first | refine jq ?_ | refine jk ?_ | refine jc ?_ | refine jl ?_ | refine jb ?_ | refine jo ?_ | refine ji ?_ | refine jx rfl ?_ | refine And.intro (by first | assumption | omega | (intros; omega)) ?_ | ((first | refine jR KL24 (by kernel_rfl) fun _ => ?_ | skip); simp only [KS, Nat.reduceAdd, Nat.reduceMul, Nat.reduceEqDiff, ↓reduceIte, forall_const, Int.cast_ofNat_Int, Int.reduceToNat, TF24, KL24, hx.s, hx.len, f1, f2]; (try simp (disch := omega) only [wrapI, tmodI, tdivI]); (fail_if_success (with_reducible show False))))
    have hsub := fun w' (x : Ext w w') => (hx.ext x).sub (l := 0) (r := k) (m := slCap va) (by omega) (by omega) (by omega) (Nat.le_refl _)
    simp only [List.drop_zero] at hsub
    refine .inr ⟨.bool ((l.take k).contains l[k]), fun _ => PC_pure call37 fun w3 x3 => slContains _ _ _ w3 (hsub w3 (y2.trans x3)), fun w3 x3 => ?_⟩
    unfold hush
    (repeat first | with_reducible first | refine jq ?_ | refine jk ?_ | refine jc ?_ | refine jl ?_ | refine jb ?_ | refine jo ?_ | refine ji ?_ | refine jx rfl ?_ | refine And.intro (by first | assumption | omega | (intros; omega)) ?_ | ((first | refine jR KL24 (by kernel_rfl) fun _ => ?_ | skip); simp only [KS, Nat.reduceAdd, Nat.reduceMul, Nat.reduceEqDiff, ↓reduceIte, forall_const, Int.cast_ofNat_Int, Int.reduceToNat, TF24, KL24, hx.s, hx.len, f1, f2]; (try simp (disch := omega) only [wrapI, tmodI, tdivI]); (fail_if_success (with_reducible show False))))
    refine Run_condS (fun _ => rfl) (fun h => ?_) (fun h => ?_)
    · (repeat first | with_reducible first | refine jq ?_ | refine jk ?_ | refine jc ?_ | refine jl ?_ | refine jb ?_ | refine jo ?_ | refine ji ?_ | refine jx rfl ?_ | refine And.intro (by first | assumption | omega | (intros; omega)) ?_ | ((first | refine jR KL24 (by kernel_rfl) fun _ => ?_ | skip); simp only [KS, Nat.reduceAdd, Nat.reduceMul, Nat.reduceEqDiff, ↓reduceIte, forall_const, Int.cast_ofNat_Int, Int.reduceToNat, TF24, KL24]; (try simp (disch := omega) only [wrapI, tmodI, tdivI]); (fail_if_success (with_reducible show False))))
      refine Run_ret ?_
      have : Bd.formed l x = false := by
        have : Bd.offs l = false := by
          cases ho : Bd.offs l with
          | false => rfl
          | true =>
            have hh := offs_take.1 ho k hkl
            simp only [Bool.or_eq_true, decide_eq_true_eq, hh.2, Bool.false_eq_true, or_false] at h
            omega
        unfold Bd.formed; rw [this]; rfl
      simp [Rets, RetM, resV, fnd, oneOr, this]
      exact y2.trans x3
    · (repeat first | with_reducible first | refine jq ?_ | refine jk ?_ | refine jc ?_ | refine jl ?_ | refine jb ?_ | refine jo ?_ | refine ji ?_ | refine jx rfl ?_ | refine And.intro (by first | assumption | omega | (intros; omega)) ?_ | ((first | refine jR KL24 (by kernel_rfl) fun _ => ?_ | skip); simp only [KS, Nat.reduceAdd, Nat.reduceMul, Nat.reduceEqDiff, ↓reduceIte, forall_const, Int.cast_ofNat_Int, Int.reduceToNat, TF24, KL24]; (try simp (disch := omega) only [wrapI, tmodI, tdivI]); (fail_if_success (with_reducible show False))))
      refine Run_lp ⟨k + 1, ?_, ⟨by omega, fun j hj hjk => ?_, x2.trans x3⟩, by omega⟩
      · simp [SubB, fnd, strike, has]
      · by_cases e : j = k
        · subst e
          simp only [Bool.or_eq_false_iff, decide_eq_false_iff_not] at h
          exact ⟨by omega, h.2⟩
        · exact hf j hj (by omega)
  · simp at h
    obtain rfl : k = l.length := by omega
    have ho := offs_take.2 fun j hj => hf j hj hj
    have g2 := (hN.at_.ext x2).n
    simp only [VerdictD.cs, AtN, KS, Nat.reduceAdd, Nat.reduceMul, Nat.reduceEqDiff, ↓reduceIte, UT] at g2
    have hfm : Bd.formed l x = (if x.Why = 0 ∨ x.Why = 1 then decide (x.Office = -1) else decide (2 ≤ x.Why ∧ x.Why ≤ 5 ∧ 0 ≤ x.Office ∧ x.Office < l.length)) := by unfold Bd.formed; rw [ho]; rfl
    (repeat first | with_reducible first | refine jq ?_ | refine jk ?_ | refine jc ?_ | refine jl ?_ | refine jb ?_ | refine jo ?_ | refine ji ?_ | refine jx rfl ?_ | refine And.intro (by first | assumption | omega | (intros; omega)) ?_ | ((first | refine jR KL24 (by kernel_rfl) fun _ => ?_ | skip); simp only [KS, Nat.reduceAdd, Nat.reduceMul, Nat.reduceEqDiff, ↓reduceIte, forall_const, Int.cast_ofNat_Int, Int.reduceToNat, TF24, KL24, g2]; (try simp (disch := omega) only [wrapI, tmodI, tdivI]); (fail_if_success (with_reducible show False))))
    refine Run_cond (fun _ => rfl) (fun h0 => ?_) (fun h0 => ?_)
    · (repeat first | with_reducible first | refine jq ?_ | refine jk ?_ | refine jc ?_ | refine jl ?_ | refine jb ?_ | refine jo ?_ | refine ji ?_ | refine jx rfl ?_ | refine And.intro (by first | assumption | omega | (intros; omega)) ?_ | ((first | refine jR KL24 (by kernel_rfl) fun _ => ?_ | skip); simp only [KS, Nat.reduceAdd, Nat.reduceMul, Nat.reduceEqDiff, ↓reduceIte, forall_const, Int.cast_ofNat_Int, Int.reduceToNat, TF24, KL24, g2, hx.s, hx.len]; (try simp (disch := omega) only [wrapI, tmodI, tdivI]); (fail_if_success (with_reducible show False))))
      refine Run_ret ?_
      simp at h0
      simp [Rets, RetM, resV, fnd, oneOr, y2, hfm, h0]
      rfl
    · (repeat first | with_reducible first | refine jq ?_ | refine jk ?_ | refine jc ?_ | refine jl ?_ | refine jb ?_ | refine jo ?_ | refine ji ?_ | refine jx rfl ?_ | refine And.intro (by first | assumption | omega | (intros; omega)) ?_ | ((first | refine jR KL24 (by kernel_rfl) fun _ => ?_ | skip); simp only [KS, Nat.reduceAdd, Nat.reduceMul, Nat.reduceEqDiff, ↓reduceIte, forall_const, Int.cast_ofNat_Int, Int.reduceToNat, TF24, KL24]; (try simp (disch := omega) only [wrapI, tmodI, tdivI]); (fail_if_success (with_reducible show False))))
      refine Run_cond (fun _ => rfl) (fun h1 => ?_) (fun h1 => ?_)
      · (repeat first | with_reducible first | refine jq ?_ | refine jk ?_ | refine jc ?_ | refine jl ?_ | refine jb ?_ | refine jo ?_ | refine ji ?_ | refine jx rfl ?_ | refine And.intro (by first | assumption | omega | (intros; omega)) ?_ | ((first | refine jR KL24 (by kernel_rfl) fun _ => ?_ | skip); simp only [KS, Nat.reduceAdd, Nat.reduceMul, Nat.reduceEqDiff, ↓reduceIte, forall_const, Int.cast_ofNat_Int, Int.reduceToNat, TF24, KL24, g2, hx.s, hx.len]; (try simp (disch := omega) only [wrapI, tmodI, tdivI]); (fail_if_success (with_reducible show False))))
        refine Run_ret ?_
        simp at h1
        simp [Rets, RetM, resV, fnd, oneOr, y2, hfm, h1]
        rfl
      · (repeat first | with_reducible first | refine jq ?_ | refine jk ?_ | refine jc ?_ | refine jl ?_ | refine jb ?_ | refine jo ?_ | refine ji ?_ | refine jx rfl ?_ | refine And.intro (by first | assumption | omega | (intros; omega)) ?_ | ((first | refine jR KL24 (by kernel_rfl) fun _ => ?_ | skip); simp only [KS, Nat.reduceAdd, Nat.reduceMul, Nat.reduceEqDiff, ↓reduceIte, forall_const, Int.cast_ofNat_Int, Int.reduceToNat, TF24, KL24]; (try simp (disch := omega) only [wrapI, tmodI, tdivI]); (fail_if_success (with_reducible show False))))
        simp at h0 h1
        refine Run_cond (fun _ => rfl) (fun h2 => ?_) (fun h2 => ?_)
        · (repeat first | with_reducible first | refine jq ?_ | refine jk ?_ | refine jc ?_ | refine jl ?_ | refine jb ?_ | refine jo ?_ | refine ji ?_ | refine jx rfl ?_ | refine And.intro (by first | assumption | omega | (intros; omega)) ?_ | ((first | refine jR KL24 (by kernel_rfl) fun _ => ?_ | skip); simp only [KS, Nat.reduceAdd, Nat.reduceMul, Nat.reduceEqDiff, ↓reduceIte, forall_const, Int.cast_ofNat_Int, Int.reduceToNat, TF24, KL24]; (try simp (disch := omega) only [wrapI, tmodI, tdivI]); (fail_if_success (with_reducible show False))))
          refine Run_cond (fun _ => rfl) (fun _ => ?_) (fun h => by rw [h2] at h; cases h)
          (repeat first | with_reducible first | refine jq ?_ | refine jk ?_ | refine jc ?_ | refine jl ?_ | refine jb ?_ | refine jo ?_ | refine ji ?_ | refine jx rfl ?_ | refine And.intro (by first | assumption | omega | (intros; omega)) ?_ | ((first | refine jR KL24 (by kernel_rfl) fun _ => ?_ | skip); simp only [KS, Nat.reduceAdd, Nat.reduceMul, Nat.reduceEqDiff, ↓reduceIte, forall_const, Int.cast_ofNat_Int, Int.reduceToNat, TF24, KL24, g2, hx.s, hx.len]; (try simp (disch := omega) only [wrapI, tmodI, tdivI]); (fail_if_success (with_reducible show False))))
          refine Run_ret ?_
          simp at h2
          simp [Rets, RetM, resV, fnd, oneOr, y2, hfm, h2]
        · (repeat first | with_reducible first | refine jq ?_ | refine jk ?_ | refine jc ?_ | refine jl ?_ | refine jb ?_ | refine jo ?_ | refine ji ?_ | refine jx rfl ?_ | refine And.intro (by first | assumption | omega | (intros; omega)) ?_ | ((first | refine jR KL24 (by kernel_rfl) fun _ => ?_ | skip); simp only [KS, Nat.reduceAdd, Nat.reduceMul, Nat.reduceEqDiff, ↓reduceIte, forall_const, Int.cast_ofNat_Int, Int.reduceToNat, TF24, KL24]; (try simp (disch := omega) only [wrapI, tmodI, tdivI]); (fail_if_success (with_reducible show False))))
          refine Run_cond (fun _ => rfl) (fun h3 => ?_) (fun h3 => ?_)
          · (repeat first | with_reducible first | refine jq ?_ | refine jk ?_ | refine jc ?_ | refine jl ?_ | refine jb ?_ | refine jo ?_ | refine ji ?_ | refine jx rfl ?_ | refine And.intro (by first | assumption | omega | (intros; omega)) ?_ | ((first | refine jR KL24 (by kernel_rfl) fun _ => ?_ | skip); simp only [KS, Nat.reduceAdd, Nat.reduceMul, Nat.reduceEqDiff, ↓reduceIte, forall_const, Int.cast_ofNat_Int, Int.reduceToNat, TF24, KL24]; (try simp (disch := omega) only [wrapI, tmodI, tdivI]); (fail_if_success (with_reducible show False))))
            refine Run_cond (fun _ => rfl) (fun _ => ?_) (fun h => by rw [h3] at h; cases h)
            (repeat first | with_reducible first | refine jq ?_ | refine jk ?_ | refine jc ?_ | refine jl ?_ | refine jb ?_ | refine jo ?_ | refine ji ?_ | refine jx rfl ?_ | refine And.intro (by first | assumption | omega | (intros; omega)) ?_ | ((first | refine jR KL24 (by kernel_rfl) fun _ => ?_ | skip); simp only [KS, Nat.reduceAdd, Nat.reduceMul, Nat.reduceEqDiff, ↓reduceIte, forall_const, Int.cast_ofNat_Int, Int.reduceToNat, TF24, KL24, g2, hx.s, hx.len]; (try simp (disch := omega) only [wrapI, tmodI, tdivI]); (fail_if_success (with_reducible show False))))
            refine Run_ret ?_
            simp at h3
            simp [Rets, RetM, resV, fnd, oneOr, y2, hfm, h3]
          · (repeat first | with_reducible first | refine jq ?_ | refine jk ?_ | refine jc ?_ | refine jl ?_ | refine jb ?_ | refine jo ?_ | refine ji ?_ | refine jx rfl ?_ | refine And.intro (by first | assumption | omega | (intros; omega)) ?_ | ((first | refine jR KL24 (by kernel_rfl) fun _ => ?_ | skip); simp only [KS, Nat.reduceAdd, Nat.reduceMul, Nat.reduceEqDiff, ↓reduceIte, forall_const, Int.cast_ofNat_Int, Int.reduceToNat, TF24, KL24]; (try simp (disch := omega) only [wrapI, tmodI, tdivI]); (fail_if_success (with_reducible show False))))
            refine Run_cond (fun _ => rfl) (fun h4 => ?_) (fun h4 => ?_)
            · (repeat first | with_reducible first | refine jq ?_ | refine jk ?_ | refine jc ?_ | refine jl ?_ | refine jb ?_ | refine jo ?_ | refine ji ?_ | refine jx rfl ?_ | refine And.intro (by first | assumption | omega | (intros; omega)) ?_ | ((first | refine jR KL24 (by kernel_rfl) fun _ => ?_ | skip); simp only [KS, Nat.reduceAdd, Nat.reduceMul, Nat.reduceEqDiff, ↓reduceIte, forall_const, Int.cast_ofNat_Int, Int.reduceToNat, TF24, KL24]; (try simp (disch := omega) only [wrapI, tmodI, tdivI]); (fail_if_success (with_reducible show False))))
              refine Run_cond (fun _ => rfl) (fun _ => ?_) (fun h => by rw [h4] at h; cases h)
              (repeat first | with_reducible first | refine jq ?_ | refine jk ?_ | refine jc ?_ | refine jl ?_ | refine jb ?_ | refine jo ?_ | refine ji ?_ | refine jx rfl ?_ | refine And.intro (by first | assumption | omega | (intros; omega)) ?_ | ((first | refine jR KL24 (by kernel_rfl) fun _ => ?_ | skip); simp only [KS, Nat.reduceAdd, Nat.reduceMul, Nat.reduceEqDiff, ↓reduceIte, forall_const, Int.cast_ofNat_Int, Int.reduceToNat, TF24, KL24, g2, hx.s, hx.len]; (try simp (disch := omega) only [wrapI, tmodI, tdivI]); (fail_if_success (with_reducible show False))))
              refine Run_ret ?_
              simp at h4
              simp [Rets, RetM, resV, fnd, oneOr, y2, hfm, h4]
            · (repeat first | with_reducible first | refine jq ?_ | refine jk ?_ | refine jc ?_ | refine jl ?_ | refine jb ?_ | refine jo ?_ | refine ji ?_ | refine jx rfl ?_ | refine And.intro (by first | assumption | omega | (intros; omega)) ?_ | ((first | refine jR KL24 (by kernel_rfl) fun _ => ?_ | skip); simp only [KS, Nat.reduceAdd, Nat.reduceMul, Nat.reduceEqDiff, ↓reduceIte, forall_const, Int.cast_ofNat_Int, Int.reduceToNat, TF24, KL24]; (try simp (disch := omega) only [wrapI, tmodI, tdivI]); (fail_if_success (with_reducible show False))))
              refine Run_cond (fun _ => rfl) (fun h5 => ?_) (fun h5 => ?_)
              · (repeat first | with_reducible first | refine jq ?_ | refine jk ?_ | refine jc ?_ | refine jl ?_ | refine jb ?_ | refine jo ?_ | refine ji ?_ | refine jx rfl ?_ | refine And.intro (by first | assumption | omega | (intros; omega)) ?_ | ((first | refine jR KL24 (by kernel_rfl) fun _ => ?_ | skip); simp only [KS, Nat.reduceAdd, Nat.reduceMul, Nat.reduceEqDiff, ↓reduceIte, forall_const, Int.cast_ofNat_Int, Int.reduceToNat, TF24, KL24, g2, hx.s, hx.len]; (try simp (disch := omega) only [wrapI, tmodI, tdivI]); (fail_if_success (with_reducible show False))))
                refine Run_ret ?_
                simp at h5
                simp [Rets, RetM, resV, fnd, oneOr, y2, hfm, h5]
              · (repeat first | with_reducible first | refine jq ?_ | refine jk ?_ | refine jc ?_ | refine jl ?_ | refine jb ?_ | refine jo ?_ | refine ji ?_ | refine jx rfl ?_ | refine And.intro (by first | assumption | omega | (intros; omega)) ?_ | ((first | refine jR KL24 (by kernel_rfl) fun _ => ?_ | skip); simp only [KS, Nat.reduceAdd, Nat.reduceMul, Nat.reduceEqDiff, ↓reduceIte, forall_const, Int.cast_ofNat_Int, Int.reduceToNat, TF24, KL24]; (try simp (disch := omega) only [wrapI, tmodI, tdivI]); (fail_if_success (with_reducible show False))))
                refine Run_ret ?_
                simp at h2 h3 h4 h5
                simp [Rets, RetM, resV, fnd, oneOr, y2, hfm, h0, h1]
                omega
theorem formW {va : Value} {l : List Int} {x : VerdictD} {w : World} {K : Value → World → Prop} (hx : Sl w va l) (hK : ∀ w', Ext w w' → K (.bool (Bd.formed l x)) w') : CallW Try.prog (.func (.func 24) #[] #[]) [va, .agg #[.int .i64 x.Office, .int .i64 x.Why]] w K :=
  CallW_pure call24 (bdFormed va l x w hx) hK
theorem bdPay (va : Value) (l : List Int) (x : VerdictD) (s p b : Int) (w : World) (hx : Sl w va l) (hp : I64 p) (hb : I64 b) :
    Calls Try.prog 13 #[va, .agg x.cs.toArray, .int .i64 s, .int .i64 p, .int .i64 b] w (MvRet w (Bd.pay l x s p b)) := by
  have hlen := hx.len
  refine Calls_of_Run (args := [va, .agg x.cs.toArray, .int .i64 s, .int .i64 p, .int .i64 b]) (n := 45) (rs := [.tmp 10, .tmp 11]) Try.func13 rfl rfl rfl (by simp) ?_
  (repeat first | with_reducible first | refine jq ?_ | refine jk ?_ | refine jc ?_ | refine jl ?_ | refine jb ?_ | refine jo ?_ | refine ji ?_ | refine jx rfl ?_ | refine And.intro (by first | assumption | omega | (intros; omega)) ?_ | ((first | refine jR KL13 (by kernel_rfl) fun _ => ?_ | skip); simp only [KS, Nat.reduceAdd, Nat.reduceMul, Nat.reduceEqDiff, ↓reduceIte, forall_const, Int.cast_ofNat_Int, Int.reduceToNat, TF13, KL13]; (try simp (disch := omega) only [wrapI, tmodI, tdivI]); (fail_if_success (with_reducible show False))))
  refine SemW_box fun pv w0 h0 => SemW_box fun ps w1 h1 => ?_
  have g0 := (h0.at_.ext h1.ext).n
  have g1 := h1.at_.n
  simp only [AtN, VerdictD.cs, KS, Nat.reduceAdd, Nat.reduceMul, Nat.reduceEqDiff, ↓reduceIte, UT] at g0 g1
  have x1 := h0.ext.trans h1.ext
  by_cases hs : 0 ≤ s ∧ s < 64
  · have hc : (decide (s < 0) || decide (64 ≤ s)) = false := by simp; omega
    (repeat first | with_reducible first | refine jq ?_ | refine jk ?_ | refine jc ?_ | refine jl ?_ | refine jb ?_ | refine jo ?_ | refine ji ?_ | refine jx rfl ?_ | refine And.intro (by first | assumption | omega | (intros; omega)) ?_ | ((first | refine jR KL13 (by kernel_rfl) fun _ => ?_ | skip); simp only [KS, Nat.reduceAdd, Nat.reduceMul, Nat.reduceEqDiff, ↓reduceIte, forall_const, Int.cast_ofNat_Int, Int.reduceToNat, TF13, KL13, g0, g1, hc, false_or, or_false, false_imp_iff, true_imp_iff, not_true_eq_false, not_false_eq_true, Bool.true_or, Bool.false_or, Bool.or_true, Bool.or_false, Bool.true_and, Bool.false_and, Bool.and_true, Bool.and_false]; (try simp (disch := omega) only [wrapI, tmodI, tdivI]); (fail_if_success (with_reducible show False))))
    refine SemW_buildF (α := Int) (W := w1) Try.underlying22 ti3 rfl (by decide) (Ext.refl _) [_, _] [p, b] rfl rfl (Cs.append (c1 := [[.int .i64 p]]) (x1 := [p]) (c2 := [[.int .i64 b]]) (x2 := [b]) (Cs.one ⟨rfl, hp⟩) (Cs.one ⟨rfl, hb⟩)) (by simp [Enc.n]) fun pp w2 b2 s2 x2 => ?_
    unfold hush
    have g2 := (h1.at_.ext x2).n
    simp only [AtN, KS, Nat.reduceAdd, Nat.reduceMul, Nat.reduceEqDiff, ↓reduceIte, UT] at g2
    (repeat first | with_reducible first | refine jq ?_ | refine jk ?_ | refine jc ?_ | refine jl ?_ | refine jb ?_ | refine jo ?_ | refine ji ?_ | refine jx rfl ?_ | refine And.intro (by first | assumption | omega | (intros; omega)) ?_ | ((first | refine jR KL13 (by kernel_rfl) fun _ => ?_ | skip); simp only [KS, Nat.reduceAdd, Nat.reduceMul, Nat.reduceEqDiff, ↓reduceIte, forall_const, Int.cast_ofNat_Int, Int.reduceToNat, TF13, KL13, hc, g1, g2, false_or, or_false, false_imp_iff, true_imp_iff, not_true_eq_false, not_false_eq_true, Bool.true_or, Bool.false_or, Bool.or_true, Bool.or_false, Bool.true_and, Bool.false_and, Bool.and_true, Bool.and_false]; (try simp (disch := omega) only [wrapI, tmodI, tdivI]); (fail_if_success (with_reducible show False))))
    refine .inl ?_
    refine CallW_pure call18 (bdAmounts _ [p, b] w2 s2) fun w3 x3 => ?_
    unfold hush
    have y3 := x1.trans (x2.trans x3)
    have g3 := (h0.at_.ext (h1.ext.trans (x2.trans x3))).n
    simp only [AtN, VerdictD.cs, KS, Nat.reduceAdd, Nat.reduceMul, Nat.reduceEqDiff, ↓reduceIte, UT] at g3
    (repeat first | with_reducible first | refine jq ?_ | refine jk ?_ | refine jc ?_ | refine jl ?_ | refine jb ?_ | refine jo ?_ | refine ji ?_ | refine jx rfl ?_ | refine And.intro (by first | assumption | omega | (intros; omega)) ?_ | ((first | refine jR KL13 (by kernel_rfl) fun _ => ?_ | skip); simp only [KS, Nat.reduceAdd, Nat.reduceMul, Nat.reduceEqDiff, ↓reduceIte, forall_const, Int.cast_ofNat_Int, Int.reduceToNat, TF13, KL13, hc, g1, g3, false_or, or_false, false_imp_iff, true_imp_iff, not_true_eq_false, not_false_eq_true, Bool.true_or, Bool.false_or, Bool.or_true, Bool.or_false, Bool.true_and, Bool.false_and, Bool.and_true, Bool.and_false]; (try simp (disch := omega) only [wrapI, tmodI, tdivI]); (fail_if_success (with_reducible show False))))
    refine Run_condS (fun _ => rfl) (fun h => ?_) (fun h => ?_)
    · (repeat first | with_reducible first | refine jq ?_ | refine jk ?_ | refine jc ?_ | refine jl ?_ | refine jb ?_ | refine jo ?_ | refine ji ?_ | refine jx rfl ?_ | refine And.intro (by first | assumption | omega | (intros; omega)) ?_ | ((first | refine jR KL13 (by kernel_rfl) fun _ => ?_ | skip); simp only [KS, Nat.reduceAdd, Nat.reduceMul, Nat.reduceEqDiff, ↓reduceIte, forall_const, Int.cast_ofNat_Int, Int.reduceToNat, TF13, KL13]; (try simp (disch := omega) only [wrapI, tmodI, tdivI]); (fail_if_success (with_reducible show False))))
      refine Run_ret ?_
      have : Bd.pay l x s p b = ([], 1) := by
        unfold Bd.pay; rw [if_neg]; rintro ⟨_, _, h1, h2⟩; simp [h1, h2] at h
      simp [Rets, RetM, resV, fnd, oneOr, MvRet, this]
      exact ⟨y3, Sl.nil _, BufO.nil⟩
    · have hd : Bd.pay l x s p b = if Bd.formed l x = true then if x.Office < 0 then ([], 0) else (Bd.mk (Bd.payM (l.getD x.Office.toNat 0) s) [min p b], 0) else ([], 580) := by
        unfold Bd.pay; rw [if_pos]; simp at h; exact ⟨hs.1, hs.2, h⟩
      (repeat first | with_reducible first | refine jq ?_ | refine jk ?_ | refine jc ?_ | refine jl ?_ | refine jb ?_ | refine jo ?_ | refine ji ?_ | refine jx rfl ?_ | refine And.intro (by first | assumption | omega | (intros; omega)) ?_ | ((first | refine jR KL13 (by kernel_rfl) fun _ => ?_ | skip); simp only [KS, Nat.reduceAdd, Nat.reduceMul, Nat.reduceEqDiff, ↓reduceIte, forall_const, Int.cast_ofNat_Int, Int.reduceToNat, TF13, KL13, g3]; (try simp (disch := omega) only [wrapI, tmodI, tdivI]); (fail_if_success (with_reducible show False))))
      refine formW (hx.ext y3) fun w4 x4 => ?_
      have y4 := y3.trans x4
      have g4 := (h0.at_.ext (h1.ext.trans (x2.trans (x3.trans x4)))).n
      simp only [AtN, VerdictD.cs, KS, Nat.reduceAdd, Nat.reduceMul, Nat.reduceEqDiff, ↓reduceIte, UT] at g4
      (repeat first | with_reducible first | refine jq ?_ | refine jk ?_ | refine jc ?_ | refine jl ?_ | refine jb ?_ | refine jo ?_ | refine ji ?_ | refine jx rfl ?_ | refine And.intro (by first | assumption | omega | (intros; omega)) ?_ | ((first | refine jR KL13 (by kernel_rfl) fun _ => ?_ | skip); simp only [KS, Nat.reduceAdd, Nat.reduceMul, Nat.reduceEqDiff, ↓reduceIte, forall_const, Int.cast_ofNat_Int, Int.reduceToNat, TF13, KL13]; (try simp (disch := omega) only [wrapI, tmodI, tdivI]); (fail_if_success (with_reducible show False))))
      refine Run_condS (fun _ => rfl) (fun h => ?_) (fun h => ?_)
      · (repeat first | with_reducible first | refine jq ?_ | refine jk ?_ | refine jc ?_ | refine jl ?_ | refine jb ?_ | refine jo ?_ | refine ji ?_ | refine jx rfl ?_ | refine And.intro (by first | assumption | omega | (intros; omega)) ?_ | ((first | refine jR KL13 (by kernel_rfl) fun _ => ?_ | skip); simp only [KS, Nat.reduceAdd, Nat.reduceMul, Nat.reduceEqDiff, ↓reduceIte, forall_const, Int.cast_ofNat_Int, Int.reduceToNat, TF13, KL13]; (try simp (disch := omega) only [wrapI, tmodI, tdivI]); (fail_if_success (with_reducible show False))))
        refine Run_ret ?_
        simp at h
        simp [Rets, RetM, resV, fnd, oneOr, MvRet, hd, h]
        exact ⟨y4, Sl.nil _, BufO.nil⟩
      · simp at h
        have hf := h
        (repeat first | with_reducible first | refine jq ?_ | refine jk ?_ | refine jc ?_ | refine jl ?_ | refine jb ?_ | refine jo ?_ | refine ji ?_ | refine jx rfl ?_ | refine And.intro (by first | assumption | omega | (intros; omega)) ?_ | ((first | refine jR KL13 (by kernel_rfl) fun _ => ?_ | skip); simp only [KS, Nat.reduceAdd, Nat.reduceMul, Nat.reduceEqDiff, ↓reduceIte, forall_const, Int.cast_ofNat_Int, Int.reduceToNat, TF13, KL13, g4]; (try simp (disch := omega) only [wrapI, tmodI, tdivI]); (fail_if_success (with_reducible show False))))
        refine Run_condS (fun _ => rfl) (fun h => ?_) (fun h => ?_)
        · (repeat first | with_reducible first | refine jq ?_ | refine jk ?_ | refine jc ?_ | refine jl ?_ | refine jb ?_ | refine jo ?_ | refine ji ?_ | refine jx rfl ?_ | refine And.intro (by first | assumption | omega | (intros; omega)) ?_ | ((first | refine jR KL13 (by kernel_rfl) fun _ => ?_ | skip); simp only [KS, Nat.reduceAdd, Nat.reduceMul, Nat.reduceEqDiff, ↓reduceIte, forall_const, Int.cast_ofNat_Int, Int.reduceToNat, TF13, KL13]; (try simp (disch := omega) only [wrapI, tmodI, tdivI]); (fail_if_success (with_reducible show False))))
          refine Run_ret ?_
          simp at h
          simp [Rets, RetM, resV, fnd, oneOr, MvRet, hd, h, hf]
          exact ⟨y4, Sl.nil _, BufO.nil⟩
        · simp at h
          have hfm := hf
          unfold Bd.formed at hfm
          rw [Bool.and_eq_true] at hfm
          have hof := offs_take.1 hfm.1
          have hw : x.Office < l.length := by
            have := hfm.2
            split at this
            · have := of_decide_eq_true this; omega
            · have := of_decide_eq_true this; omega
          obtain ⟨f1, f2, f3⟩ := (hx.ext y4).get (show x.Office.toNat < l.length by omega)
          have ho := (hof x.Office.toNat (by omega)).1
          have hg : l.getD x.Office.toNat 0 = l[x.Office.toNat] := by simp [List.getD_eq_getElem?_getD, show x.Office.toNat < l.length by omega]
          rw [hg, if_pos hf, if_neg (by omega)] at hd
          generalize l[x.Office.toNat]'(by omega) = o at *
          (repeat first | with_reducible first | refine jq ?_ | refine jk ?_ | refine jc ?_ | refine jl ?_ | refine jb ?_ | refine jo ?_ | refine ji ?_ | refine jx rfl ?_ | refine And.intro (by first | assumption | omega | (intros; omega)) ?_ | ((first | refine jR KL13 (by kernel_rfl) fun _ => ?_ | skip); simp only [KS, Nat.reduceAdd, Nat.reduceMul, Nat.reduceEqDiff, ↓reduceIte, forall_const, Int.cast_ofNat_Int, Int.reduceToNat, TF13, KL13, g4, hx.s, hx.len, f1, f2]; (try simp (disch := omega) only [wrapI, tmodI, tdivI]); (fail_if_success (with_reducible show False))))
          refine SemW_var ti3 rfl rfl (by decide) rfl fun po w5 h5 => ?_
          (repeat first | with_reducible first | refine jq ?_ | refine jk ?_ | refine jc ?_ | refine jl ?_ | refine jb ?_ | refine jo ?_ | refine ji ?_ | refine jx rfl ?_ | refine And.intro (by first | assumption | omega | (intros; omega)) ?_ | ((first | refine jR KL13 (by kernel_rfl) fun _ => ?_ | skip); simp only [KS, Nat.reduceAdd, Nat.reduceMul, Nat.reduceEqDiff, ↓reduceIte, forall_const, Int.cast_ofNat_Int, Int.reduceToNat, TF13, KL13]; (try simp (disch := omega) only [wrapI, tmodI, tdivI]); (fail_if_success (with_reducible show False))))
          have hI : I64 (min p b) := by unfold I64 at *; omega
          refine SemW_buildF (α := Int) (W := w5) Try.underlying22 ti3 rfl (by decide) (Ext.refl _) [_] [min p b] rfl rfl (Cs.one ⟨rfl, hI⟩) (by simp [Enc.n]) fun pp w6 b6 s6 x6 => ?_
          (repeat first | with_reducible first | refine jq ?_ | refine jk ?_ | refine jc ?_ | refine jl ?_ | refine jb ?_ | refine jo ?_ | refine ji ?_ | refine jx rfl ?_ | refine And.intro (by first | assumption | omega | (intros; omega)) ?_ | ((first | refine jR KL13 (by kernel_rfl) fun _ => ?_ | skip); simp only [KS, Nat.reduceAdd, Nat.reduceMul, Nat.reduceEqDiff, ↓reduceIte, forall_const, Int.cast_ofNat_Int, Int.reduceToNat, TF13, KL13]; (try simp (disch := omega) only [wrapI, tmodI, tdivI]); (fail_if_success (with_reducible show False))))
          refine allW rfl fun pq w7 x7 r7 => ?_
          (repeat first | with_reducible first | refine jq ?_ | refine jk ?_ | refine jc ?_ | refine jl ?_ | refine jb ?_ | refine jo ?_ | refine ji ?_ | refine jx rfl ?_ | refine And.intro (by first | assumption | omega | (intros; omega)) ?_ | ((first | refine jR KL13 (by kernel_rfl) fun _ => ?_ | skip); simp only [KS, Nat.reduceAdd, Nat.reduceMul, Nat.reduceEqDiff, ↓reduceIte, forall_const, Int.cast_ofNat_Int, Int.reduceToNat, TF13, KL13]; (try simp (disch := omega) only [wrapI, tmodI, tdivI]); (fail_if_success (with_reducible show False))))
          have x57 := x6.trans x7
          refine numW (F := Bd.payM o s) (s6.ext x7) r7 (fun k hk w8 x8 => ?_) (fun k hk => ?_) (by simp) rfl rfl fun v' w8 x8 s8 => ?_
          · exact CallW_cap (cap := [.pointer (some po), .pointer (some ps)]) call25 (bdPay1 _ _ o s po ps w8 (h5.at_.ext (x57.trans x8)) (h1.at_.ext (x2.trans (x3.trans (x4.trans (h5.ext.trans (x57.trans x8)))))) (by omega) (by omega) (by omega) (by omega)) fun w9 x9 => ⟨rfl, x9⟩
          · simp at hk
            subst hk
            simp [MI, Bd.payM, I64]; unfold I64 at hI; omega
          (repeat first | with_reducible first | refine jq ?_ | refine jk ?_ | refine jc ?_ | refine jl ?_ | refine jb ?_ | refine jo ?_ | refine ji ?_ | refine jx rfl ?_ | refine And.intro (by first | assumption | omega | (intros; omega)) ?_ | ((first | refine jR KL13 (by kernel_rfl) fun _ => ?_ | skip); simp only [KS, Nat.reduceAdd, Nat.reduceMul, Nat.reduceEqDiff, ↓reduceIte, forall_const, Int.cast_ofNat_Int, Int.reduceToNat, TF13, KL13]; (try simp (disch := omega) only [wrapI, tmodI, tdivI]); (fail_if_success (with_reducible show False))))
          refine Run_ret ?_
          simp [Rets, RetM, resV, fnd, oneOr, MvRet, hd]
          exact ⟨y4.trans (h5.ext.trans (x57.trans x8)), s8.sl (by simp [Bd.mk_len]), s8.mono (y4.trans (h5.ext.trans x57)).size⟩
  · have hc : (decide (s < 0) || decide (64 ≤ s)) = true := by simp; omega
    (repeat first | with_reducible first | refine jq ?_ | refine jk ?_ | refine jc ?_ | refine jl ?_ | refine jb ?_ | refine jo ?_ | refine ji ?_ | refine jx rfl ?_ | refine And.intro (by first | assumption | omega | (intros; omega)) ?_ | ((first | refine jR KL13 (by kernel_rfl) fun _ => ?_ | skip); simp only [KS, Nat.reduceAdd, Nat.reduceMul, Nat.reduceEqDiff, ↓reduceIte, forall_const, Int.cast_ofNat_Int, Int.reduceToNat, TF13, KL13, g0, g1, hc, false_or, or_false, false_imp_iff, true_imp_iff, not_true_eq_false, not_false_eq_true, Bool.true_or, Bool.false_or, Bool.or_true, Bool.or_false, Bool.true_and, Bool.false_and, Bool.and_true, Bool.and_false]; (try simp (disch := omega) only [wrapI, tmodI, tdivI]); (fail_if_success (with_reducible show False))))
    unfold hush
    (repeat first | with_reducible first | refine jq ?_ | refine jk ?_ | refine jc ?_ | refine jl ?_ | refine jb ?_ | refine jo ?_ | refine ji ?_ | refine jx rfl ?_ | refine And.intro (by first | assumption | omega | (intros; omega)) ?_ | ((first | refine jR KL13 (by kernel_rfl) fun _ => ?_ | skip); simp only [KS, Nat.reduceAdd, Nat.reduceMul, Nat.reduceEqDiff, ↓reduceIte, forall_const, Int.cast_ofNat_Int, Int.reduceToNat, TF13, KL13, hc, g1, g0, false_or, or_false, false_imp_iff, true_imp_iff, not_true_eq_false, not_false_eq_true, Bool.true_or, Bool.false_or, Bool.or_true, Bool.or_false, Bool.true_and, Bool.false_and, Bool.and_true, Bool.and_false]; (try simp (disch := omega) only [wrapI, tmodI, tdivI]); (fail_if_success (with_reducible show False))))
    refine .inl ?_
    unfold hush
    (repeat first | with_reducible first | refine jq ?_ | refine jk ?_ | refine jc ?_ | refine jl ?_ | refine jb ?_ | refine jo ?_ | refine ji ?_ | refine jx rfl ?_ | refine And.intro (by first | assumption | omega | (intros; omega)) ?_ | ((first | refine jR KL13 (by kernel_rfl) fun _ => ?_ | skip); simp only [KS, Nat.reduceAdd, Nat.reduceMul, Nat.reduceEqDiff, ↓reduceIte, forall_const, Int.cast_ofNat_Int, Int.reduceToNat, TF13, KL13, hc, g1, g0, false_or, or_false, false_imp_iff, true_imp_iff, not_true_eq_false, not_false_eq_true, Bool.true_or, Bool.false_or, Bool.or_true, Bool.or_false, Bool.true_and, Bool.false_and, Bool.and_true, Bool.and_false]; (try simp (disch := omega) only [wrapI, tmodI, tdivI]); (fail_if_success (with_reducible show False))))
    refine Run_condS (fun _ => rfl) (fun _ => ?_) (fun h => by cases h)
    (repeat first | with_reducible first | refine jq ?_ | refine jk ?_ | refine jc ?_ | refine jl ?_ | refine jb ?_ | refine jo ?_ | refine ji ?_ | refine jx rfl ?_ | refine And.intro (by first | assumption | omega | (intros; omega)) ?_ | ((first | refine jR KL13 (by kernel_rfl) fun _ => ?_ | skip); simp only [KS, Nat.reduceAdd, Nat.reduceMul, Nat.reduceEqDiff, ↓reduceIte, forall_const, Int.cast_ofNat_Int, Int.reduceToNat, TF13, KL13]; (try simp (disch := omega) only [wrapI, tmodI, tdivI]); (fail_if_success (with_reducible show False))))
    refine Run_ret ?_
    have : Bd.pay l x s p b = ([], 1) := by
      unfold Bd.pay; rw [if_neg]; omega
    simp [Rets, RetM, resV, fnd, oneOr, MvRet, this]
    exact ⟨x1, Sl.nil _, BufO.nil⟩
end Go.Proofs.Ytpkopdhdnnkemaa
