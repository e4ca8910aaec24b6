/- Books (chapter 38), for other seats: open, paid, the function that yields balances. -/
import Derived.Test.YtcncbmdkifdggaaB38b
namespace Go.Proofs.Ytcncbmdkifdggaa
open Go Go.Fk
set_option linter.unusedSimpArgs false
set_option linter.unusedVariables false
set_option maxRecDepth 100000

theorem idxInt (vs fv : Value) (xs : List Int) (p : Nat → Bool) (w : World) (hs : Sl w vs xs) (hp : ∀ k (hk : k < xs.length), Pred Try.prog fv [.int .i64 xs[k]] w (p k)) :
    Calls Try.prog 80 #[vs, fv] w fun e w' => ∃ r, e = .returned (.int .i64 r) ∧ Ext w w' ∧ decide (0 ≤ r) = anyN xs.length p := by
  have hn := hs.small
  refine Calls_of_Run (args := [vs, fv]) (n := 19) (rs := [.tmp 4]) Try.func80 rfl rfl rfl (by simp) ?_
  (repeat first | with_reducible first | refine jq ?_ | refine jk ?_ | refine jc ?_ | refine jl ?_ | refine jb ?_ | refine jo ?_ | refine ji ?_ | refine jx rfl ?_ | refine And.intro (by first | assumption | omega | (intros; omega)) ?_ | ((first | refine jR KL80 (by kernel_rfl) fun _ => ?_ | skip); simp only [KS, Nat.reduceAdd, Nat.reduceMul, Nat.reduceEqDiff, ↓reduceIte, forall_const, Int.cast_ofNat_Int, Int.reduceToNat, TF80, KL80, hs.s, hs.len]; (try simp (disch := omega) only [wrapI, tmodI, tdivI]); (fail_if_success (with_reducible show False))))
  refine Run_loopV [4, 5, 8, 9, 16] (σ := Nat) (fun k => [(8, some (.int .i64 k))]) (fun k w' => k ≤ xs.length ∧ (∀ j, j < k → p j = false) ∧ Ext w w') (fun k => xs.length - k) 0 (by simp [SubB, fnd]) ⟨by omega, by simp, Ext.refl _⟩ ?_
  rintro k w1 ⟨hk, hf, x1⟩
  (repeat first | with_reducible first | refine jq ?_ | refine jk ?_ | refine jc ?_ | refine jl ?_ | refine jb ?_ | refine jo ?_ | refine ji ?_ | refine jx rfl ?_ | refine And.intro (by first | assumption | omega | (intros; omega)) ?_ | ((first | refine jR KL80 (by kernel_rfl) fun _ => ?_ | skip); simp only [KS, Nat.reduceAdd, Nat.reduceMul, Nat.reduceEqDiff, ↓reduceIte, forall_const, Int.cast_ofNat_Int, Int.reduceToNat, TF80, KL80]; (try simp (disch := omega) only [wrapI, tmodI, tdivI]); (fail_if_success (with_reducible show False))))
  refine Run_condS (fun _ => rfl) (fun h => ?_) (fun h => ?_)
  · simp at h
    obtain ⟨f1, f2, f3⟩ := (hs.ext x1).get h
    (repeat first | with_reducible first | refine jq ?_ | refine jk ?_ | refine jc ?_ | refine jl ?_ | refine jb ?_ | refine jo ?_ | refine ji ?_ | refine jx rfl ?_ | refine And.intro (by first | assumption | omega | (intros; omega)) ?_ | ((first | refine jR KL80 (by kernel_rfl) fun _ => ?_ | skip); simp only [KS, Nat.reduceAdd, Nat.reduceMul, Nat.reduceEqDiff, ↓reduceIte, forall_const, Int.cast_ofNat_Int, Int.reduceToNat, TF80, KL80, hs.s, hs.len, f1, f2]; (try simp (disch := omega) only [wrapI, tmodI, tdivI]); (fail_if_success (with_reducible show False))))
    refine (hp k h w1 x1).mono fun v w2 ⟨hv, x2⟩ => ?_
    subst hv
    (repeat first | with_reducible first | refine jq ?_ | refine jk ?_ | refine jc ?_ | refine jl ?_ | refine jb ?_ | refine jo ?_ | refine ji ?_ | refine jx rfl ?_ | refine And.intro (by first | assumption | omega | (intros; omega)) ?_ | ((first | refine jR KL80 (by kernel_rfl) fun _ => ?_ | skip); simp only [KS, Nat.reduceAdd, Nat.reduceMul, Nat.reduceEqDiff, ↓reduceIte, forall_const, Int.cast_ofNat_Int, Int.reduceToNat, TF80, KL80]; (try simp (disch := omega) only [wrapI, tmodI, tdivI]); (fail_if_success (with_reducible show False))))
    refine Run_condS (fun _ => rfl) (fun h => ?_) (fun h => ?_)
    · (repeat first | with_reducible first | refine jq ?_ | refine jk ?_ | refine jc ?_ | refine jl ?_ | refine jb ?_ | refine jo ?_ | refine ji ?_ | refine jx rfl ?_ | refine And.intro (by first | assumption | omega | (intros; omega)) ?_ | ((first | refine jR KL80 (by kernel_rfl) fun _ => ?_ | skip); simp only [KS, Nat.reduceAdd, Nat.reduceMul, Nat.reduceEqDiff, ↓reduceIte, forall_const, Int.cast_ofNat_Int, Int.reduceToNat, TF80, KL80]; (try simp (disch := omega) only [wrapI, tmodI, tdivI]); (fail_if_success (with_reducible show False))))
      refine Run_ret ?_
      simp [Rets, RetM, resV, fnd, oneOr, anyN_true (by assumption) (by assumption : p k = true)]
      exact x1.trans x2
    · (repeat first | with_reducible first | refine jq ?_ | refine jk ?_ | refine jc ?_ | refine jl ?_ | refine jb ?_ | refine jo ?_ | refine ji ?_ | refine jx rfl ?_ | refine And.intro (by first | assumption | omega | (intros; omega)) ?_ | ((first | refine jR KL80 (by kernel_rfl) fun _ => ?_ | skip); simp only [KS, Nat.reduceAdd, Nat.reduceMul, Nat.reduceEqDiff, ↓reduceIte, forall_const, Int.cast_ofNat_Int, Int.reduceToNat, TF80, KL80]; (try simp (disch := omega) only [wrapI, tmodI, tdivI]); (fail_if_success (with_reducible show False))))
      refine Run_lp ⟨k + 1, ?_, ⟨by omega, fun j hj => ?_, x1.trans x2⟩, by omega⟩
      · simp [SubB, fnd, strike, has]
      · by_cases e : j = k
        · subst e; assumption
        · exact hf j (by omega)
  · simp at h
    obtain rfl : k = xs.length := by omega
    (repeat first | with_reducible first | refine jq ?_ | refine jk ?_ | refine jc ?_ | refine jl ?_ | refine jb ?_ | refine jo ?_ | refine ji ?_ | refine jx rfl ?_ | refine And.intro (by first | assumption | omega | (intros; omega)) ?_ | ((first | refine jR KL80 (by kernel_rfl) fun _ => ?_ | skip); simp only [KS, Nat.reduceAdd, Nat.reduceMul, Nat.reduceEqDiff, ↓reduceIte, forall_const, Int.cast_ofNat_Int, Int.reduceToNat, TF80, KL80]; (try simp (disch := omega) only [wrapI, tmodI, tdivI]); (fail_if_success (with_reducible show False))))
    refine Run_ret ?_
    simp [Rets, RetM, resV, fnd, oneOr, anyN_false hf, x1]
theorem hasInt (vs fv : Value) (xs : List Int) (p : Nat → Bool) (w : World) (hs : Sl w vs xs) (hp : ∀ k (hk : k < xs.length), Pred Try.prog fv [.int .i64 xs[k]] w (p k)) :
    Calls Try.prog 55 #[vs, fv] w fun e w' => e = .returned (.bool (anyN xs.length p)) ∧ Ext w w' := by
  refine Calls_of_Run (args := [vs, fv]) (n := 9) (rs := [.tmp 4]) Try.func55 rfl rfl rfl (by simp) ?_
  (repeat first | with_reducible first | refine jq ?_ | refine jk ?_ | refine jc ?_ | refine jl ?_ | refine jb ?_ | refine jo ?_ | refine ji ?_ | refine jx rfl ?_ | refine And.intro (by first | assumption | omega | (intros; omega)) ?_ | ((first | refine jR KL55 (by kernel_rfl) fun _ => ?_ | skip); simp only [KS, Nat.reduceAdd, Nat.reduceMul, Nat.reduceEqDiff, ↓reduceIte, forall_const, Int.cast_ofNat_Int, Int.reduceToNat, TF55, KL55]; (try simp (disch := omega) only [wrapI, tmodI, tdivI]); (fail_if_success (with_reducible show False))))
  refine CallW_gen call80 (idxInt vs fv xs p w hs hp) fun e w1 ⟨r, he, x1, hr⟩ => ⟨_, he, ?_⟩
  (repeat first | with_reducible first | refine jq ?_ | refine jk ?_ | refine jc ?_ | refine jl ?_ | refine jb ?_ | refine jo ?_ | refine ji ?_ | refine jx rfl ?_ | refine And.intro (by first | assumption | omega | (intros; omega)) ?_ | ((first | refine jR KL55 (by kernel_rfl) fun _ => ?_ | skip); simp only [KS, Nat.reduceAdd, Nat.reduceMul, Nat.reduceEqDiff, ↓reduceIte, forall_const, Int.cast_ofNat_Int, Int.reduceToNat, TF55, KL55]; (try simp (disch := omega) only [wrapI, tmodI, tdivI]); (fail_if_success (with_reducible show False))))
  refine Run_ret ?_
  simp [Rets, RetM, resV, fnd, oneOr, x1]
  simpa using hr
theorem anyN_list {xs : List Int} {q : Int → Bool} {p : Nat → Bool} (h : ∀ k (hk : k < xs.length), p k = q xs[k]) : anyN xs.length p = xs.any q := by
  rw [Bool.eq_iff_iff]
  simp only [anyN, List.any_eq_true, List.mem_range]
  constructor
  · rintro ⟨k, hk, hp⟩; exact ⟨xs[k], List.getElem_mem hk, by rw [← h k hk]; exact hp⟩
  · rintro ⟨x, hx, hq⟩
    obtain ⟨k, hk, rfl⟩ := List.getElem_of_mem hx
    exact ⟨k, hk, by rw [h k hk]; exact hq⟩
theorem bkOpen1 (n : Int) (w : World) : Calls Try.prog 64 #[.int .i64 n] w fun e w' => e = .returned (.bool (!decide (0 ≤ n ∧ n ≤ 1125899906842624))) ∧ Ext w w' := by
  refine Calls_of_Run (args := [.int .i64 n]) (n := 6) (rs := [.tmp 2]) Try.func64 rfl rfl rfl (by simp) ?_
  (repeat first | with_reducible first | refine jq ?_ | refine jk ?_ | refine jc ?_ | refine jl ?_ | refine jb ?_ | refine jo ?_ | refine ji ?_ | refine jx rfl ?_ | refine And.intro (by first | assumption | omega | (intros; omega)) ?_ | ((first | refine jR KL64 (by kernel_rfl) fun _ => ?_ | skip); simp only [KS, Nat.reduceAdd, Nat.reduceMul, Nat.reduceEqDiff, ↓reduceIte, forall_const, Int.cast_ofNat_Int, Int.reduceToNat, TF64, KL64]; (try simp (disch := omega) only [wrapI, tmodI, tdivI]); (fail_if_success (with_reducible show False))))
  refine CallW_pure call65 (bkBetween _ _ _ w) fun w1 x1 => ?_
  (repeat first | with_reducible first | refine jq ?_ | refine jk ?_ | refine jc ?_ | refine jl ?_ | refine jb ?_ | refine jo ?_ | refine ji ?_ | refine jx rfl ?_ | refine And.intro (by first | assumption | omega | (intros; omega)) ?_ | ((first | refine jR KL64 (by kernel_rfl) fun _ => ?_ | skip); simp only [KS, Nat.reduceAdd, Nat.reduceMul, Nat.reduceEqDiff, ↓reduceIte, forall_const, Int.cast_ofNat_Int, Int.reduceToNat, TF64, KL64]; (try simp (disch := omega) only [wrapI, tmodI, tdivI]); (fail_if_success (with_reducible show False))))
  refine Run_ret ?_
  simp [Rets, RetM, resV, fnd, oneOr, x1]

def zeros : List Int := List.replicate 115 0
theorem c45 : Try.prog.cellsOf 71 ≠ 0 := by rw [cells71]; decide
theorem m45 : manyCell Try.prog 71 = true := by kernel_rfl
theorem one_ints (l : List Int) : (ints l).all Value.oneCell' = true := by
  induction l with
  | nil => rfl
  | cons x l ih => simp [Value.oneCell']
theorem bkOpen (va vb : Value) (s : List Int) (l : List MoveD) (w : World) (hx : Sl w va s) (hy : Sl w vb l) :
    Calls Try.prog 33 #[va, vb] w fun e w' => ∃ b : List Int, e = .returned (.tuple #[.agg (ints b).toArray, .int .i64 (Bk.wrong s l)]) ∧ b.length = 115 ∧ (Bk.wrong s l = 0 → b = s) ∧ Ext w w' := by
  refine Calls_of_Run (args := [va, vb]) (n := 27) (rs := [.cell 4 71, .tmp 5]) Try.func33 rfl rfl rfl (by simp) ?_
  (repeat first | with_reducible first | refine jq ?_ | refine jk ?_ | refine jc ?_ | refine jl ?_ | refine jb ?_ | refine jo ?_ | refine ji ?_ | refine jx rfl ?_ | refine And.intro (by first | assumption | omega | (intros; omega)) ?_ | ((first | refine jR KL33 (by kernel_rfl) fun _ => ?_ | skip); simp only [KS, Nat.reduceAdd, Nat.reduceMul, Nat.reduceEqDiff, ↓reduceIte, forall_const, Int.cast_ofNat_Int, Int.reduceToNat, TF33, KL33]; (try simp (disch := omega) only [wrapI, tmodI, tdivI]); (fail_if_success (with_reducible show False))))
  refine SemW_allocT ti71 fun p w1 hN => ?_
  have r1 : Row w1 p 71 (ints zeros) := by
    have := hN.row
    simpa [zeros, Value.cells] using this
  have x1 := hN.ext
  have b1 := hN.blk
  (repeat first | with_reducible first | refine jq ?_ | refine jk ?_ | refine jc ?_ | refine jl ?_ | refine jb ?_ | refine jo ?_ | refine ji ?_ | refine jx rfl ?_ | refine And.intro (by first | assumption | omega | (intros; omega)) ?_ | ((first | refine jR KL33 (by kernel_rfl) fun _ => ?_ | skip); simp only [KS, Nat.reduceAdd, Nat.reduceMul, Nat.reduceEqDiff, ↓reduceIte, forall_const, Int.cast_ofNat_Int, Int.reduceToNat, TF33, KL33]; (try simp (disch := omega) only [wrapI, tmodI, tdivI]); (fail_if_success (with_reducible show False))))
  refine CallW_pure call19 (bkCheck vb l w1 (hy.ext x1)) fun w2 x2 => ?_
  have r2 := r1.ext x2
  have y2 := x1.trans x2
  have hz : zeros.length = 115 := by simp [zeros]
  obtain ⟨g1, g2⟩ := at_memA r2.at_ (n := 115) (by simpa using hz)
  (repeat first | with_reducible first | refine jq ?_ | refine jk ?_ | refine jc ?_ | refine jl ?_ | refine jb ?_ | refine jo ?_ | refine ji ?_ | refine jx rfl ?_ | refine And.intro (by first | assumption | omega | (intros; omega)) ?_ | ((first | refine jR KL33 (by kernel_rfl) fun _ => ?_ | skip); simp only [KS, Nat.reduceAdd, Nat.reduceMul, Nat.reduceEqDiff, ↓reduceIte, forall_const, Int.cast_ofNat_Int, Int.reduceToNat, TF33, KL33]; (try simp (disch := omega) only [wrapI, tmodI, tdivI]); (fail_if_success (with_reducible show False))))
  have fin : ∀ (e : Int) (w3 : World) (b : List Int), e = Bk.wrong s l → b.length = 115 → (e = 0 → b = s) → Ext w w3 → Row w3 p 71 (ints b) →
      ∀ L ds, fnd L 4 = some (.pointer (some p)) → fnd L 5 = some (.int .i64 e) → ds = [] → Rets Try.prog [.cell 4 71, .tmp 5] (fun v w' => ∃ b : List Int, Ending.returned v = .returned (.tuple #[.agg (ints b).toArray, .int .i64 (Bk.wrong s l)]) ∧ b.length = 115 ∧ (Bk.wrong s l = 0 → b = s) ∧ Ext w w') .ret ds L w3 := by
    rintro e w3 b rfl h1 h2 x3 r3 L ds hL1 hL2 rfl
    simp only [Rets, RetM, resV]
    exact ⟨p, _, hL1, loadVar_at m45 c45 (by rw [cells71, ints_len, h1]) r3.at_, _, hL2, b, rfl, h1, h2, x3⟩
  refine Run_condS (fun _ => rfl) (fun h => ?_) (fun h => ?_)
  · simp at h
    (repeat first | with_reducible first | refine jq ?_ | refine jk ?_ | refine jc ?_ | refine jl ?_ | refine jb ?_ | refine jo ?_ | refine ji ?_ | refine jx rfl ?_ | refine And.intro (by first | assumption | omega | (intros; omega)) ?_ | ((first | refine jR KL33 (by kernel_rfl) fun _ => ?_ | skip); simp only [KS, Nat.reduceAdd, Nat.reduceMul, Nat.reduceEqDiff, ↓reduceIte, forall_const, Int.cast_ofNat_Int, Int.reduceToNat, TF33, KL33, g1, g2]; (try simp (disch := omega) only [wrapI, tmodI, tdivI]); (fail_if_success (with_reducible show False))))
    refine SemW_setW c45 (by simp [Value.cells, hz, cells71]) r2 (by simp [hz, cells71]) (by simpa [Value.cells] using one_ints zeros) fun w3 r3 k3 s3 => ?_
    (repeat first | with_reducible first | refine jq ?_ | refine jk ?_ | refine jc ?_ | refine jl ?_ | refine jb ?_ | refine jo ?_ | refine ji ?_ | refine jx rfl ?_ | refine And.intro (by first | assumption | omega | (intros; omega)) ?_ | ((first | refine jR KL33 (by kernel_rfl) fun _ => ?_ | skip); simp only [KS, Nat.reduceAdd, Nat.reduceMul, Nat.reduceEqDiff, ↓reduceIte, forall_const, Int.cast_ofNat_Int, Int.reduceToNat, TF33, KL33]; (try simp (disch := omega) only [wrapI, tmodI, tdivI]); (fail_if_success (with_reducible show False))))
    refine Run_ret (fin (Bk.chk l) w3 zeros (by unfold Bk.wrong; rw [if_pos h]) hz (fun e => (h e).elim) (Keep.ext y2 k3 fun k hk => by omega) (by simpa [Value.cells] using r3) _ [] rfl rfl rfl)
  · simp at h
    (repeat first | with_reducible first | refine jq ?_ | refine jk ?_ | refine jc ?_ | refine jl ?_ | refine jb ?_ | refine jo ?_ | refine ji ?_ | refine jx rfl ?_ | refine And.intro (by first | assumption | omega | (intros; omega)) ?_ | ((first | refine jR KL33 (by kernel_rfl) fun _ => ?_ | skip); simp only [KS, Nat.reduceAdd, Nat.reduceMul, Nat.reduceEqDiff, ↓reduceIte, forall_const, Int.cast_ofNat_Int, Int.reduceToNat, TF33, KL33, hx.s, hx.len]; (try simp (disch := omega) only [wrapI, tmodI, tdivI]); (fail_if_success (with_reducible show False))))
    refine .inr ⟨.bool (s.any fun n => !decide (0 ≤ n ∧ n ≤ 1125899906842624)), fun _ => PC_pure call55 fun w3 x3 => ?_, fun w3 x3 => ?_⟩
    · have := hasInt va (fnv 64) s (fun k => !decide (0 ≤ s.getD k 0 ∧ s.getD k 0 ≤ 1125899906842624)) w3 (hx.ext (y2.trans x3)) fun k hk => by
        have e : s.getD k 0 = s[k] := by simp [List.getD_eq_getElem?_getD, hk]
        rw [e]
        exact Pred_fn call64 (bkOpen1 s[k])
      rwa [anyN_list (q := fun n => !decide (0 ≤ n ∧ n ≤ 1125899906842624)) fun k hk => by simp [List.getD_eq_getElem?_getD, hk]] at this
    unfold hush
    have r3 := r2.ext x3
    have y3 := y2.trans x3
    obtain ⟨g3, g4⟩ := at_memA r3.at_ (n := 115) (by simpa using hz)
    (repeat first | with_reducible first | refine jq ?_ | refine jk ?_ | refine jc ?_ | refine jl ?_ | refine jb ?_ | refine jo ?_ | refine ji ?_ | refine jx rfl ?_ | refine And.intro (by first | assumption | omega | (intros; omega)) ?_ | ((first | refine jR KL33 (by kernel_rfl) fun _ => ?_ | skip); simp only [KS, Nat.reduceAdd, Nat.reduceMul, Nat.reduceEqDiff, ↓reduceIte, forall_const, Int.cast_ofNat_Int, Int.reduceToNat, TF33, KL33, hx.s, hx.len]; (try simp (disch := omega) only [wrapI, tmodI, tdivI]); (fail_if_success (with_reducible show False))))
    have hst : Bk.startOk s = !(decide ((s.length : Int) ≠ 115) || s.any fun n => !decide (0 ≤ n ∧ n ≤ 1125899906842624)) := by
      rw [Bool.eq_iff_iff]
      simp [Bk.startOk]
      omega
    refine Run_condS (fun _ => rfl) (fun h => ?_) (fun h => ?_)
    · (repeat first | with_reducible first | refine jq ?_ | refine jk ?_ | refine jc ?_ | refine jl ?_ | refine jb ?_ | refine jo ?_ | refine ji ?_ | refine jx rfl ?_ | refine And.intro (by first | assumption | omega | (intros; omega)) ?_ | ((first | refine jR KL33 (by kernel_rfl) fun _ => ?_ | skip); simp only [KS, Nat.reduceAdd, Nat.reduceMul, Nat.reduceEqDiff, ↓reduceIte, forall_const, Int.cast_ofNat_Int, Int.reduceToNat, TF33, KL33, g3, g4]; (try simp (disch := omega) only [wrapI, tmodI, tdivI]); (fail_if_success (with_reducible show False))))
      refine SemW_setW c45 (by simp [Value.cells, hz, cells71]) r3 (by simp [hz, cells71]) (by simpa [Value.cells] using one_ints zeros) fun w4 r4 k4 s4 => ?_
      (repeat first | with_reducible first | refine jq ?_ | refine jk ?_ | refine jc ?_ | refine jl ?_ | refine jb ?_ | refine jo ?_ | refine ji ?_ | refine jx rfl ?_ | refine And.intro (by first | assumption | omega | (intros; omega)) ?_ | ((first | refine jR KL33 (by kernel_rfl) fun _ => ?_ | skip); simp only [KS, Nat.reduceAdd, Nat.reduceMul, Nat.reduceEqDiff, ↓reduceIte, forall_const, Int.cast_ofNat_Int, Int.reduceToNat, TF33, KL33]; (try simp (disch := omega) only [wrapI, tmodI, tdivI]); (fail_if_success (with_reducible show False))))
      have hf : Bk.startOk s = false := by
        rw [hst]; simp at h ⊢; intro e
        rcases h with h | h
        · exact (h e).elim
        · exact h
      refine Run_ret (fin 1 w4 zeros (by unfold Bk.wrong; rw [if_neg (by omega), hf]; rfl) hz (fun e => by cases e) (Keep.ext y3 k4 fun k hk => by omega) (by simpa [Value.cells] using r4) _ [] rfl rfl rfl)
    · have hf : Bk.startOk s = true := by rw [hst]; simp at h ⊢; exact h
      have h115 : s.length = 115 := by simp only [Bk.startOk, Bool.and_eq_true, decide_eq_true_eq] at hf; exact hf.1
      have hat : At w3 (slAt va) (ints s) := by
        obtain ⟨css, hc, ha⟩ := (hx.ext y3).cells
        have : ∀ (css : List (List Value)) (s : List Int), Cs w3 css s → css.flatten = ints s := by
          intro css
          induction css with
          | nil => intro s hc; have := hc.len; simp at this; have := List.eq_nil_of_length_eq_zero this.symm; subst this; rfl
          | cons c css ih =>
            intro s hc
            cases s with
            | nil => have := hc.len; simp at this
            | cons x s =>
              have h0 := hc.rep 0 (by simp) (by simp)
              simp only [List.getElem_cons_zero] at h0
              rw [List.flatten_cons, h0.1, ih s hc.tail]; rfl
        rwa [this css s hc] at ha
      (repeat first | with_reducible first | refine jq ?_ | refine jk ?_ | refine jc ?_ | refine jl ?_ | refine jb ?_ | refine jo ?_ | refine ji ?_ | refine jx rfl ?_ | refine And.intro (by first | assumption | omega | (intros; omega)) ?_ | ((first | refine jR KL33 (by kernel_rfl) fun _ => ?_ | skip); simp only [KS, Nat.reduceAdd, Nat.reduceMul, Nat.reduceEqDiff, ↓reduceIte, forall_const, Int.cast_ofNat_Int, Int.reduceToNat, TF33, KL33]; (try simp (disch := omega) only [wrapI, tmodI, tdivI]); (fail_if_success (with_reducible show False))))
      refine SemW_copyW (n := 115) (cs := ints s) (vs := ints zeros) Try.underlying25 ti3 r3 hx.s (by rw [hx.len, h115]) (by simp [hz]) (fun _ => hat) (by simp [h115]) (one_ints s) fun v w4 r4 k4 s4 => ?_
      obtain ⟨g5, g6⟩ := at_memA r4.at_ (n := 115) (by simpa using h115)
      (repeat first | with_reducible first | refine jq ?_ | refine jk ?_ | refine jc ?_ | refine jl ?_ | refine jb ?_ | refine jo ?_ | refine ji ?_ | refine jx rfl ?_ | refine And.intro (by first | assumption | omega | (intros; omega)) ?_ | ((first | refine jR KL33 (by kernel_rfl) fun _ => ?_ | skip); simp only [KS, Nat.reduceAdd, Nat.reduceMul, Nat.reduceEqDiff, ↓reduceIte, forall_const, Int.cast_ofNat_Int, Int.reduceToNat, TF33, KL33, g5, g6]; (try simp (disch := omega) only [wrapI, tmodI, tdivI]); (fail_if_success (with_reducible show False))))
      refine SemW_setW c45 (by simp [Value.cells, h115, cells71]) r4 (by simp [h115, cells71]) (by simpa [Value.cells] using one_ints s) fun w5 r5 k5 s5 => ?_
      (repeat first | with_reducible first | refine jq ?_ | refine jk ?_ | refine jc ?_ | refine jl ?_ | refine jb ?_ | refine jo ?_ | refine ji ?_ | refine jx rfl ?_ | refine And.intro (by first | assumption | omega | (intros; omega)) ?_ | ((first | refine jR KL33 (by kernel_rfl) fun _ => ?_ | skip); simp only [KS, Nat.reduceAdd, Nat.reduceMul, Nat.reduceEqDiff, ↓reduceIte, forall_const, Int.cast_ofNat_Int, Int.reduceToNat, TF33, KL33]; (try simp (disch := omega) only [wrapI, tmodI, tdivI]); (fail_if_success (with_reducible show False))))
      refine Run_ret (fin 0 w5 s (by unfold Bk.wrong; rw [if_neg (by omega), hf]; rfl) h115 (fun _ => rfl) (Keep.ext (Keep.ext y3 k4 fun k hk => by omega) k5 fun k hk => by omega) (by simpa [Value.cells] using r5) _ [] rfl rfl rfl)
end Go.Proofs.Ytcncbmdkifdggaa
