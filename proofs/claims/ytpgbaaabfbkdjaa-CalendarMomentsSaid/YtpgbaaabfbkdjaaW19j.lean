/- Chapter 19: within; the examples. -/
import Derived.Test.YtpgbaaabfbkdjaaW19i
import Derived.Test.YtpgbaaabfbkdjaaW19b
namespace Go.Fk
/-- an increasing list within another, from the left -/
def Cal.within : List Int → List Int → Bool
  | [], _ => true
  | _ :: _, [] => false
  | x :: a, y :: b => if x = y then Cal.within a b else Cal.within (x :: a) b
end Go.Fk
namespace Go.Proofs.Ytpgbaaabfbkdjaa
open Go Go.Fk
set_option linter.unusedSimpArgs false
set_option linter.unusedVariables false
set_option maxRecDepth 100000

theorem within_nil (xs : List Int) : Cal.within [] xs = true := by cases xs <;> rfl
theorem within_step {xs ys : List Int} {i k : Nat} (hi : i < xs.length) (hk : k < ys.length) : Cal.within (xs.drop i) (ys.drop k) = if xs[i] = ys[k] then Cal.within (xs.drop (i + 1)) (ys.drop (k + 1)) else Cal.within (xs.drop i) (ys.drop (k + 1)) := by
  rw [List.drop_eq_getElem_cons hi, List.drop_eq_getElem_cons hk]; rfl

theorem lawWithin (va vb : Value) (xs ys : List Int) (w : World) (hx : Sl w va xs) (hy : Sl w vb ys) :
    Calls Try.prog 18 #[va, vb] w fun e w' => e = .returned (.bool (Cal.within xs ys)) ∧ Ext w w' := by
  have nx := hx.small
  have ny := hy.small
  refine Calls_of_Run (args := [va, vb]) (n := 34) (rs := [.tmp 4]) Try.func18 rfl rfl rfl (by simp) ?_
  (repeat first | with_reducible refine Run_seq ?_ | with_reducible refine Run_skip ?_ | with_reducible refine Run_scope ?_ | with_reducible refine Run_label ?_ | with_reducible refine Run_sc ?_ | with_reducible refine Run_block ?_ | with_reducible refine Run_blk ?_ | with_reducible refine Run_exit rfl ?_ | (refine Run_region (by kernel_rfl) fun _ => ?_; simp only [KS, Nat.reduceAdd, Nat.reduceMul, Nat.reduceEqDiff, ↓reduceIte, UT]) | (refine Run_drawn mixed (by kernel_rfl) (by kernel_rfl) fun _ => ?_; simp only [KS, Nat.reduceAdd, Nat.reduceMul, Nat.reduceEqDiff, ↓reduceIte, UT]) | refine And.intro (by first | assumption | omega | (intros; omega)) ?_)
  refine Run_loop (σ := Nat × Nat) (fun s => [(0, some va), (1, some vb), (5, some (.int .i64 s.1)), (6, some (.int .i64 s.2))]) (fun s w' => s.1 ≤ xs.length ∧ s.2 ≤ ys.length ∧ Cal.within xs ys = Cal.within (xs.drop s.1) (ys.drop s.2) ∧ Ext w w') (fun s => ys.length - s.2) (0, 0) (by simp [SubB, fnd]) ⟨by simp, by simp, by simp, Ext.refl w⟩ ?_
  rintro ⟨i, k⟩ w2 ⟨hi, hk, hd, hw2⟩
  simp only at hi hk hd
  (repeat first | with_reducible refine Run_seq ?_ | with_reducible refine Run_skip ?_ | with_reducible refine Run_scope ?_ | with_reducible refine Run_label ?_ | with_reducible refine Run_sc ?_ | with_reducible refine Run_block ?_ | with_reducible refine Run_blk ?_ | with_reducible refine Run_exit rfl ?_ | (refine Run_region (by kernel_rfl) fun _ => ?_; simp only [KS, Nat.reduceAdd, Nat.reduceMul, Nat.reduceEqDiff, ↓reduceIte, UT, hx.s, hx.len, hy.s, hy.len]) | (refine Run_drawn mixed (by kernel_rfl) (by kernel_rfl) fun _ => ?_; simp only [KS, Nat.reduceAdd, Nat.reduceMul, Nat.reduceEqDiff, ↓reduceIte, UT, hx.s, hx.len, hy.s, hy.len]) | refine And.intro (by first | assumption | omega | (intros; omega)) ?_)
  refine Run_cond (fun _ => rfl) (fun h2 => ?_) (fun h2 => ?_)
  · simp at h2
    obtain ⟨f1, f2, f3⟩ := (hx.ext hw2).get h2.2
    obtain ⟨g1, g2, g3⟩ := (hy.ext hw2).get h2.1
    rw [within_step h2.2 h2.1] at hd
    (repeat first | with_reducible refine Run_seq ?_ | with_reducible refine Run_skip ?_ | with_reducible refine Run_scope ?_ | with_reducible refine Run_label ?_ | with_reducible refine Run_sc ?_ | with_reducible refine Run_block ?_ | with_reducible refine Run_blk ?_ | with_reducible refine Run_exit rfl ?_ | (refine Run_region (by kernel_rfl) fun _ => ?_; simp only [KS, Nat.reduceAdd, Nat.reduceMul, Nat.reduceEqDiff, ↓reduceIte, UT, hx.s, hx.len, hy.s, hy.len, f1, f2, g1, g2]) | (refine Run_drawn mixed (by kernel_rfl) (by kernel_rfl) fun _ => ?_; simp only [KS, Nat.reduceAdd, Nat.reduceMul, Nat.reduceEqDiff, ↓reduceIte, UT, hx.s, hx.len, hy.s, hy.len, f1, f2, g1, g2]) | refine And.intro (by first | assumption | omega | (intros; omega)) ?_)
    intro w3 hw3
    (repeat first | with_reducible refine Run_seq ?_ | with_reducible refine Run_skip ?_ | with_reducible refine Run_scope ?_ | with_reducible refine Run_label ?_ | with_reducible refine Run_sc ?_ | with_reducible refine Run_block ?_ | with_reducible refine Run_blk ?_ | with_reducible refine Run_exit rfl ?_ | (refine Run_region (by kernel_rfl) fun _ => ?_; simp only [KS, Nat.reduceAdd, Nat.reduceMul, Nat.reduceEqDiff, ↓reduceIte, UT]) | (refine Run_drawn mixed (by kernel_rfl) (by kernel_rfl) fun _ => ?_; simp only [KS, Nat.reduceAdd, Nat.reduceMul, Nat.reduceEqDiff, ↓reduceIte, UT]) | refine And.intro (by first | assumption | omega | (intros; omega)) ?_)
    refine Run_cond (fun _ => rfl) (fun h3 => ?_) (fun h3 => ?_)
    · simp at h3
      rw [if_pos h3] at hd
      (repeat first | with_reducible refine Run_seq ?_ | with_reducible refine Run_skip ?_ | with_reducible refine Run_scope ?_ | with_reducible refine Run_label ?_ | with_reducible refine Run_sc ?_ | with_reducible refine Run_block ?_ | with_reducible refine Run_blk ?_ | with_reducible refine Run_exit rfl ?_ | (refine Run_region (by kernel_rfl) fun _ => ?_; simp only [KS, Nat.reduceAdd, Nat.reduceMul, Nat.reduceEqDiff, ↓reduceIte, UT]) | (refine Run_drawn mixed (by kernel_rfl) (by kernel_rfl) fun _ => ?_; simp only [KS, Nat.reduceAdd, Nat.reduceMul, Nat.reduceEqDiff, ↓reduceIte, UT]) | refine And.intro (by first | assumption | omega | (intros; omega)) ?_)
      refine Run_lp ⟨(i + 1, k + 1), ?_, ⟨by simp; omega, by simp; omega, hd, hw2.trans hw3⟩, by simp; omega⟩
      simp [SubB, fnd, wrap_in (x := (k : Int) + 1) (by omega) (by omega), wrap_in (x := (i : Int) + 1) (by omega) (by omega)]
    · simp at h3
      rw [if_neg h3] at hd
      (repeat first | with_reducible refine Run_seq ?_ | with_reducible refine Run_skip ?_ | with_reducible refine Run_scope ?_ | with_reducible refine Run_label ?_ | with_reducible refine Run_sc ?_ | with_reducible refine Run_block ?_ | with_reducible refine Run_blk ?_ | with_reducible refine Run_exit rfl ?_ | (refine Run_region (by kernel_rfl) fun _ => ?_; simp only [KS, Nat.reduceAdd, Nat.reduceMul, Nat.reduceEqDiff, ↓reduceIte, UT]) | (refine Run_drawn mixed (by kernel_rfl) (by kernel_rfl) fun _ => ?_; simp only [KS, Nat.reduceAdd, Nat.reduceMul, Nat.reduceEqDiff, ↓reduceIte, UT]) | refine And.intro (by first | assumption | omega | (intros; omega)) ?_)
      refine Run_lp ⟨(i, k + 1), ?_, ⟨by simp; omega, by simp; omega, hd, hw2.trans hw3⟩, by simp; omega⟩
      simp [SubB, fnd, wrap_in (x := (k : Int) + 1) (by omega) (by omega)]
  · simp at h2
    (repeat first | with_reducible refine Run_seq ?_ | with_reducible refine Run_skip ?_ | with_reducible refine Run_scope ?_ | with_reducible refine Run_label ?_ | with_reducible refine Run_sc ?_ | with_reducible refine Run_block ?_ | with_reducible refine Run_blk ?_ | with_reducible refine Run_exit rfl ?_ | (refine Run_region (by kernel_rfl) fun _ => ?_; simp only [KS, Nat.reduceAdd, Nat.reduceMul, Nat.reduceEqDiff, ↓reduceIte, UT, hx.s, hx.len]) | (refine Run_drawn mixed (by kernel_rfl) (by kernel_rfl) fun _ => ?_; simp only [KS, Nat.reduceAdd, Nat.reduceMul, Nat.reduceEqDiff, ↓reduceIte, UT, hx.s, hx.len]) | refine And.intro (by first | assumption | omega | (intros; omega)) ?_)
    refine Run_ret ?_
    have : Cal.within xs ys = decide ((i : Int) = (xs.length : Int)) := by
      rw [hd]
      by_cases c : i = xs.length
      · subst c; simp [within_nil]
      · have hk' : k = ys.length := by
          by_cases d : k < ys.length
          · have := h2 d; omega
          · omega
        subst hk'
        rw [decide_eq_false (show ¬ (i : Int) = (xs.length : Int) by omega)]
        rw [List.drop_length, List.drop_eq_getElem_cons (show i < xs.length by omega)]
        rfl
    simp [Rets, RetM, resV, fnd, oneOr, this, hw2]
    first | done | rfl | omega

/-! ### The examples, reckoned -/
abbrev exR : List Rule := [⟨5, 40, 10⟩]
abbrev exG : List Gap := [⟨15, 25⟩]
theorem ex1 : Cal.moments exR exG 0 100 = ([5, 25, 35], 0) := by kernel_rfl
theorem ex2 : Cal.next exR exG 6 = (25, true, 0) := by kernel_rfl
theorem ex3 : Cal.next exR [] 36 = (0, false, 0) := by
  have h : Cal.nxt exR [] 36 = 2097152 := by
    rw [Cal.nxt_skip (t := 2097152) (by omega) (by omega) fun x h1 h2 => ?_, Cal.nxt_end (by omega)]
    simp only [Cal.departs, Cal.ruleAt, exR, List.any_cons, List.any_nil, Bool.or_false, Bool.not_false, Bool.true_and]
    exact decide_eq_false (by omega)
  have hc : Cal.chk exR [] = 0 := by kernel_rfl
  unfold Cal.next
  rw [h, if_neg (by rw [hc]; simp), if_neg (by omega), if_neg (by omega)]
theorem ex4 : Cal.moments [] [] 0 100 = ([], 0) := by kernel_rfl
theorem ex5 : Cal.moments exR exG 5 4 = ([], 1) := by kernel_rfl
theorem ex6 : Cal.next exR exG (-1) = (0, false, 1) := by kernel_rfl
theorem ex7 : Cal.moments [⟨0, 2001, 1⟩] [] 0 2097152 = ([], 2) := by
  have hc : Cal.chk [⟨0, 2001, 1⟩] [] = 0 := by kernel_rfl
  have h1 : (Cal.deps [⟨0, 2001, 1⟩] [] 0 2001).length = 2001 := by kernel_rfl
  have h2 : Cal.deps [⟨0, 2001, 1⟩] [] 0 2097152 = Cal.deps [⟨0, 2001, 1⟩] [] 0 2001 ++ Cal.deps [⟨0, 2001, 1⟩] [] 2001 2097152 := Cal.deps_append (by omega) (by omega)
  unfold Cal.moments
  rw [if_neg (by rw [hc]; simp), if_neg (by omega), if_pos (by rw [h2, List.length_append, h1]; omega)]
theorem ex8 : Cal.chk [⟨0, 0, 1⟩] [] = 190 := by kernel_rfl
theorem ex9 : Cal.chk [] [⟨1, 2⟩, ⟨2, 3⟩] = 190 := by kernel_rfl
theorem ex10 : Cal.chk (List.replicate 17 ⟨0, 0, 0⟩) [] = 2 := by kernel_rfl
theorem ex11 : Cal.chk exR exG = 0 := by kernel_rfl

theorem momW {va vb : Value} {rules : List Rule} {off : List Gap} {a b : Int} {w : World} {xs : List Int} {e : Int} {K : Value → World → Prop} (h : Cal.moments rules off a b = (xs, e)) (hx : Sl w va rules) (hy : Sl w vb off)
    (hK : ∀ v w', Ext w w' → Sl w' v xs → K (.tuple #[v, .int .i64 e]) w') : CallW Try.prog (.func (.func 10) #[] #[]) [va, vb, .int .i64 a, .int .i64 b] w K :=
  CallW_gen call10 (calMoments va vb rules off a b w hx hy) fun e' w' ⟨v, he, hw, hs⟩ => ⟨_, he, by rw [h] at hs ⊢; exact hK v w' hw hs⟩
theorem nextW {va vb : Value} {rules : List Rule} {off : List Gap} {a : Int} {w : World} {m : Int} {b : Bool} {e : Int} {K : Value → World → Prop} (h : Cal.next rules off a = (m, b, e)) (hx : Sl w va rules) (hy : Sl w vb off)
    (hK : ∀ w', Ext w w' → K (.tuple #[.int .i64 m, .bool b, .int .i64 e]) w') : CallW Try.prog (.func (.func 15) #[] #[]) [va, vb, .int .i64 a] w K :=
  CallW_gen call15 (calNext va vb rules off a w hx hy) fun e' w' ⟨he, hw⟩ => ⟨_, he, by rw [h]; exact hK w' hw⟩

theorem chkW {va vb : Value} {rules : List Rule} {off : List Gap} {w : World} {e : Int} {K : Value → World → Prop} (h : Cal.chk rules off = e) (hx : Sl w va rules) (hy : Sl w vb off)
    (hK : ∀ w', Ext w w' → K (.int .i64 e) w') : CallW Try.prog (.func (.func 12) #[] #[]) [va, vb] w K :=
  CallW_pure call12 (calCheck va vb rules off w hx hy) fun w' hw => by rw [h]; exact hK w' hw

set_option maxHeartbeats 4000000 in
theorem lawSane (w : World) : Calls Try.prog 9 #[] w fun e w' => e = .returned (.bool true) ∧ Ext w w' := by
  refine Calls_of_Run (args := []) (n := 134) (rs := [.tmp 0]) Try.func9 rfl rfl rfl (by simp) ?_
  (repeat first | with_reducible refine Run_seq ?_ | with_reducible refine Run_skip ?_ | with_reducible refine Run_scope ?_ | with_reducible refine Run_label ?_ | with_reducible refine Run_sc ?_ | with_reducible refine Run_block ?_ | with_reducible refine Run_blk ?_ | with_reducible refine Run_exit rfl ?_ | (refine Run_region (by kernel_rfl) fun _ => ?_; simp only [KS, Nat.reduceAdd, Nat.reduceMul, Nat.reduceEqDiff, ↓reduceIte, UT]) | (refine Run_drawn mixed (by kernel_rfl) (by kernel_rfl) fun _ => ?_; simp only [KS, Nat.reduceAdd, Nat.reduceMul, Nat.reduceEqDiff, ↓reduceIte, UT]) | refine And.intro (by first | assumption | omega | (intros; omega)) ?_)
  refine ⟨.agg #[.int .i64 5, .int .i64 40, .int .i64 10], fun _ => by kernel_rfl, ?_⟩
  refine SemW_buildSlice (vs := [.agg #[.int .i64 5, .int .i64 40, .int .i64 10]]) Try.underlying22 ti40 rfl rfl rfl (by simp [Value.cells]) (by decide) fun pR w1 h1 => ?_
  have hR : Sl w1 (.slice (some pR) 1 1) exR := Sl.flat (xs := exR) h1 (fun i hi => by
    obtain rfl : i = 0 := by simp at hi; omega
    exact ⟨rfl, by simp [I64], by simp [I64], by simp [I64]⟩) (by decide)
  try simp only [KS, Nat.reduceAdd, Nat.reduceMul, Nat.reduceEqDiff, ↓reduceIte, UT]
  (repeat first | with_reducible refine Run_seq ?_ | with_reducible refine Run_skip ?_ | with_reducible refine Run_scope ?_ | with_reducible refine Run_label ?_ | with_reducible refine Run_sc ?_ | with_reducible refine Run_block ?_ | with_reducible refine Run_blk ?_ | with_reducible refine Run_exit rfl ?_ | (refine Run_region (by kernel_rfl) fun _ => ?_; simp only [KS, Nat.reduceAdd, Nat.reduceMul, Nat.reduceEqDiff, ↓reduceIte, UT]) | (refine Run_drawn mixed (by kernel_rfl) (by kernel_rfl) fun _ => ?_; simp only [KS, Nat.reduceAdd, Nat.reduceMul, Nat.reduceEqDiff, ↓reduceIte, UT]) | refine And.intro (by first | assumption | omega | (intros; omega)) ?_)
  refine ⟨.agg #[.int .i64 15, .int .i64 25], fun _ => by kernel_rfl, ?_⟩
  refine SemW_buildSlice (vs := [.agg #[.int .i64 15, .int .i64 25]]) Try.underlying23 ti37 rfl rfl rfl (by simp [Value.cells]) (by decide) fun pG w2 h2 => ?_
  have hG : Sl w2 (.slice (some pG) 1 1) exG := Sl.flat (xs := exG) h2 (fun i hi => by
    obtain rfl : i = 0 := by simp at hi; omega
    exact ⟨rfl, by simp [I64], by simp [I64]⟩) (by decide)
  have hR2 := hR.ext h2.ext
  have x2 := h1.ext.trans h2.ext
  clear h1 h2 hR
  try simp only [KS, Nat.reduceAdd, Nat.reduceMul, Nat.reduceEqDiff, ↓reduceIte, UT]
  (repeat first | with_reducible refine Run_seq ?_ | with_reducible refine Run_skip ?_ | with_reducible refine Run_scope ?_ | with_reducible refine Run_label ?_ | with_reducible refine Run_sc ?_ | with_reducible refine Run_block ?_ | with_reducible refine Run_blk ?_ | with_reducible refine Run_exit rfl ?_ | (refine Run_region (by kernel_rfl) fun _ => ?_; simp only [KS, Nat.reduceAdd, Nat.reduceMul, Nat.reduceEqDiff, ↓reduceIte, UT]) | (refine Run_drawn mixed (by kernel_rfl) (by kernel_rfl) fun _ => ?_; simp only [KS, Nat.reduceAdd, Nat.reduceMul, Nat.reduceEqDiff, ↓reduceIte, UT]) | refine And.intro (by first | assumption | omega | (intros; omega)) ?_)
  refine momW ex1 hR2 hG fun v3 w3 x3 s3 => ?_
  try simp only [KS, Nat.reduceAdd, Nat.reduceMul, Nat.reduceEqDiff, ↓reduceIte, UT]
  (repeat first | with_reducible refine Run_seq ?_ | with_reducible refine Run_skip ?_ | with_reducible refine Run_scope ?_ | with_reducible refine Run_label ?_ | with_reducible refine Run_sc ?_ | with_reducible refine Run_block ?_ | with_reducible refine Run_blk ?_ | with_reducible refine Run_exit rfl ?_ | (refine Run_region (by kernel_rfl) fun _ => ?_; simp only [KS, Nat.reduceAdd, Nat.reduceMul, Nat.reduceEqDiff, ↓reduceIte, UT]) | (refine Run_drawn mixed (by kernel_rfl) (by kernel_rfl) fun _ => ?_; simp only [KS, Nat.reduceAdd, Nat.reduceMul, Nat.reduceEqDiff, ↓reduceIte, UT]) | refine And.intro (by first | assumption | omega | (intros; omega)) ?_)
  refine nextW ex2 (hR2.ext x3) (hG.ext x3) fun w4 x4 => ?_
  try simp only [KS, Nat.reduceAdd, Nat.reduceMul, Nat.reduceEqDiff, ↓reduceIte, UT]
  (repeat first | with_reducible refine Run_seq ?_ | with_reducible refine Run_skip ?_ | with_reducible refine Run_scope ?_ | with_reducible refine Run_label ?_ | with_reducible refine Run_sc ?_ | with_reducible refine Run_block ?_ | with_reducible refine Run_blk ?_ | with_reducible refine Run_exit rfl ?_ | (refine Run_region (by kernel_rfl) fun _ => ?_; simp only [KS, Nat.reduceAdd, Nat.reduceMul, Nat.reduceEqDiff, ↓reduceIte, UT]) | (refine Run_drawn mixed (by kernel_rfl) (by kernel_rfl) fun _ => ?_; simp only [KS, Nat.reduceAdd, Nat.reduceMul, Nat.reduceEqDiff, ↓reduceIte, UT]) | refine And.intro (by first | assumption | omega | (intros; omega)) ?_)
  refine nextW ex3 (hR2.ext (x3.trans x4)) (Sl.nil _) fun w5 x5 => ?_
  try simp only [KS, Nat.reduceAdd, Nat.reduceMul, Nat.reduceEqDiff, ↓reduceIte, UT]
  (repeat first | with_reducible refine Run_seq ?_ | with_reducible refine Run_skip ?_ | with_reducible refine Run_scope ?_ | with_reducible refine Run_label ?_ | with_reducible refine Run_sc ?_ | with_reducible refine Run_block ?_ | with_reducible refine Run_blk ?_ | with_reducible refine Run_exit rfl ?_ | (refine Run_region (by kernel_rfl) fun _ => ?_; simp only [KS, Nat.reduceAdd, Nat.reduceMul, Nat.reduceEqDiff, ↓reduceIte, UT]) | (refine Run_drawn mixed (by kernel_rfl) (by kernel_rfl) fun _ => ?_; simp only [KS, Nat.reduceAdd, Nat.reduceMul, Nat.reduceEqDiff, ↓reduceIte, UT]) | refine And.intro (by first | assumption | omega | (intros; omega)) ?_)
  refine momW ex4 (Sl.nil _) (Sl.nil _) fun v6 w6 x6 s6 => ?_
  try simp only [KS, Nat.reduceAdd, Nat.reduceMul, Nat.reduceEqDiff, ↓reduceIte, UT]
  (repeat first | with_reducible refine Run_seq ?_ | with_reducible refine Run_skip ?_ | with_reducible refine Run_scope ?_ | with_reducible refine Run_label ?_ | with_reducible refine Run_sc ?_ | with_reducible refine Run_block ?_ | with_reducible refine Run_blk ?_ | with_reducible refine Run_exit rfl ?_ | (refine Run_region (by kernel_rfl) fun _ => ?_; simp only [KS, Nat.reduceAdd, Nat.reduceMul, Nat.reduceEqDiff, ↓reduceIte, UT]) | (refine Run_drawn mixed (by kernel_rfl) (by kernel_rfl) fun _ => ?_; simp only [KS, Nat.reduceAdd, Nat.reduceMul, Nat.reduceEqDiff, ↓reduceIte, UT]) | refine And.intro (by first | assumption | omega | (intros; omega)) ?_)
  have y6 := x3.trans (x4.trans (x5.trans x6))
  refine momW ex5 (hR2.ext y6) (hG.ext y6) fun v7 w7 x7 s7 => ?_
  try simp only [KS, Nat.reduceAdd, Nat.reduceMul, Nat.reduceEqDiff, ↓reduceIte, UT]
  (repeat first | with_reducible refine Run_seq ?_ | with_reducible refine Run_skip ?_ | with_reducible refine Run_scope ?_ | with_reducible refine Run_label ?_ | with_reducible refine Run_sc ?_ | with_reducible refine Run_block ?_ | with_reducible refine Run_blk ?_ | with_reducible refine Run_exit rfl ?_ | (refine Run_region (by kernel_rfl) fun _ => ?_; simp only [KS, Nat.reduceAdd, Nat.reduceMul, Nat.reduceEqDiff, ↓reduceIte, UT]) | (refine Run_drawn mixed (by kernel_rfl) (by kernel_rfl) fun _ => ?_; simp only [KS, Nat.reduceAdd, Nat.reduceMul, Nat.reduceEqDiff, ↓reduceIte, UT]) | refine And.intro (by first | assumption | omega | (intros; omega)) ?_)
  have y7 := y6.trans x7
  refine nextW ex6 (hR2.ext y7) (hG.ext y7) fun w8 x8 => ?_
  try simp only [KS, Nat.reduceAdd, Nat.reduceMul, Nat.reduceEqDiff, ↓reduceIte, UT]
  (repeat first | with_reducible refine Run_seq ?_ | with_reducible refine Run_skip ?_ | with_reducible refine Run_scope ?_ | with_reducible refine Run_label ?_ | with_reducible refine Run_sc ?_ | with_reducible refine Run_block ?_ | with_reducible refine Run_blk ?_ | with_reducible refine Run_exit rfl ?_ | (refine Run_region (by kernel_rfl) fun _ => ?_; simp only [KS, Nat.reduceAdd, Nat.reduceMul, Nat.reduceEqDiff, ↓reduceIte, UT]) | (refine Run_drawn mixed (by kernel_rfl) (by kernel_rfl) fun _ => ?_; simp only [KS, Nat.reduceAdd, Nat.reduceMul, Nat.reduceEqDiff, ↓reduceIte, UT]) | refine And.intro (by first | assumption | omega | (intros; omega)) ?_)
  refine ⟨.agg #[.int .i64 0, .int .i64 2001, .int .i64 1], fun _ => by kernel_rfl, ?_⟩
  refine SemW_buildSlice (vs := [.agg #[.int .i64 0, .int .i64 2001, .int .i64 1]]) Try.underlying22 ti40 rfl rfl rfl (by simp [Value.cells]) (by decide) fun pL w9 h9 => ?_
  have hL : Sl w9 (.slice (some pL) 1 1) [(⟨0, 2001, 1⟩ : Rule)] := Sl.flat (xs := [(⟨0, 2001, 1⟩ : Rule)]) h9 (fun i hi => by
    obtain rfl : i = 0 := by simp at hi; omega
    exact ⟨rfl, by simp [I64], by simp [I64], by simp [I64]⟩) (by decide)
  have y9 := (y7.trans x8).trans h9.ext
  try simp only [KS, Nat.reduceAdd, Nat.reduceMul, Nat.reduceEqDiff, ↓reduceIte, UT]
  (repeat first | with_reducible refine Run_seq ?_ | with_reducible refine Run_skip ?_ | with_reducible refine Run_scope ?_ | with_reducible refine Run_label ?_ | with_reducible refine Run_sc ?_ | with_reducible refine Run_block ?_ | with_reducible refine Run_blk ?_ | with_reducible refine Run_exit rfl ?_ | (refine Run_region (by kernel_rfl) fun _ => ?_; simp only [KS, Nat.reduceAdd, Nat.reduceMul, Nat.reduceEqDiff, ↓reduceIte, UT]) | (refine Run_drawn mixed (by kernel_rfl) (by kernel_rfl) fun _ => ?_; simp only [KS, Nat.reduceAdd, Nat.reduceMul, Nat.reduceEqDiff, ↓reduceIte, UT]) | refine And.intro (by first | assumption | omega | (intros; omega)) ?_)
  refine momW ex7 hL (Sl.nil _) fun v10 w10 x10 s10 => ?_
  try simp only [KS, Nat.reduceAdd, Nat.reduceMul, Nat.reduceEqDiff, ↓reduceIte, UT]
  (repeat first | with_reducible refine Run_seq ?_ | with_reducible refine Run_skip ?_ | with_reducible refine Run_scope ?_ | with_reducible refine Run_label ?_ | with_reducible refine Run_sc ?_ | with_reducible refine Run_block ?_ | with_reducible refine Run_blk ?_ | with_reducible refine Run_exit rfl ?_ | (refine Run_region (by kernel_rfl) fun _ => ?_; simp only [KS, Nat.reduceAdd, Nat.reduceMul, Nat.reduceEqDiff, ↓reduceIte, UT, s6.s, s6.len]) | (refine Run_drawn mixed (by kernel_rfl) (by kernel_rfl) fun _ => ?_; simp only [KS, Nat.reduceAdd, Nat.reduceMul, Nat.reduceEqDiff, ↓reduceIte, UT, s6.s, s6.len]) | refine And.intro (by first | assumption | omega | (intros; omega)) ?_)
  refine Run_cond (fun _ => rfl) (fun h => by simp at h) (fun _ => ?_)
  refine Run_sub (L' := [(0, some (.bool false)), (1, some (.slice (some pR) 1 1)), (2, some (.slice (some pG) 1 1)), (3, some v3), (5, some (.int .i64 25)), (6, some (.bool true))]) (by simp [SubB, fnd]) ?_
  have y10 := y9.trans x10
  have s310 := s3.ext ((x4.trans (x5.trans (x6.trans (x7.trans (x8.trans (h9.ext.trans x10)))))))
  have hR10 := hR2.ext y10
  have hG10 := hG.ext y10
  have z10 := x2.trans y10
  clear h9 hL s10 s7 s6 y9 y7 y6 x10 x8 x7 x6 x5 x4 x3 s3 hG hR2
  refine Run_skip ?_
  refine Run_seq ?_
  refine Run_region (by kernel_rfl) fun _ => ?_
  simp only [KS, Nat.reduceAdd, Nat.reduceMul, Nat.reduceEqDiff, ↓reduceIte, UT]
  refine SemW_buildSlice (vs := [.int .i64 5, .int .i64 25, .int .i64 35]) Try.underlying25 ti3 rfl rfl rfl (by simp [Value.cells]) (by decide) fun pS w11 h11 => ?_
  have hS : Sl w11 (.slice (some pS) 3 3) ([5, 25, 35] : List Int) := Sl.flat (xs := ([5, 25, 35] : List Int)) h11 (fun i hi => by
    have : i = 0 ∨ i = 1 ∨ i = 2 := by simp at hi; omega
    rcases this with rfl | rfl | rfl <;> exact ⟨rfl, by simp [I64]⟩) (by decide)
  try simp only [KS, Nat.reduceAdd, Nat.reduceMul, Nat.reduceEqDiff, ↓reduceIte, UT]
  (repeat first | with_reducible refine Run_seq ?_ | with_reducible refine Run_skip ?_ | with_reducible refine Run_scope ?_ | with_reducible refine Run_label ?_ | with_reducible refine Run_sc ?_ | with_reducible refine Run_block ?_ | with_reducible refine Run_blk ?_ | with_reducible refine Run_exit rfl ?_ | (refine Run_region (by kernel_rfl) fun _ => ?_; simp only [KS, Nat.reduceAdd, Nat.reduceMul, Nat.reduceEqDiff, ↓reduceIte, UT]) | (refine Run_drawn mixed (by kernel_rfl) (by kernel_rfl) fun _ => ?_; simp only [KS, Nat.reduceAdd, Nat.reduceMul, Nat.reduceEqDiff, ↓reduceIte, UT]) | refine And.intro (by first | assumption | omega | (intros; omega)) ?_)
  refine CallW_pure call14 (refSame v3 _ _ _ w11 (s310.ext h11.ext) hS) fun w12 x12 => ?_
  rw [decide_eq_true (rfl : ([5, 25, 35] : List Int) = [5, 25, 35])]
  try simp only [KS, Nat.reduceAdd, Nat.reduceMul, Nat.reduceEqDiff, ↓reduceIte, UT]
  refine ⟨.agg #[.int .i64 0, .int .i64 0, .int .i64 1], fun _ _ => by kernel_rfl, .inl ⟨rfl, ?_⟩⟩
  refine SemW_buildSlice (vs := [.agg #[.int .i64 0, .int .i64 0, .int .i64 1]]) Try.underlying22 ti40 rfl rfl rfl (by simp [Value.cells]) (by decide) fun p13 w13 h13 => ?_
  have s13 : Sl w13 (.slice (some p13) 1 1) [(⟨0, 0, 1⟩ : Rule)] := Sl.flat (xs := [(⟨0, 0, 1⟩ : Rule)]) h13 (fun i hi => by
    obtain rfl : i = 0 := by simp at hi; omega
    exact ⟨rfl, by simp [I64], by simp [I64], by simp [I64]⟩) (by decide)
  unfold hush
  simp only [KS, Nat.reduceAdd, Nat.reduceMul, Nat.reduceEqDiff, ↓reduceIte, UT]
  refine .inl (.inl ⟨rfl, chkW ex8 s13 (Sl.nil _) fun w14 x14 => ?_⟩)
  unfold hush
  simp only [KS, Nat.reduceAdd, Nat.reduceMul, Nat.reduceEqDiff, ↓reduceIte, UT]
  refine ⟨.agg #[.int .i64 1, .int .i64 2], fun _ _ => by kernel_rfl, .agg #[.int .i64 2, .int .i64 3], fun _ _ => by kernel_rfl, .inl ⟨rfl, ?_⟩⟩
  refine SemW_buildSlice (vs := [.agg #[.int .i64 1, .int .i64 2], .agg #[.int .i64 2, .int .i64 3]]) Try.underlying23 ti37 rfl rfl rfl (by simp [Value.cells]) (by decide) fun p15 w15 h15 => ?_
  have s15 : Sl w15 (.slice (some p15) 2 2) [(⟨1, 2⟩ : Gap), ⟨2, 3⟩] := Sl.flat (xs := [(⟨1, 2⟩ : Gap), ⟨2, 3⟩]) h15 (fun i hi => by
    have : i = 0 ∨ i = 1 := by simp at hi; omega
    rcases this with rfl | rfl <;> exact ⟨rfl, by simp [I64], by simp [I64]⟩) (by decide)
  unfold hush
  simp only [KS, Nat.reduceAdd, Nat.reduceMul, Nat.reduceEqDiff, ↓reduceIte, UT]
  refine .inl (.inl ⟨rfl, chkW ex9 (Sl.nil _) s15 fun w16 x16 => ?_⟩)
  unfold hush
  simp only [KS, Nat.reduceAdd, Nat.reduceMul, Nat.reduceEqDiff, ↓reduceIte, UT]
  refine .inl ⟨rfl, SemW_makeC (n := 17) Try.underlying22 ti40 (by decide) (by decide) (by decide) fun p17 w17 h17 => ?_⟩
  have s17 : Sl w17 (.slice (some p17) 17 17) (List.replicate 17 (⟨0, 0, 0⟩ : Rule)) := Sl.flat (xs := List.replicate 17 (⟨0, 0, 0⟩ : Rule)) h17 (fun i hi => by
    have hi : i < 17 := by simpa using hi
    have hm : (madeCells (Value.agg #[.int .i64 0, .int .i64 0, .int .i64 0]).cells (17 * 3)).toList = List.replicate 51 (.int .i64 0) := by kernel_rfl
    have this : ((((madeCells (Value.agg #[.int .i64 0, .int .i64 0, .int .i64 0]).cells (17 * 3)).toList.drop (i * 3)).take 3) : List Value) = [.int .i64 0, .int .i64 0, .int .i64 0] := by
      rw [hm, List.drop_replicate, List.take_replicate, show min 3 (51 - i * 3) = 3 by omega]; rfl
    rw [List.getElem_replicate]
    exact ⟨this, by simp [I64], by simp [I64], by simp [I64]⟩) (by decide)
  unfold hush
  simp only [KS, Nat.reduceAdd, Nat.reduceMul, Nat.reduceEqDiff, ↓reduceIte, UT]
  refine .inl (.inl ⟨rfl, chkW ex10 s17 (Sl.nil _) fun w18 x18 => ?_⟩)
  unfold hush
  simp only [KS, Nat.reduceAdd, Nat.reduceMul, Nat.reduceEqDiff, ↓reduceIte, UT]
  have e18 := x12.trans (h13.ext.trans (x14.trans (h15.ext.trans (x16.trans (h17.ext.trans x18)))))
  have e18' := h11.ext.trans e18
  refine .inl (.inl ⟨rfl, chkW ex11 (hR10.ext e18') (hG10.ext e18') fun w19 x19 => ?_⟩)
  unfold hush
  simp only [KS, Nat.reduceAdd, Nat.reduceMul, Nat.reduceEqDiff, ↓reduceIte, UT]
  (repeat first | with_reducible refine Run_seq ?_ | with_reducible refine Run_skip ?_ | with_reducible refine Run_scope ?_ | with_reducible refine Run_label ?_ | with_reducible refine Run_sc ?_ | with_reducible refine Run_block ?_ | with_reducible refine Run_blk ?_ | with_reducible refine Run_exit rfl ?_ | (refine Run_region (by kernel_rfl) fun _ => ?_; simp only [KS, Nat.reduceAdd, Nat.reduceMul, Nat.reduceEqDiff, ↓reduceIte, UT]) | (refine Run_drawn mixed (by kernel_rfl) (by kernel_rfl) fun _ => ?_; simp only [KS, Nat.reduceAdd, Nat.reduceMul, Nat.reduceEqDiff, ↓reduceIte, UT]) | refine And.intro (by first | assumption | omega | (intros; omega)) ?_)
  refine Run_ret ?_
  simp [Rets, RetM, resV, fnd, oneOr]
  exact z10.trans (e18'.trans x19)
end Go.Proofs.Ytpgbaaabfbkdjaa
