/- Chapter 19: the walks of the two Checks. -/
import Derived.Test.YtcncbmdkifdggaaFacts
import Derived.Test.YtcncbmdkifdggaaP19
namespace Go.Proofs.Ytcncbmdkifdggaa
open Go Go.Fk
set_option linter.unusedSimpArgs false
set_option linter.unusedVariables false
set_option pp.deepTerms false
set_option maxRecDepth 100000

theorem calCheck (va vb : Value) (rules : List Rule) (off : List Gap) (w : World) (hx : Sl w va rules) (hy : Sl w vb off) :
    Calls Try.prog 43 #[va, vb] w fun e w' => e = .returned (.int .i64 (Cal.chk rules off)) ∧ Ext w w' := by
  refine Calls_of_Run (args := [va, vb]) (n := 75) (rs := [.tmp 4]) Try.func43 rfl rfl rfl (by simp) ?_
  (repeat first | with_reducible refine Run_seq ?_ | with_reducible refine Run_skip ?_ | with_reducible refine Run_scope ?_ | with_reducible refine Run_label ?_ | with_reducible refine Run_sc ?_ | with_reducible refine Run_block ?_ | with_reducible refine Run_blk ?_ | with_reducible refine Run_exit rfl ?_ | (refine Run_region (by kernel_rfl) fun _ => ?_; simp only [KS, Nat.reduceAdd, Nat.reduceMul, Nat.reduceEqDiff, ↓reduceIte, UT, hx.s, hy.s, hx.len, hy.len]) | (refine Run_drawn mixed (by kernel_rfl) (by kernel_rfl) fun _ => ?_; simp only [KS, Nat.reduceAdd, Nat.reduceMul, Nat.reduceEqDiff, ↓reduceIte, UT, hx.s, hy.s, hx.len, hy.len]) | refine And.intro (by first | assumption | omega | (intros; omega)) ?_)
  refine Run_cond (fun _ => rfl) (fun h => ?_) (fun h => ?_)
  · (repeat first | with_reducible refine Run_seq ?_ | with_reducible refine Run_skip ?_ | with_reducible refine Run_scope ?_ | with_reducible refine Run_label ?_ | with_reducible refine Run_sc ?_ | with_reducible refine Run_block ?_ | with_reducible refine Run_blk ?_ | with_reducible refine Run_exit rfl ?_ | (refine Run_region (by kernel_rfl) fun _ => ?_; simp only [KS, Nat.reduceAdd, Nat.reduceMul, Nat.reduceEqDiff, ↓reduceIte, UT]) | (refine Run_drawn mixed (by kernel_rfl) (by kernel_rfl) fun _ => ?_; simp only [KS, Nat.reduceAdd, Nat.reduceMul, Nat.reduceEqDiff, ↓reduceIte, UT]) | refine And.intro (by first | assumption | omega | (intros; omega)) ?_)
    refine Run_ret ?_
    simp at h
    have : Cal.chk rules off = 2 := by unfold Cal.chk; rw [if_pos (by omega)]
    simp [Rets, RetM, resV, fnd, oneOr, Ext.refl, this]
  · simp at h
    have hc : Cal.chk rules off = if rules.all Cal.rOk && Cal.gOk (-1) off then 0 else 190 := by unfold Cal.chk; rw [if_neg (by omega)]
    (repeat first | with_reducible refine Run_seq ?_ | with_reducible refine Run_skip ?_ | with_reducible refine Run_scope ?_ | with_reducible refine Run_label ?_ | with_reducible refine Run_sc ?_ | with_reducible refine Run_block ?_ | with_reducible refine Run_blk ?_ | with_reducible refine Run_exit rfl ?_ | (refine Run_region (by kernel_rfl) fun _ => ?_; simp only [KS, Nat.reduceAdd, Nat.reduceMul, Nat.reduceEqDiff, ↓reduceIte, UT, hx.s, hy.s, hx.len, hy.len]) | (refine Run_drawn mixed (by kernel_rfl) (by kernel_rfl) fun _ => ?_; simp only [KS, Nat.reduceAdd, Nat.reduceMul, Nat.reduceEqDiff, ↓reduceIte, UT, hx.s, hy.s, hx.len, hy.len]) | refine And.intro (by first | assumption | omega | (intros; omega)) ?_)
    refine Run_loop (σ := Nat) (fun k => [(0, some va), (1, some vb), (18, some va), (19, some (.int .i64 rules.length)), (20, some (.int .i64 k))]) (fun k w' => k ≤ rules.length ∧ rules.all Cal.rOk = (rules.drop k).all Cal.rOk ∧ Ext w w') (fun k => rules.length - k) 0 (by simp [SubB, fnd]) ⟨by omega, by simp, Ext.refl w⟩ ?_
    rintro k w' ⟨hk, ht, hw⟩
    (repeat first | with_reducible refine Run_seq ?_ | with_reducible refine Run_skip ?_ | with_reducible refine Run_scope ?_ | with_reducible refine Run_label ?_ | with_reducible refine Run_sc ?_ | with_reducible refine Run_block ?_ | with_reducible refine Run_blk ?_ | with_reducible refine Run_exit rfl ?_ | (refine Run_region (by kernel_rfl) fun _ => ?_; simp only [KS, Nat.reduceAdd, Nat.reduceMul, Nat.reduceEqDiff, ↓reduceIte, UT]) | (refine Run_drawn mixed (by kernel_rfl) (by kernel_rfl) fun _ => ?_; simp only [KS, Nat.reduceAdd, Nat.reduceMul, Nat.reduceEqDiff, ↓reduceIte, UT]) | refine And.intro (by first | assumption | omega | (intros; omega)) ?_)
    refine Run_cond (fun _ => rfl) (fun h1 => ?_) (fun h1 => ?_)
    · simp at h1
      obtain ⟨f1, f2⟩ := (hx.ext hw).rule h1
      simp only [Rule.cs, AtN, KS, Nat.reduceAdd, Nat.reduceMul, Nat.reduceEqDiff, ↓reduceIte, UT] at f1
      (repeat first | with_reducible refine Run_seq ?_ | with_reducible refine Run_skip ?_ | with_reducible refine Run_scope ?_ | with_reducible refine Run_label ?_ | with_reducible refine Run_sc ?_ | with_reducible refine Run_block ?_ | with_reducible refine Run_blk ?_ | with_reducible refine Run_exit rfl ?_ | (refine Run_region (by kernel_rfl) fun _ => ?_; simp only [KS, Nat.reduceAdd, Nat.reduceMul, Nat.reduceEqDiff, ↓reduceIte, UT, (hx.ext hw).s, hx.len, f1]) | (refine Run_drawn mixed (by kernel_rfl) (by kernel_rfl) fun _ => ?_; simp only [KS, Nat.reduceAdd, Nat.reduceMul, Nat.reduceEqDiff, ↓reduceIte, UT, (hx.ext hw).s, hx.len, f1]) | refine And.intro (by first | assumption | omega | (intros; omega)) ?_)
      refine SemW_var ti84 rfl rfl (by decide) rfl fun p w1 hN => ?_
      have g1 := hN.at_.n
      simp only [AtN, KS, Nat.reduceAdd, Nat.reduceMul, Nat.reduceEqDiff, ↓reduceIte, UT] at g1
      have hw1 := hw.trans hN.ext
      (repeat first | with_reducible refine Run_seq ?_ | with_reducible refine Run_skip ?_ | with_reducible refine Run_scope ?_ | with_reducible refine Run_label ?_ | with_reducible refine Run_sc ?_ | with_reducible refine Run_block ?_ | with_reducible refine Run_blk ?_ | with_reducible refine Run_exit rfl ?_ | (refine Run_region (by kernel_rfl) fun _ => ?_; simp only [KS, Nat.reduceAdd, Nat.reduceMul, Nat.reduceEqDiff, ↓reduceIte, UT, g1]) | (refine Run_drawn mixed (by kernel_rfl) (by kernel_rfl) fun _ => ?_; simp only [KS, Nat.reduceAdd, Nat.reduceMul, Nat.reduceEqDiff, ↓reduceIte, UT, g1]) | refine And.intro (by first | assumption | omega | (intros; omega)) ?_)
      refine Run_cond (fun _ => rfl) (fun h2 => ?_) (fun h2 => ?_)
      · (repeat first | with_reducible refine Run_seq ?_ | with_reducible refine Run_skip ?_ | with_reducible refine Run_scope ?_ | with_reducible refine Run_label ?_ | with_reducible refine Run_sc ?_ | with_reducible refine Run_block ?_ | with_reducible refine Run_blk ?_ | with_reducible refine Run_exit rfl ?_ | (refine Run_region (by kernel_rfl) fun _ => ?_; simp only [KS, Nat.reduceAdd, Nat.reduceMul, Nat.reduceEqDiff, ↓reduceIte, UT]) | (refine Run_drawn mixed (by kernel_rfl) (by kernel_rfl) fun _ => ?_; simp only [KS, Nat.reduceAdd, Nat.reduceMul, Nat.reduceEqDiff, ↓reduceIte, UT]) | refine And.intro (by first | assumption | omega | (intros; omega)) ?_)
        refine Run_ret ?_
        have : Cal.chk rules off = 190 := by
          rw [hc, ht, Cal.all_drop _ _ h1]
          have : Cal.rOk rules[k] = false := by simp [Cal.rOk] at h2 ⊢; omega
          simp [this]
        simp [Rets, RetM, resV, fnd, oneOr, hw1, this]
      · (repeat first | with_reducible refine Run_seq ?_ | with_reducible refine Run_skip ?_ | with_reducible refine Run_scope ?_ | with_reducible refine Run_label ?_ | with_reducible refine Run_sc ?_ | with_reducible refine Run_block ?_ | with_reducible refine Run_blk ?_ | with_reducible refine Run_exit rfl ?_ | (refine Run_region (by kernel_rfl) fun _ => ?_; simp only [KS, Nat.reduceAdd, Nat.reduceMul, Nat.reduceEqDiff, ↓reduceIte, UT]) | (refine Run_drawn mixed (by kernel_rfl) (by kernel_rfl) fun _ => ?_; simp only [KS, Nat.reduceAdd, Nat.reduceMul, Nat.reduceEqDiff, ↓reduceIte, UT]) | refine And.intro (by first | assumption | omega | (intros; omega)) ?_)
        refine Run_lp ⟨k + 1, ?_, ⟨by omega, ?_, hw1⟩, by omega⟩
        · simp [SubB, fnd, wrap_in (x := (k : Int) + 1) (by omega) (by omega)]
        · have : Cal.rOk rules[k] = true := by simp [Cal.rOk] at h2 ⊢; omega
          rw [ht, Cal.all_drop _ _ h1, this, Bool.true_and]
    · simp at h1
      obtain rfl : k = rules.length := by omega
      simp at ht
      rw [show rules.all Cal.rOk = true by simpa using ht, Bool.true_and] at hc
      (repeat first | with_reducible refine Run_seq ?_ | with_reducible refine Run_skip ?_ | with_reducible refine Run_scope ?_ | with_reducible refine Run_label ?_ | with_reducible refine Run_sc ?_ | with_reducible refine Run_block ?_ | with_reducible refine Run_blk ?_ | with_reducible refine Run_exit rfl ?_ | (refine Run_region (by kernel_rfl) fun _ => ?_; simp only [KS, Nat.reduceAdd, Nat.reduceMul, Nat.reduceEqDiff, ↓reduceIte, UT, hy.s, hy.len]) | (refine Run_drawn mixed (by kernel_rfl) (by kernel_rfl) fun _ => ?_; simp only [KS, Nat.reduceAdd, Nat.reduceMul, Nat.reduceEqDiff, ↓reduceIte, UT, hy.s, hy.len]) | refine And.intro (by first | assumption | omega | (intros; omega)) ?_)
      refine Run_loop (σ := Nat × Int) (fun s => [(0, some va), (1, some vb), (50, some vb), (51, some (.int .i64 off.length)), (52, some (.int .i64 s.1)), (7, some (.int .i64 s.2))])
        (fun s w' => s.1 ≤ off.length ∧ Cal.gOk (-1) off = Cal.gOk s.2 (off.drop s.1) ∧ I64 s.2 ∧ Ext w w') (fun s => off.length - s.1) (0, -1) (by simp [SubB, fnd]) ⟨by simp, by simp, by unfold I64; omega, hw⟩ ?_
      rintro ⟨k, b⟩ w2 ⟨hk, hg, hb, hw2⟩
      simp only at hk hg hb
      (repeat first | with_reducible refine Run_seq ?_ | with_reducible refine Run_skip ?_ | with_reducible refine Run_scope ?_ | with_reducible refine Run_label ?_ | with_reducible refine Run_sc ?_ | with_reducible refine Run_block ?_ | with_reducible refine Run_blk ?_ | with_reducible refine Run_exit rfl ?_ | (refine Run_region (by kernel_rfl) fun _ => ?_; simp only [KS, Nat.reduceAdd, Nat.reduceMul, Nat.reduceEqDiff, ↓reduceIte, UT]) | (refine Run_drawn mixed (by kernel_rfl) (by kernel_rfl) fun _ => ?_; simp only [KS, Nat.reduceAdd, Nat.reduceMul, Nat.reduceEqDiff, ↓reduceIte, UT]) | refine And.intro (by first | assumption | omega | (intros; omega)) ?_)
      refine Run_cond (fun _ => rfl) (fun h1 => ?_) (fun h1 => ?_)
      · simp at h1
        obtain ⟨f1, f2⟩ := (hy.ext hw2).gap h1
        simp only [Gap.cs, AtN, KS, Nat.reduceAdd, Nat.reduceMul, Nat.reduceEqDiff, ↓reduceIte, UT] at f1
        (repeat first | with_reducible refine Run_seq ?_ | with_reducible refine Run_skip ?_ | with_reducible refine Run_scope ?_ | with_reducible refine Run_label ?_ | with_reducible refine Run_sc ?_ | with_reducible refine Run_block ?_ | with_reducible refine Run_blk ?_ | with_reducible refine Run_exit rfl ?_ | (refine Run_region (by kernel_rfl) fun _ => ?_; simp only [KS, Nat.reduceAdd, Nat.reduceMul, Nat.reduceEqDiff, ↓reduceIte, UT, (hy.ext hw2).s, hy.len, f1]) | (refine Run_drawn mixed (by kernel_rfl) (by kernel_rfl) fun _ => ?_; simp only [KS, Nat.reduceAdd, Nat.reduceMul, Nat.reduceEqDiff, ↓reduceIte, UT, (hy.ext hw2).s, hy.len, f1]) | refine And.intro (by first | assumption | omega | (intros; omega)) ?_)
        refine SemW_var ti108 rfl rfl (by decide) rfl fun p w3 hN => ?_
        have g1 := hN.at_.n
        simp only [AtN, KS, Nat.reduceAdd, Nat.reduceMul, Nat.reduceEqDiff, ↓reduceIte, UT] at g1
        have hw3 := hw2.trans hN.ext
        (repeat first | with_reducible refine Run_seq ?_ | with_reducible refine Run_skip ?_ | with_reducible refine Run_scope ?_ | with_reducible refine Run_label ?_ | with_reducible refine Run_sc ?_ | with_reducible refine Run_block ?_ | with_reducible refine Run_blk ?_ | with_reducible refine Run_exit rfl ?_ | (refine Run_region (by kernel_rfl) fun _ => ?_; simp only [KS, Nat.reduceAdd, Nat.reduceMul, Nat.reduceEqDiff, ↓reduceIte, UT, g1]) | (refine Run_drawn mixed (by kernel_rfl) (by kernel_rfl) fun _ => ?_; simp only [KS, Nat.reduceAdd, Nat.reduceMul, Nat.reduceEqDiff, ↓reduceIte, UT, g1]) | refine And.intro (by first | assumption | omega | (intros; omega)) ?_)
        refine Run_cond (fun _ => rfl) (fun h2 => ?_) (fun h2 => ?_)
        · (repeat first | with_reducible refine Run_seq ?_ | with_reducible refine Run_skip ?_ | with_reducible refine Run_scope ?_ | with_reducible refine Run_label ?_ | with_reducible refine Run_sc ?_ | with_reducible refine Run_block ?_ | with_reducible refine Run_blk ?_ | with_reducible refine Run_exit rfl ?_ | (refine Run_region (by kernel_rfl) fun _ => ?_; simp only [KS, Nat.reduceAdd, Nat.reduceMul, Nat.reduceEqDiff, ↓reduceIte, UT]) | (refine Run_drawn mixed (by kernel_rfl) (by kernel_rfl) fun _ => ?_; simp only [KS, Nat.reduceAdd, Nat.reduceMul, Nat.reduceEqDiff, ↓reduceIte, UT]) | refine And.intro (by first | assumption | omega | (intros; omega)) ?_)
          refine Run_ret ?_
          have : Cal.chk rules off = 190 := by
            rw [hc, hg, Cal.gOk_drop _ _ _ h1]
            rw [decide_eq_false (by simp at h2; omega)]
            simp
          simp [Rets, RetM, resV, fnd, oneOr, hw3, this]
        · (repeat first | with_reducible refine Run_seq ?_ | with_reducible refine Run_skip ?_ | with_reducible refine Run_scope ?_ | with_reducible refine Run_label ?_ | with_reducible refine Run_sc ?_ | with_reducible refine Run_block ?_ | with_reducible refine Run_blk ?_ | with_reducible refine Run_exit rfl ?_ | (refine Run_region (by kernel_rfl) fun _ => ?_; simp only [KS, Nat.reduceAdd, Nat.reduceMul, Nat.reduceEqDiff, ↓reduceIte, UT, g1]) | (refine Run_drawn mixed (by kernel_rfl) (by kernel_rfl) fun _ => ?_; simp only [KS, Nat.reduceAdd, Nat.reduceMul, Nat.reduceEqDiff, ↓reduceIte, UT, g1]) | refine And.intro (by first | assumption | omega | (intros; omega)) ?_)
          refine Run_lp ⟨(k + 1, off[k].Until), ?_, ⟨by simp; omega, ?_, f2.2, hw3⟩, by simp; omega⟩
          · simp [SubB, fnd, wrap_in (x := (k : Int) + 1) (by omega) (by omega)]
          · rw [hg, Cal.gOk_drop _ _ _ h1, decide_eq_true (by simp at h2; omega)]
            simp
      · simp at h1
        obtain rfl : k = off.length := by omega
        (repeat first | with_reducible refine Run_seq ?_ | with_reducible refine Run_skip ?_ | with_reducible refine Run_scope ?_ | with_reducible refine Run_label ?_ | with_reducible refine Run_sc ?_ | with_reducible refine Run_block ?_ | with_reducible refine Run_blk ?_ | with_reducible refine Run_exit rfl ?_ | (refine Run_region (by kernel_rfl) fun _ => ?_; simp only [KS, Nat.reduceAdd, Nat.reduceMul, Nat.reduceEqDiff, ↓reduceIte, UT]) | (refine Run_drawn mixed (by kernel_rfl) (by kernel_rfl) fun _ => ?_; simp only [KS, Nat.reduceAdd, Nat.reduceMul, Nat.reduceEqDiff, ↓reduceIte, UT]) | refine And.intro (by first | assumption | omega | (intros; omega)) ?_)
        refine Run_ret ?_
        have : Cal.chk rules off = 0 := by rw [hc, hg]; simp [Cal.gOk]
        simp [Rets, RetM, resV, fnd, oneOr, hw2, this]
end Go.Proofs.Ytcncbmdkifdggaa
