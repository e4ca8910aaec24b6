/- Chapter 19: the reference's Check. -/
import Derived.Test.YtcncbmdkifdggaaFacts
import Derived.Test.YtcncbmdkifdggaaP19
namespace Go.Proofs.Ytcncbmdkifdggaa
open Go Go.Fk
set_option linter.unusedSimpArgs false
set_option linter.unusedVariables false
set_option pp.deepTerms false
set_option maxRecDepth 100000

theorem refCheck (va vb : Value) (rules : List Rule) (off : List Gap) (w : World) (hx : Sl w va rules) (hy : Sl w vb off) :
    Calls Try.prog 58 #[va, vb] w fun e w' => e = .returned (.int .i64 (Cal.chk rules off)) ∧ Ext w w' := by
  refine Calls_of_Run (args := [va, vb]) (n := 92) (rs := [.tmp 4]) Try.func58 rfl rfl rfl (by simp) ?_
  (repeat first | with_reducible refine Run_seq ?_ | with_reducible refine Run_skip ?_ | with_reducible refine Run_scope ?_ | with_reducible refine Run_label ?_ | with_reducible refine Run_sc ?_ | with_reducible refine Run_block ?_ | with_reducible refine Run_blk ?_ | with_reducible refine Run_exit rfl ?_ | (refine Run_region (by kernel_rfl) fun _ => ?_; simp only [KS, Nat.reduceAdd, Nat.reduceMul, Nat.reduceEqDiff, ↓reduceIte, UT, hx.s, hy.s, hx.len, hy.len]) | (refine Run_drawn mixed (by kernel_rfl) (by kernel_rfl) fun _ => ?_; simp only [KS, Nat.reduceAdd, Nat.reduceMul, Nat.reduceEqDiff, ↓reduceIte, UT, hx.s, hy.s, hx.len, hy.len]) | refine And.intro (by first | assumption | omega | (intros; omega)) ?_)
  refine Run_cond (fun _ => rfl) (fun h => ?_) (fun h => ?_)
  · (repeat first | with_reducible refine Run_seq ?_ | with_reducible refine Run_skip ?_ | with_reducible refine Run_scope ?_ | with_reducible refine Run_label ?_ | with_reducible refine Run_sc ?_ | with_reducible refine Run_block ?_ | with_reducible refine Run_blk ?_ | with_reducible refine Run_exit rfl ?_ | (refine Run_region (by kernel_rfl) fun _ => ?_; simp only [KS, Nat.reduceAdd, Nat.reduceMul, Nat.reduceEqDiff, ↓reduceIte, UT]) | (refine Run_drawn mixed (by kernel_rfl) (by kernel_rfl) fun _ => ?_; simp only [KS, Nat.reduceAdd, Nat.reduceMul, Nat.reduceEqDiff, ↓reduceIte, UT]) | refine And.intro (by first | assumption | omega | (intros; omega)) ?_)
    refine Run_ret ?_
    simp at h
    have : Cal.chk rules off = 2 := by unfold Cal.chk; rw [if_pos (by omega)]
    simp [Rets, RetM, resV, fnd, oneOr, Ext.refl, this]
  · simp at h
    have hc : Cal.chk rules off = if rules.all Cal.rOk && Cal.gOk (-1) off then 0 else 190 := by unfold Cal.chk; rw [if_neg (by omega)]
    (repeat first | with_reducible refine Run_seq ?_ | with_reducible refine Run_skip ?_ | with_reducible refine Run_scope ?_ | with_reducible refine Run_label ?_ | with_reducible refine Run_sc ?_ | with_reducible refine Run_block ?_ | with_reducible refine Run_blk ?_ | with_reducible refine Run_exit rfl ?_ | (refine Run_region (by kernel_rfl) fun _ => ?_; simp only [KS, Nat.reduceAdd, Nat.reduceMul, Nat.reduceEqDiff, ↓reduceIte, UT, hx.s, hy.s, hx.len, hy.len]) | (refine Run_drawn mixed (by kernel_rfl) (by kernel_rfl) fun _ => ?_; simp only [KS, Nat.reduceAdd, Nat.reduceMul, Nat.reduceEqDiff, ↓reduceIte, UT, hx.s, hy.s, hx.len, hy.len]) | refine And.intro (by first | assumption | omega | (intros; omega)) ?_)
    refine Run_loop (σ := Nat) (fun k => [(0, some va), (1, some vb), (5, some (.int .i64 k))]) (fun k w' => k ≤ rules.length ∧ rules.all Cal.rOk = (rules.drop k).all Cal.rOk ∧ Ext w w') (fun k => rules.length - k) 0 (by simp [SubB, fnd]) ⟨by omega, by simp, Ext.refl w⟩ ?_
    rintro k w' ⟨hk, ht, hw⟩
    (repeat first | with_reducible refine Run_seq ?_ | with_reducible refine Run_skip ?_ | with_reducible refine Run_scope ?_ | with_reducible refine Run_label ?_ | with_reducible refine Run_sc ?_ | with_reducible refine Run_block ?_ | with_reducible refine Run_blk ?_ | with_reducible refine Run_exit rfl ?_ | (refine Run_region (by kernel_rfl) fun _ => ?_; simp only [KS, Nat.reduceAdd, Nat.reduceMul, Nat.reduceEqDiff, ↓reduceIte, UT, hx.s, hx.len]) | (refine Run_drawn mixed (by kernel_rfl) (by kernel_rfl) fun _ => ?_; simp only [KS, Nat.reduceAdd, Nat.reduceMul, Nat.reduceEqDiff, ↓reduceIte, UT, hx.s, hx.len]) | refine And.intro (by first | assumption | omega | (intros; omega)) ?_)
    refine Run_cond (fun _ => rfl) (fun h1 => ?_) (fun h1 => ?_)
    · simp at h1
      obtain ⟨f1, f2⟩ := (hx.ext hw).rule h1
      simp only [Rule.cs, AtN, KS, Nat.reduceAdd, Nat.reduceMul, Nat.reduceEqDiff, ↓reduceIte, UT] at f1
      (repeat first | with_reducible refine Run_seq ?_ | with_reducible refine Run_skip ?_ | with_reducible refine Run_scope ?_ | with_reducible refine Run_label ?_ | with_reducible refine Run_sc ?_ | with_reducible refine Run_block ?_ | with_reducible refine Run_blk ?_ | with_reducible refine Run_exit rfl ?_ | (refine Run_region (by kernel_rfl) fun _ => ?_; simp only [KS, Nat.reduceAdd, Nat.reduceMul, Nat.reduceEqDiff, ↓reduceIte, UT, (hx.ext hw).s, hx.len, f1]) | (refine Run_drawn mixed (by kernel_rfl) (by kernel_rfl) fun _ => ?_; simp only [KS, Nat.reduceAdd, Nat.reduceMul, Nat.reduceEqDiff, ↓reduceIte, UT, (hx.ext hw).s, hx.len, f1]) | refine And.intro (by first | assumption | omega | (intros; omega)) ?_)
      refine SemW_var ti84 rfl rfl (by decide) rfl fun p w1 hN => ?_
      have g1 := hN.at_.n
      simp only [AtN, KS, Nat.reduceAdd, Nat.reduceMul, Nat.reduceEqDiff, ↓reduceIte, UT] at g1
      have hw1 := hw.trans hN.ext
      (repeat first | with_reducible refine Run_seq ?_ | with_reducible refine Run_skip ?_ | with_reducible refine Run_scope ?_ | with_reducible refine Run_label ?_ | with_reducible refine Run_sc ?_ | with_reducible refine Run_block ?_ | with_reducible refine Run_blk ?_ | with_reducible refine Run_exit rfl ?_ | (refine Run_region (by kernel_rfl) fun _ => ?_; simp only [KS, Nat.reduceAdd, Nat.reduceMul, Nat.reduceEqDiff, ↓reduceIte, UT, g1]) | (refine Run_drawn mixed (by kernel_rfl) (by kernel_rfl) fun _ => ?_; simp only [KS, Nat.reduceAdd, Nat.reduceMul, Nat.reduceEqDiff, ↓reduceIte, UT, g1]) | refine And.intro (by first | assumption | omega | (intros; omega)) ?_)
      refine Run_cond (fun _ => rfl) (fun h2 => ?_) (fun h2 => ?_)
      · (repeat first | with_reducible refine Run_seq ?_ | with_reducible refine Run_skip ?_ | with_reducible refine Run_scope ?_ | with_reducible refine Run_label ?_ | with_reducible refine Run_sc ?_ | with_reducible refine Run_block ?_ | with_reducible refine Run_blk ?_ | with_reducible refine Run_exit rfl ?_ | (refine Run_region (by kernel_rfl) fun _ => ?_; simp only [KS, Nat.reduceAdd, Nat.reduceMul, Nat.reduceEqDiff, ↓reduceIte, UT]) | (refine Run_drawn mixed (by kernel_rfl) (by kernel_rfl) fun _ => ?_; simp only [KS, Nat.reduceAdd, Nat.reduceMul, Nat.reduceEqDiff, ↓reduceIte, UT]) | refine And.intro (by first | assumption | omega | (intros; omega)) ?_)
        refine Run_ret ?_
        have : Cal.chk rules off = 190 := by
          rw [hc, ht, Cal.all_drop _ _ h1]
          have : Cal.rOk rules[k] = false := by simp [Cal.rOk] at h2 ⊢; omega
          simp [this]
        simp [Rets, RetM, resV, fnd, oneOr, hw1, this]
      · (repeat first | with_reducible refine Run_seq ?_ | with_reducible refine Run_skip ?_ | with_reducible refine Run_scope ?_ | with_reducible refine Run_label ?_ | with_reducible refine Run_sc ?_ | with_reducible refine Run_block ?_ | with_reducible refine Run_blk ?_ | with_reducible refine Run_exit rfl ?_ | (refine Run_region (by kernel_rfl) fun _ => ?_; simp only [KS, Nat.reduceAdd, Nat.reduceMul, Nat.reduceEqDiff, ↓reduceIte, UT]) | (refine Run_drawn mixed (by kernel_rfl) (by kernel_rfl) fun _ => ?_; simp only [KS, Nat.reduceAdd, Nat.reduceMul, Nat.reduceEqDiff, ↓reduceIte, UT]) | refine And.intro (by first | assumption | omega | (intros; omega)) ?_)
        refine Run_lp ⟨k + 1, ?_, ⟨by omega, ?_, hw1⟩, by omega⟩
        · simp [SubB, fnd, wrap_in (x := (k : Int) + 1) (by omega) (by omega)]
        · have : Cal.rOk rules[k] = true := by simp [Cal.rOk] at h2 ⊢; omega
          rw [ht, Cal.all_drop _ _ h1, this, Bool.true_and]
    · simp at h1
      obtain rfl : k = rules.length := by omega
      simp at ht
      rw [show rules.all Cal.rOk = true by simpa using ht, Bool.true_and] at hc
      (repeat first | with_reducible refine Run_seq ?_ | with_reducible refine Run_skip ?_ | with_reducible refine Run_scope ?_ | with_reducible refine Run_label ?_ | with_reducible refine Run_sc ?_ | with_reducible refine Run_block ?_ | with_reducible refine Run_blk ?_ | with_reducible refine Run_exit rfl ?_ | (refine Run_region (by kernel_rfl) fun _ => ?_; simp only [KS, Nat.reduceAdd, Nat.reduceMul, Nat.reduceEqDiff, ↓reduceIte, UT, hy.s, hy.len]) | (refine Run_drawn mixed (by kernel_rfl) (by kernel_rfl) fun _ => ?_; simp only [KS, Nat.reduceAdd, Nat.reduceMul, Nat.reduceEqDiff, ↓reduceIte, UT, hy.s, hy.len]) | refine And.intro (by first | assumption | omega | (intros; omega)) ?_)
      refine Run_loop (σ := Nat × Int) (fun s => [(0, some va), (1, some vb), (7, some (.int .i64 s.1))])
        (fun s w' => s.1 ≤ off.length ∧ Cal.gOk (-1) off = Cal.gOk s.2 (off.drop s.1) ∧ (s.1 = 0 → s.2 = -1) ∧ (∀ h : 0 < s.1 ∧ s.1 ≤ off.length, s.2 = (off[s.1 - 1]'(by omega)).Until ∧ 0 ≤ s.2) ∧ Ext w w') (fun s => off.length - s.1) (0, -1) (by simp [SubB, fnd]) ⟨by simp, by simp, by simp, by simp, hw⟩ ?_
      rintro ⟨k, b⟩ w2 ⟨hk, hg, hb0, hb1, hw2⟩
      simp only at hk hg hb0 hb1
      (repeat first | with_reducible refine Run_seq ?_ | with_reducible refine Run_skip ?_ | with_reducible refine Run_scope ?_ | with_reducible refine Run_label ?_ | with_reducible refine Run_sc ?_ | with_reducible refine Run_block ?_ | with_reducible refine Run_blk ?_ | with_reducible refine Run_exit rfl ?_ | (refine Run_region (by kernel_rfl) fun _ => ?_; simp only [KS, Nat.reduceAdd, Nat.reduceMul, Nat.reduceEqDiff, ↓reduceIte, UT, hy.s, hy.len]) | (refine Run_drawn mixed (by kernel_rfl) (by kernel_rfl) fun _ => ?_; simp only [KS, Nat.reduceAdd, Nat.reduceMul, Nat.reduceEqDiff, ↓reduceIte, UT, hy.s, hy.len]) | refine And.intro (by first | assumption | omega | (intros; omega)) ?_)
      refine Run_cond (fun _ => rfl) (fun h1 => ?_) (fun h1 => ?_)
      · simp at h1
        obtain ⟨f1, f2⟩ := (hy.ext hw2).gap h1
        simp only [Gap.cs, AtN, KS, Nat.reduceAdd, Nat.reduceMul, Nat.reduceEqDiff, ↓reduceIte, UT] at f1
        (repeat first | with_reducible refine Run_seq ?_ | with_reducible refine Run_skip ?_ | with_reducible refine Run_scope ?_ | with_reducible refine Run_label ?_ | with_reducible refine Run_sc ?_ | with_reducible refine Run_block ?_ | with_reducible refine Run_blk ?_ | with_reducible refine Run_exit rfl ?_ | (refine Run_region (by kernel_rfl) fun _ => ?_; simp only [KS, Nat.reduceAdd, Nat.reduceMul, Nat.reduceEqDiff, ↓reduceIte, UT, (hy.ext hw2).s, hy.len, f1]) | (refine Run_drawn mixed (by kernel_rfl) (by kernel_rfl) fun _ => ?_; simp only [KS, Nat.reduceAdd, Nat.reduceMul, Nat.reduceEqDiff, ↓reduceIte, UT, (hy.ext hw2).s, hy.len, f1]) | refine And.intro (by first | assumption | omega | (intros; omega)) ?_)
        refine SemW_var ti108 rfl rfl (by decide) rfl fun p w3 hN => ?_
        have g1 := hN.at_.n
        simp only [AtN, KS, Nat.reduceAdd, Nat.reduceMul, Nat.reduceEqDiff, ↓reduceIte, UT] at g1
        have hw3 := hw2.trans hN.ext
        (repeat first | with_reducible refine Run_seq ?_ | with_reducible refine Run_skip ?_ | with_reducible refine Run_scope ?_ | with_reducible refine Run_label ?_ | with_reducible refine Run_sc ?_ | with_reducible refine Run_block ?_ | with_reducible refine Run_blk ?_ | with_reducible refine Run_exit rfl ?_ | (refine Run_region (by kernel_rfl) fun _ => ?_; simp only [KS, Nat.reduceAdd, Nat.reduceMul, Nat.reduceEqDiff, ↓reduceIte, UT, g1, hy.s, hy.len]) | (refine Run_drawn mixed (by kernel_rfl) (by kernel_rfl) fun _ => ?_; simp only [KS, Nat.reduceAdd, Nat.reduceMul, Nat.reduceEqDiff, ↓reduceIte, UT, g1, hy.s, hy.len]) | refine And.intro (by first | assumption | omega | (intros; omega)) ?_)
        have hwk : 0 < k → IntKind.i64.wrap ((k : Int) - 1) = ((k - 1 : Nat) : Int) := fun h => by rw [wrap_in (by omega) (by omega)]; omega
        have hprev : 0 < k → has1 w3 ((slAt vb).add ((k - 1) * 2 + 1)) ∧ mem w3 ((slAt vb).add ((k - 1) * 2 + 1)) = .int .i64 b ∧ 0 ≤ b := fun h => by
          obtain ⟨e1, e2⟩ := hb1 ⟨h, hk⟩
          obtain ⟨f3, _⟩ := (hy.ext hw3).gap (i := k - 1) (by omega)
          simp only [Gap.cs, AtN, KS, Nat.reduceAdd, Nat.reduceMul, Nat.reduceEqDiff, ↓reduceIte, UT] at f3
          rw [e1] at e2 ⊢
          exact ⟨f3.2.2.1, f3.2.2.2, e2⟩
        refine ⟨fun h _ => ?_, fun h _ => ?_, fun h _ => ?_, fun w4 hw4 => ?_⟩
        · rw [hwk (by simpa using h)]; omega
        · rw [hwk (by simpa using h)]; exact (hprev (by simpa using h)).1
        · rw [hwk (by simpa using h)]
          simp only [Int.toNat_natCast]
          rw [(hprev (by simpa using h)).2.1]; simp
        have hval : (decide (off[k].From < 0) || decide (off[k].Until ≤ off[k].From) || decide (2097152 < off[k].Until) || decide (0 < (k : Int)) && decide (off[k].From ≤ iOf (mem w3 ((slAt vb).add ((IntKind.i64.wrap ((k : Int) - 1)).toNat * 2 + 1))))) =
            !decide (b < off[k].From ∧ off[k].From < off[k].Until ∧ off[k].Until ≤ 2097152) := by
          by_cases h0 : 0 < k
          · obtain ⟨_, e2, e3⟩ := hprev h0
            rw [hwk h0]
            simp only [Int.toNat_natCast, e2, iOf_mk]
            rw [Bool.eq_iff_iff]
            simp [h0]; omega
          · have hb := hb0 (by omega)
            rw [Bool.eq_iff_iff]
            simp [h0]; omega
        rw [hval]
        refine Run_cond (fun _ => rfl) (fun h2 => ?_) (fun h2 => ?_)
        · (repeat first | with_reducible refine Run_seq ?_ | with_reducible refine Run_skip ?_ | with_reducible refine Run_scope ?_ | with_reducible refine Run_label ?_ | with_reducible refine Run_sc ?_ | with_reducible refine Run_block ?_ | with_reducible refine Run_blk ?_ | with_reducible refine Run_exit rfl ?_ | (refine Run_region (by kernel_rfl) fun _ => ?_; simp only [KS, Nat.reduceAdd, Nat.reduceMul, Nat.reduceEqDiff, ↓reduceIte, UT]) | (refine Run_drawn mixed (by kernel_rfl) (by kernel_rfl) fun _ => ?_; simp only [KS, Nat.reduceAdd, Nat.reduceMul, Nat.reduceEqDiff, ↓reduceIte, UT]) | refine And.intro (by first | assumption | omega | (intros; omega)) ?_)
          refine Run_ret ?_
          have : Cal.chk rules off = 190 := by
            rw [hc, hg, Cal.gOk_drop _ _ _ h1]
            rw [decide_eq_false (by simp at h2; omega)]
            simp
          simp [Rets, RetM, resV, fnd, oneOr, hw3.trans hw4, this]
        · have h3 : b < off[k].From ∧ off[k].From < off[k].Until ∧ off[k].Until ≤ 2097152 := by simpa using h2
          (repeat first | with_reducible refine Run_seq ?_ | with_reducible refine Run_skip ?_ | with_reducible refine Run_scope ?_ | with_reducible refine Run_label ?_ | with_reducible refine Run_sc ?_ | with_reducible refine Run_block ?_ | with_reducible refine Run_blk ?_ | with_reducible refine Run_exit rfl ?_ | (refine Run_region (by kernel_rfl) fun _ => ?_; simp only [KS, Nat.reduceAdd, Nat.reduceMul, Nat.reduceEqDiff, ↓reduceIte, UT]) | (refine Run_drawn mixed (by kernel_rfl) (by kernel_rfl) fun _ => ?_; simp only [KS, Nat.reduceAdd, Nat.reduceMul, Nat.reduceEqDiff, ↓reduceIte, UT]) | refine And.intro (by first | assumption | omega | (intros; omega)) ?_)
          refine Run_lp ⟨(k + 1, off[k].Until), ?_, ⟨by simp; omega, ?_, by simp, fun _ => ⟨by simp, ?_⟩, hw3.trans hw4⟩, by simp; omega⟩
          · simp [SubB, fnd, wrap_in (x := (k : Int) + 1) (by omega) (by omega)]
          · rw [hg, Cal.gOk_drop _ _ _ h1, decide_eq_true h3]
            simp
          · show 0 ≤ off[k].Until
            rcases Nat.eq_zero_or_pos k with h0 | h0
            · have := hb0 h0; omega
            · have := (hprev h0).2.2; omega
      · simp at h1
        obtain rfl : k = off.length := by omega
        (repeat first | with_reducible refine Run_seq ?_ | with_reducible refine Run_skip ?_ | with_reducible refine Run_scope ?_ | with_reducible refine Run_label ?_ | with_reducible refine Run_sc ?_ | with_reducible refine Run_block ?_ | with_reducible refine Run_blk ?_ | with_reducible refine Run_exit rfl ?_ | (refine Run_region (by kernel_rfl) fun _ => ?_; simp only [KS, Nat.reduceAdd, Nat.reduceMul, Nat.reduceEqDiff, ↓reduceIte, UT]) | (refine Run_drawn mixed (by kernel_rfl) (by kernel_rfl) fun _ => ?_; simp only [KS, Nat.reduceAdd, Nat.reduceMul, Nat.reduceEqDiff, ↓reduceIte, UT]) | refine And.intro (by first | assumption | omega | (intros; omega)) ?_)
        refine Run_ret ?_
        have : Cal.chk rules off = 0 := by rw [hc, hg]; simp [Cal.gOk]
        simp [Rets, RetM, resV, fnd, oneOr, hw2, this]
end Go.Proofs.Ytcncbmdkifdggaa
