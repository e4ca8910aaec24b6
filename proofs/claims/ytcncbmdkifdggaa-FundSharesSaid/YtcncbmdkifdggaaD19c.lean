/- Chapter 19: the times of a rule, and the next departure of the reference. -/
import Derived.Test.YtcncbmdkifdggaaFacts
import Derived.Test.YtcncbmdkifdggaaP19
namespace Go.Proofs.Ytcncbmdkifdggaa
open Go Go.Fk
set_option linter.unusedSimpArgs false
set_option linter.unusedVariables false
set_option pp.deepTerms false
set_option maxRecDepth 100000

def RuleFit (r : Rule) : Prop := 0 ≤ r.First ∧ r.First < r.Until ∧ r.Until ≤ 2097152 ∧ 1 ≤ r.Every ∧ r.Every ≤ 2097152

theorem mul_bd {a e : Int} (h : 1 ≤ e) (h0 : 0 ≤ a) (h1 : a ≤ 4194304) : 0 ≤ a / e ∧ a / e ≤ 4194304 ∧ 0 ≤ a / e * e ∧ a / e * e ≤ 4194304 := by
  have h2 := Int.emod_add_mul_ediv a e
  have h3 := Int.emod_nonneg a (show e ≠ 0 by omega)
  have h4 : 0 ≤ a / e := Int.ediv_nonneg h0 (by omega)
  have h5 : a / e ≤ a := Int.ediv_le_self _ h0
  rw [Int.mul_comm e] at h2
  have h6 : 0 ≤ a / e * e := Int.mul_nonneg h4 (by omega)
  omega

theorem refLeast (r : Rule) (m : Int) (w : World) (hr : RuleFit r) (h0 : 0 ≤ m) (hm : m ≤ 2097152) :
    Calls Try.prog 84 #[.agg r.cs.toArray, .int .i64 m] w fun e w' => e = .returned (.int .i64 (Cal.after r m)) ∧ Ext w w' := by
  obtain ⟨r0, r1, r2, r3, r4⟩ := hr
  refine Calls_of_Run (args := [(.agg r.cs.toArray), .int .i64 m]) (n := 33) (rs := [.tmp 4]) Try.func84 rfl rfl rfl (by simp) ?_
  (repeat first | with_reducible refine Run_seq ?_ | with_reducible refine Run_skip ?_ | with_reducible refine Run_scope ?_ | with_reducible refine Run_label ?_ | with_reducible refine Run_sc ?_ | with_reducible refine Run_block ?_ | with_reducible refine Run_blk ?_ | with_reducible refine Run_exit rfl ?_ | (refine Run_region (by kernel_rfl) fun _ => ?_; simp only [KS, Nat.reduceAdd, Nat.reduceMul, Nat.reduceEqDiff, ↓reduceIte, UT]) | (refine Run_drawn mixed (by kernel_rfl) (by kernel_rfl) fun _ => ?_; simp only [KS, Nat.reduceAdd, Nat.reduceMul, Nat.reduceEqDiff, ↓reduceIte, UT]) | refine And.intro (by first | assumption | omega | (intros; omega)) ?_)
  refine SemW_box fun p w1 hN => ?_
  have hw1 := hN.ext
  have g1 := hN.at_.n
  simp only [Rule.cs, AtN, KS, Nat.reduceAdd, Nat.reduceMul, Nat.reduceEqDiff, ↓reduceIte, UT] at g1
  (repeat first | with_reducible refine Run_seq ?_ | with_reducible refine Run_skip ?_ | with_reducible refine Run_scope ?_ | with_reducible refine Run_label ?_ | with_reducible refine Run_sc ?_ | with_reducible refine Run_block ?_ | with_reducible refine Run_blk ?_ | with_reducible refine Run_exit rfl ?_ | (refine Run_region (by kernel_rfl) fun _ => ?_; simp only [KS, Nat.reduceAdd, Nat.reduceMul, Nat.reduceEqDiff, ↓reduceIte, UT, g1]) | (refine Run_drawn mixed (by kernel_rfl) (by kernel_rfl) fun _ => ?_; simp only [KS, Nat.reduceAdd, Nat.reduceMul, Nat.reduceEqDiff, ↓reduceIte, UT, g1]) | refine And.intro (by first | assumption | omega | (intros; omega)) ?_)
  refine Run_cut (fun L' w' => Ext w1 w' ∧ SubB [(2, some (.pointer (some p))), (5, some (.int .i64 (if r.First < m then r.First + (m - r.First + r.Every - 1) / r.Every * r.Every else r.First)))] L') ?_ ?_
  · refine Run_cond (fun _ => rfl) (fun h2 => ?_) (fun h2 => ?_)
    · simp at h2
      have hb := mul_bd (a := m - r.First + r.Every - 1) r3 (by omega) (by omega)
      (repeat first | with_reducible refine Run_seq ?_ | with_reducible refine Run_skip ?_ | with_reducible refine Run_scope ?_ | with_reducible refine Run_label ?_ | with_reducible refine Run_sc ?_ | with_reducible refine Run_block ?_ | with_reducible refine Run_blk ?_ | with_reducible refine Run_exit rfl ?_ | (refine Run_region (by kernel_rfl) fun _ => ?_; simp only [KS, Nat.reduceAdd, Nat.reduceMul, Nat.reduceEqDiff, ↓reduceIte, UT, g1]) | (refine Run_drawn mixed (by kernel_rfl) (by kernel_rfl) fun _ => ?_; simp only [KS, Nat.reduceAdd, Nat.reduceMul, Nat.reduceEqDiff, ↓reduceIte, UT, g1]) | refine And.intro (by first | assumption | omega | (intros; omega)) ?_)
      intro w2 hw2
      refine Run_lp ⟨hw2, ?_⟩
      simp only [SubB, fnd, KS, Nat.reduceAdd, Nat.reduceMul, Nat.reduceEqDiff, ↓reduceIte, UT]
      rw [if_pos h2, wrap_in (x := m - r.First) (by omega) (by omega), wrap_in (x := m - r.First + r.Every) (by omega) (by omega), wrap_in (x := m - r.First + r.Every - 1) (by omega) (by omega), tdiv_eq (by omega),
        wrap_in (x := (m - r.First + r.Every - 1) / r.Every) (by omega) (by omega), wrap_in (x := (m - r.First + r.Every - 1) / r.Every * r.Every) (by omega) (by omega), wrap_in (x := r.First + (m - r.First + r.Every - 1) / r.Every * r.Every) (by omega) (by omega)]
    · simp at h2
      (repeat first | with_reducible refine Run_seq ?_ | with_reducible refine Run_skip ?_ | with_reducible refine Run_scope ?_ | with_reducible refine Run_label ?_ | with_reducible refine Run_sc ?_ | with_reducible refine Run_block ?_ | with_reducible refine Run_blk ?_ | with_reducible refine Run_exit rfl ?_ | (refine Run_region (by kernel_rfl) fun _ => ?_; simp only [KS, Nat.reduceAdd, Nat.reduceMul, Nat.reduceEqDiff, ↓reduceIte, UT]) | (refine Run_drawn mixed (by kernel_rfl) (by kernel_rfl) fun _ => ?_; simp only [KS, Nat.reduceAdd, Nat.reduceMul, Nat.reduceEqDiff, ↓reduceIte, UT]) | refine And.intro (by first | assumption | omega | (intros; omega)) ?_)
      refine Run_lp ⟨Ext.refl w1, ?_⟩
      simp only [SubB, fnd, KS, Nat.reduceAdd, Nat.reduceMul, Nat.reduceEqDiff, ↓reduceIte, UT]
      rw [if_neg (by omega)]
  · rintro L2 w2 ⟨hw2, hs⟩
    refine Run_sub hs ?_
    have ha : Cal.after r m = if r.Until ≤ (if r.First < m then r.First + (m - r.First + r.Every - 1) / r.Every * r.Every else r.First) then 2097152 else (if r.First < m then r.First + (m - r.First + r.Every - 1) / r.Every * r.Every else r.First) := rfl
    generalize (if r.First < m then r.First + (m - r.First + r.Every - 1) / r.Every * r.Every else r.First) = t at *
    have g2 := (hN.at_.ext hw2).n
    simp only [Rule.cs, AtN, KS, Nat.reduceAdd, Nat.reduceMul, Nat.reduceEqDiff, ↓reduceIte, UT] at g2
    (repeat first | with_reducible refine Run_seq ?_ | with_reducible refine Run_skip ?_ | with_reducible refine Run_scope ?_ | with_reducible refine Run_label ?_ | with_reducible refine Run_sc ?_ | with_reducible refine Run_block ?_ | with_reducible refine Run_blk ?_ | with_reducible refine Run_exit rfl ?_ | (refine Run_region (by kernel_rfl) fun _ => ?_; simp only [KS, Nat.reduceAdd, Nat.reduceMul, Nat.reduceEqDiff, ↓reduceIte, UT, g2]) | (refine Run_drawn mixed (by kernel_rfl) (by kernel_rfl) fun _ => ?_; simp only [KS, Nat.reduceAdd, Nat.reduceMul, Nat.reduceEqDiff, ↓reduceIte, UT, g2]) | refine And.intro (by first | assumption | omega | (intros; omega)) ?_)
    refine Run_cond (fun _ => rfl) (fun h3 => ?_) (fun h3 => ?_)
    · simp at h3
      (repeat first | with_reducible refine Run_seq ?_ | with_reducible refine Run_skip ?_ | with_reducible refine Run_scope ?_ | with_reducible refine Run_label ?_ | with_reducible refine Run_sc ?_ | with_reducible refine Run_block ?_ | with_reducible refine Run_blk ?_ | with_reducible refine Run_exit rfl ?_ | (refine Run_region (by kernel_rfl) fun _ => ?_; simp only [KS, Nat.reduceAdd, Nat.reduceMul, Nat.reduceEqDiff, ↓reduceIte, UT]) | (refine Run_drawn mixed (by kernel_rfl) (by kernel_rfl) fun _ => ?_; simp only [KS, Nat.reduceAdd, Nat.reduceMul, Nat.reduceEqDiff, ↓reduceIte, UT]) | refine And.intro (by first | assumption | omega | (intros; omega)) ?_)
      refine Run_ret ?_
      rw [if_pos h3] at ha
      simp [Rets, RetM, resV, fnd, oneOr, hw1.trans hw2, ha]
    · simp at h3
      (repeat first | with_reducible refine Run_seq ?_ | with_reducible refine Run_skip ?_ | with_reducible refine Run_scope ?_ | with_reducible refine Run_label ?_ | with_reducible refine Run_sc ?_ | with_reducible refine Run_block ?_ | with_reducible refine Run_blk ?_ | with_reducible refine Run_exit rfl ?_ | (refine Run_region (by kernel_rfl) fun _ => ?_; simp only [KS, Nat.reduceAdd, Nat.reduceMul, Nat.reduceEqDiff, ↓reduceIte, UT]) | (refine Run_drawn mixed (by kernel_rfl) (by kernel_rfl) fun _ => ?_; simp only [KS, Nat.reduceAdd, Nat.reduceMul, Nat.reduceEqDiff, ↓reduceIte, UT]) | refine And.intro (by first | assumption | omega | (intros; omega)) ?_)
      refine Run_ret ?_
      rw [if_neg (by omega)] at ha
      simp [Rets, RetM, resV, fnd, oneOr, hw1.trans hw2, ha]
theorem calAfter (r : Rule) (m : Int) (w : World) (hr : RuleFit r) (h0 : 0 ≤ m) (hm : m ≤ 2097152) :
    Calls Try.prog 91 #[.agg r.cs.toArray, .int .i64 m] w fun e w' => e = .returned (.int .i64 (Cal.after r m)) ∧ Ext w w' := by
  obtain ⟨r0, r1, r2, r3, r4⟩ := hr
  refine Calls_of_Run (args := [(.agg r.cs.toArray), .int .i64 m]) (n := 31) (rs := [.tmp 4]) Try.func91 rfl rfl rfl (by simp) ?_
  (repeat first | with_reducible refine Run_seq ?_ | with_reducible refine Run_skip ?_ | with_reducible refine Run_scope ?_ | with_reducible refine Run_label ?_ | with_reducible refine Run_sc ?_ | with_reducible refine Run_block ?_ | with_reducible refine Run_blk ?_ | with_reducible refine Run_exit rfl ?_ | (refine Run_region (by kernel_rfl) fun _ => ?_; simp only [KS, Nat.reduceAdd, Nat.reduceMul, Nat.reduceEqDiff, ↓reduceIte, UT]) | (refine Run_drawn mixed (by kernel_rfl) (by kernel_rfl) fun _ => ?_; simp only [KS, Nat.reduceAdd, Nat.reduceMul, Nat.reduceEqDiff, ↓reduceIte, UT]) | refine And.intro (by first | assumption | omega | (intros; omega)) ?_)
  refine SemW_box fun p w1 hN => ?_
  have hw1 := hN.ext
  have g1 := hN.at_.n
  simp only [Rule.cs, AtN, KS, Nat.reduceAdd, Nat.reduceMul, Nat.reduceEqDiff, ↓reduceIte, UT] at g1
  (repeat first | with_reducible refine Run_seq ?_ | with_reducible refine Run_skip ?_ | with_reducible refine Run_scope ?_ | with_reducible refine Run_label ?_ | with_reducible refine Run_sc ?_ | with_reducible refine Run_block ?_ | with_reducible refine Run_blk ?_ | with_reducible refine Run_exit rfl ?_ | (refine Run_region (by kernel_rfl) fun _ => ?_; simp only [KS, Nat.reduceAdd, Nat.reduceMul, Nat.reduceEqDiff, ↓reduceIte, UT, g1]) | (refine Run_drawn mixed (by kernel_rfl) (by kernel_rfl) fun _ => ?_; simp only [KS, Nat.reduceAdd, Nat.reduceMul, Nat.reduceEqDiff, ↓reduceIte, UT, g1]) | refine And.intro (by first | assumption | omega | (intros; omega)) ?_)
  refine Run_cut (fun L' w' => Ext w1 w' ∧ SubB [(2, some (.pointer (some p))), (5, some (.int .i64 (if r.First < m then r.First + (m - r.First + r.Every - 1) / r.Every * r.Every else r.First)))] L') ?_ ?_
  · refine Run_cond (fun _ => rfl) (fun h2 => ?_) (fun h2 => ?_)
    · simp at h2
      have hb := mul_bd (a := m - r.First + r.Every - 1) r3 (by omega) (by omega)
      (repeat first | with_reducible refine Run_seq ?_ | with_reducible refine Run_skip ?_ | with_reducible refine Run_scope ?_ | with_reducible refine Run_label ?_ | with_reducible refine Run_sc ?_ | with_reducible refine Run_block ?_ | with_reducible refine Run_blk ?_ | with_reducible refine Run_exit rfl ?_ | (refine Run_region (by kernel_rfl) fun _ => ?_; simp only [KS, Nat.reduceAdd, Nat.reduceMul, Nat.reduceEqDiff, ↓reduceIte, UT, g1]) | (refine Run_drawn mixed (by kernel_rfl) (by kernel_rfl) fun _ => ?_; simp only [KS, Nat.reduceAdd, Nat.reduceMul, Nat.reduceEqDiff, ↓reduceIte, UT, g1]) | refine And.intro (by first | assumption | omega | (intros; omega)) ?_)
      intro w2 hw2
      refine Run_lp ⟨hw2, ?_⟩
      simp only [SubB, fnd, KS, Nat.reduceAdd, Nat.reduceMul, Nat.reduceEqDiff, ↓reduceIte, UT]
      rw [if_pos h2, wrap_in (x := m - r.First) (by omega) (by omega), wrap_in (x := m - r.First + r.Every) (by omega) (by omega), wrap_in (x := m - r.First + r.Every - 1) (by omega) (by omega), tdiv_eq (by omega),
        wrap_in (x := (m - r.First + r.Every - 1) / r.Every) (by omega) (by omega), wrap_in (x := (m - r.First + r.Every - 1) / r.Every * r.Every) (by omega) (by omega), wrap_in (x := r.First + (m - r.First + r.Every - 1) / r.Every * r.Every) (by omega) (by omega)]
    · simp at h2
      (repeat first | with_reducible refine Run_seq ?_ | with_reducible refine Run_skip ?_ | with_reducible refine Run_scope ?_ | with_reducible refine Run_label ?_ | with_reducible refine Run_sc ?_ | with_reducible refine Run_block ?_ | with_reducible refine Run_blk ?_ | with_reducible refine Run_exit rfl ?_ | (refine Run_region (by kernel_rfl) fun _ => ?_; simp only [KS, Nat.reduceAdd, Nat.reduceMul, Nat.reduceEqDiff, ↓reduceIte, UT]) | (refine Run_drawn mixed (by kernel_rfl) (by kernel_rfl) fun _ => ?_; simp only [KS, Nat.reduceAdd, Nat.reduceMul, Nat.reduceEqDiff, ↓reduceIte, UT]) | refine And.intro (by first | assumption | omega | (intros; omega)) ?_)
      refine Run_lp ⟨Ext.refl w1, ?_⟩
      simp only [SubB, fnd, KS, Nat.reduceAdd, Nat.reduceMul, Nat.reduceEqDiff, ↓reduceIte, UT]
      rw [if_neg (by omega)]
  · rintro L2 w2 ⟨hw2, hs⟩
    refine Run_sub hs ?_
    have ha : Cal.after r m = if r.Until ≤ (if r.First < m then r.First + (m - r.First + r.Every - 1) / r.Every * r.Every else r.First) then 2097152 else (if r.First < m then r.First + (m - r.First + r.Every - 1) / r.Every * r.Every else r.First) := rfl
    generalize (if r.First < m then r.First + (m - r.First + r.Every - 1) / r.Every * r.Every else r.First) = t at *
    have g2 := (hN.at_.ext hw2).n
    simp only [Rule.cs, AtN, KS, Nat.reduceAdd, Nat.reduceMul, Nat.reduceEqDiff, ↓reduceIte, UT] at g2
    (repeat first | with_reducible refine Run_seq ?_ | with_reducible refine Run_skip ?_ | with_reducible refine Run_scope ?_ | with_reducible refine Run_label ?_ | with_reducible refine Run_sc ?_ | with_reducible refine Run_block ?_ | with_reducible refine Run_blk ?_ | with_reducible refine Run_exit rfl ?_ | (refine Run_region (by kernel_rfl) fun _ => ?_; simp only [KS, Nat.reduceAdd, Nat.reduceMul, Nat.reduceEqDiff, ↓reduceIte, UT, g2]) | (refine Run_drawn mixed (by kernel_rfl) (by kernel_rfl) fun _ => ?_; simp only [KS, Nat.reduceAdd, Nat.reduceMul, Nat.reduceEqDiff, ↓reduceIte, UT, g2]) | refine And.intro (by first | assumption | omega | (intros; omega)) ?_)
    refine Run_cond (fun _ => rfl) (fun h3 => ?_) (fun h3 => ?_)
    · simp at h3
      (repeat first | with_reducible refine Run_seq ?_ | with_reducible refine Run_skip ?_ | with_reducible refine Run_scope ?_ | with_reducible refine Run_label ?_ | with_reducible refine Run_sc ?_ | with_reducible refine Run_block ?_ | with_reducible refine Run_blk ?_ | with_reducible refine Run_exit rfl ?_ | (refine Run_region (by kernel_rfl) fun _ => ?_; simp only [KS, Nat.reduceAdd, Nat.reduceMul, Nat.reduceEqDiff, ↓reduceIte, UT]) | (refine Run_drawn mixed (by kernel_rfl) (by kernel_rfl) fun _ => ?_; simp only [KS, Nat.reduceAdd, Nat.reduceMul, Nat.reduceEqDiff, ↓reduceIte, UT]) | refine And.intro (by first | assumption | omega | (intros; omega)) ?_)
      refine Run_ret ?_
      rw [if_pos h3] at ha
      simp [Rets, RetM, resV, fnd, oneOr, hw1.trans hw2, ha]
    · simp at h3
      (repeat first | with_reducible refine Run_seq ?_ | with_reducible refine Run_skip ?_ | with_reducible refine Run_scope ?_ | with_reducible refine Run_label ?_ | with_reducible refine Run_sc ?_ | with_reducible refine Run_block ?_ | with_reducible refine Run_blk ?_ | with_reducible refine Run_exit rfl ?_ | (refine Run_region (by kernel_rfl) fun _ => ?_; simp only [KS, Nat.reduceAdd, Nat.reduceMul, Nat.reduceEqDiff, ↓reduceIte, UT]) | (refine Run_drawn mixed (by kernel_rfl) (by kernel_rfl) fun _ => ?_; simp only [KS, Nat.reduceAdd, Nat.reduceMul, Nat.reduceEqDiff, ↓reduceIte, UT]) | refine And.intro (by first | assumption | omega | (intros; omega)) ?_)
      refine Run_ret ?_
      rw [if_neg (by omega)] at ha
      simp [Rets, RetM, resV, fnd, oneOr, hw1.trans hw2, ha]
end Go.Proofs.Ytcncbmdkifdggaa
