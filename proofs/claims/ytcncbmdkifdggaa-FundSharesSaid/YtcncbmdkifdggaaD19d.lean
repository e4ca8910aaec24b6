/- Chapter 19: the reference's next, Departs, Next and Moments. -/
import Derived.Test.YtcncbmdkifdggaaD19b
import Derived.Test.YtcncbmdkifdggaaD19c
namespace Go.Proofs.Ytcncbmdkifdggaa
open Go Go.Fk
set_option linter.unusedSimpArgs false
set_option linter.unusedVariables false
set_option pp.deepTerms false
set_option maxRecDepth 100000

theorem fit {rules : List Rule} {off : List Gap} (h : Cal.Ok rules off) {k : Nat} (hk : k < rules.length) : RuleFit rules[k] := h.r _ (List.getElem_mem hk)

theorem refDeparts (va vb : Value) (rules : List Rule) (off : List Gap) (m : Int) (w : World) (hx : Sl w va rules) (hy : Sl w vb off) (hok : Cal.Ok rules off) (h0 : 0 ≤ m) (hm : m ≤ 2097152) :
    Calls Try.prog 82 #[va, vb, .int .i64 m] w fun e w' => e = .returned (.bool (Cal.departs rules off m)) ∧ Ext w w' := by
  have nr := hok.nr
  have no := hok.no
  refine Calls_of_Run (args := [va, vb, .int .i64 m]) (n := 62) (rs := [.tmp 6]) Try.func82 rfl rfl rfl (by simp) ?_
  (repeat first | with_reducible refine Run_seq ?_ | with_reducible refine Run_skip ?_ | with_reducible refine Run_scope ?_ | with_reducible refine Run_label ?_ | with_reducible refine Run_sc ?_ | with_reducible refine Run_block ?_ | with_reducible refine Run_blk ?_ | with_reducible refine Run_exit rfl ?_ | (refine Run_region (by kernel_rfl) fun _ => ?_; simp only [KS, Nat.reduceAdd, Nat.reduceMul, Nat.reduceEqDiff, ↓reduceIte, UT, hx.s, hy.s, hx.len, hy.len]) | (refine Run_drawn mixed (by kernel_rfl) (by kernel_rfl) fun _ => ?_; simp only [KS, Nat.reduceAdd, Nat.reduceMul, Nat.reduceEqDiff, ↓reduceIte, UT, hx.s, hy.s, hx.len, hy.len]) | refine And.intro (by first | assumption | omega | (intros; omega)) ?_)
  refine Run_loop (σ := Nat) (fun k => [(0, some va), (1, some vb), (2, some (.int .i64 m)), (7, some (.int .i64 k))]) (fun k w' => k ≤ off.length ∧ off.any (Cal.inGap · m) = (off.drop k).any (Cal.inGap · m) ∧ Ext w w') (fun k => off.length - k) 0 (by simp [SubB, fnd]) ⟨by omega, by simp, Ext.refl w⟩ ?_
  rintro k w' ⟨hk, ht, hw⟩
  (repeat first | with_reducible refine Run_seq ?_ | with_reducible refine Run_skip ?_ | with_reducible refine Run_scope ?_ | with_reducible refine Run_label ?_ | with_reducible refine Run_sc ?_ | with_reducible refine Run_block ?_ | with_reducible refine Run_blk ?_ | with_reducible refine Run_exit rfl ?_ | (refine Run_region (by kernel_rfl) fun _ => ?_; simp only [KS, Nat.reduceAdd, Nat.reduceMul, Nat.reduceEqDiff, ↓reduceIte, UT, hy.s, hy.len]) | (refine Run_drawn mixed (by kernel_rfl) (by kernel_rfl) fun _ => ?_; simp only [KS, Nat.reduceAdd, Nat.reduceMul, Nat.reduceEqDiff, ↓reduceIte, UT, hy.s, hy.len]) | refine And.intro (by first | assumption | omega | (intros; omega)) ?_)
  refine Run_cond (fun _ => rfl) (fun h1 => ?_) (fun h1 => ?_)
  · simp at h1
    obtain ⟨f1, f2⟩ := (hy.ext hw).gap h1
    simp only [Gap.cs, AtN, KS, Nat.reduceAdd, Nat.reduceMul, Nat.reduceEqDiff, ↓reduceIte, UT] at f1
    (repeat first | with_reducible refine Run_seq ?_ | with_reducible refine Run_skip ?_ | with_reducible refine Run_scope ?_ | with_reducible refine Run_label ?_ | with_reducible refine Run_sc ?_ | with_reducible refine Run_block ?_ | with_reducible refine Run_blk ?_ | with_reducible refine Run_exit rfl ?_ | (refine Run_region (by kernel_rfl) fun _ => ?_; simp only [KS, Nat.reduceAdd, Nat.reduceMul, Nat.reduceEqDiff, ↓reduceIte, UT, (hy.ext hw).s, hy.len, f1]) | (refine Run_drawn mixed (by kernel_rfl) (by kernel_rfl) fun _ => ?_; simp only [KS, Nat.reduceAdd, Nat.reduceMul, Nat.reduceEqDiff, ↓reduceIte, UT, (hy.ext hw).s, hy.len, f1]) | refine And.intro (by first | assumption | omega | (intros; omega)) ?_)
    have ha : (off.drop k).any (Cal.inGap · m) = (Cal.inGap off[k] m || (off.drop (k + 1)).any (Cal.inGap · m)) := by rw [List.drop_eq_getElem_cons h1, List.any_cons]
    refine Run_cond (fun _ => rfl) (fun h2 => ?_) (fun h2 => ?_)
    · (repeat first | with_reducible refine Run_seq ?_ | with_reducible refine Run_skip ?_ | with_reducible refine Run_scope ?_ | with_reducible refine Run_label ?_ | with_reducible refine Run_sc ?_ | with_reducible refine Run_block ?_ | with_reducible refine Run_blk ?_ | with_reducible refine Run_exit rfl ?_ | (refine Run_region (by kernel_rfl) fun _ => ?_; simp only [KS, Nat.reduceAdd, Nat.reduceMul, Nat.reduceEqDiff, ↓reduceIte, UT]) | (refine Run_drawn mixed (by kernel_rfl) (by kernel_rfl) fun _ => ?_; simp only [KS, Nat.reduceAdd, Nat.reduceMul, Nat.reduceEqDiff, ↓reduceIte, UT]) | refine And.intro (by first | assumption | omega | (intros; omega)) ?_)
      refine Run_ret ?_
      have : Cal.departs rules off m = false := by
        have : Cal.inGap off[k] m = true := by simp [Cal.inGap] at h2 ⊢; omega
        simp only [Cal.departs, ht, ha, this, Bool.true_or, Bool.not_true, Bool.false_and]
      simp [Rets, RetM, resV, fnd, oneOr, hw, this]
    · (repeat first | with_reducible refine Run_seq ?_ | with_reducible refine Run_skip ?_ | with_reducible refine Run_scope ?_ | with_reducible refine Run_label ?_ | with_reducible refine Run_sc ?_ | with_reducible refine Run_block ?_ | with_reducible refine Run_blk ?_ | with_reducible refine Run_exit rfl ?_ | (refine Run_region (by kernel_rfl) fun _ => ?_; simp only [KS, Nat.reduceAdd, Nat.reduceMul, Nat.reduceEqDiff, ↓reduceIte, UT]) | (refine Run_drawn mixed (by kernel_rfl) (by kernel_rfl) fun _ => ?_; simp only [KS, Nat.reduceAdd, Nat.reduceMul, Nat.reduceEqDiff, ↓reduceIte, UT]) | refine And.intro (by first | assumption | omega | (intros; omega)) ?_)
      have : Cal.inGap off[k] m = false := by simp [Cal.inGap] at h2 ⊢; omega
      refine Run_lp ⟨k + 1, ?_, ⟨by omega, ?_, hw⟩, by omega⟩
      · simp [SubB, fnd, wrap_in (x := (k : Int) + 1) (by omega) (by omega)]
      · rw [ht, ha, this, Bool.false_or]
  · simp at h1
    obtain rfl : k = off.length := by omega
    have hng : off.any (Cal.inGap · m) = false := by rw [ht]; simp
    have hd : Cal.departs rules off m = rules.any (Cal.ruleAt · m) := by simp only [Cal.departs, hng, Bool.not_false, Bool.true_and]
    clear ht
    (repeat first | with_reducible refine Run_seq ?_ | with_reducible refine Run_skip ?_ | with_reducible refine Run_scope ?_ | with_reducible refine Run_label ?_ | with_reducible refine Run_sc ?_ | with_reducible refine Run_block ?_ | with_reducible refine Run_blk ?_ | with_reducible refine Run_exit rfl ?_ | (refine Run_region (by kernel_rfl) fun _ => ?_; simp only [KS, Nat.reduceAdd, Nat.reduceMul, Nat.reduceEqDiff, ↓reduceIte, UT]) | (refine Run_drawn mixed (by kernel_rfl) (by kernel_rfl) fun _ => ?_; simp only [KS, Nat.reduceAdd, Nat.reduceMul, Nat.reduceEqDiff, ↓reduceIte, UT]) | refine And.intro (by first | assumption | omega | (intros; omega)) ?_)
    refine Run_loop (σ := Nat) (fun k => [(0, some va), (2, some (.int .i64 m)), (8, some (.int .i64 k))]) (fun k w' => k ≤ rules.length ∧ rules.any (Cal.ruleAt · m) = (rules.drop k).any (Cal.ruleAt · m) ∧ Ext w w') (fun k => rules.length - k) 0 (by simp [SubB, fnd]) ⟨by omega, by simp, hw⟩ ?_
    rintro k w2 ⟨hk, ht, hw2⟩
    (repeat first | with_reducible refine Run_seq ?_ | with_reducible refine Run_skip ?_ | with_reducible refine Run_scope ?_ | with_reducible refine Run_label ?_ | with_reducible refine Run_sc ?_ | with_reducible refine Run_block ?_ | with_reducible refine Run_blk ?_ | with_reducible refine Run_exit rfl ?_ | (refine Run_region (by kernel_rfl) fun _ => ?_; simp only [KS, Nat.reduceAdd, Nat.reduceMul, Nat.reduceEqDiff, ↓reduceIte, UT, hx.s, hx.len]) | (refine Run_drawn mixed (by kernel_rfl) (by kernel_rfl) fun _ => ?_; simp only [KS, Nat.reduceAdd, Nat.reduceMul, Nat.reduceEqDiff, ↓reduceIte, UT, hx.s, hx.len]) | refine And.intro (by first | assumption | omega | (intros; omega)) ?_)
    refine Run_cond (fun _ => rfl) (fun h1 => ?_) (fun h1 => ?_)
    · simp at h1
      obtain ⟨f1, f2⟩ := (hx.ext hw2).rule h1
      obtain ⟨r0, r1, r2, r3, r4⟩ := fit hok h1
      simp only [Rule.cs, AtN, KS, Nat.reduceAdd, Nat.reduceMul, Nat.reduceEqDiff, ↓reduceIte, UT] at f1
      (repeat first | with_reducible refine Run_seq ?_ | with_reducible refine Run_skip ?_ | with_reducible refine Run_scope ?_ | with_reducible refine Run_label ?_ | with_reducible refine Run_sc ?_ | with_reducible refine Run_block ?_ | with_reducible refine Run_blk ?_ | with_reducible refine Run_exit rfl ?_ | (refine Run_region (by kernel_rfl) fun _ => ?_; simp only [KS, Nat.reduceAdd, Nat.reduceMul, Nat.reduceEqDiff, ↓reduceIte, UT, hx.s, hx.len, f1]) | (refine Run_drawn mixed (by kernel_rfl) (by kernel_rfl) fun _ => ?_; simp only [KS, Nat.reduceAdd, Nat.reduceMul, Nat.reduceEqDiff, ↓reduceIte, UT, hx.s, hx.len, f1]) | refine And.intro (by first | assumption | omega | (intros; omega)) ?_)
      refine SemW_var ti84 rfl rfl (by decide) rfl fun p w3 hN => ?_
      have g1 := hN.at_.n
      simp only [AtN, KS, Nat.reduceAdd, Nat.reduceMul, Nat.reduceEqDiff, ↓reduceIte, UT] at g1
      have hw3 := hw2.trans hN.ext
      (repeat first | with_reducible refine Run_seq ?_ | with_reducible refine Run_skip ?_ | with_reducible refine Run_scope ?_ | with_reducible refine Run_label ?_ | with_reducible refine Run_sc ?_ | with_reducible refine Run_block ?_ | with_reducible refine Run_blk ?_ | with_reducible refine Run_exit rfl ?_ | (refine Run_region (by kernel_rfl) fun _ => ?_; simp only [KS, Nat.reduceAdd, Nat.reduceMul, Nat.reduceEqDiff, ↓reduceIte, UT, g1]) | (refine Run_drawn mixed (by kernel_rfl) (by kernel_rfl) fun _ => ?_; simp only [KS, Nat.reduceAdd, Nat.reduceMul, Nat.reduceEqDiff, ↓reduceIte, UT, g1]) | refine And.intro (by first | assumption | omega | (intros; omega)) ?_)
      have ha : (rules.drop k).any (Cal.ruleAt · m) = (Cal.ruleAt rules[k] m || (rules.drop (k + 1)).any (Cal.ruleAt · m)) := by rw [List.drop_eq_getElem_cons h1, List.any_cons]
      have hv : (decide (rules[k].First ≤ m) && decide (m < rules[k].Until) && ((IntKind.i64.wrap (m - rules[k].First)).tmod rules[k].Every == 0)) = Cal.ruleAt rules[k] m := by
        rw [wrap_in (x := m - rules[k].First) (by omega) (by omega)]
        by_cases c : rules[k].First ≤ m
        · rw [tmod_eq (by omega), Bool.eq_iff_iff]
          simp [Cal.ruleAt, c]
        · simp [Cal.ruleAt, c]
      rw [hv]
      refine Run_cond (fun _ => rfl) (fun h2 => ?_) (fun h2 => ?_)
      · (repeat first | with_reducible refine Run_seq ?_ | with_reducible refine Run_skip ?_ | with_reducible refine Run_scope ?_ | with_reducible refine Run_label ?_ | with_reducible refine Run_sc ?_ | with_reducible refine Run_block ?_ | with_reducible refine Run_blk ?_ | with_reducible refine Run_exit rfl ?_ | (refine Run_region (by kernel_rfl) fun _ => ?_; simp only [KS, Nat.reduceAdd, Nat.reduceMul, Nat.reduceEqDiff, ↓reduceIte, UT]) | (refine Run_drawn mixed (by kernel_rfl) (by kernel_rfl) fun _ => ?_; simp only [KS, Nat.reduceAdd, Nat.reduceMul, Nat.reduceEqDiff, ↓reduceIte, UT]) | refine And.intro (by first | assumption | omega | (intros; omega)) ?_)
        refine Run_ret ?_
        have : Cal.departs rules off m = true := by rw [hd, ht, ha, h2, Bool.true_or]
        simp [Rets, RetM, resV, fnd, oneOr, hw3, this]
      · (repeat first | with_reducible refine Run_seq ?_ | with_reducible refine Run_skip ?_ | with_reducible refine Run_scope ?_ | with_reducible refine Run_label ?_ | with_reducible refine Run_sc ?_ | with_reducible refine Run_block ?_ | with_reducible refine Run_blk ?_ | with_reducible refine Run_exit rfl ?_ | (refine Run_region (by kernel_rfl) fun _ => ?_; simp only [KS, Nat.reduceAdd, Nat.reduceMul, Nat.reduceEqDiff, ↓reduceIte, UT]) | (refine Run_drawn mixed (by kernel_rfl) (by kernel_rfl) fun _ => ?_; simp only [KS, Nat.reduceAdd, Nat.reduceMul, Nat.reduceEqDiff, ↓reduceIte, UT]) | refine And.intro (by first | assumption | omega | (intros; omega)) ?_)
        refine Run_lp ⟨k + 1, ?_, ⟨by omega, ?_, hw3⟩, by omega⟩
        · simp [SubB, fnd, wrap_in (x := (k : Int) + 1) (by omega) (by omega)]
        · rw [ht, ha, h2, Bool.false_or]
    · simp at h1
      obtain rfl : k = rules.length := by omega
      (repeat first | with_reducible refine Run_seq ?_ | with_reducible refine Run_skip ?_ | with_reducible refine Run_scope ?_ | with_reducible refine Run_label ?_ | with_reducible refine Run_sc ?_ | with_reducible refine Run_block ?_ | with_reducible refine Run_blk ?_ | with_reducible refine Run_exit rfl ?_ | (refine Run_region (by kernel_rfl) fun _ => ?_; simp only [KS, Nat.reduceAdd, Nat.reduceMul, Nat.reduceEqDiff, ↓reduceIte, UT]) | (refine Run_drawn mixed (by kernel_rfl) (by kernel_rfl) fun _ => ?_; simp only [KS, Nat.reduceAdd, Nat.reduceMul, Nat.reduceEqDiff, ↓reduceIte, UT]) | refine And.intro (by first | assumption | omega | (intros; omega)) ?_)
      refine Run_ret ?_
      have : Cal.departs rules off m = false := by rw [hd, ht]; simp
      simp [Rets, RetM, resV, fnd, oneOr, hw2, this]

theorem refnext (va vb : Value) (rules : List Rule) (off : List Gap) (m : Int) (w : World) (hx : Sl w va rules) (hy : Sl w vb off) (hok : Cal.Ok rules off) (h0 : 0 ≤ m) (hm : m ≤ 2097152) :
    Calls Try.prog 73 #[va, vb, .int .i64 m] w fun e w' => e = .returned (.int .i64 (Cal.nxt rules off m)) ∧ Ext w w' := by
  have nr := hok.nr
  have no := hok.no
  refine Calls_of_Run (args := [va, vb, .int .i64 m]) (n := 58) (rs := [.tmp 6]) Try.func73 rfl rfl rfl (by simp) ?_
  (repeat first | with_reducible refine Run_seq ?_ | with_reducible refine Run_skip ?_ | with_reducible refine Run_scope ?_ | with_reducible refine Run_label ?_ | with_reducible refine Run_sc ?_ | with_reducible refine Run_block ?_ | with_reducible refine Run_blk ?_ | with_reducible refine Run_exit rfl ?_ | (refine Run_region (by kernel_rfl) fun _ => ?_; simp only [KS, Nat.reduceAdd, Nat.reduceMul, Nat.reduceEqDiff, ↓reduceIte, UT, hx.s, hy.s, hx.len, hy.len]) | (refine Run_drawn mixed (by kernel_rfl) (by kernel_rfl) fun _ => ?_; simp only [KS, Nat.reduceAdd, Nat.reduceMul, Nat.reduceEqDiff, ↓reduceIte, UT, hx.s, hy.s, hx.len, hy.len]) | refine And.intro (by first | assumption | omega | (intros; omega)) ?_)
  refine Run_loop (σ := Int) (fun a => [(0, some va), (1, some vb), (2, some (.int .i64 a))]) (fun a w' => 0 ≤ a ∧ a ≤ 2097152 ∧ Cal.nxt rules off m = Cal.nxt rules off a ∧ Ext w w') (fun a => (2097152 - a).toNat) m (by simp [SubB, fnd]) ⟨h0, hm, rfl, Ext.refl w⟩ ?_
  rintro a w' ⟨a0, a1, hn, hw⟩
  (repeat first | with_reducible refine Run_seq ?_ | with_reducible refine Run_skip ?_ | with_reducible refine Run_scope ?_ | with_reducible refine Run_label ?_ | with_reducible refine Run_sc ?_ | with_reducible refine Run_block ?_ | with_reducible refine Run_blk ?_ | with_reducible refine Run_exit rfl ?_ | (refine Run_region (by kernel_rfl) fun _ => ?_; simp only [KS, Nat.reduceAdd, Nat.reduceMul, Nat.reduceEqDiff, ↓reduceIte, UT]) | (refine Run_drawn mixed (by kernel_rfl) (by kernel_rfl) fun _ => ?_; simp only [KS, Nat.reduceAdd, Nat.reduceMul, Nat.reduceEqDiff, ↓reduceIte, UT]) | refine And.intro (by first | assumption | omega | (intros; omega)) ?_)
  refine Run_cond (fun _ => rfl) (fun h1 => ?_) (fun h1 => ?_)
  · simp at h1
    (repeat first | with_reducible refine Run_seq ?_ | with_reducible refine Run_skip ?_ | with_reducible refine Run_scope ?_ | with_reducible refine Run_label ?_ | with_reducible refine Run_sc ?_ | with_reducible refine Run_block ?_ | with_reducible refine Run_blk ?_ | with_reducible refine Run_exit rfl ?_ | (refine Run_region (by kernel_rfl) fun _ => ?_; simp only [KS, Nat.reduceAdd, Nat.reduceMul, Nat.reduceEqDiff, ↓reduceIte, UT]) | (refine Run_drawn mixed (by kernel_rfl) (by kernel_rfl) fun _ => ?_; simp only [KS, Nat.reduceAdd, Nat.reduceMul, Nat.reduceEqDiff, ↓reduceIte, UT]) | refine And.intro (by first | assumption | omega | (intros; omega)) ?_)
    refine Run_loop (σ := Nat) (fun k => [(0, some va), (1, some vb), (2, some (.int .i64 a)), (7, some (.int .i64 (Cal.firstR (rules.take k) a))), (8, some (.int .i64 k))]) (fun k w' => k ≤ rules.length ∧ Ext w w') (fun k => rules.length - k) 0 (by simp [SubB, fnd, Cal.firstR]) ⟨by omega, hw⟩ ?_
    rintro k w2 ⟨hk, hw2⟩
    (repeat first | with_reducible refine Run_seq ?_ | with_reducible refine Run_skip ?_ | with_reducible refine Run_scope ?_ | with_reducible refine Run_label ?_ | with_reducible refine Run_sc ?_ | with_reducible refine Run_block ?_ | with_reducible refine Run_blk ?_ | with_reducible refine Run_exit rfl ?_ | (refine Run_region (by kernel_rfl) fun _ => ?_; simp only [KS, Nat.reduceAdd, Nat.reduceMul, Nat.reduceEqDiff, ↓reduceIte, UT, hx.s, hx.len]) | (refine Run_drawn mixed (by kernel_rfl) (by kernel_rfl) fun _ => ?_; simp only [KS, Nat.reduceAdd, Nat.reduceMul, Nat.reduceEqDiff, ↓reduceIte, UT, hx.s, hx.len]) | refine And.intro (by first | assumption | omega | (intros; omega)) ?_)
    refine Run_cond (fun _ => rfl) (fun h2 => ?_) (fun h2 => ?_)
    · simp at h2
      obtain ⟨f1, f2⟩ := (hx.ext hw2).rule h2
      simp only [Rule.cs, AtN, KS, Nat.reduceAdd, Nat.reduceMul, Nat.reduceEqDiff, ↓reduceIte, UT] at f1
      (repeat first | with_reducible refine Run_seq ?_ | with_reducible refine Run_skip ?_ | with_reducible refine Run_scope ?_ | with_reducible refine Run_label ?_ | with_reducible refine Run_sc ?_ | with_reducible refine Run_block ?_ | with_reducible refine Run_blk ?_ | with_reducible refine Run_exit rfl ?_ | (refine Run_region (by kernel_rfl) fun _ => ?_; simp only [KS, Nat.reduceAdd, Nat.reduceMul, Nat.reduceEqDiff, ↓reduceIte, UT, hx.s, hx.len, f1]) | (refine Run_drawn mixed (by kernel_rfl) (by kernel_rfl) fun _ => ?_; simp only [KS, Nat.reduceAdd, Nat.reduceMul, Nat.reduceEqDiff, ↓reduceIte, UT, hx.s, hx.len, f1]) | refine And.intro (by first | assumption | omega | (intros; omega)) ?_)
      refine CallW_pure call84 (refLeast rules[k] a w2 (fit hok h2) a0 a1) fun w3 hw3 => ?_
      simp only [KS, Nat.reduceAdd, Nat.reduceMul, Nat.reduceEqDiff, ↓reduceIte, UT]
      (repeat first | with_reducible refine Run_seq ?_ | with_reducible refine Run_skip ?_ | with_reducible refine Run_scope ?_ | with_reducible refine Run_label ?_ | with_reducible refine Run_sc ?_ | with_reducible refine Run_block ?_ | with_reducible refine Run_blk ?_ | with_reducible refine Run_exit rfl ?_ | (refine Run_region (by kernel_rfl) fun _ => ?_; simp only [KS, Nat.reduceAdd, Nat.reduceMul, Nat.reduceEqDiff, ↓reduceIte, UT]) | (refine Run_drawn mixed (by kernel_rfl) (by kernel_rfl) fun _ => ?_; simp only [KS, Nat.reduceAdd, Nat.reduceMul, Nat.reduceEqDiff, ↓reduceIte, UT]) | refine And.intro (by first | assumption | omega | (intros; omega)) ?_)
      refine Run_lp ⟨k + 1, ?_, ⟨by omega, hw2.trans hw3⟩, by omega⟩
      simp [SubB, fnd, wrap_in (x := (k : Int) + 1) (by omega) (by omega), Cal.firstR_take h2]
    · simp at h2
      obtain rfl : k = rules.length := by omega
      rw [List.take_length]
      obtain ⟨s1, s2, s3, s4⟩ := Cal.firstR_spec hok.r (m := a) (by omega)
      have hn2 := Cal.nxt_rules hok (m := a) (by omega)
      have hit := Cal.nxt_hit hok (m := a) (by omega)
      rw [hn2] at hn
      generalize Cal.firstR rules a = t at *
      (repeat first | with_reducible refine Run_seq ?_ | with_reducible refine Run_skip ?_ | with_reducible refine Run_scope ?_ | with_reducible refine Run_label ?_ | with_reducible refine Run_sc ?_ | with_reducible refine Run_block ?_ | with_reducible refine Run_blk ?_ | with_reducible refine Run_exit rfl ?_ | (refine Run_region (by kernel_rfl) fun _ => ?_; simp only [KS, Nat.reduceAdd, Nat.reduceMul, Nat.reduceEqDiff, ↓reduceIte, UT]) | (refine Run_drawn mixed (by kernel_rfl) (by kernel_rfl) fun _ => ?_; simp only [KS, Nat.reduceAdd, Nat.reduceMul, Nat.reduceEqDiff, ↓reduceIte, UT]) | refine And.intro (by first | assumption | omega | (intros; omega)) ?_)
      refine Run_loop (σ := Nat × Int) (fun s => [(0, some va), (1, some vb), (2, some (.int .i64 s.2)), (7, some (.int .i64 t)), (9, some (.int .i64 s.1))])
        (fun s w' => s.1 ≤ off.length ∧ ((s.2 = t ∧ (off.take s.1).any (Cal.inGap · t) = false) ∨ (t < s.2 ∧ ∃ g ∈ off, Cal.inGap g t = true ∧ s.2 = g.Until)) ∧ Ext w w') (fun s => off.length - s.1) (0, t) (by simp [SubB, fnd]) ⟨by simp, by simp, hw2⟩ ?_
      rintro ⟨k, b⟩ w3 ⟨hk3, hb, hw3⟩
      simp only at hk3 hb
      (repeat first | with_reducible refine Run_seq ?_ | with_reducible refine Run_skip ?_ | with_reducible refine Run_scope ?_ | with_reducible refine Run_label ?_ | with_reducible refine Run_sc ?_ | with_reducible refine Run_block ?_ | with_reducible refine Run_blk ?_ | with_reducible refine Run_exit rfl ?_ | (refine Run_region (by kernel_rfl) fun _ => ?_; simp only [KS, Nat.reduceAdd, Nat.reduceMul, Nat.reduceEqDiff, ↓reduceIte, UT, hy.s, hy.len]) | (refine Run_drawn mixed (by kernel_rfl) (by kernel_rfl) fun _ => ?_; simp only [KS, Nat.reduceAdd, Nat.reduceMul, Nat.reduceEqDiff, ↓reduceIte, UT, hy.s, hy.len]) | refine And.intro (by first | assumption | omega | (intros; omega)) ?_)
      refine Run_cond (fun _ => rfl) (fun h3 => ?_) (fun h3 => ?_)
      · simp at h3
        obtain ⟨f1, f2⟩ := (hy.ext hw3).gap h3
        simp only [Gap.cs, AtN, KS, Nat.reduceAdd, Nat.reduceMul, Nat.reduceEqDiff, ↓reduceIte, UT] at f1
        (repeat first | with_reducible refine Run_seq ?_ | with_reducible refine Run_skip ?_ | with_reducible refine Run_scope ?_ | with_reducible refine Run_label ?_ | with_reducible refine Run_sc ?_ | with_reducible refine Run_block ?_ | with_reducible refine Run_blk ?_ | with_reducible refine Run_exit rfl ?_ | (refine Run_region (by kernel_rfl) fun _ => ?_; simp only [KS, Nat.reduceAdd, Nat.reduceMul, Nat.reduceEqDiff, ↓reduceIte, UT, hy.s, hy.len, f1]) | (refine Run_drawn mixed (by kernel_rfl) (by kernel_rfl) fun _ => ?_; simp only [KS, Nat.reduceAdd, Nat.reduceMul, Nat.reduceEqDiff, ↓reduceIte, UT, hy.s, hy.len, f1]) | refine And.intro (by first | assumption | omega | (intros; omega)) ?_)
        refine Run_cond (fun _ => rfl) (fun h4 => ?_) (fun h4 => ?_)
        · simp at h4
          have hi : Cal.inGap off[k] t = true := by simp [Cal.inGap]; omega
          (repeat first | with_reducible refine Run_seq ?_ | with_reducible refine Run_skip ?_ | with_reducible refine Run_scope ?_ | with_reducible refine Run_label ?_ | with_reducible refine Run_sc ?_ | with_reducible refine Run_block ?_ | with_reducible refine Run_blk ?_ | with_reducible refine Run_exit rfl ?_ | (refine Run_region (by kernel_rfl) fun _ => ?_; simp only [KS, Nat.reduceAdd, Nat.reduceMul, Nat.reduceEqDiff, ↓reduceIte, UT, hy.s, hy.len, f1]) | (refine Run_drawn mixed (by kernel_rfl) (by kernel_rfl) fun _ => ?_; simp only [KS, Nat.reduceAdd, Nat.reduceMul, Nat.reduceEqDiff, ↓reduceIte, UT, hy.s, hy.len, f1]) | refine And.intro (by first | assumption | omega | (intros; omega)) ?_)
          refine Run_lp ⟨(k + 1, off[k].Until), ?_, ⟨by simp; omega, .inr ⟨by simp; omega, off[k], List.getElem_mem h3, hi, rfl⟩, hw3⟩, by simp; omega⟩
          simp [SubB, fnd, wrap_in (x := (k : Int) + 1) (by omega) (by omega)]
        · have hi : Cal.inGap off[k] t = false := by simp [Cal.inGap] at h4 ⊢; omega
          (repeat first | with_reducible refine Run_seq ?_ | with_reducible refine Run_skip ?_ | with_reducible refine Run_scope ?_ | with_reducible refine Run_label ?_ | with_reducible refine Run_sc ?_ | with_reducible refine Run_block ?_ | with_reducible refine Run_blk ?_ | with_reducible refine Run_exit rfl ?_ | (refine Run_region (by kernel_rfl) fun _ => ?_; simp only [KS, Nat.reduceAdd, Nat.reduceMul, Nat.reduceEqDiff, ↓reduceIte, UT]) | (refine Run_drawn mixed (by kernel_rfl) (by kernel_rfl) fun _ => ?_; simp only [KS, Nat.reduceAdd, Nat.reduceMul, Nat.reduceEqDiff, ↓reduceIte, UT]) | refine And.intro (by first | assumption | omega | (intros; omega)) ?_)
          refine Run_lp ⟨(k + 1, b), ?_, ⟨by simp; omega, ?_, hw3⟩, by simp; omega⟩
          · simp [SubB, fnd, wrap_in (x := (k : Int) + 1) (by omega) (by omega)]
          · rcases hb with ⟨e1, e2⟩ | e
            · left
              refine ⟨e1, ?_⟩
              rw [List.take_succ_eq_append_getElem h3, List.any_append, e2]
              simp [hi]
            · exact .inr e
      · simp at h3
        obtain rfl : k = off.length := by omega
        rw [List.take_length] at hb
        (repeat first | with_reducible refine Run_seq ?_ | with_reducible refine Run_skip ?_ | with_reducible refine Run_scope ?_ | with_reducible refine Run_label ?_ | with_reducible refine Run_sc ?_ | with_reducible refine Run_block ?_ | with_reducible refine Run_blk ?_ | with_reducible refine Run_exit rfl ?_ | (refine Run_region (by kernel_rfl) fun _ => ?_; simp only [KS, Nat.reduceAdd, Nat.reduceMul, Nat.reduceEqDiff, ↓reduceIte, UT]) | (refine Run_drawn mixed (by kernel_rfl) (by kernel_rfl) fun _ => ?_; simp only [KS, Nat.reduceAdd, Nat.reduceMul, Nat.reduceEqDiff, ↓reduceIte, UT]) | refine And.intro (by first | assumption | omega | (intros; omega)) ?_)
        refine Run_cond (fun _ => rfl) (fun h4 => ?_) (fun h4 => ?_)
        · simp at h4
          (repeat first | with_reducible refine Run_seq ?_ | with_reducible refine Run_skip ?_ | with_reducible refine Run_scope ?_ | with_reducible refine Run_label ?_ | with_reducible refine Run_sc ?_ | with_reducible refine Run_block ?_ | with_reducible refine Run_blk ?_ | with_reducible refine Run_exit rfl ?_ | (refine Run_region (by kernel_rfl) fun _ => ?_; simp only [KS, Nat.reduceAdd, Nat.reduceMul, Nat.reduceEqDiff, ↓reduceIte, UT]) | (refine Run_drawn mixed (by kernel_rfl) (by kernel_rfl) fun _ => ?_; simp only [KS, Nat.reduceAdd, Nat.reduceMul, Nat.reduceEqDiff, ↓reduceIte, UT]) | refine And.intro (by first | assumption | omega | (intros; omega)) ?_)
          refine Run_ret ?_
          have : Cal.nxt rules off m = t := by
            rw [hn]
            rcases hb with ⟨e1, e2⟩ | ⟨e1, _⟩
            · by_cases c : t < 2097152
              · exact hit c e2
              · rw [Cal.nxt_end (by omega)]; omega
            · omega
          simp [Rets, RetM, resV, fnd, oneOr, hw3, this]
        · simp at h4
          (repeat first | with_reducible refine Run_seq ?_ | with_reducible refine Run_skip ?_ | with_reducible refine Run_scope ?_ | with_reducible refine Run_label ?_ | with_reducible refine Run_sc ?_ | with_reducible refine Run_block ?_ | with_reducible refine Run_blk ?_ | with_reducible refine Run_exit rfl ?_ | (refine Run_region (by kernel_rfl) fun _ => ?_; simp only [KS, Nat.reduceAdd, Nat.reduceMul, Nat.reduceEqDiff, ↓reduceIte, UT]) | (refine Run_drawn mixed (by kernel_rfl) (by kernel_rfl) fun _ => ?_; simp only [KS, Nat.reduceAdd, Nat.reduceMul, Nat.reduceEqDiff, ↓reduceIte, UT]) | refine And.intro (by first | assumption | omega | (intros; omega)) ?_)
          rcases hb with ⟨e1, _⟩ | ⟨e1, g, hg, hi, e2⟩
          · exact (h4 e1).elim
          · have := hok.g g hg
            refine Run_lp ⟨b, ?_, ⟨by omega, by omega, ?_, hw3⟩, by omega⟩
            · simp [SubB, fnd]
            · rw [hn, Cal.nxt_gap hok hg hi, e2]
  · simp at h1
    (repeat first | with_reducible refine Run_seq ?_ | with_reducible refine Run_skip ?_ | with_reducible refine Run_scope ?_ | with_reducible refine Run_label ?_ | with_reducible refine Run_sc ?_ | with_reducible refine Run_block ?_ | with_reducible refine Run_blk ?_ | with_reducible refine Run_exit rfl ?_ | (refine Run_region (by kernel_rfl) fun _ => ?_; simp only [KS, Nat.reduceAdd, Nat.reduceMul, Nat.reduceEqDiff, ↓reduceIte, UT]) | (refine Run_drawn mixed (by kernel_rfl) (by kernel_rfl) fun _ => ?_; simp only [KS, Nat.reduceAdd, Nat.reduceMul, Nat.reduceEqDiff, ↓reduceIte, UT]) | refine And.intro (by first | assumption | omega | (intros; omega)) ?_)
    refine Run_ret ?_
    have : Cal.nxt rules off m = 2097152 := by rw [hn, Cal.nxt_end (by omega)]
    simp [Rets, RetM, resV, fnd, oneOr, hw, this]
end Go.Proofs.Ytcncbmdkifdggaa
