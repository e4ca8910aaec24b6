/- Chapter 19: the reference's Next and Moments. -/
import Derived.Test.YtcncbmdkifdggaaD19d
namespace Go.Proofs.Ytcncbmdkifdggaa
open Go Go.Fk
set_option linter.unusedSimpArgs false
set_option linter.unusedVariables false
set_option pp.deepTerms false
set_option maxRecDepth 100000

/-- what Moments leaves: a slice of its own -/
def MomRet (w : World) (ms : List Int × Int) (e : Ending) (w' : World) : Prop := ∃ v, e = .returned (.tuple #[v, .int .i64 ms.2]) ∧ Ext w w' ∧ Sl w' v ms.1

theorem I64_dep {rules : List Rule} {off : List Gap} {a b x : Int} (h0 : 0 ≤ a) (hab : a ≤ b) (hb : b ≤ 2097152) (h : x ∈ Cal.deps rules off a b) : I64 x := by
  have := (Cal.deps_mem hab).1 h
  unfold I64; omega

theorem Buf.ints {W w : World} {v : Value} {n : Nat} {xs : List Int} (h : Buf 3 1 W w v n (xs.map (Value.int .i64))) (hI : ∀ x ∈ xs, I64 x) (hb : n ≤ 140737488355328) : Sl w v xs := by
  obtain ⟨h1, h2, h3, h4⟩ := ownsRow_val h.own
  have hn : xs.length = n := by simpa using h.own.1
  refine ⟨h1, by omega, by omega, by omega, h4, fun i hi => ⟨_, ⟨rfl, hI _ (List.getElem_mem hi)⟩, ?_⟩⟩
  have ha := ownsRow_at h.own (by simp; omega)
  intro j u hj
  rw [add_add]
  cases j with
  | zero => simp at hj; subst hj; exact ha _ _ (by simp [show i * Enc.n Int + 0 = i from Nat.mul_one i, hi])
  | succ j => simp at hj

theorem refMoments (va vb : Value) (rules : List Rule) (off : List Gap) (a b : Int) (w : World) (hx : Sl w va rules) (hy : Sl w vb off) :
    Calls Try.prog 40 #[va, vb, .int .i64 a, .int .i64 b] w (MomRet w (Cal.moments rules off a b)) := by
  refine Calls_of_Run (args := [va, vb, .int .i64 a, .int .i64 b]) (n := 50) (rs := [.tmp 8, .tmp 9]) Try.func40 rfl rfl rfl (by simp) ?_
  (repeat first | with_reducible refine Run_seq ?_ | with_reducible refine Run_skip ?_ | with_reducible refine Run_scope ?_ | with_reducible refine Run_label ?_ | with_reducible refine Run_sc ?_ | with_reducible refine Run_block ?_ | with_reducible refine Run_blk ?_ | with_reducible refine Run_exit rfl ?_ | (refine Run_region (by kernel_rfl) fun _ => ?_; simp only [KS, Nat.reduceAdd, Nat.reduceMul, Nat.reduceEqDiff, ↓reduceIte, UT]) | (refine Run_drawn mixed (by kernel_rfl) (by kernel_rfl) fun _ => ?_; simp only [KS, Nat.reduceAdd, Nat.reduceMul, Nat.reduceEqDiff, ↓reduceIte, UT]) | refine And.intro (by first | assumption | omega | (intros; omega)) ?_)
  refine CallW_pure call58 (refCheck va vb rules off w hx hy) fun w1 hw1 => ?_
  try simp only [KS, Nat.reduceAdd, Nat.reduceMul, Nat.reduceEqDiff, ↓reduceIte, UT]
  (repeat first | with_reducible refine Run_seq ?_ | with_reducible refine Run_skip ?_ | with_reducible refine Run_scope ?_ | with_reducible refine Run_label ?_ | with_reducible refine Run_sc ?_ | with_reducible refine Run_block ?_ | with_reducible refine Run_blk ?_ | with_reducible refine Run_exit rfl ?_ | (refine Run_region (by kernel_rfl) fun _ => ?_; simp only [KS, Nat.reduceAdd, Nat.reduceMul, Nat.reduceEqDiff, ↓reduceIte, UT]) | (refine Run_drawn mixed (by kernel_rfl) (by kernel_rfl) fun _ => ?_; simp only [KS, Nat.reduceAdd, Nat.reduceMul, Nat.reduceEqDiff, ↓reduceIte, UT]) | refine And.intro (by first | assumption | omega | (intros; omega)) ?_)
  refine Run_cond (fun _ => rfl) (fun h => ?_) (fun h => ?_)
  · simp at h
    (repeat first | with_reducible refine Run_seq ?_ | with_reducible refine Run_skip ?_ | with_reducible refine Run_scope ?_ | with_reducible refine Run_label ?_ | with_reducible refine Run_sc ?_ | with_reducible refine Run_block ?_ | with_reducible refine Run_blk ?_ | with_reducible refine Run_exit rfl ?_ | (refine Run_region (by kernel_rfl) fun _ => ?_; simp only [KS, Nat.reduceAdd, Nat.reduceMul, Nat.reduceEqDiff, ↓reduceIte, UT]) | (refine Run_drawn mixed (by kernel_rfl) (by kernel_rfl) fun _ => ?_; simp only [KS, Nat.reduceAdd, Nat.reduceMul, Nat.reduceEqDiff, ↓reduceIte, UT]) | refine And.intro (by first | assumption | omega | (intros; omega)) ?_)
    refine Run_ret ?_
    simp [Rets, RetM, resV, fnd, oneOr, hw1, Cal.moments, h, MomRet, Sl.nil]
  · simp at h
    have hok := Cal.chk_ok h
    (repeat first | with_reducible refine Run_seq ?_ | with_reducible refine Run_skip ?_ | with_reducible refine Run_scope ?_ | with_reducible refine Run_label ?_ | with_reducible refine Run_sc ?_ | with_reducible refine Run_block ?_ | with_reducible refine Run_blk ?_ | with_reducible refine Run_exit rfl ?_ | (refine Run_region (by kernel_rfl) fun _ => ?_; simp only [KS, Nat.reduceAdd, Nat.reduceMul, Nat.reduceEqDiff, ↓reduceIte, UT]) | (refine Run_drawn mixed (by kernel_rfl) (by kernel_rfl) fun _ => ?_; simp only [KS, Nat.reduceAdd, Nat.reduceMul, Nat.reduceEqDiff, ↓reduceIte, UT]) | refine And.intro (by first | assumption | omega | (intros; omega)) ?_)
    refine Run_cond (fun _ => rfl) (fun h2 => ?_) (fun h2 => ?_)
    · simp at h2
      have h4 : a < 0 ∨ b < a ∨ 2097152 < b := by omega
      (repeat first | with_reducible refine Run_seq ?_ | with_reducible refine Run_skip ?_ | with_reducible refine Run_scope ?_ | with_reducible refine Run_label ?_ | with_reducible refine Run_sc ?_ | with_reducible refine Run_block ?_ | with_reducible refine Run_blk ?_ | with_reducible refine Run_exit rfl ?_ | (refine Run_region (by kernel_rfl) fun _ => ?_; simp only [KS, Nat.reduceAdd, Nat.reduceMul, Nat.reduceEqDiff, ↓reduceIte, UT]) | (refine Run_drawn mixed (by kernel_rfl) (by kernel_rfl) fun _ => ?_; simp only [KS, Nat.reduceAdd, Nat.reduceMul, Nat.reduceEqDiff, ↓reduceIte, UT]) | refine And.intro (by first | assumption | omega | (intros; omega)) ?_)
      refine Run_ret ?_
      simp [Rets, RetM, resV, fnd, oneOr, hw1, Cal.moments, h, h4, MomRet, Sl.nil]
    · simp at h2
      have h4 : ¬ (a < 0 ∨ b < a ∨ 2097152 < b) := by omega
      (repeat first | with_reducible refine Run_seq ?_ | with_reducible refine Run_skip ?_ | with_reducible refine Run_scope ?_ | with_reducible refine Run_label ?_ | with_reducible refine Run_sc ?_ | with_reducible refine Run_block ?_ | with_reducible refine Run_blk ?_ | with_reducible refine Run_exit rfl ?_ | (refine Run_region (by kernel_rfl) fun _ => ?_; simp only [KS, Nat.reduceAdd, Nat.reduceMul, Nat.reduceEqDiff, ↓reduceIte, UT]) | (refine Run_drawn mixed (by kernel_rfl) (by kernel_rfl) fun _ => ?_; simp only [KS, Nat.reduceAdd, Nat.reduceMul, Nat.reduceEqDiff, ↓reduceIte, UT]) | refine And.intro (by first | assumption | omega | (intros; omega)) ?_)
      refine CallW_pure call73 (refnext va vb rules off a w1 (hx.ext hw1) (hy.ext hw1) hok (by omega) (by omega)) fun w2 hw2 => ?_
      try simp only [KS, Nat.reduceAdd, Nat.reduceMul, Nat.reduceEqDiff, ↓reduceIte, UT]
      (repeat first | with_reducible refine Run_seq ?_ | with_reducible refine Run_skip ?_ | with_reducible refine Run_scope ?_ | with_reducible refine Run_label ?_ | with_reducible refine Run_sc ?_ | with_reducible refine Run_block ?_ | with_reducible refine Run_blk ?_ | with_reducible refine Run_exit rfl ?_ | (refine Run_region (by kernel_rfl) fun _ => ?_; simp only [KS, Nat.reduceAdd, Nat.reduceMul, Nat.reduceEqDiff, ↓reduceIte, UT]) | (refine Run_drawn mixed (by kernel_rfl) (by kernel_rfl) fun _ => ?_; simp only [KS, Nat.reduceAdd, Nat.reduceMul, Nat.reduceEqDiff, ↓reduceIte, UT]) | refine And.intro (by first | assumption | omega | (intros; omega)) ?_)
      refine Run_loop (σ := Value × List Int × Int) (fun s => [(0, some va), (1, some vb), (3, some (.int .i64 b)), (11, some s.1), (12, some (.int .i64 (Cal.nxt rules off s.2.2)))])
        (fun s w' => Buf 3 1 w w' s.1 s.2.1.length (s.2.1.map (Value.int .i64)) ∧ s.2.1.length ≤ 2000 ∧ Cal.deps rules off a b = s.2.1 ++ Cal.deps rules off s.2.2 b ∧ a ≤ s.2.2 ∧ s.2.2 ≤ b)
        (fun s => (b - s.2.2).toNat) (.slice none 0 0, [], a) (by simp [SubB, fnd]) ⟨Buf.nil (hw1.trans hw2), by simp, by simp, by simp, by simp; omega⟩ ?_
      rintro ⟨v, acc, c⟩ w3 ⟨hB, hl, hd, hac, hcb⟩
      simp only at hB hl hd hac hcb
      have hw3 := hB.ext
      obtain ⟨i1, i2, i3, i4⟩ := ownsRow_val hB.own
      have hnx := Cal.nxt_spec rules off c
      rw [Cal.deps_nxt (a := c) (by omega)] at hd
      (repeat first | with_reducible refine Run_seq ?_ | with_reducible refine Run_skip ?_ | with_reducible refine Run_scope ?_ | with_reducible refine Run_label ?_ | with_reducible refine Run_sc ?_ | with_reducible refine Run_block ?_ | with_reducible refine Run_blk ?_ | with_reducible refine Run_exit rfl ?_ | (refine Run_region (by kernel_rfl) fun _ => ?_; simp only [KS, Nat.reduceAdd, Nat.reduceMul, Nat.reduceEqDiff, ↓reduceIte, UT]) | (refine Run_drawn mixed (by kernel_rfl) (by kernel_rfl) fun _ => ?_; simp only [KS, Nat.reduceAdd, Nat.reduceMul, Nat.reduceEqDiff, ↓reduceIte, UT]) | refine And.intro (by first | assumption | omega | (intros; omega)) ?_)
      refine Run_cond (fun _ => rfl) (fun h5 => ?_) (fun h5 => ?_)
      · simp at h5
        rw [if_pos h5] at hd
        (repeat first | with_reducible refine Run_seq ?_ | with_reducible refine Run_skip ?_ | with_reducible refine Run_scope ?_ | with_reducible refine Run_label ?_ | with_reducible refine Run_sc ?_ | with_reducible refine Run_block ?_ | with_reducible refine Run_blk ?_ | with_reducible refine Run_exit rfl ?_ | (refine Run_region (by kernel_rfl) fun _ => ?_; simp only [KS, Nat.reduceAdd, Nat.reduceMul, Nat.reduceEqDiff, ↓reduceIte, UT, i1, i2]) | (refine Run_drawn mixed (by kernel_rfl) (by kernel_rfl) fun _ => ?_; simp only [KS, Nat.reduceAdd, Nat.reduceMul, Nat.reduceEqDiff, ↓reduceIte, UT, i1, i2]) | refine And.intro (by first | assumption | omega | (intros; omega)) ?_)
        refine Run_cond (fun _ => rfl) (fun h6 => ?_) (fun h6 => ?_)
        · simp at h6
          (repeat first | with_reducible refine Run_seq ?_ | with_reducible refine Run_skip ?_ | with_reducible refine Run_scope ?_ | with_reducible refine Run_label ?_ | with_reducible refine Run_sc ?_ | with_reducible refine Run_block ?_ | with_reducible refine Run_blk ?_ | with_reducible refine Run_exit rfl ?_ | (refine Run_region (by kernel_rfl) fun _ => ?_; simp only [KS, Nat.reduceAdd, Nat.reduceMul, Nat.reduceEqDiff, ↓reduceIte, UT]) | (refine Run_drawn mixed (by kernel_rfl) (by kernel_rfl) fun _ => ?_; simp only [KS, Nat.reduceAdd, Nat.reduceMul, Nat.reduceEqDiff, ↓reduceIte, UT]) | refine And.intro (by first | assumption | omega | (intros; omega)) ?_)
          refine Run_ret ?_
          have : 2000 < (Cal.deps rules off a b).length := by rw [hd]; simp; omega
          simp [Rets, RetM, resV, fnd, oneOr, Cal.moments, h, h4, this, MomRet, Sl.nil, hw3]
        · simp at h6
          (repeat first | with_reducible refine Run_seq ?_ | with_reducible refine Run_skip ?_ | with_reducible refine Run_scope ?_ | with_reducible refine Run_label ?_ | with_reducible refine Run_sc ?_ | with_reducible refine Run_block ?_ | with_reducible refine Run_blk ?_ | with_reducible refine Run_exit rfl ?_ | (refine Run_region (by kernel_rfl) fun _ => ?_; simp only [KS, Nat.reduceAdd, Nat.reduceMul, Nat.reduceEqDiff, ↓reduceIte, UT]) | (refine Run_drawn mixed (by kernel_rfl) (by kernel_rfl) fun _ => ?_; simp only [KS, Nat.reduceAdd, Nat.reduceMul, Nat.reduceEqDiff, ↓reduceIte, UT]) | refine And.intro (by first | assumption | omega | (intros; omega)) ?_)
          refine SemW_append1 (X := .int .i64 (Cal.nxt rules off c)) Try.underlying25 ti3 rfl (by decide) hB rfl rfl (by unfold maxLen; omega) fun _ v2 w4 hB2 _ _ => ?_
          have hw4 := hB2.ext
          try simp only [KS, Nat.reduceAdd, Nat.reduceMul, Nat.reduceEqDiff, ↓reduceIte, UT]
          (repeat first | with_reducible refine Run_seq ?_ | with_reducible refine Run_skip ?_ | with_reducible refine Run_scope ?_ | with_reducible refine Run_label ?_ | with_reducible refine Run_sc ?_ | with_reducible refine Run_block ?_ | with_reducible refine Run_blk ?_ | with_reducible refine Run_exit rfl ?_ | (refine Run_region (by kernel_rfl) fun _ => ?_; simp only [KS, Nat.reduceAdd, Nat.reduceMul, Nat.reduceEqDiff, ↓reduceIte, UT]) | (refine Run_drawn mixed (by kernel_rfl) (by kernel_rfl) fun _ => ?_; simp only [KS, Nat.reduceAdd, Nat.reduceMul, Nat.reduceEqDiff, ↓reduceIte, UT]) | refine And.intro (by first | assumption | omega | (intros; omega)) ?_)
          have hnx2 : Cal.nxt rules off c + 1 ≤ 2097152 := by omega
          refine CallW_pure call73 (?_ : Calls _ _ #[va, vb, .int .i64 (IntKind.i64.wrap (Cal.nxt rules off c + 1))] _ fun e w' => e = .returned (.int .i64 (Cal.nxt rules off (Cal.nxt rules off c + 1))) ∧ Ext w4 w') fun w5 hw5 => ?_
          · rw [wrap_in (by omega) (by omega)]
            exact refnext va vb rules off _ w4 (hx.ext hw4) (hy.ext hw4) hok (by omega) (by omega)
          try simp only [KS, Nat.reduceAdd, Nat.reduceMul, Nat.reduceEqDiff, ↓reduceIte, UT]
          (repeat first | with_reducible refine Run_seq ?_ | with_reducible refine Run_skip ?_ | with_reducible refine Run_scope ?_ | with_reducible refine Run_label ?_ | with_reducible refine Run_sc ?_ | with_reducible refine Run_block ?_ | with_reducible refine Run_blk ?_ | with_reducible refine Run_exit rfl ?_ | (refine Run_region (by kernel_rfl) fun _ => ?_; simp only [KS, Nat.reduceAdd, Nat.reduceMul, Nat.reduceEqDiff, ↓reduceIte, UT]) | (refine Run_drawn mixed (by kernel_rfl) (by kernel_rfl) fun _ => ?_; simp only [KS, Nat.reduceAdd, Nat.reduceMul, Nat.reduceEqDiff, ↓reduceIte, UT]) | refine And.intro (by first | assumption | omega | (intros; omega)) ?_)
          have hlt : acc.length + 1 ≤ 2000 := by omega
          refine Run_lp ⟨(v2, acc ++ [Cal.nxt rules off c], Cal.nxt rules off c + 1), ?_, ⟨⟨?_, hw4.trans hw5⟩, ?_, ?_, ?_, ?_⟩, ?_⟩
          · simp [SubB, fnd]
          · have := ownsRow_ext hB2.own hw5
            simpa [Value.cells] using this
          · simpa using hlt
          · simpa using hd
          · simp; omega
          · simp; omega
          · simp; omega
      · simp at h5
        rw [if_neg (by omega)] at hd
        (repeat first | with_reducible refine Run_seq ?_ | with_reducible refine Run_skip ?_ | with_reducible refine Run_scope ?_ | with_reducible refine Run_label ?_ | with_reducible refine Run_sc ?_ | with_reducible refine Run_block ?_ | with_reducible refine Run_blk ?_ | with_reducible refine Run_exit rfl ?_ | (refine Run_region (by kernel_rfl) fun _ => ?_; simp only [KS, Nat.reduceAdd, Nat.reduceMul, Nat.reduceEqDiff, ↓reduceIte, UT]) | (refine Run_drawn mixed (by kernel_rfl) (by kernel_rfl) fun _ => ?_; simp only [KS, Nat.reduceAdd, Nat.reduceMul, Nat.reduceEqDiff, ↓reduceIte, UT]) | refine And.intro (by first | assumption | omega | (intros; omega)) ?_)
        refine Run_ret ?_
        have : ¬ 2000 < (Cal.deps rules off a b).length := by rw [hd]; simp; omega
        have hs := Buf.ints hB (fun x hx => I64_dep (rules := rules) (off := off) (a := a) (b := b) (by omega) (by omega) (by omega) (by rw [hd]; simpa using hx)) (by omega)
        rw [List.append_nil] at hd
        have hm : Cal.moments rules off a b = (acc, 0) := by unfold Cal.moments; rw [if_neg (by simp [h]), if_neg h4, if_neg this, hd]
        simp [Rets, RetM, resV, fnd, oneOr, hm, MomRet, hw3, hs]
end Go.Proofs.Ytcncbmdkifdggaa
