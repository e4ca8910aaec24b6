import Derived.Test.YtldjfebokojmfaaGreatRgFacts
import Derived.Test.YtldjfebokojmfaaGreatRgGp
namespace Go.Proofs.YtldjfebokojmfaaGreat
open Go Go.Fk
set_option linter.unusedSimpArgs false
set_option linter.unusedVariables false
set_option pp.deepTerms false
set_option maxRecDepth 100000
theorem jG {Φ H G : Prop} (F : Φ) (h : G) (hs : Φ → G → H := by
      intro hF hG
      first
        | (refine Run_region (by kernel_rfl) fun _ => ?_
           simp only [KS, Nat.reduceAdd, Nat.reduceMul, Nat.reduceEqDiff, ↓reduceIte, UT, hF]
           exact hG)
        | (refine Run_drawn mixed (by kernel_rfl) (by kernel_rfl) fun _ => ?_
           simp only [KS, Nat.reduceAdd, Nat.reduceMul, Nat.reduceEqDiff, ↓reduceIte, UT, hF]
           exact hG)) : H := hs F h
theorem jS {Φ H G : Prop} (F : Φ) (h : G) (hs : Φ → G → H := by
      intro hF hG
      refine Run_region (by kernel_rfl) fun _ => ?_
      simp only [KS, Nat.reduceAdd, Nat.reduceMul, Nat.reduceEqDiff, ↓reduceIte, UT, hF]
      exact hG) : H := hs F h
theorem calCheck (va vb : Value) (rules : List Rule) (off : List Gap) (w : World) (hx : Sl w va rules) (hy : Sl w vb off) :
    Calls Tryz.prog 95 #[va, vb] w fun e w' => e = .returned (.int .i64 (Cal.chk rules off)) ∧ Ext w w' := by
  refine Calls_of_Run (args := [va, vb]) (n := 75) (rs := [.tmp 4]) Tryz.func95 rfl rfl rfl (by simp) ?_
  (repeat first | with_reducible first | refine jy ?_ | refine jG (aa UT (aa hx.s (aa hy.s (aa hx.len hy.len)))) ?_)
  refine Run_cond (fun _ => rfl) (fun h => ?_) (fun h => ?_)
  · (repeat first | with_reducible first | refine jy ?_ | refine jG UT ?_)
    refine Run_ret ?_
    simp at h
    have : Cal.chk rules off = 2 := by unfold Cal.chk; rw [if_pos (by omega)]
    simp [Rets, RetM, resV, fnd, oneOr, Ext.refl, this]
  · simp at h
    have hc : Cal.chk rules off = if rules.all Cal.rOk && Cal.gOk (-1) off then 0 else 190 := by unfold Cal.chk; rw [if_neg (by omega)]
    (repeat first | with_reducible first | refine jy ?_ | refine jG (aa UT (aa hx.s (aa hy.s (aa hx.len hy.len)))) ?_)
    refine Run_loop (σ := Nat) (fun k => [(0, some va), (1, some vb), (18, some va), (19, some (.int .i64 rules.length)), (20, some (.int .i64 k))]) (fun k w' => k ≤ rules.length ∧ rules.all Cal.rOk = (rules.drop k).all Cal.rOk ∧ Ext w w') (fun k => rules.length - k) 0 (by simp [SubB, fnd]) ⟨by omega, by simp, Ext.refl w⟩ ?_
    rintro k w' ⟨hk, ht, hw⟩
    (repeat first | with_reducible first | refine jy ?_ | refine jG UT ?_)
    refine Run_cond (fun _ => rfl) (fun h1 => ?_) (fun h1 => ?_)
    · simp at h1
      obtain ⟨f1, f2⟩ := (hx.ext hw).rule h1
      simp only [Rule.cs, AtN, KS, Nat.reduceAdd, Nat.reduceMul, Nat.reduceEqDiff, ↓reduceIte, UT] at f1
      (repeat first | with_reducible first | refine jy ?_ | refine jG (aa UT (aa (hx.ext hw).s (aa hx.len f1))) ?_)
      refine SemW_var ti78 rfl rfl (by decide) rfl fun p w1 hN => ?_
      have g1 := hN.at_.n
      simp only [AtN, KS, Nat.reduceAdd, Nat.reduceMul, Nat.reduceEqDiff, ↓reduceIte, UT] at g1
      have hw1 := hw.trans hN.ext
      (repeat first | with_reducible first | refine jy ?_ | refine jG (aa UT g1) ?_)
      refine Run_cond (fun _ => rfl) (fun h2 => ?_) (fun h2 => ?_)
      · (repeat first | with_reducible first | refine jy ?_ | refine jG UT ?_)
        refine Run_ret ?_
        have : Cal.chk rules off = 190 := by
          rw [hc, ht, Cal.all_drop _ _ h1]
          have : Cal.rOk rules[k] = false := by simp [Cal.rOk] at h2 ⊢; omega
          simp [this]
        simp [Rets, RetM, resV, fnd, oneOr, hw1, this]
      · (repeat first | with_reducible first | refine jy ?_ | refine jG UT ?_)
        refine Run_lp ⟨k + 1, ?_, ⟨by omega, ?_, hw1⟩, by omega⟩
        · simp [SubB, fnd, wrap_in (x := (k : Int) + 1) (by omega) (by omega)]
        · have : Cal.rOk rules[k] = true := by simp [Cal.rOk] at h2 ⊢; omega
          rw [ht, Cal.all_drop _ _ h1, this, Bool.true_and]
    · simp at h1
      obtain rfl : k = rules.length := by omega
      simp at ht
      rw [show rules.all Cal.rOk = true by simpa using ht, Bool.true_and] at hc
      (repeat first | with_reducible first | refine jy ?_ | refine jG (aa UT (aa hy.s hy.len)) ?_)
      refine Run_loop (σ := Nat × Int) (fun s => [(0, some va), (1, some vb), (50, some vb), (51, some (.int .i64 off.length)), (52, some (.int .i64 s.1)), (7, some (.int .i64 s.2))])
        (fun s w' => s.1 ≤ off.length ∧ Cal.gOk (-1) off = Cal.gOk s.2 (off.drop s.1) ∧ I64 s.2 ∧ Ext w w') (fun s => off.length - s.1) (0, -1) (by simp [SubB, fnd]) ⟨by simp, by simp, by unfold I64; omega, hw⟩ ?_
      rintro ⟨k, b⟩ w2 ⟨hk, hg, hb, hw2⟩
      simp only at hk hg hb
      (repeat first | with_reducible first | refine jy ?_ | refine jG UT ?_)
      refine Run_cond (fun _ => rfl) (fun h1 => ?_) (fun h1 => ?_)
      · simp at h1
        obtain ⟨f1, f2⟩ := (hy.ext hw2).gap h1
        simp only [Gap.cs, AtN, KS, Nat.reduceAdd, Nat.reduceMul, Nat.reduceEqDiff, ↓reduceIte, UT] at f1
        (repeat first | with_reducible first | refine jy ?_ | refine jG (aa UT (aa (hy.ext hw2).s (aa hy.len f1))) ?_)
        refine SemW_var ti162 rfl rfl (by decide) rfl fun p w3 hN => ?_
        have g1 := hN.at_.n
        simp only [AtN, KS, Nat.reduceAdd, Nat.reduceMul, Nat.reduceEqDiff, ↓reduceIte, UT] at g1
        have hw3 := hw2.trans hN.ext
        (repeat first | with_reducible first | refine jy ?_ | refine jG (aa UT g1) ?_)
        refine Run_cond (fun _ => rfl) (fun h2 => ?_) (fun h2 => ?_)
        · (repeat first | with_reducible first | refine jy ?_ | refine jG UT ?_)
          refine Run_ret ?_
          have : Cal.chk rules off = 190 := by
            rw [hc, hg, Cal.gOk_drop _ _ _ h1]
            rw [decide_eq_false (by simp at h2; omega)]
            simp
          simp [Rets, RetM, resV, fnd, oneOr, hw3, this]
        · (repeat first | with_reducible first | refine jy ?_ | refine jG (aa UT g1) ?_)
          refine Run_lp ⟨(k + 1, off[k].Until), ?_, ⟨by simp; omega, ?_, f2.2, hw3⟩, by simp; omega⟩
          · simp [SubB, fnd, wrap_in (x := (k : Int) + 1) (by omega) (by omega)]
          · rw [hg, Cal.gOk_drop _ _ _ h1, decide_eq_true (by simp at h2; omega)]
            simp
      · simp at h1
        obtain rfl : k = off.length := by omega
        (repeat first | with_reducible first | refine jy ?_ | refine jG UT ?_)
        refine Run_ret ?_
        have : Cal.chk rules off = 0 := by rw [hc, hg]; simp [Cal.gOk]
        simp [Rets, RetM, resV, fnd, oneOr, hw2, this]
theorem refCheck (va vb : Value) (rules : List Rule) (off : List Gap) (w : World) (hx : Sl w va rules) (hy : Sl w vb off) :
    Calls Tryz.prog 75 #[va, vb] w fun e w' => e = .returned (.int .i64 (Cal.chk rules off)) ∧ Ext w w' := by
  refine Calls_of_Run (args := [va, vb]) (n := 92) (rs := [.tmp 4]) Tryz.func75 rfl rfl rfl (by simp) ?_
  (repeat first | with_reducible first | refine jy ?_ | refine jG (aa UT (aa hx.s (aa hy.s (aa hx.len hy.len)))) ?_)
  refine Run_cond (fun _ => rfl) (fun h => ?_) (fun h => ?_)
  · (repeat first | with_reducible first | refine jy ?_ | refine jG UT ?_)
    refine Run_ret ?_
    simp at h
    have : Cal.chk rules off = 2 := by unfold Cal.chk; rw [if_pos (by omega)]
    simp [Rets, RetM, resV, fnd, oneOr, Ext.refl, this]
  · simp at h
    have hc : Cal.chk rules off = if rules.all Cal.rOk && Cal.gOk (-1) off then 0 else 190 := by unfold Cal.chk; rw [if_neg (by omega)]
    (repeat first | with_reducible first | refine jy ?_ | refine jG (aa UT (aa hx.s (aa hy.s (aa hx.len hy.len)))) ?_)
    refine Run_loop (σ := Nat) (fun k => [(0, some va), (1, some vb), (5, some (.int .i64 k))]) (fun k w' => k ≤ rules.length ∧ rules.all Cal.rOk = (rules.drop k).all Cal.rOk ∧ Ext w w') (fun k => rules.length - k) 0 (by simp [SubB, fnd]) ⟨by omega, by simp, Ext.refl w⟩ ?_
    rintro k w' ⟨hk, ht, hw⟩
    (repeat first | with_reducible first | refine jy ?_ | refine jG (aa UT (aa hx.s hx.len)) ?_)
    refine Run_cond (fun _ => rfl) (fun h1 => ?_) (fun h1 => ?_)
    · simp at h1
      obtain ⟨f1, f2⟩ := (hx.ext hw).rule h1
      simp only [Rule.cs, AtN, KS, Nat.reduceAdd, Nat.reduceMul, Nat.reduceEqDiff, ↓reduceIte, UT] at f1
      (repeat first | with_reducible first | refine jy ?_ | refine jG (aa UT (aa (hx.ext hw).s (aa hx.len f1))) ?_)
      refine SemW_var ti78 rfl rfl (by decide) rfl fun p w1 hN => ?_
      have g1 := hN.at_.n
      simp only [AtN, KS, Nat.reduceAdd, Nat.reduceMul, Nat.reduceEqDiff, ↓reduceIte, UT] at g1
      have hw1 := hw.trans hN.ext
      (repeat first | with_reducible first | refine jy ?_ | refine jG (aa UT g1) ?_)
      refine Run_cond (fun _ => rfl) (fun h2 => ?_) (fun h2 => ?_)
      · (repeat first | with_reducible first | refine jy ?_ | refine jG UT ?_)
        refine Run_ret ?_
        have : Cal.chk rules off = 190 := by
          rw [hc, ht, Cal.all_drop _ _ h1]
          have : Cal.rOk rules[k] = false := by simp [Cal.rOk] at h2 ⊢; omega
          simp [this]
        simp [Rets, RetM, resV, fnd, oneOr, hw1, this]
      · (repeat first | with_reducible first | refine jy ?_ | refine jG UT ?_)
        refine Run_lp ⟨k + 1, ?_, ⟨by omega, ?_, hw1⟩, by omega⟩
        · simp [SubB, fnd, wrap_in (x := (k : Int) + 1) (by omega) (by omega)]
        · have : Cal.rOk rules[k] = true := by simp [Cal.rOk] at h2 ⊢; omega
          rw [ht, Cal.all_drop _ _ h1, this, Bool.true_and]
    · simp at h1
      obtain rfl : k = rules.length := by omega
      simp at ht
      rw [show rules.all Cal.rOk = true by simpa using ht, Bool.true_and] at hc
      (repeat first | with_reducible first | refine jy ?_ | refine jG (aa UT (aa hy.s hy.len)) ?_)
      refine Run_loop (σ := Nat × Int) (fun s => [(0, some va), (1, some vb), (7, some (.int .i64 s.1))])
        (fun s w' => s.1 ≤ off.length ∧ Cal.gOk (-1) off = Cal.gOk s.2 (off.drop s.1) ∧ (s.1 = 0 → s.2 = -1) ∧ (∀ h : 0 < s.1 ∧ s.1 ≤ off.length, s.2 = (off[s.1 - 1]'(by omega)).Until ∧ 0 ≤ s.2) ∧ Ext w w') (fun s => off.length - s.1) (0, -1) (by simp [SubB, fnd]) ⟨by simp, by simp, by simp, by simp, hw⟩ ?_
      rintro ⟨k, b⟩ w2 ⟨hk, hg, hb0, hb1, hw2⟩
      simp only at hk hg hb0 hb1
      (repeat first | with_reducible first | refine jy ?_ | refine jG (aa UT (aa hy.s hy.len)) ?_)
      refine Run_cond (fun _ => rfl) (fun h1 => ?_) (fun h1 => ?_)
      · simp at h1
        obtain ⟨f1, f2⟩ := (hy.ext hw2).gap h1
        simp only [Gap.cs, AtN, KS, Nat.reduceAdd, Nat.reduceMul, Nat.reduceEqDiff, ↓reduceIte, UT] at f1
        (repeat first | with_reducible first | refine jy ?_ | refine jG (aa UT (aa (hy.ext hw2).s (aa hy.len f1))) ?_)
        refine SemW_var ti162 rfl rfl (by decide) rfl fun p w3 hN => ?_
        have g1 := hN.at_.n
        simp only [AtN, KS, Nat.reduceAdd, Nat.reduceMul, Nat.reduceEqDiff, ↓reduceIte, UT] at g1
        have hw3 := hw2.trans hN.ext
        (repeat first | with_reducible first | refine jy ?_ | refine jG (aa UT (aa g1 (aa hy.s hy.len))) ?_)
        have hwk : 0 < k → IntKind.i64.wrap ((k : Int) - 1) = ((k - 1 : Nat) : Int) := fun h => by rw [wrap_in (by omega) (by omega)]; omega
        have hprev : 0 < k → has1 w3 ((slAt vb).add ((k - 1) * 2 + 1)) ∧ mem w3 ((slAt vb).add ((k - 1) * 2 + 1)) = .int .i64 b ∧ 0 ≤ b := fun h => by
          obtain ⟨e1, e2⟩ := hb1 ⟨h, hk⟩
          obtain ⟨f3, _⟩ := (hy.ext hw3).gap (i := k - 1) (by omega)
          simp only [Gap.cs, AtN, KS, Nat.reduceAdd, Nat.reduceMul, Nat.reduceEqDiff, ↓reduceIte, UT] at f3
          rw [e1] at e2 ⊢
          exact ⟨f3.2.2.1, f3.2.2.2, e2⟩
        refine ⟨fun h _ => ?_, fun h _ => ?_, fun h _ => ?_, fun w4 hw4 => ?_⟩
        · rw [hwk (by simpa using h)]; omega
        · rw [hwk (by simpa using h)]; exact (hprev (by simpa using h)).1
        · rw [hwk (by simpa using h)]
          simp only [Int.toNat_natCast]
          rw [(hprev (by simpa using h)).2.1]; simp
        have hval : (decide (off[k].From < 0) || decide (off[k].Until ≤ off[k].From) || decide (2097152 < off[k].Until) || decide (0 < (k : Int)) && decide (off[k].From ≤ iOf (mem w3 ((slAt vb).add ((IntKind.i64.wrap ((k : Int) - 1)).toNat * 2 + 1))))) =
            !decide (b < off[k].From ∧ off[k].From < off[k].Until ∧ off[k].Until ≤ 2097152) := by
          by_cases h0 : 0 < k
          · obtain ⟨_, e2, e3⟩ := hprev h0
            rw [hwk h0]
            simp only [Int.toNat_natCast, e2, iOf_mk]
            rw [Bool.eq_iff_iff]
            simp [h0]; omega
          · have hb := hb0 (by omega)
            rw [Bool.eq_iff_iff]
            simp [h0]; omega
        rw [hval]
        refine Run_cond (fun _ => rfl) (fun h2 => ?_) (fun h2 => ?_)
        · (repeat first | with_reducible first | refine jy ?_ | refine jG UT ?_)
          refine Run_ret ?_
          have : Cal.chk rules off = 190 := by
            rw [hc, hg, Cal.gOk_drop _ _ _ h1]
            rw [decide_eq_false (by simp at h2; omega)]
            simp
          simp [Rets, RetM, resV, fnd, oneOr, hw3.trans hw4, this]
        · have h3 : b < off[k].From ∧ off[k].From < off[k].Until ∧ off[k].Until ≤ 2097152 := by simpa using h2
          (repeat first | with_reducible first | refine jy ?_ | refine jG UT ?_)
          refine Run_lp ⟨(k + 1, off[k].Until), ?_, ⟨by simp; omega, ?_, by simp, fun _ => ⟨by simp, ?_⟩, hw3.trans hw4⟩, by simp; omega⟩
          · simp [SubB, fnd, wrap_in (x := (k : Int) + 1) (by omega) (by omega)]
          · rw [hg, Cal.gOk_drop _ _ _ h1, decide_eq_true h3]
            simp
          · show 0 ≤ off[k].Until
            rcases Nat.eq_zero_or_pos k with h0 | h0
            · have := hb0 h0; omega
            · have := (hprev h0).2.2; omega
      · simp at h1
        obtain rfl : k = off.length := by omega
        (repeat first | with_reducible first | refine jy ?_ | refine jG UT ?_)
        refine Run_ret ?_
        have : Cal.chk rules off = 0 := by rw [hc, hg]; simp [Cal.gOk]
        simp [Rets, RetM, resV, fnd, oneOr, hw2, this]
def RuleFit (r : Rule) : Prop := 0 ≤ r.First ∧ r.First < r.Until ∧ r.Until ≤ 2097152 ∧ 1 ≤ r.Every ∧ r.Every ≤ 2097152
theorem mul_bd {a e : Int} (h : 1 ≤ e) (h0 : 0 ≤ a) (h1 : a ≤ 4194304) : 0 ≤ a / e ∧ a / e ≤ 4194304 ∧ 0 ≤ a / e * e ∧ a / e * e ≤ 4194304 := by
  have h2 := Int.emod_add_mul_ediv a e
  have h3 := Int.emod_nonneg a (show e ≠ 0 by omega)
  have h4 : 0 ≤ a / e := Int.ediv_nonneg h0 (by omega)
  have h5 : a / e ≤ a := Int.ediv_le_self _ h0
  rw [Int.mul_comm e] at h2
  have h6 : 0 ≤ a / e * e := Int.mul_nonneg h4 (by omega)
  omega
theorem refLeast (r : Rule) (m : Int) (w : World) (hr : RuleFit r) (h0 : 0 ≤ m) (hm : m ≤ 2097152) :
    Calls Tryz.prog 142 #[.agg r.cs.toArray, .int .i64 m] w fun e w' => e = .returned (.int .i64 (Cal.after r m)) ∧ Ext w w' := by
  obtain ⟨r0, r1, r2, r3, r4⟩ := hr
  refine Calls_of_Run (args := [(.agg r.cs.toArray), .int .i64 m]) (n := 33) (rs := [.tmp 4]) Tryz.func142 rfl rfl rfl (by simp) ?_
  (repeat first | with_reducible first | refine jy ?_ | refine jG UT ?_)
  refine SemW_box fun p w1 hN => ?_
  have hw1 := hN.ext
  have g1 := hN.at_.n
  simp only [Rule.cs, AtN, KS, Nat.reduceAdd, Nat.reduceMul, Nat.reduceEqDiff, ↓reduceIte, UT] at g1
  (repeat first | with_reducible first | refine jy ?_ | refine jG (aa UT g1) ?_)
  refine Run_cut (fun L' w' => Ext w1 w' ∧ SubB [(2, some (.pointer (some p))), (5, some (.int .i64 (if r.First < m then r.First + (m - r.First + r.Every - 1) / r.Every * r.Every else r.First)))] L') ?_ ?_
  · refine Run_cond (fun _ => rfl) (fun h2 => ?_) (fun h2 => ?_)
    · simp at h2
      have hb := mul_bd (a := m - r.First + r.Every - 1) r3 (by omega) (by omega)
      (repeat first | with_reducible first | refine jy ?_ | refine jG (aa UT g1) ?_)
      intro w2 hw2
      refine Run_lp ⟨hw2, ?_⟩
      simp only [SubB, fnd, KS, Nat.reduceAdd, Nat.reduceMul, Nat.reduceEqDiff, ↓reduceIte, UT]
      rw [if_pos h2, wrap_in (x := m - r.First) (by omega) (by omega), wrap_in (x := m - r.First + r.Every) (by omega) (by omega), wrap_in (x := m - r.First + r.Every - 1) (by omega) (by omega), tdiv_eq (by omega),
        wrap_in (x := (m - r.First + r.Every - 1) / r.Every) (by omega) (by omega), wrap_in (x := (m - r.First + r.Every - 1) / r.Every * r.Every) (by omega) (by omega), wrap_in (x := r.First + (m - r.First + r.Every - 1) / r.Every * r.Every) (by omega) (by omega)]
    · simp at h2
      (repeat first | with_reducible first | refine jy ?_ | refine jG UT ?_)
      refine Run_lp ⟨Ext.refl w1, ?_⟩
      simp only [SubB, fnd, KS, Nat.reduceAdd, Nat.reduceMul, Nat.reduceEqDiff, ↓reduceIte, UT]
      rw [if_neg (by omega)]
  · rintro L2 w2 ⟨hw2, hs⟩
    refine Run_sub hs ?_
    have ha : Cal.after r m = if r.Until ≤ (if r.First < m then r.First + (m - r.First + r.Every - 1) / r.Every * r.Every else r.First) then 2097152 else (if r.First < m then r.First + (m - r.First + r.Every - 1) / r.Every * r.Every else r.First) := rfl
    generalize (if r.First < m then r.First + (m - r.First + r.Every - 1) / r.Every * r.Every else r.First) = t at *
    have g2 := (hN.at_.ext hw2).n
    simp only [Rule.cs, AtN, KS, Nat.reduceAdd, Nat.reduceMul, Nat.reduceEqDiff, ↓reduceIte, UT] at g2
    (repeat first | with_reducible first | refine jy ?_ | refine jG (aa UT g2) ?_)
    refine Run_cond (fun _ => rfl) (fun h3 => ?_) (fun h3 => ?_)
    · simp at h3
      (repeat first | with_reducible first | refine jy ?_ | refine jG UT ?_)
      refine Run_ret ?_
      rw [if_pos h3] at ha
      simp [Rets, RetM, resV, fnd, oneOr, hw1.trans hw2, ha]
    · simp at h3
      (repeat first | with_reducible first | refine jy ?_ | refine jG UT ?_)
      refine Run_ret ?_
      rw [if_neg (by omega)] at ha
      simp [Rets, RetM, resV, fnd, oneOr, hw1.trans hw2, ha]
theorem calAfter (r : Rule) (m : Int) (w : World) (hr : RuleFit r) (h0 : 0 ≤ m) (hm : m ≤ 2097152) :
    Calls Tryz.prog 149 #[.agg r.cs.toArray, .int .i64 m] w fun e w' => e = .returned (.int .i64 (Cal.after r m)) ∧ Ext w w' := by
  obtain ⟨r0, r1, r2, r3, r4⟩ := hr
  refine Calls_of_Run (args := [(.agg r.cs.toArray), .int .i64 m]) (n := 31) (rs := [.tmp 4]) Tryz.func149 rfl rfl rfl (by simp) ?_
  (repeat first | with_reducible first | refine jy ?_ | refine jG UT ?_)
  refine SemW_box fun p w1 hN => ?_
  have hw1 := hN.ext
  have g1 := hN.at_.n
  simp only [Rule.cs, AtN, KS, Nat.reduceAdd, Nat.reduceMul, Nat.reduceEqDiff, ↓reduceIte, UT] at g1
  (repeat first | with_reducible first | refine jy ?_ | refine jG (aa UT g1) ?_)
  refine Run_cut (fun L' w' => Ext w1 w' ∧ SubB [(2, some (.pointer (some p))), (5, some (.int .i64 (if r.First < m then r.First + (m - r.First + r.Every - 1) / r.Every * r.Every else r.First)))] L') ?_ ?_
  · refine Run_cond (fun _ => rfl) (fun h2 => ?_) (fun h2 => ?_)
    · simp at h2
      have hb := mul_bd (a := m - r.First + r.Every - 1) r3 (by omega) (by omega)
      (repeat first | with_reducible first | refine jy ?_ | refine jG (aa UT g1) ?_)
      intro w2 hw2
      refine Run_lp ⟨hw2, ?_⟩
      simp only [SubB, fnd, KS, Nat.reduceAdd, Nat.reduceMul, Nat.reduceEqDiff, ↓reduceIte, UT]
      rw [if_pos h2, wrap_in (x := m - r.First) (by omega) (by omega), wrap_in (x := m - r.First + r.Every) (by omega) (by omega), wrap_in (x := m - r.First + r.Every - 1) (by omega) (by omega), tdiv_eq (by omega),
        wrap_in (x := (m - r.First + r.Every - 1) / r.Every) (by omega) (by omega), wrap_in (x := (m - r.First + r.Every - 1) / r.Every * r.Every) (by omega) (by omega), wrap_in (x := r.First + (m - r.First + r.Every - 1) / r.Every * r.Every) (by omega) (by omega)]
    · simp at h2
      (repeat first | with_reducible first | refine jy ?_ | refine jG UT ?_)
      refine Run_lp ⟨Ext.refl w1, ?_⟩
      simp only [SubB, fnd, KS, Nat.reduceAdd, Nat.reduceMul, Nat.reduceEqDiff, ↓reduceIte, UT]
      rw [if_neg (by omega)]
  · rintro L2 w2 ⟨hw2, hs⟩
    refine Run_sub hs ?_
    have ha : Cal.after r m = if r.Until ≤ (if r.First < m then r.First + (m - r.First + r.Every - 1) / r.Every * r.Every else r.First) then 2097152 else (if r.First < m then r.First + (m - r.First + r.Every - 1) / r.Every * r.Every else r.First) := rfl
    generalize (if r.First < m then r.First + (m - r.First + r.Every - 1) / r.Every * r.Every else r.First) = t at *
    have g2 := (hN.at_.ext hw2).n
    simp only [Rule.cs, AtN, KS, Nat.reduceAdd, Nat.reduceMul, Nat.reduceEqDiff, ↓reduceIte, UT] at g2
    (repeat first | with_reducible first | refine jy ?_ | refine jG (aa UT g2) ?_)
    refine Run_cond (fun _ => rfl) (fun h3 => ?_) (fun h3 => ?_)
    · simp at h3
      (repeat first | with_reducible first | refine jy ?_ | refine jG UT ?_)
      refine Run_ret ?_
      rw [if_pos h3] at ha
      simp [Rets, RetM, resV, fnd, oneOr, hw1.trans hw2, ha]
    · simp at h3
      (repeat first | with_reducible first | refine jy ?_ | refine jG UT ?_)
      refine Run_ret ?_
      rw [if_neg (by omega)] at ha
      simp [Rets, RetM, resV, fnd, oneOr, hw1.trans hw2, ha]
theorem fit {rules : List Rule} {off : List Gap} (h : Cal.Ok rules off) {k : Nat} (hk : k < rules.length) : RuleFit rules[k] := h.r _ (List.getElem_mem hk)
theorem refnext (va vb : Value) (rules : List Rule) (off : List Gap) (m : Int) (w : World) (hx : Sl w va rules) (hy : Sl w vb off) (hok : Cal.Ok rules off) (h0 : 0 ≤ m) (hm : m ≤ 2097152) :
    Calls Tryz.prog 109 #[va, vb, .int .i64 m] w fun e w' => e = .returned (.int .i64 (Cal.nxt rules off m)) ∧ Ext w w' := by
  have nr := hok.nr
  have hno := hok.no
  refine Calls_of_Run (args := [va, vb, .int .i64 m]) (n := 58) (rs := [.tmp 6]) Tryz.func109 rfl rfl rfl (by simp) ?_
  (repeat first | with_reducible first | refine jy ?_ | refine jG (aa UT (aa hx.s (aa hy.s (aa hx.len hy.len)))) ?_)
  refine Run_loop (σ := Int) (fun a => [(0, some va), (1, some vb), (2, some (.int .i64 a))]) (fun a w' => 0 ≤ a ∧ a ≤ 2097152 ∧ Cal.nxt rules off m = Cal.nxt rules off a ∧ Ext w w') (fun a => (2097152 - a).toNat) m (by simp [SubB, fnd]) ⟨h0, hm, rfl, Ext.refl w⟩ ?_
  rintro a w' ⟨a0, a1, hn, hw⟩
  (repeat first | with_reducible first | refine jy ?_ | refine jG UT ?_)
  refine Run_cond (fun _ => rfl) (fun h1 => ?_) (fun h1 => ?_)
  · simp at h1
    (repeat first | with_reducible first | refine jy ?_ | refine jG UT ?_)
    refine Run_loop (σ := Nat) (fun k => [(0, some va), (1, some vb), (2, some (.int .i64 a)), (7, some (.int .i64 (Cal.firstR (rules.take k) a))), (8, some (.int .i64 k))]) (fun k w' => k ≤ rules.length ∧ Ext w w') (fun k => rules.length - k) 0 (by simp [SubB, fnd, Cal.firstR]) ⟨by omega, hw⟩ ?_
    rintro k w2 ⟨hk, hw2⟩
    (repeat first | with_reducible first | refine jy ?_ | refine jG (aa UT (aa hx.s hx.len)) ?_)
    refine Run_cond (fun _ => rfl) (fun h2 => ?_) (fun h2 => ?_)
    · simp at h2
      obtain ⟨f1, f2⟩ := (hx.ext hw2).rule h2
      simp only [Rule.cs, AtN, KS, Nat.reduceAdd, Nat.reduceMul, Nat.reduceEqDiff, ↓reduceIte, UT] at f1
      (repeat first | with_reducible first | refine jy ?_ | refine jG (aa UT (aa hx.s (aa hx.len f1))) ?_)
      refine CallW_pure call142 (refLeast rules[k] a w2 (fit hok h2) a0 a1) fun w3 hw3 => ?_
      simp only [KS, Nat.reduceAdd, Nat.reduceMul, Nat.reduceEqDiff, ↓reduceIte, UT]
      (repeat first | with_reducible first | refine jy ?_ | refine jG UT ?_)
      refine Run_lp ⟨k + 1, ?_, ⟨by omega, hw2.trans hw3⟩, by omega⟩
      simp [SubB, fnd, wrap_in (x := (k : Int) + 1) (by omega) (by omega), Cal.firstR_take h2]
    · simp at h2
      obtain rfl : k = rules.length := by omega
      rw [List.take_length]
      obtain ⟨s1, s2, s3, s4⟩ := Cal.firstR_spec hok.r (m := a) (by omega)
      have hn2 := Cal.nxt_rules hok (m := a) (by omega)
      have hit := Cal.nxt_hit hok (m := a) (by omega)
      rw [hn2] at hn
      generalize Cal.firstR rules a = t at *
      (repeat first | with_reducible first | refine jy ?_ | refine jG UT ?_)
      refine Run_loop (σ := Nat × Int) (fun s => [(0, some va), (1, some vb), (2, some (.int .i64 s.2)), (7, some (.int .i64 t)), (9, some (.int .i64 s.1))])
        (fun s w' => s.1 ≤ off.length ∧ ((s.2 = t ∧ (off.take s.1).any (Cal.inGap · t) = false) ∨ (t < s.2 ∧ ∃ g ∈ off, Cal.inGap g t = true ∧ s.2 = g.Until)) ∧ Ext w w') (fun s => off.length - s.1) (0, t) (by simp [SubB, fnd]) ⟨by simp, by simp, hw2⟩ ?_
      rintro ⟨k, b⟩ w3 ⟨hk3, hb, hw3⟩
      simp only at hk3 hb
      (repeat first | with_reducible first | refine jy ?_ | refine jG (aa UT (aa hy.s hy.len)) ?_)
      refine Run_cond (fun _ => rfl) (fun h3 => ?_) (fun h3 => ?_)
      · simp at h3
        obtain ⟨f1, f2⟩ := (hy.ext hw3).gap h3
        simp only [Gap.cs, AtN, KS, Nat.reduceAdd, Nat.reduceMul, Nat.reduceEqDiff, ↓reduceIte, UT] at f1
        (repeat first | with_reducible first | refine jy ?_ | refine jG (aa UT (aa hy.s (aa hy.len f1))) ?_)
        refine Run_cond (fun _ => rfl) (fun h4 => ?_) (fun h4 => ?_)
        · simp at h4
          have hi : Cal.inGap off[k] t = true := by simp [Cal.inGap]; omega
          (repeat first | with_reducible first | refine jy ?_ | refine jG (aa UT (aa hy.s (aa hy.len f1))) ?_)
          refine Run_lp ⟨(k + 1, off[k].Until), ?_, ⟨by simp; omega, .inr ⟨by simp; omega, off[k], List.getElem_mem h3, hi, rfl⟩, hw3⟩, by simp; omega⟩
          simp [SubB, fnd, wrap_in (x := (k : Int) + 1) (by omega) (by omega)]
        · have hi : Cal.inGap off[k] t = false := by simp [Cal.inGap] at h4 ⊢; omega
          (repeat first | with_reducible first | refine jy ?_ | refine jG UT ?_)
          refine Run_lp ⟨(k + 1, b), ?_, ⟨by simp; omega, ?_, hw3⟩, by simp; omega⟩
          · simp [SubB, fnd, wrap_in (x := (k : Int) + 1) (by omega) (by omega)]
          · rcases hb with ⟨e1, e2⟩ | e
            · left
              refine ⟨e1, ?_⟩
              rw [List.take_succ_eq_append_getElem h3, List.any_append, e2]
              simp [hi]
            · exact .inr e
      · simp at h3
        obtain rfl : k = off.length := by omega
        rw [List.take_length] at hb
        (repeat first | with_reducible first | refine jy ?_ | refine jG UT ?_)
        refine Run_cond (fun _ => rfl) (fun h4 => ?_) (fun h4 => ?_)
        · simp at h4
          (repeat first | with_reducible first | refine jy ?_ | refine jG UT ?_)
          refine Run_ret ?_
          have : Cal.nxt rules off m = t := by
            rw [hn]
            rcases hb with ⟨e1, e2⟩ | ⟨e1, _⟩
            · by_cases c : t < 2097152
              · exact hit c e2
              · rw [Cal.nxt_end (by omega)]; omega
            · omega
          simp [Rets, RetM, resV, fnd, oneOr, hw3, this]
        · simp at h4
          (repeat first | with_reducible first | refine jy ?_ | refine jG UT ?_)
          rcases hb with ⟨e1, _⟩ | ⟨e1, g, hg, hi, e2⟩
          · exact (h4 e1).elim
          · have := hok.g g hg
            refine Run_lp ⟨b, ?_, ⟨by omega, by omega, ?_, hw3⟩, by omega⟩
            · simp [SubB, fnd]
            · rw [hn, Cal.nxt_gap hok hg hi, e2]
  · simp at h1
    (repeat first | with_reducible first | refine jy ?_ | refine jG UT ?_)
    refine Run_ret ?_
    have : Cal.nxt rules off m = 2097152 := by rw [hn, Cal.nxt_end (by omega)]
    simp [Rets, RetM, resV, fnd, oneOr, hw, this]
def MomRet (w : World) (ms : List Int × Int) (e : Ending) (w' : World) : Prop := ∃ v, e = .returned (.tuple #[v, .int .i64 ms.2]) ∧ Ext w w' ∧ Sl w' v ms.1
theorem I64_dep {rules : List Rule} {off : List Gap} {a b x : Int} (h0 : 0 ≤ a) (hab : a ≤ b) (hb : b ≤ 2097152) (h : x ∈ Cal.deps rules off a b) : I64 x := by
  have := (Cal.deps_mem hab).1 h
  unfold I64; omega
theorem Buf.ints {W w : World} {v : Value} {n : Nat} {xs : List Int} (h : Buf 3 1 W w v n (xs.map (Value.int .i64))) (hI : ∀ x ∈ xs, I64 x) (hb : n ≤ 140737488355328) : Sl w v xs := by
  obtain ⟨h1, h2, h3, h4⟩ := ownsRow_val h.own
  have hn : xs.length = n := by simpa using h.own.1
  refine ⟨h1, by omega, by omega, by omega, h4, fun i hi => ⟨_, ⟨rfl, hI _ (List.getElem_mem hi)⟩, ?_⟩⟩
  have ha := ownsRow_at h.own (by simp; omega)
  intro j u hj
  rw [add_add]
  cases j with
  | zero => simp at hj; subst hj; exact ha _ _ (by simp [show i * Enc.n Int + 0 = i from Nat.mul_one i, hi])
  | succ j => simp at hj
theorem refMoments (va vb : Value) (rules : List Rule) (off : List Gap) (a b : Int) (w : World) (hx : Sl w va rules) (hy : Sl w vb off) :
    Calls Tryz.prog 77 #[va, vb, .int .i64 a, .int .i64 b] w (MomRet w (Cal.moments rules off a b)) := by
  refine Calls_of_Run (args := [va, vb, .int .i64 a, .int .i64 b]) (n := 50) (rs := [.tmp 8, .tmp 9]) Tryz.func77 rfl rfl rfl (by simp) ?_
  (repeat first | with_reducible first | refine jy ?_ | refine jG UT ?_)
  refine CallW_pure call75 (refCheck va vb rules off w hx hy) fun w1 hw1 => ?_
  try simp only [KS, Nat.reduceAdd, Nat.reduceMul, Nat.reduceEqDiff, ↓reduceIte, UT]
  (repeat first | with_reducible first | refine jy ?_ | refine jG UT ?_)
  refine Run_cond (fun _ => rfl) (fun h => ?_) (fun h => ?_)
  · simp at h
    (repeat first | with_reducible first | refine jy ?_ | refine jG UT ?_)
    refine Run_ret ?_
    simp [Rets, RetM, resV, fnd, oneOr, hw1, Cal.moments, h, MomRet, Sl.nil]
  · simp at h
    have hok := Cal.chk_ok h
    (repeat first | with_reducible first | refine jy ?_ | refine jG UT ?_)
    refine Run_cond (fun _ => rfl) (fun h2 => ?_) (fun h2 => ?_)
    · simp at h2
      have h4 : a < 0 ∨ b < a ∨ 2097152 < b := by omega
      (repeat first | with_reducible first | refine jy ?_ | refine jG UT ?_)
      refine Run_ret ?_
      simp [Rets, RetM, resV, fnd, oneOr, hw1, Cal.moments, h, h4, MomRet, Sl.nil]
    · simp at h2
      have h4 : ¬ (a < 0 ∨ b < a ∨ 2097152 < b) := by omega
      (repeat first | with_reducible first | refine jy ?_ | refine jG UT ?_)
      refine CallW_pure call109 (refnext va vb rules off a w1 (hx.ext hw1) (hy.ext hw1) hok (by omega) (by omega)) fun w2 hw2 => ?_
      try simp only [KS, Nat.reduceAdd, Nat.reduceMul, Nat.reduceEqDiff, ↓reduceIte, UT]
      (repeat first | with_reducible first | refine jy ?_ | refine jG UT ?_)
      refine Run_loop (σ := Value × List Int × Int) (fun s => [(0, some va), (1, some vb), (3, some (.int .i64 b)), (11, some s.1), (12, some (.int .i64 (Cal.nxt rules off s.2.2)))])
        (fun s w' => Buf 3 1 w w' s.1 s.2.1.length (s.2.1.map (Value.int .i64)) ∧ s.2.1.length ≤ 2000 ∧ Cal.deps rules off a b = s.2.1 ++ Cal.deps rules off s.2.2 b ∧ a ≤ s.2.2 ∧ s.2.2 ≤ b)
        (fun s => (b - s.2.2).toNat) (.slice none 0 0, [], a) (by simp [SubB, fnd]) ⟨Buf.nil (hw1.trans hw2), by simp, by simp, by simp, by simp; omega⟩ ?_
      rintro ⟨v, acc, c⟩ w3 ⟨hB, hl, hd, hac, hcb⟩
      simp only at hB hl hd hac hcb
      have hw3 := hB.ext
      obtain ⟨i1, i2, i3, i4⟩ := ownsRow_val hB.own
      have hnx := Cal.nxt_spec rules off c
      rw [Cal.deps_nxt (a := c) (by omega)] at hd
      (repeat first | with_reducible first | refine jy ?_ | refine jG UT ?_)
      refine Run_cond (fun _ => rfl) (fun h5 => ?_) (fun h5 => ?_)
      · simp at h5
        rw [if_pos h5] at hd
        (repeat first | with_reducible first | refine jy ?_ | refine jG (aa UT (aa i1 i2)) ?_)
        refine Run_cond (fun _ => rfl) (fun h6 => ?_) (fun h6 => ?_)
        · simp at h6
          (repeat first | with_reducible first | refine jy ?_ | refine jG UT ?_)
          refine Run_ret ?_
          have : 2000 < (Cal.deps rules off a b).length := by rw [hd]; simp; omega
          simp [Rets, RetM, resV, fnd, oneOr, Cal.moments, h, h4, this, MomRet, Sl.nil, hw3]
        · simp at h6
          (repeat first | with_reducible first | refine jy ?_ | refine jG UT ?_)
          refine SemW_append1 (X := .int .i64 (Cal.nxt rules off c)) Tryz.underlying25 ti3 rfl (by decide) hB rfl rfl (by unfold maxLen; omega) fun _ v2 w4 hB2 _ _ => ?_
          have hw4 := hB2.ext
          try simp only [KS, Nat.reduceAdd, Nat.reduceMul, Nat.reduceEqDiff, ↓reduceIte, UT]
          (repeat first | with_reducible first | refine jy ?_ | refine jG UT ?_)
          have hnx2 : Cal.nxt rules off c + 1 ≤ 2097152 := by omega
          refine CallW_pure call109 (?_ : Calls _ _ #[va, vb, .int .i64 (IntKind.i64.wrap (Cal.nxt rules off c + 1))] _ fun e w' => e = .returned (.int .i64 (Cal.nxt rules off (Cal.nxt rules off c + 1))) ∧ Ext w4 w') fun w5 hw5 => ?_
          · rw [wrap_in (by omega) (by omega)]
            exact refnext va vb rules off _ w4 (hx.ext hw4) (hy.ext hw4) hok (by omega) (by omega)
          try simp only [KS, Nat.reduceAdd, Nat.reduceMul, Nat.reduceEqDiff, ↓reduceIte, UT]
          (repeat first | with_reducible first | refine jy ?_ | refine jG UT ?_)
          have hlt : acc.length + 1 ≤ 2000 := by omega
          refine Run_lp ⟨(v2, acc ++ [Cal.nxt rules off c], Cal.nxt rules off c + 1), ?_, ⟨⟨?_, hw4.trans hw5⟩, ?_, ?_, ?_, ?_⟩, ?_⟩
          · simp [SubB, fnd]
          · have := ownsRow_ext hB2.own hw5
            simpa [Value.cells] using this
          · simpa using hlt
          · simpa using hd
          · simp; omega
          · simp; omega
          · simp; omega
      · simp at h5
        rw [if_neg (by omega)] at hd
        (repeat first | with_reducible first | refine jy ?_ | refine jG UT ?_)
        refine Run_ret ?_
        have : ¬ 2000 < (Cal.deps rules off a b).length := by rw [hd]; simp; omega
        have hs := Buf.ints hB (fun x hx => I64_dep (rules := rules) (off := off) (a := a) (b := b) (by omega) (by omega) (by omega) (by rw [hd]; simpa using hx)) (by omega)
        rw [List.append_nil] at hd
        have hm : Cal.moments rules off a b = (acc, 0) := by unfold Cal.moments; rw [if_neg (by simp [h]), if_neg h4, if_neg this, hd]
        simp [Rets, RetM, resV, fnd, oneOr, hm, MomRet, hw3, hs]
end Go.Proofs.YtldjfebokojmfaaGreat
namespace Go.Proofs.YtldjfebokojmfaaGreat
open Go Go.Fk
set_option linter.unusedSimpArgs false
set_option linter.unusedVariables false
set_option maxRecDepth 100000
def minL (xs : List Int) : Int := xs.foldl min 2097152
theorem minL_take {xs : List Int} {k : Nat} (h : k < xs.length) : minL (xs.take (k + 1)) = min (minL (xs.take k)) xs[k] := by
  unfold minL
  rw [List.take_succ_eq_append_getElem h, List.foldl_append]; rfl
theorem minL_nil : minL [] = 2097152 := rfl
theorem calFirst (va : Value) (xs : List Int) (w : World) (hx : Sl w va xs) :
    Calls Tryz.prog 150 #[va] w fun e w' => e = .returned (.int .i64 (minL xs)) ∧ Ext w w' := by
  have hnx := hx.small
  refine Calls_of_Run (args := [va]) (n := 17) (rs := [.tmp 2]) Tryz.func150 rfl rfl rfl (by simp) ?_
  (repeat first | with_reducible first | refine jy ?_ | refine jG (aa UT (aa hx.s hx.len)) ?_)
  refine Run_loop (σ := Nat) (fun k => [(6, some va), (7, some (.int .i64 xs.length)), (3, some (.int .i64 (minL (xs.take k)))), (8, some (.int .i64 k))]) (fun k w' => k ≤ xs.length ∧ Ext w w') (fun k => xs.length - k) 0 (by simp [SubB, fnd, minL_nil]) ⟨by omega, Ext.refl w⟩ ?_
  rintro k w2 ⟨hk, hw2⟩
  (repeat first | with_reducible first | refine jy ?_ | refine jG UT ?_)
  refine Run_cond (fun _ => rfl) (fun h2 => ?_) (fun h2 => ?_)
  · simp at h2
    obtain ⟨f1, f2, f3⟩ := (hx.ext hw2).get h2
    (repeat first | with_reducible first | refine jy ?_ | refine jG (aa UT (aa hx.s (aa hx.len (aa f1 f2)))) ?_)
    refine Run_lp ⟨k + 1, ?_, ⟨by omega, hw2⟩, by omega⟩
    simp [SubB, fnd, wrap_in (x := (k : Int) + 1) (by omega) (by omega), minL_take h2]
  · simp at h2
    obtain rfl : k = xs.length := by omega
    (repeat first | with_reducible first | refine jy ?_ | refine jG UT ?_)
    rw [List.take_length]
    (repeat first | with_reducible first | refine jy ?_ | refine jG UT ?_)
    refine Run_ret ?_
    simp [Rets, RetM, resV, fnd, oneOr, hw2]
structure Dep (w0 : World) (va vb : Value) (a : Int) (pr po pa : Addr) (w' : World) : Prop where
  r : Row w' pr 79 [va]
  o : Row w' po 80 [vb]
  a : Row w' pa 3 [.int .i64 a]
  ext : Ext w0 w'
  nr : w0.heap.size ≤ pr.block
  no : w0.heap.size ≤ po.block
  na : w0.heap.size ≤ pa.block
  ra : pr.block ≠ pa.block
  oa : po.block ≠ pa.block
theorem calDepartures (va vb : Value) (a : Int) (w : World) (ha : va.cells = #[va]) (hb : vb.cells = #[vb]) :
    Calls Tryz.prog 125 #[va, vb, .int .i64 a] w fun e w' => ∃ pr po pa, e = .returned (.func (.func 148) #[] #[.pointer (some pr), .pointer (some pa), .pointer (some po)]) ∧ Dep w va vb a pr po pa w' := by
  refine Calls_of_Run (args := [va, vb, .int .i64 a]) (n := 8) (rs := [.tmp 6]) Tryz.func125 rfl rfl rfl (by simp) ?_
  (repeat first | with_reducible first | refine jy ?_ | refine jG UT ?_)
  refine SemW_box fun p1 w1 h1 => SemW_box fun p2 w2 h2 => SemW_box fun p3 w3 h3 => ?_
  try simp only [KS, Nat.reduceAdd, Nat.reduceMul, Nat.reduceEqDiff, ↓reduceIte, UT]
  (repeat first | with_reducible first | refine jy ?_ | refine jG UT ?_)
  refine Run_ret ?_
  simp [Rets, RetM, resV, fnd, oneOr]
  rw [ha] at h1
  rw [hb] at h2
  have b1 := h1.blk
  have b2 := h2.blk
  have b3 := h3.blk
  have s1 := h1.size
  have s2 := h2.size
  refine ⟨_, _, _, ⟨rfl, rfl, rfl⟩, ?_⟩
  exact ⟨h1.row.ext (h2.ext.trans h3.ext), h2.row.ext h3.ext, h3.row, h1.ext.trans (h2.ext.trans h3.ext), by omega, by omega, by omega, by omega, by omega⟩
structure DepJ (W : World) (pr po pa : Addr) (va vb : Value) (yv : Value) (D : List Int) (J0 : World → Prop) (J : Nat → List Int → World → Prop) (Jx : World → Prop) : Prop where
  base0 : ∀ w, J0 w → Ext W w ∧ At w pr [va] ∧ At w po [vb]
  start : ∀ w w' g, J0 w → Ext w w' → w.heap.size ≤ g → g < w'.heap.size → J g [] w'
  base : ∀ g pre w, J g pre w → Ext W w ∧ At w pr [va] ∧ At w po [vb]
  step : ∀ g pre w w', J g pre w → Keep (fun k => ¬ (k = pa.block ∨ k = g)) w w' → J g pre w'
  yield : ∀ g pre w x r, J g pre w → D = pre ++ x :: r → CallW Tryz.prog yv [.int .i64 x] w fun v w' => ∃ b, v = .bool b ∧ Keep (fun k => k = pa.block ∨ k = g) w w' ∧ if b = true then J g (pre ++ [x]) w' else Jx w'
theorem at1 {w : World} {p : Addr} {v : Value} (h : At w p [v]) : mem w p = v ∧ has1 w p := by
  have := h.n
  simp only [AtN, add_zero] at this
  exact ⟨this.2.1, this.1⟩
theorem Row.ints {w : World} {p : Addr} {t : TypeId} {xs : List Int} (h : Row w p t (xs.map (Value.int .i64))) (hI : ∀ x ∈ xs, I64 x) (hb : xs.length ≤ 140737488355328) : Sl w (.slice (some p) xs.length xs.length) xs := by
  refine ⟨by simp, rfl, Nat.le_refl _, hb, by simp [maxLen]; omega, fun i hi => ⟨_, ⟨rfl, hI _ (List.getElem_mem hi)⟩, ?_⟩⟩
  intro j u hj
  rw [add_add]
  cases j with
  | zero => simp at hj; subst hj; exact h.at_ _ _ (by simp [show i * Enc.n Int + 0 = i from Nat.mul_one i, hi])
  | succ j => simp at hj
structure DI (pa pl : Addr) (J : Nat → List Int → World → Prop) (pre : List Int) (b : Int) (cs : List Value) (w : World) : Prop where
  j : J pl.block pre w
  a : Row w pa 3 [.int .i64 b]
  l : Row w pl 3 cs
  ne : pl.block ≠ pa.block
section
variable {W : World} {pr po pa pl : Addr} {va vb yv : Value} {J0 : World → Prop} {J : Nat → List Int → World → Prop} {Jx : World → Prop} {D : List Int} (hJ : DepJ W pr po pa va vb yv D J0 J Jx) {pre : List Int} {b : Int} {cs : List Value} {w w' : World}
include hJ
theorem DI.ext (h : DI pa pl J pre b cs w) (hw : Ext w w') : DI pa pl J pre b cs w' :=
  ⟨hJ.step _ _ _ _ h.j (Keep.of_ext hw), h.a.ext hw, h.l.ext hw, h.ne⟩
theorem DI.setl {cs' : List Value} (h : DI pa pl J pre b cs w) (hk : Keep (fun k => k ≠ pl.block) w w') (hr : Row w' pl 3 cs') : DI pa pl J pre b cs' w' :=
  ⟨hJ.step _ _ _ _ h.j (hk.mono fun k _ hn he => hn (.inr he)), h.a.keep hk (Ne.symm h.ne), hr, h.ne⟩
theorem DI.seta {b' : Int} (h : DI pa pl J pre b cs w) (hk : Keep (fun k => k ≠ pa.block) w w') (hr : Row w' pa 3 [.int .i64 b']) : DI pa pl J pre b' cs w' :=
  ⟨hJ.step _ _ _ _ h.j (hk.mono fun k _ hn he => hn (.inl he)), hr, h.l.keep hk h.ne, h.ne⟩
theorem DI.facts (h : DI pa pl J pre b cs w) : Ext W w ∧ mem w pr = va ∧ has1 w pr ∧ mem w po = vb ∧ has1 w po ∧ mem w pa = .int .i64 b ∧ has1 w pa := by
  obtain ⟨h1, h2, h3⟩ := hJ.base _ _ _ h.j
  exact ⟨h1, (at1 h2).1, (at1 h2).2, (at1 h3).1, (at1 h3).2, (at1 h.a.at_).1, (at1 h.a.at_).2⟩
end
theorem depIter {W : World} {pr po pa : Addr} {va vb yv : Value} {J0 : World → Prop} {J : Nat → List Int → World → Prop} {Jx : World → Prop} 
    (rules : List Rule) (off : List Gap) (hx : Sl W va rules) (hy : Sl W vb off) (hok : Cal.Ok rules off) (a : Int) (hJ : DepJ W pr po pa va vb yv (Cal.deps rules off a 2097152) J0 J Jx) (h0 : 0 ≤ a) (hm : a ≤ 2097152) (w : World) (ha : Row w pa 3 [.int .i64 a]) (hN : J0 w) :
    Calls Tryz.prog 148 #[yv, .pointer (some pr), .pointer (some pa), .pointer (some po)] w fun e w' => e = .returned (.tuple #[]) ∧ (Jx w' ∨ ∃ g, J g (Cal.deps rules off a 2097152) w') := by
  have nr := hok.nr
  have hno := hok.no
  obtain ⟨hW, b1, b2⟩ := hJ.base0 _ hN
  obtain ⟨c1, c2⟩ := at1 b1
  refine Calls_of_Run (args := [yv, .pointer (some pr), .pointer (some pa), .pointer (some po)]) (n := 58) (rs := []) Tryz.func148 rfl rfl rfl (by simp) ?_
  (repeat first | with_reducible first | refine jy ?_ | refine jG (aa UT (aa c1 (aa c2 (aa hx.s hx.len)))) ?_)
  refine SemW_make (n := rules.length) Tryz.underlying25 ti3 (by omega) (by omega) (by unfold maxLen; omega) fun pl w1 cs hcs hNl _ => ?_
  have hlen : cs.length = rules.length := by simpa using hcs
  try simp only [KS, Nat.reduceAdd, Nat.reduceMul, Nat.reduceEqDiff, ↓reduceIte, UT]
  (repeat first | with_reducible first | refine jy ?_ | refine jG UT ?_)
  have hD0 : DI pa pl J [] a cs w1 :=
    ⟨hJ.start _ _ _ hN hNl.ext (by rw [hNl.blk]; omega) (by rw [hNl.blk, hNl.size]; omega), ha.ext hNl.ext, hNl.row, by have := ha.lt; rw [hNl.blk]; omega⟩
  refine Run_loop (σ := List Int × Int × List Value) (fun s => [(0, some yv), (1, some (.pointer (some pr))), (2, some (.pointer (some pa))), (3, some (.pointer (some po))), (5, some (.slice (some pl) rules.length rules.length))])
    (fun s w' => DI pa pl J s.1 s.2.1 s.2.2 w' ∧ 0 ≤ s.2.1 ∧ s.2.1 ≤ 2097152 ∧ s.2.2.length = rules.length ∧ Cal.deps rules off a 2097152 = s.1 ++ Cal.deps rules off s.2.1 2097152) (fun s => (2097152 - s.2.1).toNat)
    ([], a, cs) (by simp [SubB, fnd]) ⟨hD0, h0, hm, hlen, by simp⟩ ?_
  rintro ⟨pre, b, cs⟩ w2 ⟨hD, b0, bm, hlen, hd⟩
  simp only at hD b0 bm hlen hd
  obtain ⟨hW, r1, r2, o1, o2, a1, a2⟩ := hD.facts hJ
  (repeat first | with_reducible first | refine jy ?_ | refine jG (aa UT (aa a1 a2)) ?_)
  refine Run_cond (fun _ => rfl) (fun h1 => ?_) (fun h1 => ?_)
  · simp at h1
    (repeat first | with_reducible first | refine jy ?_ | refine jG (aa UT (aa r1 (aa r2 (aa hx.s hx.len)))) ?_)
    refine Run_loop (σ := Nat × List Value) (fun s => [(0, some yv), (1, some (.pointer (some pr))), (2, some (.pointer (some pa))), (3, some (.pointer (some po))), (5, some (.slice (some pl) rules.length rules.length)), (15, some (.int .i64 rules.length)), (16, some (.int .i64 s.1))])
      (fun s w' => DI pa pl J pre b s.2 w' ∧ s.1 ≤ rules.length ∧ s.2.length = rules.length ∧ s.2.take s.1 = (rules.take s.1).map fun x => Value.int .i64 (Cal.after x b)) (fun s => rules.length - s.1)
      (0, cs) (by simp [SubB, fnd]) ⟨hD, by simp, hlen, by simp⟩ ?_
    rintro ⟨k, cs⟩ w2 ⟨hD, hk, hlen, hcs⟩
    simp only at hD hk hlen hcs
    obtain ⟨hW, r1, r2, o1, o2, a1, a2⟩ := hD.facts hJ
    (repeat first | with_reducible first | refine jy ?_ | refine jG UT ?_)
    refine Run_cond (fun _ => rfl) (fun h2 => ?_) (fun h2 => ?_)
    · simp at h2
      obtain ⟨f1, f2⟩ := (hx.ext hW).rule h2
      simp only [Rule.cs, AtN, KS, Nat.reduceAdd, Nat.reduceMul, Nat.reduceEqDiff, ↓reduceIte, UT] at f1
      (repeat first | with_reducible first | refine jy ?_ | refine jS (aa UT (aa r1 r2)) ?_)
      refine Run_tail 9 mixed (by kernel_rfl) (by kernel_rfl) (by kernel_rfl) fun _ => ?_
      simp only [KS, Nat.reduceAdd, Nat.reduceMul, Nat.reduceEqDiff, ↓reduceIte, UT, r1, r2, a1, a2, hx.s, hx.len, f1, List.take_succ_cons, List.take_zero, List.drop_succ_cons, List.drop_zero]
      refine ⟨by omega, ⟨.int .i64 (Cal.after rules[k] b), PC_pure call149 (fun w1 hw1 => calAfter rules[k] b w1 (fit hok h2) b0 bm), by omega, fun w3 hw3 _ => ?_⟩⟩
      have hD3 := hD.ext hJ hw3
      try simp only [KS, Nat.reduceAdd, Nat.reduceMul, Nat.reduceEqDiff, ↓reduceIte, UT]
      refine SemW_setAt cells3 hD3.l (by omega) rfl rfl fun w4 hr4 hk4 _ => ?_
      have hD4 := hD3.setl hJ hk4 hr4
      try simp only [KS, Nat.reduceAdd, Nat.reduceMul, Nat.reduceEqDiff, ↓reduceIte, UT]
      (repeat first | with_reducible first | refine jy ?_ | refine jG UT ?_)
      refine Run_lp ⟨(k + 1, _), ?_, ⟨hD4, by simp; omega, by simpa using hlen, ?_⟩, by simp; omega⟩
      · simp [SubB, fnd, wrap_in (x := (k : Int) + 1) (by omega) (by omega)]
      · simp only
        rw [List.take_succ_eq_append_getElem (by simp; omega), List.take_succ_eq_append_getElem h2, List.map_append, ← hcs]
        simp [List.take_set_of_le]
    · simp at h2
      obtain rfl : k = rules.length := by omega
      have hcs' : cs = (rules.map fun x => Cal.after x b).map (Value.int .i64) := by
        rw [List.take_length, ← hlen, List.take_length] at hcs
        rw [hcs]; simp
      have hs : Sl w2 (.slice (some pl) rules.length rules.length) (rules.map fun x => Cal.after x b) := by
        have hr := hD.l
        rw [hcs'] at hr
        have := Row.ints hr (fun x hx => by
          obtain ⟨r, hr, rfl⟩ := List.mem_map.1 hx
          have h := Cal.after_spec (hok.r r hr) bm
          unfold I64; omega) (by simp; omega)
        simpa using this
      have hmin : minL (rules.map fun x => Cal.after x b) = Cal.firstR rules b := by simp [minL, Cal.firstR, List.foldl_map]
      obtain ⟨s1, s2, s3, s4⟩ := Cal.firstR_spec hok.r (m := b) (by omega)
      have hn2 := Cal.nxt_rules hok (m := b) (by omega)
      have hit := Cal.nxt_hit hok (m := b) (by omega)
      have hdn := Cal.deps_nxt (rules := rules) (off := off) (a := b) (b := 2097152) (by omega)
      rw [hn2] at hdn
      (repeat first | with_reducible first | refine jy ?_ | refine jG UT ?_)
      refine CallW_pure call150 (calFirst _ _ w2 hs) fun w3 hw3 => ?_
      rw [hmin]
      generalize Cal.firstR rules b = t at *
      have hD3 := hD.ext hJ hw3
      try simp only [KS, Nat.reduceAdd, Nat.reduceMul, Nat.reduceEqDiff, ↓reduceIte, UT]
      refine SemW_set1 cells3 hD3.a rfl rfl fun w4 hr4 hk4 _ => ?_
      have hD4 := hD3.seta hJ hk4 hr4
      obtain ⟨hW, r1, r2, o1, o2, a1, a2⟩ := hD4.facts hJ
      try simp only [KS, Nat.reduceAdd, Nat.reduceMul, Nat.reduceEqDiff, ↓reduceIte, UT]
      (repeat first | with_reducible first | refine jy ?_ | refine jG (aa UT (aa a1 a2)) ?_)
      refine Run_cond (fun _ => rfl) (fun h3 => ?_) (fun h3 => ?_)
      · simp at h3
        (repeat first | with_reducible first | refine jy ?_ | refine jG UT ?_)
        refine Run_ret ?_
        rw [if_neg (by rw [h3, Cal.nxt_end (by omega)]; omega)] at hdn
        rw [hdn, List.append_nil] at hd
        simp only [Rets, RetM, resV, fnd, oneOr]
        exact ⟨by trivial, .inr ⟨_, by rw [hd]; exact hD4.j⟩⟩
      · simp at h3
        (repeat first | with_reducible first | refine jy ?_ | refine jG (aa UT (aa o1 (aa o2 (aa hy.s hy.len)))) ?_)
        refine Run_loop (σ := Nat) (fun s => [(0, some yv), (1, some (.pointer (some pr))), (2, some (.pointer (some pa))), (3, some (.pointer (some po))), (5, some (.slice (some pl) rules.length rules.length)), (33, some vb), (34, some (.int .i64 off.length)), (35, some (.int .i64 s))])
          (fun s w' => DI pa pl J pre t cs w' ∧ s ≤ off.length ∧ (off.take s).any (Cal.inGap · t) = false) (fun s => off.length - s)
          0 (by simp [SubB, fnd]) ⟨hD4, by simp, by simp⟩ ?_
        rintro k w5 ⟨hD, hk, hng⟩
        try simp only at hD hk hng
        obtain ⟨hW, r1, r2, o1, o2, a1, a2⟩ := hD.facts hJ
        (repeat first | with_reducible first | refine jy ?_ | refine jG UT ?_)
        refine Run_cond (fun _ => rfl) (fun h4 => ?_) (fun h4 => ?_)
        · simp at h4
          obtain ⟨f1, f2⟩ := (hy.ext hW).gap h4
          have hgk := hok.g off[k] (List.getElem_mem h4)
          simp only [Gap.cs, AtN, KS, Nat.reduceAdd, Nat.reduceMul, Nat.reduceEqDiff, ↓reduceIte, UT] at f1
          (repeat first | with_reducible first | refine jy ?_ | refine jG (aa UT (aa hy.s (aa hy.len f1))) ?_)
          refine SemW_var ti162 rfl rfl (by decide) rfl fun p w6 hN6 => ?_
          have g1 := hN6.at_.n
          simp only [AtN, KS, Nat.reduceAdd, Nat.reduceMul, Nat.reduceEqDiff, ↓reduceIte, UT] at g1
          have hD6 := hD.ext hJ hN6.ext
          obtain ⟨hW, r1, r2, o1, o2, a1, a2⟩ := hD6.facts hJ
          try simp only [KS, Nat.reduceAdd, Nat.reduceMul, Nat.reduceEqDiff, ↓reduceIte, UT]
          (repeat first | with_reducible first | refine jy ?_ | refine jG (aa UT (aa g1 (aa a1 a2))) ?_)
          have hv : (decide (off[k].From ≤ t) && decide (t < off[k].Until)) = Cal.inGap off[k] t := by
            rw [Bool.eq_iff_iff]; simp [Cal.inGap]
          rw [hv]
          refine Run_cond (fun _ => rfl) (fun h5 => ?_) (fun h5 => ?_)
          · have hgap := Cal.nxt_gap hok (List.getElem_mem h4) h5
            simp [Cal.inGap] at h5
            (repeat first | with_reducible first | refine jy ?_ | refine jG (aa UT g1) ?_)
            refine SemW_set1 cells3 hD6.a rfl rfl fun w7 hr7 hk7 _ => ?_
            have hD7 := hD6.seta hJ hk7 hr7
            try simp only [KS, Nat.reduceAdd, Nat.reduceMul, Nat.reduceEqDiff, ↓reduceIte, UT]
            (repeat first | with_reducible first | refine jy ?_ | refine jG UT ?_)
            refine Run_lp ⟨(pre, off[k].Until, cs), ?_, ⟨hD7, by simp; omega, by simp; omega, hlen, ?_⟩, by simp; omega⟩
            · simp [SubB, fnd]
            · simp only
              rw [hd, hdn, hgap, ← Cal.deps_nxt (by omega)]
          · (repeat first | with_reducible first | refine jy ?_ | refine jG UT ?_)
            refine Run_lp ⟨k + 1, ?_, ⟨hD6, by omega, ?_⟩, by omega⟩
            · simp [SubB, fnd, wrap_in (x := (k : Int) + 1) (by omega) (by omega)]
            · try simp only
              rw [List.take_succ_eq_append_getElem h4, List.any_append, hng]
              simp [h5]
        · simp at h4
          obtain rfl : k = off.length := by omega
          rw [List.take_length] at hng
          have hnt := hit (by omega) hng
          rw [hnt, if_pos (by omega)] at hdn
          (repeat first | with_reducible first | refine jy ?_ | refine jG (aa UT (aa a1 a2)) ?_)
          refine (hJ.yield _ _ _ t _ hD.j (by rw [hd, hdn])).mono fun v w6 hv => ?_
          obtain ⟨c, rfl, hk6, hc⟩ := hv
          try simp only [KS, Nat.reduceAdd, Nat.reduceMul, Nat.reduceEqDiff, ↓reduceIte, UT]
          (repeat first | with_reducible first | refine jy ?_ | refine jG UT ?_)
          refine Run_cond (fun _ => rfl) (fun h5 => ?_) (fun h5 => ?_)
          · simp at h5
            subst h5
            simp at hc
            (repeat first | with_reducible first | refine jy ?_ | refine jG UT ?_)
            refine Run_ret ?_
            simp only [Rets, RetM, resV, fnd, oneOr]
            exact ⟨by trivial, .inl hc⟩
          · simp at h5
            subst h5
            simp only [if_true] at hc
            have hD6 : DI pa pl J (pre ++ [t]) t cs w6 := ⟨hc, hD.a.keep hk6 (.inl rfl), hD.l.keep hk6 (.inr rfl), hD.ne⟩
            obtain ⟨hW, r1, r2, o1, o2, a1, a2⟩ := hD6.facts hJ
            (repeat first | with_reducible first | refine jy ?_ | refine jG (aa UT (aa a1 a2)) ?_)
            rw [wrap_in (x := t + 1) (by omega) (by omega)]
            refine SemW_set1 cells3 hD6.a rfl rfl fun w7 hr7 hk7 _ => ?_
            have hD7 := hD6.seta hJ hk7 hr7
            try simp only [KS, Nat.reduceAdd, Nat.reduceMul, Nat.reduceEqDiff, ↓reduceIte, UT]
            (repeat first | with_reducible first | refine jy ?_ | refine jG UT ?_)
            refine Run_lp ⟨(_, t + 1, cs), ?_, ⟨hD7, by simp; omega, by simp; omega, hlen, ?_⟩, by simp; omega⟩
            · simp [SubB, fnd]
            · rw [hd, hdn]; simp
  · simp at h1
    (repeat first | with_reducible first | refine jy ?_ | refine jG UT ?_)
    refine Run_nil ?_
    have : Cal.deps rules off b 2097152 = [] := by unfold Cal.deps; rw [show (2097152 - b).toNat = 0 by omega]; rfl
    rw [this, List.append_nil] at hd
    simp only [Rets, RetM, resV, fnd, oneOr]
    exact ⟨by trivial, .inr ⟨_, by rw [hd]; exact hD.j⟩⟩
theorem deps_below {rules : List Rule} {off : List Gap} {a u b : Int} (h1 : a ≤ u) (h2 : u ≤ b) : Cal.deps rules off a u = (Cal.deps rules off a b).filter (fun x => decide (x < u)) := by
  rw [Cal.deps_append h1 h2, List.filter_append]
  have e1 : (Cal.deps rules off a u).filter (fun x => decide (x < u)) = Cal.deps rules off a u := List.filter_eq_self.2 fun x hx => by
    have := (Cal.deps_mem h1).1 hx
    simp; omega
  have e2 : (Cal.deps rules off u b).filter (fun x => decide (x < u)) = [] := List.filter_eq_nil_iff.2 fun x hx => by
    have := (Cal.deps_mem h2).1 hx
    simp; omega
  rw [e1, e2, List.append_nil]
theorem deps_cut {rules : List Rule} {off : List Gap} {a u b x : Int} {pre r : List Int} (h1 : a ≤ u) (h2 : u ≤ b) (h : Cal.deps rules off a b = pre ++ x :: r) (hp : ∀ y ∈ pre, y < u) (hx : u ≤ x) : Cal.deps rules off a u = pre := by
  have hs := Cal.deps_sorted rules off a b
  rw [deps_below h1 h2, h, List.filter_append]
  rw [h] at hs
  have hs2 := (List.pairwise_append.1 hs).2.1
  have e1 : pre.filter (fun x => decide (x < u)) = pre := List.filter_eq_self.2 fun y hy => by simpa using hp y hy
  have e2 : (x :: r).filter (fun x => decide (x < u)) = [] := List.filter_eq_nil_iff.2 fun y hy => by
    rcases List.mem_cons.1 hy with rfl | hy
    · simp; omega
    · have := (List.pairwise_cons.1 hs2).1 y hy
      simp; omega
  rw [e1, e2, List.append_nil]
theorem deps_all {rules : List Rule} {off : List Gap} {a u b : Int} {pre : List Int} (h1 : a ≤ u) (h2 : u ≤ b) (h : Cal.deps rules off a b = pre) (hp : ∀ y ∈ pre, y < u) : Cal.deps rules off a u = pre := by
  rw [deps_below h1 h2, h]
  exact List.filter_eq_self.2 fun y hy => by simpa using hp y hy
theorem deps_more {rules : List Rule} {off : List Gap} {a u b x : Int} {pre r : List Int} (h1 : a ≤ u) (h2 : u ≤ b) (h : Cal.deps rules off a b = pre ++ x :: r) (hp : ∀ y ∈ pre, y < u) (hx : x < u) : pre.length < (Cal.deps rules off a u).length := by
  rw [deps_below h1 h2, h, List.filter_append]
  have e1 : pre.filter (fun x => decide (x < u)) = pre := List.filter_eq_self.2 fun y hy => by simpa using hp y hy
  rw [e1]
  simp [hx]
theorem own_ints {base : Nat} {w : World} {v : Value} {n : Nat} {xs : List Int} (h : w.ownsRow base 3 1 v n (xs.map (Value.int .i64))) (hI : ∀ x ∈ xs, I64 x) (hb : n ≤ 140737488355328) : Sl w v xs := by
  obtain ⟨h1, h2, h3, h4⟩ := ownsRow_val h
  have hn : xs.length = n := by simpa using h.1
  refine ⟨h1, by omega, by omega, by omega, h4, fun i hi => ⟨_, ⟨rfl, hI _ (List.getElem_mem hi)⟩, ?_⟩⟩
  have ha := ownsRow_at h (by simp; omega)
  intro j u hj
  rw [add_add]
  cases j with
  | zero => simp at hj; subst hj; exact ha _ _ (by simp [show i * Enc.n Int + 0 = i from Nat.mul_one i, hi])
  | succ j => simp at hj
structure MF (W : World) (pr po pa pu pl pe : Addr) (l d B : Nat) : Prop where
  h : W.heap.size ≤ pu.block ∧ W.heap.size ≤ pl.block ∧ W.heap.size ≤ pe.block ∧ W.heap.size ≤ pr.block ∧ W.heap.size ≤ po.block ∧ W.heap.size ≤ pa.block ∧
    pu.block ≠ pl.block ∧ pu.block ≠ pe.block ∧ pl.block ≠ pe.block ∧ pu.block < pr.block ∧ pl.block < pr.block ∧ pe.block < pr.block ∧ pu.block < po.block ∧ pl.block < po.block ∧ pe.block < po.block ∧ pu.block < pa.block ∧ pl.block < pa.block ∧ pe.block < pa.block ∧
    pr.block ≠ pa.block ∧ po.block ≠ pa.block ∧ pr.block < d ∧ po.block < d ∧ pa.block < d ∧ d < l ∧ l < B
structure MS (W : World) (pr po pa pu pl pe : Addr) (l d B : Nat) (va vb : Value) (u : Int) (v : Value) (e : Int) (w : World) : Prop where
  ext : Ext W w
  r : Row w pr 79 [va]
  o : Row w po 80 [vb]
  u : Row w pu 3 [.int .i64 u]
  l : Row w pl 25 [v]
  e : Row w pe 37 [.int .i64 e]
  d : w.heap[d]? = some (.deferred (some []))
  B : B ≤ w.heap.size
theorem MS.keep {W w w' : World} {pr po pa pu pl pe : Addr} {l d B : Nat} {va vb : Value} {u : Int} {v : Value} {e : Int} {S : Nat → Prop} (hF : MF W pr po pa pu pl pe l d B) (h : MS W pr po pa pu pl pe l d B va vb u v e w) (hk : Keep S w w')
    (hS : ∀ k, k < B → k ≠ pa.block → k ≠ l → S k) : MS W pr po pa pu pl pe l d B va vb u v e w' := by
  have := hF.h
  refine ⟨hk.ext h.ext fun k hk => hS k (by omega) (by omega) (by omega), h.r.keep hk (hS _ ?_ ?_ ?_), h.o.keep hk (hS _ ?_ ?_ ?_), h.u.keep hk (hS _ ?_ ?_ ?_), h.l.keep hk (hS _ ?_ ?_ ?_), h.e.keep hk (hS _ ?_ ?_ ?_), (hk.block _ (by have := h.B; omega) (hS _ ?_ ?_ ?_)).trans h.d, Nat.le_trans h.B hk.size⟩
  all_goals omega
theorem MS.setl {W w w' : World} {pr po pa pu pl pe : Addr} {l d B : Nat} {va vb : Value} {u : Int} {v v' : Value} {e : Int} (hF : MF W pr po pa pu pl pe l d B) (h : MS W pr po pa pu pl pe l d B va vb u v e w) (hk : Keep (fun k => k ≠ pl.block) w w')
    (hr : Row w' pl 25 [v']) : MS W pr po pa pu pl pe l d B va vb u v' e w' := by
  have := hF.h
  refine ⟨hk.ext h.ext fun k hk => ?_, h.r.keep hk ?_, h.o.keep hk ?_, h.u.keep hk ?_, hr, h.e.keep hk ?_, (hk.block _ (by have := h.B; omega) ?_).trans h.d, Nat.le_trans h.B hk.size⟩
  all_goals omega
theorem MS.sete {W w w' : World} {pr po pa pu pl pe : Addr} {l d B : Nat} {va vb : Value} {u : Int} {v : Value} {e e' : Int} (hF : MF W pr po pa pu pl pe l d B) (h : MS W pr po pa pu pl pe l d B va vb u v e w) (hk : Keep (fun k => k ≠ pe.block) w w')
    (hr : Row w' pe 37 [.int .i64 e']) : MS W pr po pa pu pl pe l d B va vb u v e' w' := by
  have := hF.h
  refine ⟨hk.ext h.ext fun k hk => ?_, h.r.keep hk ?_, h.o.keep hk ?_, h.u.keep hk ?_, h.l.keep hk ?_, hr, (hk.block _ (by have := h.B; omega) ?_).trans h.d, Nat.le_trans h.B hk.size⟩
  all_goals omega
section
variable (W : World) (pr po pa pu pl pe : Addr) (l d B : Nat) (va vb : Value) (u : Int) (rc : Loop) (D : List Int)
def MJ0 (w : World) : Prop := MS W pr po pa pu pl pe l d B va vb u (.slice none 0 0) 0 w ∧ Lp l rc .ready none w
def MJv (g : Nat) (v : Value) (pre : List Int) (w : World) : Prop := w.ownsRow (g + 1) 3 1 v pre.length (pre.map (Value.int .i64)) ∧ pre.length ≤ 2000 ∧ (∀ y ∈ pre, y < u) ∧ B ≤ g ∧ g < w.heap.size
def MJ (g : Nat) (pre : List Int) (w : World) : Prop := ∃ v, MS W pr po pa pu pl pe l d B va vb u v 0 w ∧ Lp l rc .ready none w ∧ MJv B u g v pre w
def MJx (w : World) : Prop := (∃ g v pre x r, MS W pr po pa pu pl pe l d B va vb u v 0 w ∧ Lp l rc .done (some (.exit 0)) w ∧ MJv B u g v pre w ∧ D = pre ++ x :: r ∧ u ≤ x) ∨
  (MS W pr po pa pu pl pe l d B va vb u (.slice none 0 0) 2 w ∧ Lp l rc .done (some .ret) w ∧ ∃ pre x r, pre.length = 2000 ∧ D = pre ++ x :: r ∧ (∀ y ∈ pre, y < u) ∧ x < u)
end
theorem MJv.keep {pa : Addr} {B : Nat} {u : Int} {g : Nat} {v : Value} {pre : List Int} {w w' : World} {S : Nat → Prop} (h : MJv B u g v pre w) (hk : Keep S w w') (hS : ∀ k, g < k → S k) : MJv B u g v pre w' :=
  ⟨ownsRow_blk h.1 fun g' hg' => hk.block _ (h.1.lt g' hg').2 (hS _ (h.1.lt g' hg').1), h.2.1, h.2.2.1, h.2.2.2.1, Nat.lt_of_lt_of_le h.2.2.2.2 hk.size⟩
theorem MJ_mk {W : World} {pr po pa pu pl pe : Addr} {l d B : Nat} {va vb : Value} {u : Int} {rc : Loop} {D : List Int} {yv : Value} (hF : MF W pr po pa pu pl pe l d B)
    (h : ∀ g pre w x r, MJ W pr po pa pu pl pe l d B va vb u rc g pre w → D = pre ++ x :: r → CallW Tryz.prog yv [.int .i64 x] w fun v w' => ∃ b, v = .bool b ∧ Keep (fun k => k = pa.block ∨ k = g) w w' ∧ if b = true then MJ W pr po pa pu pl pe l d B va vb u rc g (pre ++ [x]) w' else MJx W pr po pa pu pl pe l d B va vb u rc D w') :
    DepJ W pr po pa va vb yv D (MJ0 W pr po pa pu pl pe l d B va vb u rc) (MJ W pr po pa pu pl pe l d B va vb u rc) (MJx W pr po pa pu pl pe l d B va vb u rc D) := by
  have hF' := hF.h
  refine ⟨fun w ⟨hM, hl⟩ => ⟨hM.ext, hM.r.at_, hM.o.at_⟩, fun w w' g ⟨hM, hl⟩ hw hg1 hg2 => ⟨_, hM.keep hF (Keep.of_ext (S := fun _ => True) hw) (fun _ _ _ _ => trivial), hl.keep (Keep.of_ext (S := fun _ => True) hw) trivial, ?_⟩,
    fun g pre w ⟨v, hM, hl, ho⟩ => ⟨hM.ext, hM.r.at_, hM.o.at_⟩, fun g pre w w' ⟨v, hM, hl, ho⟩ hk => ⟨v, hM.keep hF hk fun k h1 h2 _ => ?_, hl.keep hk ?_, MJv.keep (pa := pa) ho hk fun k hk => ?_⟩, h⟩
  · exact ⟨World.ownsRow_nil _ _ _ _, by simp, by simp, by have := hM.B; omega, hg2⟩
  · have := ho.2.2.2.1; omega
  · have := ho.2.2.2.1; omega
  · have := ho.2.2.2.1; omega
def MomRetO (w : World) (ms : List Int × Int) (e : Ending) (w' : World) : Prop := ∃ v, e = .returned (.tuple #[v, .int .i64 ms.2]) ∧ Ext w w' ∧ Sl w' v ms.1 ∧ ∃ n xs, w'.ownsRow w.heap.size 3 1 v n xs
theorem momRet {w w' : World} {ms : List Int × Int} {xs : List Int} {e : Int} {v : Value} (hm : ms = (xs, e)) (hx : Ext w w') (hs : Sl w' v xs) (ho : ∃ n xs, w'.ownsRow w.heap.size 3 1 v n xs) : MomRetO w ms (.returned (.tuple #[v, .int .i64 e])) w' := by
  subst hm; exact ⟨v, rfl, hx, hs, ho⟩
theorem own_mono {w : World} {B B' : Nat} {t : TypeId} {z : Nat} {v : Value} {n : Nat} {xs : List Value} (hB : B' ≤ B) (h : w.ownsRow B t z v n xs) : ∃ n xs, w.ownsRow B' t z v n xs := by
  obtain ⟨hl, hb⟩ := h
  refine ⟨n, xs, hl, ?_⟩
  rcases hb with h | ⟨g, cap, cur, h0, hbs, h⟩
  · exact .inl h
  · exact .inr ⟨g, cap, cur, h0, by omega, h⟩
theorem calMomentsO (va vb : Value) (rules : List Rule) (off : List Gap) (a b : Int) (w : World) (hx : Sl w va rules) (hy : Sl w vb off) :
    Calls Tryz.prog 88 #[va, vb, .int .i64 a, .int .i64 b] w (MomRetO w (Cal.moments rules off a b)) := by
  refine Calls_of_Run (args := [va, vb, .int .i64 a, .int .i64 b]) (n := 44) (rs := [.cell 8 25, .cell 9 37]) Tryz.func88 rfl rfl rfl (by simp) ?_
  (repeat first | with_reducible first | refine jy ?_ | refine jS UT ?_)
  refine SemW_box fun pu w1 h1 => ?_
  try simp only [KS, Nat.reduceAdd, Nat.reduceMul, Nat.reduceEqDiff, ↓reduceIte, UT]
  refine SemW_allocT ti25 fun pl w2 h2 => SemW_allocT ti37 fun pe w3 h3 => ?_
  have u3 := h1.row.ext (h2.ext.trans h3.ext)
  have l3 := h2.row.ext h3.ext
  have e3 := h3.row
  have x3 := h1.ext.trans (h2.ext.trans h3.ext)
  have b1 := h1.blk
  have b2 := h2.blk
  have b3 := h3.blk
  have s1 := h1.size
  have s2 := h2.size
  have s3 := h3.size
  simp only [KS, Nat.reduceAdd, Nat.reduceMul, Nat.reduceEqDiff, ↓reduceIte, UT] at u3 l3 e3
  clear h1 h2 h3
  try simp only [KS, Nat.reduceAdd, Nat.reduceMul, Nat.reduceEqDiff, ↓reduceIte, UT]
  (repeat first | with_reducible first | refine jy ?_ | refine jG UT ?_)
  refine CallW_pure call95 (calCheck va vb rules off w3 (hx.ext x3) (hy.ext x3)) fun w4 hw4 => ?_
  try simp only [KS, Nat.reduceAdd, Nat.reduceMul, Nat.reduceEqDiff, ↓reduceIte, UT]
  refine SemW_set1 cells37 (e3.ext hw4) rfl rfl fun w5 e5 k5 s5 => ?_
  simp only [KS, Nat.reduceAdd, Nat.reduceMul, Nat.reduceEqDiff, ↓reduceIte, UT] at e5
  have x5 : Ext w w5 := Keep.ext (x3.trans hw4) k5 fun k hk => by omega
  have u5 := (u3.ext hw4).keep k5 (by omega)
  have l5 := (l3.ext hw4).keep k5 (by omega)
  have s5' : w.heap.size + 3 ≤ w5.heap.size := by have := hw4.size; omega
  obtain ⟨e51, e52⟩ := at1 e5.at_
  try simp only [KS, Nat.reduceAdd, Nat.reduceMul, Nat.reduceEqDiff, ↓reduceIte, UT]
  (repeat first | with_reducible first | refine jy ?_ | refine jG (aa UT (aa e51 e52)) ?_)
  refine Run_cond (fun _ => rfl) (fun h => ?_) (fun h => ?_)
  · simp at h
    (repeat first | with_reducible first | refine jy ?_ | refine jS UT ?_)
    refine Run_any (.alt 0 (.alt 1 (.alt 2 .done .stop) .stop) (.alt 1 (.alt 0 (.alt 2 .done .stop) .stop) .stop)) mixed (by kernel_rfl) fun w6 hw6 _ => ?_
    simp only [KS, Nat.reduceAdd, Nat.reduceMul, Nat.reduceEqDiff, ↓reduceIte, UT, et]
    have e6 := e5.ext hw6
    have l6 := l5.ext hw6
    obtain ⟨e61, e62⟩ := at1 e6.at_
    refine ⟨fun _ => ⟨e62, fun _ => ?_⟩, fun _ => ?_⟩
    · refine SemW_set1 cells25 l6 rfl rfl fun w7 l7 k7 s7 _ => ?_
      simp only [KS, Nat.reduceAdd, Nat.reduceMul, Nat.reduceEqDiff, ↓reduceIte, UT] at l7
      refine SemW_set1 cells37 (e6.keep k7 (by omega)) (by rw [e61]; rfl) (by rw [e61]; rfl) fun w8 e8 k8 s8 => ?_
      rw [e61] at e8
      simp only [KS, Nat.reduceAdd, Nat.reduceMul, Nat.reduceEqDiff, ↓reduceIte, UT] at e8
      refine Run_ret ?_
      simp only [Rets, RetM, resV, fnd, oneOr, ↓reduceIte]
      refine ⟨_, _, rfl, loadVar_row rfl (l7.keep k8 (by omega)), _, _, rfl, loadVar_row rfl e8, momRet (xs := []) (by simp [Cal.moments, h]) (Keep.ext (Keep.ext (x5.trans hw6) k7 fun k hk => by omega) k8 fun k hk => by omega) (Sl.nil _) ⟨0, [], World.ownsRow_nil _ _ _ _⟩⟩
    · refine SemW_set1 cells25 l6 rfl rfl fun w7 l7 k7 s7 _ => ?_
      simp only [KS, Nat.reduceAdd, Nat.reduceMul, Nat.reduceEqDiff, ↓reduceIte, UT] at l7
      have e7 := e6.keep k7 (by omega)
      obtain ⟨e71, e72⟩ := at1 e7.at_
      refine ⟨e72, fun _ => ?_⟩
      refine SemW_set1 cells37 e7 (by rw [e71]; rfl) (by rw [e71]; rfl) fun w8 e8 k8 s8 => ?_
      rw [e71] at e8
      simp only [KS, Nat.reduceAdd, Nat.reduceMul, Nat.reduceEqDiff, ↓reduceIte, UT] at e8
      refine Run_ret ?_
      simp only [Rets, RetM, resV, fnd, oneOr, ↓reduceIte]
      refine ⟨_, _, rfl, loadVar_row rfl (l7.keep k8 (by omega)), _, _, rfl, loadVar_row rfl e8, momRet (xs := []) (by simp [Cal.moments, h]) (Keep.ext (Keep.ext (x5.trans hw6) k7 fun k hk => by omega) k8 fun k hk => by omega) (Sl.nil _) ⟨0, [], World.ownsRow_nil _ _ _ _⟩⟩
  · simp at h
    have hok := Cal.chk_ok h
    rw [h] at e5
    obtain ⟨u51, u52⟩ := at1 u5.at_
    (repeat first | with_reducible first | refine jy ?_ | refine jG (aa UT (aa u51 u52)) ?_)
    refine Run_cond (fun _ => rfl) (fun h2 => ?_) (fun h2 => ?_)
    · simp at h2
      have h4 : a < 0 ∨ b < a ∨ 2097152 < b := by omega
      (repeat first | with_reducible first | refine jy ?_ | refine jG UT ?_)
      refine SemW_set1 cells25 l5 rfl rfl fun w7 l7 k7 s7 => ?_
      simp only [KS, Nat.reduceAdd, Nat.reduceMul, Nat.reduceEqDiff, ↓reduceIte, UT] at l7
      try simp only [KS, Nat.reduceAdd, Nat.reduceMul, Nat.reduceEqDiff, ↓reduceIte, UT]
      refine SemW_set1 cells37 (e5.keep k7 (by omega)) rfl rfl fun w8 e8 k8 s8 => ?_
      simp only [KS, Nat.reduceAdd, Nat.reduceMul, Nat.reduceEqDiff, ↓reduceIte, UT] at e8
      try simp only [KS, Nat.reduceAdd, Nat.reduceMul, Nat.reduceEqDiff, ↓reduceIte, UT]
      (repeat first | with_reducible first | refine jy ?_ | refine jG UT ?_)
      refine Run_ret ?_
      simp only [Rets, RetM, resV, fnd, oneOr, ↓reduceIte]
      refine ⟨_, _, rfl, loadVar_row rfl (l7.keep k8 (by omega)), _, _, rfl, loadVar_row rfl e8, momRet (xs := []) (by simp [Cal.moments, h, h4]) (Keep.ext (Keep.ext x5 k7 fun k hk => by omega) k8 fun k hk => by omega) (Sl.nil _) ⟨0, [], World.ownsRow_nil _ _ _ _⟩⟩
    · simp at h2
      have h4 : ¬ (a < 0 ∨ b < a ∨ 2097152 < b) := by omega
      (repeat first | with_reducible first | refine jy ?_ | refine jG UT ?_)
      refine CallW_gen call125 (calDepartures va vb a w5 (isS_cells hx.s) (isS_cells hy.s)) fun e w6 ⟨pr, po, pa, he, hD⟩ => ⟨_, he, ?_⟩
      try simp only [KS, Nat.reduceAdd, Nat.reduceMul, Nat.reduceEqDiff, ↓reduceIte, UT]
      (repeat first | with_reducible first | refine jy ?_ | refine jG UT ?_)
      refine Run_range (fun _ => rfl) call148 fun rc w7 hps has hbd hT hw7 => ?_
      obtain ⟨hx67, hs7, hl7, hd7⟩ := range_start hw7
      have hF : MF w pr po pa pu pl pe (w6.heap.size + 1) w6.heap.size (w6.heap.size + 2) := by
        have q1 := hD.nr
        have q2 := hD.no
        have q3 := hD.na
        have q4 := hD.ra
        have q5 := hD.oa
        have q6 := hD.r.lt
        have q7 := hD.o.lt
        have q8 := hD.a.lt
        exact ⟨by omega⟩
      have hM7 : MS w pr po pa pu pl pe (w6.heap.size + 1) w6.heap.size (w6.heap.size + 2) va vb b (.slice none 0 0) 0 w7 :=
        ⟨x5.trans (hD.ext.trans hx67), hD.r.ext hx67, hD.o.ext hx67, (u5.ext hD.ext).ext hx67, (l5.ext hD.ext).ext hx67, (e5.ext hD.ext).ext hx67, hd7, by omega⟩
      have hF' := hF.h
      have hJ : DepJ w pr po pa va vb (.func (.yield (w6.heap.size + 1)) #[] #[]) (Cal.deps rules off a 2097152)
          (MJ0 w pr po pa pu pl pe (w6.heap.size + 1) w6.heap.size (w6.heap.size + 2) va vb b rc) (MJ w pr po pa pu pl pe (w6.heap.size + 1) w6.heap.size (w6.heap.size + 2) va vb b rc) (MJx w pr po pa pu pl pe (w6.heap.size + 1) w6.heap.size (w6.heap.size + 2) va vb b rc (Cal.deps rules off a 2097152)) := by
        refine MJ_mk hF fun g pre w8 x r ⟨v, hM, hl, ho, hlen, hlt, hBg, hgs⟩ hr => ?_
        have hM9 := hM.keep hF (lpSet_keep (l := w6.heap.size + 1) (rc := rc) (st := .busy) (pd := none)) fun k _ _ h => h
        have hl9 := hl.set .busy none
        obtain ⟨u91, u92⟩ := at1 hM9.u.at_
        obtain ⟨l91, l92⟩ := at1 hM9.l.at_
        have ho9 := ownsRow_blk ho (w' := lpSet w8 (w6.heap.size + 1) rc .busy none) fun g' hg' => lpSet_keep.block _ (ho.lt g' hg').2 (by have := (ho.lt g' hg').1; omega)
        obtain ⟨i1, i2, i3, i4⟩ := ownsRow_val ho9
        have hs9 : (lpSet w8 (w6.heap.size + 1) rc .busy none).heap.size = w8.heap.size := lpSet_size
        have hk9 : Keep (fun k => k ≠ w6.heap.size + 1) w8 (lpSet w8 (w6.heap.size + 1) rc .busy none) := lpSet_keep
        have k9 : Keep (fun k => k = pa.block ∨ k = g) w8 (lpSet w8 (w6.heap.size + 1) rc .busy none) := lpSet_keep.mono fun k _ hk => by omega
        simp only [CallW, Array.empty_append, Array.append_empty]
        refine yield_round hl (ps := [32]) hps has hbd hT rfl (by simp) ?_
        simp only [zipL]
        (repeat first | with_reducible first | refine jy ?_ | refine jG UT ?_)
        refine Run_lp ⟨hl, ?_⟩
        generalize lpSet w8 (w6.heap.size + 1) rc .busy none = w9 at *
        (repeat first | with_reducible first | refine jy ?_ | refine jG (aa UT (aa u91 u92)) ?_)
        refine Run_cond (fun _ => rfl) (fun h5 => ?_) (fun h5 => ?_)
        · simp at h5
          (repeat first | with_reducible first | refine jy ?_ | refine jG UT ?_)
          refine Run_out rfl ⟨hl9, false, rfl, k9.trans (lpSet_keep.mono fun k _ hk => by omega), ?_⟩
          simp only [Bool.false_eq_true, if_false]
          exact .inl ⟨g, v, pre, x, r, hM9.keep hF lpSet_keep fun k _ _ h => h, hl9.set _ _, MJv.keep (pa := pa) (MJv.keep (pa := pa) ⟨ho, hlen, hlt, hBg, hgs⟩ hk9 fun k hk => by omega) lpSet_keep fun k hk => by omega, hr, h5⟩
        · simp at h5
          (repeat first | with_reducible first | refine jy ?_ | refine jG (aa UT (aa l91 (aa l92 (aa i1 i2)))) ?_)
          refine Run_cond (fun _ => rfl) (fun h6 => ?_) (fun h6 => ?_)
          · simp at h6
            (repeat first | with_reducible first | refine jy ?_ | refine jG UT ?_)
            refine SemW_set1 cells25 hM9.l rfl rfl fun w10 l10 k10 s10 => ?_
            have hM10 := hM9.setl hF k10 l10
            try simp only [KS, Nat.reduceAdd, Nat.reduceMul, Nat.reduceEqDiff, ↓reduceIte, UT]
            refine SemW_set1 cells37 hM10.e rfl rfl fun w11 e11 k11 s11 => ?_
            have hM11 := hM10.sete hF k11 e11
            have hl11 := (hl9.keep k10 (by omega)).keep k11 (by omega)
            try simp only [KS, Nat.reduceAdd, Nat.reduceMul, Nat.reduceEqDiff, ↓reduceIte, UT]
            (repeat first | with_reducible first | refine jy ?_ | refine jG UT ?_)
            refine Run_ret ⟨hl11, false, rfl, ((k9.trans (k10.mono fun k _ hk => by omega)).trans (k11.mono fun k _ hk => by omega)).trans (lpSet_keep.mono fun k _ hk => by omega), ?_⟩
            simp only [Bool.false_eq_true, if_false]
            exact .inr ⟨hM11.keep hF lpSet_keep fun k _ _ h => h, hl11.set _ _, pre, x, r, by omega, hr, hlt, h5⟩
          · simp at h6
            (repeat first | with_reducible first | refine jy ?_ | refine jG (aa UT (aa l91 l92)) ?_)
            refine SemW_append1o (X := .int .i64 x) Tryz.underlying25 ti3 rfl (by decide) ho9 (by omega) rfl rfl (by unfold maxLen; omega) fun s v' w10 ho10 hg10 => ?_
            have k10 : Keep (fun k => k < g + 1) w9 w10 := Keep.grown hg10 fun k hk => by have := (ho9.lt k hk).1; omega
            have hM10 := hM9.keep hF k10 fun k _ _ _ => by omega
            have hl10 := hl9.keep k10 (by omega)
            obtain ⟨j1, j2, j3, j4⟩ := ownsRow_val ho10
            try simp only [KS, Nat.reduceAdd, Nat.reduceMul, Nat.reduceEqDiff, ↓reduceIte, UT]
            refine SemW_set1 cells25 hM10.l (isS_one j1).1 (isS_one j1).2 fun w11 l11 k11 s11 => ?_
            rw [isS_cells j1] at l11
            have hM11 := hM10.setl hF k11 l11
            have hl11 := hl10.keep k11 (by omega)
            have hs10 := k10.size
            have ho11 : MJv (w6.heap.size + 2) b g v' (pre ++ [x]) w11 := by
              refine ⟨?_, by simp; omega, fun y hy => ?_, hBg, by omega⟩
              · have := ownsRow_blk ho10 (w' := w11) fun g' hg' => k11.block _ (ho10.lt g' hg').2 (by have := (ho10.lt g' hg').1; omega)
                simpa [Value.cells] using this
              · rcases List.mem_append.1 hy with hy | hy
                · exact hlt y hy
                · simp at hy; subst hy; exact h5
            try simp only [KS, Nat.reduceAdd, Nat.reduceMul, Nat.reduceEqDiff, ↓reduceIte, UT]
            (repeat first | with_reducible first | refine jy ?_ | refine jG UT ?_)
            refine Run_nil ⟨hl11, true, rfl, ((k9.trans (k10.mono fun k _ hk => by omega)).trans (k11.mono fun k _ hk => by omega)).trans (lpSet_keep.mono fun k _ hk => by omega), ?_⟩
            simp only [if_true]
            exact ⟨v', hM11.keep hF lpSet_keep fun k _ _ h => h, hl11.set _ _, MJv.keep (pa := pa) ho11 lpSet_keep fun k hk => by omega⟩
      refine (depIter rules off hx hy hok a hJ (by omega) (by omega) w7 (hD.a.ext hx67) ⟨hM7, hl7⟩).mono fun e w8 ⟨he, hend⟩ => ⟨_, he, ?_⟩
      rcases hend with (⟨g, v, pre, x, r, hM, hl, ho, hr, hx9⟩ | ⟨hM, hl, pre, x, r, hlen, hr, hlt, hx9⟩) | ⟨g, v, hM, hl, ho⟩
      · refine ⟨.done, some (.exit 0), hl, by simp, ?_⟩
        obtain ⟨_, hlen, hlt, hBg, hgs⟩ := id ho
        have hdep := deps_cut (a := a) (u := b) (b := 2097152) (by omega) (by omega) hr hlt hx9
        simp only
        have ho9 := MJv.keep (pa := pa) ho (lpSet_keep (l := w6.heap.size + 1) (rc := rc) (st := .exhausted) (pd := some (.exit 0))) fun k hk => by omega
        have hM9 := hM.keep hF (lpSet_keep (l := w6.heap.size + 1) (rc := rc) (st := .exhausted) (pd := some (.exit 0))) fun k _ _ h => h
        obtain ⟨l91, l92⟩ := at1 hM9.l.at_
        obtain ⟨i1, i2, i3, i4⟩ := ownsRow_val ho9.1
        (repeat first | with_reducible first | refine jy ?_ | refine jG (aa UT (aa l91 l92)) ?_)
        refine SemW_set1 cells25 hM9.l (isS_one i1).1 (isS_one i1).2 fun w10 l10 k10 s10 => ?_
        rw [isS_cells i1] at l10
        have hM10 := hM9.setl hF k10 l10
        have ho10 := MJv.keep (pa := pa) ho9 k10 fun k hk => by omega
        try simp only [KS, Nat.reduceAdd, Nat.reduceMul, Nat.reduceEqDiff, ↓reduceIte, UT]
        refine SemW_set1 cells37 hM10.e rfl rfl fun w11 e11 k11 s11 => ?_
        have hM11 := hM10.sete hF k11 e11
        have ho11 := MJv.keep (pa := pa) ho10 k11 fun k hk => by omega
        try simp only [KS, Nat.reduceAdd, Nat.reduceMul, Nat.reduceEqDiff, ↓reduceIte, UT]
        (repeat first | with_reducible first | refine jy ?_ | refine jG UT ?_)
        refine Run_ret ?_
        simp only [Rets, RetM, resV, fnd, oneOr, ↓reduceIte]
        refine ⟨hM11.d, _, _, rfl, loadVar_row rfl (hM11.l.keep putObj_keep (by omega)), _, _, rfl, loadVar_row rfl (hM11.e.keep putObj_keep (by omega)), momRet (xs := pre) ?_ (Keep.ext hM11.ext putObj_keep fun k hk => by omega) (own_ints (MJv.keep (pa := pa) ho11 putObj_keep fun k hk => by omega).1 ?_ ?_) (own_mono (B := g + 1) (B' := w.heap.size) (by omega) (MJv.keep (pa := pa) ho11 putObj_keep fun k hk => by omega).1)⟩
        · unfold Cal.moments
          rw [if_neg (by simp [h]), if_neg h4, hdep, if_neg (by omega)]
        · intro y hy
          rw [← hdep] at hy
          exact I64_dep (by omega) (by omega) (by omega) hy
        · omega
      · refine ⟨.done, some .ret, hl, by simp, ?_⟩
        have hM9 := hM.keep hF (lpSet_keep (l := w6.heap.size + 1) (rc := rc) (st := .exhausted) (pd := some .ret)) fun k _ _ h => h
        simp only
        refine Run_ret ?_
        simp only [Rets, RetM, resV, fnd, oneOr, ↓reduceIte]
        refine ⟨hM9.d, _, _, rfl, loadVar_row rfl (hM9.l.keep putObj_keep (by omega)), _, _, rfl, loadVar_row rfl (hM9.e.keep putObj_keep (by omega)), momRet (xs := []) ?_ (Keep.ext hM9.ext putObj_keep fun k hk => by omega) (Sl.nil _) ⟨0, [], World.ownsRow_nil _ _ _ _⟩⟩
        have hdep := deps_more (a := a) (u := b) (b := 2097152) (by omega) (by omega) hr hlt hx9
        unfold Cal.moments
        rw [if_neg (by simp [h]), if_neg h4, if_pos (by omega)]
      · refine ⟨.ready, none, hl, by simp, ?_⟩
        obtain ⟨_, hlen, hlt, hBg, hgs⟩ := id ho
        have hdep := deps_all (a := a) (u := b) (b := 2097152) (by omega) (by omega) rfl hlt
        generalize Cal.deps rules off a 2097152 = pre at *
        simp only
        have ho9 := MJv.keep (pa := pa) ho (lpSet_keep (l := w6.heap.size + 1) (rc := rc) (st := .exhausted) (pd := none)) fun k hk => by omega
        have hM9 := hM.keep hF (lpSet_keep (l := w6.heap.size + 1) (rc := rc) (st := .exhausted) (pd := none)) fun k _ _ h => h
        obtain ⟨l91, l92⟩ := at1 hM9.l.at_
        obtain ⟨i1, i2, i3, i4⟩ := ownsRow_val ho9.1
        (repeat first | with_reducible first | refine jy ?_ | refine jG (aa UT (aa l91 l92)) ?_)
        refine SemW_set1 cells25 hM9.l (isS_one i1).1 (isS_one i1).2 fun w10 l10 k10 s10 => ?_
        rw [isS_cells i1] at l10
        have hM10 := hM9.setl hF k10 l10
        have ho10 := MJv.keep (pa := pa) ho9 k10 fun k hk => by omega
        try simp only [KS, Nat.reduceAdd, Nat.reduceMul, Nat.reduceEqDiff, ↓reduceIte, UT]
        refine SemW_set1 cells37 hM10.e rfl rfl fun w11 e11 k11 s11 => ?_
        have hM11 := hM10.sete hF k11 e11
        have ho11 := MJv.keep (pa := pa) ho10 k11 fun k hk => by omega
        try simp only [KS, Nat.reduceAdd, Nat.reduceMul, Nat.reduceEqDiff, ↓reduceIte, UT]
        (repeat first | with_reducible first | refine jy ?_ | refine jG UT ?_)
        refine Run_ret ?_
        simp only [Rets, RetM, resV, fnd, oneOr, ↓reduceIte]
        refine ⟨hM11.d, _, _, rfl, loadVar_row rfl (hM11.l.keep putObj_keep (by omega)), _, _, rfl, loadVar_row rfl (hM11.e.keep putObj_keep (by omega)), momRet (xs := pre) ?_ (Keep.ext hM11.ext putObj_keep fun k hk => by omega) (own_ints (MJv.keep (pa := pa) ho11 putObj_keep fun k hk => by omega).1 ?_ ?_) (own_mono (B := g + 1) (B' := w.heap.size) (by omega) (MJv.keep (pa := pa) ho11 putObj_keep fun k hk => by omega).1)⟩
        · unfold Cal.moments
          rw [if_neg (by simp [h]), if_neg h4, hdep, if_neg (by omega)]
        · intro y hy
          rw [← hdep] at hy
          exact I64_dep (by omega) (by omega) (by omega) hy
        · omega
theorem calMoments (va vb : Value) (rules : List Rule) (off : List Gap) (a b : Int) (w : World) (hx : Sl w va rules) (hy : Sl w vb off) :
    Calls Tryz.prog 88 #[va, vb, .int .i64 a, .int .i64 b] w (MomRet w (Cal.moments rules off a b)) :=
  (calMomentsO va vb rules off a b w hx hy).mono fun _ _ ⟨v, he, x, hs, _⟩ => ⟨v, he, x, hs⟩
end Go.Proofs.YtldjfebokojmfaaGreat
