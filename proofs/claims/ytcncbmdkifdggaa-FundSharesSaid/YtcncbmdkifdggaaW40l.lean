/- Chapter 40: FundShares. -/
import Derived.Test.YtcncbmdkifdggaaW40k
import Derived.Test.YtcncbmdkifdggaaP40b
namespace Go.Proofs.Ytcncbmdkifdggaa
open Go Go.Fk
set_option linter.unusedSimpArgs false
set_option linter.unusedVariables false
set_option maxRecDepth 100000

theorem staW {n : Int} {w : World} {K : Value → World → Prop} (hn : I64 n) (hK : ∀ v w', Ext w w' → Sl w' v (Fd.zs.set 1 n) → K v w') : CallW Try.prog (.func (.func 18) #[] #[]) [.int .i64 n] w K :=
  CallW_gen call18 (lwStart n w hn) fun e w' ⟨v, he, x, hs⟩ => ⟨_, he, hK v w' x hs⟩
theorem balW {va vb : Value} {s : List Int} {l : List MoveD} {r : List Int × Int} {w : World} {K : Value → World → Prop} (h : Bk.balances s l = r) (hx : Sl w va s) (hy : Sl w vb l) (hK : ∀ v w', Ext w w' → Sl w' v r.1 → K (.tuple #[v, .int .i64 r.2]) w') :
    CallW Try.prog (.func (.func 17) #[] #[]) [va, vb] w K := by
  subst h; exact CallW_gen call17 (bkBalances va vb s l w hx hy) fun e w' ⟨v, he, x, hs⟩ => ⟨_, he, hK v w' x hs⟩
theorem bchkW {va : Value} {l : List MoveD} {w : World} {e : Int} {K : Value → World → Prop} (h : Bk.chk l = e) (hy : Sl w va l) (hK : ∀ w', Ext w w' → K (.int .i64 e) w') : CallW Try.prog (.func (.func 19) #[] #[]) [va] w K :=
  CallW_pure call19 (bkCheck va l w hy) fun w' x => by rw [h]; exact hK w' x
/-- what a fund's accounts are after shares -/
theorem sha_bal {a s : Int} (h0 : 0 ≤ a) (h1 : a ≤ 1099511627776) (h2 : 1 ≤ s) (h3 : s ≤ 64) : ∃ b : List Int, Bk.balances (Fd.zs.set 1 a) (Fd.shares a s s.toNat) = (b, 0) ∧ b.length = 115 ∧ Bk.lo b 1 = 0 ∧ ∀ i : Nat, (i : Int) < s → Bk.lo b (51 + i) = Fd.part a s i := by
  have hs := Fd.zs_ok h0 (show a ≤ _ by omega)
  have hc := Fd.sha_chk h0 h1 h2 h3
  have ho := Fd.sha_out a s s.toNat
  have hp := Fd.pays hs hc ho
  have ht := Fd.sha_all (a := a) h2
  rw [ht, Fd.zs_lo (by omega), if_pos rfl, if_pos (by omega)] at hp
  have ha : Bk.allOk 0 (Fd.shares a s s.toNat) = true := by
    unfold Bk.chk at hc
    split at hc
    · cases hc
    · split at hc
      · assumption
      · cases hc
  have hl : (Fd.zs.set 1 a).length = 115 := by simp [Fd.zs]
  obtain ⟨A1, A2⟩ := Fd.out_after _ _ _ hl ho ha
  refine ⟨_, hp, by rw [Bk.after_len, hl], by rw [A1, ht, Fd.zs_lo (by omega), if_pos rfl]; omega, fun i hi => ?_⟩
  rw [A2 _ (by omega) (by omega), Fd.zs_lo (by omega), if_neg (by omega), Fd.sha_got, if_pos (by omega)]; omega
def psum (a s : Int) : Nat → Int
  | 0 => 0
  | n + 1 => psum a s n + Fd.part a s n
theorem psum_all {a s : Int} (h2 : 1 ≤ s) : psum a s s.toNat = a := by
  have : ∀ n, psum a s n = Fd.tot (Fd.shares a s n) := by
    intro n
    induction n with
    | zero => simp [psum, Fd.shares, Fd.tot]
    | succ n ih => rw [Fd.shares_succ, Fd.tot_append, ← ih]; simp [psum, Fd.tot, Fd.shaM]
  rw [this, Fd.sha_all h2]
theorem psum_bd {a s : Int} (h0 : 0 ≤ a) (h1 : a ≤ 1099511627776) (h2 : 1 ≤ s) : ∀ n : Nat, 0 ≤ psum a s n ∧ psum a s n ≤ 1099511627777 * n
  | 0 => by simp [psum]
  | n + 1 => by
    have := psum_bd h0 h1 h2 n
    have := part_bd (i := n) h0 h1 h2
    simp only [psum]; omega
set_option maxHeartbeats 4000000 in
theorem lawShares (a s : Int) (w : World) (ha : I64 a) : Calls Try.prog 6 #[.int .i64 a, .int .i64 s] w fun e w' => Yes e ∧ Ext w w' := by
  refine Calls_of_Run (args := [.int .i64 a, .int .i64 s]) (n := 125) (rs := [.tmp 4]) Try.func6 rfl rfl rfl (by simp) ?_
  (repeat first | with_reducible first | refine jq ?_ | refine jk ?_ | refine jc ?_ | refine jl ?_ | refine jb ?_ | refine jo ?_ | refine ji ?_ | refine jx rfl ?_ | refine And.intro (by first | assumption | omega | (intros; omega)) ?_ | ((first | refine jR KL6 (by kernel_rfl) fun _ => ?_ | skip); simp only [KS, Nat.reduceAdd, Nat.reduceMul, Nat.reduceEqDiff, ↓reduceIte, forall_const, Int.cast_ofNat_Int, Int.reduceToNat, TF6, KL6]; (try simp (disch := omega) only [wrapI, tmodI, tdivI]); (fail_if_success (with_reducible show False))))
  refine saneW fun w1 x1 => ?_
  (repeat first | with_reducible first | refine jq ?_ | refine jk ?_ | refine jc ?_ | refine jl ?_ | refine jb ?_ | refine jo ?_ | refine ji ?_ | refine jx rfl ?_ | refine And.intro (by first | assumption | omega | (intros; omega)) ?_ | ((first | refine jR KL6 (by kernel_rfl) fun _ => ?_ | skip); simp only [KS, Nat.reduceAdd, Nat.reduceMul, Nat.reduceEqDiff, ↓reduceIte, forall_const, Int.cast_ofNat_Int, Int.reduceToNat, TF6, KL6]; (try simp (disch := omega) only [wrapI, tmodI, tdivI]); (fail_if_success (with_reducible show False))))
  refine Run_condS (fun _ => rfl) (fun h => by cases h) (fun _ => ?_)
  (repeat first | with_reducible first | refine jq ?_ | refine jk ?_ | refine jc ?_ | refine jl ?_ | refine jb ?_ | refine jo ?_ | refine ji ?_ | refine jx rfl ?_ | refine And.intro (by first | assumption | omega | (intros; omega)) ?_ | ((first | refine jR KL6 (by kernel_rfl) fun _ => ?_ | skip); simp only [KS, Nat.reduceAdd, Nat.reduceMul, Nat.reduceEqDiff, ↓reduceIte, forall_const, Int.cast_ofNat_Int, Int.reduceToNat, TF6, KL6]; (try simp (disch := omega) only [wrapI, tmodI, tdivI]); (fail_if_success (with_reducible show False))))
  refine shaW rfl fun vl w2 x2 sl => ?_
  have y2 := x1.trans x2
  (repeat first | with_reducible first | refine jq ?_ | refine jk ?_ | refine jc ?_ | refine jl ?_ | refine jb ?_ | refine jo ?_ | refine ji ?_ | refine jx rfl ?_ | refine And.intro (by first | assumption | omega | (intros; omega)) ?_ | ((first | refine jR KL6 (by kernel_rfl) fun _ => ?_ | skip); simp only [KS, Nat.reduceAdd, Nat.reduceMul, Nat.reduceEqDiff, ↓reduceIte, forall_const, Int.cast_ofNat_Int, Int.reduceToNat, TF6, KL6]; (try simp (disch := omega) only [wrapI, tmodI, tdivI]); (fail_if_success (with_reducible show False))))
  by_cases hbad : a < 0 ∨ 1099511627776 < a ∨ s < 1 ∨ 64 < s
  · have e : Fd.share a s = ([], 1) := by unfold Fd.share; rw [if_pos hbad]
    rw [e] at sl ⊢
    refine Run_condS (fun _ => rfl) (fun h => ?_) (fun h => ?_)
    · (repeat first | with_reducible first | refine jq ?_ | refine jk ?_ | refine jc ?_ | refine jl ?_ | refine jb ?_ | refine jo ?_ | refine ji ?_ | refine jx rfl ?_ | refine And.intro (by first | assumption | omega | (intros; omega)) ?_ | ((first | refine jR KL6 (by kernel_rfl) fun _ => ?_ | skip); simp only [KS, Nat.reduceAdd, Nat.reduceMul, Nat.reduceEqDiff, ↓reduceIte, forall_const, Int.cast_ofNat_Int, Int.reduceToNat, TF6, KL6, sl.s, sl.len, pk_true, pk_false, false_or, or_false, false_imp_iff, true_imp_iff, not_true_eq_false, not_false_eq_true, Bool.true_or, Bool.false_or, Bool.or_true, Bool.or_false, Bool.true_and, Bool.false_and, Bool.and_true, Bool.and_false]; (try simp (disch := omega) only [wrapI, tmodI, tdivI]); (fail_if_success (with_reducible show False))))
      refine Run_ret ?_
      simp [Rets, RetM, resV, fnd, oneOr]
      exact ⟨by omega, y2⟩
    · simp at h
  have e : Fd.share a s = (Fd.shares a s s.toNat, 0) := by unfold Fd.share; rw [if_neg hbad]
  rw [e] at sl ⊢
  have a0 : 0 ≤ a := by omega
  have a1 : a ≤ 1099511627776 := by omega
  have s1 : 1 ≤ s := by omega
  have s64 : s ≤ 64 := by omega
  obtain ⟨b, hb, lb, b1, bi⟩ := sha_bal a0 a1 s1 s64
  have hck := Fd.sha_chk a0 a1 s1 s64
  refine Run_condS (fun _ => rfl) (fun h => ?_) (fun h => ?_)
  · simp at h
  (repeat first | with_reducible first | refine jq ?_ | refine jk ?_ | refine jc ?_ | refine jl ?_ | refine jb ?_ | refine jo ?_ | refine ji ?_ | refine jx rfl ?_ | refine And.intro (by first | assumption | omega | (intros; omega)) ?_ | ((first | refine jR KL6 (by kernel_rfl) fun _ => ?_ | skip); simp only [KS, Nat.reduceAdd, Nat.reduceMul, Nat.reduceEqDiff, ↓reduceIte, forall_const, Int.cast_ofNat_Int, Int.reduceToNat, TF6, KL6]; (try simp (disch := omega) only [wrapI, tmodI, tdivI]); (fail_if_success (with_reducible show False))))
  refine staW ha fun vs w3 x3 ss => ?_
  (repeat first | with_reducible first | refine jq ?_ | refine jk ?_ | refine jc ?_ | refine jl ?_ | refine jb ?_ | refine jo ?_ | refine ji ?_ | refine jx rfl ?_ | refine And.intro (by first | assumption | omega | (intros; omega)) ?_ | ((first | refine jR KL6 (by kernel_rfl) fun _ => ?_ | skip); simp only [KS, Nat.reduceAdd, Nat.reduceMul, Nat.reduceEqDiff, ↓reduceIte, forall_const, Int.cast_ofNat_Int, Int.reduceToNat, TF6, KL6]; (try simp (disch := omega) only [wrapI, tmodI, tdivI]); (fail_if_success (with_reducible show False))))
  refine balW hb ss (sl.ext x3) fun vb w4 x4 sb => ?_
  have sb : Sl w4 vb b := sb
  have y4 := y2.trans (x3.trans x4)
  have hget : ∀ (j : Nat) (h : j < b.length), b[j] = Bk.lo b j := fun j h => by
    unfold Bk.lo; rw [List.getD_eq_getElem?_getD]; simp [h]
  have G := fun (w' : World) (x : Ext w4 w') (j : Nat) (h : j < b.length) => (sb.ext x).get h
  obtain ⟨g1, g2, g3⟩ := G w4 (Ext.refl _) 1 (by omega)
  rw [hget, show ((1 : Nat) : Int) = 1 by rfl, b1] at g1
  have g0 := g1
  have d1 : decide (a < 0) = false := by simp; omega
  have d2 : decide (1099511627776 < a) = false := by simp; omega
  have d3 : decide (s < 1) = false := by simp; omega
  have d4 : decide (64 < s) = false := by simp; omega
  have lb4 : slLen vb = 115 := by rw [sb.len, lb]
  (repeat first | with_reducible first | refine jq ?_ | refine jk ?_ | refine jc ?_ | refine jl ?_ | refine jb ?_ | refine jo ?_ | refine ji ?_ | refine jx rfl ?_ | refine And.intro (by first | assumption | omega | (intros; omega)) ?_ | ((first | refine jR KL6 (by kernel_rfl) fun _ => ?_ | skip); simp only [KS, Nat.reduceAdd, Nat.reduceMul, Nat.reduceEqDiff, ↓reduceIte, forall_const, Int.cast_ofNat_Int, Int.reduceToNat, TF6, KL6, d1, d2, d3, d4, lb4, sb.s, g1, g2, pk_true, pk_false, false_or, or_false, false_imp_iff, true_imp_iff, not_true_eq_false, not_false_eq_true, Bool.true_or, Bool.false_or, Bool.or_true, Bool.or_false, Bool.true_and, Bool.false_and, Bool.and_true, Bool.and_false]; (try simp (disch := omega) only [wrapI, tmodI, tdivI]); (fail_if_success (with_reducible show False))))
  have sl : Sl w2 vl (Fd.shares a s s.toNat) := sl
  have hb1 : 1 < b.length := by omega
  have hg : ((0 : Int) != 0 || (115 : Int) != 115 || (0 : Int) != 0) = false := rfl
  refine Or.inl (Or.inl ⟨hg, ?_⟩)
  refine bchkW hck (sl.ext (x3.trans x4)) fun w5 x5 => ?_
  clear hg
  have y5 := y4.trans x5
  have gg := G w5 x5 1 hb1
  have g1 := gg.1
  have g2 := gg.2.1
  rw [hget, show ((1 : Nat) : Int) = 1 by rfl, b1] at g1
  clear gg
  unfold hush
  (repeat first | with_reducible first | refine jq ?_ | refine jk ?_ | refine jc ?_ | refine jl ?_ | refine jb ?_ | refine jo ?_ | refine ji ?_ | refine jx rfl ?_ | refine And.intro (by first | assumption | omega | (intros; omega)) ?_ | ((first | refine jR KL6 (by kernel_rfl) fun _ => ?_ | skip); simp only [KS, Nat.reduceAdd, Nat.reduceMul, Nat.reduceEqDiff, ↓reduceIte, forall_const, Int.cast_ofNat_Int, Int.reduceToNat, TF6, KL6, d1, d2, d3, d4, lb4, sb.s, g0, g1, g2, pk_true, pk_false, false_or, or_false, false_imp_iff, true_imp_iff, not_true_eq_false, not_false_eq_true, Bool.true_or, Bool.false_or, Bool.or_true, Bool.or_false, Bool.true_and, Bool.false_and, Bool.and_true, Bool.and_false]; (try simp (disch := omega) only [wrapI, tmodI, tdivI]); (fail_if_success (with_reducible show False))))
  refine Run_condS (fun _ => rfl) (fun h => ?_) (fun h => ?_)
  · exact absurd h (by simp)
  clear h
  have hs : s = (s.toNat : Int) := by omega
  (repeat first | with_reducible first | refine jq ?_ | refine jk ?_ | refine jc ?_ | refine jl ?_ | refine jb ?_ | refine jo ?_ | refine ji ?_ | refine jx rfl ?_ | refine And.intro (by first | assumption | omega | (intros; omega)) ?_ | ((first | refine jR KL6 (by kernel_rfl) fun _ => ?_ | skip); simp only [KS, Nat.reduceAdd, Nat.reduceMul, Nat.reduceEqDiff, ↓reduceIte, forall_const, Int.cast_ofNat_Int, Int.reduceToNat, TF6, KL6]; (try simp (disch := omega) only [wrapI, tmodI, tdivI]); (fail_if_success (with_reducible show False))))
  refine Run_loopV [4, 9, 10, 11, 83, 84, 120] (σ := Nat) (fun k => [(83, some (.int .i64 k)), (9, some (.int .i64 (psum a s k)))]) (fun k w' => k ≤ s.toNat ∧ Ext w5 w') (fun k => s.toNat - k) 0 (by simp [SubB, fnd, psum]) ⟨by omega, Ext.refl _⟩ ?_
  rintro k w6 ⟨hk, x6⟩
  have y6 := x5.trans x6
  (repeat first | with_reducible first | refine jq ?_ | refine jk ?_ | refine jc ?_ | refine jl ?_ | refine jb ?_ | refine jo ?_ | refine ji ?_ | refine jx rfl ?_ | refine And.intro (by first | assumption | omega | (intros; omega)) ?_ | ((first | refine jR KL6 (by kernel_rfl) fun _ => ?_ | skip); simp only [KS, Nat.reduceAdd, Nat.reduceMul, Nat.reduceEqDiff, ↓reduceIte, forall_const, Int.cast_ofNat_Int, Int.reduceToNat, TF6, KL6]; (try simp (disch := omega) only [wrapI, tmodI, tdivI]); (fail_if_success (with_reducible show False))))
  refine Run_condS (fun _ => rfl) (fun h => ?_) (fun h => ?_)
  · simp at h
    have hkn : k < s.toNat := by omega
    obtain ⟨g1, g2, g3⟩ := G w6 y6 (51 + k) (by omega)
    obtain ⟨f1, f2, f3⟩ := G w6 y6 51 (by omega)
    obtain ⟨e1, e2, e3⟩ := G w6 y6 (51 + k - 1) (by omega)
    rw [hget] at g1 f1 e1
    have bk := bi k (by omega)
    have b0 := bi 0 (by omega)
    have n1 : (51 + (k : Int)).toNat = 51 + k := by omega
    have n2 : (51 + (k : Int) - 1).toNat = 51 + k - 1 := by omega
    rw [show ((51 + k : Nat) : Int) = 51 + (k : Int) by omega, bk] at g1
    rw [show ((51 : Nat) : Int) = 51 + ((0 : Nat) : Int) by omega, b0] at f1
    have pk := part_bd (i := k) a0 a1 s1
    have p0 := part_bd (i := 0) a0 a1 s1
    have ps := psum_bd a0 a1 s1 k
    have pp : Fd.part a s k = a / s + if (k : Int) < a % s then 1 else 0 := rfl
    have pz : Fd.part a s 0 = a / s + if (0 : Int) < a % s then 1 else 0 := rfl
    have hm : 1099511627777 * (k : Int) ≤ 1099511627777 * 64 := by omega
    (repeat first | with_reducible first | refine jq ?_ | refine jk ?_ | refine jc ?_ | refine jl ?_ | refine jb ?_ | refine jo ?_ | refine ji ?_ | refine jx rfl ?_ | refine And.intro (by first | assumption | omega | (intros; omega)) ?_ | ((first | refine jR KL6 (by kernel_rfl) fun _ => ?_ | skip); simp only [KS, Nat.reduceAdd, Nat.reduceMul, Nat.reduceEqDiff, ↓reduceIte, forall_const, Int.cast_ofNat_Int, Int.reduceToNat, TF6, KL6, lb4, sb.s, g1, g2, f1, f2, n1, n2, pk_true, pk_false, false_or, or_false, false_imp_iff, true_imp_iff, not_true_eq_false, not_false_eq_true, Bool.true_or, Bool.false_or, Bool.or_true, Bool.or_false, Bool.true_and, Bool.false_and, Bool.and_true, Bool.and_false]; (try simp (disch := omega) only [wrapI, tmodI, tdivI]); (fail_if_success (with_reducible show False))))
    have c1 : decide (Fd.part a s 0 < Fd.part a s k) = false := by
      simp only [decide_eq_false_iff_not]; rw [pp, pz]; split <;> split <;> omega
    have c2 : decide (Fd.part a s k < Fd.part a s 0 - 1) = false := by
      simp only [decide_eq_false_iff_not]; rw [pp, pz]; split <;> split <;> omega
    rw [c1, c2]
    by_cases k0 : k = 0
    · have c3 : decide (0 < (k : Int)) = false := by simp; omega
      rw [c3]
      refine ⟨fun h => by simp at h, ?_⟩
      (repeat first | with_reducible first | refine jq ?_ | refine jk ?_ | refine jc ?_ | refine jl ?_ | refine jb ?_ | refine jo ?_ | refine ji ?_ | refine jx rfl ?_ | refine And.intro (by first | assumption | omega | (intros; omega)) ?_ | ((first | refine jR KL6 (by kernel_rfl) fun _ => ?_ | skip); simp only [KS, Nat.reduceAdd, Nat.reduceMul, Nat.reduceEqDiff, ↓reduceIte, forall_const, Int.cast_ofNat_Int, Int.reduceToNat, TF6, KL6, pk_true, pk_false, false_or, or_false, false_imp_iff, true_imp_iff, not_true_eq_false, not_false_eq_true, Bool.true_or, Bool.false_or, Bool.or_true, Bool.or_false, Bool.true_and, Bool.false_and, Bool.and_true, Bool.and_false]; (try simp (disch := omega) only [wrapI, tmodI, tdivI]); (fail_if_success (with_reducible show False))))
      refine Run_condS (fun _ => rfl) (fun h => by cases h) (fun _ => ?_)
      (repeat first | with_reducible first | refine jq ?_ | refine jk ?_ | refine jc ?_ | refine jl ?_ | refine jb ?_ | refine jo ?_ | refine ji ?_ | refine jx rfl ?_ | refine And.intro (by first | assumption | omega | (intros; omega)) ?_ | ((first | refine jR KL6 (by kernel_rfl) fun _ => ?_ | skip); simp only [KS, Nat.reduceAdd, Nat.reduceMul, Nat.reduceEqDiff, ↓reduceIte, forall_const, Int.cast_ofNat_Int, Int.reduceToNat, TF6, KL6]; (try simp (disch := omega) only [wrapI, tmodI, tdivI]); (fail_if_success (with_reducible show False))))
      refine Run_lp ⟨k + 1, ?_, ⟨by omega, x6⟩, by omega⟩
      simp [SubB, fnd, strike, has]
      rfl
    · have e1' : Bk.lo b ((51 + k - 1 : Nat) : Int) = Fd.part a s (k - 1) := by
        rw [← bi (k - 1) (by omega)]; congr 1; omega
      rw [e1'] at e1
      have pm : Fd.part a s (k - 1) = a / s + if ((k - 1 : Nat) : Int) < a % s then 1 else 0 := rfl
      have c4 : decide (Fd.part a s (k - 1) < Fd.part a s k) = false := by
        simp only [decide_eq_false_iff_not]; rw [pp, pm]; split <;> split <;> omega
      refine ⟨fun _ _ => by rw [e1]; exact IsI_mk _ _, ?_⟩
      (repeat first | with_reducible first | refine jq ?_ | refine jk ?_ | refine jc ?_ | refine jl ?_ | refine jb ?_ | refine jo ?_ | refine ji ?_ | refine jx rfl ?_ | refine And.intro (by first | assumption | omega | (intros; omega)) ?_ | ((first | refine jR KL6 (by kernel_rfl) fun _ => ?_ | skip); simp only [KS, Nat.reduceAdd, Nat.reduceMul, Nat.reduceEqDiff, ↓reduceIte, forall_const, Int.cast_ofNat_Int, Int.reduceToNat, TF6, KL6, e1, c4, pk_true, pk_false, false_or, or_false, false_imp_iff, true_imp_iff, not_true_eq_false, not_false_eq_true, Bool.true_or, Bool.false_or, Bool.or_true, Bool.or_false, Bool.true_and, Bool.false_and, Bool.and_true, Bool.and_false]; (try simp (disch := omega) only [wrapI, tmodI, tdivI]); (fail_if_success (with_reducible show False))))
      refine Run_condS (fun _ => rfl) (fun h => by simp at h) (fun _ => ?_)
      (repeat first | with_reducible first | refine jq ?_ | refine jk ?_ | refine jc ?_ | refine jl ?_ | refine jb ?_ | refine jo ?_ | refine ji ?_ | refine jx rfl ?_ | refine And.intro (by first | assumption | omega | (intros; omega)) ?_ | ((first | refine jR KL6 (by kernel_rfl) fun _ => ?_ | skip); simp only [KS, Nat.reduceAdd, Nat.reduceMul, Nat.reduceEqDiff, ↓reduceIte, forall_const, Int.cast_ofNat_Int, Int.reduceToNat, TF6, KL6]; (try simp (disch := omega) only [wrapI, tmodI, tdivI]); (fail_if_success (with_reducible show False))))
      refine Run_lp ⟨k + 1, ?_, ⟨by omega, x6⟩, by omega⟩
      simp [SubB, fnd, strike, has]
      rfl
  · simp at h
    obtain rfl : k = s.toNat := by omega
    (repeat first | with_reducible first | refine jq ?_ | refine jk ?_ | refine jc ?_ | refine jl ?_ | refine jb ?_ | refine jo ?_ | refine ji ?_ | refine jx rfl ?_ | refine And.intro (by first | assumption | omega | (intros; omega)) ?_ | ((first | refine jR KL6 (by kernel_rfl) fun _ => ?_ | skip); simp only [KS, Nat.reduceAdd, Nat.reduceMul, Nat.reduceEqDiff, ↓reduceIte, forall_const, Int.cast_ofNat_Int, Int.reduceToNat, TF6, KL6]; (try simp (disch := omega) only [wrapI, tmodI, tdivI]); (fail_if_success (with_reducible show False))))
    refine Run_ret ?_
    simp [Rets, RetM, resV, fnd, oneOr, psum_all s1]
    exact y4.trans y6
end Go.Proofs.Ytcncbmdkifdggaa
