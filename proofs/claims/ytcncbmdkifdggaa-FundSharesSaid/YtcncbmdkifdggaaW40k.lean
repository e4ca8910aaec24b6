/- Chapter 40: FundLegs. -/
import Derived.Test.YtcncbmdkifdggaaW40j
namespace Go.Proofs.Ytcncbmdkifdggaa
open Go Go.Fk
set_option linter.unusedSimpArgs false
set_option linter.unusedVariables false
set_option maxRecDepth 100000

theorem cover_or {t : TimeD} {f : TariffD} {p : PlanD} {run h h' : Int} (hc : (Fd.cover t f p run h').2 ≠ 0) : (Fd.cover t f p run h).2 = 0 ∨ (Fd.cover t f p run h).2 = (Fd.cover t f p run h').2 := by
  by_cases c : (Fd.cover t f p run h).2 = 0
  · exact .inl c
  · rcases (cover_no hc).2 with ⟨a, b⟩ | ⟨a, b⟩ <;> rcases (cover_no c).2 with ⟨a', b'⟩ | ⟨a', b'⟩
    · exact .inr (by rw [b, b'])
    · exact (a a').elim
    · exact (a' a).elim
    · exact .inr (by rw [b, b'])
theorem cover_eq {t : TimeD} {f : TariffD} {p : PlanD} {run h : Int} (hc : (Fd.cost t f p run).2 = 0) (h0 : 0 ≤ h) (h1 : h ≤ (Fd.lineOf t p run).Legs.length) : Fd.cover t f p run h = (Fd.covs (Fd.cost t f p run).1 run ((Fd.lineOf t p run).Offices.take h.toNat), 0) := by
  unfold Fd.cover
  rw [if_neg (by simp [hc]), if_neg (by omega)]
set_option maxHeartbeats 4000000 in
theorem lawLegs (vl v0 v1 v2 u0 u1 u2 : Value) (t : TimeD) (f : TariffD) (p : PlanD) (run handed : Int) (w : World) (hl : Sl w vl t.Lines) (hT : TarR w f u0 u1 u2) (hP : PlanR w p v0 v1 v2) (hr : I64 run) :
    Calls Try.prog 5 #[.agg (t.cs vl).toArray, .agg (f.cs u0 u1 u2).toArray, .agg (p.cs v0 v1 v2).toArray, .int .i64 run, .int .i64 handed] w fun e w' => Yes e ∧ Ext w w' := by
  refine Calls_of_Run (args := [.agg (t.cs vl).toArray, .agg (f.cs u0 u1 u2).toArray, .agg (p.cs v0 v1 v2).toArray, .int .i64 run, .int .i64 handed]) (n := 113) (rs := [.tmp 10]) Try.func5 rfl rfl rfl (by simp) ?_
  (repeat first | with_reducible first | refine jq ?_ | refine jk ?_ | refine jc ?_ | refine jl ?_ | refine jb ?_ | refine jo ?_ | refine ji ?_ | refine jx rfl ?_ | refine And.intro (by first | assumption | omega | (intros; omega)) ?_ | ((first | refine jR KL5 (by kernel_rfl) fun _ => ?_ | skip); simp only [KS, Nat.reduceAdd, Nat.reduceMul, Nat.reduceEqDiff, ↓reduceIte, forall_const, Int.cast_ofNat_Int, Int.reduceToNat, TF5, KL5]; (try simp (disch := omega) only [wrapI, tmodI, tdivI]); (fail_if_success (with_reducible show False))))
  refine SemW_box fun pt w1 h1 => SemW_box fun pf w2 h2 => SemW_box fun pp w3 h3 => ?_
  have x3 := h1.ext.trans (h2.ext.trans h3.ext)
  have T : ∀ w', Ext w3 w' → AtN w' pt 0 (t.cs vl) := fun w' x => (h1.at_.ext (h2.ext.trans (h3.ext.trans x))).n
  have F : ∀ w', Ext w3 w' → AtN w' pf 0 (f.cs u0 u1 u2) := fun w' x => (h2.at_.ext (h3.ext.trans x)).n
  have P : ∀ w', Ext w3 w' → AtN w' pp 0 (p.cs v0 v1 v2) := fun w' x => (h3.at_.ext x).n
  simp only [TimeD.cs, TariffD.cs, PlanD.cs, AtN, KS, Nat.reduceAdd, Nat.reduceMul, Nat.reduceEqDiff, ↓reduceIte, UT] at T F P
  (repeat first | with_reducible first | refine jq ?_ | refine jk ?_ | refine jc ?_ | refine jl ?_ | refine jb ?_ | refine jo ?_ | refine ji ?_ | refine jx rfl ?_ | refine And.intro (by first | assumption | omega | (intros; omega)) ?_ | ((first | refine jR KL5 (by kernel_rfl) fun _ => ?_ | skip); simp only [KS, Nat.reduceAdd, Nat.reduceMul, Nat.reduceEqDiff, ↓reduceIte, forall_const, Int.cast_ofNat_Int, Int.reduceToNat, TF5, KL5]; (try simp (disch := omega) only [wrapI, tmodI, tdivI]); (fail_if_success (with_reducible show False))))
  refine saneW fun w4 x4 => ?_
  (repeat first | with_reducible first | refine jq ?_ | refine jk ?_ | refine jc ?_ | refine jl ?_ | refine jb ?_ | refine jo ?_ | refine ji ?_ | refine jx rfl ?_ | refine And.intro (by first | assumption | omega | (intros; omega)) ?_ | ((first | refine jR KL5 (by kernel_rfl) fun _ => ?_ | skip); simp only [KS, Nat.reduceAdd, Nat.reduceMul, Nat.reduceEqDiff, ↓reduceIte, forall_const, Int.cast_ofNat_Int, Int.reduceToNat, TF5, KL5]; (try simp (disch := omega) only [wrapI, tmodI, tdivI]); (fail_if_success (with_reducible show False))))
  refine Run_condS (fun _ => rfl) (fun h => by cases h) (fun _ => ?_)
  have y4 := x3.trans x4
  have t4 := T w4 x4
  have f4 := F w4 x4
  have p4 := P w4 x4
  (repeat first | with_reducible first | refine jq ?_ | refine jk ?_ | refine jc ?_ | refine jl ?_ | refine jb ?_ | refine jo ?_ | refine ji ?_ | refine jx rfl ?_ | refine And.intro (by first | assumption | omega | (intros; omega)) ?_ | ((first | refine jR KL5 (by kernel_rfl) fun _ => ?_ | skip); simp only [KS, Nat.reduceAdd, Nat.reduceMul, Nat.reduceEqDiff, ↓reduceIte, forall_const, Int.cast_ofNat_Int, Int.reduceToNat, TF5, KL5, t4, f4, p4]; (try simp (disch := omega) only [wrapI, tmodI, tdivI]); (fail_if_success (with_reducible show False))))
  refine fewW (hl.ext y4) (hT.ext y4) (hP.ext y4) fun w5 x5 => ?_
  have y5 := y4.trans x5
  (repeat first | with_reducible first | refine jq ?_ | refine jk ?_ | refine jc ?_ | refine jl ?_ | refine jb ?_ | refine jo ?_ | refine ji ?_ | refine jx rfl ?_ | refine And.intro (by first | assumption | omega | (intros; omega)) ?_ | ((first | refine jR KL5 (by kernel_rfl) fun _ => ?_ | skip); simp only [KS, Nat.reduceAdd, Nat.reduceMul, Nat.reduceEqDiff, ↓reduceIte, forall_const, Int.cast_ofNat_Int, Int.reduceToNat, TF5, KL5, pk_true, pk_false, false_or, or_false, false_imp_iff, true_imp_iff, not_true_eq_false, not_false_eq_true, Bool.true_or, Bool.false_or, Bool.or_true, Bool.or_false, Bool.true_and, Bool.false_and, Bool.and_true, Bool.and_false]; (try simp (disch := omega) only [wrapI, tmodI, tdivI]); (fail_if_success (with_reducible show False))))
  refine Run_condS (fun _ => rfl) (fun h => ?_) (fun h => ?_)
  · (repeat first | with_reducible first | refine jq ?_ | refine jk ?_ | refine jc ?_ | refine jl ?_ | refine jb ?_ | refine jo ?_ | refine ji ?_ | refine jx rfl ?_ | refine And.intro (by first | assumption | omega | (intros; omega)) ?_ | ((first | refine jR KL5 (by kernel_rfl) fun _ => ?_ | skip); simp only [KS, Nat.reduceAdd, Nat.reduceMul, Nat.reduceEqDiff, ↓reduceIte, forall_const, Int.cast_ofNat_Int, Int.reduceToNat, TF5, KL5]; (try simp (disch := omega) only [wrapI, tmodI, tdivI]); (fail_if_success (with_reducible show False))))
    refine Run_ret ?_
    simp [Rets, RetM, resV, fnd, oneOr, y5]
  have hh : 0 ≤ handed ∧ handed ≤ 8 := by
    simp only [Bool.or_eq_false_iff, decide_eq_false_iff_not] at h
    omega
  clear h
  have z5 := x4.trans x5
  have t5 := T w5 z5
  have f5 := F w5 z5
  have p5 := P w5 z5
  (repeat first | with_reducible first | refine jq ?_ | refine jk ?_ | refine jc ?_ | refine jl ?_ | refine jb ?_ | refine jo ?_ | refine ji ?_ | refine jx rfl ?_ | refine And.intro (by first | assumption | omega | (intros; omega)) ?_ | ((first | refine jR KL5 (by kernel_rfl) fun _ => ?_ | skip); simp only [KS, Nat.reduceAdd, Nat.reduceMul, Nat.reduceEqDiff, ↓reduceIte, forall_const, Int.cast_ofNat_Int, Int.reduceToNat, TF5, KL5, t5, f5, p5]; (try simp (disch := omega) only [wrapI, tmodI, tdivI]); (fail_if_success (with_reducible show False))))
  refine covW rfl (hl.ext y5) (hT.ext y5) (hP.ext y5) hr fun va w6 x6 sa => ?_
  have y6 := y5.trans x6
  have z6 := z5.trans x6
  have t6 := T w6 z6
  have f6 := F w6 z6
  have p6 := P w6 z6
  (repeat first | with_reducible first | refine jq ?_ | refine jk ?_ | refine jc ?_ | refine jl ?_ | refine jb ?_ | refine jo ?_ | refine ji ?_ | refine jx rfl ?_ | refine And.intro (by first | assumption | omega | (intros; omega)) ?_ | ((first | refine jR KL5 (by kernel_rfl) fun _ => ?_ | skip); simp only [KS, Nat.reduceAdd, Nat.reduceMul, Nat.reduceEqDiff, ↓reduceIte, forall_const, Int.cast_ofNat_Int, Int.reduceToNat, TF5, KL5, t6, f6, p6]; (try simp (disch := omega) only [wrapI, tmodI, tdivI]); (fail_if_success (with_reducible show False))))
  refine covW rfl (hl.ext y6) (hT.ext y6) (hP.ext y6) hr fun vb w7 x7 sb => ?_
  have y7 := y6.trans x7
  have z7 := z6.trans x7
  have sa := sa.ext x7
  (repeat first | with_reducible first | refine jq ?_ | refine jk ?_ | refine jc ?_ | refine jl ?_ | refine jb ?_ | refine jo ?_ | refine ji ?_ | refine jx rfl ?_ | refine And.intro (by first | assumption | omega | (intros; omega)) ?_ | ((first | refine jR KL5 (by kernel_rfl) fun _ => ?_ | skip); simp only [KS, Nat.reduceAdd, Nat.reduceMul, Nat.reduceEqDiff, ↓reduceIte, forall_const, Int.cast_ofNat_Int, Int.reduceToNat, TF5, KL5, pk_true, pk_false, false_or, or_false, false_imp_iff, true_imp_iff, not_true_eq_false, not_false_eq_true, Bool.true_or, Bool.false_or, Bool.or_true, Bool.or_false, Bool.true_and, Bool.false_and, Bool.and_true, Bool.and_false]; (try simp (disch := omega) only [wrapI, tmodI, tdivI]); (fail_if_success (with_reducible show False))))
  refine Run_condS (fun _ => rfl) (fun h => ?_) (fun h => ?_)
  · have hne : (Fd.cover t f p run (handed + 1)).2 ≠ 0 := by simpa using h
    obtain ⟨e1, e2⟩ := cover_no hne
    have e3 := cover_or (h := handed) hne
    have e2 : (Fd.cover t f p run (handed + 1)).1.length = 0 := by rw [e1]; rfl
    (repeat first | with_reducible first | refine jq ?_ | refine jk ?_ | refine jc ?_ | refine jl ?_ | refine jb ?_ | refine jo ?_ | refine ji ?_ | refine jx rfl ?_ | refine And.intro (by first | assumption | omega | (intros; omega)) ?_ | ((first | refine jR KL5 (by kernel_rfl) fun _ => ?_ | skip); simp only [KS, Nat.reduceAdd, Nat.reduceMul, Nat.reduceEqDiff, ↓reduceIte, forall_const, Int.cast_ofNat_Int, Int.reduceToNat, TF5, KL5, sb.s, sb.len, e2, pk_true, pk_false, false_or, or_false, false_imp_iff, true_imp_iff, not_true_eq_false, not_false_eq_true, Bool.true_or, Bool.false_or, Bool.or_true, Bool.or_false, Bool.true_and, Bool.false_and, Bool.and_true, Bool.and_false]; (try simp (disch := omega) only [wrapI, tmodI, tdivI]); (fail_if_success (with_reducible show False))))
    refine Run_ret ?_
    simp [Rets, RetM, resV, fnd, oneOr]
    exact ⟨e3, y7⟩
  have he : (Fd.cover t f p run (handed + 1)).2 = 0 := by simpa using h
  obtain ⟨c1, c2, c3, c4⟩ := cover_ok he
  obtain ⟨_, _, hfm, r0, r1, n0, n1, xx, hx⟩ := cost_ok c1
  obtain ⟨hrn, hln, hlo, q0, q1, hxo⟩ := line_ok c1
  have ho1 := hxo.l1
  have ho9 := hxo.o9
  have eA := cover_eq (run := run) c1 hh.1 (show handed ≤ _ by omega)
  have eB := cover_eq (run := run) c1 c2 c3
  obtain ⟨k, rfl⟩ : ∃ k : Nat, handed = k := ⟨handed.toNat, by omega⟩
  have ek : ((k : Int) + 1).toNat = k + 1 := by omega
  rw [ek] at eB
  rw [Int.toNat_natCast] at eA
  rw [eA] at sa ⊢
  rw [eB] at sb ⊢
  simp only at sa sb
  generalize hox : (Fd.lineOf t p run).Offices = ofs at *
  have hcl : p.Covers.length = p.Runs.length := (formed_ok hfm).1
  have lA : (Fd.covs (Fd.cost t f p run).1 run (ofs.take k)).length = k := by rw [Fd.covs_len]; simp; omega
  have lB : (Fd.covs (Fd.cost t f p run).1 run (ofs.take (k + 1))).length = k + 1 := by rw [Fd.covs_len]; simp; omega
  have hAB : Fd.covs (Fd.cost t f p run).1 run (ofs.take k) = ((Fd.covs (Fd.cost t f p run).1 run (ofs.take (k + 1))).take k).drop 0 := by
    refine List.ext_getElem (by simp [lA, lB]) fun j j1 j2 => ?_
    simp only [List.drop_zero, List.getElem_take]
    rw [Fd.covs_get _ (by simp; omega), Fd.covs_get _ (by simp; omega)]
    simp
  have hz : p.Covers[run.toNat]'(by omega) = 0 → ∀ m ∈ Fd.covs (Fd.cost t f p run).1 run (ofs.take (k + 1)), m.Amount = 0 := fun h0 m hm => by
    obtain ⟨j, hj, rfl⟩ := List.getElem_of_mem hm
    rw [Fd.covs_len] at hj
    rw [Fd.covs_get _ hj]
    simp only [Fd.covM]
    rw [hx, List.getD_eq_getElem?_getD, List.getElem?_eq_getElem (by omega), Option.getD_some, h0, Int.mul_zero]
  generalize Fd.covs (Fd.cost t f p run).1 run (ofs.take k) = A at *
  generalize Fd.covs (Fd.cost t f p run).1 run (ofs.take (k + 1)) = B at *
  have sl0 : slLen va = k := by rw [sa.len, lA]
  have sl1 : slLen vb = k + 1 := by rw [sb.len, lB]
  have p7 := P w7 z7
  (repeat first | with_reducible first | refine jq ?_ | refine jk ?_ | refine jc ?_ | refine jl ?_ | refine jb ?_ | refine jo ?_ | refine ji ?_ | refine jx rfl ?_ | refine And.intro (by first | assumption | omega | (intros; omega)) ?_ | ((first | refine jR KL5 (by kernel_rfl) fun _ => ?_ | skip); simp only [KS, Nat.reduceAdd, Nat.reduceMul, Nat.reduceEqDiff, ↓reduceIte, forall_const, Int.cast_ofNat_Int, Int.reduceToNat, TF5, KL5, sa.s, sb.s, sl0, sl1, p7, hP.c.s, hP.c.len, pk_true, pk_false, false_or, or_false, false_imp_iff, true_imp_iff, not_true_eq_false, not_false_eq_true, Bool.true_or, Bool.false_or, Bool.or_true, Bool.or_false, Bool.true_and, Bool.false_and, Bool.and_true, Bool.and_false]; (try simp (disch := omega) only [wrapI, tmodI, tdivI]); (fail_if_success (with_reducible show False))))
  have hcap := sb.cap
  have hg : (0 != 0 || ((k + 1 : Nat) : Int) != (k : Int) + 1) = false := by simp
  refine ⟨fun _ => by omega, .inl (.inl ⟨hg, ?_⟩)⟩
  refine sameW (b := true) (by simpa using hAB) sa (sb.sub (l := 0) (r := k) (m := slCap vb) (by omega) (by omega) (by omega) (Nat.le_refl _)) fun w8 x8 => ?_
  have y8 := y7.trans x8
  have z8 := z7.trans x8
  have p8 := P w8 z8
  unfold hush
  (repeat first | with_reducible first | refine jq ?_ | refine jk ?_ | refine jc ?_ | refine jl ?_ | refine jb ?_ | refine jo ?_ | refine ji ?_ | refine jx rfl ?_ | refine And.intro (by first | assumption | omega | (intros; omega)) ?_ | ((first | refine jR KL5 (by kernel_rfl) fun _ => ?_ | skip); simp only [KS, Nat.reduceAdd, Nat.reduceMul, Nat.reduceEqDiff, ↓reduceIte, forall_const, Int.cast_ofNat_Int, Int.reduceToNat, TF5, KL5, sa.s, sb.s, sl0, sl1, p8, hP.c.s, hP.c.len, hg, pk_true, pk_false, false_or, or_false, false_imp_iff, true_imp_iff, not_true_eq_false, not_false_eq_true, Bool.true_or, Bool.false_or, Bool.or_true, Bool.or_false, Bool.true_and, Bool.false_and, Bool.and_true, Bool.and_false]; (try simp (disch := omega) only [wrapI, tmodI, tdivI]); (fail_if_success (with_reducible show False))))
  refine Run_condS (fun _ => rfl) (fun h => ?_) (fun h => ?_)
  · exfalso
    simp at h
    omega
  clear h
  have sb := sb.ext x8
  (repeat first | with_reducible first | refine jq ?_ | refine jk ?_ | refine jc ?_ | refine jl ?_ | refine jb ?_ | refine jo ?_ | refine ji ?_ | refine jx rfl ?_ | refine And.intro (by first | assumption | omega | (intros; omega)) ?_ | ((first | refine jR KL5 (by kernel_rfl) fun _ => ?_ | skip); simp only [KS, Nat.reduceAdd, Nat.reduceMul, Nat.reduceEqDiff, ↓reduceIte, forall_const, Int.cast_ofNat_Int, Int.reduceToNat, TF5, KL5, sb.s, sb.len]; (try simp (disch := omega) only [wrapI, tmodI, tdivI]); (fail_if_success (with_reducible show False))))
  refine Run_loopV [10, 16, 97, 98, 111] (σ := Nat) (fun i => [(97, some (.int .i64 i))]) (fun i w' => i ≤ B.length ∧ Ext w8 w') (fun i => B.length - i) 0 (by simp [SubB, fnd]) ⟨by omega, Ext.refl _⟩ ?_
  rintro i w9 ⟨hi, x9⟩
  (repeat first | with_reducible first | refine jq ?_ | refine jk ?_ | refine jc ?_ | refine jl ?_ | refine jb ?_ | refine jo ?_ | refine ji ?_ | refine jx rfl ?_ | refine And.intro (by first | assumption | omega | (intros; omega)) ?_ | ((first | refine jR KL5 (by kernel_rfl) fun _ => ?_ | skip); simp only [KS, Nat.reduceAdd, Nat.reduceMul, Nat.reduceEqDiff, ↓reduceIte, forall_const, Int.cast_ofNat_Int, Int.reduceToNat, TF5, KL5, sb.s, sb.len]; (try simp (disch := omega) only [wrapI, tmodI, tdivI]); (fail_if_success (with_reducible show False))))
  refine Run_condS (fun _ => rfl) (fun h => ?_) (fun h => ?_)
  · simp at h
    have hib : i < B.length := by omega
    obtain ⟨f1, f2⟩ := (sb.ext x9).moveD hib
    simp only [MoveD.cs, AtN, KS, Nat.reduceAdd, Nat.reduceMul, Nat.reduceEqDiff, ↓reduceIte, UT] at f1
    (repeat first | with_reducible first | refine jq ?_ | refine jk ?_ | refine jc ?_ | refine jl ?_ | refine jb ?_ | refine jo ?_ | refine ji ?_ | refine jx rfl ?_ | refine And.intro (by first | assumption | omega | (intros; omega)) ?_ | ((first | refine jR KL5 (by kernel_rfl) fun _ => ?_ | skip); simp only [KS, Nat.reduceAdd, Nat.reduceMul, Nat.reduceEqDiff, ↓reduceIte, forall_const, Int.cast_ofNat_Int, Int.reduceToNat, TF5, KL5, sb.s, sb.len, f1]; (try simp (disch := omega) only [wrapI, tmodI, tdivI]); (fail_if_success (with_reducible show False))))
    refine SemW_var ti45 rfl rfl (by decide) rfl fun px w10 h10 => ?_
    have g1 := h10.at_.n
    simp only [AtN, KS, Nat.reduceAdd, Nat.reduceMul, Nat.reduceEqDiff, ↓reduceIte, UT] at g1
    have x10 := x9.trans h10.ext
    have p10 := P w10 (z8.trans x10)
    have hcr : run.toNat < p.Covers.length := by omega
    obtain ⟨q1, q2, q3⟩ := (hP.c.ext (y8.trans x10)).get hcr
    (repeat first | with_reducible first | refine jq ?_ | refine jk ?_ | refine jc ?_ | refine jl ?_ | refine jb ?_ | refine jo ?_ | refine ji ?_ | refine jx rfl ?_ | refine And.intro (by first | assumption | omega | (intros; omega)) ?_ | ((first | refine jR KL5 (by kernel_rfl) fun _ => ?_ | skip); simp only [KS, Nat.reduceAdd, Nat.reduceMul, Nat.reduceEqDiff, ↓reduceIte, forall_const, Int.cast_ofNat_Int, Int.reduceToNat, TF5, KL5, g1, p10, hP.c.s, hP.c.len, q1, q2, pk_true, pk_false, false_or, or_false, false_imp_iff, true_imp_iff, not_true_eq_false, not_false_eq_true, Bool.true_or, Bool.false_or, Bool.or_true, Bool.or_false, Bool.true_and, Bool.false_and, Bool.and_true, Bool.and_false]; (try simp (disch := omega) only [wrapI, tmodI, tdivI]); (fail_if_success (with_reducible show False))))
    refine Run_condS (fun _ => rfl) (fun h2 => ?_) (fun h2 => ?_)
    · exfalso
      simp at h2
      exact h2.2 (hz h2.1 _ (List.getElem_mem hib))
    (repeat first | with_reducible first | refine jq ?_ | refine jk ?_ | refine jc ?_ | refine jl ?_ | refine jb ?_ | refine jo ?_ | refine ji ?_ | refine jx rfl ?_ | refine And.intro (by first | assumption | omega | (intros; omega)) ?_ | ((first | refine jR KL5 (by kernel_rfl) fun _ => ?_ | skip); simp only [KS, Nat.reduceAdd, Nat.reduceMul, Nat.reduceEqDiff, ↓reduceIte, forall_const, Int.cast_ofNat_Int, Int.reduceToNat, TF5, KL5]; (try simp (disch := omega) only [wrapI, tmodI, tdivI]); (fail_if_success (with_reducible show False))))
    refine Run_lp ⟨i + 1, ?_, ⟨by omega, x10⟩, by omega⟩
    simp [SubB, fnd, strike, has]
  · simp at h
    (repeat first | with_reducible first | refine jq ?_ | refine jk ?_ | refine jc ?_ | refine jl ?_ | refine jb ?_ | refine jo ?_ | refine ji ?_ | refine jx rfl ?_ | refine And.intro (by first | assumption | omega | (intros; omega)) ?_ | ((first | refine jR KL5 (by kernel_rfl) fun _ => ?_ | skip); simp only [KS, Nat.reduceAdd, Nat.reduceMul, Nat.reduceEqDiff, ↓reduceIte, forall_const, Int.cast_ofNat_Int, Int.reduceToNat, TF5, KL5]; (try simp (disch := omega) only [wrapI, tmodI, tdivI]); (fail_if_success (with_reducible show False))))
    refine Run_ret ?_
    simp [Rets, RetM, resV, fnd, oneOr]
    exact y8.trans x9
end Go.Proofs.Ytcncbmdkifdggaa
