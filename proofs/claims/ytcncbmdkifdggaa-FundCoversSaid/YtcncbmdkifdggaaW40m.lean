/- Chapter 40: FundCovers. -/
import Derived.Test.YtcncbmdkifdggaaW40l
namespace Go.Proofs.Ytcncbmdkifdggaa
open Go Go.Fk
set_option linter.unusedSimpArgs false
set_option linter.unusedVariables false
set_option maxRecDepth 100000

theorem chk_allOk {l : List MoveD} (hc : Bk.chk l = 0) : Bk.allOk 0 l = true := by
  unfold Bk.chk at hc
  split at hc
  · cases hc
  · split at hc
    · assumption
    · cases hc
/-- what a fund's accounts are after covers -/
theorem cov_bal {n run : Int} {l : List Int} (h0 : 0 ≤ n) (h1 : n ≤ 67108864) (hr : 0 ≤ run ∧ run ≤ 1999) (ho : ∀ o ∈ l, 0 ≤ o ∧ o ≤ 24) (hl : l.length ≤ 9) (hd : ∀ i j (hi : i < l.length) (hj : j < l.length), l[i] = l[j] → i = j) :
    ∃ b : List Int, Bk.balances (Fd.zs.set 1 (n * l.length)) (Fd.covs n run l) = (b, 0) ∧ b.length = 115 ∧ Bk.lo b 1 = 0 ∧ ∀ (k : Nat) (h : k < l.length), Bk.lo b (3 + l[k]) = n := by
  have hm : 0 ≤ n * l.length ∧ n * l.length ≤ 67108864 * 9 := ⟨Int.mul_nonneg h0 (by omega), Int.mul_le_mul h1 (by omega) (by omega) (by omega)⟩
  have hs := Fd.zs_ok hm.1 (show n * l.length ≤ _ by omega)
  have hc := Fd.cov_chk h0 (by omega) hr ho (show l.length ≤ 1000 by omega)
  have hou := Fd.cov_out (n := n) (run := run) fun o h => (ho o h).1
  have hp := Fd.pays hs hc hou
  have ht := Fd.cov_tot n run l
  rw [ht, Fd.zs_lo (by omega), if_pos rfl, if_pos (by omega)] at hp
  have ha := chk_allOk hc
  have hl2 : (Fd.zs.set 1 (n * l.length)).length = 115 := by simp [Fd.zs]
  obtain ⟨A1, A2⟩ := Fd.out_after _ _ _ hl2 hou ha
  refine ⟨_, hp, by rw [Bk.after_len, hl2], by rw [A1, ht, Fd.zs_lo (by omega), if_pos rfl]; omega, fun k hk => ?_⟩
  have hk0 := ho _ (List.getElem_mem hk)
  rw [A2 _ (by omega) (by omega), Fd.zs_lo (by omega), if_neg (by omega), Fd.cov_got hd hk]; omega
theorem cov_less {n run : Int} {l : List Int} (h0 : 0 ≤ n) (h1 : n ≤ 67108864) (hr : 0 ≤ run ∧ run ≤ 1999) (ho : ∀ o ∈ l, 0 ≤ o ∧ o ≤ 24) (hl : l.length ≤ 9) (hne : n * l.length ≠ 0) :
    Bk.balances (Fd.zs.set 1 (n * l.length - 1)) (Fd.covs n run l) = ([], 381) := by
  have hm : 0 ≤ n * l.length ∧ n * l.length ≤ 67108864 * 9 := ⟨Int.mul_nonneg h0 (by omega), Int.mul_le_mul h1 (by omega) (by omega) (by omega)⟩
  have hs := Fd.zs_ok (a := n * l.length - 1) (by omega) (by omega)
  have hc := Fd.cov_chk h0 (by omega) hr ho (show l.length ≤ 1000 by omega)
  have hou := Fd.cov_out (n := n) (run := run) fun o h => (ho o h).1
  have hp := Fd.pays hs hc hou
  rw [Fd.cov_tot n run l, Fd.zs_lo (by omega), if_pos rfl, if_neg (by omega)] at hp
  exact hp
set_option maxHeartbeats 4000000 in
theorem lawCovers (vl v0 v1 v2 u0 u1 u2 : Value) (t : TimeD) (f : TariffD) (p : PlanD) (run handed : Int) (w : World) (hl : Sl w vl t.Lines) (hT : TarR w f u0 u1 u2) (hP : PlanR w p v0 v1 v2) (hr : I64 run) :
    Calls Try.prog 7 #[.agg (t.cs vl).toArray, .agg (f.cs u0 u1 u2).toArray, .agg (p.cs v0 v1 v2).toArray, .int .i64 run, .int .i64 handed] w fun e w' => Yes e ∧ Ext w w' := by
  refine Calls_of_Run (args := [.agg (t.cs vl).toArray, .agg (f.cs u0 u1 u2).toArray, .agg (p.cs v0 v1 v2).toArray, .int .i64 run, .int .i64 handed]) (n := 192) (rs := [.tmp 10]) Try.func7 rfl rfl rfl (by simp) ?_
  (repeat first | with_reducible first | refine jq ?_ | refine jk ?_ | refine jc ?_ | refine jl ?_ | refine jb ?_ | refine jo ?_ | refine ji ?_ | refine jx rfl ?_ | refine And.intro (by first | assumption | omega | (intros; omega)) ?_ | ((first | refine jR KL7 (by kernel_rfl) fun _ => ?_ | refine jD (id := 9) KL7 mixed (by kernel_rfl) (by kernel_rfl) fun _ => ?_ | skip); simp only [KS, Nat.reduceAdd, Nat.reduceMul, Nat.reduceEqDiff, ↓reduceIte, forall_const, Int.cast_ofNat_Int, Int.reduceToNat, TF7, KL7, List.take_succ_cons, List.take_zero, List.drop_succ_cons, List.drop_zero]; (try simp (disch := omega) only [wrapI, tmodI, tdivI]); (fail_if_success (with_reducible show False))))
  refine SemW_box fun pt w1 h1 => SemW_box fun pf w2 h2 => SemW_box fun pp w3 h3 => ?_
  have x3 := h1.ext.trans (h2.ext.trans h3.ext)
  have T : ∀ w', Ext w3 w' → AtN w' pt 0 (t.cs vl) := fun w' x => (h1.at_.ext (h2.ext.trans (h3.ext.trans x))).n
  have F : ∀ w', Ext w3 w' → AtN w' pf 0 (f.cs u0 u1 u2) := fun w' x => (h2.at_.ext (h3.ext.trans x)).n
  have P : ∀ w', Ext w3 w' → AtN w' pp 0 (p.cs v0 v1 v2) := fun w' x => (h3.at_.ext x).n
  simp only [TimeD.cs, TariffD.cs, PlanD.cs, AtN, KS, Nat.reduceAdd, Nat.reduceMul, Nat.reduceEqDiff, ↓reduceIte, UT] at T F P
  (repeat first | with_reducible first | refine jq ?_ | refine jk ?_ | refine jc ?_ | refine jl ?_ | refine jb ?_ | refine jo ?_ | refine ji ?_ | refine jx rfl ?_ | refine And.intro (by first | assumption | omega | (intros; omega)) ?_ | ((first | refine jR KL7 (by kernel_rfl) fun _ => ?_ | refine jD (id := 9) KL7 mixed (by kernel_rfl) (by kernel_rfl) fun _ => ?_ | skip); simp only [KS, Nat.reduceAdd, Nat.reduceMul, Nat.reduceEqDiff, ↓reduceIte, forall_const, Int.cast_ofNat_Int, Int.reduceToNat, TF7, KL7, List.take_succ_cons, List.take_zero, List.drop_succ_cons, List.drop_zero]; (try simp (disch := omega) only [wrapI, tmodI, tdivI]); (fail_if_success (with_reducible show False))))
  refine saneW fun w4 x4 => ?_
  (repeat first | with_reducible first | refine jq ?_ | refine jk ?_ | refine jc ?_ | refine jl ?_ | refine jb ?_ | refine jo ?_ | refine ji ?_ | refine jx rfl ?_ | refine And.intro (by first | assumption | omega | (intros; omega)) ?_ | ((first | refine jR KL7 (by kernel_rfl) fun _ => ?_ | refine jD (id := 9) KL7 mixed (by kernel_rfl) (by kernel_rfl) fun _ => ?_ | skip); simp only [KS, Nat.reduceAdd, Nat.reduceMul, Nat.reduceEqDiff, ↓reduceIte, forall_const, Int.cast_ofNat_Int, Int.reduceToNat, TF7, KL7, List.take_succ_cons, List.take_zero, List.drop_succ_cons, List.drop_zero]; (try simp (disch := omega) only [wrapI, tmodI, tdivI]); (fail_if_success (with_reducible show False))))
  refine Run_condS (fun _ => rfl) (fun h => by cases h) (fun _ => ?_)
  have y4 := x3.trans x4
  have t4 := T w4 x4
  have f4 := F w4 x4
  have p4 := P w4 x4
  (repeat first | with_reducible first | refine jq ?_ | refine jk ?_ | refine jc ?_ | refine jl ?_ | refine jb ?_ | refine jo ?_ | refine ji ?_ | refine jx rfl ?_ | refine And.intro (by first | assumption | omega | (intros; omega)) ?_ | ((first | refine jR KL7 (by kernel_rfl) fun _ => ?_ | refine jD (id := 9) KL7 mixed (by kernel_rfl) (by kernel_rfl) fun _ => ?_ | skip); simp only [KS, Nat.reduceAdd, Nat.reduceMul, Nat.reduceEqDiff, ↓reduceIte, forall_const, Int.cast_ofNat_Int, Int.reduceToNat, TF7, KL7, List.take_succ_cons, List.take_zero, List.drop_succ_cons, List.drop_zero, t4, f4, p4]; (try simp (disch := omega) only [wrapI, tmodI, tdivI]); (fail_if_success (with_reducible show False))))
  refine fewW (hl.ext y4) (hT.ext y4) (hP.ext y4) fun w5 x5 => ?_
  have y5 := y4.trans x5
  (repeat first | with_reducible first | refine jq ?_ | refine jk ?_ | refine jc ?_ | refine jl ?_ | refine jb ?_ | refine jo ?_ | refine ji ?_ | refine jx rfl ?_ | refine And.intro (by first | assumption | omega | (intros; omega)) ?_ | ((first | refine jR KL7 (by kernel_rfl) fun _ => ?_ | refine jD (id := 9) KL7 mixed (by kernel_rfl) (by kernel_rfl) fun _ => ?_ | skip); simp only [KS, Nat.reduceAdd, Nat.reduceMul, Nat.reduceEqDiff, ↓reduceIte, forall_const, Int.cast_ofNat_Int, Int.reduceToNat, TF7, KL7, List.take_succ_cons, List.take_zero, List.drop_succ_cons, List.drop_zero, pk_true, pk_false, false_or, or_false, false_imp_iff, true_imp_iff, not_true_eq_false, not_false_eq_true, Bool.true_or, Bool.false_or, Bool.or_true, Bool.or_false, Bool.true_and, Bool.false_and, Bool.and_true, Bool.and_false]; (try simp (disch := omega) only [wrapI, tmodI, tdivI]); (fail_if_success (with_reducible show False))))
  refine Run_condS (fun _ => rfl) (fun h => ?_) (fun h => ?_)
  · (repeat first | with_reducible first | refine jq ?_ | refine jk ?_ | refine jc ?_ | refine jl ?_ | refine jb ?_ | refine jo ?_ | refine ji ?_ | refine jx rfl ?_ | refine And.intro (by first | assumption | omega | (intros; omega)) ?_ | ((first | refine jR KL7 (by kernel_rfl) fun _ => ?_ | refine jD (id := 9) KL7 mixed (by kernel_rfl) (by kernel_rfl) fun _ => ?_ | skip); simp only [KS, Nat.reduceAdd, Nat.reduceMul, Nat.reduceEqDiff, ↓reduceIte, forall_const, Int.cast_ofNat_Int, Int.reduceToNat, TF7, KL7, List.take_succ_cons, List.take_zero, List.drop_succ_cons, List.drop_zero]; (try simp (disch := omega) only [wrapI, tmodI, tdivI]); (fail_if_success (with_reducible show False))))
    refine Run_ret ?_
    simp [Rets, RetM, resV, fnd, oneOr, y5]
  have hfew : p.Runs.length ≤ 20 := by
    have : few40 t f p = true := by simpa using h
    simp only [few40, Bool.and_eq_true, decide_eq_true_eq] at this
    omega
  clear h
  have z5 := x4.trans x5
  have t5 := T w5 z5
  have f5 := F w5 z5
  have p5 := P w5 z5
  (repeat first | with_reducible first | refine jq ?_ | refine jk ?_ | refine jc ?_ | refine jl ?_ | refine jb ?_ | refine jo ?_ | refine ji ?_ | refine jx rfl ?_ | refine And.intro (by first | assumption | omega | (intros; omega)) ?_ | ((first | refine jR KL7 (by kernel_rfl) fun _ => ?_ | refine jD (id := 9) KL7 mixed (by kernel_rfl) (by kernel_rfl) fun _ => ?_ | skip); simp only [KS, Nat.reduceAdd, Nat.reduceMul, Nat.reduceEqDiff, ↓reduceIte, forall_const, Int.cast_ofNat_Int, Int.reduceToNat, TF7, KL7, List.take_succ_cons, List.take_zero, List.drop_succ_cons, List.drop_zero, t5, f5, p5]; (try simp (disch := omega) only [wrapI, tmodI, tdivI]); (fail_if_success (with_reducible show False))))
  refine costW rfl (hl.ext y5) (hT.ext y5) (hP.ext y5) fun w6 x6 => ?_
  have y6 := y5.trans x6
  have z6 := z5.trans x6
  have t6 := T w6 z6
  have f6 := F w6 z6
  have p6 := P w6 z6
  (repeat first | with_reducible first | refine jq ?_ | refine jk ?_ | refine jc ?_ | refine jl ?_ | refine jb ?_ | refine jo ?_ | refine ji ?_ | refine jx rfl ?_ | refine And.intro (by first | assumption | omega | (intros; omega)) ?_ | ((first | refine jR KL7 (by kernel_rfl) fun _ => ?_ | refine jD (id := 9) KL7 mixed (by kernel_rfl) (by kernel_rfl) fun _ => ?_ | skip); simp only [KS, Nat.reduceAdd, Nat.reduceMul, Nat.reduceEqDiff, ↓reduceIte, forall_const, Int.cast_ofNat_Int, Int.reduceToNat, TF7, KL7, List.take_succ_cons, List.take_zero, List.drop_succ_cons, List.drop_zero, t6, f6, p6]; (try simp (disch := omega) only [wrapI, tmodI, tdivI]); (fail_if_success (with_reducible show False))))
  refine covW rfl (hl.ext y6) (hT.ext y6) (hP.ext y6) hr fun vb w7 x7 sb => ?_
  have y7 := y6.trans x7
  have z7 := z6.trans x7
  (repeat first | with_reducible first | refine jq ?_ | refine jk ?_ | refine jc ?_ | refine jl ?_ | refine jb ?_ | refine jo ?_ | refine ji ?_ | refine jx rfl ?_ | refine And.intro (by first | assumption | omega | (intros; omega)) ?_ | ((first | refine jR KL7 (by kernel_rfl) fun _ => ?_ | refine jD (id := 9) KL7 mixed (by kernel_rfl) (by kernel_rfl) fun _ => ?_ | skip); simp only [KS, Nat.reduceAdd, Nat.reduceMul, Nat.reduceEqDiff, ↓reduceIte, forall_const, Int.cast_ofNat_Int, Int.reduceToNat, TF7, KL7, List.take_succ_cons, List.take_zero, List.drop_succ_cons, List.drop_zero, pk_true, pk_false, false_or, or_false, false_imp_iff, true_imp_iff, not_true_eq_false, not_false_eq_true, Bool.true_or, Bool.false_or, Bool.or_true, Bool.or_false, Bool.true_and, Bool.false_and, Bool.and_true, Bool.and_false]; (try simp (disch := omega) only [wrapI, tmodI, tdivI]); (fail_if_success (with_reducible show False))))
  refine Run_condS (fun _ => rfl) (fun h => ?_) (fun h => ?_)
  · have hne : (Fd.cover t f p run handed).2 ≠ 0 := by simpa using h
    obtain ⟨e1, e2⟩ := cover_no hne
    have e3 : (Fd.cover t f p run handed).1.length = 0 := by rw [e1]; rfl
    (repeat first | with_reducible first | refine jq ?_ | refine jk ?_ | refine jc ?_ | refine jl ?_ | refine jb ?_ | refine jo ?_ | refine ji ?_ | refine jx rfl ?_ | refine And.intro (by first | assumption | omega | (intros; omega)) ?_ | ((first | refine jR KL7 (by kernel_rfl) fun _ => ?_ | refine jD (id := 9) KL7 mixed (by kernel_rfl) (by kernel_rfl) fun _ => ?_ | skip); simp only [KS, Nat.reduceAdd, Nat.reduceMul, Nat.reduceEqDiff, ↓reduceIte, forall_const, Int.cast_ofNat_Int, Int.reduceToNat, TF7, KL7, List.take_succ_cons, List.take_zero, List.drop_succ_cons, List.drop_zero, sb.s, sb.len, e3, pk_true, pk_false, false_or, or_false, false_imp_iff, true_imp_iff, not_true_eq_false, not_false_eq_true, Bool.true_or, Bool.false_or, Bool.or_true, Bool.or_false, Bool.true_and, Bool.false_and, Bool.and_true, Bool.and_false]; (try simp (disch := omega) only [wrapI, tmodI, tdivI]); (fail_if_success (with_reducible show False))))
    refine Run_ret ?_
    simp [Rets, RetM, resV, fnd, oneOr]
    refine ⟨?_, y7⟩
    rcases e2 with ⟨a, b⟩ | ⟨a, b⟩
    · exact .inr b.symm
    · exact .inl a
  have he : (Fd.cover t f p run handed).2 = 0 := by simpa using h
  clear h
  obtain ⟨c1, c2, c3, c4⟩ := cover_ok he
  obtain ⟨hck, _, hfm, r0, r1, n0, n1, xx, hx⟩ := cost_ok c1
  obtain ⟨hrn, hln, hlo, q0, q1, hxo⟩ := line_ok c1
  have ho1 := hxo.l1
  have ho9 := hxo.o9
  obtain ⟨k, rfl⟩ : ∃ k : Nat, handed = k := ⟨handed.toNat, by omega⟩
  have eA := cover_eq (run := run) c1 c2 c3
  rw [Int.toNat_natCast] at eA
  rw [eA] at sb ⊢
  simp only at sb
  rw [c1]
  have hch := (Tt.chk_ok hck).o
  have hdv : Tt.diff (Fd.lineOf t p run).Offices = true := hxo.d
  generalize hox : (Fd.lineOf t p run).Offices = ofs at *
  have hcl : p.Covers.length = p.Runs.length := (formed_ok hfm).1
  have lA : (ofs.take k).length = k := by simp; omega
  have lB : (Fd.covs (Fd.cost t f p run).1 run (ofs.take k)).length = k := by rw [Fd.covs_len, lA]
  have hos : ∀ o ∈ ofs.take k, 0 ≤ o ∧ o ≤ 24 := fun o ho => by
    have := hxo.s o (by rw [hox]; exact List.mem_of_mem_take ho)
    omega
  have hdd : ∀ i j (hi : i < (ofs.take k).length) (hj : j < (ofs.take k).length), (ofs.take k)[i] = (ofs.take k)[j] → i = j := by
    intro i j hi hj h
    simp only [List.getElem_take] at h
    have A := Tt.diff_iff.1 hdv
    rcases Nat.lt_trichotomy i j with hlt | e | hlt
    · exact (A j (by omega) i hlt h).elim
    · exact e
    · exact (A i (by omega) j hlt h.symm).elim
  obtain ⟨b, hb, lb, b1, bi⟩ := cov_bal (run := run) n0 n1 ⟨r0, by omega⟩ hos (by omega) hdd
  have hless := fun h => cov_less (run := run) n0 n1 ⟨r0, by omega⟩ hos (by omega) h
  rw [lA] at hb hless
  have hmk : 0 ≤ (Fd.cost t f p run).1 * k ∧ (Fd.cost t f p run).1 * k ≤ 67108864 * 9 := ⟨Int.mul_nonneg n0 (by omega), Int.mul_le_mul n1 (by omega) (by omega) (by omega)⟩
  generalize Fd.covs (Fd.cost t f p run).1 run (ofs.take k) = C at *
  generalize (Fd.cost t f p run).1 = n at *
  generalize hnk : n * (k : Int) = nk at *
  have slb : slLen vb = k := by rw [sb.len, lB]
  have t7 := T w7 z7
  have p7 := P w7 z7
  have q1' : p.Runs[run.toNat].Line.toNat < t.Lines.length := hln
  obtain ⟨g1, g2⟩ := (hP.r.ext y7).runD hrn
  simp only [RunD.cs, AtN, KS, Nat.reduceAdd, Nat.reduceMul, Nat.reduceEqDiff, ↓reduceIte, UT] at g1
  have d1 : decide (n < 0) = false := by simp; omega
  have d2 : decide (run < 0) = false := by simp; omega
  have d3 : decide ((p.Runs.length : Int) ≤ run) = false := by simp; omega
  have d4 : decide (p.Runs[run.toNat].Line < 0) = false := by simp; omega
  have d5 : decide ((t.Lines.length : Int) ≤ p.Runs[run.toNat].Line) = false := by simp; omega
  have d6 : ((k : Int) != (k : Int)) = false := by simp
  (repeat first | with_reducible first | refine jq ?_ | refine jk ?_ | refine jc ?_ | refine jl ?_ | refine jb ?_ | refine jo ?_ | refine ji ?_ | refine jx rfl ?_ | refine And.intro (by first | assumption | omega | (intros; omega)) ?_ | ((first | refine jR KL7 (by kernel_rfl) fun _ => ?_ | refine jD (id := 9) KL7 mixed (by kernel_rfl) (by kernel_rfl) fun _ => ?_ | skip); simp only [KS, Nat.reduceAdd, Nat.reduceMul, Nat.reduceEqDiff, ↓reduceIte, forall_const, Int.cast_ofNat_Int, Int.reduceToNat, TF7, KL7, List.take_succ_cons, List.take_zero, List.drop_succ_cons, List.drop_zero, sb.s, slb, t7, p7, hP.r.s, hP.r.len, hl.s, hl.len, g1, d1, d2, d3, d4, d5, d6, bne_self_eq_false, pk_true, pk_false, false_or, or_false, false_imp_iff, true_imp_iff, not_true_eq_false, not_false_eq_true, Bool.true_or, Bool.false_or, Bool.or_true, Bool.or_false, Bool.true_and, Bool.false_and, Bool.and_true, Bool.and_false]; (try simp (disch := omega) only [wrapI, tmodI, tdivI]); (fail_if_success (with_reducible show False))))
  intro w8 x8
  have y8 := y7.trans x8
  have z8 := z7.trans x8
  refine Run_condS (fun _ => rfl) (fun h => by cases h) (fun _ => ?_)
  clear d1 d2 d3 d4 d5 d6 hT F t4 f4 p4 t5 f5 p5 t6 f6 p6
  obtain ⟨l0, l1, l2, l3, e1, e2, hR⟩ := (hl.ext y8).line hln
  have Q : ∀ w', Ext w w' → AtN w' ((slAt v0).add (run.toNat * 3)) 0 p.Runs[run.toNat].cs := fun w' x => ((hP.r.ext x).runD hrn).1
  have hone := hR.one
  rw [hlo] at hox hxo ho1
  have hlk := c3
  rw [hlo] at hlk
  generalize hxx : t.Lines[p.Runs[run.toNat].Line.toNat] = x at *
  generalize hrr : p.Runs[run.toNat] = r at *
  subst hox
  simp only [RunD.cs, AtN, KS, Nat.reduceAdd, Nat.reduceMul, Nat.reduceEqDiff, ↓reduceIte, UT] at Q
  simp only [LineD.cs] at hone
  (repeat with_reducible first | refine jq ?_ | refine jk ?_ | refine jc ?_ | refine jl ?_ | refine jb ?_ | refine jo ?_ | refine ji ?_ | refine jx rfl ?_)
  refine Run_ec (id := 11) KL7 (.first 0 (.first 1 (.first 2 (.first 3 (.first 4 (.first 5 (.first 6 (.first 7 (.first 8 (.first 9 (.alt 10 (.alt 11 .done .stop) .stop))))))))))) mixed (by kernel_rfl) (by kernel_rfl) fun w9 x9 _ => ?_
  have t9 := T w9 (z8.trans x9)
  have p9 := P w9 (z8.trans x9)
  have q9 := Q w9 (y8.trans x9)
  have e9 := (e2.ext x9).n
  simp only [LineD.cs, AtN, KS, Nat.reduceAdd, Nat.reduceMul, Nat.reduceEqDiff, ↓reduceIte, UT] at e9
  (try simp only [KS, Nat.reduceAdd, Nat.reduceMul, Nat.reduceEqDiff, ↓reduceIte, forall_const, Int.cast_ofNat_Int, Int.reduceToNat, List.take_succ_cons, List.take_zero, List.drop_succ_cons, List.drop_zero, TF7, KL7, ec, t9, p9, hP.r.s, hP.r.len, hl.s, hl.len, q9, e9]); (try simp (disch := omega) only [wrapI, tmodI, tdivI])
  (try simp only [KS, Nat.reduceAdd, Nat.reduceMul, Nat.reduceEqDiff, ↓reduceIte, forall_const, Int.cast_ofNat_Int, Int.reduceToNat, List.take_succ_cons, List.take_zero, List.drop_succ_cons, List.drop_zero, TF7, KL7, ec, t9, p9, hP.r.s, hP.r.len, hl.s, hl.len, q9, e9]); (try simp (disch := omega) only [wrapI, tmodI, tdivI])
  refine ⟨by omega, by omega, Ext.refl _, SemW_allocT ti55 fun px w10 h10 => ⟨h10.ext, ?_⟩⟩
  have b10 := h10.blk
  refine SemW_setW (by rw [cells55]; decide) (by rw [cells55]; rfl) h10.row (by rw [cells55]; rfl) (by simpa [Value.cells] using hone) fun w11 r11 k11 z11 => ?_
  have r11 : Row w11 px 55 (x.cs l0 l1 l2 l3) := by simpa [Value.cells, LineD.cs] using r11
  have x11 : Ext w9 w11 := Keep.ext h10.ext k11 fun q hq => by omega
  refine ⟨x11, ?_⟩
  have y11 := y8.trans (x9.trans x11)
  have hR11 := hR.ext (x9.trans x11)
  have sb11 := sb.ext (x8.trans (x9.trans x11))
  have X : ∀ w', Ext w11 w' → AtN w' px 0 (x.cs l0 l1 l2 l3) := fun w' x => (r11.at_.ext x).n
  simp only [LineD.cs, AtN, KS, Nat.reduceAdd, Nat.reduceMul, Nat.reduceEqDiff, ↓reduceIte, UT] at X
  have X11 := X w11 (Ext.refl _)
  have hll := hR11.l.len
  have hol := hR11.o.len
  have d1 : decide ((x.Legs.length : Int) < k) = false := by simp; omega
  have d2 : ((x.Offices.length : Int) != (x.Legs.length : Int) + 1) = false := by simp; omega
  (repeat first | with_reducible first | refine jq ?_ | refine jk ?_ | refine jc ?_ | refine jl ?_ | refine jb ?_ | refine jo ?_ | refine ji ?_ | refine jx rfl ?_ | refine And.intro (by first | assumption | omega | (intros; omega)) ?_ | ((first | refine jR KL7 (by kernel_rfl) fun _ => ?_ | refine jD (id := 9) KL7 mixed (by kernel_rfl) (by kernel_rfl) fun _ => ?_ | skip); simp only [KS, Nat.reduceAdd, Nat.reduceMul, Nat.reduceEqDiff, ↓reduceIte, forall_const, Int.cast_ofNat_Int, Int.reduceToNat, TF7, KL7, List.take_succ_cons, List.take_zero, List.drop_succ_cons, List.drop_zero, X11, hR11.l.s, hR11.l.len, hR11.o.s, hR11.o.len, d1, d2, pk_true, pk_false, false_or, or_false, false_imp_iff, true_imp_iff, not_true_eq_false, not_false_eq_true, Bool.true_or, Bool.false_or, Bool.or_true, Bool.or_false, Bool.true_and, Bool.false_and, Bool.and_true, Bool.and_false]; (try simp (disch := omega) only [wrapI, tmodI, tdivI]); (fail_if_success (with_reducible show False))))
  refine Run_condS (fun _ => rfl) (fun h => by simp at h) (fun _ => ?_)
  (repeat first | with_reducible first | refine jq ?_ | refine jk ?_ | refine jc ?_ | refine jl ?_ | refine jb ?_ | refine jo ?_ | refine ji ?_ | refine jx rfl ?_ | refine And.intro (by first | assumption | omega | (intros; omega)) ?_ | ((first | refine jR KL7 (by kernel_rfl) fun _ => ?_ | refine jD (id := 9) KL7 mixed (by kernel_rfl) (by kernel_rfl) fun _ => ?_ | skip); simp only [KS, Nat.reduceAdd, Nat.reduceMul, Nat.reduceEqDiff, ↓reduceIte, forall_const, Int.cast_ofNat_Int, Int.reduceToNat, TF7, KL7, List.take_succ_cons, List.take_zero, List.drop_succ_cons, List.drop_zero, hnk]; (try simp (disch := omega) only [wrapI, tmodI, tdivI]); (fail_if_success (with_reducible show False))))
  refine staW (n := nk) (by unfold I64; omega) fun vs w12 x12 ss => ?_
  (repeat first | with_reducible first | refine jq ?_ | refine jk ?_ | refine jc ?_ | refine jl ?_ | refine jb ?_ | refine jo ?_ | refine ji ?_ | refine jx rfl ?_ | refine And.intro (by first | assumption | omega | (intros; omega)) ?_ | ((first | refine jR KL7 (by kernel_rfl) fun _ => ?_ | refine jD (id := 9) KL7 mixed (by kernel_rfl) (by kernel_rfl) fun _ => ?_ | skip); simp only [KS, Nat.reduceAdd, Nat.reduceMul, Nat.reduceEqDiff, ↓reduceIte, forall_const, Int.cast_ofNat_Int, Int.reduceToNat, TF7, KL7, List.take_succ_cons, List.take_zero, List.drop_succ_cons, List.drop_zero]; (try simp (disch := omega) only [wrapI, tmodI, tdivI]); (fail_if_success (with_reducible show False))))
  refine balW hb ss (sb11.ext x12) fun vq w13 x13 sq => ?_
  have sq : Sl w13 vq b := sq
  have y13 := y11.trans (x12.trans x13)
  have hget : ∀ (j : Nat) (h : j < b.length), b[j] = Bk.lo b j := fun j h => by
    unfold Bk.lo; rw [List.getD_eq_getElem?_getD]; simp [h]
  have G := fun (w' : World) (x : Ext w13 w') (j : Nat) (h : j < b.length) => (sq.ext x).get h
  obtain ⟨g1, g2, g3⟩ := G w13 (Ext.refl _) 1 (by omega)
  rw [hget, show ((1 : Nat) : Int) = 1 by rfl, b1] at g1
  have lq : slLen vq = 115 := by rw [sq.len, lb]
  (repeat first | with_reducible first | refine jq ?_ | refine jk ?_ | refine jc ?_ | refine jl ?_ | refine jb ?_ | refine jo ?_ | refine ji ?_ | refine jx rfl ?_ | refine And.intro (by first | assumption | omega | (intros; omega)) ?_ | ((first | refine jR KL7 (by kernel_rfl) fun _ => ?_ | refine jD (id := 9) KL7 mixed (by kernel_rfl) (by kernel_rfl) fun _ => ?_ | skip); simp only [KS, Nat.reduceAdd, Nat.reduceMul, Nat.reduceEqDiff, ↓reduceIte, forall_const, Int.cast_ofNat_Int, Int.reduceToNat, TF7, KL7, List.take_succ_cons, List.take_zero, List.drop_succ_cons, List.drop_zero, lq, sq.s, g1, g2, bne_self_eq_false, pk_true, pk_false, false_or, or_false, false_imp_iff, true_imp_iff, not_true_eq_false, not_false_eq_true, Bool.true_or, Bool.false_or, Bool.or_true, Bool.or_false, Bool.true_and, Bool.false_and, Bool.and_true, Bool.and_false]; (try simp (disch := omega) only [wrapI, tmodI, tdivI]); (fail_if_success (with_reducible show False))))
  refine Run_condS (fun _ => rfl) (fun h => by cases h) (fun _ => ?_)
  (repeat first | with_reducible first | refine jq ?_ | refine jk ?_ | refine jc ?_ | refine jl ?_ | refine jb ?_ | refine jo ?_ | refine ji ?_ | refine jx rfl ?_ | refine And.intro (by first | assumption | omega | (intros; omega)) ?_ | ((first | refine jR KL7 (by kernel_rfl) fun _ => ?_ | refine jD (id := 9) KL7 mixed (by kernel_rfl) (by kernel_rfl) fun _ => ?_ | skip); simp only [KS, Nat.reduceAdd, Nat.reduceMul, Nat.reduceEqDiff, ↓reduceIte, forall_const, Int.cast_ofNat_Int, Int.reduceToNat, TF7, KL7, List.take_succ_cons, List.take_zero, List.drop_succ_cons, List.drop_zero]; (try simp (disch := omega) only [wrapI, tmodI, tdivI]); (fail_if_success (with_reducible show False))))
  refine Run_loopV [10, 18, 19, 152, 153, 174] (σ := Nat) (fun i => [(152, some (.int .i64 i))]) (fun i w' => i ≤ k ∧ Ext w13 w') (fun i => k - i) 0 (by simp [SubB, fnd]) ⟨by omega, Ext.refl _⟩ ?_
  rintro i w14 ⟨hi, x14⟩
  have y14 := y13.trans x14
  have x1114 := x12.trans (x13.trans x14)
  (repeat first | with_reducible first | refine jq ?_ | refine jk ?_ | refine jc ?_ | refine jl ?_ | refine jb ?_ | refine jo ?_ | refine ji ?_ | refine jx rfl ?_ | refine And.intro (by first | assumption | omega | (intros; omega)) ?_ | ((first | refine jR KL7 (by kernel_rfl) fun _ => ?_ | refine jD (id := 9) KL7 mixed (by kernel_rfl) (by kernel_rfl) fun _ => ?_ | skip); simp only [KS, Nat.reduceAdd, Nat.reduceMul, Nat.reduceEqDiff, ↓reduceIte, forall_const, Int.cast_ofNat_Int, Int.reduceToNat, TF7, KL7, List.take_succ_cons, List.take_zero, List.drop_succ_cons, List.drop_zero]; (try simp (disch := omega) only [wrapI, tmodI, tdivI]); (fail_if_success (with_reducible show False))))
  refine Run_condS (fun _ => rfl) (fun h => ?_) (fun h => ?_)
  · simp at h
    have hio : i < x.Offices.length := by omega
    obtain ⟨f1, f2, f3⟩ := (hR11.o.ext x1114).get hio
    have hb0 := bi i (by omega)
    rw [List.getElem_take] at hb0
    have hoi := hxo.s _ (List.getElem_mem hio)
    have X14 := X w14 x1114
    generalize hoo : x.Offices[i] = o at *
    obtain ⟨q1, q2, q3⟩ := G w14 x14 (3 + o.toNat) (by omega)
    rw [hget, show ((3 + o.toNat : Nat) : Int) = 3 + o by omega, hb0] at q1
    have d1 : decide (o < 0) = false := by simp; omega
    have d2 : decide ((24 : Int) ≤ o) = false := by simp; omega
    have d3 : (3 + o).toNat = 3 + o.toNat := by omega
    (repeat first | with_reducible first | refine jq ?_ | refine jk ?_ | refine jc ?_ | refine jl ?_ | refine jb ?_ | refine jo ?_ | refine ji ?_ | refine jx rfl ?_ | refine And.intro (by first | assumption | omega | (intros; omega)) ?_ | ((first | refine jR KL7 (by kernel_rfl) fun _ => ?_ | refine jD (id := 9) KL7 mixed (by kernel_rfl) (by kernel_rfl) fun _ => ?_ | skip); simp only [KS, Nat.reduceAdd, Nat.reduceMul, Nat.reduceEqDiff, ↓reduceIte, forall_const, Int.cast_ofNat_Int, Int.reduceToNat, TF7, KL7, List.take_succ_cons, List.take_zero, List.drop_succ_cons, List.drop_zero, X14, hR11.o.s, hR11.o.len, f1, f2, d1, d2, d3, lq, sq.s, q1, q2, bne_self_eq_false, pk_true, pk_false, false_or, or_false, false_imp_iff, true_imp_iff, not_true_eq_false, not_false_eq_true, Bool.true_or, Bool.false_or, Bool.or_true, Bool.or_false, Bool.true_and, Bool.false_and, Bool.and_true, Bool.and_false]; (try simp (disch := omega) only [wrapI, tmodI, tdivI]); (fail_if_success (with_reducible show False))))
    refine Run_condS (fun _ => rfl) (fun h => by cases h) (fun _ => ?_)
    (repeat first | with_reducible first | refine jq ?_ | refine jk ?_ | refine jc ?_ | refine jl ?_ | refine jb ?_ | refine jo ?_ | refine ji ?_ | refine jx rfl ?_ | refine And.intro (by first | assumption | omega | (intros; omega)) ?_ | ((first | refine jR KL7 (by kernel_rfl) fun _ => ?_ | refine jD (id := 9) KL7 mixed (by kernel_rfl) (by kernel_rfl) fun _ => ?_ | skip); simp only [KS, Nat.reduceAdd, Nat.reduceMul, Nat.reduceEqDiff, ↓reduceIte, forall_const, Int.cast_ofNat_Int, Int.reduceToNat, TF7, KL7, List.take_succ_cons, List.take_zero, List.drop_succ_cons, List.drop_zero]; (try simp (disch := omega) only [wrapI, tmodI, tdivI]); (fail_if_success (with_reducible show False))))
    refine Run_lp ⟨i + 1, ?_, ⟨by omega, x14⟩, by omega⟩
    simp [SubB, fnd, strike, has]
  simp at h
  obtain rfl : i = k := by omega
  (repeat first | with_reducible first | refine jq ?_ | refine jk ?_ | refine jc ?_ | refine jl ?_ | refine jb ?_ | refine jo ?_ | refine ji ?_ | refine jx rfl ?_ | refine And.intro (by first | assumption | omega | (intros; omega)) ?_ | ((first | refine jR KL7 (by kernel_rfl) fun _ => ?_ | refine jD (id := 9) KL7 mixed (by kernel_rfl) (by kernel_rfl) fun _ => ?_ | skip); simp only [KS, Nat.reduceAdd, Nat.reduceMul, Nat.reduceEqDiff, ↓reduceIte, forall_const, Int.cast_ofNat_Int, Int.reduceToNat, TF7, KL7, List.take_succ_cons, List.take_zero, List.drop_succ_cons, List.drop_zero, hnk]; (try simp (disch := omega) only [wrapI, tmodI, tdivI]); (fail_if_success (with_reducible show False))))
  refine Run_condS (fun _ => rfl) (fun h => ?_) (fun h => ?_)
  · (repeat first | with_reducible first | refine jq ?_ | refine jk ?_ | refine jc ?_ | refine jl ?_ | refine jb ?_ | refine jo ?_ | refine ji ?_ | refine jx rfl ?_ | refine And.intro (by first | assumption | omega | (intros; omega)) ?_ | ((first | refine jR KL7 (by kernel_rfl) fun _ => ?_ | refine jD (id := 9) KL7 mixed (by kernel_rfl) (by kernel_rfl) fun _ => ?_ | skip); simp only [KS, Nat.reduceAdd, Nat.reduceMul, Nat.reduceEqDiff, ↓reduceIte, forall_const, Int.cast_ofNat_Int, Int.reduceToNat, TF7, KL7, List.take_succ_cons, List.take_zero, List.drop_succ_cons, List.drop_zero]; (try simp (disch := omega) only [wrapI, tmodI, tdivI]); (fail_if_success (with_reducible show False))))
    refine Run_ret ?_
    simp [Rets, RetM, resV, fnd, oneOr, y14]
  have hnz : nk ≠ 0 := by simpa using h
  have hls := hless hnz
  (repeat first | with_reducible first | refine jq ?_ | refine jk ?_ | refine jc ?_ | refine jl ?_ | refine jb ?_ | refine jo ?_ | refine ji ?_ | refine jx rfl ?_ | refine And.intro (by first | assumption | omega | (intros; omega)) ?_ | ((first | refine jR KL7 (by kernel_rfl) fun _ => ?_ | refine jD (id := 9) KL7 mixed (by kernel_rfl) (by kernel_rfl) fun _ => ?_ | skip); simp only [KS, Nat.reduceAdd, Nat.reduceMul, Nat.reduceEqDiff, ↓reduceIte, forall_const, Int.cast_ofNat_Int, Int.reduceToNat, TF7, KL7, List.take_succ_cons, List.take_zero, List.drop_succ_cons, List.drop_zero, hnk]; (try simp (disch := omega) only [wrapI, tmodI, tdivI]); (fail_if_success (with_reducible show False))))
  refine staW (n := nk - 1) (by unfold I64; omega) fun vs2 w15 x15 ss2 => ?_
  (repeat first | with_reducible first | refine jq ?_ | refine jk ?_ | refine jc ?_ | refine jl ?_ | refine jb ?_ | refine jo ?_ | refine ji ?_ | refine jx rfl ?_ | refine And.intro (by first | assumption | omega | (intros; omega)) ?_ | ((first | refine jR KL7 (by kernel_rfl) fun _ => ?_ | refine jD (id := 9) KL7 mixed (by kernel_rfl) (by kernel_rfl) fun _ => ?_ | skip); simp only [KS, Nat.reduceAdd, Nat.reduceMul, Nat.reduceEqDiff, ↓reduceIte, forall_const, Int.cast_ofNat_Int, Int.reduceToNat, TF7, KL7, List.take_succ_cons, List.take_zero, List.drop_succ_cons, List.drop_zero]; (try simp (disch := omega) only [wrapI, tmodI, tdivI]); (fail_if_success (with_reducible show False))))
  refine balW hls ss2 (sb11.ext (x1114.trans x15)) fun vq2 w16 x16 _ => ?_
  (repeat first | with_reducible first | refine jq ?_ | refine jk ?_ | refine jc ?_ | refine jl ?_ | refine jb ?_ | refine jo ?_ | refine ji ?_ | refine jx rfl ?_ | refine And.intro (by first | assumption | omega | (intros; omega)) ?_ | ((first | refine jR KL7 (by kernel_rfl) fun _ => ?_ | refine jD (id := 9) KL7 mixed (by kernel_rfl) (by kernel_rfl) fun _ => ?_ | skip); simp only [KS, Nat.reduceAdd, Nat.reduceMul, Nat.reduceEqDiff, ↓reduceIte, forall_const, Int.cast_ofNat_Int, Int.reduceToNat, TF7, KL7, List.take_succ_cons, List.take_zero, List.drop_succ_cons, List.drop_zero, pk_true, pk_false, false_or, or_false, false_imp_iff, true_imp_iff, not_true_eq_false, not_false_eq_true, Bool.true_or, Bool.false_or, Bool.or_true, Bool.or_false, Bool.true_and, Bool.false_and, Bool.and_true, Bool.and_false]; (try simp (disch := omega) only [wrapI, tmodI, tdivI]); (fail_if_success (with_reducible show False))))
  refine Run_ret ?_
  simp [Rets, RetM, resV, fnd, oneOr]
  exact y14.trans (x15.trans x16)
end Go.Proofs.Ytcncbmdkifdggaa
