import Derived.Test.YtldjfebokojmfaaGreatRgW22q
import Derived.Test.YtldjfebokojmfaaGreatRgW22j
import Derived.Test.YtldjfebokojmfaaGreatRgW22k
import Derived.Test.YtldjfebokojmfaaGreatRgW20v
import Derived.Test.YtldjfebokojmfaaGreatRgGe
namespace Go.Proofs.YtldjfebokojmfaaGreat
open Go Go.Fk
set_option linter.unusedSimpArgs false
set_option linter.unusedVariables false
set_option maxRecDepth 100000
set_option maxHeartbeats 1000000 in
theorem rfOptionsO (vl : Value) (t : TimeD) (f : TariffD) (u0 u1 u2 : Value) (o : OrderD) (g : Value) (w : World) (hl : Sl w vl t.Lines) (hT : TarR w f u0 u1 u2) (hO : OrdR w o g) :
    Calls Tryz.prog 32 #[.agg (t.cs vl).toArray, .agg (f.cs u0 u1 u2).toArray, .agg (o.cs g).toArray] w fun e w' => ∃ v, e = .returned (.tuple #[v, .int .i64 (Pl.options t f o).2]) ∧ Ext w w' ∧ BufO (α := RunD) 34 w.heap.size w' v (Pl.options t f o).1 := by
  refine Calls_of_Run (args := [.agg (t.cs vl).toArray, .agg (f.cs u0 u1 u2).toArray, .agg (o.cs g).toArray]) (n := 56) (rs := [.tmp 6, .tmp 7]) Tryz.func32 rfl rfl rfl (by simp) ?_
  (repeat with_reducible first | refine jy ?_ | refine jw KL32 [11] TF32 fun _ => ?_)
  refine SemW_box fun pt w1 h1 => SemW_box fun pf w2 h2 => SemW_box fun po w3 h3 => ?_
  have x3 := h1.ext.trans (h2.ext.trans h3.ext)
  have T0 : ∀ w', Ext w3 w' → At w' pt (t.cs vl) := fun w' x => (h1.at_.ext (h2.ext.trans (h3.ext.trans x)))
  have F0 : ∀ w', Ext w3 w' → At w' pf (f.cs u0 u1 u2) := fun w' x => (h2.at_.ext (h3.ext.trans x))
  have O0 : ∀ w', Ext w3 w' → At w' po (o.cs g) := fun w' x => (h3.at_.ext x)
  have T := fun w' x => (T0 w' x).n
  have F := fun w' x => (F0 w' x).n
  have O := fun w' x => (O0 w' x).n
  simp only [TimeD.cs, TariffD.cs, OrderD.cs, RunD.cs, AtN, KS, Nat.reduceAdd, Nat.reduceMul, Nat.reduceEqDiff, ↓reduceIte, UT] at T F O
  have t3 := T w3 (Ext.refl _)
  have f3 := F w3 (Ext.refl _)
  have o3 := O w3 (Ext.refl _)
  have hone := hO.one
  (repeat with_reducible first | refine jy ?_ | refine jw KL32 [11] (aa TF32 (aa t3 (aa f3 o3))) fun _ => ?_)
  refine ordLit (hO.ext x3) fun vo w5 so x5 => ?_
  have y5 := x3.trans x5
  (repeat with_reducible first | refine jy ?_ | refine jw KL32 [11] TF32 fun _ => ?_)
  refine rferrW (l := [o]) (hl.ext y5) (hT.ext y5) so fun w6 x6 => ?_
  have y6 := y5.trans x6
  have z6 := x5.trans x6
  (repeat with_reducible first | refine jy ?_ | refine jw KL32 [11] TF32 fun _ => ?_)
  refine Run_condS (fun _ => rfl) (fun h => ?_) (fun h => ?_)
  · have he : Pl.err t f [o] ≠ 0 := by simpa using h
    (repeat with_reducible first | refine jy ?_ | refine jw KL32 [11] TF32 fun _ => ?_)
    refine Run_ret ?_
    simp [Rets, RetM, resV, fnd, oneOr, Pl.options, he, y6]
    exact BufO.nil
  have he : Pl.err t f [o] = 0 := by simpa using h
  clear h
  have ok := Pl.err_ok he
  have onum := ok_num ok (List.mem_singleton.2 rfl)
  have t6 := T w6 z6
  have f6 := F w6 z6
  have o6 := O w6 z6
  (repeat with_reducible first | refine jy ?_ | refine jw KL32 [11] (aa TF32 (aa t6 o6)) fun _ => ?_)
  refine CallW_gen call53 (rfRuns vl t _ _ w6 (hl.ext y6)) fun e w7 ⟨v7, he7, x7, s7⟩ => ⟨_, he7, ?_⟩
  have y7 := y6.trans x7
  have z7 := z6.trans x7
  (repeat with_reducible first | refine jy ?_ | refine jw KL32 [11] TF32 fun _ => ?_)
  refine Run_condS (fun _ => rfl) (fun h => ?_) (fun h => ?_)
  · have he2 : (Tt.runs t o.After (o.By + 1)).2 ≠ 0 := by simpa using h
    (repeat with_reducible first | refine jy ?_ | refine jw KL32 [11] TF32 fun _ => ?_)
    refine Run_ret ?_
    simp [Rets, RetM, resV, fnd, oneOr, Pl.options, he, he2, y7]
    exact BufO.nil
  have he2 : (Tt.runs t o.After (o.By + 1)).2 = 0 := by simpa using h
  clear h
  obtain ⟨a1, a2, a3, a4, a5, a6⟩ := Pl.runs_ok he2
  have hmem : ∀ r ∈ (Tt.runs t o.After (o.By + 1)).1, 0 ≤ r.Line ∧ r.Line < t.Lines.length ∧ Tt.LOk (Pl.lineR t r) t.Offices := fun r hr => by
    rw [a5, (Tt.sortR_perm _).mem_iff, Tt.mem_isR a2 a3 a4] at hr
    exact isRunL (by unfold Tt.isRun; rw [decide_eq_true a1, Bool.true_and]; exact hr.1)
  have hs7 := s7.s
  have hl7 := s7.len
  generalize hRs : (Tt.runs t o.After (o.By + 1)).1 = rs at *
  (repeat with_reducible first | refine jy ?_ | refine jw KL32 [11] TF32 fun _ => ?_)
  refine Run_loopV [11, 12, 37, 47] (σ := Nat × Value) (fun q => [(12, some (.int .i64 q.1)), (11, some q.2), (6, some (.slice none 0 0)), (7, some (.int .i64 0))]) (fun q w' => q.1 ≤ rs.length ∧ BufL (α := RunD) 34 w7 w' q.2 ((rs.take q.1).filter (Pl.fits t f o))) (fun q => rs.length - q.1) (0, .slice none 0 0) (by simp [SubB, fnd]) ⟨by simp, BufL.nil (Ext.refl _)⟩ ?_
  rintro ⟨q, vb⟩ w8 ⟨hq, B8⟩
  simp only at hq B8
  (repeat with_reducible first | refine jy ?_ | refine jw KL32 [11] (aa TF32 (aa hs7 hl7)) fun _ => ?_)
  refine Run_condS (fun _ => rfl) (fun h => ?_) (fun h => ?_)
  · simp at h
    have hql : q < rs.length := by omega
    have hqc : (q : Int) < rs.length := by omega
    clear h
    have x8 := B8.ext0
    have y8 := y7.trans x8
    have z8 := z7.trans x8
    obtain ⟨r1, r2⟩ := (s7.ext x8).runD hql
    obtain ⟨g1, g2, g3⟩ := hmem _ (List.getElem_mem hql)
    have R8 : ∀ w', Ext w8 w' → AtN w' ((slAt v7).add (q * 3)) 0 rs[q].cs := fun w' x => (((s7.ext x8).ext x).runD hql).1
    have htk : (rs.take (q + 1)).filter (Pl.fits t f o) = (rs.take q).filter (Pl.fits t f o) ++ if Pl.fits t f o rs[q] then [rs[q]] else [] := by
      rw [List.take_add_one, List.getElem?_eq_getElem hql, List.filter_append]
      simp only [Option.toList_some, List.filter_cons, List.filter_nil]
    have hle : ((rs.take q).filter (Pl.fits t f o)).length ≤ q := Nat.le_trans (List.length_filter_le _ _) (by rw [List.length_take]; omega)
    generalize (rs.take q).filter (Pl.fits t f o) = ys at *
    generalize rs[q] = r at *
    simp only [RunD.cs, AtN, KS, Nat.reduceAdd, Nat.reduceMul, Nat.reduceEqDiff, ↓reduceIte, UT] at r1 R8
    have t8 := T w8 z8
    have f8 := F w8 z8
    have o8 := O w8 z8
    (repeat with_reducible first | refine jy ?_ | refine jw KL32 [11] (aa TF32 (aa hs7 (aa hl7 (aa r1 (aa t8 (aa f8 o8)))))) fun _ => ?_)
    refine ⟨.bool (Pl.fits t f o r), PC_pure call54 fun w9 x9 => rfFits vl t f u0 u1 u2 o g r w9 (hl.ext (y8.trans x9)) (hT.ext (y8.trans x9)) (hO.ext (y8.trans x9)) ⟨g1, g2⟩ g3 onum.1 onum.2.2.2, fun w9 x9 => ?_⟩
    have B9 := B8.ext x9
    refine Run_condS (fun _ => rfl) (fun h => ?_) (fun h => ?_)
    · rw [if_pos h] at htk
      have r9 := R8 w9 x9
      (repeat with_reducible first | refine jy ?_ | refine jw KL32 [11] (aa TF32 (aa hs7 (aa hl7 r9))) fun _ => ?_)
      refine SemW_append1F (α := RunD) Tryz.underlying59 ti34 rfl (by decide) B9 (x := r) ⟨rfl, r2⟩ (by simp only [maxLen]; omega) fun _ v10 w10 B10 _ _ _ => ?_
      rw [← htk] at B10
      (repeat with_reducible first | refine jy ?_ | refine jw KL32 [11] TF32 fun _ => ?_)
      exact Run_lp ⟨(q + 1, v10), by simp [SubB, fnd, strike, has], ⟨by show q + 1 ≤ rs.length; omega, B10⟩, by show rs.length - (q + 1) < rs.length - q; omega⟩
    · rw [if_neg (by simp [h]), List.append_nil] at htk
      rw [← htk] at B9
      (repeat with_reducible first | refine jy ?_ | refine jw KL32 [11] TF32 fun _ => ?_)
      exact Run_lp ⟨(q + 1, vb), by simp [SubB, fnd, strike, has], ⟨by show q + 1 ≤ rs.length; omega, B9⟩, by show rs.length - (q + 1) < rs.length - q; omega⟩
  · simp at h
    obtain rfl : q = rs.length := by omega
    rw [List.take_length] at B8
    (repeat with_reducible first | refine jy ?_ | refine jw KL32 [11] TF32 fun _ => ?_)
    refine Run_ret ?_
    simp [Rets, RetM, resV, fnd, oneOr, Pl.options, he, he2, hRs]
    exact ⟨y7.trans B8.ext0, B8.o.mono y7.size⟩
theorem opts_len {t : TimeD} {f : TariffD} {o : OrderD} (h : (Pl.options t f o).2 = 0) : (Pl.options t f o).1.length ≤ 2000 := by
  unfold Pl.options at h ⊢
  split at h
  · rename_i h1; exact absurd h h1
  · rename_i h1
    rw [if_neg h1]
    split at h
    · rename_i h2; exact absurd h h2
    · rename_i h2
      rw [if_neg h2]
      have := (Pl.runs_ok (show (Tt.runs t o.After (o.By + 1)).2 = 0 by simpa using h2)).2.2.2.2.2
      exact Nat.le_trans (List.length_filter_le _ _) this
theorem opts_le {t : TimeD} {f : TariffD} {o : OrderD} : (Pl.options t f o).1.length ≤ 2000 := by
  by_cases h : (Pl.options t f o).2 = 0
  · exact opts_len h
  · unfold Pl.options at h ⊢
    split
    · simp
    · rename_i h1
      rw [if_neg h1] at h
      split
      · simp
      · rename_i h2
        rw [if_neg h2] at h
        exact (h rfl).elim
theorem rfOptions (vl : Value) (t : TimeD) (f : TariffD) (u0 u1 u2 : Value) (o : OrderD) (g : Value) (w : World) (hl : Sl w vl t.Lines) (hT : TarR w f u0 u1 u2) (hO : OrdR w o g) :
    Calls Tryz.prog 32 #[.agg (t.cs vl).toArray, .agg (f.cs u0 u1 u2).toArray, .agg (o.cs g).toArray] w fun e w' => ∃ v, e = .returned (.tuple #[v, .int .i64 (Pl.options t f o).2]) ∧ Ext w w' ∧ Sl w' v (Pl.options t f o).1 :=
  (rfOptionsO vl t f u0 u1 u2 o g w hl hT hO).mono fun e w' ⟨v, he, x, hb⟩ => ⟨v, he, x, hb.sl (by have := opts_le (t := t) (f := f) (o := o); omega)⟩
set_option maxHeartbeats 2000000 in
theorem rfFew22 (vl u0 u1 u2 vo : Value) (t : TimeD) (f : TariffD) (l : List OrderD) (w : World) (hl : Sl w vl t.Lines) (hT : TarR w f u0 u1 u2) (ho : Sl w vo l) :
    Calls Tryz.prog 16 #[.agg (t.cs vl).toArray, .agg (f.cs u0 u1 u2).toArray, vo] w fun e w' => ∃ b : Bool, e = .returned (.bool b) ∧ Ext w w' := by
  have l1 := hT.b.len
  have l2 := hT.l.len
  have l3 := hT.t.len
  have l4 := ho.len
  have hos := ho.s
  refine Calls_of_Run (args := [.agg (t.cs vl).toArray, .agg (f.cs u0 u1 u2).toArray, vo]) (n := 67) (rs := [.tmp 6]) Tryz.func16 rfl rfl rfl (by simp) ?_
  (repeat with_reducible first | refine jy ?_ | refine jw KL16 [9] TF16 fun _ => ?_)
  refine SemW_box fun pt w1 h1 => SemW_box fun pf w2 h2 => ?_
  have x2 := h1.ext.trans h2.ext
  have T : ∀ w', Ext w2 w' → AtN w' pt 0 (t.cs vl) := fun w' x => (h1.at_.ext (h2.ext.trans x)).n
  have F : ∀ w', Ext w2 w' → AtN w' pf 0 (f.cs u0 u1 u2) := fun w' x => (h2.at_.ext x).n
  simp only [TimeD.cs, TariffD.cs, AtN, KS, Nat.reduceAdd, Nat.reduceMul, Nat.reduceEqDiff, ↓reduceIte, UT] at T F
  have t2 := T w2 (Ext.refl _)
  have f2 := F w2 (Ext.refl _)
  by_cases h6 : 6 < l.length
  · have e6 : decide (6 < (l.length : Int)) = true := by simp; omega
    (repeat with_reducible first | refine jy ?_ | refine jw KL16 [9] (aa TF16 (aa l4 (aa hos (aa t2 (aa f2 (aa e6 KX)))))) fun _ => ?_)
    refine .inl ?_
    unfold hush
    (repeat with_reducible first | refine jy ?_ | refine jw KL16 [9] (aa TF16 (aa l4 (aa hos (aa t2 (aa f2 (aa e6 KX)))))) fun _ => ?_)
    refine Run_condS (fun _ => rfl) (fun _ => ?_) (fun h => by cases h)
    (repeat with_reducible first | refine jy ?_ | refine jw KL16 [9] TF16 fun _ => ?_)
    refine Run_ret ?_
    simp only [Rets, RetM, resV, fnd, oneOr, ↓reduceIte]
    exact ⟨_, rfl, _, rfl, x2⟩
  have e6 : decide (6 < (l.length : Int)) = false := by simp; omega
  (repeat with_reducible first | refine jy ?_ | refine jw KL16 [9] (aa TF16 (aa l4 (aa hos (aa t2 (aa f2 (aa e6 KX)))))) fun _ => ?_)
  refine .inl (CallW_gen call30 (rfFewTable vl t w2 (hl.ext x2)) fun e w4 ⟨b, he, x4, hb⟩ => ⟨_, he, ?_⟩)
  unfold hush
  have y4 := x2.trans x4
  have t4 := T w4 x4
  have f4 := F w4 x4
  (repeat with_reducible first | refine jy ?_ | refine jw KL16 [9] (aa TF16 (aa l4 (aa hos (aa t4 (aa f4 (aa e6 (aa hT.b.s (aa l1 (aa hT.l.s (aa l2 (aa hT.t.s (aa l3 KX)))))))))))) fun _ => ?_)
  refine Run_condS (fun _ => rfl) (fun h => ?_) (fun h => ?_)
  · (repeat with_reducible first | refine jy ?_ | refine jw KL16 [9] TF16 fun _ => ?_)
    refine Run_ret ?_
    simp only [Rets, RetM, resV, fnd, oneOr, ↓reduceIte]
    exact ⟨_, rfl, _, rfl, y4⟩
  clear h
  (repeat with_reducible first | refine jy ?_ | refine jw KL16 [9] (aa TF16 (aa t4 f4)) fun _ => ?_)
  refine rferrW (hl.ext y4) (hT.ext y4) (ho.ext y4) fun w5 x5 => ?_
  have y5 := y4.trans x5
  have z5 := x4.trans x5
  (repeat with_reducible first | refine jy ?_ | refine jw KL16 [9] TF16 fun _ => ?_)
  refine Run_condS (fun _ => rfl) (fun h => ?_) (fun h => ?_)
  · (repeat with_reducible first | refine jy ?_ | refine jw KL16 [9] TF16 fun _ => ?_)
    refine Run_ret ?_
    simp only [Rets, RetM, resV, fnd, oneOr, ↓reduceIte]
    exact ⟨_, rfl, _, rfl, y5⟩
  have he : Pl.err t f l = 0 := by simpa using h
  have ok := Pl.err_ok he
  clear h
  (repeat with_reducible first | refine jy ?_ | refine jw KL16 [9] TF16 fun _ => ?_)
  refine Run_loopV [6, 7, 8, 9, 10, 45, 59, 66] (σ := Nat × Int) (fun q => [(8, some (.int .i64 q.1)), (7, some (.int .i64 q.2)), (6, some (.bool false))]) (fun q w' => q.1 ≤ l.length ∧ 1 ≤ q.2 ∧ q.2 ≤ 3000 ∧ Ext w5 w') (fun q => l.length - q.1) (0, 1) (by simp [SubB, fnd]) ⟨by simp, by simp, by simp, Ext.refl _⟩ ?_
  rintro ⟨q, n⟩ w6 ⟨hq, hn1, hn2, x6⟩
  simp only at hq hn1 hn2
  have y6 := y5.trans x6
  have z6 := z5.trans x6
  (repeat with_reducible first | refine jy ?_ | refine jw KL16 [9] (aa TF16 (aa l4 hos)) fun _ => ?_)
  refine Run_condS (fun _ => rfl) (fun h => ?_) (fun h => ?_)
  · simp at h
    have hql : q < l.length := by omega
    have hqc : (q : Int) < l.length := by omega
    clear h
    obtain ⟨g, oA, oB, hO⟩ := (ho.ext y6).ord hql
    generalize l[q] = o at *
    have t6 := T w6 z6
    have f6 := F w6 z6
    let S : Nat → Prop := fun _ => True
    (repeat with_reducible refine js ?_)
    refine Run_eh S [6] [(0, [6]), (1, [6]), (5, [6])] (id := 9) KL16 (.first 0 (.first 1 (.first 2 (.first 3 (.first 4 (.first 5 (.alt true 6 (.free (.first 7 (.first 8 (.first 9 (.first 10 (.first 11 .done)))))) .stop))))))) mixed (by kernel_rfl) (by kernel_rfl) fun w7 x7 _ => ?_
    have z7 := z6.trans x7
    have t7 := T w7 z7
    have f7 := F w7 z7
    have o7 := (oB.ext x7).n
    simp only [OrderD.cs, AtN, KS, Nat.reduceAdd, Nat.reduceMul, Nat.reduceEqDiff, ↓reduceIte, UT] at o7
    (try simp (maxSteps := 5000000) only [KS, Nat.reduceAdd, Nat.reduceMul, Nat.reduceEqDiff, ↓reduceIte, forall_const, Int.cast_ofNat_Int, Int.reduceToNat, List.take_succ_cons, List.take_zero, List.drop_succ_cons, List.drop_zero, TF16, KL16, eh, gres, qopS, putL, ung, t7, f7, o7, hos, l4]); (try simp (disch := omega) only [wrapI, tmodI, tdivI])
    refine ⟨trivial, trivial, ⟨by omega, by omega⟩, trivial, Keep.refl _ _, ?_⟩
    have y7 := y6.trans x7
    refine CallW_gen call32 (rfOptions vl t f u0 u1 u2 o g w7 (hl.ext y7) (hT.ext y7) (hO.ext x7)) fun e w8 ⟨v8, he8, x8, s8⟩ => ⟨_, he8, ⟨rfl, by simp [tpOf]⟩, ⟨rfl, by simp [tpOf]⟩, ?_⟩
    (try simp (maxSteps := 5000000) only [KS, Nat.reduceAdd, Nat.reduceMul, Nat.reduceEqDiff, ↓reduceIte, forall_const, Int.cast_ofNat_Int, Int.reduceToNat, List.take_succ_cons, List.take_zero, List.drop_succ_cons, List.drop_zero, TF16, KL16, eh, gres, qopS, putL, ung]); (try simp (disch := omega) only [wrapI, tmodI, tdivI])
    have hs8 := s8.s
    have hl8 := s8.len
    (repeat with_reducible first | refine jy ?_ | refine jw KL16 [9] TF16 fun _ => ?_)
    refine Run_condS (fun _ => rfl) (fun h => ?_) (fun h => ?_)
    · (repeat with_reducible first | refine jy ?_ | refine jw KL16 [9] TF16 fun _ => ?_)
      refine Run_ret ?_
      simp only [Rets, RetM, resV, fnd, oneOr, ↓reduceIte]
      exact ⟨_, rfl, _, rfl, y7.trans x8⟩
    have he2 : (Pl.options t f o).2 = 0 := by simpa using h
    clear h
    have hle := opts_len he2
    generalize hk : (Pl.options t f o).1.length = k at *
    have hmul : 1 ≤ n * max 1 (k : Int) ∧ n * max 1 (k : Int) ≤ 6000000 := by
      have h1 : 1 ≤ max 1 (k : Int) := by omega
      have h2 : max 1 (k : Int) ≤ 2000 := by omega
      exact ⟨Int.le_trans hn1 (by simpa using Int.mul_le_mul_of_nonneg_left h1 (by omega : (0 : Int) ≤ n)), Int.le_trans (Int.mul_le_mul_of_nonneg_left h2 (by omega : (0 : Int) ≤ n)) (by omega)⟩
    (repeat with_reducible first | refine jy ?_ | refine jw KL16 [9] (aa TF16 (aa hs8 hl8)) fun _ => ?_)
    refine Run_condS (fun _ => rfl) (fun h => ?_) (fun h => ?_)
    · (repeat with_reducible first | refine jy ?_ | refine jw KL16 [9] TF16 fun _ => ?_)
      refine Run_ret ?_
      simp only [Rets, RetM, resV, fnd, oneOr, ↓reduceIte]
      exact ⟨_, rfl, _, rfl, y7.trans x8⟩
    · simp at h
      (repeat with_reducible first | refine jy ?_ | refine jw KL16 [9] TF16 fun _ => ?_)
      exact Run_lp ⟨(q + 1, n * max 1 (k : Int)), by simp [SubB, fnd, strike, has], ⟨by show q + 1 ≤ l.length; omega, hmul.1, h, x6.trans (x7.trans x8)⟩, by show l.length - (q + 1) < l.length - q; omega⟩
  · (repeat with_reducible first | refine jy ?_ | refine jw KL16 [9] TF16 fun _ => ?_)
    refine Run_ret ?_
    simp only [Rets, RetM, resV, fnd, oneOr, ↓reduceIte]
    exact ⟨_, rfl, _, rfl, y6⟩
end Go.Proofs.YtldjfebokojmfaaGreat
