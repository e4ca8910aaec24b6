import Derived.Test.YtldjfebokojmfaaGreatRgHh
import Derived.Test.YtldjfebokojmfaaGreatRgW23b
import Derived.Test.YtldjfebokojmfaaGreatRgGx
import Derived.Test.YtldjfebokojmfaaGreatRgW23c
import Derived.Test.YtldjfebokojmfaaGreatRgHl
import Derived.Test.YtldjfebokojmfaaGreatRgG3
import Derived.Test.YtldjfebokojmfaaGreatRgGu
namespace Go.Proofs.YtldjfebokojmfaaGreat
open Go Go.Fk
set_option linter.unusedSimpArgs false
set_option linter.unusedVariables false
set_option maxRecDepth 100000
set_option maxHeartbeats 2000000 in
theorem rgOptions (vl u0 u1 u2 vo : Value) (t : TimeD) (f : TariffD) (l : List OrderD) (w : World) (hl : Sl w vl t.Lines) (hT : TarR w f u0 u1 u2) (ho : Sl w vo l) :
    Calls Tryz.prog 21 #[.agg (t.cs vl).toArray, .agg (f.cs u0 u1 u2).toArray, vo] w fun e w' => ∃ v, e = .returned (.tuple #[v, .int .i64 (Rf.begE t f l)]) ∧ Ext w w' ∧ (Rf.begE t f l = 0 → Sl w' v (Pl.optsOf t f l)) := by
  have hos := ho.s
  have hol := ho.len
  refine Calls_of_Run (args := [.agg (t.cs vl).toArray, .agg (f.cs u0 u1 u2).toArray, vo]) (n := 44) (rs := [.tmp 6, .tmp 7]) Tryz.func21 rfl rfl rfl (by simp) ?_
  (repeat with_reducible first | refine jy ?_ | refine jw KL21 [8] TF21 fun _ => ?_)
  refine SemW_box fun pt w1 h1 => SemW_box fun pf w5 h2 => ?_
  have x5 := h1.ext.trans h2.ext
  have T : ∀ w', Ext w5 w' → AtN w' pt 0 (t.cs vl) := fun w' x => (h1.at_.ext (h2.ext.trans x)).n
  have F : ∀ w', Ext w5 w' → AtN w' pf 0 (f.cs u0 u1 u2) := fun w' x => (h2.at_.ext x).n
  simp only [TimeD.cs, TariffD.cs, AtN, KS, Nat.reduceAdd, Nat.reduceMul, Nat.reduceEqDiff, ↓reduceIte, UT] at T F
  have t5 := T w5 (Ext.refl _)
  have f5 := F w5 (Ext.refl _)
  (repeat with_reducible first | refine jy ?_ | refine jw KL21 [8] (aa TF21 (aa t5 f5)) fun _ => ?_)
  refine rferrW (hl.ext x5) (hT.ext x5) (ho.ext x5) fun w6 x6 => ?_
  have y6 := x5.trans x6
  (repeat with_reducible first | refine jy ?_ | refine jw KL21 [8] TF21 fun _ => ?_)
  refine Run_condS (fun _ => rfl) (fun h => ?_) (fun h => ?_)
  · have he : Pl.err t f l ≠ 0 := by simpa using h
    have hb : Rf.begE t f l = Pl.err t f l := by unfold Rf.begE; rw [if_pos he]
    (repeat with_reducible first | refine jy ?_ | refine jw KL21 [8] TF21 fun _ => ?_)
    refine Run_ret ?_
    simp only [Rets, RetM, resV, fnd, oneOr, ↓reduceIte, KS, Nat.reduceAdd, Nat.reduceMul, Nat.reduceEqDiff, ↓reduceIte, UT]
    exact ⟨_, rfl, _, rfl, .slice none 0 0, by rw [hb], y6, fun h => (he (hb.symm.trans h)).elim⟩
  have he : Pl.err t f l = 0 := by simpa using h
  clear h
  have hb : Rf.begE t f l = Pl.optsE t f l := by unfold Rf.begE; rw [if_neg (by simp [he])]
  have hl64 := (Pl.err_ok he).n
  have hoptl : (Pl.optsOf t f l).length = l.length := by simp [Pl.optsOf]
  (repeat with_reducible first | refine jy ?_ | refine jw KL21 [8] TF21 fun _ => ?_)
  refine Run_loopV [6, 7, 9, 10, 11, 12, 23, 37] (σ := Nat × Value) (fun q => [(10, some (.int .i64 q.1)), (9, some q.2), (6, some (.slice none 0 0)), (7, some (.int .i64 0))]) (fun q w' => q.1 ≤ l.length ∧ OpB w5 w' q.2 (Pl.optsOf t f l) q.1 ∧ Pl.optsE t f (l.drop q.1) = Pl.optsE t f l) (fun q => l.length - q.1) (0, .slice none 0 0) (by simp [SubB, fnd]) ⟨by simp, ⟨x6, [], BufO.nil, rfl, by simp⟩, rfl⟩ ?_
  rintro ⟨q, vb⟩ w7 ⟨hq, O7, hf⟩
  simp only at hq O7 hf
  (repeat with_reducible first | refine jy ?_ | refine jw KL21 [8] (aa TF21 (aa hos hol)) fun _ => ?_)
  refine Run_condS (fun _ => rfl) (fun h => ?_) (fun h => ?_)
  · simp at h
    have hql : q < l.length := by omega
    have hqc : (q : Int) < l.length := by omega
    clear h
    have x7 := O7.e
    have y7 := x5.trans x7
    obtain ⟨g, oA, oB, hO⟩ := (ho.ext y7).ord hql
    rw [Pl.optsE_drop hql] at hf
    have hget : ∀ h, (Pl.optsOf t f l)[q]'h = (Pl.options t f l[q]).1 := fun h => by simp [Pl.optsOf]
    generalize l[q] = o at *
    let S : Nat → Prop := fun _ => True
    (repeat with_reducible refine js ?_)
    refine Run_eh S [6] [(0, [6]), (1, [6]), (5, [6])] (id := 8) KL21 (.first 0 (.first 1 (.first 2 (.first 3 (.first 4 (.first 5 (.alt true 6 (.free (.first 7 (.first 8 (.first 9 (.first 10 (.first 11 .done)))))) .stop))))))) mixed (by kernel_rfl) (by kernel_rfl) fun w8 x8 _ => ?_
    have z8 := x7.trans x8
    have t8 := T w8 z8
    have f8 := F w8 z8
    have o8 := (oB.ext x8).n
    simp only [OrderD.cs, AtN, KS, Nat.reduceAdd, Nat.reduceMul, Nat.reduceEqDiff, ↓reduceIte, UT] at o8
    (try simp (maxSteps := 5000000) only [KS, Nat.reduceAdd, Nat.reduceMul, Nat.reduceEqDiff, ↓reduceIte, forall_const, Int.cast_ofNat_Int, Int.reduceToNat, List.take_succ_cons, List.take_zero, List.drop_succ_cons, List.drop_zero, TF21, KL21, eh, gres, qopS, putL, ung, t8, f8, o8, hos, hol]); (try simp (disch := omega) only [wrapI, tmodI, tdivI])
    refine ⟨trivial, trivial, ⟨by omega, by omega⟩, trivial, Keep.refl _ _, ?_⟩
    have y8 := y7.trans x8
    refine CallW_gen call32 (rfOptionsO vl t f u0 u1 u2 o g w8 (hl.ext y8) (hT.ext y8) (hO.ext x8)) fun e w9 ⟨v9, he9, x9, b9⟩ => ⟨_, he9, ⟨rfl, by simp [tpOf]⟩, ⟨rfl, by simp [tpOf]⟩, ?_⟩
    (try simp (maxSteps := 5000000) only [KS, Nat.reduceAdd, Nat.reduceMul, Nat.reduceEqDiff, ↓reduceIte, forall_const, Int.cast_ofNat_Int, Int.reduceToNat, List.take_succ_cons, List.take_zero, List.drop_succ_cons, List.drop_zero, TF21, KL21, eh, gres, qopS, putL, ung]); (try simp (disch := omega) only [wrapI, tmodI, tdivI])
    have z9 := z8.trans x9
    (repeat with_reducible first | refine jy ?_ | refine jw KL21 [8] TF21 fun _ => ?_)
    refine Run_condS (fun _ => rfl) (fun h => ?_) (fun h => ?_)
    · have he2 : (Pl.options t f o).2 ≠ 0 := by simpa using h
      rw [if_pos he2] at hf
      (repeat with_reducible first | refine jy ?_ | refine jw KL21 [8] TF21 fun _ => ?_)
      refine Run_ret ?_
      simp only [Rets, RetM, resV, fnd, oneOr, ↓reduceIte, KS, Nat.reduceAdd, Nat.reduceMul, Nat.reduceEqDiff, ↓reduceIte, UT]
      exact ⟨_, rfl, _, rfl, .slice none 0 0, by rw [hb, ← hf], x5.trans z9, fun h => (he2 (hf.trans (hb.symm.trans h))).elim⟩
    have he2 : (Pl.options t f o).2 = 0 := by simpa using h
    rw [if_neg (by simp [he2])] at hf
    obtain ⟨rs, c1, c2, c3, xx, hB⟩ := O7.at_ (x8.trans x9)
    rw [he2]
    (repeat with_reducible first | refine jy ?_ | refine jw KL21 [8] TF21 fun _ => ?_)
    refine SemW_append1Q (α := RawS) Tryz.underlying54 ti59 rfl (by decide) c1 hB (x := ⟨v9⟩) (by rw [isS_c b9.isS.1]; exact ⟨rfl, b9.isS.1⟩) (by rw [c2]; simp only [maxLen]; omega) fun _ v10 w10 b10 k10 g10 => ?_
    (repeat with_reducible first | refine jy ?_ | refine jw KL21 [8] TF21 fun _ => ?_)
    exact Run_lp ⟨(q + 1, v10), by simp [SubB, fnd, strike, has], ⟨by show q + 1 ≤ l.length; omega, OpB.put xx c1 c2 c3 (b9.mono (Nat.zero_le _)) hget b10 k10, hf⟩, by show l.length - (q + 1) < l.length - q; omega⟩
  simp at h
  obtain rfl : q = l.length := by omega
  clear h
  rw [List.drop_length] at hf
  have hE0 : Rf.begE t f l = 0 := hb.trans hf.symm
  (repeat with_reducible first | refine jy ?_ | refine jw KL21 [8] TF21 fun _ => ?_)
  refine Run_ret ?_
  simp only [Rets, RetM, resV, fnd, oneOr, ↓reduceIte, KS, Nat.reduceAdd, Nat.reduceMul, Nat.reduceEqDiff, ↓reduceIte, UT]
  exact ⟨_, rfl, _, rfl, vb, by rw [hE0], x5.trans O7.e, fun _ => O7.sl hoptl (by omega) fun o ho' => by
    unfold Pl.optsOf at ho'
    obtain ⟨x, _, rfl⟩ := List.mem_map.1 ho'
    have := opts_le (t := t) (f := f) (o := x)
    omega⟩
theorem sum_app : ∀ (a : List Int) (x : Int), Pl.sum (a ++ [x]) = Pl.sum a + x
  | [], x => by simp [Pl.sum]
  | y :: a, x => by
    rw [List.cons_append, Pl.sum, Pl.sum, sum_app a x]; omega
theorem sum_snoc {a : List Int} {i : Nat} (h : i < a.length) : Pl.sum (a.take (i + 1)) = Pl.sum (a.take i) + a[i] := by
  rw [List.take_succ_eq_append_getElem h, sum_app]
theorem sum_bd {a : List Int} (hb : ∀ c ∈ a, 0 ≤ c ∧ c ≤ 65) : ∀ {i : Nat}, i ≤ a.length → 0 ≤ Pl.sum (a.take i) ∧ Pl.sum (a.take i) ≤ 65 * i
  | 0, _ => by simp [Pl.sum]
  | i + 1, h => by
    have h1 := sum_bd hb (i := i) (by omega)
    have h2 := hb _ (List.getElem_mem (show i < a.length by omega))
    rw [sum_snoc (show i < a.length by omega)]
    omega
theorem rgFull (vl vo vof : Value) (t : TimeD) (l : List OrderD) (of : List RunD) (r : RunD) (w : World) (hl : Sl w vl t.Lines) (ho : Sl w vo l) (hof : Sl w vof of) (hn : of.length ≤ l.length) (h64 : l.length ≤ 64) (hcr : ∀ o ∈ l, 1 ≤ o.Crowd ∧ o.Crowd ≤ 64) (hI : RunI r) (hr : 0 ≤ r.Line ∧ r.Line < t.Lines.length) :
    Calls Tryz.prog 45 #[.agg (t.cs vl).toArray, vo, vof, .agg r.cs.toArray] w fun e w' => e = .returned (.bool (decide (Pl.room t r < max (Pl.load l of r).n (Pl.load l of r).c))) ∧ Ext w w' := by
  have hls := hl.s
  have hll := hl.len
  refine Calls_of_Run (args := [.agg (t.cs vl).toArray, vo, vof, .agg r.cs.toArray]) (n := 29) (rs := [.tmp 8]) Tryz.func45 rfl rfl rfl (by simp) ?_
  (repeat with_reducible first | refine jy ?_ | refine jw KL45 [] TF45 fun _ => ?_)
  refine SemW_box fun pt w1 h1 => SemW_box fun pr w2 h2 => ?_
  have x2 := h1.ext.trans h2.ext
  have T : ∀ w', Ext w2 w' → AtN w' pt 0 (t.cs vl) := fun w' x => (h1.at_.ext (h2.ext.trans x)).n
  have R : ∀ w', Ext w2 w' → AtN w' pr 0 r.cs := fun w' x => (h2.at_.ext x).n
  simp only [TimeD.cs, RunD.cs, AtN, KS, Nat.reduceAdd, Nat.reduceMul, Nat.reduceEqDiff, ↓reduceIte, UT] at T R
  have r2 := R w2 (Ext.refl _)
  (repeat with_reducible first | refine jy ?_ | refine jw KL45 [] (aa TF45 r2) fun _ => ?_)
  refine CallW_pure call49 (rfLoad vo vof l of r w2 (ho.ext x2) (hof.ext x2) hn hcr (by omega) hI) fun w3 x3 => ?_
  have t3 := T w3 x3
  have r3 := R w3 x3
  have hln : r.Line.toNat < t.Lines.length := by omega
  obtain ⟨l0, l1', l2, l3, lA, lB, lR⟩ := (hl.ext (x2.trans x3)).line hln
  have hroom : Pl.room t r = t.Lines[r.Line.toNat].Room := by
    unfold Pl.room Pl.lineR
    rw [List.getD_eq_getElem?_getD, List.getElem?_eq_getElem hln]; rfl
  simp only [LineD.cs, AtN, KS, Nat.reduceAdd, Nat.reduceMul, Nat.reduceEqDiff, ↓reduceIte, UT] at lA
  rw [← hroom] at lA
  generalize Pl.load l of r = z at *
  (repeat with_reducible first | refine jy ?_ | refine jw KL45 [] (aa TF45 (aa t3 (aa r3 (aa hls (aa hll (aa lA KX)))))) fun _ => ?_)
  refine Run_ret ?_
  simp only [Rets, RetM, resV, fnd, oneOr, ↓reduceIte, KS, Nat.reduceAdd, Nat.reduceMul, Nat.reduceEqDiff, ↓reduceIte, UT]
  exact ⟨_, rfl, rfl, x2.trans x3⟩
theorem rgNeeded (vo vof : Value) (t : TimeD) (l : List OrderD) (of : List RunD) (w : World) (ho : Sl w vo l) (hof : Sl w vof of) (hn : of.length ≤ l.length) (h64 : l.length ≤ 64) (hcr : ∀ o ∈ l, 1 ≤ o.Crowd ∧ o.Crowd ≤ 64) (hrun : ∀ r ∈ of, Tt.isRun t r = true) :
    Calls Tryz.prog 48 #[vo, vof] w fun e w' => e = .returned (.int .i64 (Pl.tot l of)) ∧ Ext w w' := by
  refine Calls_of_Run (args := [vo, vof]) (n := 26) (rs := [.tmp 4]) Tryz.func48 rfl rfl rfl (by simp) ?_
  (repeat with_reducible first | refine jy ?_ | refine jw KL48 [] TF48 fun _ => ?_)
  refine CallW_gen call44 (rfPlan vo vof l of w ho hof hn h64 hcr) fun e w1 ⟨v0, v1, v2, he, x1, hP⟩ => ⟨_, he, ?_⟩
  have hD := Pl.dd_spec (Pl.isRun_dis hrun)
  have hsum : Pl.sum (Pl.planOf l of).Covers = Pl.tot l of := Pl.sum_tot (Pl.srt_nodup hD.1) of hn fun r hr => (hD.2 r).2 hr
  have hcb : ∀ c ∈ (Pl.planOf l of).Covers, 0 ≤ c ∧ c ≤ 65 := fun c hc => by
    obtain ⟨r, hr, rfl⟩ := List.mem_map.1 hc
    have hb := Pl.load_bd hcr of r
    have hcd : (Pl.load l of r).covers = max 0 ((Pl.load l of r).c - (Pl.load l of r).n) := rfl
    omega
  have hlen : (Pl.planOf l of).Covers.length ≤ 64 := by
    have := Pl.dd_lenle of
    simp only [Pl.planOf, List.length_map]
    omega
  generalize Pl.planOf l of = p at *
  (repeat with_reducible first | refine jy ?_ | refine jw KL48 [] TF48 fun _ => ?_)
  refine planVar hP fun pp w2 x2 PV => ?_
  obtain ⟨u0, u1, u2, rp, hp⟩ := PV
  have P : ∀ w', Ext w2 w' → AtN w' pp 0 (p.cs u0 u1 u2) := fun w' x => (rp.ext x).n
  simp only [PlanD.cs, AtN, KS, Nat.reduceAdd, Nat.reduceMul, Nat.reduceEqDiff, ↓reduceIte, UT] at P
  have cs2 := hp.c.s
  have cl2 := hp.c.len
  (repeat with_reducible first | refine jy ?_ | refine jw KL48 [] TF48 fun _ => ?_)
  refine Run_loopV [6, 7, 15] (σ := Nat) (fun i => [(7, some (.int .i64 i)), (6, some (.int .i64 (Pl.sum (p.Covers.take i))))]) (fun i w' => i ≤ p.Covers.length ∧ Ext w2 w') (fun i => p.Covers.length - i) 0 (by simp [SubB, fnd, Pl.sum]) ⟨by omega, Ext.refl _⟩ ?_
  rintro i w3 ⟨hi, x3⟩
  have p3 := P w3 x3
  (repeat with_reducible first | refine jy ?_ | refine jw KL48 [] (aa TF48 (aa p3 (aa cs2 cl2))) fun _ => ?_)
  refine Run_condS (fun _ => rfl) (fun h => ?_) (fun h => ?_)
  · simp at h
    have hil : i < p.Covers.length := by omega
    have hilc : (i : Int) < p.Covers.length := by omega
    clear h
    obtain ⟨d1, d2, d3⟩ := (hp.c.ext x3).get hil
    have hc := hcb _ (List.getElem_mem hil)
    have hpre : 0 ≤ Pl.sum (p.Covers.take i) ∧ Pl.sum (p.Covers.take i) ≤ 65 * i := sum_bd hcb (by omega)
    have htk : Pl.sum (p.Covers.take (i + 1)) = Pl.sum (p.Covers.take i) + p.Covers[i] := sum_snoc hil
    generalize p.Covers[i] = c at *
    (repeat with_reducible first | refine jy ?_ | refine jw KL48 [] (aa TF48 (aa p3 (aa cs2 (aa cl2 (aa d1 d2))))) fun _ => ?_)
    exact Run_lp ⟨i + 1, by rw [htk]; simp [SubB, fnd, strike, has], ⟨by omega, x3⟩, by omega⟩
  simp at h
  obtain rfl : i = p.Covers.length := by omega
  rw [List.take_length, hsum]
  (repeat with_reducible first | refine jy ?_ | refine jw KL48 [] TF48 fun _ => ?_)
  refine Run_ret ?_
  simp only [Rets, RetM, resV, fnd, oneOr, ↓reduceIte, KS, Nat.reduceAdd, Nat.reduceMul, Nat.reduceEqDiff, ↓reduceIte, UT]
  exact ⟨_, rfl, rfl, x1.trans (x2.trans x3)⟩
end Go.Proofs.YtldjfebokojmfaaGreat
