import Derived.Test.YthengmdnikaooaaGreatQfW22x
namespace Go.Fk
open Go
structure RawS where
  v : Value
instance : Enc RawS where
  n := 1
  rep _ cs x := cs = [x.v] ∧ IsS x.v
  len _ _ _ h := by rw [h.1]; rfl
  ext _ _ _ _ _ h := h
instance : Flat RawS := ⟨fun _ _ _ _ h => h, fun _ _ _ h => by rw [h.1]; simpa using isS_o h.2⟩
theorem Sl.lists {α : Type} [Enc α] {w : World} {v : Value} {rs : List RawS} {xs : List (List α)} (h : Sl w v rs) (hl : rs.length = xs.length) (hr : ∀ i (h1 : i < rs.length) (h2 : i < xs.length), Sl w rs[i].v xs[i]) : Sl w v xs :=
  ⟨h.s, by rw [← hl]; exact h.len, by rw [← hl]; exact h.cap, by rw [← hl]; exact h.big, h.capM, fun i hi => by
    obtain ⟨cs, ⟨rfl, _⟩, ha⟩ := h.at_ i (by omega)
    exact ⟨_, ⟨_, rfl, hr i (by omega) hi⟩, ha⟩⟩
end Go.Fk
namespace Go.Proofs.YthengmdnikaooaaGreat
open Go Go.Fk
set_option linter.unusedSimpArgs false
set_option linter.unusedVariables false
set_option maxRecDepth 100000
structure OpB (W0 w : World) (vb : Value) (opts : List (List RunD)) (q : Nat) : Prop where
  e : Ext W0 w
  b : ∃ rs : List RawS, BufO (α := RawS) 39 W0.heap.size w vb rs ∧ rs.length = q ∧ ∀ k (h1 : k < rs.length) (h2 : k < opts.length), BufO (α := RunD) 32 0 w rs[k].v opts[k]
set_option maxHeartbeats 4000000 in
theorem rfMake (vl u0 u1 u2 vo : Value) (t : TimeD) (f : TariffD) (l : List OrderD) (covers : Int) (w : World) (hl : Sl w vl t.Lines) (hT : TarR w f u0 u1 u2) (ho : Sl w vo l) :
    Calls Tryz.prog 19 #[.agg (t.cs vl).toArray, .agg (f.cs u0 u1 u2).toArray, vo, .int .i64 covers] w fun e w' => ∃ v0 v1 v2, e = .returned (.tuple #[.agg ((Pl.make t f l covers).1.cs v0 v1 v2).toArray, .bool (Pl.make t f l covers).2.1, .int .i64 (Pl.make t f l covers).2.2]) ∧ Ext w w' ∧ PlanR w' (Pl.make t f l covers).1 v0 v1 v2 := by
  have hos := ho.s
  have hol := ho.len
  refine Calls_of_Run (args := [.agg (t.cs vl).toArray, .agg (f.cs u0 u1 u2).toArray, vo, .int .i64 covers]) (n := 65) (rs := [.cell 8 45, .tmp 9, .tmp 10]) Tryz.func19 rfl rfl rfl (by simp) ?_
  (repeat with_reducible first | refine js ?_ | refine ja ?_ | refine jw KL19 [8] TF19 fun _ => ?_)
  refine SemW_box fun pt w1 h1 => SemW_box fun pf w2 h2 => SemW_allocT ti45 fun pp w5 h5 => ?_
  have b5 := h5.blk
  have z1 := h1.size
  have z2 := h2.size
  have z5 := h5.size
  have x5 := h1.ext.trans (h2.ext.trans h5.ext)
  have T : ∀ w', Ext w5 w' → AtN w' pt 0 (t.cs vl) := fun w' x => (h1.at_.ext (h2.ext.trans (h5.ext.trans x))).n
  have F : ∀ w', Ext w5 w' → AtN w' pf 0 (f.cs u0 u1 u2) := fun w' x => (h2.at_.ext (h5.ext.trans x)).n
  have r5 : Row w5 pp 45 [.slice none 0 0, .slice none 0 0, .slice none 0 0] := h5.row
  simp only [TimeD.cs, TariffD.cs, AtN, KS, Nat.reduceAdd, Nat.reduceMul, Nat.reduceEqDiff, ↓reduceIte, UT] at T F
  have t5 := T w5 (Ext.refl _)
  have f5 := F w5 (Ext.refl _)
  (repeat with_reducible first | refine js ?_ | refine ja ?_ | refine jw KL19 [8] (aa TF19 (aa t5 f5)) fun _ => ?_)
  refine rferrW (hl.ext x5) (hT.ext x5) (ho.ext x5) fun w6 x6 => ?_
  have y6 := x5.trans x6
  (repeat with_reducible first | refine js ?_ | refine ja ?_ | refine jw KL19 [8] TF19 fun _ => ?_)
  refine Run_condS (fun _ => rfl) (fun h => ?_) (fun h => ?_)
  · have he : Pl.err t f l ≠ 0 := by simpa using h
    have hm : Pl.make t f l covers = (Pl.noPlan, false, Pl.err t f l) := by unfold Pl.make; rw [if_pos he]
    (repeat with_reducible first | refine js ?_ | refine ja ?_ | refine jw KL19 [8] TF19 fun _ => ?_)
    refine ⟨.agg #[.slice none 0 0, .slice none 0 0, .slice none 0 0], fun _ => by kernel_rfl, ?_⟩
    refine SemW_setW (by rw [cells45]; decide) (by rw [cells45]; rfl) (r5.ext x6) (by rw [cells45]; rfl) rfl fun wz rz kz zz => ?_
    have ez := loadVar_at (P := Tryz.prog) (t := 45) (by kernel_rfl) (by rw [cells45]; decide) (by rw [cells45]; rfl) rz.at_
    (repeat with_reducible first | refine js ?_ | refine ja ?_ | refine jw KL19 [8] TF19 fun _ => ?_)
    refine Run_ret ?_
    simp only [Rets, RetM, resV, fnd, oneOr, ↓reduceIte, KS, Nat.reduceAdd, Nat.reduceMul, Nat.reduceEqDiff, ↓reduceIte, UT]
    rw [hm]
    refine ⟨pp, _, rfl, ez, ?_⟩
    simp [resV, oneOr, fnd, Pl.noPlan, PlanD.cs]
    exact ⟨.slice none 0 0, .slice none 0 0, .slice none 0 0, rfl, Keep.ext (x5.trans x6) kz fun k hk => by omega, Sl.nil _, Sl.nil _, Sl.nil _⟩
  have he : Pl.err t f l = 0 := by simpa using h
  clear h
  have ok := Pl.err_ok he
  have hl64 := ok.n
  have hoptl : (Pl.optsOf t f l).length = l.length := by simp [Pl.optsOf]
  have hcr : ∀ o ∈ l, 1 ≤ o.Crowd ∧ o.Crowd ≤ 64 := fun o ho' => (ok_num ok ho').2.2.2
  (repeat with_reducible first | refine js ?_ | refine ja ?_ | refine jw KL19 [8] TF19 fun _ => ?_)
  refine Run_loopV [9, 10, 12, 13, 14, 15, 29, 43] (σ := Nat × Value) (fun q => [(13, some (.int .i64 q.1)), (12, some q.2), (9, some (.bool false)), (10, some (.int .i64 0))]) (fun q w' => q.1 ≤ l.length ∧ OpB w5 w' q.2 (Pl.optsOf t f l) q.1 ∧ Pl.optsE t f (l.drop q.1) = Pl.optsE t f l) (fun q => l.length - q.1) (0, .slice none 0 0) (by simp [SubB, fnd]) ⟨by simp, ⟨x6, [], BufO.nil, rfl, by simp⟩, rfl⟩ ?_
  rintro ⟨q, vb⟩ w7 ⟨hq, O7, hf⟩
  simp only at hq O7 hf
  (repeat with_reducible first | refine js ?_ | refine ja ?_ | refine jw KL19 [8] (aa TF19 (aa hos hol)) fun _ => ?_)
  refine Run_condS (fun _ => rfl) (fun h => ?_) (fun h => ?_)
  · simp at h
    have hql : q < l.length := by omega
    have hqc : (q : Int) < l.length := by omega
    clear h
    have x7 := O7.e
    have y7 := x5.trans x7
    obtain ⟨g, oA, oB, hO⟩ := (ho.ext y7).ord hql
    rw [Pl.optsE_drop hql] at hf
    have hget : ∀ h, (Pl.optsOf t f l)[q]'h = (Pl.options t f l[q]).1 := fun h => by simp [Pl.optsOf]
    generalize l[q] = o at *
    let S : Nat → Prop := fun _ => True
    (repeat with_reducible first | refine jq ?_ | refine jk ?_ | refine jc ?_ | refine jl ?_ | refine jb ?_ | refine jo ?_ | refine ji ?_ | refine jx rfl ?_)
    refine Run_eh S [6] [(0, [6]), (1, [6]), (5, [6])] (id := 8) KL19 (.first 0 (.first 1 (.first 2 (.first 3 (.first 4 (.first 5 (.alt true 6 (.free (.first 7 (.first 8 (.first 9 (.first 10 (.first 11 .done)))))) .stop))))))) mixed (by kernel_rfl) (by kernel_rfl) fun w8 x8 _ => ?_
    have z8 := x7.trans x8
    have t8 := T w8 z8
    have f8 := F w8 z8
    have o8 := (oB.ext x8).n
    simp only [OrderD.cs, AtN, KS, Nat.reduceAdd, Nat.reduceMul, Nat.reduceEqDiff, ↓reduceIte, UT] at o8
    (try simp (maxSteps := 5000000) only [KS, Nat.reduceAdd, Nat.reduceMul, Nat.reduceEqDiff, ↓reduceIte, forall_const, Int.cast_ofNat_Int, Int.reduceToNat, List.take_succ_cons, List.take_zero, List.drop_succ_cons, List.drop_zero, TF19, KL19, eh, gres, qopS, putL, ung, t8, f8, o8, hos, hol]); (try simp (disch := omega) only [wrapI, tmodI, tdivI])
    refine ⟨trivial, trivial, ⟨by omega, by omega⟩, trivial, Keep.refl _ _, ?_⟩
    have y8 := y7.trans x8
    refine CallW_gen call16 (rfOptionsO vl t f u0 u1 u2 o g w8 (hl.ext y8) (hT.ext y8) (hO.ext x8)) fun e w9 ⟨v9, he9, x9, b9⟩ => ⟨_, he9, ⟨rfl, by simp [tpOf]⟩, ⟨rfl, by simp [tpOf]⟩, ?_⟩
    (try simp (maxSteps := 5000000) only [KS, Nat.reduceAdd, Nat.reduceMul, Nat.reduceEqDiff, ↓reduceIte, forall_const, Int.cast_ofNat_Int, Int.reduceToNat, List.take_succ_cons, List.take_zero, List.drop_succ_cons, List.drop_zero, TF19, KL19, eh, gres, qopS, putL, ung]); (try simp (disch := omega) only [wrapI, tmodI, tdivI])
    have z9 := z8.trans x9
    (repeat with_reducible first | refine js ?_ | refine ja ?_ | refine jw KL19 [8] TF19 fun _ => ?_)
    refine Run_condS (fun _ => rfl) (fun h => ?_) (fun h => ?_)
    · have he2 : (Pl.options t f o).2 ≠ 0 := by simpa using h
      rw [if_pos he2] at hf
      have hm : Pl.make t f l covers = (Pl.noPlan, false, (Pl.options t f o).2) := by unfold Pl.make; rw [if_neg (by simp [he]), if_pos (by rw [← hf]; exact he2), ← hf]
      (repeat with_reducible first | refine js ?_ | refine ja ?_ | refine jw KL19 [8] TF19 fun _ => ?_)
      refine ⟨.agg #[.slice none 0 0, .slice none 0 0, .slice none 0 0], fun _ => by kernel_rfl, ?_⟩
      refine SemW_setW (by rw [cells45]; decide) (by rw [cells45]; rfl) (r5.ext z9) (by rw [cells45]; rfl) rfl fun wz rz kz zz => ?_
      have ez := loadVar_at (P := Tryz.prog) (t := 45) (by kernel_rfl) (by rw [cells45]; decide) (by rw [cells45]; rfl) rz.at_
      (repeat with_reducible first | refine js ?_ | refine ja ?_ | refine jw KL19 [8] TF19 fun _ => ?_)
      refine Run_ret ?_
      simp only [Rets, RetM, resV, fnd, oneOr, ↓reduceIte, KS, Nat.reduceAdd, Nat.reduceMul, Nat.reduceEqDiff, ↓reduceIte, UT]
      rw [hm]
      refine ⟨pp, _, rfl, ez, ?_⟩
      simp [resV, oneOr, fnd, Pl.noPlan, PlanD.cs]
      exact ⟨.slice none 0 0, .slice none 0 0, .slice none 0 0, rfl, Keep.ext (x5.trans z9) kz fun k hk => by omega, Sl.nil _, Sl.nil _, Sl.nil _⟩
    have he2 : (Pl.options t f o).2 = 0 := by simpa using h
    rw [if_neg (by simp [he2])] at hf
    obtain ⟨rs, c1, c2, c3⟩ := O7.b
    have k79 := Keep.of_ext (S := fun _ => True) (x8.trans x9)
    have hB9 : w5.heap.size ≤ w9.heap.size := z9.size
    rw [he2]
    (repeat with_reducible first | refine js ?_ | refine ja ?_ | refine jw KL19 [8] TF19 fun _ => ?_)
    have C9 := c1.keepQ k79 fun _ _ => trivial
    refine SemW_append1Q (α := RawS) Tryz.underlying78 ti39 rfl (by decide) C9 hB9 (x := ⟨v9⟩) (by rw [isS_c b9.isS.1]; exact ⟨rfl, b9.isS.1⟩) (by rw [c2]; simp only [maxLen]; omega) fun _ v10 w10 b10 k10 g10 => ?_
    (repeat with_reducible first | refine js ?_ | refine ja ?_ | refine jw KL19 [8] TF19 fun _ => ?_)
    refine Run_lp ⟨(q + 1, v10), by simp [SubB, fnd, strike, has], ⟨by show q + 1 ≤ l.length; omega, ⟨Keep.ext z9 k10 fun k hk e => by have := (C9.own_lt e.symm).1; omega, rs ++ [⟨v9⟩], b10, by simp [c2], fun k h1 h2 => ?_⟩, hf⟩, by show l.length - (q + 1) < l.length - q; omega⟩
    by_cases hk : k < rs.length
    · rw [List.getElem_append_left hk]
      have d := (c3 k hk h2).keepQ k79 fun _ _ => trivial
      exact d.keepQ k10 fun g hg => d.ne2 C9 (by decide) hg
    · have e : k = q := by simp at h1; omega
      subst e
      rw [hget, List.getElem_append_right (by omega)]
      simp only [c2, Nat.sub_self, List.getElem_cons_zero]
      exact (b9.mono (Nat.zero_le _)).keepQ k10 fun g hg => b9.ne2 C9 (by decide) hg
  simp at h
  obtain rfl : q = l.length := by omega
  clear h
  rw [List.drop_length] at hf
  have hoE : Pl.optsE t f l = 0 := hf.symm
  have x7 := O7.e
  have y7 := x5.trans x7
  have t7 := T w7 x7
  have f7 := F w7 x7
  have sO : Sl w7 vb (Pl.optsOf t f l) := by
    obtain ⟨rs, b1, b2, b3⟩ := O7.b
    exact (b1.sl (by omega)).lists (by omega) fun i h1 h2 => (b3 i h1 h2).sl (by
      have : (Pl.optsOf t f l)[i] = (Pl.options t f (l[i]'(by omega))).1 := by simp [Pl.optsOf]
      rw [this]; have := opts_le (t := t) (f := f) (o := l[i]'(by omega)); omega)
  have hopt : ∀ o ∈ Pl.optsOf t f l, ∀ r ∈ o, 0 ≤ r.Line ∧ r.Line < t.Lines.length := fun o ho' r hr => by
    unfold Pl.optsOf at ho'
    obtain ⟨x, hx, rfl⟩ := List.mem_map.1 ho'
    obtain ⟨g1, g2, g3⟩ := isRunL (((Pl.opt_ok (Pl.optsE_iff.1 hoE x hx)).2.1 r).1 hr).1
    exact ⟨g1, g2⟩
  have hch := Pl.choose_eq (covers := covers) he hoE
  (repeat with_reducible first | refine js ?_ | refine ja ?_ | refine jw KL19 [8] (aa TF19 (aa t7 f7)) fun _ => ?_)
  refine CallW_gen call49 (rfChoose (covers := covers) hoptl hl64 hcr hopt (Pl.optsOf t f l) [] (.slice none 0 0) w7 rfl (by simpa using hoptl) (hl.ext y7) (hT.ext y7) (ho.ext y7) sO (Sl.nil _)) fun e w8 ⟨v8, he8, x8, m8⟩ => ⟨_, he8, ?_⟩
  rw [hch] at m8 ⊢
  have z8 := x7.trans x8
  have y8 := x5.trans z8
  cases hres : Pl.mkOf t f l covers with
  | none =>
    have hm : Pl.make t f l covers = (Pl.noPlan, false, 0) := by unfold Pl.make; rw [if_neg (by simp [he]), if_neg (by simp [hoE]), hres]
    (repeat with_reducible first | refine js ?_ | refine ja ?_ | refine jw KL19 [8] (aa TF19 KX) fun _ => ?_)
    refine Run_condS (fun _ => rfl) (fun _ => ?_) (fun h => by cases h)
    (repeat with_reducible first | refine js ?_ | refine ja ?_ | refine jw KL19 [8] TF19 fun _ => ?_)
    refine ⟨.agg #[.slice none 0 0, .slice none 0 0, .slice none 0 0], fun _ => by kernel_rfl, ?_⟩
    refine SemW_setW (by rw [cells45]; decide) (by rw [cells45]; rfl) (r5.ext z8) (by rw [cells45]; rfl) rfl fun wz rz kz zz => ?_
    have ez := loadVar_at (P := Tryz.prog) (t := 45) (by kernel_rfl) (by rw [cells45]; decide) (by rw [cells45]; rfl) rz.at_
    (repeat with_reducible first | refine js ?_ | refine ja ?_ | refine jw KL19 [8] TF19 fun _ => ?_)
    refine Run_ret ?_
    simp only [Rets, RetM, resV, fnd, oneOr, ↓reduceIte, KS, Nat.reduceAdd, Nat.reduceMul, Nat.reduceEqDiff, ↓reduceIte, UT]
    rw [hm]
    refine ⟨pp, _, rfl, ez, ?_⟩
    simp [resV, oneOr, fnd, Pl.noPlan, PlanD.cs]
    exact ⟨.slice none 0 0, .slice none 0 0, .slice none 0 0, rfl, Keep.ext (x5.trans z8) kz fun k hk => by omega, Sl.nil _, Sl.nil _, Sl.nil _⟩
  | some of =>
    have hm : Pl.make t f l covers = (Pl.planOf l of, true, 0) := by unfold Pl.make; rw [if_neg (by simp [he]), if_neg (by simp [hoE]), hres]
    have hmk := Pl.mk_ok hoE hres
    have s8 := m8 of hres
    (repeat with_reducible first | refine js ?_ | refine ja ?_ | refine jw KL19 [8] (aa TF19 KX) fun _ => ?_)
    refine Run_condS (fun _ => rfl) (fun h => by cases h) (fun _ => ?_)
    (repeat with_reducible first | refine js ?_ | refine ja ?_ | refine jw KL19 [8] TF19 fun _ => ?_)
    refine CallW_gen call50 (rfPlan vo v8 l of w8 (ho.ext y8) s8 (by rw [hmk.n]; exact Nat.le_refl _) hl64 hcr) fun e w20 ⟨v0, v1, v2, he20, x20, P20⟩ => ⟨_, he20, ?_⟩
    have y20 := z8.trans x20
    have r20 := r5.ext y20
    refine SemW_setW (by rw [cells45]; decide) (by rw [cells45]; rfl) r20 (by rw [cells45]; rfl) (by simp [Value.cells, PlanD.cs, isS_o P20.r.s, isS_o P20.o.s, isS_o P20.c.s]) fun wz rz kz zz => ?_
    have ez := loadVar_at (P := Tryz.prog) (t := 45) (by kernel_rfl) (by rw [cells45]; decide) (by rw [cells45]; rfl) rz.at_
    have kR : ∀ (v : Value) (xs : List RunD), Sl w20 v xs → Sl wz v xs := fun v xs hv => hv.keepD r20 (fun x _ cs' hc => ⟨.int .i64 x.Line, by rw [hc.1]; rfl, fun hm => by simp at hm⟩) kz
    have kI : ∀ (v : Value) (xs : List Int), Sl w20 v xs → Sl wz v xs := fun v xs hv => hv.keepD r20 (fun x _ cs' hc => ⟨.int .i64 x, by rw [hc.1]; rfl, fun hm => by simp at hm⟩) kz
    (repeat with_reducible first | refine js ?_ | refine ja ?_ | refine jw KL19 [8] TF19 fun _ => ?_)
    refine Run_ret ?_
    simp only [Rets, RetM, resV, fnd, oneOr, ↓reduceIte, KS, Nat.reduceAdd, Nat.reduceMul, Nat.reduceEqDiff, ↓reduceIte, UT]
    rw [hm]
    refine ⟨pp, _, rfl, ez, ?_⟩
    simp [resV, oneOr, fnd, Pl.noPlan, PlanD.cs]
    exact ⟨v0, v1, v2, rfl, Keep.ext (x5.trans y20) kz fun k hk => by omega, kR _ _ P20.r, kI _ _ P20.o, kI _ _ P20.c⟩
end Go.Proofs.YthengmdnikaooaaGreat
