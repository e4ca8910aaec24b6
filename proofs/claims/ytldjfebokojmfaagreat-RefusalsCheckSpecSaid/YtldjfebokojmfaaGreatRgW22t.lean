import Derived.Test.YtldjfebokojmfaaGreatRgW22s
import Derived.Test.YtldjfebokojmfaaGreatRgW22q
namespace Go.Proofs.YtldjfebokojmfaaGreat
open Go Go.Fk
set_option linter.unusedSimpArgs false
set_option linter.unusedVariables false
set_option maxRecDepth 100000
structure OpW (w : World) (pr : Addr) (opts : List (List RunD)) (n i : Nat) : Prop where
  r : ∃ L, Row w pr 59 L ∧ L.length = n ∧ (∀ v ∈ L, IsS v) ∧ ∀ k (hk : k < i) (h1 : k < opts.length) (h2 : k < L.length), Sl w L[k] opts[k]
set_option maxHeartbeats 4000000 in
theorem plMake (vl u0 u1 u2 vo : Value) (t : TimeD) (f : TariffD) (l : List OrderD) (covers : Int) (w : World) (hl : Sl w vl t.Lines) (hT : TarR w f u0 u1 u2) (ho : Sl w vo l) (hcv : I64 covers) :
    Calls Tryz.prog 18 #[.agg (t.cs vl).toArray, .agg (f.cs u0 u1 u2).toArray, vo, .int .i64 covers] w fun e w' => ∃ v0 v1 v2, e = .returned (.tuple #[.agg ((Pl.make t f l covers).1.cs v0 v1 v2).toArray, .bool (Pl.make t f l covers).2.1, .int .i64 (Pl.make t f l covers).2.2]) ∧ Ext w w' ∧ PlanR w' (Pl.make t f l covers).1 v0 v1 v2 := by
  have hos := ho.s
  have hol := ho.len
  refine Calls_of_Run (args := [.agg (t.cs vl).toArray, .agg (f.cs u0 u1 u2).toArray, vo, .int .i64 covers]) (n := 63) (rs := [.cell 8 61, .tmp 9, .tmp 10]) Tryz.func18 rfl rfl rfl (by simp) ?_
  (repeat with_reducible first | refine jy ?_ | refine jw KL18 [] TF18 fun _ => ?_)
  refine SemW_box fun pt w1 h1 => SemW_box fun pf w2 h2 => SemW_box fun pl w3 h3 => SemW_box fun pc w4 h4 => SemW_allocT ti61 fun pp w5 h5 => ?_
  have b5 := h5.blk
  have z1 := h1.size
  have z2 := h2.size
  have z3 := h3.size
  have z4 := h4.size
  have z5 := h5.size
  have x5 := h1.ext.trans (h2.ext.trans (h3.ext.trans (h4.ext.trans h5.ext)))
  have T0 : ∀ w', Ext w5 w' → At w' pt (t.cs vl) := fun w' x => (h1.at_.ext (h2.ext.trans (h3.ext.trans (h4.ext.trans (h5.ext.trans x)))))
  have F0 : ∀ w', Ext w5 w' → At w' pf (f.cs u0 u1 u2) := fun w' x => (h2.at_.ext (h3.ext.trans (h4.ext.trans (h5.ext.trans x))))
  have L0 : ∀ w', Ext w5 w' → At w' pl [vo] := fun w' x => by simpa [isS_c hos] using (h3.at_.ext (h4.ext.trans (h5.ext.trans x)))
  have C0 : ∀ w', Ext w5 w' → At w' pc [.int .i64 covers] := fun w' x => h4.at_.ext (h5.ext.trans x)
  have r5 : Row w5 pp 61 [.slice none 0 0, .slice none 0 0, .slice none 0 0] := h5.row
  have T := fun w' x => (T0 w' x).n
  have F := fun w' x => (F0 w' x).n
  have L := fun w' x => (L0 w' x).n
  have C := fun w' x => (C0 w' x).n
  have P := fun w' x => (Row.ext r5 (w' := w') x).n
  simp only [TimeD.cs, TariffD.cs, AtN, KS, Nat.reduceAdd, Nat.reduceMul, Nat.reduceEqDiff, ↓reduceIte, UT] at T F L C P
  have t5 := T w5 (Ext.refl _)
  have f5 := F w5 (Ext.refl _)
  have l5 := L w5 (Ext.refl _)
  (repeat with_reducible first | refine jy ?_ | refine jw KL18 [] (aa TF18 (aa t5 (aa f5 l5))) fun _ => ?_)
  refine plerrW (hl.ext x5) (hT.ext x5) (ho.ext x5) fun w6 x6 => ?_
  have y6 := x5.trans x6
  (repeat with_reducible first | refine jy ?_ | refine jw KL18 [] TF18 fun _ => ?_)
  have hend : ∀ (e : Int), Pl.make t f l covers = (Pl.noPlan, false, e) → True := fun _ _ => trivial
  refine Run_condS (fun _ => rfl) (fun h => ?_) (fun h => ?_)
  · have he : Pl.err t f l ≠ 0 := by simpa using h
    have p6 := P w6 x6
    have hm : Pl.make t f l covers = (Pl.noPlan, false, Pl.err t f l) := by unfold Pl.make; rw [if_pos he]
    (repeat with_reducible first | refine jy ?_ | refine jw KL18 [] (aa TF18 p6) fun _ => ?_)
    refine SemW_setW (by rw [cells61]; decide) (by rw [cells61]; rfl) (r5.ext x6) (by rw [cells61]; rfl) rfl fun wz rz kz zz => ?_
    have ez := loadVar_at (P := Tryz.prog) (t := 61) (by kernel_rfl) (by rw [cells61]; decide) (by rw [cells61]; rfl) rz.at_
    (repeat with_reducible first | refine jy ?_ | refine jw KL18 [] TF18 fun _ => ?_)
    refine Run_ret ?_
    simp only [Rets, RetM, resV, fnd, oneOr, ↓reduceIte, KS, Nat.reduceAdd, Nat.reduceMul, Nat.reduceEqDiff, ↓reduceIte, UT]
    rw [hm]
    refine ⟨pp, _, rfl, ez, ?_⟩
    simp [resV, oneOr, fnd, Pl.noPlan, PlanD.cs]
    exact ⟨.slice none 0 0, .slice none 0 0, .slice none 0 0, rfl, Keep.ext (y6) kz fun k hk => by omega, Sl.nil _, Sl.nil _, Sl.nil _⟩
  have he : Pl.err t f l = 0 := by simpa using h
  clear h
  have ok := Pl.err_ok he
  have l6 := L w6 x6
  (repeat with_reducible first | refine jy ?_ | refine jw KL18 [] (aa TF18 (aa l6 (aa hos hol))) fun _ => ?_)
  have hl64 := ok.n
  refine SemW_make Tryz.underlying54 ti59 (by show l.length * 1 ≤ _; omega) (by omega) (by simp only [maxLen]; omega) fun pr w7 cs hcs h7 hrep => SemW_allocT ti54 fun po w8 h8 => ?_
  have hrep : cs = List.replicate l.length (.slice none 0 0) := hrep rfl rfl
  subst hrep
  have b8 := h8.blk
  have z7 := h7.size
  have z8 := h8.size
  have pb7 : pr.block = w6.heap.size := by rw [h7.p]
  refine SemW_set0 cells54 h8.row (by show 0 < 1; decide) rfl rfl fun w9 r9 k9 z9 => ?_
  have r9 : Row w9 po 54 [.slice (some pr) l.length l.length] := r9
  have z6 := x6.size
  have x9 : Ext w6 w9 := Keep.ext (h7.ext.trans h8.ext) k9 fun k hk => by omega
  have O9 : OpW w9 pr (Pl.optsOf t f l) l.length 0 := 
    ⟨List.replicate l.length (.slice none 0 0), ((h7.row).ext h8.ext).keep k9 (show pr.block ≠ po.block by omega), by simp, fun v hv => by rw [(List.mem_replicate.1 hv).2]; exact .inl rfl, fun k hk => by omega⟩
  have e9 := x6.trans x9
  have l9 := L w9 e9
  (repeat with_reducible first | refine jy ?_ | refine jw KL18 [] (aa TF18 (aa l9 (aa hos hol))) fun _ => ?_)
  have hoptl : (Pl.optsOf t f l).length = l.length := by simp [Pl.optsOf]
  have hlen : (l.length : Int).toNat = l.length := rfl
  refine Run_loopV [9, 10, 13, 14, 32, 33, 48] (σ := Nat) (fun q => [(32, some (.int .i64 q)), (9, some (.bool false)), (10, some (.int .i64 0))]) (fun q w' => q ≤ l.length ∧ Ext w5 w' ∧ OpW w' pr (Pl.optsOf t f l) l.length q ∧ Row w' po 54 [.slice (some pr) l.length l.length] ∧ Pl.optsE t f (l.drop q) = Pl.optsE t f l) (fun q => l.length - q) 0 (by simp [SubB, fnd]) ⟨by omega, e9, O9, r9, rfl⟩ ?_
  have hpo : po.block ≠ pr.block := by omega
  clear l9 e9 O9 x9 r9 z9 k9 h8 h7 t5 f5 l5 l6
  rintro q w10 ⟨hq, x10, O10, r10, hf⟩
  (repeat with_reducible first | refine jy ?_ | refine jw KL18 [] TF18 fun _ => ?_)
  refine Run_condS (fun _ => rfl) (fun h => ?_) (fun h => ?_)
  · simp at h
    have hql : q < l.length := by omega
    have hqc : (q : Int) < l.length := by omega
    clear h
    have y10 := x5.trans x10
    obtain ⟨g, oA, oB, hO⟩ := (ho.ext y10).ord hql
    have hone := hO.one
    rw [Pl.optsE_drop hql] at hf
    have hget : ∀ h, (Pl.optsOf t f l)[q]'h = (Pl.options t f l[q]).1 := fun h => by simp [Pl.optsOf]
    generalize l[q] = o at *
    simp only [OrderD.cs, AtN, KS, Nat.reduceAdd, Nat.reduceMul, Nat.reduceEqDiff, ↓reduceIte, UT] at oA
    (repeat with_reducible first | refine jy ?_ | refine jw KL18 [] (aa TF18 (aa hos (aa hol oA))) fun _ => ?_)
    refine SemW_allocT ti50 fun pq w11 h11 => ?_
    have b11 := h11.blk
    (repeat with_reducible first | refine jy ?_ | refine jw KL18 [] TF18 fun _ => ?_)
    refine SemW_setW (by rw [cells50]; decide) (by rw [cells50]; rfl) h11.row (by rw [cells50]; rfl) (by exact hone) fun w12 r12 k12 z12 => ?_
    have r12 : Row w12 pq 50 (o.cs g) := r12
    have x12 : Ext w10 w12 := Keep.ext h11.ext k12 fun b hb => by omega
    let S : Nat → Prop := fun _ => True
    (repeat with_reducible refine js ?_)
    refine Run_eh S [10] [(0, [10]), (2, [10]), (3, [10]), (4, [10])] (id := 8) KL18 (.first 0 (.first 1 (.first 2 (.first 3 (.first 4 (.alt true 5 (.first 6 (.first 7 (.first 8 (.first 9 (.alt true 10 (.free (.first 11 .done)) .stop))))) .stop)))))) mixed (by kernel_rfl) (by kernel_rfl) fun w13 x13 _ => ?_
    have e13 := x12.trans x13
    have e513 := x10.trans e13
    have t13 := T w13 e513
    have f13 := F w13 e513
    have o13 := (r12.ext x13).n
    have q13 := (r10.ext e13).n
    simp only [OrderD.cs, AtN, KS, Nat.reduceAdd, Nat.reduceMul, Nat.reduceEqDiff, ↓reduceIte, UT] at o13 q13
    (try simp (maxSteps := 5000000) only [KS, Nat.reduceAdd, Nat.reduceMul, Nat.reduceEqDiff, ↓reduceIte, forall_const, Int.cast_ofNat_Int, Int.reduceToNat, List.take_succ_cons, List.take_zero, List.drop_succ_cons, List.drop_zero, TF18, KL18, eh, gres, qopS, putL, ung, t13, f13, o13, q13]); (try simp (disch := omega) only [wrapI, tmodI, tdivI])
    refine ⟨trivial, trivial, trivial, trivial, Keep.refl _ _, ?_⟩
    refine CallW_gen call34 (plOptions vl t f u0 u1 u2 o g w13 (hl.ext (x5.trans e513)) (hT.ext (x5.trans e513)) (hO.ext e13)) fun e w14 ⟨v14, he14, x14, s14⟩ => ⟨_, he14, ⟨rfl, by simp [tpOf]⟩, ⟨rfl, by simp [tpOf]⟩, ⟨by omega, by omega⟩, Keep.of_ext x14, ?_⟩
    (try simp (maxSteps := 5000000) only [KS, Nat.reduceAdd, Nat.reduceMul, Nat.reduceEqDiff, ↓reduceIte, forall_const, Int.cast_ofNat_Int, Int.reduceToNat, List.take_succ_cons, List.take_zero, List.drop_succ_cons, List.drop_zero, TF18, KL18, eh, gres, qopS, putL, ung]); (try simp (disch := omega) only [wrapI, tmodI, tdivI])
    have e14 := e13.trans x14
    obtain ⟨LL, q1, q2, q3, q4⟩ := O10.r
    refine SemW_setAt (i := q) cells59 (q1.ext e14) (by omega) (isS_c s14.s) (isS_o s14.s) fun w15 r15 k15 z15 => ?_
    have hpr : w5.heap.size ≤ pr.block := by omega
    have x15 : Ext w5 w15 := Keep.ext (x10.trans e14) k15 fun k hk => by omega
    have hopq : ∀ xs : List RunD, ∀ v, Sl w14 v xs → Sl w15 v xs := fun xs v hv => hv.keepD (q1.ext e14) (fun x _ cs' hc => ⟨.int .i64 x.Line, by rw [hc.1]; rfl, fun hm => by rcases (q3 _ hm).ex with h | ⟨_, _, _, h⟩ <;> cases h⟩) k15
    have O15 : OpW w15 pr (Pl.optsOf t f l) l.length (q + 1) := by
      refine ⟨LL.set q v14, r15, by rw [List.length_set]; exact q2, fun v hv => ?_, fun k hk h1 h2 => ?_⟩
      · rcases List.mem_or_eq_of_mem_set hv with h | h
        · exact q3 v h
        · rw [h]; exact s14.s
      · rw [List.length_set] at h2
        rw [List.getElem_set]
        by_cases e : q = k
        · subst e
          rw [if_pos rfl, hget]
          exact hopq _ _ s14
        · rw [if_neg e]
          exact hopq _ _ ((q4 k (by omega) h1 h2).ext e14)
    have r15' := (r10.ext e14).keep k15 hpo
    (repeat with_reducible first | refine jy ?_ | refine jw KL18 [] TF18 fun _ => ?_)
    refine Run_condS (fun _ => rfl) (fun h => ?_) (fun h => ?_)
    · have he2 : (Pl.options t f o).2 ≠ 0 := by simpa using h
      rw [if_pos he2] at hf
      have hm : Pl.make t f l covers = (Pl.noPlan, false, (Pl.options t f o).2) := by unfold Pl.make; rw [if_neg (by simp [he]), if_pos (by rw [← hf]; exact he2), ← hf]
      have p15 := P w15 x15
      (repeat with_reducible first | refine jy ?_ | refine jw KL18 [] (aa TF18 p15) fun _ => ?_)
      refine SemW_setW (by rw [cells61]; decide) (by rw [cells61]; rfl) (r5.ext x15) (by rw [cells61]; rfl) rfl fun wz rz kz zz => ?_
      have ez := loadVar_at (P := Tryz.prog) (t := 61) (by kernel_rfl) (by rw [cells61]; decide) (by rw [cells61]; rfl) rz.at_
      (repeat with_reducible first | refine jy ?_ | refine jw KL18 [] TF18 fun _ => ?_)
      refine Run_ret ?_
      simp only [Rets, RetM, resV, fnd, oneOr, ↓reduceIte, KS, Nat.reduceAdd, Nat.reduceMul, Nat.reduceEqDiff, ↓reduceIte, UT]
      rw [hm]
      refine ⟨pp, _, rfl, ez, ?_⟩
      simp [resV, oneOr, fnd, Pl.noPlan, PlanD.cs]
      exact ⟨.slice none 0 0, .slice none 0 0, .slice none 0 0, rfl, Keep.ext (x5.trans x15) kz fun k hk => by omega, Sl.nil _, Sl.nil _, Sl.nil _⟩
    · have he2 : (Pl.options t f o).2 = 0 := by simpa using h
      rw [if_neg (by simp [he2])] at hf
      rw [he2]
      (repeat with_reducible first | refine jy ?_ | refine jw KL18 [] TF18 fun _ => ?_)
      exact Run_lp ⟨q + 1, by simp [SubB, fnd, strike, has], ⟨by omega, x15, O15, r15', hf⟩, by omega⟩
  · simp at h
    obtain rfl : q = l.length := by omega
    clear h
    rw [List.drop_length] at hf
    have hoE : Pl.optsE t f l = 0 := hf.symm
    obtain ⟨LL, q1, q2, q3, q4⟩ := O10.r
    have sO : Sl w10 (.slice (some pr) l.length l.length) (Pl.optsOf t f l) := by
      refine Sl.of_row (css := LL.map fun v => [v]) (e := 59) ?_ ⟨by rw [List.length_map, q2, hoptl], fun k h1 h2 => ?_⟩ hoptl.symm (by omega)
      · have : (LL.map fun v => [v]).flatten = LL := by rw [← List.flatMap_def]; simp
        rw [this]; exact q1
      · rw [List.length_map] at h1
        rw [List.getElem_map]
        exact ⟨_, rfl, q4 k (by omega) h2 h1⟩
    have y10 := x5.trans x10
    have E : PutE w10 pl pc po pt vo (.slice (some pr) l.length l.length) vl l covers (Pl.optsOf t f l) t := ⟨L0 w10 x10, ho.ext y10, C0 w10 x10, r10.at_, sO, T0 w10 x10, hl.ext y10⟩
    clear q1 q2 q3 q4 LL
    (repeat with_reducible first | refine jy ?_ | refine jw KL18 [] TF18 fun _ => ?_)
    refine SemW_makeMap (kt := 34) fun w11 m11 x11 z11 => ?_
    refine SemW_allocT ti89 fun pM w12 h12 => SemW_allocT ti3 fun pS w13 h13 => ?_
    have b12 := h12.blk
    have b13 := h13.blk
    have z12 := h12.size
    have z13 := h13.size
    generalize hmb : w10.heap.size = mb at *
    refine SemW_set0 cells89 (h12.row.ext h13.ext) (by show 0 < 1; decide) rfl rfl fun w14 r14 k14 z14 => ?_
    refine SemW_set0 cells3 (h13.row.keep k14 (show pS.block ≠ pM.block by omega)) (by show 0 < 1; decide) rfl rfl fun w15 r15 k15 z15 => ?_
    have r15 : Row w15 pS 3 [.int .i64 0] := r15
    have q15 : Row w15 pM 89 [.map (some mb)] := r14.keep k15 (show pM.block ≠ pS.block by omega)
    have x14 : Ext w11 w14 := Keep.ext (h12.ext.trans h13.ext) k14 fun k hk => by omega
    have x15 : Ext w11 w15 := Keep.ext x14 k15 fun k hk => by omega
    have m15 := m11.ext x15
    (repeat with_reducible first | refine jy ?_ | refine jw KL18 [] TF18 fun _ => ?_)
    refine SemW_allocT ti90 fun pU w16 h16 => ?_
    have b16 := h16.blk
    have z16 := h16.size
    (repeat with_reducible first | refine jy ?_ | refine jw KL18 [] TF18 fun _ => ?_)
    refine SemW_set0 cells90 h16.row (by show 0 < 1; decide) rfl rfl fun w17 r17 k17 z17 => ?_
    generalize hfv : (Value.func (.func 36) #[] #[.pointer (some pS), .pointer (some pl), .pointer (some pc), .pointer (some po), .pointer (some pM), .pointer (some pt), .pointer (some pU)]) = fv at r17
    have r17 : Row w17 pU 90 [fv] := r17
    have x16 : Ext w11 w16 := x15.trans h16.ext
    have x17 : Ext w11 w17 := Keep.ext x16 k17 fun k hk => by have := x15.size; omega
    have z15' := x15.size
    have kU : Keep (fun k => k ≠ pU.block) w15 w17 := (Keep.of_ext h16.ext).trans k17
    have W17 : PutW w10 pS pM pU mb fv l [] w17 := by
      refine ⟨x11.trans x17, ?_, ⟨_, q15.keep kU (show pM.block ≠ pU.block by omega)⟩, ⟨_, r17⟩, ⟨[], m11.ext x17, fun r => by simp [mget, ffind, Pl.load, Pl.loadF]⟩, by omega, by omega, by omega, by omega, by omega, by omega, by omega⟩
      exact r15.keep kU (show pS.block ≠ pU.block by omega)
    have u17 := r17.n
    simp only [AtN, KS, Nat.reduceAdd, Nat.reduceMul, Nat.reduceEqDiff, ↓reduceIte, UT] at u17
    (repeat with_reducible first | refine jy ?_ | refine jw KL18 [] (aa TF18 u17) fun _ => ?_)
    refine SemW_buildSlice (vs := []) Tryz.underlying59 ti34 rfl rfl rfl (by simp) (by simp) fun ph w18 h18 => ?_
    have W18 := W17.ext h18.ext
    have s18 : Sl w18 (.slice (some ph) 0 0) ([] : List RunD) := ⟨by simp, rfl, Nat.le_refl _, by simp, by simp, fun i hi => by simp at hi⟩
    have hcr : ∀ o ∈ l, 1 ≤ o.Crowd ∧ o.Crowd ≤ 64 := fun o ho' => (ok_num ok ho').2.2.2
    have hoo : ∀ o ∈ Pl.optsOf t f l, ∀ r ∈ o, Tt.isRun t r = true := fun o ho' r hr => by
      unfold Pl.optsOf at ho'
      obtain ⟨x, hx, rfl⟩ := List.mem_map.1 ho'
      exact (((Pl.opt_ok (Pl.optsE_iff.1 hoE x hx)).2.1 r).1 hr).1
    have hopt : ∀ o ∈ Pl.optsOf t f l, ∀ r ∈ o, 0 ≤ r.Line ∧ r.Line < t.Lines.length := fun o ho' r hr => by
      obtain ⟨g1, g2, g3⟩ := isRunL (hoo o ho' r hr)
      exact ⟨g1, g2⟩
    have hput := putC (pU := pU) (pM := pM) (pS := pS) (mb := mb) E hoptl hl64 hcr hopt hcv (Pl.optsOf t f l) [] (.slice (some ph) 0 0) w18 rfl (by simpa using hoptl) (by rw [hfv]; exact W18) s18 ⟨_, _, _, rfl⟩ (fun h => (h rfl).elim)
    rw [Pl.psrch_eq (by simpa using hoptl)] at hput
    rw [show Pl.srch l (Pl.room t) (Pl.leafT l covers) (Pl.optsOf t f l) [] = Pl.mkOf t f l covers from rfl] at hput
    (repeat with_reducible first | refine jy ?_ | refine jw KL18 [] TF18 fun _ => ?_)
    subst hfv
    refine CallW_cl call36 hput fun e w19 hq => ?_
    obtain ⟨v19, he19, k19, hm19⟩ := hq
    refine ⟨_, he19, ?_⟩
    have x1019 : Ext w10 w19 := Keep.ext (x11.trans (x17.trans h18.ext)) k19 fun k hk => by omega
    have x519 := x10.trans x1019
    (repeat with_reducible first | refine jy ?_ | refine jw KL18 [] TF18 fun _ => ?_)
    cases hres : Pl.mkOf t f l covers with
    | none =>
      rw [hres] at hm19
      obtain ⟨rfl, S19⟩ := hm19
      have hm : Pl.make t f l covers = (Pl.noPlan, false, 0) := by unfold Pl.make; rw [if_neg (by simp [he]), if_neg (by simp [hoE]), hres]
      have p19 := P w19 x519
      (repeat with_reducible first | refine jy ?_ | refine jw KL18 [] (aa TF18 KX) fun _ => ?_)
      refine Run_condS (fun _ => rfl) (fun _ => ?_) (fun h => by cases h)
      (repeat with_reducible first | refine jy ?_ | refine jw KL18 [] (aa TF18 p19) fun _ => ?_)
      refine SemW_setW (by rw [cells61]; decide) (by rw [cells61]; rfl) (r5.ext x519) (by rw [cells61]; rfl) rfl fun wz rz kz zz => ?_
      have ez := loadVar_at (P := Tryz.prog) (t := 61) (by kernel_rfl) (by rw [cells61]; decide) (by rw [cells61]; rfl) rz.at_
      (repeat with_reducible first | refine jy ?_ | refine jw KL18 [] TF18 fun _ => ?_)
      refine Run_ret ?_
      simp only [Rets, RetM, resV, fnd, oneOr, ↓reduceIte, KS, Nat.reduceAdd, Nat.reduceMul, Nat.reduceEqDiff, ↓reduceIte, UT]
      rw [hm]
      refine ⟨pp, _, rfl, ez, ?_⟩
      simp [resV, oneOr, fnd, Pl.noPlan, PlanD.cs]
      exact ⟨.slice none 0 0, .slice none 0 0, .slice none 0 0, rfl, Keep.ext (x5.trans x519) kz fun k hk => by omega, Sl.nil _, Sl.nil _, Sl.nil _⟩
    | some of =>
      rw [hres] at hm19
      obtain ⟨⟨py, ny, cy, rfl⟩, sy, M19⟩ := hm19
      have hm : Pl.make t f l covers = (Pl.planOf l of, true, 0) := by unfold Pl.make; rw [if_neg (by simp [he]), if_neg (by simp [hoE]), hres]
      have hmk := Pl.mk_ok hoE hres
      (repeat with_reducible first | refine jy ?_ | refine jw KL18 [] (aa TF18 KX) fun _ => ?_)
      refine Run_condS (fun _ => rfl) (fun h => by cases h) (fun _ => ?_)
      obtain ⟨m19, M1, M2⟩ := M19
      have q19 := ((q15.keep kU (show pM.block ≠ pU.block by omega)).ext h18.ext).keep k19 ⟨by omega, by omega⟩
      have n19 := q19.n
      simp only [AtN, KS, Nat.reduceAdd, Nat.reduceMul, Nat.reduceEqDiff, ↓reduceIte, UT] at n19
      (repeat with_reducible first | refine jy ?_ | refine jw KL18 [] (aa TF18 n19) fun _ => ?_)
      refine CallW_gen call39 (plPlan _ mb m19 l of w19 sy (by rw [hmk.n]; exact Nat.le_refl _) hl64 (Pl.isRun_dis hmk.r) hcr M1 M2) fun e w20 ⟨v0, v1, v2, he20, x20, P20⟩ => ⟨_, he20, ?_⟩
      have y20 := x519.trans x20
      have r20 := r5.ext y20
      refine SemW_setW (by rw [cells61]; decide) (by rw [cells61]; rfl) r20 (by rw [cells61]; rfl) (by simp [Value.cells, PlanD.cs, isS_o P20.r.s, isS_o P20.o.s, isS_o P20.c.s]) fun wz rz kz zz => ?_
      have ez := loadVar_at (P := Tryz.prog) (t := 61) (by kernel_rfl) (by rw [cells61]; decide) (by rw [cells61]; rfl) rz.at_
      have kR : ∀ (v : Value) (xs : List RunD), Sl w20 v xs → Sl wz v xs := fun v xs hv => hv.keepD r20 (fun x _ cs' hc => ⟨.int .i64 x.Line, by rw [hc.1]; rfl, fun hm => by simp at hm⟩) kz
      have kI : ∀ (v : Value) (xs : List Int), Sl w20 v xs → Sl wz v xs := fun v xs hv => hv.keepD r20 (fun x _ cs' hc => ⟨.int .i64 x, by rw [hc.1]; rfl, fun hm => by simp at hm⟩) kz
      (repeat with_reducible first | refine jy ?_ | refine jw KL18 [] TF18 fun _ => ?_)
      refine Run_ret ?_
      simp only [Rets, RetM, resV, fnd, oneOr, ↓reduceIte, KS, Nat.reduceAdd, Nat.reduceMul, Nat.reduceEqDiff, ↓reduceIte, UT]
      rw [hm]
      refine ⟨pp, _, rfl, ez, ?_⟩
      simp [resV, oneOr, fnd, Pl.noPlan, PlanD.cs]
      exact ⟨v0, v1, v2, rfl, Keep.ext (x5.trans y20) kz fun k hk => by omega, kR _ _ P20.r, kI _ _ P20.o, kI _ _ P20.c⟩
end Go.Proofs.YtldjfebokojmfaaGreat
