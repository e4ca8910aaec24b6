import Derived.Test.YtoadfmgnpmcbfaaGreatQkG9
import Derived.Test.YtoadfmgnpmcbfaaGreatQkP41e
import Derived.Test.YtoadfmgnpmcbfaaGreatQkW39r
/- Chapter 41: SettleBack. -/
namespace Go.Proofs.YtoadfmgnpmcbfaaGreat
open Go Go.Fk
set_option linter.unusedSimpArgs false
set_option linter.unusedVariables false
set_option maxRecDepth 100000
theorem wrong_y {t : TimeD} {f : TariffD} {l : List OrderD} {p : PlanD} (h : Ec.Ok t f l p) {i : Nat} (hi : i < l.length) : Tf.pri f (l.getD i default).Class (Ec.lineP t p (p.Of.getD i 0)).Legs.length (l.getD i default).Crowd = (Ec.priceP t f l p i, 0) := by
  obtain ⟨_, _, hlo, _, hc, hk⟩ := Ec.price_eq h hi
  have a1 := hlo.o2
  have a2 := hlo.o9
  have a3 := hlo.l1
  have hw : Tf.wrong f (l.getD i default).Class (Ec.lineP t p (p.Of.getD i 0)).Legs.length (l.getD i default).Crowd = 0 := by
    unfold Tf.wrong
    rw [if_neg (by simp [h.o.f]), if_neg (by omega)]
  have e : Ec.priceP t f l p i = (Tf.pri f (l.getD i default).Class (Ec.lineP t p (p.Of.getD i 0)).Legs.length (l.getD i default).Crowd).1 := rfl
  rw [e]
  unfold Tf.pri
  rw [hw]
  rfl
set_option maxHeartbeats 4000000 in
theorem lawSettleBack (vl u0 u1 u2 vo v0 v1 v2 vh : Value) (t : TimeD) (f : TariffD) (l : List OrderD) (p : PlanD) (hd : List Int) (w : World) (hl : Sl w vl t.Lines) (hT : TarR w f u0 u1 u2) (ho : Sl w vo l) (hP : PlanR w p v0 v1 v2) (hh : Sl w vh hd) :
    Calls Tryz.prog 11 #[.agg (t.cs vl).toArray, .agg (f.cs u0 u1 u2).toArray, vo, .agg (p.cs v0 v1 v2).toArray, vh] w fun e w' => e = .returned (.bool true) ∧ Ext w w' := by
  refine Calls_of_Run (args := [.agg (t.cs vl).toArray, .agg (f.cs u0 u1 u2).toArray, vo, .agg (p.cs v0 v1 v2).toArray, vh]) (n := 152) (rs := [.tmp 10]) Tryz.func11 rfl rfl rfl (by simp) ?_
  (repeat with_reducible first | refine js ?_ | refine ja ?_ | refine jw KL11 [14] TF11 fun _ => ?_)
  refine SemW_box fun pt w1 h1 => SemW_box fun pf w2 h2 => SemW_box fun pp w3 h3 => ?_
  have x3 := h1.ext.trans (h2.ext.trans h3.ext)
  have T : ∀ w', Ext w3 w' → AtN w' pt 0 (t.cs vl) := fun w' x => (h1.at_.ext (h2.ext.trans (h3.ext.trans x))).n
  have F : ∀ w', Ext w3 w' → AtN w' pf 0 (f.cs u0 u1 u2) := fun w' x => (h2.at_.ext (h3.ext.trans x)).n
  have P : ∀ w', Ext w3 w' → AtN w' pp 0 (p.cs v0 v1 v2) := fun w' x => (h3.at_.ext x).n
  simp only [TimeD.cs, TariffD.cs, PlanD.cs, AtN, KS, Nat.reduceAdd, Nat.reduceMul, Nat.reduceEqDiff, ↓reduceIte, UT] at T F P
  (repeat with_reducible first | refine js ?_ | refine ja ?_ | refine jw KL11 [14] TF11 fun _ => ?_)
  refine sane41W fun w4 x4 => ?_
  (repeat with_reducible first | refine js ?_ | refine ja ?_ | refine jw KL11 [14] TF11 fun _ => ?_)
  refine Run_condS (fun _ => rfl) (fun h => by cases h) (fun _ => ?_)
  have y4 := x3.trans x4
  have t4 := T w4 x4
  have f4 := F w4 x4
  have p4 := P w4 x4
  (repeat with_reducible first | refine js ?_ | refine ja ?_ | refine jw KL11 [14] (aa TF11 (aa t4 (aa f4 p4))) fun _ => ?_)
  refine few41W (hl.ext y4) (hT.ext y4) (ho.ext y4) (hP.ext y4) (hh.ext y4) fun b w5 x5 hb => ?_
  have y5 := y4.trans x5
  (repeat with_reducible first | refine js ?_ | refine ja ?_ | refine jw KL11 [14] TF11 fun _ => ?_)
  refine Run_condS (fun _ => rfl) (fun h => ?_) (fun h => ?_)
  · (repeat with_reducible first | refine js ?_ | refine ja ?_ | refine jw KL11 [14] TF11 fun _ => ?_)
    refine Run_ret ?_
    simp [Rets, RetM, resV, fnd, oneOr, y5]
  have hb := hb (by simpa using h)
  clear h
  have z5 := x4.trans x5
  have t5 := T w5 z5
  have f5 := F w5 z5
  have p5 := P w5 z5
  (repeat with_reducible first | refine js ?_ | refine ja ?_ | refine jw KL11 [14] (aa TF11 (aa t5 (aa f5 p5))) fun _ => ?_)
  refine allW rfl (hl.ext y5) (hT.ext y5) (ho.ext y5) (hP.ext y5) (hh.ext y5) hb.2.1 (by omega) fun vm w6 x6 sm => ?_
  have y6 := y5.trans x6
  have z6 := z5.trans x6
  have hrl := hP.r.len
  have hol := ho.len
  (try simp (maxSteps := 5000000) only [KS, Nat.reduceAdd, Nat.reduceMul, Nat.reduceEqDiff, ↓reduceIte, forall_const, Int.cast_ofNat_Int, Int.reduceToNat, List.take_succ_cons, List.take_zero, List.drop_succ_cons, List.drop_zero, TF11, KL11]); (try simp (disch := omega) only [wrapI, tmodI, tdivI])
  refine ⟨by decide, by decide, ?_⟩
  (repeat with_reducible first | refine jq ?_ | refine jk ?_ | refine jc ?_ | refine jl ?_ | refine jb ?_ | refine jo ?_ | refine ji ?_ | refine jx rfl ?_)
  refine Run_ec (id := 6) KL11 (.first 0 (.first 1 (.first 2 (.first 3 (.first 4 (.first 5 (.first 6 (.alt 7 (.alt 8 (.first 9 (.first 10 (.first 11 (.first 12 (.first 13 .done))))) .stop) .stop)))))))) mixed (by kernel_rfl) (by kernel_rfl) fun w7 x7 _ => ?_
  have y7 := y6.trans x7
  have z7 := z6.trans x7
  have t7 := T w7 z7
  have f7 := F w7 z7
  have p7 := P w7 z7
  (try simp (maxSteps := 5000000) only [KS, Nat.reduceAdd, Nat.reduceMul, Nat.reduceEqDiff, ↓reduceIte, forall_const, Int.cast_ofNat_Int, Int.reduceToNat, List.take_succ_cons, List.take_zero, List.drop_succ_cons, List.drop_zero, TF11, KL11, ec, t7, f7, p7, hP.r.s, hrl]); (try simp (disch := omega) only [wrapI, tmodI, tdivI])
  (try simp (maxSteps := 5000000) only [KS, Nat.reduceAdd, Nat.reduceMul, Nat.reduceEqDiff, ↓reduceIte, forall_const, Int.cast_ofNat_Int, Int.reduceToNat, List.take_succ_cons, List.take_zero, List.drop_succ_cons, List.drop_zero, TF11, KL11, ec, t7, f7, p7, hP.r.s, hrl]); (try simp (disch := omega) only [wrapI, tmodI, tdivI])
  have hn70 := hb.2.1
  refine ⟨Ext.refl _, SemW_make (n := p.Runs.length) Tryz.underlying25 ti3 (by omega) (by omega) (by simp only [maxLen]; omega) fun pz w8 cs hcs h8 hz => ?_⟩
  have hz := hz rfl rfl
  have x8 := h8.ext
  have sz : Sl w8 (.slice (some pz) p.Runs.length p.Runs.length) (Au.zer p.Runs.length) := by
    have r := h8.row
    rw [hz, show List.replicate p.Runs.length ((Value.int .i64 0).cells[0]!) = ints (Au.zer p.Runs.length) by simp [ints, Au.zer, Value.cells]] at r
    have := rowInts r (fun x hx => by
      have := List.eq_of_mem_replicate hx
      subst this
      simp [I64]) (by simp [Au.zer]; omega)
    simpa [Au.zer] using this
  have y8 := y7.trans x8
  have z8 := z7.trans x8
  refine ⟨x8, allW rfl (hl.ext y8) (hT.ext y8) (ho.ext y8) (hP.ext y8) sz hb.2.1 (by omega) fun vz w9 x9 sz9 => ?_⟩
  have y9 := y8.trans x9
  have z9 := z8.trans x9
  have sm9 := sm.ext (x7.trans (x8.trans x9))
  (try simp (maxSteps := 5000000) only [KS, Nat.reduceAdd, Nat.reduceMul, Nat.reduceEqDiff, ↓reduceIte, forall_const, Int.cast_ofNat_Int, Int.reduceToNat, List.take_succ_cons, List.take_zero, List.drop_succ_cons, List.drop_zero, TF11, KL11]); (try simp (disch := omega) only [wrapI, tmodI, tdivI])
  refine ⟨by decide, by decide, x8.trans x9, ?_⟩
  (repeat with_reducible first | refine js ?_ | refine ja ?_ | refine jw KL11 [14] TF11 fun _ => ?_)
  refine Run_condS (fun _ => rfl) (fun h => ?_) (fun h => ?_)
  · (repeat with_reducible first | refine js ?_ | refine ja ?_ | refine jw KL11 [14] TF11 fun _ => ?_)
    refine Run_ret ?_
    simp [Rets, RetM, resV, fnd, oneOr]
    exact y9
  have h0 : (Au.all t f l p hd).2 = 0 := by simpa using h
  clear h
  obtain ⟨he, hn, ha⟩ := Au.all_ok h0
  have hK := Au.err_ok he
  have ok := hK.e
  have hF : 0 ≤ Ec.eff (Au.pre t f l p hd) 1 := by
    have := Au.negAt_no hn (Au.pre t f l p hd).length
    rwa [List.take_length] at this
  obtain ⟨herr, hza, hzK, hzE, hzF⟩ := Au.all_zer h0 hb.2.1
  have hout := fun j hj => Au.asked_out hK hb.2.1 hF (j := j) hj
  have hmv := Au.asked_mv hK hb.2.1 hF
  have hmvz := Au.asked_mv hzK hb.2.1 hzF
  have hXl := Au.asked_len hK hb.2.1
  have hZl := Au.asked_len hzK hb.2.1
  rw [ha] at sm9 ⊢
  rw [hza] at sz9 ⊢
  simp only at sm9 sz9
  generalize Au.asked t f l p hd = X at *
  generalize Au.asked t f l p (Au.zer p.Runs.length) = Z at *
  have t9 := T w9 z9
  have f9 := F w9 z9
  have p9 := P w9 z9
  (repeat with_reducible first | refine js ?_ | refine ja ?_ | refine jw KL11 [14] (aa TF11 (aa t9 (aa f9 (aa p9 (aa @bne_self_eq_false.{0} KX))))) fun _ => ?_)
  refine .inl (rerrW (hl.ext y9) (hT.ext y9) (ho.ext y9) (hP.ext y9) fun w10 x10 => ?_)
  unfold hush
  rw [herr]
  (repeat with_reducible first | refine js ?_ | refine ja ?_ | refine jw KL11 [14] (aa TF11 (aa @bne_self_eq_false.{0} KX)) fun _ => ?_)
  refine Run_condS (fun _ => rfl) (fun h => by cases h) (fun _ => ?_)
  have y10 := y9.trans x10
  have z10 := z9.trans x10
  have sm10 := sm9.ext x10
  have sz10 := sz9.ext x10
  have sml := sm10.len
  have szl := sz10.len
  rw [Au.num_len] at sml szl
  have hmA : ∀ m ∈ X, 0 ≤ m.Amount ∧ m.Amount ≤ 1099511627776 := fun m hm => (hmv m hm).2.2.2.1
  have hzA : ∀ m ∈ Z, Ec.MvOk m := fun m hm => (hmvz m hm).ok
  have hge : ∀ (X : List MoveD) j (hj : j < X.length), (Au.num 0 X)[j]'(by rw [Au.num_len]; exact hj) = { X[j] with No := (j : Int) } := fun X j hj => by
    have := Au.num_get X 0 j
    rw [List.getElem?_eq_getElem (by rw [Au.num_len]; exact hj), List.getElem?_eq_getElem hj] at this
    simpa using this
  clear ha hza hn h0 he sm9 sz9 hmv hmvz sz hcs hz h8
  (repeat with_reducible first | refine js ?_ | refine ja ?_ | refine jw KL11 [14] (aa TF11 (aa ho.s hol)) fun _ => ?_)
  refine Run_loopV [10, 15, 16, 17, 18, 19, 20, 22, 24, 69, 70, 99, 100, 101, 102, 109, 115, 116, 117, 118, 125, 134, 150] (σ := Nat) (fun i => [(69, some (.int .i64 i))]) (fun i w' => i ≤ l.length ∧ Ext w10 w') (fun i => l.length - i) 0 (by simp [SubB, fnd]) ⟨by omega, Ext.refl _⟩ ?_
  rintro i w11 ⟨hi, x11⟩
  have y11 := y10.trans x11
  have z11 := z10.trans x11
  (repeat with_reducible first | refine js ?_ | refine ja ?_ | refine jw KL11 [14] TF11 fun _ => ?_)
  refine Run_condS (fun _ => rfl) (fun h => ?_) (fun h => ?_)
  · simp at h
    have hil : i < l.length := by omega
    have hilc : (i : Int) < l.length := by omega
    clear h
    have hip : i < p.Of.length := by rw [ok.ol]; exact hil
    have hgo : p.Of.getD i 0 = p.Of[i] := by simp [List.getD_eq_getElem?_getD, hip]
    have hgl : l.getD i default = l[i] := by simp [List.getD_eq_getElem?_getD, hil]
    obtain ⟨q0, q1, _, _, hcl, _⟩ := Ec.price_eq ok hil
    have hwz := wrong_y ok hil
    rw [hgo] at q0 q1
    rw [hgo, hgl] at hwz
    obtain ⟨l0, l1, l2, l3, hC⟩ := lineC hl ok q0 q1
    obtain ⟨hrn, hr0, hlnn, hn0, hCa, hRR⟩ := hC
    have hrll := hRR.l.len
    obtain ⟨g, _, gAt, hO2⟩ := ho.ord hil
    have hone2 := hO2.one
    have o11 := (gAt.ext y11).n
    simp only [OrderD.cs, AtN, KS, Nat.reduceAdd, Nat.reduceMul, Nat.reduceEqDiff, ↓reduceIte, UT] at o11
    simp only [OrderD.cs] at hone2
    have hpb := Ec.price_bd t f l p i
    have hpaid := hout (51 + (i : Int)) (by omega)
    rw [if_pos (by omega), show (51 + (i : Int) - 51).toNat = i by omega] at hpaid
    have hback := hzE (51 + (i : Int))
    have G : ∀ w', Ext w w' → AtN w' ((slAt v0).add (p.Of[i].toNat * 3)) 0 p.Runs[p.Of[i].toNat].cs ∧ AtN w' ((slAt vl).add (p.Runs[p.Of[i].toNat].Line.toNat * 6)) 0 ((Ec.lineP t p p.Of[i]).cs l0 l1 l2 l3) := fun w' x => ⟨((hP.r.ext x).runD hrn).1, (hCa.ext x).n⟩
    clear hCa
    generalize hxx : Ec.lineP t p p.Of[i] = x at *
    generalize hrr : p.Runs[p.Of[i].toNat] = rr at *
    simp only [RunD.cs, LineD.cs, AtN, KS, Nat.reduceAdd, Nat.reduceMul, Nat.reduceEqDiff, ↓reduceIte, UT] at G
    (repeat with_reducible first | refine js ?_ | refine ja ?_ | refine jw KL11 [14] (aa TF11 (aa ho.s (aa hol o11))) fun _ => ?_)
    refine SemW_allocT ti58 fun pe w12 h12 => ?_
    have b12 := h12.blk
    (repeat with_reducible first | refine js ?_ | refine ja ?_ | refine jw KL11 [14] TF11 fun _ => ?_)
    refine SemW_setW (by rw [cells58]; decide) (by rw [cells58]; rfl) h12.row (by rw [cells58]; rfl) (by simpa [Value.cells] using hone2) fun w13 r13 k13 zz13 => ?_
    have r13 : Row w13 pe 58 (l[i].cs g) := by simpa [Value.cells, OrderD.cs] using r13
    have x13 : Ext w11 w13 := Keep.ext h12.ext k13 fun b hb => by omega
    have y13 := y11.trans x13
    have z13 := z11.trans x13
    (repeat with_reducible first | refine jq ?_ | refine jk ?_ | refine jc ?_ | refine jl ?_ | refine jb ?_ | refine jo ?_ | refine ji ?_ | refine jx rfl ?_)
    refine Run_ec (id := 14) KL11 (.first 0 (.first 1 (.first 2 (.first 3 (.first 4 (.first 5 (.first 6 (.first 7 (.first 8 (.first 9 (.first 10 (.first 11 (.first 12 (.first 13 (.first 14 (.first 15 (.first 16 (.first 17 (.first 18 (.first 19 (.first 20 (.alt 21 (.first 22 (.first 23 (.first 24 (.first 25 (.first 26 .done))))) .stop)))))))))))))))))))))) mixed (by kernel_rfl) (by kernel_rfl) fun w14 x14 _ => ?_
    have y14 := y13.trans x14
    have z14 := z13.trans x14
    have t14 := T w14 z14
    have f14 := F w14 z14
    have p14 := P w14 z14
    have g14 := G w14 y14
    have e14 := (r13.ext x14).n
    simp only [OrderD.cs, AtN, KS, Nat.reduceAdd, Nat.reduceMul, Nat.reduceEqDiff, ↓reduceIte, UT] at e14
    obtain ⟨d3, d4, -⟩ := (hP.o.ext y14).get hip
    (try simp (maxSteps := 5000000) only [KS, Nat.reduceAdd, Nat.reduceMul, Nat.reduceEqDiff, ↓reduceIte, forall_const, Int.cast_ofNat_Int, Int.reduceToNat, List.take_succ_cons, List.take_zero, List.drop_succ_cons, List.drop_zero, TF11, KL11, ec, t14, f14, p14, hP.r.s, hP.r.len, hP.o.s, hP.o.len, hl.s, hl.len, d3, d4, g14, e14, hRR.l.s, hrll]); (try simp (disch := omega) only [wrapI, tmodI, tdivI])
    (try simp (maxSteps := 5000000) only [KS, Nat.reduceAdd, Nat.reduceMul, Nat.reduceEqDiff, ↓reduceIte, forall_const, Int.cast_ofNat_Int, Int.reduceToNat, List.take_succ_cons, List.take_zero, List.drop_succ_cons, List.drop_zero, TF11, KL11, ec, t14, f14, p14, hP.r.s, hP.r.len, hP.o.s, hP.o.len, hl.s, hl.len, d3, d4, g14, e14, hRR.l.s, hrll]); (try simp (disch := omega) only [wrapI, tmodI, tdivI])
    refine ⟨⟨by omega, by omega⟩, ⟨by omega, by omega⟩, ⟨by omega, by omega⟩, Ext.refl _, priceW (hT.ext y14) fun w15 x15 => ?_⟩
    simp only [hwz]
    (try simp (maxSteps := 5000000) only [KS, Nat.reduceAdd, Nat.reduceMul, Nat.reduceEqDiff, ↓reduceIte, forall_const, Int.cast_ofNat_Int, Int.reduceToNat, List.take_succ_cons, List.take_zero, List.drop_succ_cons, List.drop_zero, TF11, KL11]); (try simp (disch := omega) only [wrapI, tmodI, tdivI])
    refine ⟨by decide, by decide, x15, ?_⟩
    have x1115 := x13.trans (x14.trans x15)
    have y15 := y14.trans x15
    have sm15 := sm10.ext (x11.trans x1115)
    have sz15 := sz10.ext (x11.trans x1115)
    generalize hpr : Ec.priceP t f l p i = pr at *
    clear g14 t14 f14 p14 e14 d3 d4 o11 G r13
    (repeat with_reducible first | refine js ?_ | refine ja ?_ | refine jw KL11 [14] (aa TF11 (aa sm15.s sml)) fun _ => ?_)
    refine Run_loopV [19, 22, 101, 102, 109] (σ := Nat) (fun k => [(101, some (.int .i64 k)), (19, some (.int .i64 (Au.out (51 + (i : Int)) (X.take k))))]) (fun k w' => k ≤ X.length ∧ Ext w15 w') (fun k => X.length - k) 0 (by simp [SubB, fnd, Au.out]) ⟨by omega, Ext.refl _⟩ ?_
    · rintro k w16 ⟨hk, x16⟩
      have sm16 := sm15.ext x16
      (repeat with_reducible first | refine js ?_ | refine ja ?_ | refine jw KL11 [14] TF11 fun _ => ?_)
      refine Run_condS (fun _ => rfl) (fun h => ?_) (fun h => ?_)
      · simp at h
        have hkl : k < X.length := by omega
        have hkc : (k : Int) < X.length := by omega
        clear h
        obtain ⟨e1, mI⟩ := sm16.moveD (show k < (Au.num 0 X).length by rw [Au.num_len]; exact hkl)
        rw [hge X k hkl] at e1
        have hsu := Au.out_take1 hkl (51 + (i : Int))
        have hbd := Au.out_bd (X := X.take k) (fun m hm => hmA m (List.mem_of_mem_take hm)) (51 + (i : Int))
        have hmk := hmA _ (List.getElem_mem hkl)
        rw [List.length_take] at hbd
        generalize Au.out (51 + (i : Int)) (X.take k) = S at *
        generalize X[k] = mk at *
        simp only [MoveD.cs, AtN, KS, Nat.reduceAdd, Nat.reduceMul, Nat.reduceEqDiff, ↓reduceIte, UT] at e1
        (repeat with_reducible first | refine js ?_ | refine ja ?_ | refine jw KL11 [14] (aa TF11 (aa sm16.s (aa sml e1))) fun _ => ?_)
        refine SemW_allocT ti70 fun pm w17 h17 => ?_
        have b17 := h17.blk
        (repeat with_reducible first | refine js ?_ | refine ja ?_ | refine jw KL11 [14] TF11 fun _ => ?_)
        refine SemW_setW (by rw [cells70]; decide) (by rw [cells70]; rfl) h17.row (by rw [cells70]; rfl) rfl fun w18 r18 k18 zz18 => ?_
        have r18 : Row w18 pm 70 ({ mk with No := (k : Int) } : MoveD).cs := by simpa [Value.cells, MoveD.cs] using r18
        have x18 : Ext w16 w18 := Keep.ext h17.ext k18 fun b hb => by omega
        have n18 := r18.n
        simp only [AtN, KS, Nat.reduceAdd, Nat.reduceMul, Nat.reduceEqDiff, ↓reduceIte, UT, MoveD.cs] at n18
        (repeat with_reducible first | refine js ?_ | refine ja ?_ | refine jw KL11 [14] (aa TF11 n18) fun _ => ?_)
        refine Run_condS (fun _ => rfl) (fun h => ?_) (fun h => ?_)
        · have hf : mk.From = 51 + (i : Int) := by simpa using h
          rw [if_pos hf] at hsu
          (repeat with_reducible first | refine js ?_ | refine ja ?_ | refine jw KL11 [14] (aa TF11 n18) fun _ => ?_)
          refine Run_lp ⟨k + 1, ?_, ⟨by omega, x16.trans x18⟩, by omega⟩
          rw [hsu]
          simp [SubB, fnd, strike, has]
        · have hf : mk.From ≠ 51 + (i : Int) := by simpa using h
          rw [if_neg hf] at hsu
          (repeat with_reducible first | refine js ?_ | refine ja ?_ | refine jw KL11 [14] TF11 fun _ => ?_)
          refine Run_lp ⟨k + 1, ?_, ⟨by omega, x16.trans x18⟩, by omega⟩
          rw [hsu]
          simp [SubB, fnd, strike, has]
          all_goals omega
      · simp at h
        obtain rfl : k = X.length := by omega
        clear h
        rw [List.take_length, hpaid]
        have sz16 := sz15.ext x16
        (repeat with_reducible first | refine js ?_ | refine ja ?_ | refine jw KL11 [14] (aa TF11 (aa sz16.s szl)) fun _ => ?_)
        refine Run_loopV [20, 24, 117, 118, 125, 134] (σ := Nat) (fun k => [(117, some (.int .i64 k)), (20, some (.int .i64 (Ec.eff (Z.take k) (51 + (i : Int)))))]) (fun k w' => k ≤ Z.length ∧ Ext w16 w') (fun k => Z.length - k) 0 (by simp [SubB, fnd, Ec.eff]) ⟨by omega, Ext.refl _⟩ ?_
        rintro k w17 ⟨hk, x17⟩
        have sz17 := sz16.ext x17
        (repeat with_reducible first | refine js ?_ | refine ja ?_ | refine jw KL11 [14] TF11 fun _ => ?_)
        refine Run_condS (fun _ => rfl) (fun h => ?_) (fun h => ?_)
        · simp at h
          have hkl : k < Z.length := by omega
          have hkc : (k : Int) < Z.length := by omega
          clear h
          obtain ⟨e1, mI⟩ := sz17.moveD (show k < (Au.num 0 Z).length by rw [Au.num_len]; exact hkl)
          rw [hge Z k hkl] at e1
          have hsu := Au.eff_takeS hkl (51 + (i : Int))
          have hbd := Ec.eff_bd (Z.take k) (fun m hm => hzA m (List.mem_of_mem_take hm)) (51 + (i : Int))
          obtain ⟨_, _, hmk⟩ := hzA _ (List.getElem_mem hkl)
          rw [List.length_take] at hbd
          generalize Ec.eff (Z.take k) (51 + (i : Int)) = S at *
          generalize Z[k] = mk at *
          simp only [MoveD.cs, AtN, KS, Nat.reduceAdd, Nat.reduceMul, Nat.reduceEqDiff, ↓reduceIte, UT] at e1
          (repeat with_reducible first | refine js ?_ | refine ja ?_ | refine jw KL11 [14] (aa TF11 (aa sz17.s (aa szl e1))) fun _ => ?_)
          refine SemW_allocT ti70 fun pm w18 h18 => ?_
          have b18 := h18.blk
          (repeat with_reducible first | refine js ?_ | refine ja ?_ | refine jw KL11 [14] TF11 fun _ => ?_)
          refine SemW_setW (by rw [cells70]; decide) (by rw [cells70]; rfl) h18.row (by rw [cells70]; rfl) rfl fun w19 r19 k19 zz19 => ?_
          have r19 : Row w19 pm 70 ({ mk with No := (k : Int) } : MoveD).cs := by simpa [Value.cells, MoveD.cs] using r19
          have x19 : Ext w17 w19 := Keep.ext h18.ext k19 fun b hb => by omega
          have n19 := r19.n
          simp only [AtN, KS, Nat.reduceAdd, Nat.reduceMul, Nat.reduceEqDiff, ↓reduceIte, UT, MoveD.cs] at n19
          unfold Ec.gain at hsu
          (repeat with_reducible first | refine js ?_ | refine ja ?_ | refine jw KL11 [14] (aa TF11 n19) fun _ => ?_)
          refine Run_condS (fun _ => rfl) (fun h => ?_) (fun h => ?_)
          all_goals
            have hf := h
            simp at hf
            clear h
            simp only [hf, if_true, if_false] at hsu
            (repeat with_reducible first | refine js ?_ | refine ja ?_ | refine jw KL11 [14] (aa TF11 n19) fun _ => ?_)
            refine Run_condS (fun _ => rfl) (fun h => ?_) (fun h => ?_)
            all_goals
              have ht := h
              simp at ht
              clear h
              simp only [ht, if_true, if_false] at hsu
              (repeat with_reducible first | refine js ?_ | refine ja ?_ | refine jw KL11 [14] (aa TF11 n19) fun _ => ?_)
              refine Run_lp ⟨k + 1, ?_, ⟨by omega, x17.trans x19⟩, by omega⟩
              rw [hsu]
              simp [SubB, fnd, strike, has]
              try omega
        · simp at h
          obtain rfl : k = Z.length := by omega
          clear h
          rw [List.take_length, hback]
          (repeat with_reducible first | refine js ?_ | refine ja ?_ | refine jw KL11 [14] (aa TF11 (aa @bne_self_eq_false.{0} KX)) fun _ => ?_)
          refine Run_condS (fun _ => rfl) (fun h => by cases h) (fun _ => ?_)
          (repeat with_reducible first | refine js ?_ | refine ja ?_ | refine jw KL11 [14] TF11 fun _ => ?_)
          refine Run_lp ⟨i + 1, by simp [SubB, fnd, strike, has], ⟨by omega, x11.trans (x1115.trans (x16.trans x17))⟩, by omega⟩
  · simp at h
    obtain rfl : i = l.length := by omega
    (repeat with_reducible first | refine js ?_ | refine ja ?_ | refine jw KL11 [14] TF11 fun _ => ?_)
    refine Run_ret ?_
    simp [Rets, RetM, resV, fnd, oneOr]
    exact y11
end Go.Proofs.YtoadfmgnpmcbfaaGreat
