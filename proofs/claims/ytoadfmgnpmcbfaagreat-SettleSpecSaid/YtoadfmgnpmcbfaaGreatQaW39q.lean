import Derived.Test.YtoadfmgnpmcbfaaGreatQaW39r
/- Chapter 39: the reference's Price, Post. -/
namespace Go.Proofs.YtoadfmgnpmcbfaaGreat
open Go Go.Fk
set_option linter.unusedSimpArgs false
set_option linter.unusedVariables false
set_option maxRecDepth 100000
theorem rfPrice39 (vl u0 u1 u2 vo v0 v1 v2 : Value) (t : TimeD) (f : TariffD) (l : List OrderD) (p : PlanD) (i : Nat) (w : World) (hl : Sl w vl t.Lines) (hT : TarR w f u0 u1 u2) (ho : Sl w vo l) (hP : PlanR w p v0 v1 v2) (ok : Ec.Ok t f l p) (hi : i < l.length) :
    Calls Tryz.prog 48 #[.agg (t.cs vl).toArray, .agg (f.cs u0 u1 u2).toArray, vo, .agg (p.cs v0 v1 v2).toArray, .int .i64 i] w fun e w' => e = .returned (.int .i64 (Ec.priceP t f l p i)) ∧ Ext w w' := by
  obtain ⟨q0, q1, _⟩ := Ec.price_eq ok hi
  have hip : i < p.Of.length := by rw [ok.ol]; exact hi
  have hgl : l.getD i default = l[i] := by simp [List.getD_eq_getElem?_getD, hi]
  have hgo : p.Of.getD i 0 = p.Of[i] := by simp [List.getD_eq_getElem?_getD, hip]
  have hpp : Ec.priceP t f l p i = (Tf.pri f l[i].Class (Ec.lineP t p p.Of[i]).Legs.length l[i].Crowd).1 := by unfold Ec.priceP; rw [hgl, hgo]
  obtain ⟨l0, l1, l2, l3, hC⟩ := lineC hl ok q0 q1
  rw [hgo] at hC
  rw [hpp]
  have hR := hC.l
  obtain ⟨g, _, o2, hO⟩ := ho.ord hi
  have hol := ho.len
  refine Calls_of_Run (args := [.agg (t.cs vl).toArray, .agg (f.cs u0 u1 u2).toArray, vo, .agg (p.cs v0 v1 v2).toArray, .int .i64 i]) (n := 39) (rs := [.tmp 10]) Tryz.func48 rfl rfl rfl (by simp) ?_
  (repeat with_reducible first | refine js ?_ | refine ja ?_ | refine jw KL48 [1] TF48 fun _ => ?_)
  refine SemW_box fun pt w1 h1 => SemW_box fun pf w2 h2 => SemW_box fun pp w3 h3 => ?_
  have x3 := h1.ext.trans (h2.ext.trans h3.ext)
  have t3 : AtN w3 pt 0 (t.cs vl) := (h1.at_.ext (h2.ext.trans h3.ext)).n
  have f3 : AtN w3 pf 0 (f.cs u0 u1 u2) := (h2.at_.ext h3.ext).n
  have p3 : AtN w3 pp 0 (p.cs v0 v1 v2) := h3.at_.n
  have o3 := (o2.ext x3).n
  obtain ⟨d1, d2, d3⟩ := (hP.o.ext x3).get hip
  generalize hxx : Ec.lineP t p p.Of[i] = x at *
  generalize hqq : p.Of[i] = q at *
  generalize hoo : l[i] = o at *
  simp only [TimeD.cs, TariffD.cs, PlanD.cs, OrderD.cs, AtN, KS, Nat.reduceAdd, Nat.reduceMul, Nat.reduceEqDiff, ↓reduceIte, UT] at t3 f3 p3 o3
  (repeat with_reducible first | refine js ?_ | refine ja ?_ | refine jw KL48 [1] (aa TF48 (aa t3 (aa f3 (aa p3 (aa ho.s (aa ho.len (aa o3 (aa hP.o.s (aa hP.o.len (aa d1 (aa d2 KX))))))))))) fun _ => ?_)
  refine ⟨.agg #[l0, l1, .int .i64 x.Classes, .int .i64 x.Room, l2, l3], PC_pure call52 fun w4 x4 => rfLine39 vl v0 v1 v2 t p q x l0 l1 l2 l3 w4 (hl.ext (x3.trans x4)) (hP.ext (x3.trans x4)) (hC.ext (x3.trans x4)), ?_⟩
  (repeat with_reducible first | refine js ?_ | refine ja ?_ | refine jw KL48 [1] (aa TF48 (aa t3 (aa f3 (aa p3 (aa ho.s (aa ho.len (aa o3 (aa hP.o.s (aa hP.o.len (aa d1 (aa d2 (aa hR.l.s (aa hR.l.len KX))))))))))))) fun _ => ?_)
  refine ⟨_, PC_pure call92 fun w4 x4 => rfPriceW f u0 u1 u2 _ _ _ w4 (hT.ext (x3.trans x4)), ⟨by simp, by simp⟩, ⟨by simp, by simp⟩, fun w4 x4 => ?_⟩
  (repeat with_reducible first | refine js ?_ | refine ja ?_ | refine jw KL48 [1] TF48 fun _ => ?_)
  refine Run_ret ?_
  simp [Rets, RetM, resV, fnd, oneOr, x3.trans x4]
set_option maxHeartbeats 1000000 in
theorem rfPost39O (vl u0 u1 u2 vo v0 v1 v2 : Value) (t : TimeD) (f : TariffD) (l : List OrderD) (p : PlanD) (w : World) (hl : Sl w vl t.Lines) (hT : TarR w f u0 u1 u2) (ho : Sl w vo l) (hP : PlanR w p v0 v1 v2) :
    Calls Tryz.prog 19 #[.agg (t.cs vl).toArray, .agg (f.cs u0 u1 u2).toArray, vo, .agg (p.cs v0 v1 v2).toArray] w (MvRO w (Ec.post t f l p)) := by
  have hol := ho.len
  have hrs := hP.r.small
  refine Calls_of_Run (args := [.agg (t.cs vl).toArray, .agg (f.cs u0 u1 u2).toArray, vo, .agg (p.cs v0 v1 v2).toArray]) (n := 46) (rs := [.tmp 8, .tmp 9]) Tryz.func19 rfl rfl rfl (by simp) ?_
  (repeat with_reducible first | refine js ?_ | refine ja ?_ | refine jw KL19 [] TF19 fun _ => ?_)
  refine SemW_box fun pt w1 h1 => SemW_box fun pf w2 h2 => SemW_box fun pp w3 h3 => ?_
  have x3 := h1.ext.trans (h2.ext.trans h3.ext)
  have T : ∀ w', Ext w3 w' → AtN w' pt 0 (t.cs vl) := fun w' x => (h1.at_.ext (h2.ext.trans (h3.ext.trans x))).n
  have F : ∀ w', Ext w3 w' → AtN w' pf 0 (f.cs u0 u1 u2) := fun w' x => (h2.at_.ext (h3.ext.trans x)).n
  have P : ∀ w', Ext w3 w' → AtN w' pp 0 (p.cs v0 v1 v2) := fun w' x => (h3.at_.ext x).n
  simp only [TimeD.cs, TariffD.cs, PlanD.cs, AtN, KS, Nat.reduceAdd, Nat.reduceMul, Nat.reduceEqDiff, ↓reduceIte, UT] at T F P
  have t3 := T w3 (Ext.refl _)
  have f3 := F w3 (Ext.refl _)
  have p3 := P w3 (Ext.refl _)
  (repeat with_reducible first | refine js ?_ | refine ja ?_ | refine jw KL19 [] (aa TF19 (aa t3 (aa f3 p3))) fun _ => ?_)
  refine rerrW (hl.ext x3) (hT.ext x3) (ho.ext x3) (hP.ext x3) fun w4 x4 => ?_
  have y4 := x3.trans x4
  (repeat with_reducible first | refine js ?_ | refine ja ?_ | refine jw KL19 [] TF19 fun _ => ?_)
  refine Run_condS (fun _ => rfl) (fun h => ?_) (fun h => ?_)
  · have hc : Ec.err t f l p ≠ 0 := by simpa using h
    (repeat with_reducible first | refine js ?_ | refine ja ?_ | refine jw KL19 [] TF19 fun _ => ?_)
    refine Run_ret ?_
    simp [Rets, RetM, resV, fnd, oneOr, MvRO, Ec.post, hc, y4]
    exact ⟨Sl.nil _, BufO.nil⟩
  have hc : Ec.err t f l p = 0 := by simpa using h
  clear h
  have ok := Ec.err_ok hc
  have hres : Ec.post t f l p = (Ec.posts t f l p l.length, 0) := by unfold Ec.post; rw [if_neg (by simp [hc])]
  rw [hres]
  have hn64 := ok.o.n
  (repeat with_reducible first | refine js ?_ | refine ja ?_ | refine jw KL19 [] TF19 fun _ => ?_)
  have bP : pp.block < w4.heap.size := by have := h3.at_.blk; have := x4.size; omega
  have bF : pf.block < w4.heap.size := by have := h2.at_.blk; have := x4.size; have := h3.size; omega
  have bT : pt.block < w4.heap.size := by have := h1.at_.blk; have := x4.size; have := h3.size; have := h2.size; omega
  have s4 := y4.size
  refine Run_loopV [11, 12, 24] (σ := Nat × Value) (fun q => [(12, some (.int .i64 q.1)), (11, some q.2)]) (fun q w' => q.1 ≤ l.length ∧ BufO (α := MoveD) 70 w4.heap.size w' q.2 (Ec.posts t f l p q.1) ∧ Ext w4 w') (fun q => l.length - q.1) (0, .slice none 0 0) (by simp [SubB, fnd]) ⟨by simp, BufO.nil, Ext.refl _⟩ ?_
  rintro ⟨k, vm⟩ w5 ⟨hk, hB, x5⟩
  simp only at hk hB
  have y5 := y4.trans x5
  (repeat with_reducible first | refine js ?_ | refine ja ?_ | refine jw KL19 [] (aa TF19 (aa ho.s ho.len)) fun _ => ?_)
  refine Run_condS (fun _ => rfl) (fun h => ?_) (fun h => ?_)
  · simp at h
    have hkl := h
    have hkp : k < p.Of.length := by rw [ok.ol]; exact hkl
    have hgo : p.Of.getD k 0 = p.Of[k] := by simp [List.getD_eq_getElem?_getD, hkp]
    have hpb := Ec.price_bd t f l p k
    have hsucc := Ec.posts_succ t f l p k
    have hpm : Ec.postM t f l p k = ⟨(k : Int), 51 + k, 2, Ec.priceP t f l p k, 1, p.Of[k]⟩ := by unfold Ec.postM; rw [hgo]
    have hplen := Ec.posts_len t f l p k
    obtain ⟨q0, q1, _⟩ := Ec.price_eq ok hkl
    rw [hgo] at q0 q1
    let S : Nat → Prop := fun k => some k ≠ vm.ownBlock
    have hS : ∀ q, q < w4.heap.size → S q := fun q hq e => by have := (hB.own_lt e.symm).1; omega
    have bO : (slAt v1).block < w4.heap.size := by have := hP.o.blk (by decide) hkp; omega
    (repeat with_reducible first | refine jq ?_ | refine jk ?_ | refine jc ?_ | refine jl ?_ | refine jb ?_ | refine jo ?_ | refine ji ?_ | refine jx rfl ?_)
    refine Run_eh S [17] [(4, [9, 17]), (5, [9, 17]), (7, [9, 17]), (11, [13, 14, 15, 16, 17]), (14, [15, 16, 17])] (id := 8) KL19 (.first 0 (.first 1 (.first 2 (.first 3 (.first 4 (.first 5 (.first 6 (.first 7 (.first 8 (.first 10 (.first 11 (.first 12 (.first 13 (.first 14 (.alt true 9 (.first 15 (.alt true 16 (.alt true 17 (.free (.first 18 .done)) .stop) .stop)) .stop))))))))))))))) mixed (by kernel_rfl) (by kernel_rfl) fun w6 x6 _ => ?_
    have y6 := y5.trans x6
    have z6 := x4.trans (x5.trans x6)
    have t6 := T w6 z6
    have f6 := F w6 z6
    have p6 := P w6 z6
    obtain ⟨d1, d2, d3⟩ := (hP.o.ext y6).get hkp
    generalize hqq : p.Of[k] = q at *
    (try simp (maxSteps := 5000000) only [KS, Nat.reduceAdd, Nat.reduceMul, Nat.reduceEqDiff, ↓reduceIte, forall_const, Int.cast_ofNat_Int, Int.reduceToNat, List.take_succ_cons, List.take_zero, List.drop_succ_cons, List.drop_zero, TF19, KL19, eh, gres, qopS, putL, ung, t6, f6, p6, hP.o.s, hP.o.len, d1, d2]); (try simp (disch := omega) only [wrapI, tmodI, tdivI])
    have s6 := (x5.trans x6).size
    refine ⟨hS _ bT, hS _ bF, hS _ bP, hS _ bP, ⟨by omega, by omega⟩, hS _ (by rw [blk_add]; exact bO), Keep.refl _ _, ?_⟩
    refine CallW_pure call48 (rfPrice39 vl u0 u1 u2 vo v0 v1 v2 t f l p k w6 (hl.ext y6) (hT.ext y6) (ho.ext y6) (hP.ext y6) ok hkl) fun w7 x7 => ?_
    refine ⟨.agg (⟨(k : Int), 51 + k, 2, Ec.priceP t f l p k, 1, q⟩ : MoveD).cs.toArray, fun w' => by kernel_rfl, Keep.of_ext x7, ?_⟩
    have hB7 := hB.keep (Keep.of_ext (S := fun _ => True) (x6.trans x7)) fun _ _ _ => trivial
    have s7 := x7.size
    refine SemW_append1G (α := MoveD) (B := w4.heap.size) (X := .agg (⟨(k : Int), 51 + k, 2, Ec.priceP t f l p k, 1, q⟩ : MoveD).cs.toArray) (x := ⟨(k : Int), 51 + k, 2, Ec.priceP t f l p k, 1, q⟩) Tryz.underlying35 ti70 rfl (by decide) hB7 (by omega) ⟨rfl, by simp only [I64]; omega⟩ (by rw [hplen]; simp only [maxLen]; omega) (fun w' x => (Keep.of_ext x7).trans (Keep.of_ext x)) fun s v' w8 b8 k8 _ => ?_
    rw [← hpm, ← hsucc] at b8
    (repeat with_reducible first | refine js ?_ | refine ja ?_ | refine jw KL19 [] TF19 fun _ => ?_)
    refine Run_lp ⟨(k + 1, v'), ?_, ⟨by simp only; omega, b8, Keep.ext (x5.trans (x6.trans x7)) k8 hS⟩, by simp only; omega⟩
    simp [SubB, fnd, strike, has]
  · simp at h
    obtain rfl : k = l.length := by omega
    (repeat with_reducible first | refine js ?_ | refine ja ?_ | refine jw KL19 [] TF19 fun _ => ?_)
    refine Run_ret ?_
    simp [Rets, RetM, resV, fnd, oneOr, MvRO]
    exact ⟨y5, hB.sl (by rw [Ec.posts_len]; omega), hB.mono s4⟩
end Go.Proofs.YtoadfmgnpmcbfaaGreat
/- Chapter 39: the reference's Pay. -/
namespace Go.Proofs.YtoadfmgnpmcbfaaGreat
open Go Go.Fk
set_option linter.unusedSimpArgs false
set_option linter.unusedVariables false
set_option maxRecDepth 100000
theorem rlineW {vl v0 v1 v2 : Value} {t : TimeD} {p : PlanD} {run : Int} {x : LineD} {l0 l1 l2 l3 : Value} {w : World} {K : Value → World → Prop} (hl : Sl w vl t.Lines) (hP : PlanR w p v0 v1 v2) (hx : LineC w vl t p run x l0 l1 l2 l3) (hK : ∀ w', Ext w w' → K (.agg #[l0, l1, .int .i64 x.Classes, .int .i64 x.Room, l2, l3]) w') :
    CallW Tryz.prog (.func (.func 52) #[] #[]) [.agg #[.int .i64 t.Offices, vl], .agg #[v0, v1, v2], .int .i64 run] w K := CallW_pure call52 (rfLine39 vl v0 v1 v2 t p run x l0 l1 l2 l3 w hl hP hx) hK
theorem rpriceW {vl u0 u1 u2 vo v0 v1 v2 : Value} {t : TimeD} {f : TariffD} {l : List OrderD} {p : PlanD} {i : Nat} {w : World} {K : Value → World → Prop} (hl : Sl w vl t.Lines) (hT : TarR w f u0 u1 u2) (ho : Sl w vo l) (hP : PlanR w p v0 v1 v2) (ok : Ec.Ok t f l p) (hi : i < l.length) (hK : ∀ w', Ext w w' → K (.int .i64 (Ec.priceP t f l p i)) w') :
    CallW Tryz.prog (.func (.func 48) #[] #[]) [.agg #[.int .i64 t.Offices, vl], .agg #[u0, u1, u2], vo, .agg #[v0, v1, v2], .int .i64 i] w K := CallW_pure call48 (rfPrice39 vl u0 u1 u2 vo v0 v1 v2 t f l p i w hl hT ho hP ok hi) hK
set_option maxHeartbeats 8000000 in
theorem rfPay39 (vl u0 u1 u2 vo v0 v1 v2 : Value) (t : TimeD) (f : TariffD) (l : List OrderD) (p : PlanD) (run handed : Int) (w : World) (hl : Sl w vl t.Lines) (hT : TarR w f u0 u1 u2) (ho : Sl w vo l) (hP : PlanR w p v0 v1 v2) (hrI : I64 run) :
    Calls Tryz.prog 22 #[.agg (t.cs vl).toArray, .agg (f.cs u0 u1 u2).toArray, vo, .agg (p.cs v0 v1 v2).toArray, .int .i64 run, .int .i64 handed] w (MvR w (Ec.pay t f l p run handed)) := by
  have hol := ho.len
  have hrs := hP.r.small
  have hrl := hP.r.len
  have hrr : -9223372036854775808 ≤ run ∧ run ≤ 9223372036854775807 := hrI
  refine Calls_of_Run (args := [.agg (t.cs vl).toArray, .agg (f.cs u0 u1 u2).toArray, vo, .agg (p.cs v0 v1 v2).toArray, .int .i64 run, .int .i64 handed]) (n := 136) (rs := [.tmp 12, .tmp 13]) Tryz.func22 rfl rfl rfl (by simp) ?_
  (repeat with_reducible first | refine js ?_ | refine ja ?_ | refine jw KL22 [17] TF22 fun _ => ?_)
  refine SemW_box fun pt w1 h1 => SemW_box fun pf w2 h2 => SemW_box fun pp w3 h3 => ?_
  have x3 := h1.ext.trans (h2.ext.trans h3.ext)
  have T : ∀ w', Ext w3 w' → AtN w' pt 0 (t.cs vl) := fun w' x => (h1.at_.ext (h2.ext.trans (h3.ext.trans x))).n
  have F : ∀ w', Ext w3 w' → AtN w' pf 0 (f.cs u0 u1 u2) := fun w' x => (h2.at_.ext (h3.ext.trans x)).n
  have P : ∀ w', Ext w3 w' → AtN w' pp 0 (p.cs v0 v1 v2) := fun w' x => (h3.at_.ext x).n
  simp only [TimeD.cs, TariffD.cs, PlanD.cs, AtN, KS, Nat.reduceAdd, Nat.reduceMul, Nat.reduceEqDiff, ↓reduceIte, UT] at T F P
  have t3 := T w3 (Ext.refl _)
  have f3 := F w3 (Ext.refl _)
  have p3 := P w3 (Ext.refl _)
  (repeat with_reducible first | refine js ?_ | refine ja ?_ | refine jw KL22 [17] (aa TF22 (aa t3 (aa f3 p3))) fun _ => ?_)
  refine rerrW (hl.ext x3) (hT.ext x3) (ho.ext x3) (hP.ext x3) fun w4 x4 => ?_
  have y4 := x3.trans x4
  (repeat with_reducible first | refine js ?_ | refine ja ?_ | refine jw KL22 [17] TF22 fun _ => ?_)
  refine Run_condS (fun _ => rfl) (fun h => ?_) (fun h => ?_)
  · have hc : Ec.err t f l p ≠ 0 := by simpa using h
    (repeat with_reducible first | refine js ?_ | refine ja ?_ | refine jw KL22 [17] TF22 fun _ => ?_)
    refine Run_ret ?_
    simp [Rets, RetM, resV, fnd, oneOr, MvR, Ec.pay, hc, y4]
    exact Sl.nil _
  have hc : Ec.err t f l p = 0 := by simpa using h
  clear h
  have ok := Ec.err_ok hc
  have hres : Ec.pay t f l p run handed = if run < 0 ∨ p.Runs.length ≤ run ∨ handed < 0 ∨ (Ec.lineP t p run).Legs.length < handed then ([], 1) else (Ec.pays t f l p run handed.toNat l.length, 0) := by unfold Ec.pay; rw [if_neg (by simp [hc])]
  have hn64 := ok.o.n
  have p4 := P w4 x4
  have t4 := T w4 x4
  have bP : pp.block < w4.heap.size := by have := h3.at_.blk; have := x4.size; omega
  have bF : pf.block < w4.heap.size := by have := h2.at_.blk; have := x4.size; have := h3.size; omega
  have bT : pt.block < w4.heap.size := by have := h1.at_.blk; have := x4.size; have := h3.size; have := h2.size; omega
  have s4 := y4.size
  by_cases hr0 : 0 ≤ run ∧ run < p.Runs.length
  · by_cases hh0 : 0 ≤ handed
    · have e0 : decide (run < 0) = false := by simp; omega
      have e1 : decide ((p.Runs.length : Int) ≤ run) = false := by simp; omega
      have e2 : decide (handed < 0) = false := by simp; omega
      obtain ⟨l0, l1, l2, l3, hC⟩ := lineC (hl.ext y4) ok hr0.1 hr0.2
      obtain ⟨_, _, _, _, hlo⟩ := line_at ok hr0.1 hr0.2
      have hR := hC.l
      have hxs := hlo.s
      have hoff := (Tt.chk_ok ok.o.t).o
      have ox9 := hlo.o9
      have oxl := hlo.l1
      (repeat with_reducible first | refine js ?_ | refine ja ?_ | refine jw KL22 [17] (aa TF22 (aa p4 (aa t4 (aa hP.r.s (aa hP.r.len (aa e0 (aa e1 (aa e2 KX)))))))) fun _ => ?_)
      refine .inl (rlineW (hl.ext y4) (hP.ext y4) hC fun w5 x5 => ?_)
      unfold hush
      have y5 := y4.trans x5
      (repeat with_reducible first | refine js ?_ | refine ja ?_ | refine jw KL22 [17] (aa TF22 (aa p4 (aa hP.r.s (aa hP.r.len (aa hR.l.s (aa hR.l.len (aa e0 (aa e1 (aa e2 KX))))))))) fun _ => ?_)
      refine Run_condS (fun _ => rfl) (fun h => ?_) (fun h => ?_)
      · simp at h
        rw [if_pos (by omega)] at hres
        (repeat with_reducible first | refine js ?_ | refine ja ?_ | refine jw KL22 [17] TF22 fun _ => ?_)
        refine Run_ret ?_
        simp [Rets, RetM, resV, fnd, oneOr, MvR, hres, y5]
        exact Sl.nil _
      simp at h
      rw [if_neg (by omega)] at hres
      rw [hres]
      obtain ⟨hh, hhd⟩ : ∃ hh : Nat, handed = (hh : Int) := ⟨handed.toNat, by omega⟩
      subst hhd
      rw [Int.toNat_natCast]
      have hnh : hh ≤ (Ec.lineP t p run).Legs.length := by omega
      clear h hres e0 e1 e2
      have hmle := Ec.pays_len t f l p run hh l.length
      have hmle2 : l.length * (hh + 1) ≤ 64 * 9 := Nat.mul_le_mul hn64 (by omega)
      generalize hxx : Ec.lineP t p run = x at *
      have hone := hR.one
      simp only [LineD.cs] at hone
      have p5 := P w5 (x4.trans x5)
      have t5 := T w5 (x4.trans x5)
      (repeat with_reducible first | refine js ?_ | refine ja ?_ | refine jw KL22 [17] (aa TF22 (aa p5 t5)) fun _ => ?_)
      refine rlineW (hl.ext y5) (hP.ext y5) (hC.ext x5) fun w6 x6 => ?_
      (repeat with_reducible first | refine js ?_ | refine ja ?_ | refine jw KL22 [17] TF22 fun _ => ?_)
      refine SemW_allocT ti52 fun px w7 h7 => ?_
      have b7 := h7.blk
      have s7 := h7.size
      (repeat with_reducible first | refine js ?_ | refine ja ?_ | refine jw KL22 [17] TF22 fun _ => ?_)
      refine SemW_setW (by rw [cells52]; decide) (by rw [cells52]; rfl) h7.row (by rw [cells52]; rfl) (by simpa [Value.cells] using hone) fun w8 r8 k8 z8 => ?_
      have r8 : Row w8 px 52 (x.cs l0 l1 l2 l3) := by simpa [Value.cells, LineD.cs] using r8
      have x8 : Ext w6 w8 := Keep.ext h7.ext k8 fun q hq => by omega
      have x48 := x5.trans (x6.trans x8)
      have y8 := y4.trans x48
      have hR8 := hR.ext x48
      have bx := r8.lt
      have s8 := x48.size
      (repeat with_reducible first | refine js ?_ | refine ja ?_ | refine jw KL22 [17] TF22 fun _ => ?_)
      refine Run_loopV [16, 17, 18, 19, 58, 67, 76, 116] (σ := Nat × Value) (fun q => [(17, some (.int .i64 q.1)), (16, some q.2)]) (fun q w' => q.1 ≤ l.length ∧ BufO (α := MoveD) 70 w8.heap.size w' q.2 (Ec.pays t f l p run hh q.1) ∧ Ext w8 w') (fun q => l.length - q.1) (0, .slice none 0 0) (by simp [SubB, fnd]) ⟨by simp, BufO.nil, Ext.refl _⟩ ?_
      rintro ⟨i, vm⟩ w9 ⟨hi, hB, x9⟩
      simp only at hi hB
      have y9 := y8.trans x9
      have z9 := x4.trans (x48.trans x9)
      (repeat with_reducible first | refine js ?_ | refine ja ?_ | refine jw KL22 [17] (aa TF22 (aa ho.s ho.len)) fun _ => ?_)
      refine Run_condS (fun _ => rfl) (fun h => ?_) (fun h => ?_)
      · simp at h
        have hil := h
        have hip : i < p.Of.length := by rw [ok.ol]; exact hil
        have hgo : p.Of.getD i 0 = p.Of[i] := by simp [List.getD_eq_getElem?_getD, hip]
        have hgl : l.getD i default = l[i] := by simp [List.getD_eq_getElem?_getD, hil]
        have hsu : Ec.pays t f l p run hh (i + 1) = Ec.pays t f l p run hh i ++ if p.Of[i] = run then Ec.payO t f l p run hh i (Ec.pays t f l p run hh i).length else [] := by simp only [Ec.pays]; rw [hgo]
        have hpl := Ec.pays_len t f l p run hh i
        have hpl2 : i * (hh + 1) ≤ 64 * 9 := Nat.mul_le_mul (by omega) (by omega)
        have hpb := Ec.price_bd t f l p i
        have hpay : Ec.payO t f l p run hh i (Ec.pays t f l p run hh i).length = Ec.legMs x (Tf.leg f l[i].Class) run (Ec.pays t f l p run hh i).length hh ++ [Ec.lastM x run (Ec.priceP t f l p i - hh * Tf.leg f l[i].Class) hh i ((Ec.pays t f l p run hh i).length + hh)] := by unfold Ec.payO; rw [hxx, hgl]
        obtain ⟨_, _, _, _, hcl, _⟩ := Ec.price_eq ok hil
        rw [hgl] at hcl
        generalize Ec.payO t f l p run hh i (Ec.pays t f l p run hh i).length = PO at *
        generalize Ec.pays t f l p run hh i = M at *
        have p9 := P w9 z9
        obtain ⟨d1, d2, d3⟩ := (hP.o.ext y9).get hip
        (repeat with_reducible first | refine js ?_ | refine ja ?_ | refine jw KL22 [17] (aa TF22 (aa p9 (aa hP.o.s (aa hP.o.len (aa d1 d2))))) fun _ => ?_)
        refine Run_condS (fun _ => rfl) (fun h => ?_) (fun h => ?_)
        · simp at h
          rw [if_neg h, List.append_nil] at hsu
          (repeat with_reducible first | refine js ?_ | refine ja ?_ | refine jw KL22 [17] TF22 fun _ => ?_)
          refine Run_lp ⟨(i + 1, vm), ?_, ⟨by simp only; omega, by simp only; rw [hsu]; exact hB, x9⟩, by simp only; omega⟩
          simp [SubB, fnd, strike, has]
        simp at h
        rw [if_pos h, hpay] at hsu
        have f9 := F w9 z9
        have t9 := T w9 z9
        (repeat with_reducible first | refine js ?_ | refine ja ?_ | refine jw KL22 [17] (aa TF22 (aa p9 (aa f9 t9))) fun _ => ?_)
        refine rpriceW (hl.ext y9) (hT.ext y9) (ho.ext y9) (hP.ext y9) ok hil fun w10 x10 => ?_
        have y10 := y9.trans x10
        have z10 := z9.trans x10
        have hB10 := hB.keep (Keep.of_ext (S := fun _ => True) x10) fun _ _ _ => trivial
        obtain ⟨g, _, o2, hO⟩ := ho.ord hil
        have bO : (slAt vo).block < w.heap.size := ho.blk (by decide) hil
        generalize Ec.priceP t f l p i = pri at *
        generalize l[i] = o at *
        have hlb := Tf.leg_bd ok.o.f o.Class
        have hcf : o.Class.toNat < f.Leg.length := by have := (Tf.chk_ok ok.o.f).n; omega
        have hlg : f.Leg[o.Class.toNat] = Tf.leg f o.Class := by unfold Tf.leg; simp [List.getD_eq_getElem?_getD, hcf]
        have bL : (slAt u1).block < w.heap.size := hT.l.blk (by decide) hcf
        have hu1 := hT.l.len
        have s9 := x9.size
        have s10 := x10.size
        (repeat with_reducible first | refine js ?_ | refine ja ?_ | refine jw KL22 [17] TF22 fun _ => ?_)
        refine Run_loopV [16, 18, 19, 76] (σ := Nat × Value) (fun q => [(19, some (.int .i64 q.1)), (16, some q.2), (18, some (.int .i64 (pri - q.1 * Tf.leg f o.Class)))]) (fun q w' => q.1 ≤ hh ∧ BufO (α := MoveD) 70 w8.heap.size w' q.2 (M ++ Ec.legMs x (Tf.leg f o.Class) run M.length q.1) ∧ Ext w8 w') (fun q => hh - q.1) (0, vm) (by simp [SubB, fnd]) ⟨by simp, by simpa [Ec.legMs] using hB10, x9.trans x10⟩ ?_
        rintro ⟨k, vk⟩ w11 ⟨hk, hBk, x11⟩
        simp only at hk hBk
        have hvk := hBk.isS
        have hmk : (M ++ Ec.legMs x (Tf.leg f o.Class) run M.length k).length = M.length + k := by rw [List.length_append, Ec.legMs_len]
        rw [hmk] at hvk
        have hq0 : 0 ≤ (k : Int) * Tf.leg f o.Class := Int.mul_nonneg (by omega) hlb.1
        have hq1 : (k : Int) * Tf.leg f o.Class ≤ 8 * 1048576 := Int.mul_le_mul (by omega) hlb.2 hlb.1 (by omega)
        have hq2 : ((k + 1 : Nat) : Int) * Tf.leg f o.Class = k * Tf.leg f o.Class + Tf.leg f o.Class := by rw [Int.natCast_add, Int.add_mul]; simp
        have y11 := y8.trans x11
        have z11 := x4.trans (x48.trans x11)
        (repeat with_reducible first | refine js ?_ | refine ja ?_ | refine jw KL22 [17] TF22 fun _ => ?_)
        refine Run_condS (fun _ => rfl) (fun h => ?_) (fun h => ?_)
        · simp at h
          have hkh : k < hh := by omega
          have hko : k < x.Offices.length := by omega
          let S : Nat → Prop := fun q => some q ≠ vk.ownBlock
          have hS : ∀ q, q < w8.heap.size → S q := fun q hq e => by have := (hBk.own_lt e.symm).1; omega
          have bOf : (slAt l0).block < w8.heap.size := hR8.o.blk (by decide) hko
          (repeat with_reducible first | refine jq ?_ | refine jk ?_ | refine jc ?_ | refine jl ?_ | refine jb ?_ | refine jo ?_ | refine ji ?_ | refine jx rfl ?_)
          refine Run_eh S [21] [(4, [6, 7, 8, 19, 20, 21]), (7, [8, 19, 20, 21]), (10, [16, 17, 19, 20, 21]), (15, [16, 17, 19, 20, 21]), (17, [19, 20, 21])] (id := 16) KL22 (.first 0 (.first 1 (.first 2 (.first 3 (.first 4 (.first 5 (.first 6 (.first 7 (.first 8 (.first 9 (.first 10 (.first 11 (.first 12 (.first 13 (.first 14 (.first 15 (.first 16 (.first 17 (.first 18 (.first 19 (.alt true 20 (.alt true 21 (.free (.first 22 .done)) .stop) .stop))))))))))))))))))))) mixed (by kernel_rfl) (by kernel_rfl) fun w12 x12 _ => ?_
          have y12 := y11.trans x12
          have lx12 := (r8.at_.ext (x11.trans x12)).n
          have f12 := F w12 (z11.trans x12)
          have o12 := (o2.ext y12).n
          obtain ⟨e1, e2, e3⟩ := (hR8.o.ext (x11.trans x12)).get hko
          obtain ⟨c1, c2, c3⟩ := (hT.l.ext y12).get hcf
          have hob := hxs x.Offices[k] (List.getElem_mem hko)
          have hgd : x.Offices.getD k 0 = x.Offices[k] := by simp [List.getD_eq_getElem?_getD, hko]
          rw [hlg] at c1
          generalize x.Offices[k] = of at *
          simp only [LineD.cs, OrderD.cs, AtN, KS, Nat.reduceAdd, Nat.reduceMul, Nat.reduceEqDiff, ↓reduceIte, UT] at lx12 o12
          (try simp (maxSteps := 5000000) only [KS, Nat.reduceAdd, Nat.reduceMul, Nat.reduceEqDiff, ↓reduceIte, forall_const, Int.cast_ofNat_Int, Int.reduceToNat, List.take_succ_cons, List.take_zero, List.drop_succ_cons, List.drop_zero, TF22, KL22, eh, gres, qopS, putL, ung, hvk.1, hvk.2, lx12, f12, hR.o.s, hR.o.len, e1, e2, ho.s, ho.len, o12, hT.l.s, hT.l.len, c1, c2]); (try simp (disch := omega) only [wrapI, tmodI, tdivI])
          have s11 := x11.size
          have s12 := x12.size
          have hB12 := hBk.keep (Keep.of_ext (S := fun _ => True) x12) fun _ _ _ => trivial
          refine ⟨hS _ bx, by omega, hS _ (by rw [blk_add]; exact bOf), hS _ (show pf.block < w8.heap.size by omega), by omega, hS _ (by rw [blk_add]; omega), by omega, hS _ (by rw [blk_add]; omega), .agg (⟨(M.length + k : Nat), 2, 3 + of, Tf.leg f o.Class, 2, run⟩ : MoveD).cs.toArray, fun w' => by kernel_rfl, Keep.refl _ _, ?_⟩
          refine SemW_append1G (α := MoveD) (B := w8.heap.size) (X := .agg (⟨(M.length + k : Nat), 2, 3 + of, Tf.leg f o.Class, 2, run⟩ : MoveD).cs.toArray) (x := ⟨(M.length + k : Nat), 2, 3 + of, Tf.leg f o.Class, 2, run⟩) Tryz.underlying35 ti70 rfl (by decide) hB12 (by omega) ⟨rfl, by simp only [I64]; omega⟩ (by rw [hmk]; simp only [maxLen]; omega) (fun w' x => Keep.of_ext x) fun s v' w13 b13 k13 _ => ?_
          have hE : M ++ Ec.legMs x (Tf.leg f o.Class) run M.length k ++ [⟨(M.length + k : Nat), 2, 3 + of, Tf.leg f o.Class, 2, run⟩] = M ++ Ec.legMs x (Tf.leg f o.Class) run M.length (k + 1) := by
            rw [Ec.legMs_succ, ← List.append_assoc, show Ec.legM x (Tf.leg f o.Class) run M.length k = ⟨(M.length + k : Nat), 2, 3 + of, Tf.leg f o.Class, 2, run⟩ by unfold Ec.legM; rw [hgd]]
          rw [hE] at b13
          have x13 : Ext w8 w13 := Keep.ext (x11.trans x12) k13 hS
          have y13 := y8.trans x13
          have f13 := F w13 (x4.trans (x48.trans x13))
          have o13 := (o2.ext y13).n
          obtain ⟨c1', c2', _⟩ := (hT.l.ext y13).get hcf
          rw [hlg] at c1'
          simp only [OrderD.cs, AtN, KS, Nat.reduceAdd, Nat.reduceMul, Nat.reduceEqDiff, ↓reduceIte, UT] at o13
          (repeat with_reducible first | refine js ?_ | refine ja ?_ | refine jw KL22 [17] (aa TF22 (aa f13 (aa ho.s (aa ho.len (aa o13 (aa hT.l.s (aa hT.l.len (aa c1' c2')))))))) fun _ => ?_)
          intro w14 x14
          have b14 := b13.keep (Keep.of_ext (S := fun _ => True) x14) fun _ _ _ => trivial
          (repeat with_reducible first | refine js ?_ | refine ja ?_ | refine jw KL22 [17] TF22 fun _ => ?_)
          refine Run_lp ⟨(k + 1, v'), ?_, ⟨by simp only; omega, b14, x13.trans x14⟩, by simp only; omega⟩
          simp [SubB, fnd, strike, has]
          rw [Int.add_mul]; omega
        · simp at h
          obtain rfl : k = hh := by omega
          have lx11 := (r8.at_.ext x11).n
          simp only [LineD.cs, AtN, KS, Nat.reduceAdd, Nat.reduceMul, Nat.reduceEqDiff, ↓reduceIte, UT] at lx11
          (repeat with_reducible first | refine js ?_ | refine ja ?_ | refine jw KL22 [17] (aa TF22 (aa lx11 (aa hR.l.s hR.l.len))) fun _ => ?_)
          refine Run_condS (fun _ => rfl) (fun h => ?_) (fun h => ?_)
          · simp at h
            have hlM : Ec.lastM x run (pri - k * Tf.leg f o.Class) k i (M.length + k) = ⟨(M.length + k : Nat), 2, 1, pri - k * Tf.leg f o.Class, 3, run⟩ := by unfold Ec.lastM; rw [if_pos (by omega)]
            rw [hlM, ← List.append_assoc] at hsu
            (repeat with_reducible first | refine js ?_ | refine ja ?_ | refine jw KL22 [17] (aa TF22 (aa hvk.1 hvk.2)) fun _ => ?_)
            refine ⟨.agg (⟨(M.length + k : Nat), 2, 1, pri - k * Tf.leg f o.Class, 3, run⟩ : MoveD).cs.toArray, fun w' => by kernel_rfl, ?_⟩
            refine SemW_append1FO (α := MoveD) (X := .agg (⟨(M.length + k : Nat), 2, 1, pri - k * Tf.leg f o.Class, 3, run⟩ : MoveD).cs.toArray) (x := ⟨(M.length + k : Nat), 2, 1, pri - k * Tf.leg f o.Class, 3, run⟩) Tryz.underlying35 ti70 rfl (by decide) hBk x11.size ⟨rfl, by simp only [I64]; omega⟩ (by rw [hmk]; simp only [maxLen]; omega) fun s v' w12 b12 k12 => ?_
            rw [← hsu] at b12
            (repeat with_reducible first | refine js ?_ | refine ja ?_ | refine jw KL22 [17] TF22 fun _ => ?_)
            refine Run_lp ⟨(i + 1, v'), ?_, ⟨by simp only; omega, b12, Keep.ext x11 k12 fun q hq e => by have := (hBk.own_lt e.symm).1; omega⟩, by simp only; omega⟩
            simp [SubB, fnd, strike, has]
          · simp at h
            have hlM : Ec.lastM x run (pri - k * Tf.leg f o.Class) k i (M.length + k) = ⟨(M.length + k : Nat), 2, 51 + i, pri - k * Tf.leg f o.Class, 4, run⟩ := by unfold Ec.lastM; rw [if_neg (by omega)]
            rw [hlM, ← List.append_assoc] at hsu
            (repeat with_reducible first | refine js ?_ | refine ja ?_ | refine jw KL22 [17] (aa TF22 (aa hvk.1 hvk.2)) fun _ => ?_)
            refine ⟨.agg (⟨(M.length + k : Nat), 2, 51 + i, pri - k * Tf.leg f o.Class, 4, run⟩ : MoveD).cs.toArray, fun w' => by kernel_rfl, ?_⟩
            refine SemW_append1FO (α := MoveD) (X := .agg (⟨(M.length + k : Nat), 2, 51 + i, pri - k * Tf.leg f o.Class, 4, run⟩ : MoveD).cs.toArray) (x := ⟨(M.length + k : Nat), 2, 51 + i, pri - k * Tf.leg f o.Class, 4, run⟩) Tryz.underlying35 ti70 rfl (by decide) hBk x11.size ⟨rfl, by simp only [I64]; omega⟩ (by rw [hmk]; simp only [maxLen]; omega) fun s v' w12 b12 k12 => ?_
            rw [← hsu] at b12
            (repeat with_reducible first | refine js ?_ | refine ja ?_ | refine jw KL22 [17] TF22 fun _ => ?_)
            refine Run_lp ⟨(i + 1, v'), ?_, ⟨by simp only; omega, b12, Keep.ext x11 k12 fun q hq e => by have := (hBk.own_lt e.symm).1; omega⟩, by simp only; omega⟩
            simp [SubB, fnd, strike, has]
      · simp at h
        obtain rfl : i = l.length := by omega
        (repeat with_reducible first | refine js ?_ | refine ja ?_ | refine jw KL22 [17] TF22 fun _ => ?_)
        refine Run_ret ?_
        simp [Rets, RetM, resV, fnd, oneOr, MvR]
        exact ⟨y9, hB.sl (by omega)⟩
    · have e0 : decide (run < 0) = false := by simp; omega
      have e1 : decide ((p.Runs.length : Int) ≤ run) = false := by simp; omega
      have e2 : decide (handed < 0) = true := by simp; omega
      rw [if_pos (by omega)] at hres
      (repeat with_reducible first | refine js ?_ | refine ja ?_ | refine jw KL22 [17] (aa TF22 (aa p4 (aa t4 (aa hP.r.s (aa hP.r.len (aa e0 (aa e1 (aa e2 KX)))))))) fun _ => ?_)
      refine .inl ?_
      unfold hush
      (repeat with_reducible first | refine js ?_ | refine ja ?_ | refine jw KL22 [17] (aa TF22 (aa p4 (aa t4 (aa hP.r.s (aa hP.r.len (aa e0 (aa e1 (aa e2 KX)))))))) fun _ => ?_)
      refine Run_condS (fun _ => rfl) (fun _ => ?_) (fun h => by cases h)
      (repeat with_reducible first | refine js ?_ | refine ja ?_ | refine jw KL22 [17] TF22 fun _ => ?_)
      refine Run_ret ?_
      simp [Rets, RetM, resV, fnd, oneOr, MvR, hres, y4]
      exact Sl.nil _
  · rw [if_pos (by omega)] at hres
    by_cases e : run < 0
    · have e0 : decide (run < 0) = true := by simp; omega
      (repeat with_reducible first | refine js ?_ | refine ja ?_ | refine jw KL22 [17] (aa TF22 (aa e0 KX)) fun _ => ?_)
      refine .inl ?_
      unfold hush
      (repeat with_reducible first | refine js ?_ | refine ja ?_ | refine jw KL22 [17] (aa TF22 (aa e0 KX)) fun _ => ?_)
      refine Run_condS (fun _ => rfl) (fun _ => ?_) (fun h => by cases h)
      (repeat with_reducible first | refine js ?_ | refine ja ?_ | refine jw KL22 [17] TF22 fun _ => ?_)
      refine Run_ret ?_
      simp [Rets, RetM, resV, fnd, oneOr, MvR, hres, y4]
      exact Sl.nil _
    · have e0 : decide (run < 0) = false := by simp; omega
      have e1 : decide ((p.Runs.length : Int) ≤ run) = true := by simp; omega
      (repeat with_reducible first | refine js ?_ | refine ja ?_ | refine jw KL22 [17] (aa TF22 (aa p4 (aa hP.r.s (aa hP.r.len (aa e0 (aa e1 KX)))))) fun _ => ?_)
      refine .inl ?_
      unfold hush
      (repeat with_reducible first | refine js ?_ | refine ja ?_ | refine jw KL22 [17] (aa TF22 (aa p4 (aa hP.r.s (aa hP.r.len (aa e0 (aa e1 KX)))))) fun _ => ?_)
      refine Run_condS (fun _ => rfl) (fun _ => ?_) (fun h => by cases h)
      (repeat with_reducible first | refine js ?_ | refine ja ?_ | refine jw KL22 [17] TF22 fun _ => ?_)
      refine Run_ret ?_
      simp [Rets, RetM, resV, fnd, oneOr, MvR, hres, y4]
      exact Sl.nil _
end Go.Proofs.YtoadfmgnpmcbfaaGreat
