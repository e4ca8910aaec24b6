/- Chapter 39: the reference's Price, Post. -/
import Derived.Test.YtoadfmgnpmcbfaaGreatW39f
namespace Go.Proofs.YtoadfmgnpmcbfaaGreat
open Go Go.Fk
set_option linter.unusedSimpArgs false
set_option linter.unusedVariables false
set_option maxRecDepth 100000

theorem rfPrice39 (vl u0 u1 u2 vo v0 v1 v2 : Value) (t : TimeD) (f : TariffD) (l : List OrderD) (p : PlanD) (i : Nat) (w : World) (hl : Sl w vl t.Lines) (hT : TarR w f u0 u1 u2) (ho : Sl w vo l) (hP : PlanR w p v0 v1 v2) (ok : Ec.Ok t f l p) (hi : i < l.length) :
    Calls Tryz.prog 48 #[.agg (t.cs vl).toArray, .agg (f.cs u0 u1 u2).toArray, vo, .agg (p.cs v0 v1 v2).toArray, .int .i64 i] w fun e w' => e = .returned (.int .i64 (Ec.priceP t f l p i)) ∧ Ext w w' := by
  obtain ⟨q0, q1, _⟩ := Ec.price_eq ok hi
  have hip : i < p.Of.length := by rw [ok.ol]; exact hi
  have hgl : l.getD i default = l[i] := by simp [List.getD_eq_getElem?_getD, hi]
  have hgo : p.Of.getD i 0 = p.Of[i] := by simp [List.getD_eq_getElem?_getD, hip]
  have hpp : Ec.priceP t f l p i = (Tf.pri f l[i].Class (Ec.lineP t p p.Of[i]).Legs.length l[i].Crowd).1 := by unfold Ec.priceP; rw [hgl, hgo]
  obtain ⟨l0, l1, l2, l3, hC⟩ := lineC hl ok q0 q1
  rw [hgo] at hC
  rw [hpp]
  have hR := hC.l
  obtain ⟨g, _, o2, hO⟩ := ho.ord hi
  have hol := ho.len
  refine Calls_of_Run (args := [.agg (t.cs vl).toArray, .agg (f.cs u0 u1 u2).toArray, vo, .agg (p.cs v0 v1 v2).toArray, .int .i64 i]) (n := 39) (rs := [.tmp 10]) Tryz.func48 rfl rfl rfl (by simp) ?_
  (repeat with_reducible first | refine js ?_ | refine ja ?_ | refine jw KL48 [1] TF48 fun _ => ?_)
  refine SemW_box fun pt w1 h1 => SemW_box fun pf w2 h2 => SemW_box fun pp w3 h3 => ?_
  have x3 := h1.ext.trans (h2.ext.trans h3.ext)
  have t3 : AtN w3 pt 0 (t.cs vl) := (h1.at_.ext (h2.ext.trans h3.ext)).n
  have f3 : AtN w3 pf 0 (f.cs u0 u1 u2) := (h2.at_.ext h3.ext).n
  have p3 : AtN w3 pp 0 (p.cs v0 v1 v2) := h3.at_.n
  have o3 := (o2.ext x3).n
  obtain ⟨d1, d2, d3⟩ := (hP.o.ext x3).get hip
  generalize hxx : Ec.lineP t p p.Of[i] = x at *
  generalize hqq : p.Of[i] = q at *
  generalize hoo : l[i] = o at *
  simp only [TimeD.cs, TariffD.cs, PlanD.cs, OrderD.cs, AtN, KS, Nat.reduceAdd, Nat.reduceMul, Nat.reduceEqDiff, ↓reduceIte, UT] at t3 f3 p3 o3
  (repeat with_reducible first | refine js ?_ | refine ja ?_ | refine jw KL48 [1] (aa TF48 (aa t3 (aa f3 (aa p3 (aa ho.s (aa ho.len (aa o3 (aa hP.o.s (aa hP.o.len (aa d1 (aa d2 KX))))))))))) fun _ => ?_)
  refine ⟨.agg #[l0, l1, .int .i64 x.Classes, .int .i64 x.Room, l2, l3], PC_pure call52 fun w4 x4 => rfLine39 vl v0 v1 v2 t p q x l0 l1 l2 l3 w4 (hl.ext (x3.trans x4)) (hP.ext (x3.trans x4)) (hC.ext (x3.trans x4)), ?_⟩
  (repeat with_reducible first | refine js ?_ | refine ja ?_ | refine jw KL48 [1] (aa TF48 (aa t3 (aa f3 (aa p3 (aa ho.s (aa ho.len (aa o3 (aa hP.o.s (aa hP.o.len (aa d1 (aa d2 (aa hR.l.s (aa hR.l.len KX))))))))))))) fun _ => ?_)
  refine ⟨_, PC_pure call92 fun w4 x4 => rfPriceW f u0 u1 u2 _ _ _ w4 (hT.ext (x3.trans x4)), ⟨by simp, by simp⟩, ⟨by simp, by simp⟩, fun w4 x4 => ?_⟩
  (repeat with_reducible first | refine js ?_ | refine ja ?_ | refine jw KL48 [1] TF48 fun _ => ?_)
  refine Run_ret ?_
  simp [Rets, RetM, resV, fnd, oneOr, x3.trans x4]
set_option maxHeartbeats 1000000 in
theorem rfPost39 (vl u0 u1 u2 vo v0 v1 v2 : Value) (t : TimeD) (f : TariffD) (l : List OrderD) (p : PlanD) (w : World) (hl : Sl w vl t.Lines) (hT : TarR w f u0 u1 u2) (ho : Sl w vo l) (hP : PlanR w p v0 v1 v2) :
    Calls Tryz.prog 19 #[.agg (t.cs vl).toArray, .agg (f.cs u0 u1 u2).toArray, vo, .agg (p.cs v0 v1 v2).toArray] w (MvR w (Ec.post t f l p)) := by
  have hol := ho.len
  have hrs := hP.r.small
  refine Calls_of_Run (args := [.agg (t.cs vl).toArray, .agg (f.cs u0 u1 u2).toArray, vo, .agg (p.cs v0 v1 v2).toArray]) (n := 46) (rs := [.tmp 8, .tmp 9]) Tryz.func19 rfl rfl rfl (by simp) ?_
  (repeat with_reducible first | refine js ?_ | refine ja ?_ | refine jw KL19 [] TF19 fun _ => ?_)
  refine SemW_box fun pt w1 h1 => SemW_box fun pf w2 h2 => SemW_box fun pp w3 h3 => ?_
  have x3 := h1.ext.trans (h2.ext.trans h3.ext)
  have T : ∀ w', Ext w3 w' → AtN w' pt 0 (t.cs vl) := fun w' x => (h1.at_.ext (h2.ext.trans (h3.ext.trans x))).n
  have F : ∀ w', Ext w3 w' → AtN w' pf 0 (f.cs u0 u1 u2) := fun w' x => (h2.at_.ext (h3.ext.trans x)).n
  have P : ∀ w', Ext w3 w' → AtN w' pp 0 (p.cs v0 v1 v2) := fun w' x => (h3.at_.ext x).n
  simp only [TimeD.cs, TariffD.cs, PlanD.cs, AtN, KS, Nat.reduceAdd, Nat.reduceMul, Nat.reduceEqDiff, ↓reduceIte, UT] at T F P
  have t3 := T w3 (Ext.refl _)
  have f3 := F w3 (Ext.refl _)
  have p3 := P w3 (Ext.refl _)
  (repeat with_reducible first | refine js ?_ | refine ja ?_ | refine jw KL19 [] (aa TF19 (aa t3 (aa f3 p3))) fun _ => ?_)
  refine rerrW (hl.ext x3) (hT.ext x3) (ho.ext x3) (hP.ext x3) fun w4 x4 => ?_
  have y4 := x3.trans x4
  (repeat with_reducible first | refine js ?_ | refine ja ?_ | refine jw KL19 [] TF19 fun _ => ?_)
  refine Run_condS (fun _ => rfl) (fun h => ?_) (fun h => ?_)
  · have hc : Ec.err t f l p ≠ 0 := by simpa using h
    (repeat with_reducible first | refine js ?_ | refine ja ?_ | refine jw KL19 [] TF19 fun _ => ?_)
    refine Run_ret ?_
    simp [Rets, RetM, resV, fnd, oneOr, MvR, Ec.post, hc, y4]
    exact Sl.nil _
  have hc : Ec.err t f l p = 0 := by simpa using h
  clear h
  have ok := Ec.err_ok hc
  have hres : Ec.post t f l p = (Ec.posts t f l p l.length, 0) := by unfold Ec.post; rw [if_neg (by simp [hc])]
  rw [hres]
  have hn64 := ok.o.n
  (repeat with_reducible first | refine js ?_ | refine ja ?_ | refine jw KL19 [] TF19 fun _ => ?_)
  have bP : pp.block < w4.heap.size := by have := h3.at_.blk; have := x4.size; omega
  have bF : pf.block < w4.heap.size := by have := h2.at_.blk; have := x4.size; have := h3.size; omega
  have bT : pt.block < w4.heap.size := by have := h1.at_.blk; have := x4.size; have := h3.size; have := h2.size; omega
  have s4 := y4.size
  refine Run_loopV [11, 12, 24] (σ := Nat × Value) (fun q => [(12, some (.int .i64 q.1)), (11, some q.2)]) (fun q w' => q.1 ≤ l.length ∧ BufO (α := MoveD) 70 w4.heap.size w' q.2 (Ec.posts t f l p q.1) ∧ Ext w4 w') (fun q => l.length - q.1) (0, .slice none 0 0) (by simp [SubB, fnd]) ⟨by simp, BufO.nil, Ext.refl _⟩ ?_
  rintro ⟨k, vm⟩ w5 ⟨hk, hB, x5⟩
  simp only at hk hB
  have y5 := y4.trans x5
  (repeat with_reducible first | refine js ?_ | refine ja ?_ | refine jw KL19 [] (aa TF19 (aa ho.s ho.len)) fun _ => ?_)
  refine Run_condS (fun _ => rfl) (fun h => ?_) (fun h => ?_)
  · simp at h
    have hkl := h
    have hkp : k < p.Of.length := by rw [ok.ol]; exact hkl
    have hgo : p.Of.getD k 0 = p.Of[k] := by simp [List.getD_eq_getElem?_getD, hkp]
    have hpb := Ec.price_bd t f l p k
    have hsucc := Ec.posts_succ t f l p k
    have hpm : Ec.postM t f l p k = ⟨(k : Int), 51 + k, 2, Ec.priceP t f l p k, 1, p.Of[k]⟩ := by unfold Ec.postM; rw [hgo]
    have hplen := Ec.posts_len t f l p k
    obtain ⟨q0, q1, _⟩ := Ec.price_eq ok hkl
    rw [hgo] at q0 q1
    let S : Nat → Prop := fun k => some k ≠ vm.ownBlock
    have hS : ∀ q, q < w4.heap.size → S q := fun q hq e => by have := (hB.own_lt e.symm).1; omega
    have bO : (slAt v1).block < w4.heap.size := by have := hP.o.blk (by decide) hkp; omega
    (repeat with_reducible first | refine jq ?_ | refine jk ?_ | refine jc ?_ | refine jl ?_ | refine jb ?_ | refine jo ?_ | refine ji ?_ | refine jx rfl ?_)
    refine Run_eh S [17] [(4, [9, 17]), (5, [9, 17]), (7, [9, 17]), (11, [13, 14, 15, 16, 17]), (14, [15, 16, 17])] (id := 8) KL19 (.first 0 (.first 1 (.first 2 (.first 3 (.first 4 (.first 5 (.first 6 (.first 7 (.first 8 (.first 10 (.first 11 (.first 12 (.first 13 (.first 14 (.alt true 9 (.first 15 (.alt true 16 (.alt true 17 (.free (.first 18 .done)) .stop) .stop)) .stop))))))))))))))) mixed (by kernel_rfl) (by kernel_rfl) fun w6 x6 _ => ?_
    have y6 := y5.trans x6
    have z6 := x4.trans (x5.trans x6)
    have t6 := T w6 z6
    have f6 := F w6 z6
    have p6 := P w6 z6
    obtain ⟨d1, d2, d3⟩ := (hP.o.ext y6).get hkp
    generalize hqq : p.Of[k] = q at *
    (try simp (maxSteps := 5000000) only [KS, Nat.reduceAdd, Nat.reduceMul, Nat.reduceEqDiff, ↓reduceIte, forall_const, Int.cast_ofNat_Int, Int.reduceToNat, List.take_succ_cons, List.take_zero, List.drop_succ_cons, List.drop_zero, TF19, KL19, eh, gres, qopS, putL, ung, t6, f6, p6, hP.o.s, hP.o.len, d1, d2]); (try simp (disch := omega) only [wrapI, tmodI, tdivI])
    have s6 := (x5.trans x6).size
    refine ⟨hS _ bT, hS _ bF, hS _ bP, hS _ bP, ⟨by omega, by omega⟩, hS _ (by rw [blk_add]; exact bO), Keep.refl _ _, ?_⟩
    refine CallW_pure call48 (rfPrice39 vl u0 u1 u2 vo v0 v1 v2 t f l p k w6 (hl.ext y6) (hT.ext y6) (ho.ext y6) (hP.ext y6) ok hkl) fun w7 x7 => ?_
    refine ⟨.agg (⟨(k : Int), 51 + k, 2, Ec.priceP t f l p k, 1, q⟩ : MoveD).cs.toArray, fun w' => by kernel_rfl, Keep.of_ext x7, ?_⟩
    have hB7 := hB.keep (Keep.of_ext (S := fun _ => True) (x6.trans x7)) fun _ _ _ => trivial
    have s7 := x7.size
    refine SemW_append1G (α := MoveD) (B := w4.heap.size) (X := .agg (⟨(k : Int), 51 + k, 2, Ec.priceP t f l p k, 1, q⟩ : MoveD).cs.toArray) (x := ⟨(k : Int), 51 + k, 2, Ec.priceP t f l p k, 1, q⟩) Tryz.underlying35 ti70 rfl (by decide) hB7 (by omega) ⟨rfl, by simp only [I64]; omega⟩ (by rw [hplen]; simp only [maxLen]; omega) (fun w' x => (Keep.of_ext x7).trans (Keep.of_ext x)) fun s v' w8 b8 k8 _ => ?_
    rw [← hpm, ← hsucc] at b8
    (repeat with_reducible first | refine js ?_ | refine ja ?_ | refine jw KL19 [] TF19 fun _ => ?_)
    refine Run_lp ⟨(k + 1, v'), ?_, ⟨by simp only; omega, b8, Keep.ext (x5.trans (x6.trans x7)) k8 hS⟩, by simp only; omega⟩
    simp [SubB, fnd, strike, has]
  · simp at h
    obtain rfl : k = l.length := by omega
    (repeat with_reducible first | refine js ?_ | refine ja ?_ | refine jw KL19 [] TF19 fun _ => ?_)
    refine Run_ret ?_
    simp [Rets, RetM, resV, fnd, oneOr, MvR]
    exact ⟨y5, hB.sl (by rw [Ec.posts_len]; omega)⟩
end Go.Proofs.YtoadfmgnpmcbfaaGreat
