import Derived.Test.YtoadfmgnpmcbfaaGreatQdW42a
import Derived.Test.YtoadfmgnpmcbfaaGreatQdGe
/- Chapter 42: audit: line, price, check. -/
namespace Go.Fk
open Go
/-- the values of a period -/
structure PerV where
  vl : Value
  u0 : Value
  u1 : Value
  u2 : Value
  vo : Value
  v0 : Value
  v1 : Value
  v2 : Value
  vh : Value
/-- a period's cells -/
def PerV.cs (q : PerV) (t : TimeD) (a : Int) : List Value := [.int .i64 t.Offices, q.vl, q.u0, q.u1, q.u2, q.vo, q.v0, q.v1, q.v2, q.vh, .int .i64 a]
/-- what they read as -/
structure PerR (w : World) (q : PerV) (t : TimeD) (f : TariffD) (l : List OrderD) (p : PlanD) (h : List Int) : Prop where
  L : Sl w q.vl t.Lines
  T : TarR w f q.u0 q.u1 q.u2
  O : Sl w q.vo l
  P : PlanR w p q.v0 q.v1 q.v2
  H : Sl w q.vh h
theorem PerR.ext {w w' : World} {q : PerV} {t : TimeD} {f : TariffD} {l : List OrderD} {p : PlanD} {h : List Int} (r : PerR w q t f l p h) (x : Ext w w') : PerR w' q t f l p h := ⟨r.L.ext x, r.T.ext x, r.O.ext x, r.P.ext x, r.H.ext x⟩
end Go.Fk
namespace Go.Proofs.YtoadfmgnpmcbfaaGreat
open Go Go.Fk
set_option linter.unusedSimpArgs false
set_option linter.unusedVariables false
set_option maxRecDepth 100000
section
variable {W : World} {q : PerV} {t : TimeD} {f : TariffD} {l : List OrderD} {p : PlanD} {hd : List Int}
/-- a period that lies in a block made after W -/
theorem auLine (px : Addr) (a : Int) (run : Int) (x : LineD) (l0 l1 l2 l3 : Value) (w : World) (hr : Row w px 112 (q.cs t a)) (hp : PerR W q t f l p hd) (e : Ext W w) (hb : W.heap.size ≤ px.block) (hx : LineC W q.vl t p run x l0 l1 l2 l3) :
    Calls Tryz.prog 115 #[.pointer (some px), .int .i64 run] w fun e w' => e = .returned (.agg (x.cs l0 l1 l2 l3).toArray) ∧ Ext w w' := by
  have hP := hp.P.ext e
  have hl := hp.L.ext e
  have hrl := hP.r.len
  have hll := hl.len
  have hrn := hx.r
  have hr0 := hx.r0
  have hn := hx.n
  have hn0 := hx.n0
  have hone := hx.l.one
  have hlt := hr.lt
  have s0 := e.size
  refine Calls_of_Run (args := [.pointer (some px), .int .i64 run]) (n := 21) (rs := [.cell 4 52]) Tryz.func115 rfl rfl rfl (by simp) ?_
  (repeat with_reducible first | refine js ?_ | refine ja ?_ | (refine jT (id := 1) KL115 14 mixed (by kernel_rfl) (by kernel_rfl) (by kernel_rfl) fun _ => ?_; refine jw KL115 [] TF115 fun _ => ?_) | refine jw KL115 [] TF115 fun _ => ?_)
  refine SemW_allocT ti52 fun pz w3 h3 => ?_
  have b3 := h3.blk
  have bR : (slAt q.v0).block < W.heap.size := hp.P.r.blk (by decide) hrn
  have bL : (slAt q.vl).block < W.heap.size := hp.L.blk (by decide) hn
  let S : Nat → Prop := fun k => k ≠ pz.block
  (repeat with_reducible first | refine jq ?_ | refine jk ?_ | refine jc ?_ | refine jl ?_ | refine jb ?_ | refine jo ?_ | refine ji ?_ | refine jx rfl ?_)
  refine Run_eh S [16] [(4, [16]), (9, [16]), (13, [16]), (15, [16])] (id := 1) KL115 (.first 0 (.first 1 (.first 2 (.first 3 (.first 4 (.first 5 (.first 6 (.first 7 (.first 8 (.first 9 (.first 10 (.first 11 (.first 12 (.first 13 (.first 14 (.first 15 (.alt true 16 (.done false) .stop))))))))))))))))) mixed (by kernel_rfl) (by kernel_rfl) fun w4 x4 _ => ?_
  have y4 := h3.ext.trans x4
  have g4 := (hr.ext y4).n
  obtain ⟨e1, _⟩ := (hP.r.ext y4).runD hrn
  have a1 := ((hx.a.ext e).ext y4).n
  have r4 := h3.row.ext x4
  generalize hrr : p.Runs[run.toNat] = r at *
  simp only [PerV.cs, RunD.cs, LineD.cs, AtN, KS, Nat.reduceAdd, Nat.reduceMul, Nat.reduceEqDiff, ↓reduceIte, UT] at g4 e1 a1
  (try simp (maxSteps := 5000000) only [KS, Nat.reduceAdd, Nat.reduceMul, Nat.reduceEqDiff, ↓reduceIte, forall_const, Int.cast_ofNat_Int, Int.reduceToNat, List.take_succ_cons, List.take_zero, List.drop_succ_cons, List.drop_zero, TF115, KL115, eh, gres, qopS, putL, ung, g4, hP.r.s, hP.r.len, e1, hl.s, hl.len, a1]); (try simp (disch := omega) only [wrapI, tmodI, tdivI])
  refine ⟨(by rw [blk_add]; show px.block ≠ pz.block; omega), (by rw [blk_add]; show px.block ≠ pz.block; omega), ⟨by omega, by omega⟩, (by rw [blk_add]; show _ ≠ pz.block; omega), ⟨by omega, by omega⟩, (by rw [blk_add]; show _ ≠ pz.block; omega), Keep.refl _ _, ?_⟩
  simp only [LineD.cs] at hone
  refine SemW_setW (by rw [cells52]; decide) (by rw [cells52]; rfl) r4 (by rw [cells52]; rfl) (by simpa [Value.cells] using hone) fun w5 r5 k5 z5 => ⟨fun h => h.elim, ?_⟩
  have r5 : Row w5 pz 52 (x.cs l0 l1 l2 l3) := by simpa [Value.cells, LineD.cs] using r5
  (repeat with_reducible first | refine js ?_ | refine ja ?_ | (refine jT (id := 1) KL115 14 mixed (by kernel_rfl) (by kernel_rfl) (by kernel_rfl) fun _ => ?_; refine jw KL115 [] TF115 fun _ => ?_) | refine jw KL115 [] TF115 fun _ => ?_)
  refine Run_ret ?_
  simp only [Rets, RetM, resV, fnd, oneOr, ↓reduceIte]
  refine ⟨pz, _, rfl, loadVar_at (by kernel_rfl) (by rw [cells52]; decide) (by rw [cells52]; rfl) r5.at_, rfl, Keep.ext y4 k5 fun k hk => by omega⟩
theorem auLineP {px : Addr} {a : Int} {run : Int} {x : LineD} {l0 l1 l2 l3 : Value} {w : World} (hr : Row w px 112 (q.cs t a)) (hp : PerR W q t f l p hd) (e : Ext W w) (hb : W.heap.size ≤ px.block) (hx : LineC W q.vl t p run x l0 l1 l2 l3) :
    PC Tryz.prog (Ext w) (.func (.func 115) #[] #[]) [.pointer (some px), .int .i64 run] (.agg #[l0, l1, .int .i64 x.Classes, .int .i64 x.Room, l2, l3]) :=
  PC_pure call115 fun w' x' => auLine px a run x l0 l1 l2 l3 w' (hr.ext x') hp (e.trans x') hb hx
theorem auLineW {px : Addr} {a : Int} {run : Int} {x : LineD} {l0 l1 l2 l3 : Value} {w : World} {K : Value → World → Prop} (hr : Row w px 112 (q.cs t a)) (hp : PerR W q t f l p hd) (e : Ext W w) (hb : W.heap.size ≤ px.block) (hx : LineC W q.vl t p run x l0 l1 l2 l3)
    (hK : ∀ w', Ext w w' → K (.agg #[l0, l1, .int .i64 x.Classes, .int .i64 x.Room, l2, l3]) w') : CallW Tryz.prog (.func (.func 115) #[] #[]) [.pointer (some px), .int .i64 run] w K :=
  CallW_pure call115 (auLine px a run x l0 l1 l2 l3 w hr hp e hb hx) hK
theorem auPrice (px : Addr) (a : Int) (i : Nat) (w : World) (hr : Row w px 112 (q.cs t a)) (hp : PerR W q t f l p hd) (e : Ext W w) (hb : W.heap.size ≤ px.block) (ok : Ec.Ok t f l p) (hi : i < l.length) :
    Calls Tryz.prog 171 #[.pointer (some px), .int .i64 i] w fun e w' => e = .returned (.int .i64 (Ec.priceP t f l p i)) ∧ Ext w w' := by
  have ho := hp.O.ext e
  have hP := hp.P.ext e
  obtain ⟨q0, q1, _⟩ := Ec.price_eq ok hi
  have hip : i < p.Of.length := by rw [ok.ol]; exact hi
  have hgl : l.getD i default = l[i] := by simp [List.getD_eq_getElem?_getD, hi]
  have hgo : p.Of.getD i 0 = p.Of[i] := by simp [List.getD_eq_getElem?_getD, hip]
  have hpp : Ec.priceP t f l p i = (Tf.pri f l[i].Class (Ec.lineP t p p.Of[i]).Legs.length l[i].Crowd).1 := by unfold Ec.priceP; rw [hgl, hgo]
  obtain ⟨l0, l1, l2, l3, hC⟩ := lineC hp.L ok q0 q1
  rw [hgo] at hC
  rw [hpp]
  have hR := hC.l
  obtain ⟨g, _, o2, hO⟩ := ho.ord hi
  have hol := ho.len
  have g4 := hr.n
  have o3 := o2.n
  obtain ⟨d1, d2, -⟩ := hP.o.get hip
  have hopl := hP.o.len
  generalize hxx : Ec.lineP t p p.Of[i] = x at *
  generalize hqq : p.Of[i] = z at *
  generalize hoo : l[i] = o at *
  simp only [PerV.cs, OrderD.cs, AtN, KS, Nat.reduceAdd, Nat.reduceMul, Nat.reduceEqDiff, ↓reduceIte, UT] at g4 o3
  refine Calls_of_Run (args := [.pointer (some px), .int .i64 i]) (n := 44) (rs := [.tmp 4]) Tryz.func171 rfl rfl rfl (by simp) ?_
  (repeat with_reducible first | refine js ?_ | refine ja ?_ | refine jw KL171 [1] (aa TF171 (aa g4 (aa ho.s (aa ho.len (aa o3 (aa hP.o.s (aa hP.o.len (aa d1 (aa d2 KX))))))))) fun _ => ?_)
  refine ⟨_, auLineP hr hp e hb hC, ?_⟩
  (repeat with_reducible first | refine js ?_ | refine ja ?_ | refine jw KL171 [1] (aa TF171 (aa g4 (aa ho.s (aa ho.len (aa o3 (aa hP.o.s (aa hP.o.len (aa d1 (aa d2 (aa hR.l.s (aa hR.l.len KX))))))))))) fun _ => ?_)
  refine ⟨_, PC_pure call32 fun w' x' => tfPriceW f q.u0 q.u1 q.u2 _ _ _ w' (hp.T.ext (e.trans x')), ⟨by simp, by simp⟩, ⟨by simp, by simp⟩, fun w4 x4 => ?_⟩
  (repeat with_reducible first | refine js ?_ | refine ja ?_ | refine jw KL171 [1] TF171 fun _ => ?_)
  refine Run_ret ?_
  simp [Rets, RetM, resV, fnd, oneOr, x4]
theorem auPriceW {px : Addr} {a : Int} {i : Nat} {w : World} {K : Value → World → Prop} (hr : Row w px 112 (q.cs t a)) (hp : PerR W q t f l p hd) (e : Ext W w) (hb : W.heap.size ≤ px.block) (ok : Ec.Ok t f l p) (hi : i < l.length) (hK : ∀ w', Ext w w' → K (.int .i64 (Ec.priceP t f l p i)) w') :
    CallW Tryz.prog (.func (.func 171) #[] #[]) [.pointer (some px), .int .i64 i] w K :=
  CallW_pure call171 (auPrice px a i w hr hp e hb ok hi) hK
set_option maxHeartbeats 1000000 in
theorem auCheck (px : Addr) (a : Int) (w : World) (hr : Row w px 112 (q.cs t a)) (hp : PerR W q t f l p hd) (e : Ext W w) (hb : W.heap.size ≤ px.block) :
    Calls Tryz.prog 66 #[.pointer (some px)] w fun e w' => e = .returned (.int .i64 (Au.err t f l p hd)) ∧ Ext w w' := by
  have hR := hp.ext e
  have g3 := hr.n
  simp only [PerV.cs, AtN, KS, Nat.reduceAdd, Nat.reduceMul, Nat.reduceEqDiff, ↓reduceIte, UT] at g3
  refine Calls_of_Run (args := [.pointer (some px)]) (n := 66) (rs := [.tmp 2]) Tryz.func66 rfl rfl rfl (by simp) ?_
  have he : Ec.err t f l p = if (Pl.check t f l 1099511627776 p).2 ≠ 0 then (Pl.check t f l 1099511627776 p).2 else if (Pl.check t f l 1099511627776 p).1 then 0 else 220 := rfl
  have ha : Au.err t f l p hd = if Ec.err t f l p ≠ 0 then Ec.err t f l p else if hd.length ≠ p.Runs.length then 1 else if Au.hOk t p hd then 0 else 1 := rfl
  have hok : Ec.err t f l p = 0 → Ec.Ok t f l p := Ec.err_ok
  have hPC : PC Tryz.prog (Ext w) (.func (.func 23) #[] #[]) [.agg #[.int .i64 t.Offices, q.vl], .agg #[q.u0, q.u1, q.u2], q.vo, .int .i64 1099511627776, .agg #[q.v0, q.v1, q.v2]] (.tuple #[.bool (Pl.check t f l 1099511627776 p).1, .int .i64 (Pl.check t f l 1099511627776 p).2]) :=
    PC_pure call23 fun w' x' => plCheckP q.vl q.u0 q.u1 q.u2 q.vo q.v0 q.v1 q.v2 t f l 1099511627776 p w' (hR.L.ext x') (hR.T.ext x') (hR.O.ext x') (hR.P.ext x')
  generalize Pl.check t f l 1099511627776 p = r at *
  obtain ⟨b, c⟩ := r
  simp only at he hPC
  generalize hA : Au.err t f l p hd = A at *
  (repeat with_reducible first | refine js ?_ | refine ja ?_ | refine jw KL66 [1, 6] (aa TF66 (aa g3 KX)) fun _ => ?_)
  refine ⟨_, hPC, ⟨by simp, by simp⟩, ⟨by simp, by simp⟩, fun w4 x4 => ?_⟩
  (repeat with_reducible first | refine js ?_ | refine ja ?_ | refine jw KL66 [1, 6] (aa TF66 KX) fun _ => ?_)
  refine Run_condS (fun _ => rfl) (fun h => ?_) (fun h => ?_)
  · simp at h
    rw [if_pos h] at he
    rw [if_pos (by rw [he]; exact h), he] at ha
    subst ha
    (repeat with_reducible first | refine js ?_ | refine ja ?_ | refine jw KL66 [1, 6] TF66 fun _ => ?_)
    refine Run_ret ?_
    simp [Rets, RetM, resV, fnd, oneOr, x4]
  simp at h
  subst h
  rw [if_neg (by simp)] at he
  (repeat with_reducible first | refine js ?_ | refine ja ?_ | refine jw KL66 [1, 6] TF66 fun _ => ?_)
  refine Run_condS (fun _ => rfl) (fun h => ?_) (fun h => ?_)
  · simp at h
    subst h
    rw [if_neg (by simp)] at he
    rw [he, if_pos (by simp)] at ha
    subst ha
    (repeat with_reducible first | refine js ?_ | refine ja ?_ | refine jw KL66 [1, 6] TF66 fun _ => ?_)
    refine Run_ret ?_
    simp [Rets, RetM, resV, fnd, oneOr, x4]
  simp at h
  subst h
  rw [if_pos rfl] at he
  have ok := hok he
  rw [if_neg (by simp [he])] at ha
  clear hok
  have g4 := (hr.ext x4).n
  simp only [PerV.cs, AtN, KS, Nat.reduceAdd, Nat.reduceMul, Nat.reduceEqDiff, ↓reduceIte, UT] at g4
  have hrl := hR.P.r.len
  have hrs := hR.P.r.small
  have hhl := hR.H.len
  have hhs := hR.H.small
  (repeat with_reducible first | refine js ?_ | refine ja ?_ | refine jw KL66 [1, 6] (aa TF66 (aa g4 (aa hR.P.r.s (aa hR.P.r.len (aa hR.H.s hR.H.len))))) fun _ => ?_)
  intro w5 x5
  refine Run_condS (fun _ => rfl) (fun h => ?_) (fun h => ?_)
  · simp at h
    rw [if_pos (by omega)] at ha
    subst ha
    (repeat with_reducible first | refine js ?_ | refine ja ?_ | refine jw KL66 [1, 6] TF66 fun _ => ?_)
    refine Run_ret ?_
    simp [Rets, RetM, resV, fnd, oneOr, x4.trans x5]
  simp at h
  have hlen : hd.length = p.Runs.length := by omega
  rw [if_neg (by simp [hlen])] at ha
  clear h
  have y5 := x4.trans x5
  have g5 := (hr.ext y5).n
  simp only [PerV.cs, AtN, KS, Nat.reduceAdd, Nat.reduceMul, Nat.reduceEqDiff, ↓reduceIte, UT] at g5
  (repeat with_reducible first | refine js ?_ | refine ja ?_ | refine jw KL66 [1, 6] (aa TF66 (aa g5 (aa hR.H.s hR.H.len))) fun _ => ?_)
  refine Run_loopV [2, 5, 6, 49, 50, 64] (σ := Nat) (fun k => [(49, some (.int .i64 k))]) (fun k w' => k ≤ hd.length ∧ (∀ j, j < k → (0 ≤ hd.getD j 0 ∧ hd.getD j 0 ≤ ((Ec.lineP t p j).Legs.length : Int))) ∧ Ext w5 w') (fun k => hd.length - k) 0 (by simp [SubB, fnd]) ⟨by omega, by simp, Ext.refl _⟩ ?_
  rintro k w6 ⟨hk, hj, x6⟩
  have y6 := y5.trans x6
  (repeat with_reducible first | refine js ?_ | refine ja ?_ | refine jw KL66 [1, 6] TF66 fun _ => ?_)
  refine Run_condS (fun _ => rfl) (fun h => ?_) (fun h => ?_)
  · simp at h
    have hkl := h
    have hg : hd.getD k 0 = hd[k] := by simp [List.getD_eq_getElem?_getD, hkl]
    obtain ⟨l0, l1, l2, l3, hC⟩ := lineC hp.L ok (q := (k : Int)) (by omega) (by omega)
    have hRR := hC.l
    have hrll := hRR.l.len
    obtain ⟨_, _, _, _, hlo⟩ := line_at ok (q := (k : Int)) (by omega) (by omega)
    have ox9 := hlo.o9
    have oxl := hlo.l1
    obtain ⟨d1, d2, -⟩ := (hR.H.ext y6).get hkl
    have hbad : ¬ (0 ≤ hd[k] ∧ hd[k] ≤ ((Ec.lineP t p k).Legs.length : Int)) → A = 1 := fun hb => by
      rw [ha, if_neg]
      intro hh'
      have := List.all_eq_true.1 hh' k (by simpa using hkl)
      simp only [decide_eq_true_eq] at this
      rw [hg] at this
      exact hb this
    have hgood : (0 ≤ hd[k] ∧ hd[k] ≤ ((Ec.lineP t p k).Legs.length : Int)) → ∀ j, j < k + 1 → (0 ≤ hd.getD j 0 ∧ hd.getD j 0 ≤ ((Ec.lineP t p j).Legs.length : Int)) := fun hb j hjk => by
      by_cases e : j = k
      · subst e; rw [hg]; exact hb
      · exact hj j (by omega)
    generalize hxx : Ec.lineP t p (k : Int) = x at *
    generalize hd[k] = y at *
    by_cases hy : y < 0
    · have e0 : decide (y < 0) = true := by simpa using hy
      (repeat with_reducible first | refine js ?_ | refine ja ?_ | refine jw KL66 [1, 6] (aa TF66 (aa hR.H.s (aa hR.H.len (aa d1 (aa d2 (aa e0 KX)))))) fun _ => ?_)
      refine .inl ?_
      unfold hush
      (repeat with_reducible first | refine js ?_ | refine ja ?_ | refine jw KL66 [1, 6] (aa TF66 (aa e0 KX)) fun _ => ?_)
      refine Run_condS (fun _ => rfl) (fun _ => ?_) (fun h => by cases h)
      (repeat with_reducible first | refine js ?_ | refine ja ?_ | refine jw KL66 [1, 6] TF66 fun _ => ?_)
      refine Run_ret ?_
      simp [Rets, RetM, resV, fnd, oneOr, hbad (by omega), y6]
    · have e0 : decide (y < 0) = false := by simp; omega
      (repeat with_reducible first | refine js ?_ | refine ja ?_ | refine jw KL66 [1, 6] (aa TF66 (aa hR.H.s (aa hR.H.len (aa d1 (aa d2 (aa e0 KX)))))) fun _ => ?_)
      refine .inl (auLineW (hr.ext y6) hp (e.trans y6) hb hC fun w7 x7 => ?_)
      unfold hush
      (repeat with_reducible first | refine js ?_ | refine ja ?_ | refine jw KL66 [1, 6] (aa TF66 (aa e0 (aa hRR.l.s (aa hRR.l.len KX)))) fun _ => ?_)
      refine Run_condS (fun _ => rfl) (fun h => ?_) (fun h => ?_)
      · simp at h
        (repeat with_reducible first | refine js ?_ | refine ja ?_ | refine jw KL66 [1, 6] TF66 fun _ => ?_)
        refine Run_ret ?_
        simp [Rets, RetM, resV, fnd, oneOr, hbad (by omega), y6.trans x7]
      · simp at h
        (repeat with_reducible first | refine js ?_ | refine ja ?_ | refine jw KL66 [1, 6] TF66 fun _ => ?_)
        refine Run_lp ⟨k + 1, ?_, ⟨by omega, hgood (by omega), x6.trans x7⟩, by omega⟩
        simp [SubB, fnd, strike, has]
  · simp at h
    obtain rfl : k = hd.length := by omega
    have hall : Au.hOk t p hd = true := List.all_eq_true.2 fun j hjm => by
      simp at hjm; simpa using hj j hjm
    rw [if_pos hall] at ha
    subst ha
    (repeat with_reducible first | refine js ?_ | refine ja ?_ | refine jw KL66 [1, 6] TF66 fun _ => ?_)
    refine Run_ret ?_
    simp [Rets, RetM, resV, fnd, oneOr, y6]
end
end Go.Proofs.YtoadfmgnpmcbfaaGreat
