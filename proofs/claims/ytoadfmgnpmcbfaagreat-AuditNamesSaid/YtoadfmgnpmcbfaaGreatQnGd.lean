import Derived.Test.YtoadfmgnpmcbfaaGreatQnW42a
import Derived.Test.YtoadfmgnpmcbfaaGreatQnGe
namespace Go.Fk
open Go
structure PerV where
  vl : Value
  u0 : Value
  u1 : Value
  u2 : Value
  vo : Value
  v0 : Value
  v1 : Value
  v2 : Value
  vh : Value
def PerV.cs (q : PerV) (t : TimeD) (a : Int) : List Value := [.int .i64 t.Offices, q.vl, q.u0, q.u1, q.u2, q.vo, q.v0, q.v1, q.v2, q.vh, .int .i64 a]
structure PerR (w : World) (q : PerV) (t : TimeD) (f : TariffD) (l : List OrderD) (p : PlanD) (h : List Int) : Prop where
  L : Sl w q.vl t.Lines
  T : TarR w f q.u0 q.u1 q.u2
  O : Sl w q.vo l
  P : PlanR w p q.v0 q.v1 q.v2
  H : Sl w q.vh h
theorem PerR.ext {w w' : World} {q : PerV} {t : TimeD} {f : TariffD} {l : List OrderD} {p : PlanD} {h : List Int} (r : PerR w q t f l p h) (x : Ext w w') : PerR w' q t f l p h := ⟨r.L.ext x, r.T.ext x, r.O.ext x, r.P.ext x, r.H.ext x⟩
end Go.Fk
namespace Go.Proofs.YtoadfmgnpmcbfaaGreat
open Go Go.Fk
set_option linter.unusedSimpArgs false
set_option linter.unusedVariables false
set_option maxRecDepth 100000
section
variable {W : World} {q : PerV} {t : TimeD} {f : TariffD} {l : List OrderD} {p : PlanD} {hd : List Int}
theorem auLine (px : Addr) (a : Int) (run : Int) (x : LineD) (l0 l1 l2 l3 : Value) (w : World) (hr : Row w px 112 (q.cs t a)) (hp : PerR W q t f l p hd) (e : Ext W w) (hb : W.heap.size ≤ px.block) (hx : LineC W q.vl t p run x l0 l1 l2 l3) :
    Calls Tryz.prog 115 #[.pointer (some px), .int .i64 run] w fun e w' => e = .returned (.agg (x.cs l0 l1 l2 l3).toArray) ∧ Ext w w' := by
  have hP := hp.P.ext e
  have hl := hp.L.ext e
  have hrl := hP.r.len
  have hll := hl.len
  have hrn := hx.r
  have hr0 := hx.r0
  have hn := hx.n
  have hn0 := hx.n0
  have hone := hx.l.one
  have hlt := hr.lt
  have s0 := e.size
  refine Calls_of_Run (args := [.pointer (some px), .int .i64 run]) (n := 21) (rs := [.cell 4 52]) Tryz.func115 rfl rfl rfl (by simp) ?_
  (repeat with_reducible first | refine js ?_ | refine ja ?_ | (refine jT (id := 1) KL115 14 mixed (by kernel_rfl) (by kernel_rfl) (by kernel_rfl) fun _ => ?_; refine jw KL115 [] TF115 fun _ => ?_) | refine jw KL115 [] TF115 fun _ => ?_)
  refine SemW_allocT ti52 fun pz w3 h3 => ?_
  have b3 := h3.blk
  have bR : (slAt q.v0).block < W.heap.size := hp.P.r.blk (by decide) hrn
  have bL : (slAt q.vl).block < W.heap.size := hp.L.blk (by decide) hn
  let S : Nat → Prop := fun k => k ≠ pz.block
  (repeat with_reducible first | refine jq ?_ | refine jk ?_ | refine jc ?_ | refine jl ?_ | refine jb ?_ | refine jo ?_ | refine ji ?_ | refine jx rfl ?_)
  refine Run_eh S [16] [(4, [16]), (9, [16]), (13, [16]), (15, [16])] (id := 1) KL115 (.first 0 (.first 1 (.first 2 (.first 3 (.first 4 (.first 5 (.first 6 (.first 7 (.first 8 (.first 9 (.first 10 (.first 11 (.first 12 (.first 13 (.first 14 (.first 15 (.alt true 16 (.done false) .stop))))))))))))))))) mixed (by kernel_rfl) (by kernel_rfl) fun w4 x4 _ => ?_
  have y4 := h3.ext.trans x4
  have g4 := (hr.ext y4).n
  obtain ⟨e1, _⟩ := (hP.r.ext y4).runD hrn
  have a1 := ((hx.a.ext e).ext y4).n
  have r4 := h3.row.ext x4
  generalize hrr : p.Runs[run.toNat] = r at *
  simp only [PerV.cs, RunD.cs, LineD.cs, AtN, KS, Nat.reduceAdd, Nat.reduceMul, Nat.reduceEqDiff, ↓reduceIte, UT] at g4 e1 a1
  (try simp (maxSteps := 5000000) only [KS, Nat.reduceAdd, Nat.reduceMul, Nat.reduceEqDiff, ↓reduceIte, forall_const, Int.cast_ofNat_Int, Int.reduceToNat, List.take_succ_cons, List.take_zero, List.drop_succ_cons, List.drop_zero, TF115, KL115, eh, gres, qopS, putL, ung, g4, hP.r.s, hP.r.len, e1, hl.s, hl.len, a1]); (try simp (disch := omega) only [wrapI, tmodI, tdivI])
  refine ⟨(by rw [blk_add]; show px.block ≠ pz.block; omega), (by rw [blk_add]; show px.block ≠ pz.block; omega), ⟨by omega, by omega⟩, (by rw [blk_add]; show _ ≠ pz.block; omega), ⟨by omega, by omega⟩, (by rw [blk_add]; show _ ≠ pz.block; omega), Keep.refl _ _, ?_⟩
  simp only [LineD.cs] at hone
  refine SemW_setW (by rw [cells52]; decide) (by rw [cells52]; rfl) r4 (by rw [cells52]; rfl) (by simpa [Value.cells] using hone) fun w5 r5 k5 z5 => ⟨fun h => h.elim, ?_⟩
  have r5 : Row w5 pz 52 (x.cs l0 l1 l2 l3) := by simpa [Value.cells, LineD.cs] using r5
  (repeat with_reducible first | refine js ?_ | refine ja ?_ | (refine jT (id := 1) KL115 14 mixed (by kernel_rfl) (by kernel_rfl) (by kernel_rfl) fun _ => ?_; refine jw KL115 [] TF115 fun _ => ?_) | refine jw KL115 [] TF115 fun _ => ?_)
  refine Run_ret ?_
  simp only [Rets, RetM, resV, fnd, oneOr, ↓reduceIte]
  refine ⟨pz, _, rfl, loadVar_at (by kernel_rfl) (by rw [cells52]; decide) (by rw [cells52]; rfl) r5.at_, rfl, Keep.ext y4 k5 fun k hk => by omega⟩
theorem auLineP {px : Addr} {a : Int} {run : Int} {x : LineD} {l0 l1 l2 l3 : Value} {w : World} (hr : Row w px 112 (q.cs t a)) (hp : PerR W q t f l p hd) (e : Ext W w) (hb : W.heap.size ≤ px.block) (hx : LineC W q.vl t p run x l0 l1 l2 l3) :
    PC Tryz.prog (Ext w) (.func (.func 115) #[] #[]) [.pointer (some px), .int .i64 run] (.agg #[l0, l1, .int .i64 x.Classes, .int .i64 x.Room, l2, l3]) :=
  PC_pure call115 fun w' x' => auLine px a run x l0 l1 l2 l3 w' (hr.ext x') hp (e.trans x') hb hx
theorem auLineW {px : Addr} {a : Int} {run : Int} {x : LineD} {l0 l1 l2 l3 : Value} {w : World} {K : Value → World → Prop} (hr : Row w px 112 (q.cs t a)) (hp : PerR W q t f l p hd) (e : Ext W w) (hb : W.heap.size ≤ px.block) (hx : LineC W q.vl t p run x l0 l1 l2 l3)
    (hK : ∀ w', Ext w w' → K (.agg #[l0, l1, .int .i64 x.Classes, .int .i64 x.Room, l2, l3]) w') : CallW Tryz.prog (.func (.func 115) #[] #[]) [.pointer (some px), .int .i64 run] w K :=
  CallW_pure call115 (auLine px a run x l0 l1 l2 l3 w hr hp e hb hx) hK
theorem auPrice (px : Addr) (a : Int) (i : Nat) (w : World) (hr : Row w px 112 (q.cs t a)) (hp : PerR W q t f l p hd) (e : Ext W w) (hb : W.heap.size ≤ px.block) (ok : Ec.Ok t f l p) (hi : i < l.length) :
    Calls Tryz.prog 171 #[.pointer (some px), .int .i64 i] w fun e w' => e = .returned (.int .i64 (Ec.priceP t f l p i)) ∧ Ext w w' := by
  have ho := hp.O.ext e
  have hP := hp.P.ext e
  obtain ⟨q0, q1, _⟩ := Ec.price_eq ok hi
  have hip : i < p.Of.length := by rw [ok.ol]; exact hi
  have hgl : l.getD i default = l[i] := by simp [List.getD_eq_getElem?_getD, hi]
  have hgo : p.Of.getD i 0 = p.Of[i] := by simp [List.getD_eq_getElem?_getD, hip]
  have hpp : Ec.priceP t f l p i = (Tf.pri f l[i].Class (Ec.lineP t p p.Of[i]).Legs.length l[i].Crowd).1 := by unfold Ec.priceP; rw [hgl, hgo]
  obtain ⟨l0, l1, l2, l3, hC⟩ := lineC hp.L ok q0 q1
  rw [hgo] at hC
  rw [hpp]
  have hR := hC.l
  obtain ⟨g, _, o2, hO⟩ := ho.ord hi
  have hol := ho.len
  have g4 := hr.n
  have o3 := o2.n
  obtain ⟨d1, d2, -⟩ := hP.o.get hip
  have hopl := hP.o.len
  generalize hxx : Ec.lineP t p p.Of[i] = x at *
  generalize hqq : p.Of[i] = z at *
  generalize hoo : l[i] = o at *
  simp only [PerV.cs, OrderD.cs, AtN, KS, Nat.reduceAdd, Nat.reduceMul, Nat.reduceEqDiff, ↓reduceIte, UT] at g4 o3
  refine Calls_of_Run (args := [.pointer (some px), .int .i64 i]) (n := 44) (rs := [.tmp 4]) Tryz.func171 rfl rfl rfl (by simp) ?_
  (repeat with_reducible first | refine js ?_ | refine ja ?_ | refine jw KL171 [1] (aa TF171 (aa g4 (aa ho.s (aa ho.len (aa o3 (aa hP.o.s (aa hP.o.len (aa d1 (aa d2 KX))))))))) fun _ => ?_)
  refine ⟨_, auLineP hr hp e hb hC, ?_⟩
  (repeat with_reducible first | refine js ?_ | refine ja ?_ | refine jw KL171 [1] (aa TF171 (aa g4 (aa ho.s (aa ho.len (aa o3 (aa hP.o.s (aa hP.o.len (aa d1 (aa d2 (aa hR.l.s (aa hR.l.len KX))))))))))) fun _ => ?_)
  refine ⟨_, PC_pure call32 fun w' x' => tfPriceW f q.u0 q.u1 q.u2 _ _ _ w' (hp.T.ext (e.trans x')), ⟨by simp, by simp⟩, ⟨by simp, by simp⟩, fun w4 x4 => ?_⟩
  (repeat with_reducible first | refine js ?_ | refine ja ?_ | refine jw KL171 [1] TF171 fun _ => ?_)
  refine Run_ret ?_
  simp [Rets, RetM, resV, fnd, oneOr, x4]
theorem auPriceW {px : Addr} {a : Int} {i : Nat} {w : World} {K : Value → World → Prop} (hr : Row w px 112 (q.cs t a)) (hp : PerR W q t f l p hd) (e : Ext W w) (hb : W.heap.size ≤ px.block) (ok : Ec.Ok t f l p) (hi : i < l.length) (hK : ∀ w', Ext w w' → K (.int .i64 (Ec.priceP t f l p i)) w') :
    CallW Tryz.prog (.func (.func 171) #[] #[]) [.pointer (some px), .int .i64 i] w K :=
  CallW_pure call171 (auPrice px a i w hr hp e hb ok hi) hK
set_option maxHeartbeats 1000000 in
theorem auCheck (px : Addr) (a : Int) (w : World) (hr : Row w px 112 (q.cs t a)) (hp : PerR W q t f l p hd) (e : Ext W w) (hb : W.heap.size ≤ px.block) :
    Calls Tryz.prog 66 #[.pointer (some px)] w fun e w' => e = .returned (.int .i64 (Au.err t f l p hd)) ∧ Ext w w' := by
  have hR := hp.ext e
  have g3 := hr.n
  simp only [PerV.cs, AtN, KS, Nat.reduceAdd, Nat.reduceMul, Nat.reduceEqDiff, ↓reduceIte, UT] at g3
  refine Calls_of_Run (args := [.pointer (some px)]) (n := 66) (rs := [.tmp 2]) Tryz.func66 rfl rfl rfl (by simp) ?_
  have he : Ec.err t f l p = if (Pl.check t f l 1099511627776 p).2 ≠ 0 then (Pl.check t f l 1099511627776 p).2 else if (Pl.check t f l 1099511627776 p).1 then 0 else 220 := rfl
  have ha : Au.err t f l p hd = if Ec.err t f l p ≠ 0 then Ec.err t f l p else if hd.length ≠ p.Runs.length then 1 else if Au.hOk t p hd then 0 else 1 := rfl
  have hok : Ec.err t f l p = 0 → Ec.Ok t f l p := Ec.err_ok
  have hPC : PC Tryz.prog (Ext w) (.func (.func 23) #[] #[]) [.agg #[.int .i64 t.Offices, q.vl], .agg #[q.u0, q.u1, q.u2], q.vo, .int .i64 1099511627776, .agg #[q.v0, q.v1, q.v2]] (.tuple #[.bool (Pl.check t f l 1099511627776 p).1, .int .i64 (Pl.check t f l 1099511627776 p).2]) :=
    PC_pure call23 fun w' x' => plCheckP q.vl q.u0 q.u1 q.u2 q.vo q.v0 q.v1 q.v2 t f l 1099511627776 p w' (hR.L.ext x') (hR.T.ext x') (hR.O.ext x') (hR.P.ext x')
  generalize Pl.check t f l 1099511627776 p = r at *
  obtain ⟨b, c⟩ := r
  simp only at he hPC
  generalize hA : Au.err t f l p hd = A at *
  (repeat with_reducible first | refine js ?_ | refine ja ?_ | refine jw KL66 [1, 6] (aa TF66 (aa g3 KX)) fun _ => ?_)
  refine ⟨_, hPC, ⟨by simp, by simp⟩, ⟨by simp, by simp⟩, fun w4 x4 => ?_⟩
  (repeat with_reducible first | refine js ?_ | refine ja ?_ | refine jw KL66 [1, 6] (aa TF66 KX) fun _ => ?_)
  refine Run_condS (fun _ => rfl) (fun h => ?_) (fun h => ?_)
  · simp at h
    rw [if_pos h] at he
    rw [if_pos (by rw [he]; exact h), he] at ha
    subst ha
    (repeat with_reducible first | refine js ?_ | refine ja ?_ | refine jw KL66 [1, 6] TF66 fun _ => ?_)
    refine Run_ret ?_
    simp [Rets, RetM, resV, fnd, oneOr, x4]
  simp at h
  subst h
  rw [if_neg (by simp)] at he
  (repeat with_reducible first | refine js ?_ | refine ja ?_ | refine jw KL66 [1, 6] TF66 fun _ => ?_)
  refine Run_condS (fun _ => rfl) (fun h => ?_) (fun h => ?_)
  · simp at h
    subst h
    rw [if_neg (by simp)] at he
    rw [he, if_pos (by simp)] at ha
    subst ha
    (repeat with_reducible first | refine js ?_ | refine ja ?_ | refine jw KL66 [1, 6] TF66 fun _ => ?_)
    refine Run_ret ?_
    simp [Rets, RetM, resV, fnd, oneOr, x4]
  simp at h
  subst h
  rw [if_pos rfl] at he
  have ok := hok he
  rw [if_neg (by simp [he])] at ha
  clear hok
  have g4 := (hr.ext x4).n
  simp only [PerV.cs, AtN, KS, Nat.reduceAdd, Nat.reduceMul, Nat.reduceEqDiff, ↓reduceIte, UT] at g4
  have hrl := hR.P.r.len
  have hrs := hR.P.r.small
  have hhl := hR.H.len
  have hhs := hR.H.small
  (repeat with_reducible first | refine js ?_ | refine ja ?_ | refine jw KL66 [1, 6] (aa TF66 (aa g4 (aa hR.P.r.s (aa hR.P.r.len (aa hR.H.s hR.H.len))))) fun _ => ?_)
  intro w5 x5
  refine Run_condS (fun _ => rfl) (fun h => ?_) (fun h => ?_)
  · simp at h
    rw [if_pos (by omega)] at ha
    subst ha
    (repeat with_reducible first | refine js ?_ | refine ja ?_ | refine jw KL66 [1, 6] TF66 fun _ => ?_)
    refine Run_ret ?_
    simp [Rets, RetM, resV, fnd, oneOr, x4.trans x5]
  simp at h
  have hlen : hd.length = p.Runs.length := by omega
  rw [if_neg (by simp [hlen])] at ha
  clear h
  have y5 := x4.trans x5
  have g5 := (hr.ext y5).n
  simp only [PerV.cs, AtN, KS, Nat.reduceAdd, Nat.reduceMul, Nat.reduceEqDiff, ↓reduceIte, UT] at g5
  (repeat with_reducible first | refine js ?_ | refine ja ?_ | refine jw KL66 [1, 6] (aa TF66 (aa g5 (aa hR.H.s hR.H.len))) fun _ => ?_)
  refine Run_loopV [2, 5, 6, 49, 50, 64] (σ := Nat) (fun k => [(49, some (.int .i64 k))]) (fun k w' => k ≤ hd.length ∧ (∀ j, j < k → (0 ≤ hd.getD j 0 ∧ hd.getD j 0 ≤ ((Ec.lineP t p j).Legs.length : Int))) ∧ Ext w5 w') (fun k => hd.length - k) 0 (by simp [SubB, fnd]) ⟨by omega, by simp, Ext.refl _⟩ ?_
  rintro k w6 ⟨hk, hj, x6⟩
  have y6 := y5.trans x6
  (repeat with_reducible first | refine js ?_ | refine ja ?_ | refine jw KL66 [1, 6] TF66 fun _ => ?_)
  refine Run_condS (fun _ => rfl) (fun h => ?_) (fun h => ?_)
  · simp at h
    have hkl := h
    have hg : hd.getD k 0 = hd[k] := by simp [List.getD_eq_getElem?_getD, hkl]
    obtain ⟨l0, l1, l2, l3, hC⟩ := lineC hp.L ok (q := (k : Int)) (by omega) (by omega)
    have hRR := hC.l
    have hrll := hRR.l.len
    obtain ⟨_, _, _, _, hlo⟩ := line_at ok (q := (k : Int)) (by omega) (by omega)
    have ox9 := hlo.o9
    have oxl := hlo.l1
    obtain ⟨d1, d2, -⟩ := (hR.H.ext y6).get hkl
    have hbad : ¬ (0 ≤ hd[k] ∧ hd[k] ≤ ((Ec.lineP t p k).Legs.length : Int)) → A = 1 := fun hb => by
      rw [ha, if_neg]
      intro hh'
      have := List.all_eq_true.1 hh' k (by simpa using hkl)
      simp only [decide_eq_true_eq] at this
      rw [hg] at this
      exact hb this
    have hgood : (0 ≤ hd[k] ∧ hd[k] ≤ ((Ec.lineP t p k).Legs.length : Int)) → ∀ j, j < k + 1 → (0 ≤ hd.getD j 0 ∧ hd.getD j 0 ≤ ((Ec.lineP t p j).Legs.length : Int)) := fun hb j hjk => by
      by_cases e : j = k
      · subst e; rw [hg]; exact hb
      · exact hj j (by omega)
    generalize hxx : Ec.lineP t p (k : Int) = x at *
    generalize hd[k] = y at *
    by_cases hy : y < 0
    · have e0 : decide (y < 0) = true := by simpa using hy
      (repeat with_reducible first | refine js ?_ | refine ja ?_ | refine jw KL66 [1, 6] (aa TF66 (aa hR.H.s (aa hR.H.len (aa d1 (aa d2 (aa e0 KX)))))) fun _ => ?_)
      refine .inl ?_
      unfold hush
      (repeat with_reducible first | refine js ?_ | refine ja ?_ | refine jw KL66 [1, 6] (aa TF66 (aa e0 KX)) fun _ => ?_)
      refine Run_condS (fun _ => rfl) (fun _ => ?_) (fun h => by cases h)
      (repeat with_reducible first | refine js ?_ | refine ja ?_ | refine jw KL66 [1, 6] TF66 fun _ => ?_)
      refine Run_ret ?_
      simp [Rets, RetM, resV, fnd, oneOr, hbad (by omega), y6]
    · have e0 : decide (y < 0) = false := by simp; omega
      (repeat with_reducible first | refine js ?_ | refine ja ?_ | refine jw KL66 [1, 6] (aa TF66 (aa hR.H.s (aa hR.H.len (aa d1 (aa d2 (aa e0 KX)))))) fun _ => ?_)
      refine .inl (auLineW (hr.ext y6) hp (e.trans y6) hb hC fun w7 x7 => ?_)
      unfold hush
      (repeat with_reducible first | refine js ?_ | refine ja ?_ | refine jw KL66 [1, 6] (aa TF66 (aa e0 (aa hRR.l.s (aa hRR.l.len KX)))) fun _ => ?_)
      refine Run_condS (fun _ => rfl) (fun h => ?_) (fun h => ?_)
      · simp at h
        (repeat with_reducible first | refine js ?_ | refine ja ?_ | refine jw KL66 [1, 6] TF66 fun _ => ?_)
        refine Run_ret ?_
        simp [Rets, RetM, resV, fnd, oneOr, hbad (by omega), y6.trans x7]
      · simp at h
        (repeat with_reducible first | refine js ?_ | refine ja ?_ | refine jw KL66 [1, 6] TF66 fun _ => ?_)
        refine Run_lp ⟨k + 1, ?_, ⟨by omega, hgood (by omega), x6.trans x7⟩, by omega⟩
        simp [SubB, fnd, strike, has]
  · simp at h
    obtain rfl : k = hd.length := by omega
    have hall : Au.hOk t p hd = true := List.all_eq_true.2 fun j hjm => by
      simp at hjm; simpa using hj j hjm
    rw [if_pos hall] at ha
    subst ha
    (repeat with_reducible first | refine js ?_ | refine ja ?_ | refine jw KL66 [1, 6] TF66 fun _ => ?_)
    refine Run_ret ?_
    simp [Rets, RetM, resV, fnd, oneOr, y6]
end
end Go.Proofs.YtoadfmgnpmcbfaaGreat
namespace Go.Fk
open Go
def Au.MvW (m : MoveD) : Prop := (0 ≤ m.From ∧ m.From ≤ 114) ∧ (0 ≤ m.To ∧ m.To ≤ 114) ∧ (-1099511627776 ≤ m.Amount ∧ m.Amount ≤ 1099511627776) ∧ I64 m.Why ∧ I64 m.Run
theorem Au.effw : ∀ (m : List MoveD), (∀ x ∈ m, Au.MvW x) → ∀ j, -(2199023255552 * m.length : Int) ≤ Ec.eff m j ∧ Ec.eff m j ≤ 2199023255552 * m.length
  | [], _, j => by simp [Ec.eff]
  | x :: m, h, j => by
    have ih := Au.effw m (fun y hy => h y (List.mem_cons_of_mem _ hy)) j
    obtain ⟨_, _, ⟨h1, h2⟩, _⟩ := h x (List.mem_cons_self ..)
    simp only [Ec.eff, Ec.gain, List.length_cons]
    split <;> split <;> omega
def Au.item (k : Nat) (m : MoveD) : List Value := [.int .i64 k, .agg (⟨(k : Int), m.From, m.To, m.Amount, m.Why, m.Run⟩ : MoveD).cs.toArray]
def Au.items (l : List MoveD) : List (List Value) := l.zipIdx.map fun x => Au.item x.2 x.1
theorem Au.items_len (l : List MoveD) : (Au.items l).length = l.length := by simp [Au.items]
theorem Au.items_get (l : List MoveD) {k : Nat} (h : k < (Au.items l).length) : (Au.items l)[k] = Au.item k (l[k]'(by simpa [Au.items] using h)) := by
  simp [Au.items]
end Go.Fk
namespace Go.Proofs.YtoadfmgnpmcbfaaGreat
open Go Go.Fk
set_option linter.unusedSimpArgs false
set_option linter.unusedVariables false
set_option maxRecDepth 100000
theorem set0W {w : World} {t T : TypeId} {X : Value} {p : Addr} {vs : List Value} {K : Unit → World → Prop} (hc : Tryz.prog.cellsOf t = 1) (hg : Row w p T vs) (hi : 0 < vs.length) (hX : X.cells = #[X]) (h1 : X.oneCell' = true)
    (hK : ∀ w', Row w' p T (vs.set 0 X) → Keep (fun k => k ≠ p.block) w w' → w'.heap.size = w.heap.size → K () w') : SemW Tryz.prog (Instr.storeAt t (.pointer (some p)) X) w K := by
  have := SemW_setAt (P := Tryz.prog) (i := 0) hc hg hi hX h1 hK
  rwa [add_zero] at this
structure TS (W : World) (px p1 po py : Addr) (q : PerV) (t : TimeD) (yv : Value) (ms : List MoveD) (J : Nat → World → Prop) (k : Nat) (w : World) : Prop where
  e : Ext W w
  j : J k w
  no : Row w po 3 [.int .i64 k]
  x : Row w px 112 (q.cs t (Ec.eff (ms.take k) 1))
  a1 : At w p1 [.pointer (some px)]
  ay : At w py [yv]
abbrev toV (po p1 py : Addr) : Value := .func (.func 117) #[] #[.pointer (some po), .pointer (some p1), .pointer (some py)]
abbrev kq (kp : Nat → Prop) (px po : Addr) (b : Nat) : Prop := kp b ∧ b ≠ po.block ∧ b ≠ px.block
section
variable {W : World} {px p1 po py : Addr} {q : PerV} {t : TimeD} {yv : Value} {ms : List MoveD} {J : Nat → World → Prop} {Jx : World → Prop} {priv kp : Nat → Prop}
theorem TS.ext {k : Nat} {w w' : World} (h : TS W px p1 po py q t yv ms J k w) (hc : ∀ k w w', J k w → Keep (fun b => ¬ priv b) w w' → J k w') (x : Ext w w') : TS W px p1 po py q t yv ms J k w' :=
  ⟨h.e.trans x, hc _ _ _ h.j (Keep.of_ext x), h.no.ext x, h.x.ext x, h.a1.ext x, h.ay.ext x⟩
theorem auTo (hms : ∀ m ∈ ms, Au.MvW m) (hml : ms.length ≤ 4096) (hc : ConsY Tryz.prog yv (Au.items ms) priv kp (fun k w => Row w px 112 (q.cs t (Ec.eff (ms.take (k + 1)) 1)) ∧ Ext W w) J Jx)
    (B : Nat) (hB : ∀ b, B ≤ b → priv b) (hpx : priv px.block) (hpk : ∀ b, priv b → kp b) (hWk : ∀ b, b < W.heap.size → kp b) (hWx : W.heap.size ≤ px.block) (hWo : W.heap.size ≤ po.block) (hBo : B ≤ po.block) (hBy : B ≤ py.block) (hk1 : kp p1.block)
    (h1o : p1.block ≠ po.block) (h1x : p1.block ≠ px.block) (hyo : py.block ≠ po.block) (hyx : py.block ≠ px.block) (hox : po.block ≠ px.block)
    (k : Nat) (y : MoveD) (w : World) (hk : k < ms.length) (hy : ms[k] = y) (hT : TS W px p1 po py q t yv ms J k w) (hBw : B ≤ w.heap.size) :
    Calls Tryz.prog 117 #[.agg (⟨0, y.From, y.To, y.Amount, y.Why, y.Run⟩ : MoveD).cs.toArray, .pointer (some po), .pointer (some p1), .pointer (some py)] w fun e w' => ∃ b, e = .returned (.bool b) ∧ Keep (kq kp px po) w w' ∧ if b = true then TS W px p1 po py q t yv ms J (k + 1) w' else Jx w' := by
  have hyv := hms y (hy ▸ List.getElem_mem hk)
  obtain ⟨f1, f2, f3, f4, f5⟩ := hyv
  have hef := Au.effw (ms.take k) (fun x hx => hms x (List.mem_of_mem_take hx)) 1
  have htl : (ms.take k).length = k := by simp; omega
  have hsucc : Ec.eff (ms.take (k + 1)) 1 = Ec.eff (ms.take k) 1 + (if y.To = 1 then y.Amount else 0) - (if y.From = 1 then y.Amount else 0) := by
    rw [List.take_succ_eq_append_getElem hk, Ec.eff_append, hy]; simp only [Ec.eff, Ec.gain]; omega
  rw [htl] at hef
  have hlen : k < (Au.items ms).length := by rw [Au.items_len]; exact hk
  have hit := Au.items_get ms hlen
  rw [hy] at hit
  have hyield := fun w => hc.yield k w hlen
  rw [hit] at hyield
  have hst := hc.step
  have s0 := hT.e.size
  refine Calls_of_Run (args := [.agg (⟨0, y.From, y.To, y.Amount, y.Why, y.Run⟩ : MoveD).cs.toArray, .pointer (some po), .pointer (some p1), .pointer (some py)]) (n := 39) (rs := [.tmp 5]) Tryz.func117 rfl rfl rfl (by simp) ?_
  (repeat with_reducible first | refine js ?_ | refine ja ?_ | (refine jT (id := 4) KL117 6 mixed (by kernel_rfl) (by kernel_rfl) (by kernel_rfl) fun _ => ?_; refine jw KL117 [] TF117 fun _ => ?_) | (refine jT (id := 6) KL117 6 mixed (by kernel_rfl) (by kernel_rfl) (by kernel_rfl) fun _ => ?_; refine jw KL117 [] TF117 fun _ => ?_) | refine jw KL117 [] TF117 fun _ => ?_)
  refine SemW_box fun pm w1 h1 => ?_
  have b1 := h1.blk
  have T1 := hT.ext hst h1.ext
  have r1 : Row w1 pm 70 (⟨0, y.From, y.To, y.Amount, y.Why, y.Run⟩ : MoveD).cs := by simpa [Value.cells] using h1.row
  have g1 := T1.no.n
  simp only [AtN, KS, Nat.reduceAdd, Nat.reduceMul, Nat.reduceEqDiff, ↓reduceIte, UT] at g1
  have hmo : pm.block ≠ po.block := by have := hT.no.lt; omega
  have hmx : pm.block ≠ px.block := by have := hT.x.lt; omega
  have hm1 : pm.block ≠ p1.block := by have := hT.a1.blk; omega
  have hmy : pm.block ≠ py.block := by have := hT.ay.blk; omega
  (repeat with_reducible first | refine js ?_ | refine ja ?_ | (refine jT (id := 4) KL117 6 mixed (by kernel_rfl) (by kernel_rfl) (by kernel_rfl) fun _ => ?_; refine jw KL117 [] (aa TF117 g1) fun _ => ?_) | (refine jT (id := 6) KL117 6 mixed (by kernel_rfl) (by kernel_rfl) (by kernel_rfl) fun _ => ?_; refine jw KL117 [] (aa TF117 g1) fun _ => ?_) | refine jw KL117 [] (aa TF117 g1) fun _ => ?_)
  have kpm : ∀ {S : Nat → Prop} {u u' : World}, Keep (fun b => b ≠ pm.block) u u' → Keep (fun b => ¬ priv b) u u' := fun k => k.mono fun b _ hb e => hb (e ▸ hB _ (by omega))
  have kpo : ∀ {u u' : World}, Keep (fun b => b ≠ po.block) u u' → Keep (fun b => ¬ priv b) u u' := fun k => k.mono fun b _ hb e => hb (e ▸ hB _ hBo)
  have kpx : ∀ {u u' : World}, Keep (fun b => b ≠ px.block) u u' → Keep (fun b => ¬ priv b) u u' := fun k => k.mono fun b _ hb e => hb (e ▸ hpx)
  refine set0W (by rw [cells3]) r1 (by simp [MoveD.cs]) rfl rfl fun w2 r2 k2 z2 => ?_
  have r2 : Row w2 pm 70 (⟨(k : Int), y.From, y.To, y.Amount, y.Why, y.Run⟩ : MoveD).cs := r2
  have j2 := hst k w1 w2 T1.j (kpm (S := fun _ => True) k2)
  have o2 := T1.no.keep k2 hmo.symm
  have x2 := T1.x.keep k2 hmx.symm
  have a2 := T1.a1.keep k2 hm1.symm
  have v2 := T1.ay.keep k2 hmy.symm
  have e2 : Ext W w2 := Keep.ext T1.e k2 fun b hb => by omega
  have K2 : Keep (fun b => kq kp px po b ∧ b ≠ pm.block) w w2 := (Keep.of_ext h1.ext).trans (k2.mono fun b _ hb => hb.2)
  have g2 := o2.n
  simp only [AtN, KS, Nat.reduceAdd, Nat.reduceMul, Nat.reduceEqDiff, ↓reduceIte, UT] at g2
  (repeat with_reducible first | refine js ?_ | refine ja ?_ | (refine jT (id := 4) KL117 6 mixed (by kernel_rfl) (by kernel_rfl) (by kernel_rfl) fun _ => ?_; refine jw KL117 [] (aa TF117 g2) fun _ => ?_) | (refine jT (id := 6) KL117 6 mixed (by kernel_rfl) (by kernel_rfl) (by kernel_rfl) fun _ => ?_; refine jw KL117 [] (aa TF117 g2) fun _ => ?_) | refine jw KL117 [] (aa TF117 g2) fun _ => ?_)
  refine set0W (by rw [cells3]) o2 (by simp) rfl rfl fun w3 o3 k3 z3 => ?_
  have o3 : Row w3 po 3 [.int .i64 ((k : Int) + 1)] := o3
  have j3 := hst k w2 w3 j2 (kpo k3)
  have r3 := r2.keep k3 hmo
  have x3 := x2.keep k3 hox.symm
  have a3 := a2.keep k3 h1o
  have v3 := v2.keep k3 hyo
  have e3 : Ext W w3 := Keep.ext e2 k3 fun b hb => by omega
  have K3 : Keep (fun b => kq kp px po b ∧ b ≠ pm.block) w w3 := K2.trans (k3.mono fun b _ hb => hb.1.2.1)
  have m3 := r3.n
  simp only [MoveD.cs, AtN, KS, Nat.reduceAdd, Nat.reduceMul, Nat.reduceEqDiff, ↓reduceIte, UT] at m3
  generalize Ec.eff (ms.take k) 1 = e0 at *
  (repeat with_reducible first | refine js ?_ | refine ja ?_ | (refine jT (id := 4) KL117 6 mixed (by kernel_rfl) (by kernel_rfl) (by kernel_rfl) fun _ => ?_; refine jw KL117 [] (aa TF117 m3) fun _ => ?_) | (refine jT (id := 6) KL117 6 mixed (by kernel_rfl) (by kernel_rfl) (by kernel_rfl) fun _ => ?_; refine jw KL117 [] (aa TF117 m3) fun _ => ?_) | refine jw KL117 [] (aa TF117 m3) fun _ => ?_)
  have hb1 : -9007199254740992000 ≤ e0 + (if y.To = 1 then y.Amount else 0) ∧ e0 + (if y.To = 1 then y.Amount else 0) ≤ 9007199254740992000 := by split <;> omega
  have hb2 : -9007199254740992000 ≤ e0 + (if y.To = 1 then y.Amount else 0) - (if y.From = 1 then y.Amount else 0) ∧ e0 + (if y.To = 1 then y.Amount else 0) - (if y.From = 1 then y.Amount else 0) ≤ 9007199254740992000 := by split <;> split <;> omega
  let I : Int → World → Prop := fun z w' => Row w' pm 70 (⟨(k : Int), y.From, y.To, y.Amount, y.Why, y.Run⟩ : MoveD).cs ∧ Row w' po 3 [.int .i64 ((k : Int) + 1)] ∧ Row w' px 112 (q.cs t z) ∧ At w' p1 [.pointer (some px)] ∧ At w' py [yv] ∧ J k w' ∧ Ext W w' ∧ Keep (fun b => kq kp px po b ∧ b ≠ pm.block) w w'
  have hI : ∀ z w' w'', I z w' → Ext w' w'' → I z w'' := fun z w' w'' ⟨i1, i2, i3, i4, i5, i6, i7, i8⟩ x => ⟨i1.ext x, i2.ext x, i3.ext x, i4.ext x, i5.ext x, hst _ _ _ i6 (Keep.of_ext x), i7.trans x, i8.trans (Keep.of_ext x)⟩
  have hI3 : I e0 w3 := ⟨r3, o3, x3, a3, v3, j3, e3, K3⟩
  -- the fund's change
  have hset : ∀ z z' w' (K : Unit → World → Prop), I z w' → (∀ w'', I z' w'' → K () w'') → SemW Tryz.prog (Instr.storeAt 3 (.pointer (some (px.add 10))) (.int .i64 z')) w' K := fun z z' w' K ⟨i1, i2, i3, i4, i5, i6, i7, i8⟩ hK => by
    refine SemW_setAt (i := 10) (by rw [cells3]) i3 (by simp [PerV.cs]) rfl rfl fun w'' r'' k'' z'' => hK w'' ⟨i1.keep k'' hmx, i2.keep k'' hox, r'', i4.keep k'' h1x, i5.keep k'' hyx, hst _ _ _ i6 (kpx k''), Keep.ext i7 k'' fun b hb => by omega, i8.trans (k''.mono fun b _ hb => hb.1.2.2)⟩
  have hG : ∀ z w', I z w' → AtN w' pm 0 (⟨(k : Int), y.From, y.To, y.Amount, y.Why, y.Run⟩ : MoveD).cs ∧ AtN w' px 0 (q.cs t z) ∧ AtN w' p1 0 [.pointer (some px)] ∧ AtN w' py 0 [yv] := fun z w' ⟨i1, _, i3, i4, i5, _⟩ => ⟨i1.n, i3.n, i4.n, i5.n⟩
  simp only [MoveD.cs, PerV.cs, AtN, KS, Nat.reduceAdd, Nat.reduceMul, Nat.reduceEqDiff, ↓reduceIte, UT] at hG
  have hU : ∀ z w', I z w' → Row w' px 112 (q.cs t z) ∧ Row w' po 3 [.int .i64 ((k : Int) + 1)] ∧ At w' p1 [.pointer (some px)] ∧ At w' py [yv] ∧ J k w' ∧ Ext W w' ∧ Keep (fun b => kq kp px po b ∧ b ≠ pm.block) w w' := fun z w' ⟨_, i2, i3, i4, i5, i6, i7, i8⟩ => ⟨i3, i2, i4, i5, i6, i7, i8⟩
  clear_value I
  clear r3 o3 x3 a3 v3 j3 e3 K3 m3 g2 r2 o2 x2 a2 v2 j2 e2 K2
  refine Run_cutV [12] (σ := Unit) (fun _ => []) (fun _ w' => I (e0 + if y.To = 1 then y.Amount else 0) w') ?_ ?_
  · refine Run_condS (fun _ => rfl) (fun h => ?_) (fun h => ?_)
    · simp at h
      rw [if_pos h] at hb1 ⊢
      let S : Nat → Prop := fun _ => True
      (repeat with_reducible first | refine jq ?_ | refine jk ?_ | refine jc ?_ | refine jl ?_ | refine jb ?_ | refine jo ?_ | refine ji ?_ | refine jx rfl ?_)
      refine Run_eh S [9] [(0, [9]), (3, [9]), (5, [9])] (id := 4) KL117 (.first 0 (.first 1 (.first 2 (.first 3 (.first 4 (.first 5 (.first 6 (.first 7 (.first 8 (.alt true 9 (.done false) .stop)))))))))) mixed (by kernel_rfl) (by kernel_rfl) fun w5 x5 _ => ?_
      have i5 := hI _ _ _ hI3 x5
      have g5 := hG _ _ i5
      (try simp (maxSteps := 5000000) only [KS, Nat.reduceAdd, Nat.reduceMul, Nat.reduceEqDiff, ↓reduceIte, forall_const, Int.cast_ofNat_Int, Int.reduceToNat, List.take_succ_cons, List.take_zero, List.drop_succ_cons, List.drop_zero, TF117, KL117, eh, gres, qopS, putL, ung, g5]); (try simp (disch := omega) only [wrapI, tmodI, tdivI])
      refine ⟨trivial, trivial, trivial, Keep.refl _ _, ?_⟩
      refine hset _ _ _ _ i5 fun w6 i6 => ⟨fun h => h.elim, ?_⟩
      exact Run_lp ⟨(), by simp [SubB, fnd, strike, has], i6⟩
    · simp at h
      rw [if_neg h, Int.add_zero]
      (repeat with_reducible first | refine js ?_ | refine ja ?_ | (refine jT (id := 4) KL117 6 mixed (by kernel_rfl) (by kernel_rfl) (by kernel_rfl) fun _ => ?_; refine jw KL117 [] TF117 fun _ => ?_) | (refine jT (id := 6) KL117 6 mixed (by kernel_rfl) (by kernel_rfl) (by kernel_rfl) fun _ => ?_; refine jw KL117 [] TF117 fun _ => ?_) | refine jw KL117 [] TF117 fun _ => ?_)
      exact Run_lp ⟨(), by simp [SubB, fnd, strike, has], hI3⟩
  rintro _ w4 hI4
  generalize e0 + (if y.To = 1 then y.Amount else 0) = e1 at *
  have g4 := hG _ _ hI4
  (repeat with_reducible first | refine js ?_ | refine ja ?_ | (refine jT (id := 4) KL117 6 mixed (by kernel_rfl) (by kernel_rfl) (by kernel_rfl) fun _ => ?_; refine jw KL117 [] (aa TF117 g4) fun _ => ?_) | (refine jT (id := 6) KL117 6 mixed (by kernel_rfl) (by kernel_rfl) (by kernel_rfl) fun _ => ?_; refine jw KL117 [] (aa TF117 g4) fun _ => ?_) | refine jw KL117 [] (aa TF117 g4) fun _ => ?_)
  refine Run_cutV [24] (σ := Unit) (fun _ => []) (fun _ w' => I (e1 - if y.From = 1 then y.Amount else 0) w') ?_ ?_
  · refine Run_condS (fun _ => rfl) (fun h => ?_) (fun h => ?_)
    · simp at h
      rw [if_pos h] at hb2 ⊢
      let S : Nat → Prop := fun _ => True
      (repeat with_reducible first | refine jq ?_ | refine jk ?_ | refine jc ?_ | refine jl ?_ | refine jb ?_ | refine jo ?_ | refine ji ?_ | refine jx rfl ?_)
      refine Run_eh S [9] [(0, [9]), (3, [9]), (5, [9])] (id := 6) KL117 (.first 0 (.first 1 (.first 2 (.first 3 (.first 4 (.first 5 (.first 6 (.first 7 (.first 8 (.alt true 9 (.done false) .stop)))))))))) mixed (by kernel_rfl) (by kernel_rfl) fun w5 x5 _ => ?_
      have i5 := hI _ _ _ hI4 x5
      have g5 := hG _ _ i5
      (try simp (maxSteps := 5000000) only [KS, Nat.reduceAdd, Nat.reduceMul, Nat.reduceEqDiff, ↓reduceIte, forall_const, Int.cast_ofNat_Int, Int.reduceToNat, List.take_succ_cons, List.take_zero, List.drop_succ_cons, List.drop_zero, TF117, KL117, eh, gres, qopS, putL, ung, g5]); (try simp (disch := omega) only [wrapI, tmodI, tdivI])
      refine ⟨trivial, trivial, trivial, Keep.refl _ _, ?_⟩
      refine hset _ _ _ _ i5 fun w6 i6 => ⟨fun h => h.elim, ?_⟩
      exact Run_lp ⟨(), by simp [SubB, fnd, strike, has], i6⟩
    · simp at h
      rw [if_neg h, Int.sub_zero]
      (repeat with_reducible first | refine js ?_ | refine ja ?_ | (refine jT (id := 4) KL117 6 mixed (by kernel_rfl) (by kernel_rfl) (by kernel_rfl) fun _ => ?_; refine jw KL117 [] TF117 fun _ => ?_) | (refine jT (id := 6) KL117 6 mixed (by kernel_rfl) (by kernel_rfl) (by kernel_rfl) fun _ => ?_; refine jw KL117 [] TF117 fun _ => ?_) | refine jw KL117 [] TF117 fun _ => ?_)
      exact Run_lp ⟨(), by simp [SubB, fnd, strike, has], hI4⟩
  rintro _ w7 hI7
  generalize e1 - (if y.From = 1 then y.Amount else 0) = e2 at *
  have g7 := hG _ _ hI7
  obtain ⟨u1, u2, u3, u4, u5, u6, u7⟩ := hU _ _ hI7
  (repeat with_reducible first | refine js ?_ | refine ja ?_ | (refine jT (id := 4) KL117 6 mixed (by kernel_rfl) (by kernel_rfl) (by kernel_rfl) fun _ => ?_; refine jw KL117 [] (aa TF117 g7) fun _ => ?_) | (refine jT (id := 6) KL117 6 mixed (by kernel_rfl) (by kernel_rfl) (by kernel_rfl) fun _ => ?_; refine jw KL117 [] (aa TF117 g7) fun _ => ?_) | refine jw KL117 [] (aa TF117 g7) fun _ => ?_)
  rw [← hsucc] at u1
  have hy7 := hyield w7 u5 ⟨u1, u6⟩
  refine hy7.mono fun v w8 ⟨b, hb, k8, hj⟩ => ?_
  subst hb
  (repeat with_reducible first | refine js ?_ | refine ja ?_ | (refine jT (id := 4) KL117 6 mixed (by kernel_rfl) (by kernel_rfl) (by kernel_rfl) fun _ => ?_; refine jw KL117 [] TF117 fun _ => ?_) | (refine jT (id := 6) KL117 6 mixed (by kernel_rfl) (by kernel_rfl) (by kernel_rfl) fun _ => ?_; refine jw KL117 [] TF117 fun _ => ?_) | refine jw KL117 [] TF117 fun _ => ?_)
  refine Run_ret ?_
  simp only [Rets, RetM, resV, fnd, oneOr, ↓reduceIte]
  refine ⟨_, rfl, b, rfl, ?_, ?_⟩
  · exact (u7.trans (k8.mono fun b _ hb => hb.1.1)).mono fun b hb hq => ⟨hq, by omega⟩
  · cases b with
    | false => exact hj
    | true =>
      simp only [if_true] at hj ⊢
      exact ⟨Keep.ext u6 k8 hWk, hj, by rw [show ((k + 1 : Nat) : Int) = (k : Int) + 1 by omega]; exact u2.keep k8 (hpk _ (hB _ hBo)), u1.keep k8 (hpk _ hpx), u3.keep k8 hk1, u4.keep k8 (hpk _ (hB _ hBy))⟩
end
end Go.Proofs.YtoadfmgnpmcbfaaGreat
