import Derived.Test.YtldjfebokojmfaaGreatRgW22e
import Derived.Test.YtldjfebokojmfaaGreatRgGe
namespace Go.Proofs.YtldjfebokojmfaaGreat
open Go Go.Fk
set_option linter.unusedSimpArgs false
set_option linter.unusedVariables false
set_option maxRecDepth 100000
theorem isRunL {t : TimeD} {r : RunD} (h : Tt.isRun t r = true) : 0 ≤ r.Line ∧ r.Line < t.Lines.length ∧ Tt.LOk (Pl.lineR t r) t.Offices := by
  simp only [Tt.isRun, Tt.isR, Bool.and_eq_true, decide_eq_true_eq] at h
  obtain ⟨h0, ⟨h1, h2, _⟩, _⟩ := h
  have hln : r.Line.toNat < t.Lines.length := by omega
  refine ⟨h1, h2, ?_⟩
  unfold Pl.lineR
  rw [List.getD_eq_getElem?_getD, List.getElem?_eq_getElem hln]
  exact Tt.right_ok ((Tt.chk_ok h0).r _ (List.getElem_mem hln))
def rk (r : RunD) : List Int := [r.Line, r.At, r.Arrive]
theorem rk_inj {a b : RunD} (h : rk a = rk b) : a = b := by
  cases a; cases b; simp [rk] at h; simp [h]
def LoadsAre (m : List (List Int × Value)) (g : RunD → Pl.LoadD) : Prop := ∀ r, (mget m (rk r)).getD (ldv .zero) = ldv (g r)
theorem loads_set {m : List (List Int × Value)} {g : RunD → Pl.LoadD} (h : LoadsAre m g) (s : RunD) (x : Pl.LoadD) : LoadsAre (mset (rk s) (ldv x) m) (fun r => if s = r then x else g r) := fun r => by
  rw [mget_set]
  by_cases e : s = r
  · subst e; simp
  · rw [if_neg (by simp; exact fun h => e (rk_inj h).symm)]
    simp only [if_neg e]; exact h r
theorem all_range {n : Nat} {q : Nat → Bool} (h : ∀ k, k < n → q k = true) : (List.range n).all q = true := List.all_eq_true.2 fun k hk => h k (by simpa using hk)
theorem not_range {n k : Nat} {q : Nat → Bool} (hk : k < n) (h : q k = false) : (List.range n).all q = false := List.all_eq_false.2 ⟨k, by simpa using hk, by simp [h]⟩
set_option maxHeartbeats 4000000 in
theorem plCheckP (vl u0 u1 u2 vo v0 v1 v2 : Value) (t : TimeD) (f : TariffD) (l : List OrderD) (covers : Int) (p : PlanD) (w : World) (hl : Sl w vl t.Lines) (hT : TarR w f u0 u1 u2) (ho : Sl w vo l) (hP : PlanR w p v0 v1 v2) :
    Calls Tryz.prog 33 #[.agg (t.cs vl).toArray, .agg (f.cs u0 u1 u2).toArray, vo, .int .i64 covers, .agg (p.cs v0 v1 v2).toArray] w fun e w' => e = .returned (.tuple #[.bool (Pl.check t f l covers p).1, .int .i64 (Pl.check t f l covers p).2]) ∧ Ext w w' := by
  have hn := hP.r.small
  have hn1 := hP.o.small
  have hrl := hP.r.len
  have hol := ho.len
  refine Calls_of_Run (args := [.agg (t.cs vl).toArray, .agg (f.cs u0 u1 u2).toArray, vo, .int .i64 covers, .agg (p.cs v0 v1 v2).toArray]) (n := 172) (rs := [.tmp 10, .tmp 11]) Tryz.func33 rfl rfl rfl (by simp) ?_
  (repeat with_reducible first | refine jy ?_ | refine jw KL33 [9, 16, 26] TF33 fun _ => ?_)
  refine SemW_box fun pt w1 h1 => SemW_box fun pf w2 h2 => SemW_box fun pp w3 h3 => ?_
  have x3 := h1.ext.trans (h2.ext.trans h3.ext)
  have T : ∀ w', Ext w3 w' → AtN w' pt 0 (t.cs vl) := fun w' x => (h1.at_.ext (h2.ext.trans (h3.ext.trans x))).n
  have F : ∀ w', Ext w3 w' → AtN w' pf 0 (f.cs u0 u1 u2) := fun w' x => (h2.at_.ext (h3.ext.trans x)).n
  have P : ∀ w', Ext w3 w' → AtN w' pp 0 (p.cs v0 v1 v2) := fun w' x => (h3.at_.ext x).n
  simp only [TimeD.cs, TariffD.cs, PlanD.cs, AtN, KS, Nat.reduceAdd, Nat.reduceMul, Nat.reduceEqDiff, ↓reduceIte, UT] at T F P
  have t3 := T w3 (Ext.refl _)
  have f3 := F w3 (Ext.refl _)
  (repeat with_reducible first | refine jy ?_ | refine jw KL33 [9, 16, 26] (aa TF33 (aa t3 f3)) fun _ => ?_)
  refine plerrW (hl.ext x3) (hT.ext x3) (ho.ext x3) fun w4 x4 => ?_
  have y4 := x3.trans x4
  (repeat with_reducible first | refine jy ?_ | refine jw KL33 [9, 16, 26] TF33 fun _ => ?_)
  refine Run_condS (fun _ => rfl) (fun h => ?_) (fun h => ?_)
  · have hc : Pl.err t f l ≠ 0 := by simpa using h
    (repeat with_reducible first | refine jy ?_ | refine jw KL33 [9, 16, 26] TF33 fun _ => ?_)
    refine Run_ret ?_
    have : Pl.check t f l covers p = (false, Pl.err t f l) := by unfold Pl.check; rw [if_pos hc]
    simp [Rets, RetM, resV, fnd, oneOr, this, y4]
  have hc : Pl.err t f l = 0 := by simpa using h
  clear h
  have ok := Pl.err_ok hc
  have hres : Pl.check t f l covers p = (Pl.good t f l covers p, 0) := by unfold Pl.check; rw [if_neg (by simp [hc])]
  have p4 := P w4 x4
  (repeat with_reducible first | refine jy ?_ | refine jw KL33 [9, 16, 26] (aa TF33 (aa p4 (aa hP.r.s (aa hP.r.len (aa hP.o.s (aa hP.o.len (aa hP.c.s (aa hP.c.len (aa ho.s ho.len))))))))) fun _ => ?_)
  refine Run_condS (fun _ => rfl) (fun h => ?_) (fun h => ?_)
  · (repeat with_reducible first | refine jy ?_ | refine jw KL33 [9, 16, 26] TF33 fun _ => ?_)
    refine Run_ret ?_
    have : Pl.good t f l covers p = false := by
      have : decide (p.Of.length = l.length ∧ p.Covers.length = p.Runs.length) = false := by
        simp only [Bool.or_eq_true, bne_iff_ne, ne_eq] at h
        simp; omega
      simp [Pl.good, this]
    simp [Rets, RetM, resV, fnd, oneOr, hres, this, y4]
  have hlen : p.Of.length = l.length ∧ p.Covers.length = p.Runs.length := by
    simp only [Bool.or_eq_false_iff, bne_eq_false_iff_eq] at h
    omega
  clear h
  have hg : Pl.good t f l covers p = (Pl.runsOk t p && Pl.ofsOk t f l p && Pl.covsOk t l p && decide (Pl.sum p.Covers ≤ covers)) := by
    unfold Pl.good; rw [decide_eq_true hlen, Bool.true_and]
  (repeat with_reducible first | refine jy ?_ | refine jw KL33 [9, 16, 26] (aa TF33 (aa p4 (aa hP.r.s hP.r.len))) fun _ => ?_)
  refine Run_loopV [10, 11, 13, 14, 48, 49, 71] (σ := Nat) (fun k => [(48, some (.int .i64 k)), (10, some (.bool false)), (11, some (.int .i64 0))]) (fun k w' => k ≤ p.Runs.length ∧ (∀ j, j < k → Pl.runP t p j = true) ∧ Ext w4 w') (fun k => p.Runs.length - k) 0 (by simp [SubB, fnd]) ⟨by omega, by simp, Ext.refl _⟩ ?_
  rintro k w5 ⟨hk, hf, x5⟩
  have y5 := y4.trans x5
  (repeat with_reducible first | refine jy ?_ | refine jw KL33 [9, 16, 26] TF33 fun _ => ?_)
  refine Run_condS (fun _ => rfl) (fun h => ?_) (fun h => ?_)
  · simp at h
    have hkl := h
    obtain ⟨q1, q2⟩ := (hP.r.ext y5).runD hkl
    have hgr : p.Runs.getD k default = p.Runs[k] := by simp [List.getD_eq_getElem?_getD, hkl]
    simp only [RunD.cs, AtN, KS, Nat.reduceAdd, Nat.reduceMul, Nat.reduceEqDiff, ↓reduceIte, UT] at q1
    (repeat with_reducible first | refine jy ?_ | refine jw KL33 [9, 16, 26] (aa TF33 (aa hP.r.s (aa hP.r.len q1))) fun _ => ?_)
    refine SemW_allocT ti34 fun pr w6 h6 => ?_
    have b6 := h6.blk
    (repeat with_reducible first | refine jy ?_ | refine jw KL33 [9, 16, 26] TF33 fun _ => ?_)
    refine SemW_setW (by rw [cells34]; decide) (by rw [cells34]; rfl) h6.row (by rw [cells34]; rfl) rfl fun w7 r7 k7 z7 => ?_
    have r7 : Row w7 pr 34 p.Runs[k].cs := r7
    have x7 : Ext w5 w7 := Keep.ext h6.ext k7 fun q hq => by omega
    have y7 := y5.trans x7
    have z7 := x4.trans (x5.trans x7)
    have g7 := r7.n
    have t7 := T w7 z7
    have p7 := P w7 z7
    simp only [RunD.cs, AtN, KS, Nat.reduceAdd, Nat.reduceMul, Nat.reduceEqDiff, ↓reduceIte, UT] at g7
    by_cases k0 : k = 0
    · have e0 : decide (0 < (k : Int)) = false := by simp; omega
      (repeat with_reducible first | refine jy ?_ | refine jw KL33 [9, 16, 26] (aa TF33 (aa g7 (aa t7 (aa p7 (aa hP.r.s (aa hP.r.len (aa e0 KX))))))) fun _ => ?_)
      refine ⟨.bool (Tt.isRun t p.Runs[k]), PC_pure call55 fun w8 x8 => ttIs vl t _ w8 (hl.ext (y7.trans x8)) q2, rfl, undef, fun w8 x8 => ?_⟩
      have y8 := y7.trans x8
      have hpk : Pl.runP t p k = Tt.isRun t p.Runs[k] := by unfold Pl.runP; rw [hgr]; simp [k0]
      simp only [bOf_mk, Bool.or_false, Bool.false_and, Bool.and_false]
      refine Run_condS (fun _ => rfl) (fun h => ?_) (fun h => ?_)
      · (repeat with_reducible first | refine jy ?_ | refine jw KL33 [9, 16, 26] TF33 fun _ => ?_)
        refine Run_ret ?_
        have : Pl.runsOk t p = false := not_range hkl (by rw [hpk]; simpa using h)
        simp [Rets, RetM, resV, fnd, oneOr, hres, hg, this, y8]
      · (repeat with_reducible first | refine jy ?_ | refine jw KL33 [9, 16, 26] TF33 fun _ => ?_)
        refine Run_lp ⟨k + 1, ?_, ⟨by omega, fun j hj => ?_, x5.trans (x7.trans x8)⟩, by omega⟩
        · simp [SubB, fnd, strike, has]
        · by_cases e : j = k
          · rw [e, hpk]; simpa using h
          · exact hf j (by omega)
    · have e0 : decide (0 < (k : Int)) = true := by simp; omega
      have e1 : ((k : Int) - 1).toNat = k - 1 := by omega
      obtain ⟨a1, a2⟩ := (hP.r.ext y7).runD (show k - 1 < p.Runs.length by omega)
      simp only [RunD.cs, AtN, KS, Nat.reduceAdd, Nat.reduceMul, Nat.reduceEqDiff, ↓reduceIte, UT] at a1
      have hgr1 : p.Runs.getD (k - 1) default = p.Runs[k - 1] := by simp [List.getD_eq_getElem?_getD, show k - 1 < p.Runs.length by omega]
      (repeat with_reducible first | refine jy ?_ | refine jw KL33 [9, 16, 26] (aa TF33 (aa g7 (aa t7 (aa p7 (aa hP.r.s (aa hP.r.len (aa e0 (aa e1 (aa a1 KX))))))))) fun _ => ?_)
      refine ⟨.bool (Tt.isRun t p.Runs[k]), PC_pure call55 fun w8 x8 => ttIs vl t _ w8 (hl.ext (y7.trans x8)) q2, rfl, fun _ => ⟨by omega, by omega⟩, .int .i64 (cmpR p.Runs[k - 1] p.Runs[k]), (fun _ => PC_pure call56 fun w8 x8 => plCompare _ _ w8), (fun _ => rfl), fun w8 x8 => ?_⟩
      have y8 := y7.trans x8
      have hpk : (!Tt.isRun t p.Runs[k] || decide (0 ≤ cmpR p.Runs[k - 1] p.Runs[k])) = !Pl.runP t p k := by
        unfold Pl.runP; rw [hgr, hgr1, cmpR_before]; simp [k0]
      refine Run_condS (fun _ => rfl) (fun h => ?_) (fun h => ?_)
      · have h2 : (!Pl.runP t p k) = true := hpk.symm.trans h
        (repeat with_reducible first | refine jy ?_ | refine jw KL33 [9, 16, 26] TF33 fun _ => ?_)
        refine Run_ret ?_
        have : Pl.runsOk t p = false := not_range hkl (by simpa using h2)
        simp [Rets, RetM, resV, fnd, oneOr, hres, hg, this, y8]
      · have h2 : (!Pl.runP t p k) = false := hpk.symm.trans h
        (repeat with_reducible first | refine jy ?_ | refine jw KL33 [9, 16, 26] TF33 fun _ => ?_)
        refine Run_lp ⟨k + 1, ?_, ⟨by omega, fun j hj => ?_, x5.trans (x7.trans x8)⟩, by omega⟩
        · simp [SubB, fnd, strike, has]
        · by_cases e : j = k
          · rw [e]; simpa using h2
          · exact hf j (by omega)
  simp at h
  obtain rfl : k = p.Runs.length := by omega
  have hro : Pl.runsOk t p = true := all_range hf
  rw [hro, Bool.true_and] at hg
  have hrun : ∀ i, i < p.Runs.length → 0 ≤ (p.Runs.getD i default).Line ∧ (p.Runs.getD i default).Line < t.Lines.length ∧ Tt.LOk (Pl.lineR t (p.Runs.getD i default)) t.Offices := fun i hi => by
    have := hf i hi
    simp only [Pl.runP, Bool.and_eq_true] at this
    exact isRunL this.1
  clear hf
  (repeat with_reducible first | refine jy ?_ | refine jw KL33 [9, 16, 26] TF33 fun _ => ?_)
  refine SemW_makeMap (kt := 34) fun w6 m6 x6 z6 => ?_
  have hcell : Tryz.prog.cellsOf 34 = 3 := cells34
  have hflat : flatT Tryz.prog 34 = true := by kernel_rfl
  generalize hb : w5.heap.size = b at *
  have p6 := P w6 (x4.trans (x5.trans x6))
  (repeat with_reducible first | refine jy ?_ | refine jw KL33 [9, 16, 26] (aa TF33 (aa p6 (aa hP.o.s hP.o.len))) fun _ => ?_)
  refine Run_loopV [10, 11, 16, 17, 18, 77, 78, 105] (σ := Nat) (fun k => [(77, some (.int .i64 k)), (10, some (.bool false)), (11, some (.int .i64 0))]) (fun k w' => k ≤ p.Of.length ∧ (∀ j, j < k → Pl.ofP t f l p j = true) ∧ Ext w5 w' ∧ ∃ m, MapB w' b (Tryz.prog.cellsOf 34) m ∧ LoadsAre m (Pl.load l ((Pl.ofs p).take k))) (fun k => p.Of.length - k) 0 (by simp [SubB, fnd]) ⟨by omega, by simp, x6, [], m6, fun r => by simp [mget, ffind, Pl.load, Pl.loadF]⟩ ?_
  rintro k w7 ⟨hk, hf, x7, m, hM, hL⟩
  have y7 := y5.trans x7
  (repeat with_reducible first | refine jy ?_ | refine jw KL33 [9, 16, 26] TF33 fun _ => ?_)
  refine Run_condS (fun _ => rfl) (fun h => ?_) (fun h => ?_)
  · simp at h
    have hkl := h
    obtain ⟨f1, f2, f3⟩ := (hP.o.ext y7).get hkl
    have hgo : p.Of.getD k 0 = p.Of[k] := by simp [List.getD_eq_getElem?_getD, hkl]
    have z7 := x4.trans (x5.trans x7)
    have t7 := T w7 z7
    have ff7 := F w7 z7
    have p7 := P w7 z7
    (repeat with_reducible first | refine jy ?_ | refine jw KL33 [9, 16, 26] (aa TF33 (aa hP.o.s (aa hP.o.len (aa f1 f2)))) fun _ => ?_)
    generalize hq : p.Of[k] = q at *
    by_cases hin : 0 ≤ q ∧ q < p.Runs.length
    · have e0 : decide (q < 0) = false := by simp; omega
      have e1 : decide ((p.Runs.length : Int) ≤ q) = false := by simp; omega
      have hkl2 : k < l.length := by omega
      obtain ⟨g, o1, o2, hO⟩ := (ho.ext y7).ord hkl2
      obtain ⟨r1, r2⟩ := (hP.r.ext y7).runD (show q.toNat < p.Runs.length by omega)
      have hgq : p.Runs.getD q.toNat default = p.Runs[q.toNat] := by simp [List.getD_eq_getElem?_getD, show q.toNat < p.Runs.length by omega]
      have hgl : l.getD k default = l[k] := by simp [List.getD_eq_getElem?_getD, hkl2]
      obtain ⟨hr1, hr2, hr3⟩ := hrun q.toNat (by omega)
      rw [hgq] at hr1 hr2 hr3
      have hor := ok.o _ (List.getElem_mem hkl2)
      simp only [Pl.oright, Pl.oNum, Bool.and_eq_true, decide_eq_true_eq] at hor
      have hcl := hor.1.2.2.2.1
      have hcr := hor.1.2.2.2.2.2.2.1
      clear hor
      have hpk : Pl.ofP t f l p k = Pl.fits t f l[k] p.Runs[q.toNat] := by
        unfold Pl.ofP; rw [hgo, hgl, hgq, decide_eq_true hin, Bool.true_and]
      have hofs : (Pl.ofs p).take (k + 1) = (Pl.ofs p).take k ++ [p.Runs[q.toNat]] := by
        have hkk : k < (Pl.ofs p).length := by simp [Pl.ofs]; omega
        rw [List.take_succ_eq_append_getElem hkk]
        congr 2
        have hgq' := hgq
        rw [List.getD_eq_getElem?_getD] at hgq'
        simpa [Pl.ofs, hq] using hgq'
      have hlk : ((Pl.ofs p).take k).length = k := by simp [Pl.ofs]; omega
      generalize hxx : p.Runs[q.toNat] = r at *
      generalize hoo : l[k] = o at *
      simp only [OrderD.cs, RunD.cs, AtN, KS, Nat.reduceAdd, Nat.reduceMul, Nat.reduceEqDiff, ↓reduceIte, UT] at o1 r1
      (repeat with_reducible first | refine jy ?_ | refine jw KL33 [9, 16, 26] (aa TF33 (aa t7 (aa ff7 (aa p7 (aa ho.s (aa ho.len (aa hP.r.s (aa hP.r.len (aa e0 (aa e1 (aa o1 (aa r1 KX)))))))))))) fun _ => ?_)
      refine ⟨.bool (Pl.fits t f o r), PC_pure call57 fun w8 x8 => plFits vl t f u0 u1 u2 o g r w8 (hl.ext (y7.trans x8)) (hT.ext (y7.trans x8)) (hO.ext x8) ⟨hr1, hr2⟩ hr3 hcl.1, rfl, fun w8 x8 => ?_⟩
      have y8 := y7.trans x8
      refine Run_condS (fun _ => rfl) (fun h => ?_) (fun h => ?_)
      · have hfit : Pl.fits t f o r = false := by simpa using h
        (repeat with_reducible first | refine jy ?_ | refine jw KL33 [9, 16, 26] TF33 fun _ => ?_)
        refine Run_ret ?_
        have : Pl.ofsOk t f l p = false := not_range hkl2 (by rw [hpk]; exact hfit)
        simp [Rets, RetM, resV, fnd, oneOr, hres, hg, this, y8]
      have hfit : Pl.fits t f o r = true := by simpa using h
      clear h
      have z8 := z7.trans x8
      have p8 := P w8 z8
      have r8 : AtN w8 ((slAt v0).add (q.toNat * 3)) 0 r.cs := by
        obtain ⟨c1, _⟩ := (hP.r.ext y8).runD (show q.toNat < p.Runs.length by omega)
        rw [hxx] at c1; exact c1
      simp only [RunD.cs, AtN, KS, Nat.reduceAdd, Nat.reduceMul, Nat.reduceEqDiff, ↓reduceIte, UT] at r8
      (repeat with_reducible first | refine jy ?_ | refine jw KL33 [9, 16, 26] (aa TF33 (aa p8 (aa hP.r.s (aa hP.r.len r8)))) fun _ => ?_)
      refine SemW_allocT ti34 fun pr w9 h9 => ?_
      have b9 := h9.blk
      (repeat with_reducible first | refine jy ?_ | refine jw KL33 [9, 16, 26] TF33 fun _ => ?_)
      refine SemW_setW (by rw [cells34]; decide) (by rw [cells34]; rfl) h9.row (by rw [cells34]; rfl) rfl fun w10 r10 k10 z10 => ?_
      have r10 : Row w10 pr 34 r.cs := r10
      have x10 : Ext w8 w10 := Keep.ext h9.ext k10 fun q hq => by omega
      have y10 := y8.trans x10
      have x710 := x8.trans x10
      have hM10 := hM.ext x710
      have hblt := hM.lt
      have s7 := x710.size
      let S : Nat → Prop := fun k => k ≠ b
      (repeat with_reducible refine js ?_)
      refine Run_es S (id := 19) KL33 (.first 0 (.first 1 (.first 2 (.first 3 (.first 5 (.first 6 (.first 7 (.first 8 (.alt 4 (.alt 9 (.alt 10 .done .stop) .stop) .stop))))))))) mixed (by kernel_rfl) (by kernel_rfl) fun w11 x11 _ => ?_
      have g11 := (r10.at_.ext x11).n
      have o11 : AtN w11 ((slAt vo).add (k * 11)) 0 (o.cs g) := (o2.ext (x710.trans x11)).n
      simp only [RunD.cs, OrderD.cs, AtN, KS, Nat.reduceAdd, Nat.reduceMul, Nat.reduceEqDiff, ↓reduceIte, UT] at g11 o11
      have hM11 := hM10.ext x11
      (try simp (maxSteps := 5000000) only [KS, Nat.reduceAdd, Nat.reduceMul, Nat.reduceEqDiff, ↓reduceIte, forall_const, Int.cast_ofNat_Int, Int.reduceToNat, List.take_succ_cons, List.take_zero, List.drop_succ_cons, List.drop_zero, TF33, KL33, es, qopS, putL, g11, o11, ho.s, ho.len]); (try simp (disch := omega) only [wrapI, tmodI, tdivI])
      have hvo : ((slAt vo).add (k * 11)).block < w.heap.size := by
        obtain ⟨g0, _, oo, _⟩ := ho.ord hkl2
        have := World.block_lt_of_cell? _ _ (oo 0 _ rfl)
        rwa [add_zero] at this
      have hwb : w.heap.size ≤ b := by have := y5.size; omega
      have s8 := x8.size
      have hnB : 0 ≤ (Pl.load l ((Pl.ofs p).take k) r).n ∧ (Pl.load l ((Pl.ofs p).take k) r).n ≤ 1000000000000000 := by
        have := Pl.load_bd (l := l) (fun x hx => by
          have := ok.o _ hx
          simp only [Pl.oright, Pl.oNum, Bool.and_eq_true, decide_eq_true_eq] at this
          exact this.1.2.2.2.2.2.2.1) ((Pl.ofs p).take k) r
        have := ok.n
        omega
      have hz := hL r
      refine ⟨by show pr.block ≠ b; omega, by show pr.block ≠ b; omega, ⟨by omega, by omega⟩, by show _ ≠ b; omega, Keep.refl _ _, ?_⟩
      refine SemW_lookup (k := rk r) Tryz.underlying89 hflat ti92 hM11 (by rw [hcell]; rfl) ⟨Keep.refl _ _, ?_⟩
      simp only [Bool.false_eq_true, if_false]
      have hz' : (mget m (rk r)).getD (.agg #[.int .i64 0, .int .i64 0]) = ldv (Pl.load l ((Pl.ofs p).take k) r) := hz
      rw [hz']
      refine CallW_pure call37 (ldWith _ o g w11 hnB hcr) fun w12 x12 => ⟨Keep.of_ext x12, ?_⟩
      refine SemW_mapUpdate (k := rk r) Tryz.underlying89 hflat (hM11.ext x12) (by rw [hcell]; rfl) fun w13 m13 k13 z13 => ⟨(Keep.of_ext x12).trans k13, ?_⟩
      have y13 : Ext w5 w13 := Keep.ext (x7.trans (x710.trans (x11.trans x12))) k13 fun q hq => by omega
      (repeat with_reducible first | refine jy ?_ | refine jw KL33 [9, 16, 26] TF33 fun _ => ?_)
      refine Run_lp ⟨k + 1, ?_, ⟨by omega, fun j hj => ?_, y13, _, m13, ?_⟩, by omega⟩
      · simp [SubB, fnd, strike, has]
      · by_cases e : j = k
        · rw [e, hpk]; exact hfit
        · exact hf j (by omega)
      · rw [hofs]
        have := loads_set hL r ((Pl.load l ((Pl.ofs p).take k) r).wth o)
        intro s
        rw [Pl.load_snoc (by omega) r s]
        have hs := this s
        simp only [hlk, hoo] at hs ⊢
        by_cases e : r = s
        · subst e; simpa using hs
        · simpa [e] using hs
    · have hbad : Pl.good t f l covers p = false := by
        have : Pl.ofsOk t f l p = false := not_range (show k < l.length by omega) (by
          unfold Pl.ofP; rw [hgo, decide_eq_false hin, Bool.false_and])
        rw [hg, this]; rfl
      by_cases e0 : q < 0
      · have e0 : decide (q < 0) = true := by simp; omega
        (repeat with_reducible first | refine jy ?_ | refine jw KL33 [9, 16, 26] (aa TF33 (aa e0 KX)) fun _ => ?_)
        refine ⟨undef, fun w8 x8 => ?_⟩
        refine Run_condS (fun _ => rfl) (fun _ => ?_) (fun h => by cases h)
        (repeat with_reducible first | refine jy ?_ | refine jw KL33 [9, 16, 26] TF33 fun _ => ?_)
        refine Run_ret ?_
        simp [Rets, RetM, resV, fnd, oneOr, hres, hbad]
        exact y7.trans x8
      · have e0' : decide (q < 0) = false := by simp; omega
        have e1 : decide ((p.Runs.length : Int) ≤ q) = true := by simp; omega
        (repeat with_reducible first | refine jy ?_ | refine jw KL33 [9, 16, 26] (aa TF33 (aa p7 (aa hP.r.s (aa hP.r.len (aa e0' (aa e1 KX)))))) fun _ => ?_)
        refine ⟨undef, fun w8 x8 => ?_⟩
        refine Run_condS (fun _ => rfl) (fun _ => ?_) (fun h => by cases h)
        (repeat with_reducible first | refine jy ?_ | refine jw KL33 [9, 16, 26] TF33 fun _ => ?_)
        refine Run_ret ?_
        simp [Rets, RetM, resV, fnd, oneOr, hres, hbad]
        exact y7.trans x8
  simp at h
  obtain rfl : k = p.Of.length := by omega
  have hfo : Pl.ofsOk t f l p = true := all_range fun j hj => hf j (by omega)
  rw [hfo, Bool.true_and] at hg
  have htk : (Pl.ofs p).take p.Of.length = Pl.ofs p := List.take_of_length_le (by simp [Pl.ofs])
  rw [htk] at hL
  clear hf htk
  have hcrw : ∀ r, 0 ≤ (Pl.load l (Pl.ofs p) r).n ∧ (Pl.load l (Pl.ofs p) r).n ≤ 1000000000000000 ∧ 0 ≤ (Pl.load l (Pl.ofs p) r).c ∧ (Pl.load l (Pl.ofs p) r).c ≤ 65 := fun r => by
    have := Pl.load_bd (l := l) (fun x hx => by
      have := ok.o _ hx
      simp only [Pl.oright, Pl.oNum, Bool.and_eq_true, decide_eq_true_eq] at this
      exact this.1.2.2.2.2.2.2.1) (Pl.ofs p) r
    have := ok.n
    omega
  have z7 := x4.trans (x5.trans x7)
  have p7 := P w7 z7
  have hcl := hP.c.len
  (repeat with_reducible first | refine jy ?_ | refine jw KL33 [9, 16, 26] (aa TF33 (aa p7 (aa hP.r.s hP.r.len))) fun _ => ?_)
  refine Run_loopV [10, 11, 19, 20, 21, 22, 125, 126, 160] (σ := Nat) (fun k => [(125, some (.int .i64 k)), (19, some (.int .i64 (Pl.sum (p.Covers.take k)))), (10, some (.bool false)), (11, some (.int .i64 0))]) (fun k w' => k ≤ p.Runs.length ∧ (∀ j, j < k → Pl.covP t l p j = true) ∧ (0 ≤ Pl.sum (p.Covers.take k) ∧ Pl.sum (p.Covers.take k) ≤ 65 * k) ∧ Ext w7 w') (fun k => p.Runs.length - k) 0 (by simp [SubB, fnd, Pl.sum]) ⟨by omega, by simp, by simp [Pl.sum], Ext.refl _⟩ ?_
  rintro k w8 ⟨hk, hf, hsm, x8⟩
  have y8 := y7.trans x8
  have z8 := z7.trans x8
  (repeat with_reducible first | refine jy ?_ | refine jw KL33 [9, 16, 26] TF33 fun _ => ?_)
  refine Run_condS (fun _ => rfl) (fun h => ?_) (fun h => ?_)
  · simp at h
    have hkl := h
    obtain ⟨r1, r2⟩ := (hP.r.ext y8).runD hkl
    obtain ⟨c1, c2, c3⟩ := (hP.c.ext y8).get (show k < p.Covers.length by omega)
    have hgr : p.Runs.getD k default = p.Runs[k] := by simp [List.getD_eq_getElem?_getD, hkl]
    have hgc : p.Covers.getD k 0 = p.Covers[k]'(by omega) := by simp [List.getD_eq_getElem?_getD, show k < p.Covers.length by omega]
    have hsk := Pl.sum_take p.Covers k (by omega)
    obtain ⟨hr1, hr2, hr3⟩ := hrun k hkl
    rw [hgr] at hr1 hr2 hr3
    have hcov : Pl.covP t l p k = decide ((Pl.load l (Pl.ofs p) p.Runs[k]).n ≠ 0 ∧ p.Covers[k]'(by omega) = (Pl.load l (Pl.ofs p) p.Runs[k]).covers ∧ max (Pl.load l (Pl.ofs p) p.Runs[k]).n (Pl.load l (Pl.ofs p) p.Runs[k]).c ≤ (Pl.lineR t p.Runs[k]).Room) := by
      unfold Pl.covP; rw [hgr, hgc]
    have hz := hL p.Runs[k]
    have hbd := hcrw p.Runs[k]
    generalize hxx : p.Runs[k] = r at *
    generalize hcc : p.Covers[k]'(by omega) = cv at *
    generalize hld : Pl.load l (Pl.ofs p) r = ld at *
    simp only [RunD.cs, AtN, KS, Nat.reduceAdd, Nat.reduceMul, Nat.reduceEqDiff, ↓reduceIte, UT] at r1
    (repeat with_reducible first | refine jy ?_ | refine jw KL33 [9, 16, 26] (aa TF33 (aa hP.r.s (aa hP.r.len r1))) fun _ => ?_)
    refine SemW_allocT ti34 fun pr w9 h9 => ?_
    have b9 := h9.blk
    (repeat with_reducible first | refine jy ?_ | refine jw KL33 [9, 16, 26] TF33 fun _ => ?_)
    refine SemW_setW (by rw [cells34]; decide) (by rw [cells34]; rfl) h9.row (by rw [cells34]; rfl) rfl fun w10 r10 k10 z10 => ?_
    have r10 : Row w10 pr 34 r.cs := r10
    have x10 : Ext w8 w10 := Keep.ext h9.ext k10 fun q hq => by omega
    have g10 := r10.n
    simp only [RunD.cs, AtN, KS, Nat.reduceAdd, Nat.reduceMul, Nat.reduceEqDiff, ↓reduceIte, UT] at g10
    have hM10 := hM.ext (x8.trans x10)
    (repeat with_reducible first | refine jy ?_ | refine jw KL33 [9, 16, 26] (aa TF33 g10) fun _ => ?_)
    refine SemW_lookup (k := rk r) Tryz.underlying89 hflat ti92 hM10 (by rw [hcell]; rfl) ?_
    simp only [Bool.false_eq_true, if_false]
    have hz' : (mget m (rk r)).getD (.agg #[.int .i64 0, .int .i64 0]) = ldv ld := hz
    rw [hz']
    (repeat with_reducible first | refine jy ?_ | refine jw KL33 [9, 16, 26] TF33 fun _ => ?_)
    refine SemW_allocT ti92 fun px w11 h11 => ?_
    have b11 := h11.blk
    (repeat with_reducible first | refine jy ?_ | refine jw KL33 [9, 16, 26] TF33 fun _ => ?_)
    refine SemW_setW (by rw [cells92]; decide) (by rw [cells92]; rfl) h11.row (by rw [cells92]; rfl) rfl fun w12 r12 k12 z12 => ?_
    have r12 : Row w12 px 92 [.int .i64 ld.n, .int .i64 ld.c] := r12
    have x12 : Ext w10 w12 := Keep.ext h11.ext k12 fun q hq => by omega
    have x812 := x10.trans x12
    have y12 := y8.trans x812
    have g12 := r12.n
    have gr12 := (r10.at_.ext x12).n
    have p12 := P w12 (z8.trans x812)
    have t12 := T w12 (z8.trans x812)
    obtain ⟨d1, d2, d3⟩ := (hP.c.ext y12).get (show k < p.Covers.length by omega)
    rw [hcc] at d1
    have hlt : r.Line.toNat < t.Lines.length := by omega
    have hlo : Pl.lineR t r = t.Lines[r.Line.toNat] := by unfold Pl.lineR; simp [List.getD_eq_getElem?_getD, hlt]
    obtain ⟨l0, l1, l2, l3, e1, e2, hR⟩ := (hl.ext y12).line hlt
    rw [← hlo] at e1 e2 hR
    generalize hln : Pl.lineR t r = x at *
    simp only [RunD.cs, LineD.cs, AtN, KS, Nat.reduceAdd, Nat.reduceMul, Nat.reduceEqDiff, ↓reduceIte, UT] at g12 gr12 e1
    by_cases n0 : ld.n = 0
    · have e0 : (ld.n == 0) = true := by simp [n0]
      (repeat with_reducible first | refine jy ?_ | refine jw KL33 [9, 16, 26] (aa TF33 (aa g12 (aa e0 KX))) fun _ => ?_)
      refine ⟨undef, fun w13 x13 => ?_⟩
      refine Run_condS (fun _ => rfl) (fun _ => ?_) (fun h => by cases h)
      (repeat with_reducible first | refine jy ?_ | refine jw KL33 [9, 16, 26] TF33 fun _ => ?_)
      refine Run_ret ?_
      have : Pl.covsOk t l p = false := not_range hkl (by rw [hcov]; simp [n0])
      simp [Rets, RetM, resV, fnd, oneOr, hres, hg, this]
      exact y12.trans x13
    · have e0 : (ld.n == 0) = false := by simp [n0]
      (repeat with_reducible first | refine jy ?_ | refine jw KL33 [9, 16, 26] (aa TF33 (aa g12 (aa gr12 (aa p12 (aa t12 (aa hP.c.s (aa hP.c.len (aa d1 (aa d2 (aa hl.s (aa hl.len (aa e1 (aa e0 KX))))))))))))) fun _ => ?_)
      refine ⟨.int .i64 ld.covers, PC_pure call38 fun w13 x13 => ldCovers ld w13 ⟨hbd.1, hbd.2.1⟩ ⟨hbd.2.2.1, hbd.2.2.2⟩, rfl, fun _ => ⟨hr1, hr2⟩, fun w13 x13 => ?_⟩
      have y13 := y12.trans x13
      have hcb : (cv != ld.covers || decide (x.Room < max ld.n ld.c)) = !Pl.covP t l p k := by
        rw [hcov, Bool.eq_iff_iff]
        simp only [Bool.or_eq_true, bne_iff_ne, ne_eq, decide_eq_true_eq, Bool.not_eq_true', decide_eq_false_iff_not]
        constructor
        · intro h1 h2
          rcases h1 with h1 | h1
          · exact h1 h2.2.1
          · have := h2.2.2; omega
        · intro h1
          by_cases h2 : cv = ld.covers
          · right
            have : ¬ (max ld.n ld.c ≤ x.Room) := fun h3 => h1 ⟨n0, h2, h3⟩
            omega
          · exact .inl h2
      refine Run_condS (fun _ => rfl) (fun h => ?_) (fun h => ?_)
      · have h2 : (!Pl.covP t l p k) = true := hcb.symm.trans h
        (repeat with_reducible first | refine jy ?_ | refine jw KL33 [9, 16, 26] TF33 fun _ => ?_)
        refine Run_ret ?_
        have : Pl.covsOk t l p = false := not_range hkl (by simpa using h2)
        simp [Rets, RetM, resV, fnd, oneOr, hres, hg, this, y13]
      · have h2 : (!Pl.covP t l p k) = false := hcb.symm.trans h
        have h2 : Pl.covP t l p k = true := by simpa using h2
        have h3 : cv = ld.covers := by
          rw [hcov] at h2
          exact (of_decide_eq_true h2).2.1
        have hcv : 0 ≤ cv ∧ cv ≤ 65 := by rw [h3]; unfold Pl.LoadD.covers; omega
        have p13 := P w13 (z8.trans (x812.trans x13))
        have d1' : mem w13 ((slAt v2).add k) = .int .i64 cv := by rw [x13.mem d2, d1]
        have d2' := x13.has1 d2
        (repeat with_reducible first | refine jy ?_ | refine jw KL33 [9, 16, 26] (aa TF33 (aa p13 (aa hP.c.s (aa hP.c.len (aa d1' d2'))))) fun _ => ?_)
        refine Run_lp ⟨k + 1, ?_, ⟨by omega, fun j hj => ?_, ?_, x8.trans (x812.trans x13)⟩, by omega⟩
        · rw [hsk]; simp [SubB, fnd, strike, has]
        · by_cases e : j = k
          · rw [e]; exact h2
          · exact hf j (by omega)
        · rw [hsk]; omega
  · simp at h
    obtain rfl : k = p.Runs.length := by omega
    have hco : Pl.covsOk t l p = true := all_range hf
    have htk : p.Covers.take p.Runs.length = p.Covers := List.take_of_length_le (by omega)
    rw [hco, Bool.true_and] at hg
    rw [htk]
    (repeat with_reducible first | refine jy ?_ | refine jw KL33 [9, 16, 26] TF33 fun _ => ?_)
    refine Run_ret ?_
    simp [Rets, RetM, resV, fnd, oneOr, hres, hg]
    exact y8
end Go.Proofs.YtldjfebokojmfaaGreat
