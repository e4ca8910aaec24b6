import Derived.Test.YtldjfebokojmfaaGreatRfG3
import Derived.Test.YtldjfebokojmfaaGreatRfW22f
import Derived.Test.YtldjfebokojmfaaGreatRfGe
import Derived.Test.YtldjfebokojmfaaGreatRfGb
namespace Go.Proofs.YtldjfebokojmfaaGreat
open Go Go.Fk
set_option linter.unusedSimpArgs false
set_option linter.unusedVariables false
set_option maxRecDepth 100000
theorem rferrW {vl u0 u1 u2 vo : Value} {t : TimeD} {f : TariffD} {l : List OrderD} {w : World} {K : Value → World → Prop} (hl : Sl w vl t.Lines) (hT : TarR w f u0 u1 u2) (ho : Sl w vo l) (hK : ∀ w', Ext w w' → K (.int .i64 (Pl.err t f l)) w') :
    CallW Tryz.prog (.func (.func 31) #[] #[]) [.agg #[.int .i64 t.Offices, vl], .agg #[u0, u1, u2], vo] w K := CallW_pure call31 (rfError22 vl u0 u1 u2 vo t f l w hl hT ho) hK
set_option maxHeartbeats 4000000 in
theorem rfCheckP (vl u0 u1 u2 vo v0 v1 v2 : Value) (t : TimeD) (f : TariffD) (l : List OrderD) (covers : Int) (p : PlanD) (w : World) (hl : Sl w vl t.Lines) (hT : TarR w f u0 u1 u2) (ho : Sl w vo l) (hP : PlanR w p v0 v1 v2) :
    Calls Tryz.prog 71 #[.agg (t.cs vl).toArray, .agg (f.cs u0 u1 u2).toArray, vo, .int .i64 covers, .agg (p.cs v0 v1 v2).toArray] w fun e w' => e = .returned (.tuple #[.bool (Pl.check t f l covers p).1, .int .i64 (Pl.check t f l covers p).2]) ∧ Ext w w' := by
  have hn := hP.r.small
  have hn1 := hP.o.small
  have hrl := hP.r.len
  have hol := ho.len
  refine Calls_of_Run (args := [.agg (t.cs vl).toArray, .agg (f.cs u0 u1 u2).toArray, vo, .int .i64 covers, .agg (p.cs v0 v1 v2).toArray]) (n := 189) (rs := [.tmp 10, .tmp 11]) Tryz.func71 rfl rfl rfl (by simp) ?_
  (repeat with_reducible first | refine jy ?_ | refine jw KL71 [9, 15, 23] TF71 fun _ => ?_)
  refine SemW_box fun pt w1 h1 => SemW_box fun pf w2 h2 => SemW_box fun pp w3 h3 => ?_
  have x3 := h1.ext.trans (h2.ext.trans h3.ext)
  have T : ∀ w', Ext w3 w' → AtN w' pt 0 (t.cs vl) := fun w' x => (h1.at_.ext (h2.ext.trans (h3.ext.trans x))).n
  have F : ∀ w', Ext w3 w' → AtN w' pf 0 (f.cs u0 u1 u2) := fun w' x => (h2.at_.ext (h3.ext.trans x)).n
  have P : ∀ w', Ext w3 w' → AtN w' pp 0 (p.cs v0 v1 v2) := fun w' x => (h3.at_.ext x).n
  simp only [TimeD.cs, TariffD.cs, PlanD.cs, AtN, KS, Nat.reduceAdd, Nat.reduceMul, Nat.reduceEqDiff, ↓reduceIte, UT] at T F P
  have t3 := T w3 (Ext.refl _)
  have f3 := F w3 (Ext.refl _)
  (repeat with_reducible first | refine jy ?_ | refine jw KL71 [9, 15, 23] (aa TF71 (aa t3 f3)) fun _ => ?_)
  refine rferrW (hl.ext x3) (hT.ext x3) (ho.ext x3) fun w4 x4 => ?_
  have y4 := x3.trans x4
  (repeat with_reducible first | refine jy ?_ | refine jw KL71 [9, 15, 23] TF71 fun _ => ?_)
  refine Run_condS (fun _ => rfl) (fun h => ?_) (fun h => ?_)
  · have hc : Pl.err t f l ≠ 0 := by simpa using h
    (repeat with_reducible first | refine jy ?_ | refine jw KL71 [9, 15, 23] TF71 fun _ => ?_)
    refine Run_ret ?_
    have : Pl.check t f l covers p = (false, Pl.err t f l) := by unfold Pl.check; rw [if_pos hc]
    simp [Rets, RetM, resV, fnd, oneOr, this, y4]
  have hc : Pl.err t f l = 0 := by simpa using h
  clear h
  have ok := Pl.err_ok hc
  have hn64 := ok.n
  have hf8 := (Tf.chk_ok ok.f).n8
  have hres : Pl.check t f l covers p = (Pl.good t f l covers p, 0) := by unfold Pl.check; rw [if_neg (by simp [hc])]
  have p4 := P w4 x4
  (repeat with_reducible first | refine jy ?_ | refine jw KL71 [9, 15, 23] (aa TF71 (aa p4 (aa hP.r.s (aa hP.r.len (aa hP.o.s (aa hP.o.len (aa hP.c.s (aa hP.c.len (aa ho.s ho.len))))))))) fun _ => ?_)
  refine Run_condS (fun _ => rfl) (fun h => ?_) (fun h => ?_)
  · (repeat with_reducible first | refine jy ?_ | refine jw KL71 [9, 15, 23] TF71 fun _ => ?_)
    refine Run_ret ?_
    have : Pl.good t f l covers p = false := by
      have : decide (p.Of.length = l.length ∧ p.Covers.length = p.Runs.length) = false := by
        simp only [Bool.or_eq_true, bne_iff_ne, ne_eq] at h
        simp; omega
      simp [Pl.good, this]
    simp [Rets, RetM, resV, fnd, oneOr, hres, this, y4]
  have hlen : p.Of.length = l.length ∧ p.Covers.length = p.Runs.length := by
    simp only [Bool.or_eq_false_iff, bne_eq_false_iff_eq] at h
    omega
  clear h
  have hg : Pl.good t f l covers p = (Pl.runsOk t p && Pl.ofsOk t f l p && Pl.covsOk t l p && decide (Pl.sum p.Covers ≤ covers)) := by
    unfold Pl.good; rw [decide_eq_true hlen, Bool.true_and]
  (repeat with_reducible first | refine jy ?_ | refine jw KL71 [9, 15, 23] (aa TF71 (aa p4 (aa hP.r.s hP.r.len))) fun _ => ?_)
  refine Run_loopV [10, 11, 13, 46, 75] (σ := Nat) (fun k => [(13, some (.int .i64 k)), (10, some (.bool false)), (11, some (.int .i64 0))]) (fun k w' => k ≤ p.Runs.length ∧ (∀ j, j < k → Pl.runP t p j = true) ∧ Ext w4 w') (fun k => p.Runs.length - k) 0 (by simp [SubB, fnd]) ⟨by omega, by simp, Ext.refl _⟩ ?_
  rintro k w5 ⟨hk, hf, x5⟩
  have y5 := y4.trans x5
  have p5 := P w5 (x4.trans x5)
  have t5 := T w5 (x4.trans x5)
  (repeat with_reducible first | refine jy ?_ | refine jw KL71 [9, 15, 23] (aa TF71 (aa p5 (aa hP.r.s hP.r.len))) fun _ => ?_)
  refine Run_condS (fun _ => rfl) (fun h => ?_) (fun h => ?_)
  · simp at h
    have hkl := h
    obtain ⟨q1, q2⟩ := (hP.r.ext y5).runD hkl
    have hgr : p.Runs.getD k default = p.Runs[k] := by simp [List.getD_eq_getElem?_getD, hkl]
    simp only [RunD.cs, AtN, KS, Nat.reduceAdd, Nat.reduceMul, Nat.reduceEqDiff, ↓reduceIte, UT] at q1
    by_cases k0 : k = 0
    · have e0 : decide (0 < (k : Int)) = false := by simp; omega
      (repeat with_reducible first | refine jy ?_ | refine jw KL71 [9, 15, 23] (aa TF71 (aa t5 (aa p5 (aa hP.r.s (aa hP.r.len (aa q1 (aa e0 KX))))))) fun _ => ?_)
      refine ⟨.bool (Tt.isRun t p.Runs[k]), PC_pure call107 fun w8 x8 => rfIs vl t _ w8 (hl.ext (y5.trans x8)) q2, rfl, undef, fun w8 x8 => ?_⟩
      have y8 := y5.trans x8
      have hpk : Pl.runP t p k = Tt.isRun t p.Runs[k] := by unfold Pl.runP; rw [hgr]; simp [k0]
      simp only [bOf_mk, Bool.or_false, Bool.false_and, Bool.and_false]
      refine Run_condS (fun _ => rfl) (fun h => ?_) (fun h => ?_)
      · (repeat with_reducible first | refine jy ?_ | refine jw KL71 [9, 15, 23] TF71 fun _ => ?_)
        refine Run_ret ?_
        have : Pl.runsOk t p = false := not_range hkl (by rw [hpk]; simpa using h)
        simp [Rets, RetM, resV, fnd, oneOr, hres, hg, this, y8]
      · (repeat with_reducible first | refine jy ?_ | refine jw KL71 [9, 15, 23] TF71 fun _ => ?_)
        refine Run_lp ⟨k + 1, ?_, ⟨by omega, fun j hj => ?_, x5.trans x8⟩, by omega⟩
        · simp [SubB, fnd, strike, has]
        · by_cases e : j = k
          · rw [e, hpk]; simpa using h
          · exact hf j (by omega)
    · have e0 : decide (0 < (k : Int)) = true := by simp; omega
      have e1 : ((k : Int) - 1).toNat = k - 1 := by omega
      obtain ⟨a1, a2⟩ := (hP.r.ext y5).runD (show k - 1 < p.Runs.length by omega)
      simp only [RunD.cs, AtN, KS, Nat.reduceAdd, Nat.reduceMul, Nat.reduceEqDiff, ↓reduceIte, UT] at a1
      have hgr1 : p.Runs.getD (k - 1) default = p.Runs[k - 1] := by simp [List.getD_eq_getElem?_getD, show k - 1 < p.Runs.length by omega]
      (repeat with_reducible first | refine jy ?_ | refine jw KL71 [9, 15, 23] (aa TF71 (aa t5 (aa p5 (aa hP.r.s (aa hP.r.len (aa q1 (aa e0 (aa e1 (aa a1 KX))))))))) fun _ => ?_)
      refine ⟨.bool (Tt.isRun t p.Runs[k]), PC_pure call107 fun w8 x8 => rfIs vl t _ w8 (hl.ext (y5.trans x8)) q2, rfl, (fun _ => ⟨by omega, by omega⟩), (fun _ => ⟨by omega, by omega⟩), .bool (Tt.before p.Runs[k - 1] p.Runs[k]), (fun _ => PC_pure call108 fun w8 x8 => rfBefore _ _ w8), (fun _ => rfl), fun w8 x8 => ?_⟩
      have y8 := y5.trans x8
      have hpk : (!Tt.isRun t p.Runs[k] || !Tt.before p.Runs[k - 1] p.Runs[k]) = !Pl.runP t p k := by
        unfold Pl.runP; rw [hgr, hgr1]; simp [k0]
      refine Run_condS (fun _ => rfl) (fun h => ?_) (fun h => ?_)
      · have h2 : (!Pl.runP t p k) = true := hpk.symm.trans h
        (repeat with_reducible first | refine jy ?_ | refine jw KL71 [9, 15, 23] TF71 fun _ => ?_)
        refine Run_ret ?_
        have : Pl.runsOk t p = false := not_range hkl (by simpa using h2)
        simp [Rets, RetM, resV, fnd, oneOr, hres, hg, this, y8]
      · have h2 : (!Pl.runP t p k) = false := hpk.symm.trans h
        (repeat with_reducible first | refine jy ?_ | refine jw KL71 [9, 15, 23] TF71 fun _ => ?_)
        refine Run_lp ⟨k + 1, ?_, ⟨by omega, fun j hj => ?_, x5.trans x8⟩, by omega⟩
        · simp [SubB, fnd, strike, has]
        · by_cases e : j = k
          · rw [e]; simpa using h2
          · exact hf j (by omega)
  simp at h
  obtain rfl : k = p.Runs.length := by omega
  have hro : Pl.runsOk t p = true := all_range hf
  rw [hro, Bool.true_and] at hg
  have hrun : ∀ i, i < p.Runs.length → 0 ≤ (p.Runs.getD i default).Line ∧ (p.Runs.getD i default).Line < t.Lines.length ∧ Tt.LOk (Pl.lineR t (p.Runs.getD i default)) t.Offices := fun i hi => by
    have := hf i hi
    simp only [Pl.runP, Bool.and_eq_true] at this
    exact isRunL this.1
  clear hf
  (repeat with_reducible first | refine jy ?_ | refine jw KL71 [9, 15, 23] TF71 fun _ => ?_)
  refine Run_loopV [10, 11, 14, 15, 79, 117] (σ := Nat × Value) (fun q => [(15, some (.int .i64 q.1)), (14, some q.2), (10, some (.bool false)), (11, some (.int .i64 0))]) (fun q w' => q.1 ≤ p.Of.length ∧ (∀ j, j < q.1 → Pl.ofP t f l p j = true) ∧ BufL (α := RunD) 34 w5 w' q.2 ((Pl.ofs p).take q.1)) (fun q => p.Of.length - q.1) (0, .slice none 0 0) (by simp [SubB, fnd]) ⟨by simp, by simp, by simpa using BufL.nil (Ext.refl _)⟩ ?_
  rintro ⟨k, vf⟩ w7 ⟨hk, hf, hB⟩
  simp only at hk hf hB
  have x7 := hB.ext0
  have y7 := y5.trans x7
  have hlk : ((Pl.ofs p).take k).length = k := by simp [Pl.ofs]; omega
  (repeat with_reducible first | refine jy ?_ | refine jw KL71 [9, 15, 23] (aa TF71 (aa ho.s ho.len)) fun _ => ?_)
  refine Run_condS (fun _ => rfl) (fun h => ?_) (fun h => ?_)
  · simp at h
    have hkl2 := h
    have hkl : k < p.Of.length := by omega
    obtain ⟨f1, f2, f3⟩ := (hP.o.ext y7).get hkl
    have hgo : p.Of.getD k 0 = p.Of[k] := by simp [List.getD_eq_getElem?_getD, hkl]
    have z7 := x4.trans (x5.trans x7)
    have t7 := T w7 z7
    have ff7 := F w7 z7
    have p7 := P w7 z7
    generalize hq : p.Of[k] = q at *
    by_cases hin : 0 ≤ q ∧ q < p.Runs.length
    · have e0 : decide (q < 0) = false := by simp; omega
      have e1 : decide ((p.Runs.length : Int) ≤ q) = false := by simp; omega
      obtain ⟨g, o1, o2, hO⟩ := (ho.ext y7).ord hkl2
      obtain ⟨r1, r2⟩ := (hP.r.ext y7).runD (show q.toNat < p.Runs.length by omega)
      have hgq : p.Runs.getD q.toNat default = p.Runs[q.toNat] := by simp [List.getD_eq_getElem?_getD, show q.toNat < p.Runs.length by omega]
      have hgl : l.getD k default = l[k] := by simp [List.getD_eq_getElem?_getD, hkl2]
      obtain ⟨hr1, hr2, hr3⟩ := hrun q.toNat (by omega)
      rw [hgq] at hr1 hr2 hr3
      have hor := ok.o _ (List.getElem_mem hkl2)
      simp only [Pl.oright, Pl.oNum, Bool.and_eq_true, decide_eq_true_eq] at hor
      have hcl := hor.1.2.2.2.1
      have hcr := hor.1.2.2.2.2.2.2.1
      clear hor
      have hpk : Pl.ofP t f l p k = Pl.fits t f l[k] p.Runs[q.toNat] := by
        unfold Pl.ofP; rw [hgo, hgl, hgq, decide_eq_true hin, Bool.true_and]
      have hofs : (Pl.ofs p).take (k + 1) = (Pl.ofs p).take k ++ [p.Runs[q.toNat]] := by
        have hkk : k < (Pl.ofs p).length := by simp [Pl.ofs]; omega
        rw [List.take_succ_eq_append_getElem hkk]
        congr 2
        have hgq' := hgq
        rw [List.getD_eq_getElem?_getD] at hgq'
        simpa [Pl.ofs, hq] using hgq'
      generalize hxx : p.Runs[q.toNat] = r at *
      generalize hoo : l[k] = o at *
      simp only [OrderD.cs, RunD.cs, AtN, KS, Nat.reduceAdd, Nat.reduceMul, Nat.reduceEqDiff, ↓reduceIte, UT] at o1 r1
      (repeat with_reducible first | refine jy ?_ | refine jw KL71 [9, 15, 23] (aa TF71 (aa t7 (aa ff7 (aa p7 (aa hP.o.s (aa hP.o.len (aa f1 (aa f2 (aa ho.s (aa ho.len (aa hP.r.s (aa hP.r.len (aa e0 (aa e1 (aa o1 (aa r1 KX)))))))))))))))) fun _ => ?_)
      refine ⟨.bool (Pl.fits t f o r), PC_pure call54 fun w8 x8 => rfFits vl t f u0 u1 u2 o g r w8 (hl.ext (y7.trans x8)) (hT.ext (y7.trans x8)) (hO.ext x8) ⟨hr1, hr2⟩ hr3 ⟨hcl.1, by omega⟩ hcr, rfl, fun w8 x8 => ?_⟩
      have y8 := y7.trans x8
      refine Run_condS (fun _ => rfl) (fun h => ?_) (fun h => ?_)
      · have hfit : Pl.fits t f o r = false := by simpa using h
        (repeat with_reducible first | refine jy ?_ | refine jw KL71 [9, 15, 23] TF71 fun _ => ?_)
        refine Run_ret ?_
        have : Pl.ofsOk t f l p = false := not_range hkl2 (by rw [hpk]; exact hfit)
        simp [Rets, RetM, resV, fnd, oneOr, hres, hg, this, y8]
      have hfit : Pl.fits t f o r = true := by simpa using h
      clear h
      have z8 := z7.trans x8
      let S : Nat → Prop := fun k => some k ≠ vf.ownBlock
      have hBo := hB.o
      have hS : ∀ q, q < w5.heap.size → S q := fun q hq e => by have := (hBo.own_lt e.symm).1; omega
      have s5 := y5.size
      have s4 := x4.size
      have s45 := x5.size
      have bP : pp.block < w5.heap.size := by have := h3.at_.blk; omega
      have bO : (slAt v1).block < w5.heap.size := by have := hP.o.blk (by decide) hkl; omega
      have bR : (slAt v0).block < w5.heap.size := by have := hP.r.blk (by decide) (show q.toNat < p.Runs.length by omega); omega
      (repeat with_reducible refine js ?_)
      refine Run_eh S [11] [(2, [8, 9, 10, 11]), (4, [6, 7, 8, 9, 10, 11]), (7, [8, 9, 10, 11]), (9, [10, 11])] (id := 17) KL71 (.first 0 (.first 1 (.first 2 (.first 3 (.first 4 (.first 5 (.first 6 (.first 7 (.first 8 (.first 9 (.alt true 10 (.alt true 11 (.free (.first 12 .done)) .stop) .stop))))))))))) mixed (by kernel_rfl) (by kernel_rfl) fun w8' x8' _ => ?_
      have y8' := y8.trans x8'
      have p8 := P w8' (z8.trans x8')
      obtain ⟨f1', f2', _⟩ := (hP.o.ext y8').get hkl
      rw [hq] at f1'
      have r8 : AtN w8' ((slAt v0).add (q.toNat * 3)) 0 r.cs := by
        obtain ⟨c1, _⟩ := (hP.r.ext y8').runD (show q.toNat < p.Runs.length by omega)
        rw [hxx] at c1; exact c1
      simp only [RunD.cs, AtN, KS, Nat.reduceAdd, Nat.reduceMul, Nat.reduceEqDiff, ↓reduceIte, UT] at r8
      (try simp (maxSteps := 5000000) only [KS, Nat.reduceAdd, Nat.reduceMul, Nat.reduceEqDiff, ↓reduceIte, forall_const, Int.cast_ofNat_Int, Int.reduceToNat, List.take_succ_cons, List.take_zero, List.drop_succ_cons, List.drop_zero, TF71, KL71, eh, gres, qopS, putL, ung, p8, hP.o.s, hP.o.len, f1', f2', hP.r.s, hP.r.len, r8]); (try simp (disch := omega) only [wrapI, tmodI, tdivI])
      have hBo8 := (hBo.keep' (Keep.of_ext (S := fun _ => True) (x8.trans x8')) (fun _ _ _ => trivial) fun css h => h.any)
      have hbl8 : w5.heap.size ≤ w8'.heap.size := (x7.trans (x8.trans x8')).size
      refine ⟨hS _ bP, hS _ bP, ⟨by omega, by omega⟩, hS _ (by rw [blk_add]; exact bO), ⟨by omega, by omega⟩, hS _ (by rw [blk_add]; exact bR), Keep.refl _ _, ?_⟩
      refine SemW_append1G (α := RunD) (B := w5.heap.size) (X := .agg r.cs.toArray) (x := r) Tryz.underlying59 ti34 rfl (by decide) hBo8 (by omega) ⟨rfl, r2⟩ (by rw [hlk]; simp only [maxLen]; omega) (fun w' x => Keep.of_ext x) fun s v' w9 b9 k9 _ => ?_
      rw [← hofs] at b9
      have x9 : Ext w5 w9 := Keep.ext (x7.trans (x8.trans x8')) k9 hS
      (repeat with_reducible first | refine jy ?_ | refine jw KL71 [9, 15, 23] TF71 fun _ => ?_)
      refine Run_lp ⟨(k + 1, v'), ?_, ⟨by simp only; omega, fun j hj => ?_, ?_⟩, by simp only; omega⟩
      · simp [SubB, fnd, strike, has]
      · by_cases e : j = k
        · rw [e, hpk]; exact hfit
        · exact hf j (by simp only at hj; omega)
      · obtain ⟨css, c1, c2⟩ := b9.ex
        exact ⟨css, c1, ⟨c2, x9⟩⟩
    · have hbad : Pl.good t f l covers p = false := by
        have : Pl.ofsOk t f l p = false := not_range (show k < l.length by omega) (by
          unfold Pl.ofP; rw [hgo, decide_eq_false hin, Bool.false_and])
        rw [hg, this]; rfl
      by_cases e0 : q < 0
      · have e0 : decide (q < 0) = true := by simp; omega
        (repeat with_reducible first | refine jy ?_ | refine jw KL71 [9, 15, 23] (aa TF71 (aa p7 (aa hP.o.s (aa hP.o.len (aa f1 (aa f2 (aa e0 KX))))))) fun _ => ?_)
        refine ⟨undef, fun w8 x8 => ?_⟩
        refine Run_condS (fun _ => rfl) (fun _ => ?_) (fun h => by cases h)
        (repeat with_reducible first | refine jy ?_ | refine jw KL71 [9, 15, 23] TF71 fun _ => ?_)
        refine Run_ret ?_
        simp [Rets, RetM, resV, fnd, oneOr, hres, hbad]
        exact y7.trans x8
      · have e0' : decide (q < 0) = false := by simp; omega
        have e1 : decide ((p.Runs.length : Int) ≤ q) = true := by simp; omega
        (repeat with_reducible first | refine jy ?_ | refine jw KL71 [9, 15, 23] (aa TF71 (aa p7 (aa hP.o.s (aa hP.o.len (aa f1 (aa f2 (aa hP.r.s (aa hP.r.len (aa e0' (aa e1 KX)))))))))) fun _ => ?_)
        refine ⟨undef, fun w8 x8 => ?_⟩
        refine Run_condS (fun _ => rfl) (fun _ => ?_) (fun h => by cases h)
        (repeat with_reducible first | refine jy ?_ | refine jw KL71 [9, 15, 23] TF71 fun _ => ?_)
        refine Run_ret ?_
        simp [Rets, RetM, resV, fnd, oneOr, hres, hbad]
        exact y7.trans x8
  simp at h
  obtain rfl : k = p.Of.length := by omega
  have hfo : Pl.ofsOk t f l p = true := all_range fun j hj => hf j (by omega)
  rw [hfo, Bool.true_and] at hg
  have htk : (Pl.ofs p).take p.Of.length = Pl.ofs p := List.take_of_length_le (by simp [Pl.ofs])
  rw [htk] at hB
  clear hf htk
  have hofl : (Pl.ofs p).length = p.Of.length := by simp [Pl.ofs]
  have hvs := hB.sl (by rw [hofl]; omega)
  have hcro : ∀ x ∈ l, 1 ≤ x.Crowd ∧ x.Crowd ≤ 64 := fun x hx => by
    have := ok.o _ hx
    simp only [Pl.oright, Pl.oNum, Bool.and_eq_true, decide_eq_true_eq] at this
    exact this.1.2.2.2.2.2.2.1
  have hcrw : ∀ r, 0 ≤ (Pl.load l (Pl.ofs p) r).n ∧ (Pl.load l (Pl.ofs p) r).n ≤ 1000000000000000 ∧ 0 ≤ (Pl.load l (Pl.ofs p) r).c ∧ (Pl.load l (Pl.ofs p) r).c ≤ 65 := fun r => by
    have := Pl.load_bd (l := l) hcro (Pl.ofs p) r
    omega
  have z7 := x4.trans (x5.trans x7)
  have p7 := P w7 z7
  have hcl := hP.c.len
  (repeat with_reducible first | refine jy ?_ | refine jw KL71 [9, 15, 23] (aa TF71 (aa p7 (aa hP.r.s hP.r.len))) fun _ => ?_)
  refine Run_loopV [10, 11, 16, 17, 18, 19, 134, 178] (σ := Nat × Int × Int) (fun q => [(17, some (.int .i64 q.1)), (16, some (.int .i64 (Pl.sum (p.Covers.take q.1)))), (10, some (.bool false)), (11, some (.int .i64 0))]) (fun q w' => q.1 ≤ p.Runs.length ∧ (∀ j, j < q.1 → Pl.covP t l p j = true) ∧ (0 ≤ Pl.sum (p.Covers.take q.1) ∧ Pl.sum (p.Covers.take q.1) ≤ 65 * q.1) ∧ Ext w7 w') (fun q => p.Runs.length - q.1) (0, 0, 0) (by simp [SubB, fnd, Pl.sum]) ⟨by simp, by simp, by simp [Pl.sum], Ext.refl _⟩ ?_
  rintro ⟨k, _, _⟩ w8 ⟨hk, hf, hsm, x8⟩
  simp only at hk hf hsm
  have y8 := y7.trans x8
  have z8 := z7.trans x8
  have p8 := P w8 z8
  (repeat with_reducible first | refine jy ?_ | refine jw KL71 [9, 15, 23] (aa TF71 (aa p8 (aa hP.r.s hP.r.len))) fun _ => ?_)
  refine Run_condS (fun _ => rfl) (fun h => ?_) (fun h => ?_)
  · simp at h
    have hkl := h
    obtain ⟨r1, r2⟩ := (hP.r.ext y8).runD hkl
    have hgr : p.Runs.getD k default = p.Runs[k] := by simp [List.getD_eq_getElem?_getD, hkl]
    have hgc : p.Covers.getD k 0 = p.Covers[k]'(by omega) := by simp [List.getD_eq_getElem?_getD, show k < p.Covers.length by omega]
    have hsk := Pl.sum_take p.Covers k (by omega)
    obtain ⟨hr1, hr2, hr3⟩ := hrun k hkl
    rw [hgr] at hr1 hr2 hr3
    have hcov : Pl.covP t l p k = decide ((Pl.load l (Pl.ofs p) p.Runs[k]).n ≠ 0 ∧ p.Covers[k]'(by omega) = (Pl.load l (Pl.ofs p) p.Runs[k]).covers ∧ max (Pl.load l (Pl.ofs p) p.Runs[k]).n (Pl.load l (Pl.ofs p) p.Runs[k]).c ≤ (Pl.lineR t p.Runs[k]).Room) := by
      unfold Pl.covP; rw [hgr, hgc]
    have hbd := hcrw p.Runs[k]
    generalize hxx : p.Runs[k] = r at *
    generalize hcc : p.Covers[k]'(by omega) = cv at *
    simp only [RunD.cs, AtN, KS, Nat.reduceAdd, Nat.reduceMul, Nat.reduceEqDiff, ↓reduceIte, UT] at r1
    (repeat with_reducible first | refine jy ?_ | refine jw KL71 [9, 15, 23] (aa TF71 (aa p8 (aa hP.r.s (aa hP.r.len r1)))) fun _ => ?_)
    refine CallW_pure call49 (rfLoad vo vf l (Pl.ofs p) r w8 (ho.ext y8) (hvs.ext x8) (by omega) hcro (by omega) r2) fun w9 x9 => ?_
    generalize hld : Pl.load l (Pl.ofs p) r = ld at *
    (repeat with_reducible first | refine jy ?_ | refine jw KL71 [9, 15, 23] TF71 fun _ => ?_)
    have y9 := y8.trans x9
    have z9 := z8.trans x9
    have p9 := P w9 z9
    have t9 := T w9 z9
    obtain ⟨r1, _⟩ := (hP.r.ext y9).runD hkl
    obtain ⟨d1, d2, d3⟩ := (hP.c.ext y9).get (show k < p.Covers.length by omega)
    rw [hcc] at d1
    rw [hxx] at r1
    have hlt : r.Line.toNat < t.Lines.length := by omega
    have hlo : Pl.lineR t r = t.Lines[r.Line.toNat] := by unfold Pl.lineR; simp [List.getD_eq_getElem?_getD, hlt]
    obtain ⟨l0, l1, l2, l3, e1, e2, hR⟩ := (hl.ext y9).line hlt
    rw [← hlo] at e1 e2 hR
    generalize hln : Pl.lineR t r = x at *
    simp only [RunD.cs, LineD.cs, AtN, KS, Nat.reduceAdd, Nat.reduceMul, Nat.reduceEqDiff, ↓reduceIte, UT] at r1 e1
    by_cases n0 : ld.n = 0
    · have e0 : (ld.n == 0) = true := by simp [n0]
      (repeat with_reducible first | refine jy ?_ | refine jw KL71 [9, 15, 23] (aa TF71 (aa e0 KX)) fun _ => ?_)
      intro w10 x10
      have y10 := y9.trans x10
      refine Run_condS (fun _ => rfl) (fun _ => ?_) (fun h => by cases h)
      (repeat with_reducible first | refine jy ?_ | refine jw KL71 [9, 15, 23] TF71 fun _ => ?_)
      refine Run_ret ?_
      have : Pl.covsOk t l p = false := not_range hkl (by rw [hcov]; simp [n0])
      simp [Rets, RetM, resV, fnd, oneOr, hres, hg, this, y10]
    · have e0 : (ld.n == 0) = false := by simp [n0]
      (repeat with_reducible first | refine jy ?_ | refine jw KL71 [9, 15, 23] (aa TF71 (aa p9 (aa t9 (aa hP.c.s (aa hP.c.len (aa d1 (aa d2 (aa hP.r.s (aa hP.r.len (aa r1 (aa hl.s (aa hl.len (aa e1 (aa e0 KX)))))))))))))) fun _ => ?_)
      intro w13 x13
      have y13 := y9.trans x13
      have hcb : (cv != max 0 (ld.c - ld.n) || decide (x.Room < max ld.n ld.c)) = !Pl.covP t l p k := by
        rw [show max 0 (ld.c - ld.n) = ld.covers from rfl, hcov, Bool.eq_iff_iff]
        simp only [Bool.or_eq_true, bne_iff_ne, ne_eq, decide_eq_true_eq, Bool.not_eq_true', decide_eq_false_iff_not]
        constructor
        · intro h1 h2
          rcases h1 with h1 | h1
          · exact h1 h2.2.1
          · have := h2.2.2; omega
        · intro h1
          by_cases h2 : cv = ld.covers
          · right
            have : ¬ (max ld.n ld.c ≤ x.Room) := fun h3 => h1 ⟨n0, h2, h3⟩
            omega
          · exact .inl h2
      refine Run_condS (fun _ => rfl) (fun h => ?_) (fun h => ?_)
      · have h2 : (!Pl.covP t l p k) = true := hcb.symm.trans h
        (repeat with_reducible first | refine jy ?_ | refine jw KL71 [9, 15, 23] TF71 fun _ => ?_)
        refine Run_ret ?_
        have : Pl.covsOk t l p = false := not_range hkl (by simpa using h2)
        simp [Rets, RetM, resV, fnd, oneOr, hres, hg, this, y13]
      · have h2 : (!Pl.covP t l p k) = false := hcb.symm.trans h
        have h2 : Pl.covP t l p k = true := by simpa using h2
        have h3 : cv = ld.covers := by
          rw [hcov] at h2
          exact (of_decide_eq_true h2).2.1
        have hcv : 0 ≤ cv ∧ cv ≤ 65 := by rw [h3]; unfold Pl.LoadD.covers; omega
        have p13 := P w13 (z9.trans x13)
        have d1' : mem w13 ((slAt v2).add k) = .int .i64 cv := by rw [x13.mem d2, d1]
        have d2' := x13.has1 d2
        (repeat with_reducible first | refine jy ?_ | refine jw KL71 [9, 15, 23] (aa TF71 (aa p13 (aa hP.c.s (aa hP.c.len (aa d1' d2'))))) fun _ => ?_)
        refine Run_lp ⟨(k + 1, 0, 0), ?_, ⟨by simp only; omega, fun j hj => ?_, ?_, x8.trans (x9.trans x13)⟩, by simp only; omega⟩
        · simp only; rw [hsk]; simp [SubB, fnd, strike, has]
        · by_cases e : j = k
          · rw [e]; exact h2
          · exact hf j (by simp only at hj; omega)
        · simp only; rw [hsk]; omega
  · simp at h
    obtain rfl : k = p.Runs.length := by omega
    have hco : Pl.covsOk t l p = true := all_range hf
    have htk : p.Covers.take p.Runs.length = p.Covers := List.take_of_length_le (by omega)
    rw [hco, Bool.true_and] at hg
    rw [htk]
    (repeat with_reducible first | refine jy ?_ | refine jw KL71 [9, 15, 23] TF71 fun _ => ?_)
    refine Run_ret ?_
    simp [Rets, RetM, resV, fnd, oneOr, hres, hg]
    exact y8
end Go.Proofs.YtldjfebokojmfaaGreat
