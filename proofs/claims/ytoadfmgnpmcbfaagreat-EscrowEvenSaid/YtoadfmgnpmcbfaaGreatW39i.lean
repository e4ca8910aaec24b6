/- Chapter 39: the law's accounts. -/
import Derived.Test.YtoadfmgnpmcbfaaGreatFacts
import Derived.Test.YtoadfmgnpmcbfaaGreatUt
import Derived.Test.YtoadfmgnpmcbfaaGreatFg
import Derived.Test.YtoadfmgnpmcbfaaGreatApiM
import Derived.Test.YtoadfmgnpmcbfaaGreatP39x
namespace Go.Proofs.YtoadfmgnpmcbfaaGreat
open Go Go.Fk
set_option linter.unusedSimpArgs false
set_option linter.unusedVariables false
set_option maxRecDepth 100000

theorem cArr : Tryz.prog.cellsOf 46 ≠ 0 := by rw [cells46]; decide
theorem mArr : manyCell Tryz.prog 46 = true := by kernel_rfl
theorem oneI (l : List Int) : (ints l).all Value.oneCell' = true := by
  induction l with
  | nil => rfl
  | cons x l ih => simp [Value.oneCell']
theorem lo_get {b : List Int} {k : Int} (h0 : 0 ≤ k) (h : k.toNat < b.length) : b[k.toNat] = Bk.lo b k := by
  unfold Bk.lo; simp [List.getD_eq_getElem?_getD, h]
theorem eff_small {m : List MoveD} (h : ∀ x ∈ m, Ec.MvOk x) (hl : m.length ≤ 4096) (j : Int) : -4503599627370496 ≤ Ec.eff m j ∧ Ec.eff m j ≤ 4503599627370496 := by
  have := Ec.eff_bd m h j
  omega
set_option maxHeartbeats 4000000 in
theorem lawAccounts (b : List Int) (vm : Value) (m : List MoveD) (w : World) (hm : Sl w vm m) (hA : Ec.Acc b m) :
    Calls Tryz.prog 25 #[.agg (ints b).toArray, vm] w fun e w' => e = .returned (.tuple #[.agg (ints (Bk.after b m)).toArray, .bool true]) ∧ Ext w w' := by
  have hbl := hA.bl
  have hml := hm.len
  have hl4 := hA.l
  refine Calls_of_Run (args := [.agg (ints b).toArray, vm]) (n := 69) (rs := [.cell 4 46, .tmp 5]) Tryz.func25 rfl rfl rfl (by simp) ?_
  (repeat with_reducible first | refine js ?_ | refine ja ?_ | (refine jT (id := 7) KL25 6 mixed (by kernel_rfl) (by kernel_rfl) (by kernel_rfl) fun _ => ?_; refine jw KL25 [] TF25 fun _ => ?_) | (refine jT (id := 8) KL25 6 mixed (by kernel_rfl) (by kernel_rfl) (by kernel_rfl) fun _ => ?_; refine jw KL25 [] TF25 fun _ => ?_) | refine jw KL25 [] TF25 fun _ => ?_)
  refine SemW_box fun pb w1 h1 => SemW_allocT ti46 fun px w2 h2 => ?_
  have r1 : Row w1 pb 46 (ints b) := by simpa [Value.cells] using h1.row
  have r2 := r1.ext h2.ext
  have q2 : Row w2 px 46 (ints (List.replicate 115 0)) := by simpa [Value.cells] using h2.row
  have b2 := h2.blk
  have b1 := h1.blk
  have s1 := h1.size
  have x2 := h1.ext.trans h2.ext
  (repeat with_reducible first | refine js ?_ | refine ja ?_ | (refine jT (id := 7) KL25 6 mixed (by kernel_rfl) (by kernel_rfl) (by kernel_rfl) fun _ => ?_; refine jw KL25 [] TF25 fun _ => ?_) | (refine jT (id := 8) KL25 6 mixed (by kernel_rfl) (by kernel_rfl) (by kernel_rfl) fun _ => ?_; refine jw KL25 [] TF25 fun _ => ?_) | refine jw KL25 [] TF25 fun _ => ?_)
  refine Run_loopV [5, 6, 7, 11, 46, 66] (σ := Nat) (fun k => [(6, some (.int .i64 k)), (5, some (.bool false))]) (fun k w' => k ≤ m.length ∧ Row w' pb 46 (ints (Bk.after b (m.take k))) ∧ Row w' px 46 (ints (List.replicate 115 0)) ∧ Ext w w') (fun k => m.length - k) 0 (by simp [SubB, fnd]) ⟨by omega, by simpa [Bk.after] using r2, q2, x2⟩ ?_
  rintro k w3 ⟨hk, r3, q3, x3⟩
  have s3 := r3.lt
  have s4 := q3.lt
  (repeat with_reducible first | refine js ?_ | refine ja ?_ | (refine jT (id := 7) KL25 6 mixed (by kernel_rfl) (by kernel_rfl) (by kernel_rfl) fun _ => ?_; refine jw KL25 [] (aa TF25 (aa hm.s hm.len)) fun _ => ?_) | (refine jT (id := 8) KL25 6 mixed (by kernel_rfl) (by kernel_rfl) (by kernel_rfl) fun _ => ?_; refine jw KL25 [] (aa TF25 (aa hm.s hm.len)) fun _ => ?_) | refine jw KL25 [] (aa TF25 (aa hm.s hm.len)) fun _ => ?_)
  refine Run_condS (fun _ => rfl) (fun h => ?_) (fun h => ?_)
  · simp at h
    have hkl := h
    have htk := Bk.after_take hkl b
    have hlen : (Bk.after b (m.take k)).length = 115 := by rw [Bk.after_len, hbl]
    have hlo := fun j hj => hA.lo (j := j) hj k
    have heb := eff_small (m := m.take k) (fun x hx => hA.m x (List.mem_of_mem_take hx)) (by simp; have := hA.l; omega)
    obtain ⟨f1, f2⟩ := (hm.ext x3).moveD hkl
    have hno := hA.n k m[k] (by simp [hkl])
    obtain ⟨g1, g2, g3⟩ := hA.m m[k] (List.getElem_mem hkl)
    have hfin := hA.e (k + 1) (by omega)
    have hfl := hA.lo (j := 2) (by omega) (k + 1)
    have hbb := hA.b
    rw [htk] at hfl
    generalize Bk.after b (m.take k) = a at *
    generalize hmm : m[k] = y at *
    simp only [MoveD.cs, AtN, KS, Nat.reduceAdd, Nat.reduceMul, Nat.reduceEqDiff, ↓reduceIte, UT] at f1
    (repeat with_reducible first | refine js ?_ | refine ja ?_ | (refine jT (id := 7) KL25 6 mixed (by kernel_rfl) (by kernel_rfl) (by kernel_rfl) fun _ => ?_; refine jw KL25 [] (aa TF25 (aa hm.s (aa hm.len f1))) fun _ => ?_) | (refine jT (id := 8) KL25 6 mixed (by kernel_rfl) (by kernel_rfl) (by kernel_rfl) fun _ => ?_; refine jw KL25 [] (aa TF25 (aa hm.s (aa hm.len f1))) fun _ => ?_) | refine jw KL25 [] (aa TF25 (aa hm.s (aa hm.len f1))) fun _ => ?_)
    refine SemW_allocT ti70 fun py w4 h4 => ?_
    have b4 := h4.blk
    (repeat with_reducible first | refine js ?_ | refine ja ?_ | (refine jT (id := 7) KL25 6 mixed (by kernel_rfl) (by kernel_rfl) (by kernel_rfl) fun _ => ?_; refine jw KL25 [] TF25 fun _ => ?_) | (refine jT (id := 8) KL25 6 mixed (by kernel_rfl) (by kernel_rfl) (by kernel_rfl) fun _ => ?_; refine jw KL25 [] TF25 fun _ => ?_) | refine jw KL25 [] TF25 fun _ => ?_)
    refine SemW_setW (by rw [cells70]; decide) (by rw [cells70]; rfl) h4.row (by rw [cells70]; rfl) rfl fun w5 r5 k5 z5 => ?_
    have r5 : Row w5 py 70 y.cs := r5
    have x5 : Ext w3 w5 := Keep.ext h4.ext k5 fun q hq => by omega
    have g5 := r5.n
    have y0 : (y.No != (k : Int)) = false := by simp [hno]
    have y1 : decide (y.From < 0) = false := by simp; omega
    have y2 : decide ((115 : Int) ≤ y.From) = false := by simp; omega
    have y3 : decide (y.To < 0) = false := by simp; omega
    have y4 : decide ((115 : Int) ≤ y.To) = false := by simp; omega
    have y5 : decide (y.Amount < 0) = false := by simp; omega
    simp only [MoveD.cs, AtN, KS, Nat.reduceAdd, Nat.reduceMul, Nat.reduceEqDiff, ↓reduceIte, UT] at g5
    (repeat with_reducible first | refine js ?_ | refine ja ?_ | (refine jT (id := 7) KL25 6 mixed (by kernel_rfl) (by kernel_rfl) (by kernel_rfl) fun _ => ?_; refine jw KL25 [] (aa TF25 (aa g5 (aa y0 (aa y1 (aa y2 (aa y3 (aa y4 (aa y5 KX)))))))) fun _ => ?_) | (refine jT (id := 8) KL25 6 mixed (by kernel_rfl) (by kernel_rfl) (by kernel_rfl) fun _ => ?_; refine jw KL25 [] (aa TF25 (aa g5 (aa y0 (aa y1 (aa y2 (aa y3 (aa y4 (aa y5 KX)))))))) fun _ => ?_) | refine jw KL25 [] (aa TF25 (aa g5 (aa y0 (aa y1 (aa y2 (aa y3 (aa y4 (aa y5 KX)))))))) fun _ => ?_)
    refine Run_condS (fun _ => rfl) (fun h => by cases h) (fun _ => ?_)
    let S : Nat → Prop := fun _ => True
    (repeat with_reducible first | refine jq ?_ | refine jk ?_ | refine jc ?_ | refine jl ?_ | refine jb ?_ | refine jo ?_ | refine ji ?_ | refine jx rfl ?_)
    refine Run_eh S [8] [(1, [8]), (3, [8]), (5, [8])] (id := 7) KL25 (.first 0 (.first 1 (.first 2 (.first 3 (.first 4 (.first 5 (.first 6 (.first 7 (.alt true 8 (.done false) .stop))))))))) mixed (by kernel_rfl) (by kernel_rfl) fun w6 x6 _ => ?_
    have r6 := (r3.ext (x5.trans x6))
    have g6 := (r5.at_.ext x6).n
    obtain ⟨a1, a2⟩ := at_int r6.at_ (show y.From.toNat < a.length by omega)
    rw [lo_get (by omega) (by omega)] at a2
    have lb1 := hlo y.From (by omega)
    have eb1 := heb y.From
    have bb1 := hbb y.From (by omega)
    simp only [MoveD.cs, AtN, KS, Nat.reduceAdd, Nat.reduceMul, Nat.reduceEqDiff, ↓reduceIte, UT] at g6
    (try simp (maxSteps := 5000000) only [KS, Nat.reduceAdd, Nat.reduceMul, Nat.reduceEqDiff, ↓reduceIte, forall_const, Int.cast_ofNat_Int, Int.reduceToNat, List.take_succ_cons, List.take_zero, List.drop_succ_cons, List.drop_zero, TF25, KL25, eh, gres, qopS, putL, ung, g6, a1, a2]); (try simp (disch := omega) only [wrapI, tmodI, tdivI])
    refine ⟨trivial, by omega, trivial, trivial, by omega, Keep.refl _ _, ?_⟩
    have hne : py.block ≠ pb.block := by omega
    refine SemW_setAt (i := y.From.toNat) (by rw [cells3]) r6 (by rw [ints_len]; omega) rfl rfl fun w7 r7 k7 z7 => ⟨fun h => h.elim, ?_⟩
    rw [ints_set] at r7
    have hlen7 : (a.set y.From.toNat (Bk.lo a y.From - y.Amount)).length = 115 := by simp [hlen]
    have lb2 := hlo y.To (by omega)
    have eb2 := heb y.To
    have bb2 := hbb y.To (by omega)
    have hset := Bk.lo_set (b := a) (i := y.From.toNat) (x := Bk.lo a y.From - y.Amount) (k := y.To) (by omega) (by omega)
    have hstep : Bk.step a y = (a.set y.From.toNat (Bk.lo a y.From - y.Amount)).set y.To.toNat (Bk.lo (a.set y.From.toNat (Bk.lo a y.From - y.Amount)) y.To + y.Amount) := rfl
    generalize a.set y.From.toNat (Bk.lo a y.From - y.Amount) = a' at *
    have hb7 : -10000000000000000 ≤ Bk.lo a' y.To ∧ Bk.lo a' y.To ≤ 10000000000000000 := by rw [hset]; split <;> omega
    clear hset
    have g7 := ((r5.ext x6).keep k7 hne)
    (repeat with_reducible first | refine jq ?_ | refine jk ?_ | refine jc ?_ | refine jl ?_ | refine jb ?_ | refine jo ?_ | refine ji ?_ | refine jx rfl ?_)
    refine Run_eh S [8] [(1, [8]), (3, [8]), (5, [8])] (id := 8) KL25 (.first 0 (.first 1 (.first 2 (.first 3 (.first 4 (.first 5 (.first 6 (.first 7 (.alt true 8 (.done false) .stop))))))))) mixed (by kernel_rfl) (by kernel_rfl) fun w8 x8 _ => ?_
    have r8 := r7.ext x8
    have g8 := (g7.at_.ext x8).n
    obtain ⟨c1, c2⟩ := at_int r8.at_ (show y.To.toNat < a'.length by omega)
    rw [lo_get (by omega) (by omega)] at c2
    simp only [MoveD.cs, AtN, KS, Nat.reduceAdd, Nat.reduceMul, Nat.reduceEqDiff, ↓reduceIte, UT] at g8
    (try simp (maxSteps := 5000000) only [KS, Nat.reduceAdd, Nat.reduceMul, Nat.reduceEqDiff, ↓reduceIte, forall_const, Int.cast_ofNat_Int, Int.reduceToNat, List.take_succ_cons, List.take_zero, List.drop_succ_cons, List.drop_zero, TF25, KL25, eh, gres, qopS, putL, ung, g8, c1, c2]); (try simp (disch := omega) only [wrapI, tmodI, tdivI])
    refine ⟨trivial, by omega, trivial, trivial, by omega, Keep.refl _ _, ?_⟩
    refine SemW_setAt (i := y.To.toNat) (by rw [cells3]) r8 (by rw [ints_len]; omega) rfl rfl fun w9 r9 k9 z9 => ⟨fun h => h.elim, ?_⟩
    rw [ints_set, ← hstep] at r9
    have hlen9 : (Bk.step a y).length = 115 := by rw [Bk.step_len, hlen]
    obtain ⟨d1, d2⟩ := at_int r9.at_ (show 2 < (Bk.step a y).length by omega)
    have d3 : (Bk.step a y)[2]'(by omega) = Bk.lo (Bk.step a y) 2 := lo_get (k := 2) (by omega) (by simp; omega)
    rw [d3] at d2
    have e9 : decide (Bk.lo (Bk.step a y) 2 < 0) = false := by simp; omega
    have y9 : Ext w w9 := Keep.ext ((Keep.ext (x3.trans (x5.trans x6)) k7 fun k hk => by omega).trans x8) k9 fun k hk => by omega
    have q9 := ((((q3.ext (x5.trans x6)).keep k7 (by show px.block ≠ pb.block; omega)).ext x8).keep k9 (by show px.block ≠ pb.block; omega))
    (repeat with_reducible first | refine js ?_ | refine ja ?_ | (refine jT (id := 7) KL25 6 mixed (by kernel_rfl) (by kernel_rfl) (by kernel_rfl) fun _ => ?_; refine jw KL25 [] (aa TF25 (aa d1 (aa d2 (aa e9 KX)))) fun _ => ?_) | (refine jT (id := 8) KL25 6 mixed (by kernel_rfl) (by kernel_rfl) (by kernel_rfl) fun _ => ?_; refine jw KL25 [] (aa TF25 (aa d1 (aa d2 (aa e9 KX)))) fun _ => ?_) | refine jw KL25 [] (aa TF25 (aa d1 (aa d2 (aa e9 KX)))) fun _ => ?_)
    refine Run_condS (fun _ => rfl) (fun h => by cases h) (fun _ => ?_)
    (repeat with_reducible first | refine js ?_ | refine ja ?_ | (refine jT (id := 7) KL25 6 mixed (by kernel_rfl) (by kernel_rfl) (by kernel_rfl) fun _ => ?_; refine jw KL25 [] TF25 fun _ => ?_) | (refine jT (id := 8) KL25 6 mixed (by kernel_rfl) (by kernel_rfl) (by kernel_rfl) fun _ => ?_; refine jw KL25 [] TF25 fun _ => ?_) | refine jw KL25 [] TF25 fun _ => ?_)
    refine Run_lp ⟨k + 1, ?_, ⟨by omega, by rw [htk]; exact r9, q9, y9⟩, by omega⟩
    simp [SubB, fnd, strike, has]
  · simp at h
    obtain rfl : k = m.length := by omega
    rw [List.take_length] at r3
    have hlen : (Bk.after b m).length = 115 := by rw [Bk.after_len, hbl]
    obtain ⟨g1, g2⟩ := at_memA r3.at_ (n := 115) (by simpa using hlen)
    (repeat with_reducible first | refine js ?_ | refine ja ?_ | (refine jT (id := 7) KL25 6 mixed (by kernel_rfl) (by kernel_rfl) (by kernel_rfl) fun _ => ?_; refine jw KL25 [] (aa TF25 (aa g1 g2)) fun _ => ?_) | (refine jT (id := 8) KL25 6 mixed (by kernel_rfl) (by kernel_rfl) (by kernel_rfl) fun _ => ?_; refine jw KL25 [] (aa TF25 (aa g1 g2)) fun _ => ?_) | refine jw KL25 [] (aa TF25 (aa g1 g2)) fun _ => ?_)
    refine SemW_setW cArr (by rw [cells46]; simpa [Value.cells] using hlen) q3 (by rw [cells46]; simp) (by simp [Value.cells, Value.oneCell']) fun w4 r4 k4 z4 => ?_
    have r4 : Row w4 px 46 (ints (Bk.after b m)) := by simpa [Value.cells] using r4
    (repeat with_reducible first | refine js ?_ | refine ja ?_ | (refine jT (id := 7) KL25 6 mixed (by kernel_rfl) (by kernel_rfl) (by kernel_rfl) fun _ => ?_; refine jw KL25 [] TF25 fun _ => ?_) | (refine jT (id := 8) KL25 6 mixed (by kernel_rfl) (by kernel_rfl) (by kernel_rfl) fun _ => ?_; refine jw KL25 [] TF25 fun _ => ?_) | refine jw KL25 [] TF25 fun _ => ?_)
    refine Run_ret ?_
    simp only [Rets, RetM, resV, fnd, oneOr, ↓reduceIte]
    refine ⟨px, _, rfl, loadVar_at mArr cArr (by rw [cells46]; simpa using hlen) r4.at_, _, rfl, rfl, ?_⟩
    have s2 := h2.blk
    exact Keep.ext x3 k4 fun k hk => by have := h1.size; omega
end Go.Proofs.YtoadfmgnpmcbfaaGreat
