import Derived.Test.YtldjfebokojmfaaGreatRgFacts
import Derived.Test.YtldjfebokojmfaaGreatRgGa
namespace Go.Proofs.YtldjfebokojmfaaGreat
open Go Go.Fk
set_option linter.unusedSimpArgs false
set_option linter.unusedVariables false
set_option maxRecDepth 100000
theorem wrap_bd (x : Int) : -9223372036854775808 ≤ IntKind.i64.wrap x ∧ IntKind.i64.wrap x ≤ 9223372036854775807 := by rw [IntKind.wrap_i64]; omega
theorem fewQ {a e : Int} (ha : 1 ≤ a ∧ a ≤ 2097152) (he : 1 ≤ e ∧ e ≤ 9223372036854775807) : -2 ≤ (IntKind.i64.wrap (IntKind.i64.wrap (a + e) - 1)).tdiv e ∧ (IntKind.i64.wrap (IntKind.i64.wrap (a + e) - 1)).tdiv e ≤ 4194304 := by
  by_cases h : e ≤ 4611686018427387904
  · rw [wrapI (x := a + e) (by omega) (by omega), wrapI (by omega) (by omega), tdivI (by omega)]
    constructor
    · have : 0 ≤ (a + e - 1) / e := Int.ediv_nonneg (by omega) (by omega)
      omega
    · have : (a + e - 1) / e < 4194304 := Int.ediv_lt_of_lt_mul (by omega) (by omega)
      omega
  · have hb := wrap_bd (IntKind.i64.wrap (a + e) - 1)
    generalize IntKind.i64.wrap (IntKind.i64.wrap (a + e) - 1) = y at *
    rw [Int.tdiv_eq_ediv]
    have h1 : y / e < 3 := Int.ediv_lt_of_lt_mul (by omega) (by omega)
    have h2 : -3 < y / e := by
      have := Int.lt_ediv_add_one_mul_self y (show 0 < e by omega)
      by_cases g : -3 < y / e
      · exact g
      · have : (y / e + 1) * e ≤ (-2) * e := Int.mul_le_mul_of_nonneg_right (by omega) (by omega)
        omega
    have h3 : e.sign = 1 := Int.sign_eq_one_of_pos (by omega)
    rw [h3]
    split <;> omega
def lineFew (x : LineD) : Bool := decide (x.Offices.length ≤ 12 ∧ x.Legs.length ≤ 12 ∧ x.Rules.length ≤ 20 ∧ x.Off.length ≤ 70)
set_option maxHeartbeats 4000000 in
theorem rfFewTable (vl : Value) (t : TimeD) (w : World) (hl : Sl w vl t.Lines) : Calls Tryz.prog 30 #[.agg (t.cs vl).toArray] w fun e w' => ∃ b : Bool, e = .returned (.bool b) ∧ Ext w w' ∧ (b = true → t.Lines.length ≤ 66 ∧ ∀ x ∈ t.Lines, lineFew x = true) := by
  have hll := hl.len
  have hls := hl.small
  refine Calls_of_Run (args := [.agg (t.cs vl).toArray]) (n := 100) (rs := [.tmp 2]) Tryz.func30 rfl rfl rfl (by simp) ?_
  (repeat with_reducible first | refine jy ?_ | refine jw KL30 [] TF30 fun _ => ?_)
  refine SemW_box fun pt w1 h1 => ?_
  have x1 := h1.ext
  have T : ∀ w', Ext w1 w' → AtN w' pt 0 (t.cs vl) := fun w' x => (h1.at_.ext x).n
  simp only [TimeD.cs, AtN, KS, Nat.reduceAdd, Nat.reduceMul, Nat.reduceEqDiff, ↓reduceIte, UT] at T
  (repeat with_reducible first | refine jy ?_ | refine jw KL30 [] TF30 fun _ => ?_)
  refine Run_loopV [2, 3, 4, 5, 6, 7, 16, 45, 50, 77] (σ := Nat × Int) (fun q => [(4, some (.int .i64 q.1)), (3, some (.int .i64 q.2)), (2, some (.bool false))]) (fun q w' => (q.1 ≤ t.Lines.length ∧ q.1 ≤ 70) ∧ (-(100 * q.1 : Int) ≤ q.2 ∧ q.2 ≤ 100000000 * q.1) ∧ (∀ j (h : j < t.Lines.length), j < q.1 → lineFew t.Lines[j] = true) ∧ Ext w1 w') (fun q => 70 - q.1) (0, 0) (by simp [SubB, fnd]) ⟨by simp, by simp, by simp, Ext.refl _⟩ ?_
  rintro ⟨i, n⟩ w2 ⟨hi, hn, hf, x2⟩
  simp only at hi hn hf
  have y2 := x1.trans x2
  have t2 := T w2 x2
  by_cases hlt : i < t.Lines.length ∧ i < 70
  · have e0 : decide ((i : Int) < t.Lines.length) = true := by simp; omega
    have e1 : decide ((i : Int) < 70) = true := by simp; omega
    (repeat with_reducible first | refine jy ?_ | refine jw KL30 [] (aa TF30 (aa t2 (aa hl.s (aa hl.len (aa e0 (aa e1 KX)))))) fun _ => ?_)
    refine Run_condS (fun _ => rfl) (fun _ => ?_) (fun h => by cases h)
    have hil := hlt.1
    obtain ⟨l0, l1, l2, l3, f1, f2, hR⟩ := (hl.ext y2).line hil
    have hone := hR.one
    generalize hxx : t.Lines[i] = x at *
    simp only [LineD.cs, AtN, KS, Nat.reduceAdd, Nat.reduceMul, Nat.reduceEqDiff, ↓reduceIte, UT] at f1
    simp only [LineD.cs] at hone
    (repeat with_reducible first | refine jy ?_ | refine jw KL30 [] (aa TF30 (aa t2 (aa hl.s (aa hl.len (aa f1 KX))))) fun _ => ?_)
    refine SemW_allocT ti82 fun px w3 h3 => ?_
    have b3 := h3.blk
    (repeat with_reducible first | refine jy ?_ | refine jw KL30 [] TF30 fun _ => ?_)
    refine SemW_setW (by rw [cells82]; decide) (by rw [cells82]; rfl) h3.row (by rw [cells82]; rfl) (by simpa [Value.cells] using hone) fun w4 r4 k4 z4 => ?_
    have r4 : Row w4 px 82 (x.cs l0 l1 l2 l3) := by simpa [Value.cells, LineD.cs] using r4
    have x4 : Ext w2 w4 := Keep.ext h3.ext k4 fun q hq => by omega
    have hR4 := hR.ext x4
    have X : ∀ w', Ext w4 w' → AtN w' px 0 (x.cs l0 l1 l2 l3) := fun w' x => (r4.at_.ext x).n
    simp only [LineD.cs, AtN, KS, Nat.reduceAdd, Nat.reduceMul, Nat.reduceEqDiff, ↓reduceIte, UT] at X
    have X4 := X w4 (Ext.refl _)
    have g1 := hR4.o.len
    have g2 := hR4.l.len
    have g3 := hR4.r.len
    have g4 := hR4.g.len
    (repeat with_reducible first | refine jy ?_ | refine jw KL30 [] (aa TF30 (aa X4 (aa hR4.o.s (aa hR4.l.s (aa hR4.r.s (aa hR4.g.s (aa hR4.o.len (aa hR4.l.len (aa hR4.r.len (aa hR4.g.len KX)))))))))) fun _ => ?_)
    have hlf : (decide ((12 : Int) < x.Offices.length) || decide ((12 : Int) < x.Legs.length) || decide ((20 : Int) < x.Rules.length) || decide ((70 : Int) < x.Off.length)) = !lineFew x := by
      unfold lineFew; rw [Bool.eq_iff_iff]; simp; omega
    rw [hlf]
    refine Run_condS (fun _ => rfl) (fun h => ?_) (fun h => ?_)
    · (repeat with_reducible first | refine jy ?_ | refine jw KL30 [] TF30 fun _ => ?_)
      refine Run_ret ?_
      simp [Rets, RetM, resV, fnd, oneOr]
      exact y2.trans x4
    have hlx : lineFew x = true := by simpa using h
    clear h hlf
    have hr20 : x.Rules.length ≤ 20 := by simp only [lineFew, decide_eq_true_eq] at hlx; exact hlx.2.2.1
    (repeat with_reducible first | refine jy ?_ | refine jw KL30 [] TF30 fun _ => ?_)
    refine Run_loopV [3, 6, 7, 50, 77] (σ := Nat × Int) (fun q => [(6, some (.int .i64 q.1)), (3, some (.int .i64 q.2))]) (fun q w' => q.1 ≤ x.Rules.length ∧ (-(100 * i + 2 * q.1 : Int) ≤ q.2 ∧ q.2 ≤ 100000000 * i + 4194304 * q.1) ∧ Ext w4 w') (fun q => x.Rules.length - q.1) (0, n) (by simp [SubB, fnd]) ⟨by simp, by simp; omega, Ext.refl _⟩ ?_
    rintro ⟨k, m⟩ w5 ⟨hk, hm, x5⟩
    simp only at hk hm
    have X5 := X w5 x5
    have y5 := y2.trans (x4.trans x5)
    (repeat with_reducible first | refine jy ?_ | refine jw KL30 [] (aa TF30 (aa X5 (aa hR4.r.s (aa hR4.r.len KX)))) fun _ => ?_)
    refine Run_condS (fun _ => rfl) (fun h => ?_) (fun h => ?_)
    · simp at h
      have hkl := h
      obtain ⟨q1, q2, q3, q4⟩ := (hR4.r.ext x5).rule hkl
      generalize hrr : x.Rules[k] = r at *
      simp only [Rule.cs, AtN, KS, Nat.reduceAdd, Nat.reduceMul, Nat.reduceEqDiff, ↓reduceIte, UT] at q1
      (repeat with_reducible first | refine jy ?_ | refine jw KL30 [] (aa TF30 (aa X5 (aa hR4.r.s (aa hR4.r.len (aa q1 KX))))) fun _ => ?_)
      refine SemW_allocT ti78 fun pr w6 h6 => ?_
      have b6 := h6.blk
      (repeat with_reducible first | refine jy ?_ | refine jw KL30 [] TF30 fun _ => ?_)
      refine SemW_setW (by rw [cells78]; decide) (by rw [cells78]; rfl) h6.row (by rw [cells78]; rfl) rfl fun w7 r7 k7 z7 => ?_
      have r7 : Row w7 pr 78 r.cs := r7
      have x7 : Ext w5 w7 := Keep.ext h6.ext k7 fun q hq => by omega
      have g7 := r7.n
      simp only [Rule.cs, AtN, KS, Nat.reduceAdd, Nat.reduceMul, Nat.reduceEqDiff, ↓reduceIte, UT] at g7
      (repeat with_reducible first | refine jy ?_ | refine jw KL30 [] (aa TF30 (aa g7 KX)) fun _ => ?_)
      refine Run_condS (fun _ => rfl) (fun h => ?_) (fun h => ?_)
      · simp only [Bool.and_eq_true, decide_eq_true_eq] at h
        obtain ⟨⟨⟨h1, h2⟩, h3⟩, h4⟩ := h
        have hq := fewQ (a := r.Until - r.First) (e := r.Every) (by omega) ⟨h1, q4.2⟩
        unfold I64 at q2 q3 q4
        have hE : r.Every ≠ 0 := by omega
        (repeat with_reducible first | refine jy ?_ | refine jw KL30 [] (aa TF30 (aa g7 (aa hE KX))) fun _ => ?_)
        generalize (IntKind.i64.wrap (IntKind.i64.wrap (r.Until - r.First + r.Every) - 1)).tdiv r.Every = q at *
        refine Run_lp ⟨(k + 1, m + q), ?_, ⟨by simp only; omega, by simp only; omega, x5.trans x7⟩, by simp only; omega⟩
        simp [SubB, fnd, strike, has]
      · (repeat with_reducible first | refine jy ?_ | refine jw KL30 [] TF30 fun _ => ?_)
        refine Run_lp ⟨(k + 1, m), ?_, ⟨by simp only; omega, by simp only; omega, x5.trans x7⟩, by simp only; omega⟩
        simp [SubB, fnd, strike, has]
    · simp at h
      obtain rfl : k = x.Rules.length := by omega
      (repeat with_reducible first | refine jy ?_ | refine jw KL30 [] TF30 fun _ => ?_)
      refine Run_lp ⟨(i + 1, m), ?_, ⟨by simp only; omega, by simp only; omega, fun j hj hji => ?_, x2.trans (x4.trans x5)⟩, by simp only; omega⟩
      · simp [SubB, fnd, strike, has]
      · by_cases e : j = i
        · subst e; rw [hxx]; exact hlx
        · exact hf j hj (by simp only at hji; omega)
  · by_cases e0 : i < t.Lines.length
    · have e0' : decide ((i : Int) < t.Lines.length) = true := by simp; omega
      have e1 : decide ((i : Int) < 70) = false := by simp; omega
      (repeat with_reducible first | refine jy ?_ | refine jw KL30 [] (aa TF30 (aa t2 (aa hl.s (aa hl.len (aa e0' (aa e1 KX)))))) fun _ => ?_)
      refine Run_condS (fun _ => rfl) (fun h => by cases h) (fun _ => ?_)
      by_cases g : n ≤ 200
      · have g0 : decide (n ≤ 200) = true := by simp; omega
        (repeat with_reducible first | refine jy ?_ | refine jw KL30 [] (aa TF30 (aa t2 (aa hl.s (aa hl.len (aa g0 KX))))) fun _ => ?_)
        refine Run_ret ?_
        simp [Rets, RetM, resV, fnd, oneOr, y2]
        omega
      · have g0 : decide (n ≤ 200) = false := by simp; omega
        (repeat with_reducible first | refine jy ?_ | refine jw KL30 [] (aa TF30 (aa t2 (aa hl.s (aa hl.len (aa g0 KX))))) fun _ => ?_)
        refine Run_ret ?_
        simp [Rets, RetM, resV, fnd, oneOr, y2]
    · have e0' : decide ((i : Int) < t.Lines.length) = false := by simp; omega
      (repeat with_reducible first | refine jy ?_ | refine jw KL30 [] (aa TF30 (aa t2 (aa hl.s (aa hl.len (aa e0' KX))))) fun _ => ?_)
      refine Run_condS (fun _ => rfl) (fun h => by cases h) (fun _ => ?_)
      obtain rfl : i = t.Lines.length := by omega
      by_cases g : n ≤ 200
      · have g0 : decide (n ≤ 200) = true := by simp; omega
        (repeat with_reducible first | refine jy ?_ | refine jw KL30 [] (aa TF30 (aa t2 (aa hl.s (aa hl.len (aa g0 KX))))) fun _ => ?_)
        refine Run_ret ?_
        simp [Rets, RetM, resV, fnd, oneOr, y2]
        by_cases h66 : 66 < (t.Lines.length : Int)
        · exact .inl h66
        refine .inr ⟨by omega, by omega, fun x hx => ?_⟩
        obtain ⟨j, hj, rfl⟩ := List.getElem_of_mem hx
        exact hf j hj hj
      · have g0 : decide (n ≤ 200) = false := by simp; omega
        (repeat with_reducible first | refine jy ?_ | refine jw KL30 [] (aa TF30 (aa t2 (aa hl.s (aa hl.len (aa g0 KX))))) fun _ => ?_)
        refine Run_ret ?_
        simp [Rets, RetM, resV, fnd, oneOr, y2]
end Go.Proofs.YtldjfebokojmfaaGreat
