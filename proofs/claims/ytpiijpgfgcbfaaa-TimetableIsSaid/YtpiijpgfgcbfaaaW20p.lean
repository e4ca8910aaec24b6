/- Chapter 20: TimetableIs, TimetableTimes. -/
import Derived.Test.YtpiijpgfgcbfaaaW20z
set_option linter.unusedSimpArgs false
set_option linter.unusedVariables false
set_option maxRecDepth 100000
namespace Go.Fk
open Go
namespace Tt
theorem runs_one {t : TimeD} {a : Int} (hc : chk t = 0) (h0 : 0 ≤ a) (h1 : a < 2097152) : runs t a (a + 1) = (sortR (allRuns a (a + 1) 0 t.Lines), 0) := by
  have hd : ∀ x : LineD, (Cal.deps x.Rules x.Off a (a + 1)).length ≤ 1 := fun x => by
    unfold Cal.deps
    rw [show (a + 1 - a).toNat = 1 by omega]
    simp [Cal.depsN]
    split <;> simp
  have hl : ∀ (l : List LineD) (i : Nat), (allRuns a (a + 1) i l).length ≤ l.length := by
    intro l
    induction l with
    | nil => intro i; simp [allRuns]
    | cons x l ih =>
      intro i
      have h1 := ih (i + 1)
      have h2 := hd x
      have h3 : (lineRuns a (a + 1) i x).length ≤ (Cal.deps x.Rules x.Off a (a + 1)).length := List.length_filterMap_le _ _
      simp only [allRuns, List.length_append, List.length_cons]; omega
  have ht := chk_ok hc
  refine runs_of hc (by omega) (fun x hx => by have := hd x; omega) ?_
  have := hl t.Lines 0
  have := ht.n
  omega
end Tt
end Go.Fk
namespace Go.Proofs.Ytpiijpgfgcbfaaa
open Go Go.Fk
theorem rfSame19 (va vb : Value) (l m : List Int) (w : World) (hx : Sl w va l) (hy : Sl w vb m) : Calls Try.prog 23 #[va, vb] w fun e w' => e = .returned (.bool (decide (l = m))) ∧ Ext w w' := by
  have hn := hx.small
  refine Calls_of_Run (args := [va, vb]) (n := 26) (rs := [.tmp 4]) Try.func23 rfl rfl rfl (by simp) ?_
  (repeat with_reducible first | refine js ?_ | refine ja ?_ | refine jw KL23 [6] (aa TF23 (aa hx.s (aa hx.len (aa hy.s hy.len)))) fun _ => ?_)
  refine Run_condS (fun _ => rfl) (fun h => ?_) (fun h => ?_)
  · (repeat with_reducible first | refine js ?_ | refine ja ?_ | refine jw KL23 [6] TF23 fun _ => ?_)
    refine Run_ret ?_
    simp at h
    have : decide (l = m) = false := by simp; intro e; subst e; omega
    simp [Rets, RetM, resV, fnd, oneOr, this, Ext.refl]
  · simp at h
    have hl : l.length = m.length := by omega
    (repeat with_reducible first | refine js ?_ | refine ja ?_ | refine jw KL23 [6] TF23 fun _ => ?_)
    refine Run_loopV [4, 5, 14, 25] (σ := Nat) (fun k => [(5, some (.int .i64 k))]) (fun k w' => k ≤ l.length ∧ (∀ j (h : j < l.length), j < k → l[j] = m[j]) ∧ Ext w w') (fun k => l.length - k) 0 (by simp [SubB, fnd]) ⟨by omega, by simp, Ext.refl _⟩ ?_
    rintro k w3 ⟨hk, hf, x3⟩
    (repeat with_reducible first | refine js ?_ | refine ja ?_ | refine jw KL23 [6] (aa TF23 (aa hx.s (aa hx.len (aa hy.s hy.len)))) fun _ => ?_)
    refine Run_condS (fun _ => rfl) (fun h => ?_) (fun h => ?_)
    · simp at h
      have hkl := h
      obtain ⟨f1, f2, f3⟩ := (hx.ext x3).get h
      obtain ⟨g1, g2, g3⟩ := (hy.ext x3).get (show k < m.length by omega)
      (repeat with_reducible first | refine js ?_ | refine ja ?_ | refine jw KL23 [6] (aa TF23 (aa hx.s (aa hx.len (aa hy.s (aa hy.len (aa f1 (aa f2 (aa g1 g2)))))))) fun _ => ?_)
      intro w4 x4
      refine Run_condS (fun _ => rfl) (fun h => ?_) (fun h => ?_)
      · (repeat with_reducible first | refine js ?_ | refine ja ?_ | refine jw KL23 [6] TF23 fun _ => ?_)
        refine Run_ret ?_
        have : decide (l = m) = false := by
          simp at h ⊢; intro e; subst e; exact h rfl
        simp [Rets, RetM, resV, fnd, oneOr, this]
        exact x3.trans (by assumption)
      · (repeat with_reducible first | refine js ?_ | refine ja ?_ | refine jw KL23 [6] TF23 fun _ => ?_)
        refine Run_lp ⟨k + 1, ?_, ⟨by omega, fun j hj hjk => ?_, x3.trans (by assumption)⟩, by omega⟩
        · simp [SubB, fnd, strike, has]
        · by_cases e : j = k
          · subst e; simpa using h
          · exact hf j hj (by omega)
    · simp at h
      obtain rfl : k = l.length := by omega
      (repeat with_reducible first | refine js ?_ | refine ja ?_ | refine jw KL23 [6] TF23 fun _ => ?_)
      refine Run_ret ?_
      have : decide (l = m) = true := decide_eq_true (List.ext_getElem hl fun j h1 h2 => hf j h1 h1)
      simp [Rets, RetM, resV, fnd, oneOr, this, x3]
theorem mem_takeR {C : List RunD} {r : RunD} {k : Nat} (h : k < C.length) : (decide (r ∈ C.take k) || C[k].Line == r.Line && (C[k].At == r.At && C[k].Arrive == r.Arrive)) = decide (r ∈ C.take (k + 1)) := by
  rw [Bool.eq_iff_iff, List.take_succ_eq_append_getElem h]
  simp only [Bool.or_eq_true, decide_eq_true_eq, Bool.and_eq_true, beq_iff_eq, List.mem_append, List.mem_singleton]
  constructor
  · rintro (h | ⟨h1, h2, h3⟩)
    · exact .inl h
    · right
      generalize C[k] = x at *
      cases x; cases r; simp_all
  · rintro (h | rfl)
    · exact .inl h
    · exact .inr ⟨rfl, rfl, rfl⟩
theorem lawIs20 (vl : Value) (t : TimeD) (r : RunD) (w : World) (hl : Sl w vl t.Lines) (hr : RunI r) :
    Calls Try.prog 6 #[.agg (t.cs vl).toArray, .agg r.cs.toArray] w fun e w' => YesP e ∧ Ext w w' := by
  refine Calls_of_Run (args := [.agg (t.cs vl).toArray, .agg r.cs.toArray]) (n := 104) (rs := [.tmp 4]) Try.func6 rfl rfl rfl (by simp) ?_
  (repeat with_reducible first | refine js ?_ | refine ja ?_ | refine jw KL6 [] TF6 fun _ => ?_)
  refine SemW_box fun p w0 hN => SemW_box fun q w1 hQ => ?_
  have x1 := hN.ext.trans hQ.ext
  have G : ∀ w', Ext w1 w' → AtN w' p 0 (t.cs vl) := fun w' x => (hN.at_.ext (hQ.ext.trans x)).n
  have R : ∀ w', Ext w1 w' → AtN w' q 0 r.cs := fun w' x => (hQ.at_.ext x).n
  simp only [TimeD.cs, RunD.cs, AtN, KS, Nat.reduceAdd, Nat.reduceMul, Nat.reduceEqDiff, ↓reduceIte, UT] at G R
  (repeat with_reducible first | refine js ?_ | refine ja ?_ | refine jw KL6 [] TF6 fun _ => ?_)
  refine sane20W fun w2 x2 => ?_
  have y2 := x1.trans x2
  have g2 := G w2 x2
  (repeat with_reducible first | refine js ?_ | refine ja ?_ | refine jw KL6 [] TF6 fun _ => ?_)
  refine Run_condS (fun _ => rfl) (fun h => by cases h) (fun _ => ?_)
  (repeat with_reducible first | refine js ?_ | refine ja ?_ | refine jw KL6 [] (aa TF6 g2) fun _ => ?_)
  refine fewP (hl.ext y2) fun w3 x3 => ?_
  have y3 := y2.trans x3
  have g3 := G w3 (x2.trans x3)
  generalize few20 t 0 0 = fw
  (repeat with_reducible first | refine js ?_ | refine ja ?_ | refine jw KL6 [] (aa TF6 (aa g3 KX)) fun _ => ?_)
  refine .inr ⟨.int .i64 (Tt.chk t), fun _ => PC_pure call14 fun w4 x4 => rfCheck20 vl t w4 (hl.ext (y3.trans x4)), fun w4 x4 => ?_⟩
  unfold hush
  have y4 := y3.trans x4
  have z4 := x2.trans (x3.trans x4)
  have g4 := G w4 z4
  have k4 := R w4 z4
  (repeat with_reducible first | refine js ?_ | refine ja ?_ | refine jw KL6 [] (aa TF6 (aa g3 (aa k4 KX))) fun _ => ?_)
  refine Run_condS (fun _ => rfl) (fun h => ?_) (fun h => ?_)
  · (repeat with_reducible first | refine js ?_ | refine ja ?_ | refine jw KL6 [] TF6 fun _ => ?_)
    refine Run_ret ?_
    simp [Rets, RetM, resV, fnd, oneOr, y4]
  simp at h
  obtain ⟨⟨⟨hfw, hc⟩, h0⟩, h1⟩ := h
  subst hfw
  (repeat with_reducible first | refine js ?_ | refine ja ?_ | refine jw KL6 [] (aa TF6 (aa g4 k4)) fun _ => ?_)
  refine runsW (Tt.runs_one hc (by omega) (by omega)) (hl.ext y4) fun va w5 x5 sa => ?_
  simp only at sa
  have y5 := y4.trans x5
  have z5 := z4.trans x5
  have g5 := G w5 z5
  have k5 := R w5 z5
  have hmem : r ∈ Tt.sortR (Tt.allRuns r.At (r.At + 1) 0 t.Lines) ↔ Tt.isR t r = true := by
    rw [(Tt.sortR_perm _).mem_iff, Tt.mem_isR (by omega) (by omega) (by omega)]
    exact ⟨fun h => h.1, fun h => ⟨h, by omega, by omega⟩⟩
  generalize Tt.sortR (Tt.allRuns r.At (r.At + 1) 0 t.Lines) = C at *
  (repeat with_reducible first | refine js ?_ | refine ja ?_ | refine jw KL6 [] TF6 fun _ => ?_)
  refine Run_condS (fun _ => rfl) (fun h => by simp at h) (fun _ => ?_)
  have hCn := sa.small
  (repeat with_reducible first | refine js ?_ | refine ja ?_ | refine jw KL6 [] (aa TF6 (aa sa.s sa.len)) fun _ => ?_)
  refine Run_loopV [7, 9, 47, 48] (σ := Nat) (fun k => [(47, some (.int .i64 k)), (7, some (.bool (decide (r ∈ C.take k))))]) (fun k w' => k ≤ C.length ∧ Ext w5 w') (fun k => C.length - k) 0 (by simp [SubB, fnd]) ⟨by omega, Ext.refl _⟩ ?_
  rintro k w6 ⟨hk, x6⟩
  (repeat with_reducible first | refine js ?_ | refine ja ?_ | refine jw KL6 [] TF6 fun _ => ?_)
  refine Run_condS (fun _ => rfl) (fun h => ?_) (fun h => ?_)
  · simp at h
    have hkl := h
    obtain ⟨f1, f2⟩ := (sa.ext x6).runD hkl
    simp only [RunD.cs, AtN, KS, Nat.reduceAdd, Nat.reduceMul, Nat.reduceEqDiff, ↓reduceIte, UT] at f1
    (repeat with_reducible first | refine js ?_ | refine ja ?_ | refine jw KL6 [] (aa TF6 (aa sa.s (aa sa.len f1))) fun _ => ?_)
    refine SemW_var ti34 rfl rfl (by decide) rfl fun px w7 h7 => ?_
    have x7 := h7.ext
    have r7 := h7.at_.n
    simp only [Value.cells, List.toList_toArray, AtN, KS, Nat.reduceAdd, Nat.reduceMul, Nat.reduceEqDiff, ↓reduceIte, UT] at r7
    have k7 := R w7 (z5.trans (x6.trans x7))
    (repeat with_reducible first | refine js ?_ | refine ja ?_ | refine jw KL6 [] (aa TF6 (aa r7 (aa k7 KX))) fun _ => ?_)
    refine ⟨by kernel_rfl, ?_⟩
    rw [mem_takeR hkl]
    (repeat with_reducible first | refine js ?_ | refine ja ?_ | refine jw KL6 [] TF6 fun _ => ?_)
    refine Run_lp ⟨k + 1, ?_, ⟨by omega, x6.trans x7⟩, by omega⟩
    simp [SubB, fnd, strike, has]
  · simp at h
    obtain rfl : k = C.length := by omega
    rw [List.take_length]
    have z6 := z5.trans x6
    have y6 := y5.trans x6
    have g6 := G w6 z6
    have k6 := R w6 z6
    (repeat with_reducible first | refine js ?_ | refine ja ?_ | refine jw KL6 [] (aa TF6 (aa g6 k6)) fun _ => ?_)
    refine isTW (t := t) (r := r) rfl (hl.ext y6) hr fun w7 x7 => ?_
    have hir : Tt.isRun t r = decide (r ∈ C) := by
      unfold Tt.isRun
      rw [decide_eq_true hc, Bool.true_and, Bool.eq_iff_iff, ← hmem, decide_eq_true_eq]
    rw [hir]
    (repeat with_reducible first | refine js ?_ | refine ja ?_ | refine jw KL6 [] (aa TF6 KX) fun _ => ?_)
    refine Run_condS (fun _ => rfl) (fun h => by simp at h) (fun _ => ?_)
    have y7 := y6.trans x7
    have z7 := z6.trans x7
    (repeat with_reducible first | refine js ?_ | refine ja ?_ | refine jw KL6 [] (aa TF6 KX) fun _ => ?_)
    refine Run_condS (fun _ => rfl) (fun h => ?_) (fun h => ?_)
    · (repeat with_reducible first | refine js ?_ | refine ja ?_ | refine jw KL6 [] TF6 fun _ => ?_)
      refine Run_ret ?_
      simp [Rets, RetM, resV, fnd, oneOr, y7]
    have hmr : r ∈ C := by simpa using h
    have hi := hmem.1 hmr
    obtain ⟨i0, i1, i2, i3⟩ := isR_bd hi
    have g7 := G w7 z7
    have k7 := R w7 z7
    have hd0 : decide (r.Line < 0) = false := by simp; omega
    (repeat with_reducible first | refine js ?_ | refine ja ?_ | refine jw KL6 [] (aa TF6 (aa g7 (aa k7 (aa hl.s (aa hl.len (aa hd0 KX)))))) fun _ => ?_)
    refine Run_condS (fun _ => rfl) (fun h => by simp at h; omega) (fun _ => ?_)
    have hlt : r.Line.toNat < t.Lines.length := by omega
    obtain ⟨v0, v1, v2, v3, f1, f2, hR⟩ := (hl.ext y7).line hlt
    have hone := hR.one
    simp only [LineD.cs, AtN, KS, Nat.reduceAdd, Nat.reduceMul, Nat.reduceEqDiff, ↓reduceIte, UT] at f1 hone
    have hgd : t.Lines.getD r.Line.toNat default = t.Lines[r.Line.toNat] := by simp [List.getD_eq_getElem?_getD, hlt]
    have hcx := (Tt.chk_ok hc).c _ (List.getElem_mem hlt)
    have hdp : Cal.departs t.Lines[r.Line.toNat].Rules t.Lines[r.Line.toNat].Off r.At = true := by
      unfold Tt.isR at hi
      rw [hgd] at hi
      simp only [Bool.and_eq_true] at hi
      exact hi.2.1
    generalize t.Lines[r.Line.toNat] = x at *
    (repeat with_reducible first | refine js ?_ | refine ja ?_ | refine jw KL6 [] (aa TF6 (aa g7 (aa k7 (aa hl.s (aa hl.len f1))))) fun _ => ?_)
    refine SemW_var ti45 rfl rfl (by decide) (by simpa [Value.cells] using hone) fun px w8 h8 => ?_
    have x8 := h8.ext
    have r8 := h8.at_.n
    simp only [AtN, KS, Nat.reduceAdd, Nat.reduceMul, Nat.reduceEqDiff, ↓reduceIte, UT] at r8
    have k8 := R w8 (z7.trans x8)
    have hR8 := hR.ext x8
    (repeat with_reducible first | refine js ?_ | refine ja ?_ | refine jw KL6 [] (aa TF6 (aa r8 k8)) fun _ => ?_)
    refine CallW_gen call22 (calMoments v2 v3 x.Rules x.Off r.At (r.At + 1) w8 hR8.r hR8.g) fun e w9 ⟨vm, he, x9, s9⟩ => ⟨_, he, ?_⟩
    rw [moments_one hcx (by omega) (by omega), hdp] at s9 ⊢
    simp only [if_true] at s9 ⊢
    have k9 := R w9 (z7.trans (x8.trans x9))
    (repeat with_reducible first | refine js ?_ | refine ja ?_ | refine jw KL6 [] (aa TF6 (aa k9 KX)) fun _ => ?_)
    refine .inl ⟨by decide, ?_⟩
    refine SemW_buildF (α := Int) (W := w9) Try.underlying35 ti3 rfl (by decide) (Ext.refl _) [.int .i64 r.At] [r.At] rfl rfl (Cs.one ⟨rfl, hr.2.1⟩) (by simp [Enc.n]) fun po w10 b10 s10 x10 => ?_
    unfold hush
    (repeat with_reducible first | refine js ?_ | refine ja ?_ | refine jw KL6 [] (aa TF6 KX) fun _ => ?_)
    refine .inl (.inl ⟨by decide, ?_⟩)
    refine CallW_pure call23 (rfSame19 vm _ _ _ w10 (s9.ext x10) s10) fun w11 x11 => ?_
    unfold hush
    rw [decide_eq_true rfl]
    (repeat with_reducible first | refine js ?_ | refine ja ?_ | refine jw KL6 [] (aa TF6 KX) fun _ => ?_)
    refine Run_ret ?_
    simp [Rets, RetM, resV, fnd, oneOr]
    exact y7.trans (x8.trans (x9.trans (x10.trans x11)))
theorem lawTimes20 (vl : Value) (t : TimeD) (r : RunD) (w : World) (hl : Sl w vl t.Lines) (hr : RunI r) :
    Calls Try.prog 7 #[.agg (t.cs vl).toArray, .agg r.cs.toArray] w fun e w' => YesP e ∧ Ext w w' := by
  refine Calls_of_Run (args := [.agg (t.cs vl).toArray, .agg r.cs.toArray]) (n := 120) (rs := [.tmp 4]) Try.func7 rfl rfl rfl (by simp) ?_
  (repeat with_reducible first | refine js ?_ | refine ja ?_ | refine jw KL7 [8, 13] TF7 fun _ => ?_)
  refine SemW_box fun p w0 hN => SemW_box fun q w1 hQ => ?_
  have x1 := hN.ext.trans hQ.ext
  have G : ∀ w', Ext w1 w' → AtN w' p 0 (t.cs vl) := fun w' x => (hN.at_.ext (hQ.ext.trans x)).n
  have R : ∀ w', Ext w1 w' → AtN w' q 0 r.cs := fun w' x => (hQ.at_.ext x).n
  simp only [TimeD.cs, RunD.cs, AtN, KS, Nat.reduceAdd, Nat.reduceMul, Nat.reduceEqDiff, ↓reduceIte, UT] at G R
  (repeat with_reducible first | refine js ?_ | refine ja ?_ | refine jw KL7 [8, 13] TF7 fun _ => ?_)
  refine sane20W fun w2 x2 => ?_
  have y2 := x1.trans x2
  have g2 := G w2 x2
  (repeat with_reducible first | refine js ?_ | refine ja ?_ | refine jw KL7 [8, 13] TF7 fun _ => ?_)
  refine Run_condS (fun _ => rfl) (fun h => by cases h) (fun _ => ?_)
  (repeat with_reducible first | refine js ?_ | refine ja ?_ | refine jw KL7 [8, 13] (aa TF7 g2) fun _ => ?_)
  refine fewP (hl.ext y2) fun w3 x3 => ?_
  have y3 := y2.trans x3
  have g3 := G w3 (x2.trans x3)
  generalize few20 t 0 0 = fw
  (repeat with_reducible first | refine js ?_ | refine ja ?_ | refine jw KL7 [8, 13] (aa TF7 (aa g3 KX)) fun _ => ?_)
  refine .inr ⟨.int .i64 (Tt.chk t), fun _ => PC_pure call14 fun w4 x4 => rfCheck20 vl t w4 (hl.ext (y3.trans x4)), fun w4 x4 => ?_⟩
  unfold hush
  have y4 := y3.trans x4
  have z4 := x2.trans (x3.trans x4)
  have g4 := G w4 z4
  have k4 := R w4 z4
  (repeat with_reducible first | refine js ?_ | refine ja ?_ | refine jw KL7 [8, 13] (aa TF7 (aa g3 KX)) fun _ => ?_)
  refine Run_condS (fun _ => rfl) (fun h => ?_) (fun h => ?_)
  · (repeat with_reducible first | refine js ?_ | refine ja ?_ | refine jw KL7 [8, 13] TF7 fun _ => ?_)
    refine Run_ret ?_
    simp [Rets, RetM, resV, fnd, oneOr, y4]
  simp at h
  obtain ⟨hfw, hc⟩ := h
  subst hfw
  (repeat with_reducible first | refine js ?_ | refine ja ?_ | refine jw KL7 [8, 13] (aa TF7 (aa g4 k4)) fun _ => ?_)
  refine timesW rfl (hl.ext y4) hr fun va w5 x5 sa => ?_
  have y5 := y4.trans x5
  have z5 := z4.trans x5
  have g5 := G w5 z5
  have k5 := R w5 z5
  have hir : Tt.isRun t r = Tt.isR t r := by unfold Tt.isRun; rw [decide_eq_true hc, Bool.true_and]
  cases hi : Tt.isR t r with
  | false =>
    have hti : timesT t r = ([], 1) := by unfold timesT; rw [if_neg (by simp [hc]), hi]; rfl
    rw [hti] at sa ⊢
    simp only at sa
    have hsl := sa.len
    (repeat with_reducible first | refine js ?_ | refine ja ?_ | refine jw KL7 [8, 13] (aa TF7 KX) fun _ => ?_)
    refine Run_condS (fun _ => rfl) (fun _ => ?_) (fun h => by simp at h)
    (repeat with_reducible first | refine js ?_ | refine ja ?_ | refine jw KL7 [8, 13] (aa TF7 (aa sa.s (aa hsl (aa g5 (aa k5 KX))))) fun _ => ?_)
    refine .inl (.inl ⟨by decide, ?_⟩)
    refine isTW (t := t) (r := r) (hir.trans hi) (hl.ext y5) hr fun w6 x6 => ?_
    unfold hush
    (repeat with_reducible first | refine js ?_ | refine ja ?_ | refine jw KL7 [8, 13] (aa TF7 (aa sa.s (aa hsl KX))) fun _ => ?_)
    refine Run_ret ?_
    simp [Rets, RetM, resV, fnd, oneOr]
    exact y5.trans x6
  | true =>
    obtain ⟨i0, i1, i2, i3⟩ := isR_bd hi
    have hlt : r.Line.toNat < t.Lines.length := by omega
    obtain ⟨v0, v1, v2, v3, f1, f2, hR⟩ := (hl.ext y5).line hlt
    have hgd : t.Lines.getD r.Line.toNat default = t.Lines[r.Line.toNat] := by simp [List.getD_eq_getElem?_getD, hlt]
    have hxo := Tt.right_ok ((Tt.chk_ok hc).r _ (List.getElem_mem hlt))
    have hti : timesT t r = (sumsL r.At t.Lines[r.Line.toNat].Legs t.Lines[r.Line.toNat].Legs.length, 0) := by
      unfold timesT; rw [if_neg (by simp [hc]), if_pos hi, hgd]
    rw [hti] at sa ⊢
    have har : r.Arrive = r.At + Tt.leng t.Lines[r.Line.toNat] ∧ r.Arrive < 2097152 := by
      unfold Tt.isR at hi
      rw [hgd] at hi
      simp only [Bool.and_eq_true, decide_eq_true_eq] at hi
      exact hi.2.2
    generalize t.Lines[r.Line.toNat] = x at *
    have hsl := sa.len
    rw [sumsL_len] at hsl
    obtain ⟨hl9, hbd⟩ := sums_bd hxo i2 i3
    (repeat with_reducible first | refine js ?_ | refine ja ?_ | refine jw KL7 [8, 13] (aa TF7 KX) fun _ => ?_)
    refine Run_condS (fun _ => rfl) (fun h => by simp at h) (fun _ => ?_)
    have f3 := f2.n
    simp only [LineD.cs, AtN, KS, Nat.reduceAdd, Nat.reduceMul, Nat.reduceEqDiff, ↓reduceIte, UT] at f3
    obtain ⟨q1, q2, q3⟩ := sa.get (i := 0) (by rw [sumsL_len]; omega)
    obtain ⟨q4, q5, q6⟩ := sa.get (i := x.Legs.length) (by rw [sumsL_len]; omega)
    have e0 : (sumsL r.At x.Legs x.Legs.length)[0]'(by rw [sumsL_len]; omega) = r.At := by simp [sumsL, Tt.sm]
    have e1 : (sumsL r.At x.Legs x.Legs.length)[x.Legs.length]'(by rw [sumsL_len]; omega) = r.Arrive := by simp [sumsL]; rw [har.1]; rfl
    rw [e0] at q1
    rw [e1] at q4
    have n1 : decide (r.Line < 0) = false := by simp; omega
    have n2 : decide ((t.Lines.length : Int) ≤ r.Line) = false := by simp; omega
    have n3 : decide ((2097152 : Int) ≤ r.Arrive) = false := by simp; omega
    have hol := hxo.l1
    have hof : x.Offices.length = x.Legs.length + 1 := by omega
    have hwl : IntKind.i64.wrap (((x.Legs.length + 1 : Nat) : Int) - 1) = (x.Legs.length : Int) := by rw [wrapI (by omega) (by omega)]; omega
    have hol2 := hR.o.len
    rw [hof] at hol2
    have ht : (((x.Legs.length + 1 : Nat) : Int) - 1).toNat = x.Legs.length := by omega
    have n4 : (((x.Legs.length + 1 : Nat) : Int) != ((x.Legs.length + 1 : Nat) : Int)) = false := by simp
    have n5 : (r.At != r.At) = false := by simp
    have n6 : (r.Arrive != r.Arrive) = false := by simp
    rw [add_zero] at q1 q2
    (repeat with_reducible first | refine js ?_ | refine ja ?_ | refine jw KL7 [8, 13] (aa TF7 (aa g5 (aa k5 (aa hl.s (aa hl.len (aa f3 (aa hR.o.s (aa hol2 (aa sa.s (aa hsl (aa q1 (aa q2 (aa q4 (aa q5 (aa n1 (aa n2 (aa n3 (aa ht (aa n4 (aa n5 (aa n6 KX))))))))))))))))))))) fun _ => ?_)
    refine ⟨.bool true, PC_pure call18 fun w6 x6 => ?_, by simp, ?_⟩
    · have := ttIs vl t r w6 (hl.ext (y5.trans x6)) hr
      rwa [hir, hi] at this
    simp only [bOf_mk, Bool.not_true, Bool.false_or, n5, n6, forall_const]
    refine ⟨⟨by omega, by omega⟩, ⟨by omega, by omega⟩, ⟨by omega, by omega⟩, fun w6 x6 => ?_⟩
    clear q1 q2 q3 q4 q5 q6
    have y6 := y5.trans x6
    have z6 := z5.trans x6
    have g6 := G w6 z6
    have k6 := R w6 z6
    have f6 := (f2.ext x6).n
    simp only [LineD.cs, AtN, KS, Nat.reduceAdd, Nat.reduceMul, Nat.reduceEqDiff, ↓reduceIte, UT] at f6
    (repeat with_reducible first | refine js ?_ | refine ja ?_ | refine jw KL7 [8, 13] TF7 fun _ => ?_)
    refine Run_condS (fun _ => rfl) (fun h => by cases h) (fun _ => ?_)
    (repeat with_reducible first | refine js ?_ | refine ja ?_ | refine jw KL7 [8, 13] (aa TF7 (aa g6 (aa k6 (aa hl.s (aa hl.len (aa f6 (aa hR.l.s hR.l.len))))))) fun _ => ?_)
    refine Run_loopV [4, 7, 8, 102, 103, 118] (σ := Nat) (fun k => [(102, some (.int .i64 k))]) (fun k w' => k ≤ x.Legs.length ∧ Ext w6 w') (fun k => x.Legs.length - k) 0 (by simp [SubB, fnd]) ⟨by omega, Ext.refl _⟩ ?_
    rintro k w7 ⟨hk, x7⟩
    (repeat with_reducible first | refine js ?_ | refine ja ?_ | refine jw KL7 [8, 13] TF7 fun _ => ?_)
    refine Run_condS (fun _ => rfl) (fun h => ?_) (fun h => ?_)
    · simp at h
      have hkl : k < x.Legs.length := by omega
      have x67 := x6.trans x7
      obtain ⟨f1', f2', f3'⟩ := (hR.l.ext x67).get hkl
      obtain ⟨q1, q2, q3⟩ := (sa.ext x67).get (i := k) (by rw [sumsL_len]; omega)
      obtain ⟨q4, q5, q6⟩ := (sa.ext x67).get (i := k + 1) (by rw [sumsL_len]; omega)
      have e0 : (sumsL r.At x.Legs x.Legs.length)[k]'(by rw [sumsL_len]; omega) = r.At + Tt.sm (x.Legs.take k) := by simp [sumsL]
      have e1 : (sumsL r.At x.Legs x.Legs.length)[k + 1]'(by rw [sumsL_len]; omega) = r.At + Tt.sm (x.Legs.take (k + 1)) := by simp [sumsL]
      rw [e0] at q1
      rw [e1, Tt.sm_take x.Legs k hkl] at q4
      have hb0 := hbd k hk
      have hb1 := hbd (k + 1) (by omega)
      rw [Tt.sm_take x.Legs k hkl] at hb1
      have hd : (x.Legs[k] != x.Legs[k]) = false := by simp
      (repeat with_reducible first | refine js ?_ | refine ja ?_ | refine jw KL7 [8, 13] (aa TF7 (aa hR.l.s (aa hR.l.len (aa f1' f2')))) fun _ => ?_)
      have hs : r.At + (Tt.sm (x.Legs.take k) + x.Legs[k]) - (r.At + Tt.sm (x.Legs.take k)) = x.Legs[k] := by omega
      have hw2 : IntKind.i64.wrap (r.At + (Tt.sm (x.Legs.take k) + x.Legs[k]) - (r.At + Tt.sm (x.Legs.take k))) = x.Legs[k] := by rw [wrapI (by omega) (by omega), hs]
      (repeat with_reducible first | refine js ?_ | refine ja ?_ | refine jw KL7 [8, 13] (aa TF7 (aa sa.s (aa hsl (aa q1 (aa q2 (aa q4 (aa q5 (aa hw2 (aa hd KX))))))))) fun _ => ?_)
      intro w8 x8
      refine Run_condS (fun _ => rfl) (fun h => by cases h) (fun _ => ?_)
      (repeat with_reducible first | refine js ?_ | refine ja ?_ | refine jw KL7 [8, 13] TF7 fun _ => ?_)
      refine Run_lp ⟨k + 1, ?_, ⟨by omega, x7.trans x8⟩, by omega⟩
      simp [SubB, fnd, strike, has]
    · simp at h
      obtain rfl : k = x.Legs.length := by omega
      (repeat with_reducible first | refine js ?_ | refine ja ?_ | refine jw KL7 [8, 13] TF7 fun _ => ?_)
      refine Run_ret ?_
      simp [Rets, RetM, resV, fnd, oneOr]
      exact y6.trans x7
end Go.Proofs.Ytpiijpgfgcbfaaa
