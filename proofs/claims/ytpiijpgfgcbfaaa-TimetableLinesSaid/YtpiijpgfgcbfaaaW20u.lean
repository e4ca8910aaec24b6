/- Chapter 20: the reference's Runs; Times; Same. -/
import Derived.Test.YtpiijpgfgcbfaaaW20t
import Derived.Test.YtpiijpgfgcbfaaaW20s
set_option linter.unusedSimpArgs false
set_option linter.unusedVariables false
set_option maxRecDepth 100000
namespace Go.Proofs.Ytpiijpgfgcbfaaa
open Go Go.Fk
theorem eqR (a b : RunD) : (a.Line == b.Line && (a.At == b.At && (a.Arrive == b.Arrive && true))) = decide (a = b) := by
  rw [Bool.eq_iff_iff]
  cases a; cases b
  simp
theorem rfSame20 (va vb : Value) (l m : List RunD) (w : World) (hx : Sl w va l) (hy : Sl w vb m) : Calls Try.prog 15 #[va, vb] w fun e w' => e = .returned (.bool (decide (l = m))) ∧ Ext w w' := by
  have hn := hx.small
  refine Calls_of_Run (args := [va, vb]) (n := 26) (rs := [.tmp 4]) Try.func15 rfl rfl rfl (by simp) ?_
  (repeat with_reducible first | refine js ?_ | refine ja ?_ | refine jw KL15 [6] (aa TF15 (aa hx.s (aa hx.len (aa hy.s hy.len)))) fun _ => ?_)
  refine Run_condS (fun _ => rfl) (fun h => ?_) (fun h => ?_)
  · (repeat with_reducible first | refine js ?_ | refine ja ?_ | refine jw KL15 [6] TF15 fun _ => ?_)
    refine Run_ret ?_
    simp at h
    have : decide (l = m) = false := by simp; intro e; subst e; omega
    simp [Rets, RetM, resV, fnd, oneOr, this, Ext.refl]
  · simp at h
    have hl : l.length = m.length := by omega
    (repeat with_reducible first | refine js ?_ | refine ja ?_ | refine jw KL15 [6] TF15 fun _ => ?_)
    refine Run_loopV [4, 5, 14, 25] (σ := Nat) (fun k => [(5, some (.int .i64 k))]) (fun k w' => k ≤ l.length ∧ (∀ j (h : j < l.length), j < k → l[j] = m[j]) ∧ Ext w w') (fun k => l.length - k) 0 (by simp [SubB, fnd]) ⟨by omega, by simp, Ext.refl _⟩ ?_
    rintro k w3 ⟨hk, hf, x3⟩
    (repeat with_reducible first | refine js ?_ | refine ja ?_ | refine jw KL15 [6] (aa TF15 (aa hx.s (aa hx.len (aa hy.s hy.len)))) fun _ => ?_)
    refine Run_condS (fun _ => rfl) (fun h => ?_) (fun h => ?_)
    · simp at h
      have hkl := h
      obtain ⟨f1, f2⟩ := (hx.ext x3).runD h
      obtain ⟨g1, g2⟩ := (hy.ext x3).runD (show k < m.length by omega)
      simp only [RunD.cs, AtN, KS, Nat.reduceAdd, Nat.reduceMul, Nat.reduceEqDiff, ↓reduceIte, UT] at f1 g1
      (repeat with_reducible first | refine js ?_ | refine ja ?_ | refine jw KL15 [6] (aa TF15 (aa hx.s (aa hx.len (aa hy.s (aa hy.len (aa f1 g1)))))) fun _ => ?_)
      refine ⟨by kernel_rfl, fun w4 x4 => ?_⟩
      rw [eqR]
      refine Run_condS (fun _ => rfl) (fun h => ?_) (fun h => ?_)
      · (repeat with_reducible first | refine js ?_ | refine ja ?_ | refine jw KL15 [6] TF15 fun _ => ?_)
        refine Run_ret ?_
        have : decide (l = m) = false := by
          simp at h ⊢; intro e; subst e; exact h rfl
        simp [Rets, RetM, resV, fnd, oneOr, this]
        exact x3.trans x4
      · (repeat with_reducible first | refine js ?_ | refine ja ?_ | refine jw KL15 [6] TF15 fun _ => ?_)
        refine Run_lp ⟨k + 1, ?_, ⟨by omega, fun j hj hjk => ?_, x3.trans x4⟩, by omega⟩
        · simp [SubB, fnd, strike, has]
        · by_cases e : j = k
          · subst e; simpa using h
          · exact hf j hj (by omega)
    · simp at h
      obtain rfl : k = l.length := by omega
      (repeat with_reducible first | refine js ?_ | refine ja ?_ | refine jw KL15 [6] TF15 fun _ => ?_)
      refine Run_ret ?_
      have : decide (l = m) = true := decide_eq_true (List.ext_getElem hl fun j h1 h2 => hf j h1 h1)
      simp [Rets, RetM, resV, fnd, oneOr, this, x3]
theorem rfSameInts20 (va vb : Value) (l m : List Int) (w : World) (hx : Sl w va l) (hy : Sl w vb m) : Calls Try.prog 20 #[va, vb] w fun e w' => e = .returned (.bool (decide (l = m))) ∧ Ext w w' := by
  have hn := hx.small
  refine Calls_of_Run (args := [va, vb]) (n := 26) (rs := [.tmp 4]) Try.func20 rfl rfl rfl (by simp) ?_
  (repeat with_reducible first | refine js ?_ | refine ja ?_ | refine jw KL20 [6] (aa TF20 (aa hx.s (aa hx.len (aa hy.s hy.len)))) fun _ => ?_)
  refine Run_condS (fun _ => rfl) (fun h => ?_) (fun h => ?_)
  · (repeat with_reducible first | refine js ?_ | refine ja ?_ | refine jw KL20 [6] TF20 fun _ => ?_)
    refine Run_ret ?_
    simp at h
    have : decide (l = m) = false := by simp; intro e; subst e; omega
    simp [Rets, RetM, resV, fnd, oneOr, this, Ext.refl]
  · simp at h
    have hl : l.length = m.length := by omega
    (repeat with_reducible first | refine js ?_ | refine ja ?_ | refine jw KL20 [6] TF20 fun _ => ?_)
    refine Run_loopV [4, 5, 14, 25] (σ := Nat) (fun k => [(5, some (.int .i64 k))]) (fun k w' => k ≤ l.length ∧ (∀ j (h : j < l.length), j < k → l[j] = m[j]) ∧ Ext w w') (fun k => l.length - k) 0 (by simp [SubB, fnd]) ⟨by omega, by simp, Ext.refl _⟩ ?_
    rintro k w3 ⟨hk, hf, x3⟩
    (repeat with_reducible first | refine js ?_ | refine ja ?_ | refine jw KL20 [6] (aa TF20 (aa hx.s (aa hx.len (aa hy.s hy.len)))) fun _ => ?_)
    refine Run_condS (fun _ => rfl) (fun h => ?_) (fun h => ?_)
    · simp at h
      have hkl := h
      obtain ⟨f1, f2, f3⟩ := (hx.ext x3).get h
      obtain ⟨g1, g2, g3⟩ := (hy.ext x3).get (show k < m.length by omega)
      (repeat with_reducible first | refine js ?_ | refine ja ?_ | refine jw KL20 [6] (aa TF20 (aa hx.s (aa hx.len (aa hy.s (aa hy.len (aa f1 (aa f2 (aa g1 g2)))))))) fun _ => ?_)
      intro w4 x4
      refine Run_condS (fun _ => rfl) (fun h => ?_) (fun h => ?_)
      · (repeat with_reducible first | refine js ?_ | refine ja ?_ | refine jw KL20 [6] TF20 fun _ => ?_)
        refine Run_ret ?_
        have : decide (l = m) = false := by
          simp at h ⊢; intro e; subst e; exact h rfl
        simp [Rets, RetM, resV, fnd, oneOr, this]
        exact x3.trans (by assumption)
      · (repeat with_reducible first | refine js ?_ | refine ja ?_ | refine jw KL20 [6] TF20 fun _ => ?_)
        refine Run_lp ⟨k + 1, ?_, ⟨by omega, fun j hj hjk => ?_, x3.trans (by assumption)⟩, by omega⟩
        · simp [SubB, fnd, strike, has]
        · by_cases e : j = k
          · subst e; simpa using h
          · exact hf j hj (by omega)
    · simp at h
      obtain rfl : k = l.length := by omega
      (repeat with_reducible first | refine js ?_ | refine ja ?_ | refine jw KL20 [6] TF20 fun _ => ?_)
      refine Run_ret ?_
      have : decide (l = m) = true := decide_eq_true (List.ext_getElem hl fun j h1 h2 => hf j h1 h1)
      simp [Rets, RetM, resV, fnd, oneOr, this, x3]
/-- when a run is where -/
def timesT (t : TimeD) (r : RunD) : List Int × Int :=
  if Tt.chk t ≠ 0 then ([], Tt.chk t) else if Tt.isR t r then (sumsL r.At (t.Lines.getD r.Line.toNat default).Legs (t.Lines.getD r.Line.toNat default).Legs.length, 0) else ([], 1)
theorem isR_bd {t : TimeD} {r : RunD} (h : Tt.isR t r = true) : 0 ≤ r.Line ∧ r.Line < t.Lines.length ∧ 0 ≤ r.At ∧ r.At < 2097152 := by
  unfold Tt.isR at h
  rw [Bool.and_eq_true] at h
  simpa using h.1
theorem sums_bd {x : LineD} {n : Int} (hx : Tt.LOk x n) {a : Int} (h0 : 0 ≤ a) (h1 : a < 2097152) : x.Legs.length ≤ 8 ∧ ∀ i, i ≤ x.Legs.length → 0 ≤ Tt.sm (x.Legs.take i) ∧ Tt.sm (x.Legs.take i) ≤ 800000 := by
  have hl9 : x.Legs.length ≤ 8 := by have := hx.l1; have := hx.o9; omega
  have hbd := Tt.sm_bd hx.l
  exact ⟨hl9, fun i hi => by have := hbd i hi; omega⟩
theorem ttTimes (vl : Value) (t : TimeD) (r : RunD) (w : World) (hl : Sl w vl t.Lines) (hr : RunI r) :
    Calls Try.prog 16 #[.agg (t.cs vl).toArray, .agg r.cs.toArray] w fun e w' => ∃ v, e = .returned (.tuple #[v, .int .i64 (timesT t r).2]) ∧ Ext w w' ∧ Sl w' v (timesT t r).1 := by
  have hn := hl.small
  have hlen := hl.len
  refine Calls_of_Run (args := [.agg (t.cs vl).toArray, .agg r.cs.toArray]) (n := 25) (rs := [.tmp 4, .tmp 5]) Try.func16 rfl rfl rfl (by simp) ?_
  (repeat with_reducible first | refine js ?_ | refine ja ?_ | refine jw KL16 [6] TF16 fun _ => ?_)
  refine SemW_box fun p w1 hN => SemW_box fun q w2 hQ => ?_
  have x2 := hN.ext.trans hQ.ext
  have G : ∀ w', Ext w2 w' → AtN w' p 0 (t.cs vl) := fun w' x => (hN.at_.ext (hQ.ext.trans x)).n
  have G' : ∀ w', Ext w2 w' → AtN w' q 0 r.cs := fun w' x => (hQ.at_.ext x).n
  simp only [TimeD.cs, RunD.cs, AtN, KS, Nat.reduceAdd, Nat.reduceMul, Nat.reduceEqDiff, ↓reduceIte, UT] at G G'
  have g2 := G w2 (Ext.refl _)
  (repeat with_reducible first | refine js ?_ | refine ja ?_ | refine jw KL16 [6] (aa TF16 g2) fun _ => ?_)
  refine chkW rfl (hl.ext x2) fun w3 x3 => ?_
  have y3 := x2.trans x3
  have g3 := G w3 x3
  have k3 := G' w3 x3
  (repeat with_reducible first | refine js ?_ | refine ja ?_ | refine jw KL16 [6] (aa TF16 (aa g3 k3)) fun _ => ?_)
  refine Run_condS (fun _ => rfl) (fun h => ?_) (fun h => ?_)
  · simp at h
    (repeat with_reducible first | refine js ?_ | refine ja ?_ | refine jw KL16 [6] TF16 fun _ => ?_)
    refine Run_ret ?_
    simp [Rets, RetM, resV, fnd, oneOr, timesT, h]
    exact ⟨y3, Sl.nil _⟩
  simp at h
  have hc := h
  have ht := Tt.chk_ok hc
  (repeat with_reducible first | refine js ?_ | refine ja ?_ | refine jw KL16 [6] (aa TF16 (aa g3 k3)) fun _ => ?_)
  refine CallW_pure call39 (ttis vl t r w3 (hl.ext y3) ht hr) fun w4 x4 => ?_
  have y4 := y3.trans x4
  have g4 := G w4 (x3.trans x4)
  have k4 := G' w4 (x3.trans x4)
  (repeat with_reducible first | refine js ?_ | refine ja ?_ | refine jw KL16 [6] TF16 fun _ => ?_)
  refine Run_condS (fun _ => rfl) (fun h => ?_) (fun h => ?_)
  · have hi : Tt.isR t r = false := by simpa using h
    (repeat with_reducible first | refine js ?_ | refine ja ?_ | refine jw KL16 [6] TF16 fun _ => ?_)
    refine Run_ret ?_
    simp [Rets, RetM, resV, fnd, oneOr, timesT, hc, hi]
    exact ⟨y4, Sl.nil _⟩
  have hi : Tt.isR t r = true := by simpa using h
  obtain ⟨i0, i1, i2, i3⟩ := isR_bd hi
  have hlt : r.Line.toNat < t.Lines.length := by omega
  obtain ⟨v0, v1, v2, v3, f1, f2, hR⟩ := (hl.ext y4).line hlt
  have F : ∀ w', Ext w4 w' → AtN w' ((slAt vl).add (r.Line.toNat * 6)) 0 (t.Lines[r.Line.toNat].cs v0 v1 v2 v3) := fun w' x => (f2.ext x).n
  have hgd : t.Lines.getD r.Line.toNat default = t.Lines[r.Line.toNat] := by simp [List.getD_eq_getElem?_getD, hlt]
  have hxo := Tt.right_ok (ht.r _ (List.getElem_mem hlt))
  have hres : timesT t r = (sumsL r.At t.Lines[r.Line.toNat].Legs t.Lines[r.Line.toNat].Legs.length, 0) := by
    unfold timesT; rw [if_neg (by simp [hc]), if_pos hi, hgd]
  generalize t.Lines[r.Line.toNat] = x at *
  obtain ⟨hl9, hbd⟩ := sums_bd hxo i2 i3
  simp only [LineD.cs, AtN, KS, Nat.reduceAdd, Nat.reduceMul, Nat.reduceEqDiff, ↓reduceIte, UT] at f1 F
  (repeat with_reducible first | refine jq ?_ | refine jk ?_ | refine jc ?_ | refine jl ?_ | refine jb ?_ | refine jo ?_ | refine ji ?_ | refine jx rfl ?_)
  refine Run_ep (id := 6) [0, 1, 2, 3, 4, 5, 9, 14] (.first 0 (.first 2 (.first 4 (.alt 1 (.alt 3 (.alt 5 (.first 6 (.first 7 (.alt 8 (.alt 9 (.first 10 (.first 11 .done)) .stop) .stop))) .stop) (.alt 5 (.alt 3 (.first 6 (.first 7 (.alt 8 (.alt 9 (.first 10 (.first 11 .done)) .stop) .stop))) .stop) .stop)) (.alt 3 (.alt 1 (.alt 5 (.first 6 (.first 7 (.alt 8 (.alt 9 (.first 10 (.first 11 .done)) .stop) .stop))) .stop) (.alt 5 (.first 6 (.first 7 (.alt 1 (.alt 8 (.alt 9 (.first 10 (.first 11 .done)) .stop) .stop) (.alt 8 (.alt 1 (.alt 9 (.first 10 (.first 11 .done)) .stop) .stop) .stop)))) .stop)) (.alt 5 (.alt 1 (.alt 3 (.first 6 (.first 7 (.alt 8 (.alt 9 (.first 10 (.first 11 .done)) .stop) .stop))) .stop) (.alt 3 (.first 6 (.first 7 (.alt 1 (.alt 8 (.alt 9 (.first 10 (.first 11 .done)) .stop) .stop) (.alt 8 (.alt 1 (.alt 9 (.first 10 (.first 11 .done)) .stop) .stop) .stop)))) .stop)) .stop)))))) mixed (by kernel_rfl) (by kernel_rfl) fun w5 x5 _ => ?_
  have y5 := y4.trans x5
  have g5 := G w5 (x3.trans (x4.trans x5))
  have k5 := G' w5 (x3.trans (x4.trans x5))
  have F5 := F w5 x5
  (try simp (maxSteps := 5000000) only [KS, Nat.reduceAdd, Nat.reduceMul, Nat.reduceEqDiff, ↓reduceIte, forall_const, Int.cast_ofNat_Int, Int.reduceToNat, List.take_succ_cons, List.take_zero, List.drop_succ_cons, List.drop_zero, TF16, KL16, g5, k5, F5, hl.s, hl.len]); (try simp (disch := omega) only [wrapI, tmodI, tdivI])
  have hS : ∀ {K : Value → World → Prop}, (∀ v w', Ext w5 w' → Sl w' v (sumsL r.At x.Legs x.Legs.length) → K v w') → CallW Try.prog (.func (.func 40) #[] #[]) [.int .i64 r.At, v1] w5 K := fun hK =>
    CallW_gen call40 (ttSums v1 x.Legs r.At w5 (hR.l.ext x5) (by omega) (fun i hi => by have := hbd i hi; unfold I64; omega)) fun e w6 ⟨v', he, x6, b6⟩ => ⟨_, he, hK _ _ x6 (b6.sl (by rw [sumsL_len]; omega))⟩
  repeat' (first | with_reducible refine And.intro ?_ ?_ | omega | with_reducible refine hS fun v6 w6 x6 s6 => ?_)
  all_goals
    refine Run_ret ?_
    simp [Rets, RetM, resV, fnd, oneOr, hres]
    exact ⟨y5.trans x6, s6⟩
theorem isW {vl : Value} {t : TimeD} {r : RunD} {w : World} {K : Value → World → Prop} (hl : Sl w vl t.Lines) (hr : RunI r) (hK : ∀ w', Ext w w' → K (.bool (Tt.isRun t r)) w') : CallW Try.prog (.func (.func 19) #[] #[]) [.agg #[.int .i64 t.Offices, vl], .agg #[.int .i64 r.Line, .int .i64 r.At, .int .i64 r.Arrive]] w K :=
  CallW_pure call19 (rfIs vl t r w hl hr) hK
theorem rfTimes (vl : Value) (t : TimeD) (r : RunD) (w : World) (hl : Sl w vl t.Lines) (hr : RunI r) :
    Calls Try.prog 17 #[.agg (t.cs vl).toArray, .agg r.cs.toArray] w fun e w' => ∃ v, e = .returned (.tuple #[v, .int .i64 (timesT t r).2]) ∧ Ext w w' ∧ Sl w' v (timesT t r).1 := by
  have hn := hl.small
  have hlen := hl.len
  refine Calls_of_Run (args := [.agg (t.cs vl).toArray, .agg r.cs.toArray]) (n := 52) (rs := [.tmp 4, .tmp 5]) Try.func17 rfl rfl rfl (by simp) ?_
  (repeat with_reducible first | refine js ?_ | refine ja ?_ | refine jw KL17 [] TF17 fun _ => ?_)
  refine SemW_box fun p w1 hN => SemW_box fun q w2 hQ => ?_
  have x2 := hN.ext.trans hQ.ext
  have G : ∀ w', Ext w2 w' → AtN w' p 0 (t.cs vl) := fun w' x => (hN.at_.ext (hQ.ext.trans x)).n
  have G' : ∀ w', Ext w2 w' → AtN w' q 0 r.cs := fun w' x => (hQ.at_.ext x).n
  simp only [TimeD.cs, RunD.cs, AtN, KS, Nat.reduceAdd, Nat.reduceMul, Nat.reduceEqDiff, ↓reduceIte, UT] at G G'
  have g2 := G w2 (Ext.refl _)
  (repeat with_reducible first | refine js ?_ | refine ja ?_ | refine jw KL17 [] (aa TF17 g2) fun _ => ?_)
  refine chk20W rfl (hl.ext x2) fun w3 x3 => ?_
  have y3 := x2.trans x3
  have g3 := G w3 x3
  have k3 := G' w3 x3
  (repeat with_reducible first | refine js ?_ | refine ja ?_ | refine jw KL17 [] (aa TF17 (aa g3 k3)) fun _ => ?_)
  refine Run_condS (fun _ => rfl) (fun h => ?_) (fun h => ?_)
  · simp at h
    (repeat with_reducible first | refine js ?_ | refine ja ?_ | refine jw KL17 [] TF17 fun _ => ?_)
    refine Run_ret ?_
    simp [Rets, RetM, resV, fnd, oneOr, timesT, h]
    exact ⟨y3, Sl.nil _⟩
  simp at h
  have hc := h
  have ht := Tt.chk_ok hc
  have hir : Tt.isRun t r = Tt.isR t r := by unfold Tt.isRun; rw [decide_eq_true hc, Bool.true_and]
  (repeat with_reducible first | refine js ?_ | refine ja ?_ | refine jw KL17 [] (aa TF17 (aa g3 k3)) fun _ => ?_)
  refine isW (hl.ext y3) hr fun w4 x4 => ?_
  rw [hir]
  have y4 := y3.trans x4
  have g4 := G w4 (x3.trans x4)
  have k4 := G' w4 (x3.trans x4)
  (repeat with_reducible first | refine js ?_ | refine ja ?_ | refine jw KL17 [] TF17 fun _ => ?_)
  refine Run_condS (fun _ => rfl) (fun h => ?_) (fun h => ?_)
  · have hi : Tt.isR t r = false := by simpa using h
    (repeat with_reducible first | refine js ?_ | refine ja ?_ | refine jw KL17 [] TF17 fun _ => ?_)
    refine Run_ret ?_
    simp [Rets, RetM, resV, fnd, oneOr, timesT, hc, hi]
    exact ⟨y4, Sl.nil _⟩
  have hi : Tt.isR t r = true := by simpa using h
  obtain ⟨i0, i1, i2, i3⟩ := isR_bd hi
  have hlt : r.Line.toNat < t.Lines.length := by omega
  obtain ⟨v0, v1, v2, v3, f1, f2, hR⟩ := (hl.ext y4).line hlt
  have F : ∀ w', Ext w4 w' → AtN w' ((slAt vl).add (r.Line.toNat * 6)) 0 (t.Lines[r.Line.toNat].cs v0 v1 v2 v3) := fun w' x => (f2.ext x).n
  have hgd : t.Lines.getD r.Line.toNat default = t.Lines[r.Line.toNat] := by simp [List.getD_eq_getElem?_getD, hlt]
  have hxo := Tt.right_ok (ht.r _ (List.getElem_mem hlt))
  have hres : timesT t r = (sumsL r.At t.Lines[r.Line.toNat].Legs t.Lines[r.Line.toNat].Legs.length, 0) := by
    unfold timesT; rw [if_neg (by simp [hc]), if_pos hi, hgd]
  generalize t.Lines[r.Line.toNat] = x at *
  obtain ⟨hl9, hbd⟩ := sums_bd hxo i2 i3
  simp only [LineD.cs, AtN, KS, Nat.reduceAdd, Nat.reduceMul, Nat.reduceEqDiff, ↓reduceIte, UT] at f1 F
  (repeat with_reducible first | refine js ?_ | refine ja ?_ | refine jw KL17 [] (aa TF17 k4) fun _ => ?_)
  refine SemW_buildF (α := Int) (W := w4) Try.underlying35 ti3 rfl (by decide) (Ext.refl _) [.int .i64 r.At] [r.At] rfl rfl (Cs.one ⟨rfl, hr.2.1⟩) (by simp [Enc.n]) fun po w5 b5 s5 x5 => ?_
  have b50 := b5
  (repeat with_reducible first | refine js ?_ | refine ja ?_ | refine jw KL17 [] TF17 fun _ => ?_)
  refine Run_loopV [7, 8, 30] (σ := Nat × Value) (fun s => [(8, some (.int .i64 s.1)), (7, some s.2)]) (fun s w' => s.1 ≤ x.Legs.length ∧ BufL (α := Int) 3 w4 w' s.2 (sumsL r.At x.Legs s.1)) (fun s => x.Legs.length - s.1) (0, .slice (some po) 1 1) (by simp [SubB, fnd]) ⟨by simp, by simpa [sumsL, Tt.sm, List.range, List.range.loop] using b50⟩ ?_
  rintro ⟨k, vo⟩ w6 ⟨hk, b6⟩
  simp only at hk b6
  have x6 := b6.ext0
  have g6 := G w6 (x3.trans (x4.trans x6))
  have k6 := G' w6 (x3.trans (x4.trans x6))
  have F6 := F w6 x6
  (repeat with_reducible first | refine js ?_ | refine ja ?_ | refine jw KL17 [] (aa TF17 (aa g6 (aa k6 (aa F6 (aa hl.s (aa hl.len (aa hR.l.s hR.l.len))))))) fun _ => ?_)
  refine Run_condS (fun _ => rfl) (fun h => ?_) (fun h => ?_)
  · simp at h
    have hkl : k < x.Legs.length := by omega
    obtain ⟨f1', f2', f3'⟩ := (hR.l.ext x6).get hkl
    have hI0 := hbd k hk
    have hI1 := hbd (k + 1) hkl
    rw [Tt.sm_take x.Legs k hkl] at hI1
    have s6 := b6.sl (by rw [sumsL_len]; omega)
    have hls := s6.len
    rw [sumsL_len] at hls
    obtain ⟨g1, g2', g3'⟩ := s6.get (i := k) (by rw [sumsL_len]; omega)
    have e0 : (sumsL r.At x.Legs k)[k]'(by rw [sumsL_len]; omega) = r.At + Tt.sm (x.Legs.take k) := by simp [sumsL]
    rw [e0] at g1
    have e1 : r.At + Tt.sm (x.Legs.take k) + x.Legs[k] = r.At + Tt.sm (x.Legs.take (k + 1)) := by rw [Tt.sm_take x.Legs k hkl]; omega
    (repeat with_reducible first | refine jq ?_ | refine jk ?_ | refine jc ?_ | refine jl ?_ | refine jb ?_ | refine jo ?_ | refine ji ?_ | refine jx rfl ?_)
    refine Run_ep (id := 10) [0, 1, 2, 3, 4, 5, 6, 7, 8, 12, 17, 30] (.first 0 (.first 1 (.first 2 (.first 3 (.first 5 (.first 7 (.first 12 (.alt 4 (.alt 6 (.alt 8 (.first 9 (.first 10 (.alt 11 (.first 13 (.alt 14 (.first 15 (.alt 16 (.alt 17 (.first 18 .done) .stop) .stop)) .stop)) .stop))) .stop) (.alt 8 (.alt 6 (.first 9 (.first 10 (.alt 11 (.first 13 (.alt 14 (.first 15 (.alt 16 (.alt 17 (.first 18 .done) .stop) .stop)) .stop)) .stop))) .stop) .stop)) (.alt 6 (.alt 4 (.alt 8 (.first 9 (.first 10 (.alt 11 (.first 13 (.alt 14 (.first 15 (.alt 16 (.alt 17 (.first 18 .done) .stop) .stop)) .stop)) .stop))) .stop) (.alt 8 (.first 9 (.first 10 (.alt 4 (.alt 11 (.first 13 (.alt 14 (.first 15 (.alt 16 (.alt 17 (.first 18 .done) .stop) .stop)) .stop)) .stop) (.alt 11 (.first 13 (.alt 4 (.alt 14 (.first 15 (.alt 16 (.alt 17 (.first 18 .done) .stop) .stop)) .stop) (.alt 14 (.alt 4 (.first 15 (.alt 16 (.alt 17 (.first 18 .done) .stop) .stop)) .stop) .stop))) .stop)))) .stop)) (.alt 8 (.alt 4 (.alt 6 (.first 9 (.first 10 (.alt 11 (.first 13 (.alt 14 (.first 15 (.alt 16 (.alt 17 (.first 18 .done) .stop) .stop)) .stop)) .stop))) .stop) (.alt 6 (.first 9 (.first 10 (.alt 4 (.alt 11 (.first 13 (.alt 14 (.first 15 (.alt 16 (.alt 17 (.first 18 .done) .stop) .stop)) .stop)) .stop) (.alt 11 (.first 13 (.alt 4 (.alt 14 (.first 15 (.alt 16 (.alt 17 (.first 18 .done) .stop) .stop)) .stop) (.alt 14 (.alt 4 (.first 15 (.alt 16 (.alt 17 (.first 18 .done) .stop) .stop)) .stop) .stop))) .stop)))) .stop)) .stop)))))))))) mixed (by kernel_rfl) (by kernel_rfl) fun w7 x7 _ => ?_
    have b7 := b6.ext x7
    have s7 := s6.ext x7
    have g7 := G w7 (x3.trans (x4.trans (x6.trans x7)))
    have k7 := G' w7 (x3.trans (x4.trans (x6.trans x7)))
    have F7 := F w7 (x6.trans x7)
    obtain ⟨f1', f2', f3'⟩ := (hR.l.ext (x6.trans x7)).get hkl
    obtain ⟨g1, g2', g3'⟩ := s7.get (i := k) (by rw [sumsL_len]; omega)
    rw [e0] at g1
    have hP : ∀ {K : Value → Value → World → Prop}, (∀ s v' w', BufL (α := Int) 3 w4 w' v' (sumsL r.At x.Legs (k + 1)) → K s v' w') → SemW Try.prog (Instr.buildSlice 35 1 #[(0, .int .i64 (r.At + Tt.sm (x.Legs.take (k + 1))))]) w7 fun s w1 => SemW Try.prog (Builtin.append_ #[35, 35] 35 #[vo, s]) w1 (K s) := fun hK =>
      SemW_append1F (α := Int) (X := .int .i64 (r.At + Tt.sm (x.Legs.take (k + 1)))) (x := r.At + Tt.sm (x.Legs.take (k + 1))) Try.underlying35 ti3 rfl (by decide) b7 ⟨rfl, by rw [Tt.sm_take x.Legs k hkl]; unfold I64; omega⟩ (by simp [maxLen, sumsL_len]; omega) fun s v' w8 b8 _ _ _ => hK s v' w8 (by rw [← sumsL_succ] at b8; exact b8)
    have hw : IntKind.i64.wrap (r.At + Tt.sm (x.Legs.take k) + x.Legs[k]) = r.At + Tt.sm (x.Legs.take (k + 1)) := by rw [e1, wrapI (by rw [← e1]; omega) (by rw [← e1]; omega)]
    (try simp (maxSteps := 5000000) only [KS, Nat.reduceAdd, Nat.reduceMul, Nat.reduceEqDiff, ↓reduceIte, forall_const, Int.cast_ofNat_Int, Int.reduceToNat, List.take_succ_cons, List.take_zero, List.drop_succ_cons, List.drop_zero, TF17, KL17, g7, k7, F7, hl.s, hl.len, hR.l.s, hR.l.len, f1', f2', g1, g2', s6.s, hls, hw]); (try simp (disch := omega) only [wrapI, tmodI, tdivI])
    repeat' (first | with_reducible refine And.intro ?_ ?_ | omega | with_reducible refine hP fun s v' w8 b8 => ?_)
    all_goals
      (repeat with_reducible first | refine js ?_ | refine ja ?_ | refine jw KL17 [] TF17 fun _ => ?_)
      refine Run_lp ⟨(k + 1, v'), ?_, ⟨by simp only; omega, b8⟩, by simp only; omega⟩
      simp [SubB, fnd, strike, has]
  · simp at h
    obtain rfl : k = x.Legs.length := by omega
    (repeat with_reducible first | refine js ?_ | refine ja ?_ | refine jw KL17 [] TF17 fun _ => ?_)
    refine Run_ret ?_
    simp [Rets, RetM, resV, fnd, oneOr, hres]
    exact ⟨y4.trans x6, b6.sl (by rw [sumsL_len]; omega)⟩
end Go.Proofs.Ytpiijpgfgcbfaaa
