/- Chapter 20: TimetableParts, TimetableLines. -/
import Derived.Test.YtpiijpgfgcbfaaaW20w
set_option linter.unusedSimpArgs false
set_option linter.unusedVariables false
set_option maxRecDepth 100000
namespace Go.Fk
open Go
namespace Tt
theorem anyErr_ex {a b : Int} : ∀ {l : List LineD}, anyErr a b l = true ↔ ∃ x ∈ l, (Cal.moments x.Rules x.Off a b).2 ≠ 0
  | [] => by simp [anyErr]
  | x :: l => by simp [anyErr, anyErr_ex (l := l)]
theorem mom_err {rules : List Rule} {off : List Gap} {a b : Int} (hc : Cal.chk rules off = 0) (h : ¬ (a < 0 ∨ b < a ∨ 2097152 < b)) : (Cal.moments rules off a b).2 ≠ 0 ↔ 2000 < (Cal.deps rules off a b).length := by
  unfold Cal.moments
  rw [if_neg (by simp [hc]), if_neg h]
  split <;> simp <;> omega
theorem deps_le {rules : List Rule} {off : List Gap} {a b c d : Int} (h1 : a ≤ b) (h2 : b ≤ c) (h3 : c ≤ d) : (Cal.deps rules off b c).length ≤ (Cal.deps rules off a d).length := by
  rw [Cal.deps_append h1 (Int.le_trans h2 h3), Cal.deps_append h2 h3, List.length_append, List.length_append]; omega
theorem all_le {a b c d : Int} (h1 : a ≤ b) (h2 : b ≤ c) (h3 : c ≤ d) (l : List LineD) : (allRuns b c 0 l).length ≤ (allRuns a d 0 l).length := by
  have e1 := (all_append h1 (Int.le_trans h2 h3) l 0).length_eq
  have e2 := (all_append h2 h3 l 0).length_eq
  simp only [List.length_append] at e1 e2; omega
theorem runs_eq {t : TimeD} {a b : Int} (hc : chk t = 0) (h : ¬ (a < 0 ∨ b < a ∨ 2097152 < b)) : runs t a b = if anyErr a b t.Lines then ([], 2) else if 2000 < (allRuns a b 0 t.Lines).length then ([], 2) else (sortR (allRuns a b 0 t.Lines), 0) := by
  unfold runs; rw [if_neg (by simp [hc]), if_neg h]
theorem runs_err {t : TimeD} {a b : Int} (hc : chk t = 0) (h : ¬ (a < 0 ∨ b < a ∨ 2097152 < b)) (h0 : (runs t a b).2 ≠ 0) : runs t a b = ([], 2) := by
  rw [runs_eq hc h] at h0 ⊢
  split
  · rfl
  · rename_i h1; rw [if_neg h1] at h0
    split
    · rfl
    · rename_i h2; rw [if_neg h2] at h0; exact (h0 rfl).elim
theorem runs_ok {t : TimeD} {a b : Int} (hc : chk t = 0) (h : ¬ (a < 0 ∨ b < a ∨ 2097152 < b)) (h0 : (runs t a b).2 = 0) : runs t a b = (sortR (allRuns a b 0 t.Lines), 0) ∧ (∀ x ∈ t.Lines, (Cal.deps x.Rules x.Off a b).length ≤ 2000) ∧ (allRuns a b 0 t.Lines).length ≤ 2000 := by
  have ht := chk_ok hc
  rw [runs_eq hc h] at h0 ⊢
  split
  · rename_i h1; rw [if_pos h1] at h0; cases h0
  · rename_i h1; rw [if_neg h1] at h0
    split
    · rename_i h2; rw [if_pos h2] at h0; cases h0
    · rename_i h2
      refine ⟨rfl, fun x hx => ?_, by omega⟩
      by_cases h3 : 2000 < (Cal.deps x.Rules x.Off a b).length
      · exact (h1 (anyErr_ex.2 ⟨x, hx, (mom_err (ht.c x hx) h).2 h3⟩)).elim
      · omega
theorem runs_of {t : TimeD} {a b : Int} (hc : chk t = 0) (h : ¬ (a < 0 ∨ b < a ∨ 2097152 < b)) (h1 : ∀ x ∈ t.Lines, (Cal.deps x.Rules x.Off a b).length ≤ 2000) (h2 : (allRuns a b 0 t.Lines).length ≤ 2000) : runs t a b = (sortR (allRuns a b 0 t.Lines), 0) := by
  have ht := chk_ok hc
  rw [runs_eq hc h, if_neg, if_neg (by omega)]
  rw [anyErr_ex]
  rintro ⟨x, hx, h3⟩
  have := (mom_err (ht.c x hx) h).1 h3
  have := h1 x hx
  omega
theorem runs_parts {t : TimeD} {a b c : Int} (hc : chk t = 0) (h0 : 0 ≤ a) (h1 : a ≤ b) (h2 : b ≤ c) (h3 : c ≤ 2097152) (hg : (runs t a c).2 = 0) : runs t a b = (sortR (allRuns a b 0 t.Lines), 0) ∧ runs t b c = (sortR (allRuns b c 0 t.Lines), 0) ∧ runs t a c = (sortR (allRuns a b 0 t.Lines) ++ sortR (allRuns b c 0 t.Lines), 0) := by
  obtain ⟨e, hx, hl⟩ := runs_ok hc (by omega) hg
  refine ⟨runs_of hc (by omega) (fun x h => ?_) ?_, runs_of hc (by omega) (fun x h => ?_) ?_, ?_⟩
  · exact Nat.le_trans (deps_le (Int.le_refl _) h1 h2) (hx x h)
  · exact Nat.le_trans (all_le (Int.le_refl _) h1 h2 _) hl
  · exact Nat.le_trans (deps_le h1 h2 (Int.le_refl _)) (hx x h)
  · exact Nat.le_trans (all_le h1 h2 (Int.le_refl _) _) hl
  · rw [e, sort_parts h1 h2]
/-- what is said of each run of a period -/
theorem runs_each {t : TimeD} {a c : Int} (hc : chk t = 0) (h0 : 0 ≤ a) (h2 : a ≤ c) (h3 : c ≤ 2097152) {k : Nat} (hk : k < (sortR (allRuns a c 0 t.Lines)).length) :
    isRun t (sortR (allRuns a c 0 t.Lines))[k] = true ∧ a ≤ (sortR (allRuns a c 0 t.Lines))[k].At ∧ (sortR (allRuns a c 0 t.Lines))[k].At < c ∧ ∀ j (h : j < k), before (sortR (allRuns a c 0 t.Lines))[j] (sortR (allRuns a c 0 t.Lines))[k] = true := by
  have hm := (sortR_perm (allRuns a c 0 t.Lines)).mem_iff.1 (List.getElem_mem hk)
  have h5 := (mem_isR h0 h2 h3).1 hm
  refine ⟨by unfold isRun; rw [decide_eq_true hc, h5.1]; rfl, h5.2.1, h5.2.2, fun j h => ?_⟩
  exact List.pairwise_iff_getElem.1 (sortR_srt (all_apart a c t.Lines 0)) j k (by omega) hk h
end Tt
end Go.Fk
namespace Go.Proofs.Ytpiijpgfgcbfaaa
open Go Go.Fk
abbrev YesP (e : Ending) : Prop := e = .returned (.bool true)
theorem fewP {vl : Value} {t : TimeD} {a b : Int} {w : World} {K : Value → World → Prop} (hl : Sl w vl t.Lines) (hK : ∀ w', Ext w w' → K (.bool (few20 t a b)) w') : CallW Try.prog (.func (.func 10) #[] #[]) [.agg #[.int .i64 t.Offices, vl], .int .i64 a, .int .i64 b] w K :=
  CallW_pure call10 (rfFew20 vl t a b w hl) hK
theorem lawParts20 (vl : Value) (t : TimeD) (a b c : Int) (w : World) (hl : Sl w vl t.Lines) :
    Calls Try.prog 5 #[.agg (t.cs vl).toArray, .int .i64 a, .int .i64 b, .int .i64 c] w fun e w' => YesP e ∧ Ext w w' := by
  refine Calls_of_Run (args := [.agg (t.cs vl).toArray, .int .i64 a, .int .i64 b, .int .i64 c]) (n := 131) (rs := [.tmp 8]) Try.func5 rfl rfl rfl (by simp) ?_
  (repeat with_reducible first | refine js ?_ | refine ja ?_ | refine jw KL5 [15] TF5 fun _ => ?_)
  refine SemW_box fun p w1 hN => ?_
  have x1 := hN.ext
  have G : ∀ w', Ext w1 w' → AtN w' p 0 (t.cs vl) := fun w' x => (hN.at_.ext x).n
  simp only [TimeD.cs, AtN, KS, Nat.reduceAdd, Nat.reduceMul, Nat.reduceEqDiff, ↓reduceIte, UT] at G
  (repeat with_reducible first | refine js ?_ | refine ja ?_ | refine jw KL5 [15] TF5 fun _ => ?_)
  refine sane20W fun w2 x2 => ?_
  have y2 := x1.trans x2
  have g2 := G w2 x2
  (repeat with_reducible first | refine js ?_ | refine ja ?_ | refine jw KL5 [15] TF5 fun _ => ?_)
  refine Run_condS (fun _ => rfl) (fun h => by cases h) (fun _ => ?_)
  (repeat with_reducible first | refine js ?_ | refine ja ?_ | refine jw KL5 [15] (aa TF5 g2) fun _ => ?_)
  refine fewP (hl.ext y2) fun w3 x3 => ?_
  have y3 := y2.trans x3
  have g3 := G w3 (x2.trans x3)
  generalize few20 t a c = fw
  (repeat with_reducible first | refine js ?_ | refine ja ?_ | refine jw KL5 [15] (aa TF5 (aa g3 KX)) fun _ => ?_)
  refine .inr ⟨.int .i64 (Tt.chk t), fun _ => PC_pure call14 fun w4 x4 => rfCheck20 vl t w4 (hl.ext (y3.trans x4)), fun w4 x4 => ?_⟩
  unfold hush
  have y4 := y3.trans x4
  have z4 := x2.trans (x3.trans x4)
  have g4 := G w4 z4
  (repeat with_reducible first | refine js ?_ | refine ja ?_ | refine jw KL5 [15] (aa TF5 (aa g3 KX)) fun _ => ?_)
  refine Run_condS (fun _ => rfl) (fun h => ?_) (fun h => ?_)
  · (repeat with_reducible first | refine js ?_ | refine ja ?_ | refine jw KL5 [15] TF5 fun _ => ?_)
    refine Run_ret ?_
    simp [Rets, RetM, resV, fnd, oneOr, y4]
  simp at h
  obtain ⟨⟨⟨⟨⟨hfw, hc⟩, h0⟩, h1⟩, h2⟩, h3⟩ := h
  subst hfw
  have hp : ¬ (a < 0 ∨ c < a ∨ 2097152 < c) := by omega
  (repeat with_reducible first | refine js ?_ | refine ja ?_ | refine jw KL5 [15] (aa TF5 g4) fun _ => ?_)
  refine runsW rfl (hl.ext y4) fun va w5 x5 sa => ?_
  have y5 := y4.trans x5
  have z5 := z4.trans x5
  have g5 := G w5 z5
  (repeat with_reducible first | refine js ?_ | refine ja ?_ | refine jw KL5 [15] (aa TF5 g5) fun _ => ?_)
  refine runsW rfl (hl.ext y5) fun vb w6 x6 sb => ?_
  have y6 := y5.trans x6
  have z6 := z5.trans x6
  have g6 := G w6 z6
  (repeat with_reducible first | refine js ?_ | refine ja ?_ | refine jw KL5 [15] (aa TF5 g6) fun _ => ?_)
  refine runsW rfl (hl.ext y6) fun vc w7 x7 sc => ?_
  have y7 := y6.trans x7
  have z7 := z6.trans x7
  (repeat with_reducible first | refine js ?_ | refine ja ?_ | refine jw KL5 [15] TF5 fun _ => ?_)
  refine Run_condS (fun _ => rfl) (fun h => ?_) (fun h => ?_)
  · have hg : (Tt.runs t a c).2 ≠ 0 := by simpa using h
    have he := Tt.runs_err hc hp hg
    rw [he] at sc
    simp only at sc
    have hlen := sc.len
    rw [he]
    (repeat with_reducible first | refine js ?_ | refine ja ?_ | refine jw KL5 [15] (aa TF5 (aa sc.s (aa hlen KX))) fun _ => ?_)
    refine Run_ret ?_
    simp [Rets, RetM, resV, fnd, oneOr, y7]
  have hg : (Tt.runs t a c).2 = 0 := by simpa using h
  obtain ⟨e1, e2, e3⟩ := Tt.runs_parts hc (by omega) (by omega) (by omega) (by omega) hg
  obtain ⟨e4, _, hL⟩ := Tt.runs_ok hc hp hg
  rw [e1] at sa
  rw [e2] at sb
  rw [e4] at sc
  rw [e4] at e3
  replace e3 : Tt.sortR (Tt.allRuns a c 0 t.Lines) = Tt.sortR (Tt.allRuns a b 0 t.Lines) ++ Tt.sortR (Tt.allRuns b c 0 t.Lines) := congrArg Prod.fst e3
  simp only at sa sb sc
  rw [e1, e2]
  (repeat with_reducible first | refine js ?_ | refine ja ?_ | refine jw KL5 [15] (aa TF5 KX) fun _ => ?_)
  have la : (Tt.sortR (Tt.allRuns a b 0 t.Lines)).length ≤ 2000 := by
    have := congrArg List.length e3
    rw [List.length_append, (Tt.sortR_perm (Tt.allRuns a c 0 t.Lines)).length_eq] at this
    omega
  have lb : (Tt.sortR (Tt.allRuns b c 0 t.Lines)).length ≤ 2000 := by
    have := congrArg List.length e3
    rw [List.length_append, (Tt.sortR_perm (Tt.allRuns a c 0 t.Lines)).length_eq] at this
    omega
  have hEach : ∃ C : List RunD, C = Tt.sortR (Tt.allRuns a c 0 t.Lines) ∧ ∀ k (hk : k < C.length), Tt.isRun t C[k] = true ∧ a ≤ C[k].At ∧ C[k].At < c ∧ ∀ j (h : j < k), Tt.before C[j] C[k] = true :=
    ⟨_, rfl, fun k hk => Tt.runs_each (t := t) (a := a) (c := c) hc (by omega) (by omega) (by omega) hk⟩
  obtain ⟨C, hC, hEach⟩ := hEach
  rw [← hC] at sc e3 e4
  have lC : C.length ≤ 2000 := by rw [hC, (Tt.sortR_perm (Tt.allRuns a c 0 t.Lines)).length_eq]; exact hL
  clear hC
  generalize Tt.sortR (Tt.allRuns a b 0 t.Lines) = A at *
  generalize Tt.sortR (Tt.allRuns b c 0 t.Lines) = B at *
  refine .inl ⟨by decide, ?_⟩
  refine SemW_buildF (α := RunD) (W := w7) Try.underlying27 ti34 rfl (by decide) (Ext.refl _) [] [] rfl rfl (Cs.nil _) (by simp) fun po w8 b8 s8 x8 => ?_
  unfold hush
  (repeat with_reducible first | refine js ?_ | refine ja ?_ | refine jw KL5 [15] (aa TF5 KX) fun _ => ?_)
  refine .inl ⟨by decide, ?_⟩
  refine SemW_appendF (α := RunD) Try.underlying27 ti34 rfl (by decide) b8 (sa.ext (x6.trans (x7.trans x8))) (by simp [maxLen]; omega) fun v9 w9 b9 _ x9 => ?_
  unfold hush
  (repeat with_reducible first | refine js ?_ | refine ja ?_ | refine jw KL5 [15] (aa TF5 KX) fun _ => ?_)
  refine .inl ⟨by decide, ?_⟩
  refine SemW_appendF (α := RunD) Try.underlying27 ti34 rfl (by decide) b9 (sb.ext (x7.trans x9)) (by simp [maxLen]; omega) fun v10 w10 b10 _ x10 => ?_
  unfold hush
  (repeat with_reducible first | refine js ?_ | refine ja ?_ | refine jw KL5 [15] (aa TF5 KX) fun _ => ?_)
  refine .inl (.inl ⟨by decide, ?_⟩)
  refine same20W (b := true) (by rw [decide_eq_true_eq, e3, List.nil_append]) (sc.ext x10) (b10.sl (by simp; omega)) fun w11 x11 => ?_
  unfold hush
  (repeat with_reducible first | refine js ?_ | refine ja ?_ | refine jw KL5 [15] (aa TF5 KX) fun _ => ?_)
  refine Run_condS (fun _ => rfl) (fun h => by simp at h) (fun _ => ?_)
  have y11 := y7.trans (x10.trans x11)
  have z11 := z7.trans (x10.trans x11)
  have sc11 := sc.ext (x10.trans x11)
  (repeat with_reducible first | refine js ?_ | refine ja ?_ | refine jw KL5 [15] (aa TF5 (aa sc.s sc.len)) fun _ => ?_)
  refine Run_loopV [8, 15, 16, 95, 96, 129] (σ := Nat) (fun k => [(95, some (.int .i64 k))]) (fun k w' => k ≤ C.length ∧ Ext w11 w') (fun k => C.length - k) 0 (by simp [SubB, fnd]) ⟨by omega, Ext.refl _⟩ ?_
  rintro k w12 ⟨hk, x12⟩
  (repeat with_reducible first | refine js ?_ | refine ja ?_ | refine jw KL5 [15] TF5 fun _ => ?_)
  refine Run_condS (fun _ => rfl) (fun h => ?_) (fun h => ?_)
  · simp at h
    have hkl := h
    have sc12 := sc11.ext x12
    obtain ⟨f1, f2⟩ := sc12.runD hkl
    obtain ⟨q1, q2, q3, q4⟩ := hEach k hkl
    simp only [RunD.cs, AtN, KS, Nat.reduceAdd, Nat.reduceMul, Nat.reduceEqDiff, ↓reduceIte, UT] at f1
    (repeat with_reducible first | refine js ?_ | refine ja ?_ | refine jw KL5 [15] (aa TF5 (aa sc.s (aa sc.len f1))) fun _ => ?_)
    refine SemW_var ti34 rfl rfl (by decide) rfl fun pr w13 h13 => ?_
    have x13 := h13.ext
    have r13 := h13.at_.n
    simp only [Value.cells, List.toList_toArray, AtN, KS, Nat.reduceAdd, Nat.reduceMul, Nat.reduceEqDiff, ↓reduceIte, UT] at r13
    have g13 := G w13 (z11.trans (x12.trans x13))
    (repeat with_reducible first | refine jq ?_ | refine jk ?_ | refine jc ?_ | refine jl ?_ | refine jb ?_ | refine jo ?_ | refine ji ?_ | refine jx rfl ?_)
    refine Run_cutV [129] (σ := Unit) (fun _ => [(129, some (.bool false))]) (fun _ w' => Ext w13 w') ?_ ?_
    · have n1 : decide (C[k].At < a) = false := by simp; omega
      have n2 : decide (c ≤ C[k].At) = false := by simp; omega
      by_cases hk0 : 0 < k
      · obtain ⟨f1', f2'⟩ := (sc12.ext x13).runD (i := k - 1) (by omega)
        simp only [RunD.cs, AtN, KS, Nat.reduceAdd, Nat.reduceMul, Nat.reduceEqDiff, ↓reduceIte, UT] at f1'
        have hd : decide ((0 : Int) < k) = true := by simp; omega
        have hwk : IntKind.i64.wrap ((k : Int) - 1) = ((k - 1 : Nat) : Int) := by
          rw [wrapI (by omega) (by omega)]; omega
        (repeat with_reducible first | refine js ?_ | refine ja ?_ | refine jw KL5 [15] (aa TF5 (aa sc.s (aa sc.len (aa f1' (aa r13 (aa g13 (aa hd (aa hwk (aa n1 (aa n2 KX)))))))))) fun _ => ?_)
        refine ⟨.bool true, PC_pure call21 fun w14 x14 => ?_, by simp, .bool true, fun _ => PC_pure call18 fun w14 x14 => ?_, fun _ => by simp, fun w14 x14 => ?_⟩
        · have := rfBefore C[k - 1] C[k] w14
          rwa [q4 (k - 1) (by omega)] at this
        · have := ttIs vl t C[k] w14 (hl.ext (y11.trans (x12.trans (x13.trans x14)))) f2
          rwa [q1] at this
        refine Run_lp ⟨(), ?_, x14⟩
        simp [SubB, fnd, strike, has]
      · have hd : decide ((0 : Int) < k) = false := by simp; omega
        (repeat with_reducible first | refine js ?_ | refine ja ?_ | refine jw KL5 [15] (aa TF5 (aa sc.s (aa sc.len (aa r13 (aa g13 (aa hd (aa n1 (aa n2 KX)))))))) fun _ => ?_)
        refine ⟨undef, .bool true, PC_pure call18 fun w14 x14 => ?_, by simp, fun w14 x14 => ?_⟩
        · have := ttIs vl t C[k] w14 (hl.ext (y11.trans (x12.trans (x13.trans x14)))) f2
          rwa [q1] at this
        refine Run_lp ⟨(), ?_, x14⟩
        simp [SubB, fnd, strike, has]
    rintro _ w14 x14
    (repeat with_reducible first | refine js ?_ | refine ja ?_ | refine jw KL5 [15] TF5 fun _ => ?_)
    refine Run_condS (fun _ => rfl) (fun h => by cases h) (fun _ => ?_)
    (repeat with_reducible first | refine js ?_ | refine ja ?_ | refine jw KL5 [15] TF5 fun _ => ?_)
    refine Run_lp ⟨k + 1, ?_, ⟨by omega, x12.trans (x13.trans x14)⟩, by omega⟩
    simp [SubB, fnd, strike, has]
  · simp at h
    obtain rfl : k = C.length := by omega
    (repeat with_reducible first | refine js ?_ | refine ja ?_ | refine jw KL5 [15] TF5 fun _ => ?_)
    refine Run_ret ?_
    simp [Rets, RetM, resV, fnd, oneOr]
    exact y11.trans x12
end Go.Proofs.Ytpiijpgfgcbfaaa
