import Derived.Test.YtldjfebokojmfaaGreatRgW20x
import Derived.Test.YtldjfebokojmfaaGreatRgGs
import Derived.Test.YtldjfebokojmfaaGreatRgGb
import Derived.Test.YtldjfebokojmfaaGreatRgGe
import Derived.Test.YtldjfebokojmfaaGreatRgW20s
set_option linter.unusedSimpArgs false
set_option linter.unusedVariables false
set_option maxRecDepth 100000
namespace Go.Proofs.YtldjfebokojmfaaGreat
open Go Go.Fk
theorem rfInsertO (v : Value) (l : List RunD) (r : RunD) (w : World) (hl : Sl w v l) (hr : RunI r) (hn : l.length ≤ 1000000) :
    Calls Tryz.prog 73 #[v, .agg r.cs.toArray] w fun e w' => ∃ v', e = .returned v' ∧ Ext w w' ∧ BufO (α := RunD) 34 w.heap.size w' v' (Tt.insR r l) := by
  have hlen := hl.len
  refine Calls_of_Run (args := [v, .agg r.cs.toArray]) (n := 34) (rs := [.tmp 4]) Tryz.func73 rfl rfl rfl (by simp) ?_
  (repeat with_reducible first | refine jy ?_ | refine jw KL73 [2] TF73 fun _ => ?_)
  refine SemW_box fun p w1 hN => ?_
  have x1 := hN.ext
  have G : ∀ w', Ext w1 w' → AtN w' p 0 r.cs := fun w' x => (hN.at_.ext x).n
  simp only [RunD.cs, AtN, KS, Nat.reduceAdd, Nat.reduceMul, Nat.reduceEqDiff, ↓reduceIte, UT] at G
  (repeat with_reducible first | refine jy ?_ | refine jw KL73 [2] TF73 fun _ => ?_)
  refine Run_loopV [5, 18] (σ := Nat) (fun k => [(5, some (.int .i64 k))]) (fun k w' => k ≤ l.length ∧ (∀ j (h : j < l.length), j < k → Tt.before l[j] r = true) ∧ Ext w1 w') (fun k => l.length - k) 0 (by simp [SubB, fnd]) ⟨by omega, by simp, Ext.refl _⟩ ?_
  rintro k w2 ⟨hk, hf, x2⟩
  have y2 := x1.trans x2
  (repeat with_reducible refine js ?_)
  refine Run_cutV [18] (σ := Bool) (fun b => [(18, some (.bool b))]) (fun b w' => Ext w2 w' ∧ (b = true → ∃ h : k < l.length, Tt.before l[k] r = true) ∧ (b = false → ∀ h : k < l.length, Tt.before l[k] r = false)) ?_ ?_
  · by_cases hkl : k < l.length
    · obtain ⟨f1, f2⟩ := (hl.ext y2).runD hkl
      simp only [RunD.cs, AtN, KS, Nat.reduceAdd, Nat.reduceMul, Nat.reduceEqDiff, ↓reduceIte, UT] at f1
      have g2 := G w2 x2
      have hd : decide ((k : Int) < l.length) = true := by simp; omega
      (repeat with_reducible first | refine jy ?_ | refine jw KL73 [2] (aa TF73 (aa hl.s (aa hl.len (aa f1 (aa g2 (aa hd KX)))))) fun _ => ?_)
      refine ⟨.bool (Tt.before l[k] r), PC_pure call108 fun w3 x3 => rfBefore l[k] r w3, fun w3 x3 => ?_⟩
      refine Run_lp ⟨Tt.before l[k] r, ?_, x3, (fun h => ⟨hkl, h⟩), (fun h _ => h)⟩
      simp [SubB, fnd, strike, has]
    · have hd : decide ((k : Int) < l.length) = false := by simp; omega
      (repeat with_reducible first | refine jy ?_ | refine jw KL73 [2] (aa TF73 (aa hl.s (aa hl.len (aa hd KX)))) fun _ => ?_)
      refine ⟨undef, fun w3 x3 => ?_⟩
      refine Run_lp ⟨false, ?_, x3, (fun h => by cases h), (fun _ h => (hkl h).elim)⟩
      simp [SubB, fnd, strike, has]
  rintro b w3 ⟨x3, hb1, hb2⟩
  have z3 := x2.trans x3
  (repeat with_reducible first | refine jy ?_ | refine jw KL73 [2] TF73 fun _ => ?_)
  refine Run_condS (fun _ => rfl) (fun h => ?_) (fun h => ?_)
  · obtain ⟨hkl, hbf⟩ := hb1 h
    (repeat with_reducible first | refine jy ?_ | refine jw KL73 [2] TF73 fun _ => ?_)
    refine Run_lp ⟨k + 1, ?_, ⟨by omega, fun j hj hjk => ?_, z3⟩, by omega⟩
    · simp [SubB, fnd, strike, has]
    · by_cases e : j = k
      · subst e; exact hbf
      · exact hf j hj (by omega)
  · have hbf := hb2 h
    have hins := Tt.insR_at r l k hk hf hbf
    have hre : ∀ w', Enc.rep w' r.cs r := fun w' => ⟨rfl, hr⟩
    (repeat with_reducible refine js ?_)
    refine Run_cutV [6] (σ := Value) (fun u => [(6, some u)]) (fun u w' => Ext w w' ∧ BufO (α := RunD) 34 w.heap.size w' u (l.take k ++ [r])) ?_ ?_
    · refine Run_ec (id := 4) KL73 (.first 1 (.first 2 (.first 3 (.first 5 (.alt 0 (.alt 4 (.alt 6 (.alt 7 (.first 8 .done) .stop) .stop) (.alt 6 (.alt 4 (.alt 7 (.first 8 .done) .stop) .stop) .stop)) (.alt 6 (.alt 0 (.alt 4 (.alt 7 (.first 8 .done) .stop) .stop) .stop) .stop)))))) mixed (by kernel_rfl) (by kernel_rfl) fun w4 x4 _ => ?_
      have g4 := G w4 (z3.trans x4)
      have y4 := x1.trans (z3.trans x4)
      have s4 := hl.ext y4
      have sA := s4.sub (l := 0) (r := k) (m := slCap v) (by omega) hk (by have := s4.cap; omega) (Nat.le_refl _)
      rw [List.drop_zero] at sA
      have hcap := s4.cap
      have hE : ∀ {w' : World} {K : Value → World → Prop}, Ext w4 w' → (∀ p w'', p.block = w'.heap.size → w''.heap.size = w'.heap.size + 1 → Ext w' w'' → Ext w4 w'' → BufL (α := RunD) 34 w4 w'' (.slice (some p) 0 0) [] → K (.slice (some p) 0 0) w'') → SemW Tryz.prog (Instr.buildSlice 59 0 #[]) w' K := fun hx' hK =>
        SemW_buildSlice (vs := []) Tryz.underlying59 ti34 rfl rfl rfl (by simp) (by simp) fun p w'' hN => hK p w'' hN.blk hN.size hN.ext (hx'.trans hN.ext) (BufL.new (css := []) (xs := ([] : List RunD)) hN hx' (Cs.nil _) (by simp))
      have hO : ∀ {w' : World} {K : Value → World → Prop}, Ext w4 w' → (∀ q w'', q.block = w'.heap.size → w''.heap.size = w'.heap.size + 1 → Ext w' w'' → Ext w4 w'' → Row w'' q 34 r.cs → K (.slice (some q) 1 1) w'') → SemW Tryz.prog (Instr.buildSlice 59 1 #[(0, .agg #[.int .i64 r.Line, .int .i64 r.At, .int .i64 r.Arrive])]) w' K := fun hx' hK =>
        SemW_buildSlice (vs := [.agg r.cs.toArray]) Tryz.underlying59 ti34 rfl rfl rfl (by simp [Value.cells, RunD.cs]) (by simp) fun p w'' hN => hK p w'' hN.blk hN.size hN.ext (hx'.trans hN.ext) (by have := hN.row; simpa [Value.cells] using this)
      have hA : ∀ {p : Addr} {u w' : World} {K : Value → World → Prop}, BufL (α := RunD) 34 w4 u (.slice (some p) 0 0) [] → Ext u w' → (∀ v2 w'', BufL (α := RunD) 34 w4 w'' v2 (l.take k) → Keep (fun b => b ≠ p.block) w' w'' → Ext w4 w'' → K v2 w'') → SemW Tryz.prog (Builtin.append_ #[59, 59] 59 #[.slice (some p) 0 0, slSub 3 v 0 k (slCap v)]) w' K := fun hb hu hK =>
        SemW_appendF (α := RunD) Tryz.underlying59 ti34 rfl (by decide) (hb.ext hu) (sA.ext ((hb.ext hu).ext0)) (by simp [maxLen]; omega) fun v2 w'' hb' hg hx' => hK v2 w'' hb' (Keep.grown hg fun b hb1 hb2 => hb2 (by simpa [Value.ownBlock] using hb1.symm)) hx'
      have hF : ∀ {v2 : Value} {q : Addr} {w' : World} {K : Value → World → Prop}, BufL (α := RunD) 34 w4 w' v2 (l.take k) → Row w' q 34 r.cs → (∀ v4 w'', BufL (α := RunD) 34 w4 w'' v4 (l.take k ++ [r]) → Ext w4 w'' → K v4 w'') → SemW Tryz.prog (Builtin.append_ #[59, 59] 59 #[v2, .slice (some q) 1 1]) w' K := fun hb hq hK =>
        SemW_appendF (α := RunD) (ys := [r]) Tryz.underlying59 ti34 rfl (by decide) hb (Row.sl (css := [r.cs]) (by simpa using hq) (Cs.one (hre _)) (by simp)) (by simp [maxLen]; omega) fun v2 w'' hb' hg hx' => hK v2 w'' hb' hx'
      (try simp (maxSteps := 5000000) only [KS, Nat.reduceAdd, Nat.reduceMul, Nat.reduceEqDiff, ↓reduceIte, forall_const, Int.cast_ofNat_Int, Int.reduceToNat, List.take_succ_cons, List.take_zero, List.drop_succ_cons, List.drop_zero, TF73, KL73, ec, g4, hl.s, hl.len]); (try simp (disch := omega) only [wrapI, tmodI, tdivI])
      refine ⟨⟨by omega, by omega, by omega, fun h => h.elim⟩, Ext.refl _, ?_, ?_⟩
      · refine hE (Ext.refl _) fun p5 w5 b5 z5 x5 y5 hb5 => ⟨y5, ?_, y5, ?_⟩
        · refine hA hb5 (Ext.refl _) fun v2 w6 hb6 k6 y6 => ⟨y6, ?_⟩
          refine hO y6 fun q w7 b7 z7 x7 y7 r7 => ⟨y7, ?_⟩
          refine hF (hb6.ext x7) r7 fun v4 w8 hb8 y8 => ⟨y8, ?_⟩
          refine Run_lp ⟨v4, ?_, y4.trans y8, hb8.o.mono y4.size⟩
          simp [SubB, fnd, strike, has]
        · refine hO y5 fun q w7 b7 z7 x7 y7 r7 => ⟨y7, ?_⟩
          refine hA hb5 x7 fun v2 w6 hb6 k6 y6 => ⟨y6, ?_⟩
          refine hF hb6 (r7.keep k6 (by omega)) fun v4 w8 hb8 y8 => ⟨y8, ?_⟩
          refine Run_lp ⟨v4, ?_, y4.trans y8, hb8.o.mono y4.size⟩
          simp [SubB, fnd, strike, has]
      · refine ⟨Ext.refl _, ?_⟩
        refine hO (Ext.refl _) fun q w7 b7 z7 x7 y7 r7 => ⟨y7, ?_⟩
        refine hE y7 fun p5 w5 b5 z5 x5 y5 hb5 => ⟨y5, ?_⟩
        refine hA hb5 (Ext.refl _) fun v2 w6 hb6 k6 y6 => ⟨y6, ?_⟩
        refine hF hb6 ((r7.ext x5).keep k6 (by omega)) fun v4 w8 hb8 y8 => ⟨y8, ?_⟩
        refine Run_lp ⟨v4, ?_, y4.trans y8, hb8.o.mono y4.size⟩
        simp [SubB, fnd, strike, has]
    rintro u w4 ⟨x4, hb4⟩
    have s4 := hl.ext x4
    have hcap := s4.cap
    have sB := s4.sub (l := k) (r := l.length) (m := slCap v) hk (Nat.le_refl _) (by omega) (Nat.le_refl _)
    rw [List.take_length] at sB
    (repeat with_reducible first | refine jy ?_ | refine jw KL73 [2] (aa TF73 (aa hl.s hl.len)) fun _ => ?_)
    refine ⟨⟨by omega, by omega, fun h => h.elim, fun h => h.elim⟩, ?_⟩
    refine SemW_appendFO (α := RunD) Tryz.underlying59 ti34 rfl (by decide) hb4 x4.size sB (by simp [maxLen]; omega) fun v5 w5 hb5 k5 => ?_
    (repeat with_reducible first | refine jy ?_ | refine jw KL73 [2] TF73 fun _ => ?_)
    refine Run_ret ?_
    simp only [Rets, RetM, resV, fnd, oneOr, ↓reduceIte]
    refine ⟨_, rfl, v5, rfl, Keep.ext x4 (hb4.below k5) fun q hq => hq, ?_⟩
    rw [hins]
    simpa using hb5
theorem insR_len (r : RunD) : ∀ l : List RunD, (Tt.insR r l).length = l.length + 1 := fun l => by rw [(Tt.insR_perm r l).length_eq]; rfl
theorem rfInsert (v : Value) (l : List RunD) (r : RunD) (w : World) (hl : Sl w v l) (hr : RunI r) (hn : l.length ≤ 1000000) :
    Calls Tryz.prog 73 #[v, .agg r.cs.toArray] w fun e w' => ∃ v', e = .returned v' ∧ Ext w w' ∧ Sl w' v' (Tt.insR r l) :=
  (rfInsertO v l r w hl hr hn).mono fun e w' ⟨v', he, x, hb⟩ => ⟨v', he, x, hb.sl (by rw [insR_len]; omega)⟩
end Go.Proofs.YtldjfebokojmfaaGreat
set_option linter.unusedSimpArgs false
set_option linter.unusedVariables false
set_option maxRecDepth 100000
namespace Go.Proofs.YtldjfebokojmfaaGreat
open Go Go.Fk
theorem rfSameInts20 (va vb : Value) (l m : List Int) (w : World) (hx : Sl w va l) (hy : Sl w vb m) : Calls Tryz.prog 26 #[va, vb] w fun e w' => e = .returned (.bool (decide (l = m))) ∧ Ext w w' := by
  have hn := hx.small
  refine Calls_of_Run (args := [va, vb]) (n := 26) (rs := [.tmp 4]) Tryz.func26 rfl rfl rfl (by simp) ?_
  (repeat with_reducible first | refine jy ?_ | refine jw KL26 [6] (aa TF26 (aa hx.s (aa hx.len (aa hy.s hy.len)))) fun _ => ?_)
  refine Run_condS (fun _ => rfl) (fun h => ?_) (fun h => ?_)
  · (repeat with_reducible first | refine jy ?_ | refine jw KL26 [6] TF26 fun _ => ?_)
    refine Run_ret ?_
    simp at h
    have : decide (l = m) = false := by simp; intro e; subst e; omega
    simp [Rets, RetM, resV, fnd, oneOr, this, Ext.refl]
  · simp at h
    have hl : l.length = m.length := by omega
    (repeat with_reducible first | refine jy ?_ | refine jw KL26 [6] TF26 fun _ => ?_)
    refine Run_loopV [4, 5, 14, 25] (σ := Nat) (fun k => [(5, some (.int .i64 k))]) (fun k w' => k ≤ l.length ∧ (∀ j (h : j < l.length), j < k → l[j] = m[j]) ∧ Ext w w') (fun k => l.length - k) 0 (by simp [SubB, fnd]) ⟨by omega, by simp, Ext.refl _⟩ ?_
    rintro k w3 ⟨hk, hf, x3⟩
    (repeat with_reducible first | refine jy ?_ | refine jw KL26 [6] (aa TF26 (aa hx.s (aa hx.len (aa hy.s hy.len)))) fun _ => ?_)
    refine Run_condS (fun _ => rfl) (fun h => ?_) (fun h => ?_)
    · simp at h
      have hkl := h
      obtain ⟨f1, f2, f3⟩ := (hx.ext x3).get h
      obtain ⟨g1, g2, g3⟩ := (hy.ext x3).get (show k < m.length by omega)
      (repeat with_reducible first | refine jy ?_ | refine jw KL26 [6] (aa TF26 (aa hx.s (aa hx.len (aa hy.s (aa hy.len (aa f1 (aa f2 (aa g1 g2)))))))) fun _ => ?_)
      intro w4 x4
      refine Run_condS (fun _ => rfl) (fun h => ?_) (fun h => ?_)
      · (repeat with_reducible first | refine jy ?_ | refine jw KL26 [6] TF26 fun _ => ?_)
        refine Run_ret ?_
        have : decide (l = m) = false := by
          simp at h ⊢; intro e; subst e; exact h rfl
        simp [Rets, RetM, resV, fnd, oneOr, this]
        exact x3.trans (by assumption)
      · (repeat with_reducible first | refine jy ?_ | refine jw KL26 [6] TF26 fun _ => ?_)
        refine Run_lp ⟨k + 1, ?_, ⟨by omega, fun j hj hjk => ?_, x3.trans (by assumption)⟩, by omega⟩
        · simp [SubB, fnd, strike, has]
        · by_cases e : j = k
          · subst e; simpa using h
          · exact hf j hj (by omega)
    · simp at h
      obtain rfl : k = l.length := by omega
      (repeat with_reducible first | refine jy ?_ | refine jw KL26 [6] TF26 fun _ => ?_)
      refine Run_ret ?_
      have : decide (l = m) = true := decide_eq_true (List.ext_getElem hl fun j h1 h2 => hf j h1 h1)
      simp [Rets, RetM, resV, fnd, oneOr, this, x3]
theorem sums_bd {x : LineD} {n : Int} (hx : Tt.LOk x n) {a : Int} (h0 : 0 ≤ a) (h1 : a < 2097152) : x.Legs.length ≤ 8 ∧ ∀ i, i ≤ x.Legs.length → 0 ≤ Tt.sm (x.Legs.take i) ∧ Tt.sm (x.Legs.take i) ≤ 800000 := by
  have hl9 : x.Legs.length ≤ 8 := by have := hx.l1; have := hx.o9; omega
  have hbd := Tt.sm_bd hx.l
  exact ⟨hl9, fun i hi => by have := hbd i hi; omega⟩
end Go.Proofs.YtldjfebokojmfaaGreat
