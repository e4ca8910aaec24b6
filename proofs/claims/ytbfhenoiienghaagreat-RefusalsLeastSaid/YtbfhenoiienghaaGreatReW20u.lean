import Derived.Test.YtbfhenoiienghaaGreatReW20t
import Derived.Test.YtbfhenoiienghaaGreatReW20s
set_option linter.unusedSimpArgs false
set_option linter.unusedVariables false
set_option maxRecDepth 100000
namespace Go.Proofs.YtbfhenoiienghaaGreat
open Go Go.Fk
theorem rfSameInts20 (va vb : Value) (l m : List Int) (w : World) (hx : Sl w va l) (hy : Sl w vb m) : Calls Tryz.prog 21 #[va, vb] w fun e w' => e = .returned (.bool (decide (l = m))) ∧ Ext w w' := by
  have hn := hx.small
  refine Calls_of_Run (args := [va, vb]) (n := 26) (rs := [.tmp 4]) Tryz.func21 rfl rfl rfl (by simp) ?_
  (repeat with_reducible first | refine js ?_ | refine ja ?_ | refine jw KL21 [6] (aa TF21 (aa hx.s (aa hx.len (aa hy.s hy.len)))) fun _ => ?_)
  refine Run_condS (fun _ => rfl) (fun h => ?_) (fun h => ?_)
  · (repeat with_reducible first | refine js ?_ | refine ja ?_ | refine jw KL21 [6] TF21 fun _ => ?_)
    refine Run_ret ?_
    simp at h
    have : decide (l = m) = false := by simp; intro e; subst e; omega
    simp [Rets, RetM, resV, fnd, oneOr, this, Ext.refl]
  · simp at h
    have hl : l.length = m.length := by omega
    (repeat with_reducible first | refine js ?_ | refine ja ?_ | refine jw KL21 [6] TF21 fun _ => ?_)
    refine Run_loopV [4, 5, 14, 25] (σ := Nat) (fun k => [(5, some (.int .i64 k))]) (fun k w' => k ≤ l.length ∧ (∀ j (h : j < l.length), j < k → l[j] = m[j]) ∧ Ext w w') (fun k => l.length - k) 0 (by simp [SubB, fnd]) ⟨by omega, by simp, Ext.refl _⟩ ?_
    rintro k w3 ⟨hk, hf, x3⟩
    (repeat with_reducible first | refine js ?_ | refine ja ?_ | refine jw KL21 [6] (aa TF21 (aa hx.s (aa hx.len (aa hy.s hy.len)))) fun _ => ?_)
    refine Run_condS (fun _ => rfl) (fun h => ?_) (fun h => ?_)
    · simp at h
      have hkl := h
      obtain ⟨f1, f2, f3⟩ := (hx.ext x3).get h
      obtain ⟨g1, g2, g3⟩ := (hy.ext x3).get (show k < m.length by omega)
      (repeat with_reducible first | refine js ?_ | refine ja ?_ | refine jw KL21 [6] (aa TF21 (aa hx.s (aa hx.len (aa hy.s (aa hy.len (aa f1 (aa f2 (aa g1 g2)))))))) fun _ => ?_)
      intro w4 x4
      refine Run_condS (fun _ => rfl) (fun h => ?_) (fun h => ?_)
      · (repeat with_reducible first | refine js ?_ | refine ja ?_ | refine jw KL21 [6] TF21 fun _ => ?_)
        refine Run_ret ?_
        have : decide (l = m) = false := by
          simp at h ⊢; intro e; subst e; exact h rfl
        simp [Rets, RetM, resV, fnd, oneOr, this]
        exact x3.trans (by assumption)
      · (repeat with_reducible first | refine js ?_ | refine ja ?_ | refine jw KL21 [6] TF21 fun _ => ?_)
        refine Run_lp ⟨k + 1, ?_, ⟨by omega, fun j hj hjk => ?_, x3.trans (by assumption)⟩, by omega⟩
        · simp [SubB, fnd, strike, has]
        · by_cases e : j = k
          · subst e; simpa using h
          · exact hf j hj (by omega)
    · simp at h
      obtain rfl : k = l.length := by omega
      (repeat with_reducible first | refine js ?_ | refine ja ?_ | refine jw KL21 [6] TF21 fun _ => ?_)
      refine Run_ret ?_
      have : decide (l = m) = true := decide_eq_true (List.ext_getElem hl fun j h1 h2 => hf j h1 h1)
      simp [Rets, RetM, resV, fnd, oneOr, this, x3]
theorem sums_bd {x : LineD} {n : Int} (hx : Tt.LOk x n) {a : Int} (h0 : 0 ≤ a) (h1 : a < 2097152) : x.Legs.length ≤ 8 ∧ ∀ i, i ≤ x.Legs.length → 0 ≤ Tt.sm (x.Legs.take i) ∧ Tt.sm (x.Legs.take i) ≤ 800000 := by
  have hl9 : x.Legs.length ≤ 8 := by have := hx.l1; have := hx.o9; omega
  have hbd := Tt.sm_bd hx.l
  exact ⟨hl9, fun i hi => by have := hbd i hi; omega⟩
end Go.Proofs.YtbfhenoiienghaaGreat
