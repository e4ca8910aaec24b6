import Derived.Test.YtldjfebokojmfaaGreatRgGe
set_option linter.unusedSimpArgs false
set_option linter.unusedVariables false
namespace Go.Fk
open Go Go.RowKit
structure ConsV (P : Program) (yv : Value) (m N : Nat) (priv kp : Nat → Prop) (Y : Nat → List Value → World → Prop) (J : Nat → World → Prop) (Jx : World → Prop) : Prop where
  step : ∀ k w w', J k w → Keep (fun b => ¬ priv b) w w' → J k w'
  stepx : ∀ w w', Jx w → Keep (fun b => ¬ priv b) w w' → Jx w'
  yield : ∀ k w xs (h : k < N), xs.length = m → J k w → Y k xs w → CallW P yv xs w fun v w' => ∃ b, v = .bool b ∧ Keep kp w w' ∧ if b = true then J (k + 1) w' else Jx w'
theorem Run_iterV {P : Program} {n : Nat} {ds : List DF} {k : List Td} {L : FL} {w : World} {Q : Exit → List DF → FL → World → Prop} {g : Operand} {as bd : Code} {f : FuncId} {fi cap : Array Value} (ps : List Nat)
    (hg : ∀ t0, rho (lk t0 L) g = .func (.func f) fi cap) (hc : callable P f = true) (hlt : ∀ p ∈ ps, p < n) (N : Nat)
    (priv kp : Nat → Prop) (hpk : ∀ b, priv b → kp b) (hls : ∀ b, kp b → b ≠ w.heap.size ∧ b ≠ w.heap.size + 1) (I : Nat → World → Prop) (Y : Nat → List Value → World → Prop) (X : Option Nat → World → Prop)
    (hit : ∀ (yv : Value) (J : Nat → World → Prop) (Jx : World → Prop) (w1 : World), ConsV P yv ps.length N priv kp Y J Jx → yv.cells = #[yv] → Ext w w1 → w.heap.size + 2 ≤ w1.heap.size → J 0 w1 → Calls P f (fi ++ #[yv] ++ cap) w1 fun e w' => e = .returned (.tuple #[]) ∧ (Jx w' ∨ J N w'))
    (h0 : ∀ w1, Ext w w1 → w1.heap.size = w.heap.size + 2 → I 0 w1)
    (hI : ∀ j w1 w2, I j w1 → Keep (fun b => ¬ priv b ∧ b ≠ w.heap.size ∧ b ≠ w.heap.size + 1) w1 w2 → I j w2)
    (hX : ∀ e w1 w2, X e w1 → Keep (fun b => ¬ priv b ∧ b ≠ w.heap.size ∧ b ≠ w.heap.size + 1) w1 w2 → X e w2)
    (body : ∀ j xs (hj : j < N) w1, xs.length = ps.length → I j w1 → Y j xs w1 → w.heap.size + 2 ≤ w1.heap.size → Run P (some (w.heap.size + 1)) n [] [.code as, .lp [] (fun L1 w1' => Keep (fun b => kp b ∨ b = w.heap.size + 1 ∨ b = w.heap.size) w1 w1' ∧
        ∀ w2, Keep (fun b => b ≠ w.heap.size + 1) w1' w2 → w2.heap.size = w1'.heap.size → Run P (some (w.heap.size + 1)) n [] [.code bd] L1 w2 (BQ kp (w.heap.size + 1) w.heap.size (I (j + 1)) X w2))] (zipL ps xs L) w1 (fun _ _ _ _ => False))
    (hfin : ∀ w', I N w' → w'.heap[w.heap.size]? = some (.deferred (some [])) → Run P none n (w.heap.size :: ds) k L w' Q)
    (hexit : ∀ e w', X e w' → w'.heap[w.heap.size]? = some (.deferred (some [])) → Run P none n (w.heap.size :: ds) (.code (xcode e) :: k) L w' Q) :
    Run P none n ds (.code (.rangeFunc g ps.toArray as bd) :: k) L w Q := by
  refine Run_range hg hc fun rc w1 hps has hbd hT hw1 => ?_
  obtain ⟨hx, hs, hl, hd⟩ := range_start hw1
  let J : Nat → World → Prop := fun j w' => I j w' ∧ Lp (w.heap.size + 1) rc .ready none w' ∧ w'.heap[w.heap.size]? = some (.deferred (some [])) ∧ w.heap.size + 2 ≤ w'.heap.size
  let Jx : World → Prop := fun w' => ∃ e, X e w' ∧ Lp (w.heap.size + 1) rc .done (some (xcode e)) w' ∧ w'.heap[w.heap.size]? = some (.deferred (some [])) ∧ w.heap.size + 2 ≤ w'.heap.size
  have hcons : ConsV P (.func (.yield (w.heap.size + 1)) #[] #[]) ps.length N priv kp Y J Jx := by
    refine ⟨fun j a b ⟨h1, h2, h3, h4⟩ hk => ⟨hI _ _ _ h1 (hk.mono fun b _ hb => hb.1), h2.keep hk (fun hb => (hls _ (hpk _ hb)).2 rfl), (hk.block _ (by omega) (fun hb => (hls _ (hpk _ hb)).1 rfl)).trans h3, Nat.le_trans h4 hk.size⟩,
      fun a b ⟨e, h1, h2, h3, h4⟩ hk => ⟨e, hX _ _ _ h1 (hk.mono fun b _ hb => hb.1), h2.keep hk (fun hb => (hls _ (hpk _ hb)).2 rfl), (hk.block _ (by omega) (fun hb => (hls _ (hpk _ hb)).1 rfl)).trans h3, Nat.le_trans h4 hk.size⟩, fun j a xs hj hm ⟨h1, h2, h3, h4⟩ hy => ?_⟩
    unfold CallW
    simp only [Array.empty_append]
    refine yield_round (R := fun v w' => ∃ b, v = .bool b ∧ Keep kp a w' ∧ if b = true then J (j + 1) w' else Jx w') h2 hps has hbd hT hm.symm hlt ?_
    refine Run_lp_mono (body j xs hj a hm h1 hy h4) fun L1 a1 ⟨hk1, hrun⟩ => ?_
    have hl1 := h2.keep hk1 (.inr (.inl rfl))
    have hd1 := (hk1.block _ (by omega) (.inr (.inr rfl))).trans h3
    have s1 := hk1.size
    refine ⟨hl1, Run_Q_mono (hrun _ lpSet_keep lpSet_size) fun e ds' L2 a2 hq => ?_⟩
    have hl2 := hl1.set .busy none
    have k2 : Keep (fun b => b ≠ w.heap.size + 1) a1 (lpSet a1 (w.heap.size + 1) rc .busy none) := lpSet_keep
    have z2 : (lpSet a1 (w.heap.size + 1) rc .busy none).heap.size = a1.heap.size := lpSet_size
    have fin : ∀ st pd, Keep (fun b => kp b ∨ b = w.heap.size + 1 ∨ b = w.heap.size) (lpSet a1 (w.heap.size + 1) rc .busy none) a2 → Lp (w.heap.size + 1) rc .busy none a2 ∧ Keep kp a (lpSet a2 (w.heap.size + 1) rc st pd) ∧ Lp (w.heap.size + 1) rc st pd (lpSet a2 (w.heap.size + 1) rc st pd) ∧
        (lpSet a2 (w.heap.size + 1) rc st pd).heap[w.heap.size]? = some (.deferred (some [])) ∧ w.heap.size + 2 ≤ (lpSet a2 (w.heap.size + 1) rc st pd).heap.size := fun st pd hk => by
      have hl3 := hl2.keep hk (.inr (.inl rfl))
      have k4 : Keep (fun b => b ≠ w.heap.size + 1) a2 (lpSet a2 (w.heap.size + 1) rc st pd) := lpSet_keep
      have s2 := hk.size
      have s4 : (lpSet a2 (w.heap.size + 1) rc st pd).heap.size = a2.heap.size := lpSet_size
      refine ⟨hl3, ((hk1.mono fun b _ hb => .inl hb).trans ((k2.mono fun b _ hb => (hls b hb).2).trans ((hk.mono fun b _ hb => .inl hb).trans (k4.mono fun b _ hb => (hls b hb).2)))), hl3.set _ _, ?_, by omega⟩
      have e1 := (k2.block _ (by omega) (by omega)).trans hd1
      have e2 := (hk.block _ (by omega) (.inr (.inr rfl))).trans e1
      exact (k4.block _ (by omega) (by omega)).trans e2
    have stab : ∀ st pd, Keep (fun b => ¬ priv b ∧ b ≠ w.heap.size ∧ b ≠ w.heap.size + 1) a2 (lpSet a2 (w.heap.size + 1) rc st pd) := fun st pd => lpSet_keep.mono fun b _ hb => hb.2.2
    cases e with
    | normal =>
      obtain ⟨f1, f2, f3, f4, f5⟩ := fin .ready none hq.1
      exact ⟨f1, true, rfl, f2, by simp only [if_true]; exact ⟨hI _ _ _ hq.2 (stab _ _), f3, f4, f5⟩⟩
    | ret =>
      obtain ⟨f1, f2, f3, f4, f5⟩ := fin .done (some .ret) hq.1
      exact ⟨f1, false, rfl, f2, by simp only [Bool.false_eq_true, if_false]; exact ⟨none, hX _ _ _ hq.2 (stab _ _), f3, f4, f5⟩⟩
    | exit id =>
      obtain ⟨f1, f2, f3, f4, f5⟩ := fin .done (some (.exit id)) hq.1
      exact ⟨f1, false, rfl, f2, by simp only [Bool.false_eq_true, if_false]; exact ⟨some id, hX _ _ _ hq.2 (stab _ _), f3, f4, f5⟩⟩
    | goto _ => exact hq.elim
    | panic _ => exact hq.elim
    | outgrown => exact hq.elim
  refine (hit _ J Jx w1 hcons rfl hx (by omega) ⟨h0 w1 hx hs, hl, hd, by omega⟩).mono fun e w3 ⟨he, hj⟩ => ⟨_, he, ?_⟩
  rcases hj with ⟨e, h1, h2, h3, h4⟩ | ⟨h1, h2, h3, h4⟩
  · refine ⟨.done, some (xcode e), h2, by simp, ?_⟩
    have k4 : Keep (fun b => b ≠ w.heap.size + 1) w3 (lpSet w3 (w.heap.size + 1) rc .exhausted (some (xcode e))) := lpSet_keep
    exact hexit e _ (hX _ _ _ h1 (k4.mono fun b _ hb => hb.2.2)) ((k4.block _ (by omega) (by omega)).trans h3)
  · refine ⟨.ready, none, h2, by simp, ?_⟩
    have k4 : Keep (fun b => b ≠ w.heap.size + 1) w3 (lpSet w3 (w.heap.size + 1) rc .exhausted none) := lpSet_keep
    exact hfin _ (hI _ _ _ h1 (k4.mono fun b _ hb => hb.2.2)) ((k4.block _ (by omega) (by omega)).trans h3)
end Go.Fk
