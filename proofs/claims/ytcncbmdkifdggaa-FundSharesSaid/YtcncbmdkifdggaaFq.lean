/- A drawn region: some operations in all orders, then the others, which leave what was, as they stand. No program is named. -/
import Derived.Test.YtcncbmdkifdggaaFk
set_option linter.unusedSimpArgs false
set_option linter.unusedVariables false
namespace Go.Fk
open Go Go.RowKit
inductive OQ where
  | done
  | stop
  | alt (i : Nat) (t rest : OQ)
  | first (i : Nat) (t : OQ)
  | tail (k : Nat)
def OQ.idx : OQ → List Nat
  | .alt i _ r => i :: r.idx
  | _ => []
def OQ.ok (n : Nat) (l : List Oper) : Bool → OQ → Nat → Array Bool → Bool
  | _, .done, _, listed => Region.ready .any l.toArray listed == []
  | head, .stop, _, _ => !head
  | head, .alt i t rest, f, listed => (!head || (OQ.alt i t rest).idx == Region.ready .any l.toArray listed) && decide (0 < f) && OQ.ok n l true t (f - 1) (listed.setIfInBounds i true) && OQ.ok n l false rest f listed && (match l[i]? with | some o => stat n l [o] [] | none => false)
  | head, .first i t, f, listed => head && decide (0 < f) && (Region.ready .any l.toArray listed).contains i && Region.free .any l.toArray listed i && OQ.ok n l true t (f - 1) (listed.setIfInBounds i true) && (match l[i]? with | some o => stat n l [o] [] && pureOp o.op && o.guard.isNone | none => false)
  | head, .tail k, f, listed => head && f == (l.drop k).length && Region.noSelect l.toArray && Region.lexFrom .any l.toArray (l.drop k).length k listed && stat n l (l.drop k) []
def er (P : Program) (l : List Oper) (K : FL → World → Prop) : OQ → FL → World → Prop
  | .done, L, w => K L w
  | .stop, _, _ => True
  | .alt i t rest, L, w => (match l[i]? with
      | some o => ∀ t0, eg P l t0 [o] [] L w fun L' w' => er P l K t L' w'
      | none => False) ∧ er P l K rest L w
  | .first i t, L, w => match l[i]? with
      | some o => ∀ t0, qg P (Ext w) l w t0 [o] [] L fun L' => er P l K t L' w
      | none => False
  | .tail k, L, w => ∀ t0, qg P (Ext w) l w t0 (l.drop k) [] L fun L' => ∀ w', Ext w w' → K L' w'
mutual
theorem er_sound {P : Program} {r : Option Nat} {n : Nat} {ds : List Nat} {l : List Oper} {K : FL → World → Prop} (hd : noDefer l = true) : ∀ (t : OQ) (f : Nat) (listed : Array Bool) (L : FL) (a : Act) (w : World), OQ.ok n l true t f listed = true → Fr n ds L a → er P l K t L w →
    wpAnyIn (fw r) 0 P .any l.toArray (NQ n ds K) f listed a w
  | .done, f, listed, L, a, w, h, hf, he => by
    have h0 : Region.ready .any l.toArray listed = [] := by simpa [OQ.ok] using h
    cases f with
    | zero => exact ⟨h0, L, hf, he⟩
    | succ f => exact ⟨fun _ => ⟨L, hf, he⟩, fun i hi => by rw [h0] at hi; cases hi⟩
  | .stop, f, listed, L, a, w, h, hf, he => by simp [OQ.ok] at h
  | .tail k, f, listed, L, a, w, h, hf, he => by
    simp only [OQ.ok, Bool.true_and, Bool.and_eq_true, beq_iff_eq] at h
    obtain ⟨⟨⟨hf', hsel⟩, hlex⟩, hs⟩ := h
    subst hf'
    refine wpAnyIn_of_quiet (C := Ext w) (Q := fun a' => ∀ w', Ext w w' → NQ n ds K .normal a' w') (fun _ w' hw' h => h w' hw') _ _ _ _ (Ext.refl w) ?_
    refine wpAnyQ_lex (C := Ext w) (md := .any) hsel (l.drop k) k listed a (fun j => by simp [List.getElem?_drop]) hlex ?_
    have := qg_sound (P := P) (C := Ext w) (w := w) (fun _ h => h) (l.drop k) [] [] L a (Inv.start hf) hs (he _)
    have mono : ∀ (l' : List Oper) (a : Act), wpQuiet P l.toArray (Ext w) (fun a' => ∃ L', Fr n ds L' a' ∧ ∀ w', Ext w w' → K L' w') l' a →
        wpQuiet P l.toArray (Ext w) (fun a' => ∀ w', Ext w w' → NQ n ds K .normal a' w') l' a := by
      intro l'
      induction l' with
      | nil => intro a h w' hw'; obtain ⟨L', hL, hK⟩ := h; exact ⟨L', hL, hK w' hw'⟩
      | cons o l' ih =>
        intro a h
        unfold wpQuiet at h ⊢
        split at h
        · rename_i hw; rw [if_pos hw]; exact Oper.quiet_mono (fun a => ih a) h
        · rename_i hw; rw [if_neg hw]; exact ih _ h
    exact mono _ _ this
  | .first i t, f, listed, L, a, w, h, hf, he => by
    simp only [OQ.ok, Bool.true_and, Bool.and_eq_true, decide_eq_true_eq] at h
    obtain ⟨⟨⟨⟨h1, h2⟩, h3⟩, h4⟩, h5⟩ := h
    obtain ⟨f, rfl⟩ : ∃ g, f = g + 1 := ⟨f - 1, by omega⟩
    unfold er at he
    split at he
    · rename_i o ho
      rw [ho] at h5
      simp only [Bool.and_eq_true, Option.isNone_iff_eq_none] at h5
      obtain ⟨⟨hs, hp⟩, hg⟩ := h5
      obtain ⟨v, hv, L', hL', hK⟩ := ep_pure (ds := ds) (n := n) ho hs hp hg hf he
      have h0 : l.toArray[i]? = some o := by simpa using ho
      refine wpAnyIn_first h0 (noDefer_spec hd).1 (noDefer_spec hd).2 f listed a w (Region.free_spec h0 h3) (by simpa using h2) hv ?_
      exact er_sound hd t f _ L' _ w (by simpa using h4) hL' hK
    · exact he.elim
  | .alt i t rest, f, listed, L, a, w, h, hf, he => by
    simp only [OQ.ok, Bool.not_true, Bool.false_or, Bool.and_eq_true, beq_iff_eq, decide_eq_true_eq] at h
    obtain ⟨⟨⟨⟨h1, h2⟩, h3⟩, h4⟩, h5⟩ := h
    obtain ⟨f, rfl⟩ : ∃ g, f = g + 1 := ⟨f - 1, by omega⟩
    refine ⟨fun h0 => by rw [h0] at h1; simp [OQ.idx] at h1, fun j hj => ?_⟩
    rw [← h1] at hj
    exact er_alts hd (.alt i t rest) f listed L a w (by simp only [OQ.ok, Bool.not_false, Bool.true_or, Bool.and_eq_true, decide_eq_true_eq, Nat.add_sub_cancel]; exact ⟨⟨⟨⟨trivial, by omega⟩, by simpa using h3⟩, h4⟩, h5⟩) hf he j hj
theorem er_alts {P : Program} {r : Option Nat} {n : Nat} {ds : List Nat} {l : List Oper} {K : FL → World → Prop} (hd : noDefer l = true) : ∀ (t : OQ) (f : Nat) (listed : Array Bool) (L : FL) (a : Act) (w : World), OQ.ok n l false t (f + 1) listed = true → Fr n ds L a → er P l K t L w →
    ∀ j ∈ t.idx, wpOpIn (fw r) 0 P l.toArray (NQ n ds K) j (wpAnyIn (fw r) 0 P .any l.toArray (NQ n ds K) f (listed.setIfInBounds j true)) a w
  | .done, f, listed, L, a, w, h, hf, he => by simp [OQ.idx]
  | .stop, f, listed, L, a, w, h, hf, he => by simp [OQ.idx]
  | .tail _, f, listed, L, a, w, h, hf, he => by simp [OQ.idx]
  | .first _ _, f, listed, L, a, w, h, hf, he => by simp [OQ.idx]
  | .alt i t rest, f, listed, L, a, w, h, hf, he => by
    simp only [OQ.ok, Bool.not_false, Bool.true_or, Bool.and_eq_true, decide_eq_true_eq, Nat.add_sub_cancel] at h
    obtain ⟨⟨⟨_, h3⟩, h4⟩, h6⟩ := h
    intro j hj
    by_cases hji : j = i
    · subst hji
      obtain ⟨he1, _⟩ := he
      split at he1
      · rename_i o ho
        have hs : stat n l [o] [] = true := by rw [ho] at h6; exact h6
        have h5 := eg_sound (r := r) [o] [] [] L a w (Inv.start hf) hs (he1 _)
        have h0 : l.toArray[j]? = some o := by simpa using ho
        unfold wpOpIn
        simp only [h0]
        unfold wpListIn at h5
        have key : ∀ a' w', wpListIn (fw r) 0 P l.toArray (NQ n ds fun L' w' => er P l K t L' w') [] a' w' → wpAnyIn (fw r) 0 P .any l.toArray (NQ n ds K) f (listed.setIfInBounds j true) a' w' := fun a' w' ⟨L', hL', he'⟩ =>
          er_sound hd t f _ L' a' w' h3 hL' he'
        split at h5
        · rename_i hw
          rw [if_pos hw]
          exact operWpIn_mono' key h5
        · rename_i hw
          rw [if_neg hw]
          exact ⟨h5.1, key _ _ h5.2⟩
      · exact he1.elim
    · refine er_alts hd rest f listed L a w h4 hf he.2 j ?_
      simpa [OQ.idx, hji] using hj
end
theorem Run_er {P : Program} {r : Option Nat} {n : Nat} {ds : List Nat} {k : List Td} {L : FL} {w : World} {Q : Exit → List Nat → FL → World → Prop} {id : Nat} {l : List Oper} (vs : List Nat) (t : OQ)
    (hm : P.follows .mixedOrders = true) (hd : noDefer l = true) (hok : OQ.ok n l true t l.toArray.size (Array.replicate l.toArray.size false) = true)
    (h : ∀ w1, Ext w w1 → w1.heap.size = w.heap.size → er P l (fun L' w' => Run P r n ds k (prune vs L') w' Q) t L w1) : Run P r n ds (.code (.region id l.toArray true) :: k) L w Q := fun a ha => by
  refine wpIn_mono (wpIn_region_any hm (er_sound hd t _ _ L a _ hok ha (h _ (Ext.drew w) rfl))) fun e a' w' hq => ?_
  cases e <;> first | exact hq.elim | (obtain ⟨L', hL, hK⟩ := hq; exact hK a' hL.prune)
end Go.Fk
