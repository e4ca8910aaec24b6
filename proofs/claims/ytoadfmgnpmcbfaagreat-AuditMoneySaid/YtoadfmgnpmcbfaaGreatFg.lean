/- As Ft, with guards whose values stand in the frame. No program is named. -/
import Derived.Test.YtoadfmgnpmcbfaaGreatFt
set_option linter.unusedSimpArgs false
set_option linter.unusedVariables false
namespace Go.Fk
open Go Go.RowKit
/-- an operation without its guard -/
def ung (o : Oper) : Oper := { o with guard := none }
def gOk (l : List Oper) (o : Oper) : Bool := match o.guard with
  | none => true
  | some (i, _) => match l[i]? with
    | some oi => oi.dst.isSome
    | none => false
/-- what a guard says, by the frame -/
def gres (l : List Oper) (o : Oper) (L : FL) (k : Bool → Prop) : Prop :=
  match o.guard with
  | none => k true
  | some (i, want) => match l[i]? with
    | some oi => match oi.dst with
      | some s => match fnd L s with
        | some (.bool b) => k (b == want)
        | _ => False
      | none => False
    | none => False
theorem gres_spec {n : Nat} {ds : List Nat} {l : List Oper} {o : Oper} {L : FL} {a : Act} {k : Bool → Prop} (hf : Fr n ds L a) (h : gres l o L k) : k (Region.wanted o (yielded l.toArray a.tmps)) := by
  unfold gres at h
  cases hg : o.guard with
  | none =>
    rw [hg] at h
    have : Region.wanted o (yielded l.toArray a.tmps) = true := by simp [Region.wanted, hg]
    rw [this]; exact h
  | some g =>
    obtain ⟨i, want⟩ := g
    rw [hg] at h
    simp only at h
    cases hi : l[i]? with
    | none => rw [hi] at h; exact h.elim
    | some oi =>
      rw [hi] at h
      simp only at h
      cases hs : oi.dst with
      | none => rw [hs] at h; exact h.elim
      | some s =>
        rw [hs] at h
        simp only at h
        cases hv : fnd L s with
        | none => rw [hv] at h; exact h.elim
        | some v =>
          rw [hv] at h
          cases v with
          | bool b =>
            simp only at h
            have h1 := hf.at_ s _ hv
            have h2 := wanted_iff (all := l) (a := a) (o := o) hg hi hs
            have : Region.wanted o (yielded l.toArray a.tmps) = (b == want) := by
              rw [Bool.eq_iff_iff, h2, h1]; simp
            rw [this]; exact h
          | _ => exact h.elim
/-- the order tree: '.free' where nothing need stay any more -/
inductive OH where
  | done (b : Bool)
  | stop
  | alt (b : Bool) (i : Nat) (t : OH) (rest : OH)
  | first (i : Nat) (t : OH)
  | free (t : OP)
def OH.idx : OH → List Nat
  | .alt _ i _ r => i :: r.idx
  | _ => []
def OH.ok (lasts : List Nat) (ps : List (Nat × List Nat)) (n : Nat) (l : List Oper) : Bool → OH → Nat → Array Bool → Bool
  | _, .done b, _, listed => Region.ready .any l.toArray listed == [] && (b || past lasts listed)
  | head, .stop, _, _ => !head
  | head, .alt b i t rest, f, listed => (b || past lasts listed) && (!head || (OH.alt b i t rest).idx == Region.ready .any l.toArray listed) && decide (0 < f) && OH.ok lasts ps n l true t (f - 1) (listed.setIfInBounds i true) && OH.ok lasts ps n l false rest f listed && (match l[i]? with | some o => stat n l [ung o] [] && gOk l o | none => false)
  | head, .first i t, f, listed => head && decide (0 < f) && (Region.ready .any l.toArray listed).contains i && Region.free .any l.toArray listed i && OH.ok lasts ps n l true t (f - 1) (listed.setIfInBounds i true) && (match l[i]? with | some o => stat n l [ung o] [] && gOk l o && frstOp o.op && !lasts.contains i && (!ldOp o.op || hasPath l.toArray lasts ps i) | none => false)
  | head, .free t, f, listed => head && past lasts listed && OP.ok n l true t f listed
def eh (P : Program) (l : List Oper) (S : Nat → Prop) (w0 : World) (K : FL → World → Prop) : OH → FL → World → Prop
  | .done b, L, w => (b = true → Keep S w0 w) ∧ K L w
  | .stop, _, _ => True
  | .alt b i t rest, L, w => (b = true → Keep S w0 w) ∧ (match l[i]? with
      | some o => gres l o L fun y => if y = true then ∀ t0, eg P l t0 [ung o] [] L w fun L' w' => eh P l S w0 K t L' w' else eh P l S w0 K t (putL L o.dst undef) w
      | none => False) ∧ eh P l S w0 K rest L w
  | .first i t, L, w => match l[i]? with
      | some o => gres l o L fun y => if y = true then ∀ t0, qopS P S w0 (rho (lk t0 L)) o.op fun ob v => ob ∧ eh P l S w0 K t (putL L o.dst v) w else eh P l S w0 K t (putL L o.dst undef) w
      | none => False
  | .free t, L, w => ep P l K t L w
theorem eh_still {P : Program} {n : Nat} {ds : List Nat} {l : List Oper} {o : Oper} {L : FL} {a : Act} {S : Nat → Prop} {w0 : World} {K : FL → Prop} (hs : stat n l [ung o] [] = true) (hp : frstOp o.op = true) (hf : Fr n ds L a)
    (h : gres l o L fun y => if y = true then ∀ t0, qopS P S w0 (rho (lk t0 L)) o.op fun ob v => ob ∧ K (putL L o.dst v) else K (putL L o.dst undef)) : ∃ v, StillAt P (fun w => ldOp o.op = true → Keep S w0 w) l.toArray o v a ∧ ∃ L', Fr n ds L' (a.put o.dst v) ∧ K L' := by
  have hdst : ∀ k, o.dst = some k → k < n := fun k hk => by
    unfold stat at hs
    rw [show (ung o).dst = o.dst from rfl, hk] at hs
    simp only [Bool.and_eq_true, decide_eq_true_eq] at hs
    exact hs.2.1.1.1
  have h := gres_spec hf h
  by_cases hw : Region.wanted o (yielded l.toArray a.tmps) = true
  · rw [if_pos hw] at h
    have hI := Inv.start hf
    obtain ⟨ob, v, ⟨hob, hK⟩, hv⟩ := qopS_sound2 hp (h fun k => a.tmps.getD k undef)
    have hsel : execOp a.eval o = execOp (rho (lk (fun k => a.tmps.getD k undef) L)) o := by
      refine execOp_congr o (fun cs b e => by rw [e] at hp; cases hp) fun x hx => ?_
      have := hI.useO (G := []) (fun c hc => by cases hc) (x := x) (by cases x <;> simp [useO, useK])
      simpa [lkG] using this
    exact ⟨v, .inl ⟨hw, fun w' hx => by rw [hsel]; exact hv hob w' hx⟩, _, hf.put' hdst v, hK⟩
  · rw [if_neg hw] at h
    exact ⟨undef, .inr ⟨by simpa using hw, rfl⟩, _, hf.put' hdst undef, h⟩
mutual
theorem eh_sound {P : Program} {r : Option Nat} {n : Nat} {ds : List Nat} {l : List Oper} {S : Nat → Prop} {w0 : World} {K : FL → World → Prop} {lasts : List Nat} {ps : List (Nat × List Nat)} (hd : noDefer l = true) : ∀ (t : OH) (f : Nat) (listed : Array Bool) (L : FL) (a : Act) (w : World), Closed l.toArray listed → OH.ok lasts ps n l true t f listed = true → Fr n ds L a → eh P l S w0 K t L w →
    wpAF P (Keep S w0) lasts r l.toArray (NQ n ds K) f listed a w
  | .done b, f, listed, L, a, w, hcl, h, hf, he => by
    simp only [OH.ok, Bool.and_eq_true, beq_iff_eq, Bool.or_eq_true] at h
    obtain ⟨h0, hb⟩ := h
    have hc : past lasts listed = true ∨ Keep S w0 w := hb.symm.imp id he.1
    cases f with
    | zero => exact ⟨hc, h0, L, hf, he.2⟩
    | succ f => exact ⟨hc, fun _ => ⟨L, hf, he.2⟩, fun i hi => by rw [h0] at hi; cases hi⟩
  | .stop, f, listed, L, a, w, hcl, h, hf, he => by simp [OH.ok] at h
  | .free t, f, listed, L, a, w, hcl, h, hf, he => by
    simp only [OH.ok, Bool.true_and, Bool.and_eq_true] at h
    exact wpAF.of_any h.1 (ep_sound hd t f listed L a w h.2 hf he)
  | .first i t, f, listed, L, a, w, hcl, h, hf, he => by
    simp only [OH.ok, Bool.true_and, Bool.and_eq_true, decide_eq_true_eq] at h
    obtain ⟨⟨⟨⟨h1, h2⟩, h3⟩, h4⟩, h5⟩ := h
    obtain ⟨f, rfl⟩ : ∃ g, f = g + 1 := ⟨f - 1, by omega⟩
    unfold eh at he
    split at he
    · rename_i o ho
      rw [ho] at h5
      simp only [Bool.and_eq_true, Bool.not_eq_true', Bool.or_eq_true] at h5
      obtain ⟨⟨⟨⟨hs, hgk⟩, hp⟩, hnl⟩, hpt⟩ := h5
      obtain ⟨v, hv, L', hL', hK⟩ := eh_still (ds := ds) (n := n) (K := fun L' => eh P l S w0 K t L' w) hs hp hf he
      have h0 : l.toArray[i]? = some o := by simpa using ho
      have h2' : i ∈ Region.ready .any l.toArray listed := by simpa using h2
      refine wpAF_first (ldOp o.op) h0 (noDefer_spec hd).1 (noDefer_spec hd).2 hnl (fun hb lis hcl' hu => ?_) f listed a w hcl (Region.free_spec h0 h3) h2' hv ?_
      · rcases hpt with hpt | hpt
        · rw [hb] at hpt; cases hpt
        · exact path_past hpt hcl' hu
      · exact eh_sound hd t f _ L' _ w (hcl.set h2') (by simpa using h4) hL' hK
    · exact he.elim
  | .alt b i t rest, f, listed, L, a, w, hcl, h, hf, he => by
    simp only [OH.ok, Bool.not_true, Bool.false_or, Bool.and_eq_true, beq_iff_eq, decide_eq_true_eq, Bool.or_eq_true] at h
    obtain ⟨⟨⟨⟨⟨hb, h1⟩, h2⟩, h3⟩, h4⟩, h5⟩ := h
    obtain ⟨f, rfl⟩ : ∃ g, f = g + 1 := ⟨f - 1, by omega⟩
    refine ⟨hb.symm.imp id he.1, fun h0 => by rw [h0] at h1; simp [OH.idx] at h1, fun j hj => ?_⟩
    have hj' := hj
    rw [← h1] at hj
    exact eh_alts hd (.alt b i t rest) f listed L a w hcl (by simp only [OH.ok, Bool.not_false, Bool.true_or, Bool.and_eq_true, decide_eq_true_eq, Nat.add_sub_cancel, Bool.or_eq_true]; exact ⟨⟨⟨⟨⟨hb, trivial⟩, by omega⟩, by simpa using h3⟩, h4⟩, h5⟩) hf he j hj hj'
theorem eh_alts {P : Program} {r : Option Nat} {n : Nat} {ds : List Nat} {l : List Oper} {S : Nat → Prop} {w0 : World} {K : FL → World → Prop} {lasts : List Nat} {ps : List (Nat × List Nat)} (hd : noDefer l = true) : ∀ (t : OH) (f : Nat) (listed : Array Bool) (L : FL) (a : Act) (w : World), Closed l.toArray listed → OH.ok lasts ps n l false t (f + 1) listed = true → Fr n ds L a → eh P l S w0 K t L w →
    ∀ j ∈ t.idx, j ∈ Region.ready .any l.toArray listed → wpOpIn (fw r) 0 P l.toArray (NQ n ds K) j (wpAF P (Keep S w0) lasts r l.toArray (NQ n ds K) f (listed.setIfInBounds j true)) a w
  | .done _, f, listed, L, a, w, hcl, h, hf, he => by simp [OH.idx]
  | .stop, f, listed, L, a, w, hcl, h, hf, he => by simp [OH.idx]
  | .free _, f, listed, L, a, w, hcl, h, hf, he => by simp [OH.idx]
  | .first _ _, f, listed, L, a, w, hcl, h, hf, he => by simp [OH.idx]
  | .alt b i t rest, f, listed, L, a, w, hcl, h, hf, he => by
    simp only [OH.ok, Bool.not_false, Bool.true_or, Bool.and_eq_true, decide_eq_true_eq, Nat.add_sub_cancel] at h
    obtain ⟨⟨⟨_, h3⟩, h4⟩, h6⟩ := h
    intro j hj hjr
    by_cases hji : j = i
    · subst hji
      obtain ⟨_, he1, _⟩ := he
      split at he1
      · rename_i o ho
        have hs : stat n l [ung o] [] = true := by rw [ho] at h6; simp only [Bool.and_eq_true] at h6; exact h6.1
        have hdst : ∀ k, o.dst = some k → k < n := fun k hk => by
          unfold stat at hs
          rw [show (ung o).dst = o.dst from rfl, hk] at hs
          simp only [Bool.and_eq_true, decide_eq_true_eq] at hs
          exact hs.2.1.1.1
        have hg := gres_spec hf he1
        have h0 : l.toArray[j]? = some o := by simpa using ho
        have key : ∀ a' w', wpListIn (fw r) 0 P l.toArray (NQ n ds fun L' w' => eh P l S w0 K t L' w') [] a' w' → wpAF P (Keep S w0) lasts r l.toArray (NQ n ds K) f (listed.setIfInBounds j true) a' w' := fun a' w' ⟨L', hL', he'⟩ =>
          eh_sound hd t f _ L' a' w' (hcl.set hjr) h3 hL' he'
        unfold wpOpIn
        simp only [h0]
        by_cases hw : Region.wanted o (yielded l.toArray a.tmps) = true
        · rw [if_pos hw] at hg ⊢
          have h5 := eg_sound (r := r) [ung o] [] [] L a w (Inv.start hf) hs (hg _)
          unfold wpListIn at h5
          rw [if_pos (by simp [Region.wanted, ung])] at h5
          have h5' : o.wpIn (fw r) 0 P a w (wpListIn (fw r) 0 P l.toArray (NQ n ds fun L' w' => eh P l S w0 K t L' w') []) (NQ n ds fun L' w' => eh P l S w0 K t L' w') := h5
          exact operWpIn_mono' key h5'
        · rw [if_neg hw] at hg ⊢
          exact ⟨fun _ _ => trivial, key _ _ ⟨_, hf.put' hdst undef, hg⟩⟩
      · exact he1.elim
    · refine eh_alts hd rest f listed L a w hcl h4 hf he.2.2 j ?_ hjr
      simpa [OH.idx, hji] using hj
end
theorem Run_eh (S : Nat → Prop) (lasts : List Nat) (ps : List (Nat × List Nat)) {P : Program} {r : Option Nat} {n : Nat} {ds : List Nat} {k : List Td} {L : FL} {w : World} {Q : Exit → List Nat → FL → World → Prop} {id : Nat} {l : List Oper} (vs : List Nat) (t : OH)
    (hm : P.follows .mixedOrders = true) (hd : noDefer l = true) (hok : OH.ok lasts ps n l true t l.toArray.size (Array.replicate l.toArray.size false) = true)
    (h : ∀ w1, Ext w w1 → w1.heap.size = w.heap.size → eh P l S w1 (fun L' w' => Run P r n ds k (prune vs L') w' Q) t L w1) : Run P r n ds (.code (.region id l.toArray true) :: k) L w Q := fun a ha => by
  refine wpIn_mono (wpIn_region_any hm (eh_sound hd t _ _ L a _ (Closed.start _ _) hok ha (h _ (Ext.drew w) rfl)).any) fun e a' w' hq => ?_
  cases e <;> first | exact hq.elim | (obtain ⟨L', hL, hK⟩ := hq; exact hK a' hL.prune)
end Go.Fk
