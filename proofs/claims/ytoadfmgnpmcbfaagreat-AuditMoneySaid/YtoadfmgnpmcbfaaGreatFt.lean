/- As Fs, but the class of blocks must stay only until every load that was taken first has been waited for. No program is named. -/
import Derived.Test.YtoadfmgnpmcbfaaGreatFs
set_option linter.unusedSimpArgs false
set_option linter.unusedVariables false
namespace Go.Fk
open Go Go.RowKit
/-- operation j waits for i -/
def depOn (ops : Array Oper) (j i : Nat) : Bool := match ops[j]? with | some o => o.after.any (fun e => Region.binds .any e && e.on == i) | none => false
def Closed (ops : Array Oper) (listed : Array Bool) : Prop := ∀ j i, listed.getD j false = true → depOn ops j i = true → listed.getD i false = true
def past (lasts : List Nat) (listed : Array Bool) : Bool := lasts.all fun j => listed.getD j false
theorem getD_set_self {listed : Array Bool} {i j : Nat} (h : (listed.setIfInBounds i true).getD j false = true) : j = i ∨ listed.getD j false = true := by
  by_cases e : i = j
  · exact .inl e.symm
  · rw [getD_set_ne false e] at h; exact .inr h
theorem past_set {lasts : List Nat} {listed : Array Bool} {i : Nat} (h : past lasts listed = true) : past lasts (listed.setIfInBounds i true) = true := by
  unfold past at *
  rw [List.all_eq_true] at *
  exact fun j hj => getD_set_true (h j hj)
theorem past_unset {lasts : List Nat} {listed : Array Bool} {i : Nat} (h : past lasts (listed.setIfInBounds i true) = true) (hi : lasts.contains i = false) : past lasts listed = true := by
  unfold past at *
  rw [List.all_eq_true] at *
  intro j hj
  rcases getD_set_self (h j hj) with rfl | h1
  · rw [List.contains_eq_mem] at hi; simp at hi; exact (hi hj).elim
  · exact h1
theorem Closed.set {ops : Array Oper} {listed : Array Bool} {j : Nat} (h : Closed ops listed) (hj : j ∈ Region.ready .any ops listed) : Closed ops (listed.setIfInBounds j true) := by
  intro k i hk hd
  rcases getD_set_self hk with rfl | hk
  · obtain ⟨_, o, ho, hall⟩ := mem_ready.1 hj
    unfold depOn at hd
    rw [ho] at hd
    simp only [Array.any_eq_true', Bool.and_eq_true, beq_iff_eq] at hd
    obtain ⟨e, he, hb, rfl⟩ := hd
    exact getD_set_true (hall e he hb)
  · exact getD_set_true (h k i hk hd)
theorem Closed.start (ops : Array Oper) (n : Nat) : Closed ops (Array.replicate n false) := fun j i h _ => by
  rw [Array.getD_eq_getD_getElem?] at h
  by_cases hj : j < n
  · simp [hj] at h
  · simp [hj] at h
/-- a chain of operations, each of which waits for the one before -/
def pathOk (ops : Array Oper) : Nat → List Nat → Bool
  | _, [] => true
  | a, b :: r => depOn ops b a && pathOk ops b r
def lst : Nat → List Nat → Nat
  | a, [] => a
  | _, b :: r => lst b r
theorem path_back {ops : Array Oper} {listed : Array Bool} (hc : Closed ops listed) : ∀ (p : List Nat) (a : Nat), pathOk ops a p = true → listed.getD (lst a p) false = true → listed.getD a false = true
  | [], a, _, h => h
  | b :: r, a, hp, h => by
    simp only [pathOk, Bool.and_eq_true] at hp
    exact hc b a (path_back hc r b hp.2 h) hp.1
def hasPath (ops : Array Oper) (lasts : List Nat) (ps : List (Nat × List Nat)) (i : Nat) : Bool := ps.any fun p => p.1 == i && pathOk ops p.1 p.2 && lasts.contains (lst p.1 p.2)
theorem path_past {ops : Array Oper} {lasts : List Nat} {ps : List (Nat × List Nat)} {i : Nat} {listed : Array Bool} (h : hasPath ops lasts ps i = true) (hc : Closed ops listed) (hu : listed.getD i true = false) : past lasts listed = false := by
  unfold hasPath at h
  rw [List.any_eq_true] at h
  obtain ⟨p, _, h⟩ := h
  simp only [Bool.and_eq_true, beq_iff_eq, List.contains_eq_mem, decide_eq_true_eq] at h
  obtain ⟨⟨rfl, h2⟩, h3⟩ := h
  rw [Bool.eq_false_iff]
  intro hp
  unfold past at hp
  rw [List.all_eq_true] at hp
  have := path_back hc _ _ h2 (hp _ h3)
  rw [getD_both hu] at this; cases this
section
variable {P : Program} {C : World → Prop} {lasts : List Nat} {r : Option Nat} {ops : Array Oper} {n : Nat} {ds : List Nat} {M : FL → World → Prop}
def wpAF (P : Program) (C : World → Prop) (lasts : List Nat) (r : Option Nat) (ops : Array Oper) (Q : Exit → Act → World → Prop) : Nat → Array Bool → Act → World → Prop
  | 0, listed, a, w => (past lasts listed = true ∨ C w) ∧ Region.ready .any ops listed = [] ∧ Q .normal a w
  | f + 1, listed, a, w => (past lasts listed = true ∨ C w) ∧ (Region.ready .any ops listed = [] → Q .normal a w) ∧ ∀ i ∈ Region.ready .any ops listed, wpOpIn (fw r) 0 P ops Q i (wpAF P C lasts r ops Q f (listed.setIfInBounds i true)) a w
theorem wpAF.c {Q : Exit → Act → World → Prop} {f : Nat} {listed : Array Bool} {a : Act} {w : World} (h : wpAF P C lasts r ops Q f listed a w) : past lasts listed = true ∨ C w := by
  cases f <;> exact h.1
theorem wpAF.any {Q : Exit → Act → World → Prop} : ∀ {f : Nat} {listed : Array Bool} {a : Act} {w : World}, wpAF P C lasts r ops Q f listed a w → wpAnyIn (fw r) 0 P .any ops Q f listed a w
  | 0, _, _, _, h => h.2
  | f + 1, _, _, _, h => ⟨h.2.1, fun i hi => wpOpIn_mono (fun _ _ h => h.any) (h.2.2 i hi)⟩
theorem wpAF.of_any {Q : Exit → Act → World → Prop} : ∀ {f : Nat} {listed : Array Bool} {a : Act} {w : World}, past lasts listed = true → wpAnyIn (fw r) 0 P .any ops Q f listed a w → wpAF P C lasts r ops Q f listed a w
  | 0, _, _, _, hp, h => ⟨.inl hp, h⟩
  | f + 1, _, _, _, hp, h => ⟨.inl hp, h.1, fun i hi => wpOpIn_mono (fun _ _ h => wpAF.of_any (past_set hp) h) (h.2 i hi)⟩
theorem wpAF_first {i : Nat} {oi : Oper} {v : Value} (b : Bool) (hi : ops[i]? = some oi) (hsel : ∀ (j : Nat) (o : Oper) cs b, ops[j]? = some o → o.op ≠ .select cs b) (hdef : ∀ (j : Nat) (o : Oper) c, ops[j]? = some o → o.op ≠ .defer c)
    (hnl : lasts.contains i = false) (hpp : b = true → ∀ listed, Closed ops listed → listed.getD i true = false → past lasts listed = false) :
    ∀ (fuel : Nat) (listed : Array Bool) (a : Act) (w : World), Closed ops listed →
      (∀ j oj, ops[j]? = some oj → j ≠ i → listed.getD j true = false → (∀ e ∈ oj.after, Region.binds .any e = true → e.on ≠ i) → oi.apart ops oj = true) →
      i ∈ Region.ready .any ops listed → StillAt P (fun w => b = true → C w) ops oi v a →
      wpAF P C lasts r ops (NQ n ds M) fuel (listed.setIfInBounds i true) (a.put oi.dst v) w → wpAF P C lasts r ops (NQ n ds M) (fuel + 1) listed a w := by
  intro fuel
  induction fuel with
  | zero =>
    intro listed a w hcl _ hr hy H
    have hc : past lasts listed = true ∨ C w := H.c.imp (fun h => past_unset h hnl) id
    have hC : b = true → C w := fun hb => hc.resolve_left (by rw [hpp hb listed hcl (mem_ready.1 hr).1]; simp)
    refine ⟨hc, fun h => (by rw [h] at hr; cases hr), fun j hj => ?_⟩
    by_cases hji : j = i
    · subst hji; exact hy.wpOpIn hi (fun c => hdef j oi c hi) hC H
    · have := ready_mono hj hji
      rw [H.2.1] at this; cases this
  | succ f ih =>
    intro listed a w hcl hfree hr hy H
    have hc : past lasts listed = true ∨ C w := H.c.imp (fun h => past_unset h hnl) id
    have hC : b = true → C w := fun hb => hc.resolve_left (by rw [hpp hb listed hcl (mem_ready.1 hr).1]; simp)
    refine ⟨hc, fun h => (by rw [h] at hr; cases hr), fun j hj => ?_⟩
    by_cases hji : j = i
    · subst hji; exact hy.wpOpIn hi (fun c => hdef j oi c hi) hC H
    · have h1 := H.2.2 j (ready_mono hj hji)
      obtain ⟨hjun, oj, hoj, hall⟩ := mem_ready.1 hj
      have hun := (mem_ready.1 hr).1
      have hnot : ∀ e ∈ oj.after, Region.binds .any e = true → e.on ≠ i := fun e he hb heq => by
        have h1 := hall e he hb
        rw [heq, getD_both hun] at h1
        cases h1
      have h2 := wpOpIn_putC hoj (hfree j oj hoj hji hjun hnot) (fun cs b => hsel i oi cs b hi) (fun cs b => hsel j oj cs b hoj) (fun c => hdef j oj c hoj) hy h1
      have hfree' : ∀ k ok, ops[k]? = some ok → k ≠ i → (listed.setIfInBounds j true).getD k true = false →
          (∀ e ∈ ok.after, Region.binds .any e = true → e.on ≠ i) → oi.apart ops ok = true := fun k ok hk hki hun hno => by
        refine hfree k ok hk hki ?_ hno
        by_cases hjk : j = k
        · subst hjk; exact hjun
        · rw [getD_set_ne true hjk] at hun; exact hun
      refine wpOpIn_mono (fun a' w' h3 => ih (listed.setIfInBounds j true) a' w' (hcl.set hj) hfree' (ready_mono hr (Ne.symm hji)) h3.1 ?_) h2
      rw [Array.setIfInBounds_comm _ _ hji]
      exact h3.2
end
/-- the order tree: '.free' where nothing need stay any more -/
inductive OG where
  | done
  | stop
  | alt (i : Nat) (t : OG) (rest : OG)
  | first (i : Nat) (t : OG)
  | free (t : OP)
def OG.idx : OG → List Nat
  | .alt i _ r => i :: r.idx
  | _ => []
def OG.ok (lasts : List Nat) (ps : List (Nat × List Nat)) (n : Nat) (l : List Oper) : Bool → OG → Nat → Array Bool → Bool
  | _, .done, _, listed => Region.ready .any l.toArray listed == []
  | head, .stop, _, _ => !head
  | head, .alt i t rest, f, listed => (!head || (OG.alt i t rest).idx == Region.ready .any l.toArray listed) && decide (0 < f) && OG.ok lasts ps n l true t (f - 1) (listed.setIfInBounds i true) && OG.ok lasts ps n l false rest f listed && (match l[i]? with | some o => stat n l [o] [] | none => false)
  | head, .first i t, f, listed => head && decide (0 < f) && (Region.ready .any l.toArray listed).contains i && Region.free .any l.toArray listed i && OG.ok lasts ps n l true t (f - 1) (listed.setIfInBounds i true) && (match l[i]? with | some o => stat n l [o] [] && frstOp o.op && o.guard.isNone && !lasts.contains i && (!ldOp o.op || hasPath l.toArray lasts ps i) | none => false)
  | head, .free t, f, listed => head && past lasts listed && OP.ok n l true t f listed
def ef (P : Program) (l : List Oper) (S : Nat → Prop) (w0 : World) (K : FL → World → Prop) : OG → FL → World → Prop
  | .done, L, w => Keep S w0 w ∧ K L w
  | .stop, _, _ => True
  | .alt i t rest, L, w => Keep S w0 w ∧ (match l[i]? with
      | some o => ∀ t0, eg P l t0 [o] [] L w fun L' w' => ef P l S w0 K t L' w'
      | none => False) ∧ ef P l S w0 K rest L w
  | .first i t, L, w => match l[i]? with
      | some o => ∀ t0, qopS P S w0 (rho (lk t0 L)) o.op fun ob v => ob ∧ ef P l S w0 K t (putL L o.dst v) w
      | none => False
  | .free t, L, w => ep P l K t L w
theorem qopS_sound2 {P : Program} {S : Nat → Prop} {w : World} {ρ : Operand → Value} {o : Oper} {K : Prop → Value → Prop} (hf : frstOp o.op = true) (h : qopS P S w ρ o.op K) :
    ∃ ob v, K ob v ∧ (ob → ∀ w', (ldOp o.op = true → Keep S w w') → (execOp ρ o).run P w' = .ok (.value v) w') := by
  by_cases hl : ldOp o.op = true
  · obtain ⟨ob, v, h1, h2⟩ := qopS_sound hf h
    exact ⟨ob, v, h1, fun hb w' hk => h2 hb w' (hk hl)⟩
  · unfold qopS at h
    split at h
    · rename_i t x hop; rw [hop] at hl; exact (hl rfl).elim
    · obtain ⟨ob, v, h1, h2⟩ := qop_sound h
      exact ⟨ob, v, h1, fun hb w' _ => h2 hb w' fun h3 => (hl h3).elim⟩
theorem ef_still {P : Program} {n : Nat} {ds : List Nat} {l : List Oper} {i : Nat} {o : Oper} {L : FL} {a : Act} {S : Nat → Prop} {w0 : World} {K : FL → Prop} (hi : l[i]? = some o) (hs : stat n l [o] [] = true) (hp : frstOp o.op = true) (hg : o.guard = none) (hf : Fr n ds L a)
    (h : ∀ t0, qopS P S w0 (rho (lk t0 L)) o.op fun ob v => ob ∧ K (putL L o.dst v)) : ∃ v, StillAt P (fun w => ldOp o.op = true → Keep S w0 w) l.toArray o v a ∧ ∃ L', Fr n ds L' (a.put o.dst v) ∧ K L' := by
  have hI := Inv.start hf
  obtain ⟨ob, v, ⟨hob, hK⟩, hv⟩ := qopS_sound2 hp (h fun k => a.tmps.getD k undef)
  have hw : Region.wanted o (yielded l.toArray a.tmps) = true := by simp [Region.wanted, hg]
  have hsel : execOp a.eval o = execOp (rho (lk (fun k => a.tmps.getD k undef) L)) o := by
    refine execOp_congr o (fun cs b e => by rw [e] at hp; cases hp) fun x hx => ?_
    have := hI.useO (G := []) (fun c hc => by cases hc) (x := x) (by cases x <;> simp [useO, useK])
    simpa [lkG] using this
  refine ⟨v, .inl ⟨hw, fun w' hx => by rw [hsel]; exact hv hob w' hx⟩, _, hf.put' (fun k hk => ?_) v, hK⟩
  unfold stat at hs
  rw [hk] at hs
  simp only [Bool.and_eq_true, decide_eq_true_eq] at hs
  exact hs.2.1.1.1
mutual
theorem ef_sound {P : Program} {r : Option Nat} {n : Nat} {ds : List Nat} {l : List Oper} {S : Nat → Prop} {w0 : World} {K : FL → World → Prop} {lasts : List Nat} {ps : List (Nat × List Nat)} (hd : noDefer l = true) : ∀ (t : OG) (f : Nat) (listed : Array Bool) (L : FL) (a : Act) (w : World), Closed l.toArray listed → OG.ok lasts ps n l true t f listed = true → Fr n ds L a → ef P l S w0 K t L w →
    wpAF P (Keep S w0) lasts r l.toArray (NQ n ds K) f listed a w
  | .done, f, listed, L, a, w, hcl, h, hf, he => by
    have h0 : Region.ready .any l.toArray listed = [] := by simpa [OG.ok] using h
    cases f with
    | zero => exact ⟨.inr he.1, h0, L, hf, he.2⟩
    | succ f => exact ⟨.inr he.1, fun _ => ⟨L, hf, he.2⟩, fun i hi => by rw [h0] at hi; cases hi⟩
  | .stop, f, listed, L, a, w, hcl, h, hf, he => by simp [OG.ok] at h
  | .free t, f, listed, L, a, w, hcl, h, hf, he => by
    simp only [OG.ok, Bool.true_and, Bool.and_eq_true] at h
    exact wpAF.of_any h.1 (ep_sound hd t f listed L a w h.2 hf he)
  | .first i t, f, listed, L, a, w, hcl, h, hf, he => by
    simp only [OG.ok, Bool.true_and, Bool.and_eq_true, decide_eq_true_eq] at h
    obtain ⟨⟨⟨⟨h1, h2⟩, h3⟩, h4⟩, h5⟩ := h
    obtain ⟨f, rfl⟩ : ∃ g, f = g + 1 := ⟨f - 1, by omega⟩
    unfold ef at he
    split at he
    · rename_i o ho
      rw [ho] at h5
      simp only [Bool.and_eq_true, Option.isNone_iff_eq_none, Bool.not_eq_true', Bool.or_eq_true] at h5
      obtain ⟨⟨⟨⟨hs, hp⟩, hg⟩, hnl⟩, hpt⟩ := h5
      obtain ⟨v, hv, L', hL', hK⟩ := ef_still (ds := ds) (n := n) (K := fun L' => ef P l S w0 K t L' w) ho hs hp hg hf he
      have h0 : l.toArray[i]? = some o := by simpa using ho
      have h2' : i ∈ Region.ready .any l.toArray listed := by simpa using h2
      refine wpAF_first (ldOp o.op) h0 (noDefer_spec hd).1 (noDefer_spec hd).2 hnl (fun hb lis hcl' hu => ?_) f listed a w hcl (Region.free_spec h0 h3) h2' hv ?_
      · rcases hpt with hpt | hpt
        · rw [hb] at hpt; cases hpt
        · exact path_past hpt hcl' hu
      · exact ef_sound hd t f _ L' _ w (hcl.set h2') (by simpa using h4) hL' hK
    · exact he.elim
  | .alt i t rest, f, listed, L, a, w, hcl, h, hf, he => by
    simp only [OG.ok, Bool.not_true, Bool.false_or, Bool.and_eq_true, beq_iff_eq, decide_eq_true_eq] at h
    obtain ⟨⟨⟨⟨h1, h2⟩, h3⟩, h4⟩, h5⟩ := h
    obtain ⟨f, rfl⟩ : ∃ g, f = g + 1 := ⟨f - 1, by omega⟩
    refine ⟨.inr he.1, fun h0 => by rw [h0] at h1; simp [OG.idx] at h1, fun j hj => ?_⟩
    have hj' := hj
    rw [← h1] at hj
    exact ef_alts hd (.alt i t rest) f listed L a w hcl (by simp only [OG.ok, Bool.not_false, Bool.true_or, Bool.and_eq_true, decide_eq_true_eq, Nat.add_sub_cancel]; exact ⟨⟨⟨⟨trivial, by omega⟩, by simpa using h3⟩, h4⟩, h5⟩) hf he j hj hj'
theorem ef_alts {P : Program} {r : Option Nat} {n : Nat} {ds : List Nat} {l : List Oper} {S : Nat → Prop} {w0 : World} {K : FL → World → Prop} {lasts : List Nat} {ps : List (Nat × List Nat)} (hd : noDefer l = true) : ∀ (t : OG) (f : Nat) (listed : Array Bool) (L : FL) (a : Act) (w : World), Closed l.toArray listed → OG.ok lasts ps n l false t (f + 1) listed = true → Fr n ds L a → ef P l S w0 K t L w →
    ∀ j ∈ t.idx, j ∈ Region.ready .any l.toArray listed → wpOpIn (fw r) 0 P l.toArray (NQ n ds K) j (wpAF P (Keep S w0) lasts r l.toArray (NQ n ds K) f (listed.setIfInBounds j true)) a w
  | .done, f, listed, L, a, w, hcl, h, hf, he => by simp [OG.idx]
  | .stop, f, listed, L, a, w, hcl, h, hf, he => by simp [OG.idx]
  | .free _, f, listed, L, a, w, hcl, h, hf, he => by simp [OG.idx]
  | .first _ _, f, listed, L, a, w, hcl, h, hf, he => by simp [OG.idx]
  | .alt i t rest, f, listed, L, a, w, hcl, h, hf, he => by
    simp only [OG.ok, Bool.not_false, Bool.true_or, Bool.and_eq_true, decide_eq_true_eq, Nat.add_sub_cancel] at h
    obtain ⟨⟨⟨_, h3⟩, h4⟩, h6⟩ := h
    intro j hj hjr
    by_cases hji : j = i
    · subst hji
      obtain ⟨_, he1, _⟩ := he
      split at he1
      · rename_i o ho
        have hs : stat n l [o] [] = true := by rw [ho] at h6; exact h6
        have h5 := eg_sound (r := r) [o] [] [] L a w (Inv.start hf) hs (he1 _)
        have h0 : l.toArray[j]? = some o := by simpa using ho
        unfold wpOpIn
        simp only [h0]
        unfold wpListIn at h5
        have key : ∀ a' w', wpListIn (fw r) 0 P l.toArray (NQ n ds fun L' w' => ef P l S w0 K t L' w') [] a' w' → wpAF P (Keep S w0) lasts r l.toArray (NQ n ds K) f (listed.setIfInBounds j true) a' w' := fun a' w' ⟨L', hL', he'⟩ =>
          ef_sound hd t f _ L' a' w' (hcl.set hjr) h3 hL' he'
        split at h5
        · rename_i hw
          rw [if_pos hw]
          exact operWpIn_mono' key h5
        · rename_i hw
          rw [if_neg hw]
          exact ⟨h5.1, key _ _ h5.2⟩
      · exact he1.elim
    · refine ef_alts hd rest f listed L a w hcl h4 hf he.2.2 j ?_ hjr
      simpa [OG.idx, hji] using hj
end
theorem Run_ef (S : Nat → Prop) (lasts : List Nat) (ps : List (Nat × List Nat)) {P : Program} {r : Option Nat} {n : Nat} {ds : List Nat} {k : List Td} {L : FL} {w : World} {Q : Exit → List Nat → FL → World → Prop} {id : Nat} {l : List Oper} (vs : List Nat) (t : OG)
    (hm : P.follows .mixedOrders = true) (hd : noDefer l = true) (hok : OG.ok lasts ps n l true t l.toArray.size (Array.replicate l.toArray.size false) = true)
    (h : ∀ w1, Ext w w1 → w1.heap.size = w.heap.size → ef P l S w1 (fun L' w' => Run P r n ds k (prune vs L') w' Q) t L w1) : Run P r n ds (.code (.region id l.toArray true) :: k) L w Q := fun a ha => by
  refine wpIn_mono (wpIn_region_any hm (ef_sound hd t _ _ L a _ (Closed.start _ _) hok ha (h _ (Ext.drew w) rfl)).any) fun e a' w' hq => ?_
  cases e <;> first | exact hq.elim | (obtain ⟨L', hL, hK⟩ := hq; exact hK a' hL.prune)
end Go.Fk
