/- A drawn region all of whose effects leave what was: operations that touch no memory, and loads, may be taken first. No program is named. -/
import Derived.Test.YtpiijpgfgcbfaaaFk
set_option linter.unusedSimpArgs false
set_option linter.unusedVariables false
namespace Go.Fk
open Go Go.RowKit
/-- an operation that answers alike in every world of a class -/
def StillAt (P : Program) (C : World → Prop) (ops : Array Oper) (o : Oper) (v : Value) (a : Act) : Prop :=
  (Region.wanted o (yielded ops a.tmps) = true ∧ ∀ w, C w → (execOp a.eval o).run P w = .ok (.value v) w) ∨ (Region.wanted o (yielded ops a.tmps) = false ∧ v = undef)
theorem StillAt.of_same {P : Program} {C : World → Prop} {ops : Array Oper} {o : Oper} {v : Value} {a a' : Act} (hy : StillAt P C ops o v a) (he : execOp a'.eval o = execOp a.eval o)
    (hw : Region.wanted o (yielded ops a'.tmps) = Region.wanted o (yielded ops a.tmps)) : StillAt P C ops o v a' := by
  unfold StillAt at *
  rw [he, hw]; exact hy
section
variable {P : Program} {C : World → Prop} {r : Option Nat} {ops : Array Oper} {n : Nat} {ds : List Nat} {M : FL → World → Prop}
theorem StillAt.wpOpIn {i : Nat} {o : Oper} {v : Value} {a : Act} {w : World} {Q : Exit → Act → World → Prop} (hi : ops[i]? = some o) (hd : ∀ c, o.op ≠ .defer c) (hy : StillAt P C ops o v a) (hC : C w) {K : Act → World → Prop} (h : K (a.put o.dst v) w) : Go.wpOpIn (fw r) 0 P ops Q i K a w := by
  unfold Go.wpOpIn
  simp only [hi]
  rcases hy with ⟨h1, h2⟩ | ⟨h1, rfl⟩
  · rw [if_pos h1]
    exact oper_wpIn_of hd (.inl ⟨v, w, h2 w hC, h⟩)
  · rw [if_neg (by simp [h1])]
    exact ⟨fun _ _ => trivial, h⟩
theorem wpOpIn_putC {j : Nat} {oi oj : Oper} {v : Value} (hj : ops[j]? = some oj) (hap : oi.apart ops oj = true) (hsi : ∀ cs b, oi.op ≠ .select cs b) (hsj : ∀ cs b, oj.op ≠ .select cs b) (hnd : ∀ c, oj.op ≠ .defer c) {K : Act → World → Prop} {a : Act} {w : World}
    (hy : StillAt P C ops oi v a) (h : wpOpIn (fw r) 0 P ops (NQ n ds M) j K (a.put oi.dst v) w) : wpOpIn (fw r) 0 P ops (NQ n ds M) j (fun a' w' => StillAt P C ops oi v a' ∧ K (a'.put oi.dst v) w') a w := by
  obtain ⟨h1, h2, h3⟩ := Oper.apart_spec hap
  have keep : ∀ u, StillAt P C ops oi v (a.put oj.dst u) := fun u => hy.of_same (execOp_put oi hsi a oj.dst u h3) (wanted_put oi a oj.dst u h3)
  unfold wpOpIn at *
  simp only [hj] at *
  rw [wanted_put oj a oi.dst v h1] at h
  split
  · rename_i hw
    simp only [hw, if_true] at h
    refine ⟨fun _ _ => trivial, ?_⟩
    have hh := h.2
    rw [Oper.semAt_eq _ _ _ hnd] at hh ⊢
    rw [execOp_put oj hsj a oi.dst v h1] at hh
    have hput : ∀ u, (a.put oi.dst v).put oj.dst u = (a.put oj.dst u).put oi.dst v := fun u => Act.put_comm a v u h2
    generalize (execOp a.eval oj).run P w = rr at *
    cases rr with
    | ok x w' =>
      cases x with
      | value u => exact ⟨keep u, by rw [← hput]; exact hh⟩
      | skip => exact ⟨keep _, by rw [← hput]; exact hh⟩
      | defer d =>
        simp only [Oper.uponIn] at hh ⊢
        have e1 : ({ (a.put oi.dst v) with defers := d :: (a.put oi.dst v).defers } : Act).put oj.dst undef = (({ a with defers := d :: a.defers } : Act).put oj.dst undef).put oi.dst v := by
          have := Act.put_comm { a with defers := d :: a.defers } v undef h2
          rw [← this]
          cases oi.dst <;> rfl
        rw [e1] at hh
        refine ⟨?_, hh⟩
        have := keep undef
        have e2 : (({ a with defers := d :: a.defers } : Act).put oj.dst undef).tmps = (a.put oj.dst undef).tmps := by cases oj.dst <;> rfl
        refine this.of_same ?_ (by rw [e2])
        congr 1
        funext x
        cases x <;> simp only [Act.eval, e2]
      | enter g args =>
        simp only [Oper.uponIn] at hh ⊢
        refine ⟨hh.1, CallsIn.mono hh.2 fun e w'' he => ?_⟩
        cases e with
        | returned u => exact ⟨keep u, by rw [← hput]; exact he⟩
        | panicked ch => exact he.elim
        | outgrown => obtain ⟨_, _, h0⟩ := he; exact h0.elim
      | row x y =>
        simp only [Oper.uponIn] at hh ⊢
        exact ⟨hh.1, RowsIn.mono hh.2 fun u w'' he => ⟨keep u, by rw [← hput]; exact he⟩⟩
      | round l g ts as bd =>
        simp only [Oper.uponIn] at hh ⊢
        refine ⟨hh.1, RoundIn.mono hh.2 fun e w'' he => ?_⟩
        cases e with
        | returned u => exact ⟨keep u, by rw [← hput]; exact he⟩
        | panicked ch => exact he.elim
        | outgrown => obtain ⟨_, _, h0⟩ := he; exact h0.elim
      | _ => simp only [Oper.uponIn] at hh
    | halt x w' => cases x <;> simp only [Oper.uponIn] at hh ⊢ <;> exact hh.elim
  · rename_i hw
    simp only [hw] at h
    exact ⟨fun _ _ => trivial, keep _, by rw [← Act.put_comm a v undef h2]; exact h.2⟩
/-- all orders, the worlds between them of a class -/
def wpAC (P : Program) (C : World → Prop) (r : Option Nat) (ops : Array Oper) (Q : Exit → Act → World → Prop) : Nat → Array Bool → Act → World → Prop
  | 0, listed, a, w => C w ∧ Region.ready .any ops listed = [] ∧ Q .normal a w
  | f + 1, listed, a, w => C w ∧ (Region.ready .any ops listed = [] → Q .normal a w) ∧ ∀ i ∈ Region.ready .any ops listed, wpOpIn (fw r) 0 P ops Q i (wpAC P C r ops Q f (listed.setIfInBounds i true)) a w
theorem wpAC.c {Q : Exit → Act → World → Prop} {f : Nat} {listed : Array Bool} {a : Act} {w : World} (h : wpAC P C r ops Q f listed a w) : C w := by
  cases f <;> exact h.1
theorem wpAC.any {Q : Exit → Act → World → Prop} : ∀ {f : Nat} {listed : Array Bool} {a : Act} {w : World}, wpAC P C r ops Q f listed a w → wpAnyIn (fw r) 0 P .any ops Q f listed a w
  | 0, _, _, _, h => h.2
  | f + 1, _, _, _, h => ⟨h.2.1, fun i hi => wpOpIn_mono (fun _ _ h => h.any) (h.2.2 i hi)⟩
theorem wpAC_first {i : Nat} {oi : Oper} {v : Value} (hi : ops[i]? = some oi) (hsel : ∀ (j : Nat) (o : Oper) cs b, ops[j]? = some o → o.op ≠ .select cs b) (hdef : ∀ (j : Nat) (o : Oper) c, ops[j]? = some o → o.op ≠ .defer c) :
    ∀ (fuel : Nat) (listed : Array Bool) (a : Act) (w : World),
      (∀ j oj, ops[j]? = some oj → j ≠ i → listed.getD j true = false → (∀ e ∈ oj.after, Region.binds .any e = true → e.on ≠ i) → oi.apart ops oj = true) →
      i ∈ Region.ready .any ops listed → StillAt P C ops oi v a →
      wpAC P C r ops (NQ n ds M) fuel (listed.setIfInBounds i true) (a.put oi.dst v) w → wpAC P C r ops (NQ n ds M) (fuel + 1) listed a w := by
  intro fuel
  induction fuel with
  | zero =>
    intro listed a w _ hr hy H
    refine ⟨H.c, fun h => (by rw [h] at hr; cases hr), fun j hj => ?_⟩
    by_cases hji : j = i
    · subst hji; exact hy.wpOpIn hi (fun c => hdef j oi c hi) H.c H
    · have := ready_mono hj hji
      rw [H.2.1] at this; cases this
  | succ f ih =>
    intro listed a w hfree hr hy H
    refine ⟨H.c, fun h => (by rw [h] at hr; cases hr), fun j hj => ?_⟩
    by_cases hji : j = i
    · subst hji; exact hy.wpOpIn hi (fun c => hdef j oi c hi) H.c H
    · have h1 := H.2.2 j (ready_mono hj hji)
      obtain ⟨hjun, oj, hoj, hall⟩ := mem_ready.1 hj
      have hun := (mem_ready.1 hr).1
      have hnot : ∀ e ∈ oj.after, Region.binds .any e = true → e.on ≠ i := fun e he hb heq => by
        have h1 := hall e he hb
        rw [heq, getD_both hun] at h1
        cases h1
      have h2 := wpOpIn_putC hoj (hfree j oj hoj hji hjun hnot) (fun cs b => hsel i oi cs b hi) (fun cs b => hsel j oj cs b hoj) (fun c => hdef j oj c hoj) hy h1
      have hfree' : ∀ k ok, ops[k]? = some ok → k ≠ i → (listed.setIfInBounds j true).getD k true = false →
          (∀ e ∈ ok.after, Region.binds .any e = true → e.on ≠ i) → oi.apart ops ok = true := fun k ok hk hki hun hno => by
        refine hfree k ok hk hki ?_ hno
        by_cases hjk : j = k
        · subst hjk; exact hjun
        · rw [getD_set_ne true hjk] at hun; exact hun
      refine wpOpIn_mono (fun a' w' h3 => ih (listed.setIfInBounds j true) a' w' hfree' (ready_mono hr (Ne.symm hji)) h3.1 ?_) h2
      rw [Array.setIfInBounds_comm _ _ hji]
      exact h3.2
end
theorem qg_still {P : Program} {C : World → Prop} {w : World} {all : List Oper} {t0 : Nat → Value} {o : Oper} {L : FL} {K : FL → Prop} (hp : (pureOp o.op || ldOp o.op) = true) (hg : o.guard = none) (hq : qg P C all w t0 [o] [] L K) :
    ∃ v, ∀ w', Ext w w' → (execOp (rho (lk t0 L)) o).run P w' = .ok (.value v) w' := by
  have key : ∀ K' : Prop → Value → Prop, (∀ ob v, K' ob v → ob) → qop P w (rho (lk t0 L)) o.op K' → ∃ v, ∀ w', Ext w w' → (execOp (rho (lk t0 L)) o).run P w' = .ok (.value v) w' := by
    intro K' hK h
    obtain ⟨ob, v, h1, h2⟩ := qop_sound h
    exact ⟨v, fun w' hx => h2 (hK _ _ h1) w' fun _ => hx⟩
  unfold qg at hq
  simp only [hg, gchain, gimp, lkG] at hq
  split at hq
  · rename_i c x y hop; rw [hop] at hp; cases hp
  · rename_i c hop
    rw [hop] at hp
    split at hq
    · rename_i f hf
      simp [pureOp, ldOp, hf] at hp
    · have h2 : qop P w (rho (lk t0 L)) o.op (fun ob v => ob ∧ (match o.dst with | none => qg P C all w t0 [] [] L K | some d => qg P C all w t0 [] [] ((d, some v) :: L) K)) := by rw [hop]; exact hq
      exact key _ (fun ob v h => h.1) h2
  · rename_i op hnp hnc
    exact key _ (fun ob v h => h.1) hq
def OP.okL (n : Nat) (l : List Oper) : Bool → OP → Nat → Array Bool → Bool
  | _, .done, _, listed => Region.ready .any l.toArray listed == []
  | head, .stop, _, _ => !head
  | head, .alt i t rest, f, listed => (!head || (OP.alt i t rest).idx == Region.ready .any l.toArray listed) && decide (0 < f) && OP.okL n l true t (f - 1) (listed.setIfInBounds i true) && OP.okL n l false rest f listed && (match l[i]? with | some o => stat n l [o] [] | none => false)
  | head, .first i t, f, listed => head && decide (0 < f) && (Region.ready .any l.toArray listed).contains i && Region.free .any l.toArray listed i && OP.okL n l true t (f - 1) (listed.setIfInBounds i true) && (match l[i]? with | some o => stat n l [o] [] && (pureOp o.op || ldOp o.op) && o.guard.isNone | none => false)
/-- all orders of a region in w0 -/
def ec (P : Program) (l : List Oper) (w0 : World) (K : FL → World → Prop) : OP → FL → World → Prop
  | .done, L, w => Ext w0 w ∧ K L w
  | .stop, _, _ => True
  | .alt i t rest, L, w => Ext w0 w ∧ (match l[i]? with
      | some o => ∀ t0, eg P l t0 [o] [] L w fun L' w' => ec P l w0 K t L' w'
      | none => False) ∧ ec P l w0 K rest L w
  | .first i t, L, w => match l[i]? with
      | some o => ∀ t0, qg P (Ext w0) l w0 t0 [o] [] L fun L' => ec P l w0 K t L' w
      | none => False
theorem ec_still {P : Program} {n : Nat} {ds : List Nat} {l : List Oper} {i : Nat} {o : Oper} {L : FL} {a : Act} {w0 : World} {K : FL → Prop} (hi : l[i]? = some o) (hs : stat n l [o] [] = true) (hp : (pureOp o.op || ldOp o.op) = true) (hg : o.guard = none) (hf : Fr n ds L a)
    (h : ∀ t0, qg P (Ext w0) l w0 t0 [o] [] L K) : ∃ v, StillAt P (Ext w0) l.toArray o v a ∧ ∃ L', Fr n ds L' (a.put o.dst v) ∧ K L' := by
  have hI := Inv.start hf
  have hq := h fun k => a.tmps.getD k undef
  obtain ⟨v, hv⟩ := qg_still hp hg hq
  have hw : Region.wanted o (yielded l.toArray a.tmps) = true := by simp [Region.wanted, hg]
  have hsel : execOp a.eval o = execOp (rho (lk (fun k => a.tmps.getD k undef) L)) o := by
    refine execOp_congr o (fun cs b e => by rw [e] at hp; cases hp) fun x hx => ?_
    have := hI.useO (G := []) (fun c hc => by cases hc) (x := x) (by cases x <;> simp [useO, useK])
    simpa [lkG] using this
  have hrun : ∀ w', Ext w0 w' → (execOp a.eval o).run P w' = .ok (.value v) w' := fun w' hx => by rw [hsel]; exact hv w' hx
  refine ⟨v, .inl ⟨hw, hrun⟩, ?_⟩
  have := qg_sound (P := P) (C := Ext w0) (w := w0) (fun _ h => h) [o] [] [] L a hI hs hq
  unfold wpQuiet at this
  rw [if_pos hw] at this
  obtain ⟨u, hu, hn⟩ := this
  have hu := hu w0 (Ext.refl w0)
  unfold Oper.quietAt at hu
  rw [hrun w0 (Ext.refl w0)] at hu
  have : u = v := hu.2.symm
  subst this
  exact hn
mutual
theorem ec_sound {P : Program} {r : Option Nat} {n : Nat} {ds : List Nat} {l : List Oper} {w0 : World} {K : FL → World → Prop} (hd : noDefer l = true) : ∀ (t : OP) (f : Nat) (listed : Array Bool) (L : FL) (a : Act) (w : World), OP.okL n l true t f listed = true → Fr n ds L a → ec P l w0 K t L w →
    wpAC P (Ext w0) r l.toArray (NQ n ds K) f listed a w
  | .done, f, listed, L, a, w, h, hf, he => by
    have h0 : Region.ready .any l.toArray listed = [] := by simpa [OP.okL] using h
    cases f with
    | zero => exact ⟨he.1, h0, L, hf, he.2⟩
    | succ f => exact ⟨he.1, fun _ => ⟨L, hf, he.2⟩, fun i hi => by rw [h0] at hi; cases hi⟩
  | .stop, f, listed, L, a, w, h, hf, he => by simp [OP.okL] at h
  | .first i t, f, listed, L, a, w, h, hf, he => by
    simp only [OP.okL, Bool.true_and, Bool.and_eq_true, decide_eq_true_eq] at h
    obtain ⟨⟨⟨⟨h1, h2⟩, h3⟩, h4⟩, h5⟩ := h
    obtain ⟨f, rfl⟩ : ∃ g, f = g + 1 := ⟨f - 1, by omega⟩
    unfold ec at he
    split at he
    · rename_i o ho
      rw [ho] at h5
      simp only [Bool.and_eq_true, Option.isNone_iff_eq_none] at h5
      obtain ⟨⟨hs, hp⟩, hg⟩ := h5
      obtain ⟨v, hv, L', hL', hK⟩ := ec_still (ds := ds) (n := n) ho hs hp hg hf he
      have h0 : l.toArray[i]? = some o := by simpa using ho
      refine wpAC_first h0 (noDefer_spec hd).1 (noDefer_spec hd).2 f listed a w (Region.free_spec h0 h3) (by simpa using h2) hv ?_
      exact ec_sound hd t f _ L' _ w (by simpa using h4) hL' hK
    · exact he.elim
  | .alt i t rest, f, listed, L, a, w, h, hf, he => by
    simp only [OP.okL, Bool.not_true, Bool.false_or, Bool.and_eq_true, beq_iff_eq, decide_eq_true_eq] at h
    obtain ⟨⟨⟨⟨h1, h2⟩, h3⟩, h4⟩, h5⟩ := h
    obtain ⟨f, rfl⟩ : ∃ g, f = g + 1 := ⟨f - 1, by omega⟩
    refine ⟨he.1, fun h0 => by rw [h0] at h1; simp [OP.idx] at h1, fun j hj => ?_⟩
    rw [← h1] at hj
    exact ec_alts hd (.alt i t rest) f listed L a w (by simp only [OP.okL, Bool.not_false, Bool.true_or, Bool.and_eq_true, decide_eq_true_eq, Nat.add_sub_cancel]; exact ⟨⟨⟨⟨trivial, by omega⟩, by simpa using h3⟩, h4⟩, h5⟩) hf he j hj
theorem ec_alts {P : Program} {r : Option Nat} {n : Nat} {ds : List Nat} {l : List Oper} {w0 : World} {K : FL → World → Prop} (hd : noDefer l = true) : ∀ (t : OP) (f : Nat) (listed : Array Bool) (L : FL) (a : Act) (w : World), OP.okL n l false t (f + 1) listed = true → Fr n ds L a → ec P l w0 K t L w →
    ∀ j ∈ t.idx, wpOpIn (fw r) 0 P l.toArray (NQ n ds K) j (wpAC P (Ext w0) r l.toArray (NQ n ds K) f (listed.setIfInBounds j true)) a w
  | .done, f, listed, L, a, w, h, hf, he => by simp [OP.idx]
  | .stop, f, listed, L, a, w, h, hf, he => by simp [OP.idx]
  | .first _ _, f, listed, L, a, w, h, hf, he => by simp [OP.idx]
  | .alt i t rest, f, listed, L, a, w, h, hf, he => by
    simp only [OP.okL, Bool.not_false, Bool.true_or, Bool.and_eq_true, decide_eq_true_eq, Nat.add_sub_cancel] at h
    obtain ⟨⟨⟨_, h3⟩, h4⟩, h6⟩ := h
    intro j hj
    by_cases hji : j = i
    · subst hji
      obtain ⟨_, he1, _⟩ := he
      split at he1
      · rename_i o ho
        have hs : stat n l [o] [] = true := by rw [ho] at h6; exact h6
        have h5 := eg_sound (r := r) [o] [] [] L a w (Inv.start hf) hs (he1 _)
        have h0 : l.toArray[j]? = some o := by simpa using ho
        unfold wpOpIn
        simp only [h0]
        unfold wpListIn at h5
        have key : ∀ a' w', wpListIn (fw r) 0 P l.toArray (NQ n ds fun L' w' => ec P l w0 K t L' w') [] a' w' → wpAC P (Ext w0) r l.toArray (NQ n ds K) f (listed.setIfInBounds j true) a' w' := fun a' w' ⟨L', hL', he'⟩ =>
          ec_sound hd t f _ L' a' w' h3 hL' he'
        split at h5
        · rename_i hw
          rw [if_pos hw]
          exact operWpIn_mono' key h5
        · rename_i hw
          rw [if_neg hw]
          exact ⟨h5.1, key _ _ h5.2⟩
      · exact he1.elim
    · refine ec_alts hd rest f listed L a w h4 hf he.2.2 j ?_
      simpa [OP.idx, hji] using hj
end
theorem Run_ec {P : Program} {r : Option Nat} {n : Nat} {ds : List Nat} {k : List Td} {L : FL} {w : World} {Q : Exit → List Nat → FL → World → Prop} {id : Nat} {l : List Oper} (vs : List Nat) (t : OP)
    (hm : P.follows .mixedOrders = true) (hd : noDefer l = true) (hok : OP.okL n l true t l.toArray.size (Array.replicate l.toArray.size false) = true)
    (h : ∀ w1, Ext w w1 → w1.heap.size = w.heap.size → ec P l w1 (fun L' w' => Run P r n ds k (prune vs L') w' Q) t L w1) : Run P r n ds (.code (.region id l.toArray true) :: k) L w Q := fun a ha => by
  refine wpIn_mono (wpIn_region_any hm (ec_sound hd t _ _ L a _ hok ha (h _ (Ext.drew w) rfl)).any) fun e a' w' hq => ?_
  cases e <;> first | exact hq.elim | (obtain ⟨L', hL, hK⟩ := hq; exact hK a' hL.prune)
end Go.Fk
