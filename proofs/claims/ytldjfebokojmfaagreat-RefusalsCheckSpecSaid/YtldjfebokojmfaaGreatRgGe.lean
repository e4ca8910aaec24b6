import Derived.Test.YtldjfebokojmfaaGreatRgFk
import Derived.MapKept
set_option linter.unusedSimpArgs false
set_option linter.unusedVariables false
namespace Go.Fk
open Go Go.RowKit
def StillAt (P : Program) (C : World → Prop) (ops : Array Oper) (o : Oper) (v : Value) (a : Act) : Prop :=
  (Region.wanted o (yielded ops a.tmps) = true ∧ ∀ w, C w → (execOp a.eval o).run P w = .ok (.value v) w) ∨ (Region.wanted o (yielded ops a.tmps) = false ∧ v = undef)
theorem StillAt.of_same {P : Program} {C : World → Prop} {ops : Array Oper} {o : Oper} {v : Value} {a a' : Act} (hy : StillAt P C ops o v a) (he : execOp a'.eval o = execOp a.eval o)
    (hw : Region.wanted o (yielded ops a'.tmps) = Region.wanted o (yielded ops a.tmps)) : StillAt P C ops o v a' := by
  unfold StillAt at *
  rw [he, hw]; exact hy
section
variable {P : Program} {C : World → Prop} {r : Option Nat} {ops : Array Oper} {n : Nat} {ds : List DF} {M : FL → World → Prop}
theorem StillAt.wpOpIn {i : Nat} {o : Oper} {v : Value} {a : Act} {w : World} {Q : Exit → Act → World → Prop} (hi : ops[i]? = some o) (hd : ∀ c, o.op ≠ .defer c) (hy : StillAt P C ops o v a) (hC : C w) {K : Act → World → Prop} (h : K (a.put o.dst v) w) : Go.wpOpIn (fw r) 0 P ops Q i K a w := by
  unfold Go.wpOpIn
  simp only [hi]
  rcases hy with ⟨h1, h2⟩ | ⟨h1, rfl⟩
  · rw [if_pos h1]
    exact oper_wpIn_of hd (.inl ⟨v, w, h2 w hC, h⟩)
  · rw [if_neg (by simp [h1])]
    exact ⟨fun _ _ => trivial, h⟩
theorem wpOpIn_putC {j : Nat} {oi oj : Oper} {v : Value} (hj : ops[j]? = some oj) (hap : oi.apart ops oj = true) (hsi : ∀ cs b, oi.op ≠ .select cs b) (hsj : ∀ cs b, oj.op ≠ .select cs b) (hnd : ∀ c, oj.op ≠ .defer c) {K : Act → World → Prop} {a : Act} {w : World}
    (hy : StillAt P C ops oi v a) (h : wpOpIn (fw r) 0 P ops (NQ n ds M) j K (a.put oi.dst v) w) : wpOpIn (fw r) 0 P ops (NQ n ds M) j (fun a' w' => StillAt P C ops oi v a' ∧ K (a'.put oi.dst v) w') a w := by
  obtain ⟨h1, h2, h3⟩ := Oper.apart_spec hap
  have keep : ∀ u, StillAt P C ops oi v (a.put oj.dst u) := fun u => hy.of_same (execOp_put oi hsi a oj.dst u h3) (wanted_put oi a oj.dst u h3)
  unfold wpOpIn at *
  simp only [hj] at *
  rw [wanted_put oj a oi.dst v h1] at h
  split
  · rename_i hw
    simp only [hw, if_true] at h
    refine ⟨fun _ _ => trivial, ?_⟩
    have hh := h.2
    rw [Oper.semAt_eq _ _ _ hnd] at hh ⊢
    rw [execOp_put oj hsj a oi.dst v h1] at hh
    have hput : ∀ u, (a.put oi.dst v).put oj.dst u = (a.put oj.dst u).put oi.dst v := fun u => Act.put_comm a v u h2
    generalize (execOp a.eval oj).run P w = rr at *
    cases rr with
    | ok x w' =>
      cases x with
      | value u => exact ⟨keep u, by rw [← hput]; exact hh⟩
      | skip => exact ⟨keep _, by rw [← hput]; exact hh⟩
      | defer d =>
        simp only [Oper.uponIn] at hh ⊢
        have e1 : ({ (a.put oi.dst v) with defers := d :: (a.put oi.dst v).defers } : Act).put oj.dst undef = (({ a with defers := d :: a.defers } : Act).put oj.dst undef).put oi.dst v := by
          have := Act.put_comm { a with defers := d :: a.defers } v undef h2
          rw [← this]
          cases oi.dst <;> rfl
        rw [e1] at hh
        refine ⟨?_, hh⟩
        have := keep undef
        have e2 : (({ a with defers := d :: a.defers } : Act).put oj.dst undef).tmps = (a.put oj.dst undef).tmps := by cases oj.dst <;> rfl
        refine this.of_same ?_ (by rw [e2])
        congr 1
        funext x
        cases x <;> simp only [Act.eval, e2]
      | enter g args =>
        simp only [Oper.uponIn] at hh ⊢
        refine ⟨hh.1, CallsIn.mono hh.2 fun e w'' he => ?_⟩
        cases e with
        | returned u => exact ⟨keep u, by rw [← hput]; exact he⟩
        | panicked ch => exact he.elim
        | outgrown => obtain ⟨_, _, h0⟩ := he; exact h0.elim
      | row x y =>
        simp only [Oper.uponIn] at hh ⊢
        exact ⟨hh.1, RowsIn.mono hh.2 fun u w'' he => ⟨keep u, by rw [← hput]; exact he⟩⟩
      | round l g ts as bd =>
        simp only [Oper.uponIn] at hh ⊢
        refine ⟨hh.1, RoundIn.mono hh.2 fun e w'' he => ?_⟩
        cases e with
        | returned u => exact ⟨keep u, by rw [← hput]; exact he⟩
        | panicked ch => exact he.elim
        | outgrown => obtain ⟨_, _, h0⟩ := he; exact h0.elim
      | _ => simp only [Oper.uponIn] at hh
    | halt x w' => cases x <;> simp only [Oper.uponIn] at hh ⊢ <;> exact hh.elim
  · rename_i hw
    simp only [hw] at h
    exact ⟨fun _ _ => trivial, keep _, by rw [← Act.put_comm a v undef h2]; exact h.2⟩
def wpAC (P : Program) (C : World → Prop) (r : Option Nat) (ops : Array Oper) (Q : Exit → Act → World → Prop) : Nat → Array Bool → Act → World → Prop
  | 0, listed, a, w => C w ∧ Region.ready .any ops listed = [] ∧ Q .normal a w
  | f + 1, listed, a, w => C w ∧ (Region.ready .any ops listed = [] → Q .normal a w) ∧ ∀ i ∈ Region.ready .any ops listed, wpOpIn (fw r) 0 P ops Q i (wpAC P C r ops Q f (listed.setIfInBounds i true)) a w
theorem wpAC.c {Q : Exit → Act → World → Prop} {f : Nat} {listed : Array Bool} {a : Act} {w : World} (h : wpAC P C r ops Q f listed a w) : C w := by
  cases f <;> exact h.1
theorem wpAC.any {Q : Exit → Act → World → Prop} : ∀ {f : Nat} {listed : Array Bool} {a : Act} {w : World}, wpAC P C r ops Q f listed a w → wpAnyIn (fw r) 0 P .any ops Q f listed a w
  | 0, _, _, _, h => h.2
  | f + 1, _, _, _, h => ⟨h.2.1, fun i hi => wpOpIn_mono (fun _ _ h => h.any) (h.2.2 i hi)⟩
theorem wpAC_first {i : Nat} {oi : Oper} {v : Value} (hi : ops[i]? = some oi) (hsel : ∀ (j : Nat) (o : Oper) cs b, ops[j]? = some o → o.op ≠ .select cs b) (hdef : ∀ (j : Nat) (o : Oper) c, ops[j]? = some o → o.op ≠ .defer c) :
    ∀ (fuel : Nat) (listed : Array Bool) (a : Act) (w : World),
      (∀ j oj, ops[j]? = some oj → j ≠ i → listed.getD j true = false → (∀ e ∈ oj.after, Region.binds .any e = true → e.on ≠ i) → oi.apart ops oj = true) →
      i ∈ Region.ready .any ops listed → StillAt P C ops oi v a →
      wpAC P C r ops (NQ n ds M) fuel (listed.setIfInBounds i true) (a.put oi.dst v) w → wpAC P C r ops (NQ n ds M) (fuel + 1) listed a w := by
  intro fuel
  induction fuel with
  | zero =>
    intro listed a w _ hr hy H
    refine ⟨H.c, fun h => (by rw [h] at hr; cases hr), fun j hj => ?_⟩
    by_cases hji : j = i
    · subst hji; exact hy.wpOpIn hi (fun c => hdef j oi c hi) H.c H
    · have := ready_mono hj hji
      rw [H.2.1] at this; cases this
  | succ f ih =>
    intro listed a w hfree hr hy H
    refine ⟨H.c, fun h => (by rw [h] at hr; cases hr), fun j hj => ?_⟩
    by_cases hji : j = i
    · subst hji; exact hy.wpOpIn hi (fun c => hdef j oi c hi) H.c H
    · have h1 := H.2.2 j (ready_mono hj hji)
      obtain ⟨hjun, oj, hoj, hall⟩ := mem_ready.1 hj
      have hun := (mem_ready.1 hr).1
      have hnot : ∀ e ∈ oj.after, Region.binds .any e = true → e.on ≠ i := fun e he hb heq => by
        have h1 := hall e he hb
        rw [heq, getD_both hun] at h1
        cases h1
      have h2 := wpOpIn_putC hoj (hfree j oj hoj hji hjun hnot) (fun cs b => hsel i oi cs b hi) (fun cs b => hsel j oj cs b hoj) (fun c => hdef j oj c hoj) hy h1
      have hfree' : ∀ k ok, ops[k]? = some ok → k ≠ i → (listed.setIfInBounds j true).getD k true = false →
          (∀ e ∈ ok.after, Region.binds .any e = true → e.on ≠ i) → oi.apart ops ok = true := fun k ok hk hki hun hno => by
        refine hfree k ok hk hki ?_ hno
        by_cases hjk : j = k
        · subst hjk; exact hjun
        · rw [getD_set_ne true hjk] at hun; exact hun
      refine wpOpIn_mono (fun a' w' h3 => ih (listed.setIfInBounds j true) a' w' hfree' (ready_mono hr (Ne.symm hji)) h3.1 ?_) h2
      rw [Array.setIfInBounds_comm _ _ hji]
      exact h3.2
end
theorem qg_still {P : Program} {C : World → Prop} {w : World} {all : List Oper} {t0 : Nat → Value} {o : Oper} {L : FL} {K : FL → Prop} (hp : (pureOp o.op || ldOp o.op) = true) (hg : o.guard = none) (hq : qg P C all w t0 [o] [] L K) :
    ∃ v, ∀ w', Ext w w' → (execOp (rho (lk t0 L)) o).run P w' = .ok (.value v) w' := by
  have key : ∀ K' : Prop → Value → Prop, (∀ ob v, K' ob v → ob) → qop P w (rho (lk t0 L)) o.op K' → ∃ v, ∀ w', Ext w w' → (execOp (rho (lk t0 L)) o).run P w' = .ok (.value v) w' := by
    intro K' hK h
    obtain ⟨ob, v, h1, h2⟩ := qop_sound h
    exact ⟨v, fun w' hx => h2 (hK _ _ h1) w' fun _ => hx⟩
  unfold qg at hq
  simp only [hg, gchain, gimp, lkG] at hq
  split at hq
  · rename_i c x y hop; rw [hop] at hp; cases hp
  · rename_i c hop
    rw [hop] at hp
    split at hq
    · rename_i f hf
      simp [pureOp, ldOp, hf] at hp
    · have h2 : qop P w (rho (lk t0 L)) o.op (fun ob v => ob ∧ (match o.dst with | none => qg P C all w t0 [] [] L K | some d => qg P C all w t0 [] [] ((d, some v) :: L) K)) := by rw [hop]; exact hq
      exact key _ (fun ob v h => h.1) h2
  · rename_i op hnp hnc
    exact key _ (fun ob v h => h.1) hq
def OP.okL (n : Nat) (l : List Oper) : Bool → OP → Nat → Array Bool → Bool
  | _, .done, _, listed => Region.ready .any l.toArray listed == []
  | head, .stop, _, _ => !head
  | head, .alt i t rest, f, listed => (!head || (OP.alt i t rest).idx == Region.ready .any l.toArray listed) && decide (0 < f) && OP.okL n l true t (f - 1) (listed.setIfInBounds i true) && OP.okL n l false rest f listed && (match l[i]? with | some o => stat n l [o] [] | none => false)
  | head, .first i t, f, listed => head && decide (0 < f) && (Region.ready .any l.toArray listed).contains i && Region.free .any l.toArray listed i && OP.okL n l true t (f - 1) (listed.setIfInBounds i true) && (match l[i]? with | some o => stat n l [o] [] && (pureOp o.op || ldOp o.op) && o.guard.isNone | none => false)
def ec (P : Program) (l : List Oper) (w0 : World) (K : FL → World → Prop) : OP → FL → World → Prop
  | .done, L, w => Ext w0 w ∧ K L w
  | .stop, _, _ => True
  | .alt i t rest, L, w => Ext w0 w ∧ (match l[i]? with
      | some o => ∀ t0, eg P l t0 [o] [] L w fun L' w' => ec P l w0 K t L' w'
      | none => False) ∧ ec P l w0 K rest L w
  | .first i t, L, w => match l[i]? with
      | some o => ∀ t0, qg P (Ext w0) l w0 t0 [o] [] L fun L' => ec P l w0 K t L' w
      | none => False
theorem ec_still {P : Program} {n : Nat} {ds : List DF} {l : List Oper} {i : Nat} {o : Oper} {L : FL} {a : Act} {w0 : World} {K : FL → Prop} (hi : l[i]? = some o) (hs : stat n l [o] [] = true) (hp : (pureOp o.op || ldOp o.op) = true) (hg : o.guard = none) (hf : Fr n ds L a)
    (h : ∀ t0, qg P (Ext w0) l w0 t0 [o] [] L K) : ∃ v, StillAt P (Ext w0) l.toArray o v a ∧ ∃ L', Fr n ds L' (a.put o.dst v) ∧ K L' := by
  have hI := Inv.start hf
  have hq := h fun k => a.tmps.getD k undef
  obtain ⟨v, hv⟩ := qg_still hp hg hq
  have hw : Region.wanted o (yielded l.toArray a.tmps) = true := by simp [Region.wanted, hg]
  have hsel : execOp a.eval o = execOp (rho (lk (fun k => a.tmps.getD k undef) L)) o := by
    refine execOp_congr o (fun cs b e => by rw [e] at hp; cases hp) fun x hx => ?_
    have := hI.useO (G := []) (fun c hc => by cases hc) (x := x) (by cases x <;> simp [useO, useK])
    simpa [lkG] using this
  have hrun : ∀ w', Ext w0 w' → (execOp a.eval o).run P w' = .ok (.value v) w' := fun w' hx => by rw [hsel]; exact hv w' hx
  refine ⟨v, .inl ⟨hw, hrun⟩, ?_⟩
  have := qg_sound (P := P) (C := Ext w0) (w := w0) (fun _ h => h) [o] [] [] L a hI hs hq
  unfold wpQuiet at this
  rw [if_pos hw] at this
  obtain ⟨u, hu, hn⟩ := this
  have hu := hu w0 (Ext.refl w0)
  unfold Oper.quietAt at hu
  rw [hrun w0 (Ext.refl w0)] at hu
  have : u = v := hu.2.symm
  subst this
  exact hn
mutual
theorem ec_sound {P : Program} {r : Option Nat} {n : Nat} {ds : List DF} {l : List Oper} {w0 : World} {K : FL → World → Prop} (hd : noDefer l = true) : ∀ (t : OP) (f : Nat) (listed : Array Bool) (L : FL) (a : Act) (w : World), OP.okL n l true t f listed = true → Fr n ds L a → ec P l w0 K t L w →
    wpAC P (Ext w0) r l.toArray (NQ n ds K) f listed a w
  | .done, f, listed, L, a, w, h, hf, he => by
    have h0 : Region.ready .any l.toArray listed = [] := by simpa [OP.okL] using h
    cases f with
    | zero => exact ⟨he.1, h0, L, hf, he.2⟩
    | succ f => exact ⟨he.1, fun _ => ⟨L, hf, he.2⟩, fun i hi => by rw [h0] at hi; cases hi⟩
  | .stop, f, listed, L, a, w, h, hf, he => by simp [OP.okL] at h
  | .first i t, f, listed, L, a, w, h, hf, he => by
    simp only [OP.okL, Bool.true_and, Bool.and_eq_true, decide_eq_true_eq] at h
    obtain ⟨⟨⟨⟨h1, h2⟩, h3⟩, h4⟩, h5⟩ := h
    obtain ⟨f, rfl⟩ : ∃ g, f = g + 1 := ⟨f - 1, by omega⟩
    unfold ec at he
    split at he
    · rename_i o ho
      rw [ho] at h5
      simp only [Bool.and_eq_true, Option.isNone_iff_eq_none] at h5
      obtain ⟨⟨hs, hp⟩, hg⟩ := h5
      obtain ⟨v, hv, L', hL', hK⟩ := ec_still (ds := ds) (n := n) ho hs hp hg hf he
      have h0 : l.toArray[i]? = some o := by simpa using ho
      refine wpAC_first h0 (noDefer_spec hd).1 (noDefer_spec hd).2 f listed a w (Region.free_spec h0 h3) (by simpa using h2) hv ?_
      exact ec_sound hd t f _ L' _ w (by simpa using h4) hL' hK
    · exact he.elim
  | .alt i t rest, f, listed, L, a, w, h, hf, he => by
    simp only [OP.okL, Bool.not_true, Bool.false_or, Bool.and_eq_true, beq_iff_eq, decide_eq_true_eq] at h
    obtain ⟨⟨⟨⟨h1, h2⟩, h3⟩, h4⟩, h5⟩ := h
    obtain ⟨f, rfl⟩ : ∃ g, f = g + 1 := ⟨f - 1, by omega⟩
    refine ⟨he.1, fun h0 => by rw [h0] at h1; simp [OP.idx] at h1, fun j hj => ?_⟩
    rw [← h1] at hj
    exact ec_alts hd (.alt i t rest) f listed L a w (by simp only [OP.okL, Bool.not_false, Bool.true_or, Bool.and_eq_true, decide_eq_true_eq, Nat.add_sub_cancel]; exact ⟨⟨⟨⟨trivial, by omega⟩, by simpa using h3⟩, h4⟩, h5⟩) hf he j hj
theorem ec_alts {P : Program} {r : Option Nat} {n : Nat} {ds : List DF} {l : List Oper} {w0 : World} {K : FL → World → Prop} (hd : noDefer l = true) : ∀ (t : OP) (f : Nat) (listed : Array Bool) (L : FL) (a : Act) (w : World), OP.okL n l false t (f + 1) listed = true → Fr n ds L a → ec P l w0 K t L w →
    ∀ j ∈ t.idx, wpOpIn (fw r) 0 P l.toArray (NQ n ds K) j (wpAC P (Ext w0) r l.toArray (NQ n ds K) f (listed.setIfInBounds j true)) a w
  | .done, f, listed, L, a, w, h, hf, he => by simp [OP.idx]
  | .stop, f, listed, L, a, w, h, hf, he => by simp [OP.idx]
  | .first _ _, f, listed, L, a, w, h, hf, he => by simp [OP.idx]
  | .alt i t rest, f, listed, L, a, w, h, hf, he => by
    simp only [OP.okL, Bool.not_false, Bool.true_or, Bool.and_eq_true, decide_eq_true_eq, Nat.add_sub_cancel] at h
    obtain ⟨⟨⟨_, h3⟩, h4⟩, h6⟩ := h
    intro j hj
    by_cases hji : j = i
    · subst hji
      obtain ⟨_, he1, _⟩ := he
      split at he1
      · rename_i o ho
        have hs : stat n l [o] [] = true := by rw [ho] at h6; exact h6
        have h5 := eg_sound (r := r) [o] [] [] L a w (Inv.start hf) hs (he1 _)
        have h0 : l.toArray[j]? = some o := by simpa using ho
        unfold wpOpIn
        simp only [h0]
        unfold wpListIn at h5
        have key : ∀ a' w', wpListIn (fw r) 0 P l.toArray (NQ n ds fun L' w' => ec P l w0 K t L' w') [] a' w' → wpAC P (Ext w0) r l.toArray (NQ n ds K) f (listed.setIfInBounds j true) a' w' := fun a' w' ⟨L', hL', he'⟩ =>
          ec_sound hd t f _ L' a' w' h3 hL' he'
        split at h5
        · rename_i hw
          rw [if_pos hw]
          exact operWpIn_mono' key h5
        · rename_i hw
          rw [if_neg hw]
          exact ⟨h5.1, key _ _ h5.2⟩
      · exact he1.elim
    · refine ec_alts hd rest f listed L a w h4 hf he.2.2 j ?_
      simpa [OP.idx, hji] using hj
end
theorem Run_ec {P : Program} {r : Option Nat} {n : Nat} {ds : List DF} {k : List Td} {L : FL} {w : World} {Q : Exit → List DF → FL → World → Prop} {id : Nat} {l : List Oper} (vs : List Nat) (t : OP)
    (hm : P.follows .mixedOrders = true) (hd : noDefer l = true) (hok : OP.okL n l true t l.toArray.size (Array.replicate l.toArray.size false) = true)
    (h : ∀ w1, Ext w w1 → w1.heap.size = w.heap.size → ec P l w1 (fun L' w' => Run P r n ds k (prune vs L') w' Q) t L w1) : Run P r n ds (.code (.region id l.toArray true) :: k) L w Q := fun a ha => by
  refine wpIn_mono (wpIn_region_any hm (ec_sound hd t _ _ L a _ hok ha (h _ (Ext.drew w) rfl)).any) fun e a' w' hq => ?_
  cases e <;> first | exact hq.elim | (obtain ⟨L', hL, hK⟩ := hq; exact hK a' hL.prune)
end Go.Fk
set_option linter.unusedVariables false
set_option linter.unusedSimpArgs false
namespace Go.Fk
open Go
theorem operWpIn_monoN {P : Program} {r : Option Nat} {o : Oper} {a : Act} {w : World} {K K' : Act → World → Prop} {Q Q' : Exit → Act → World → Prop} (hq : ∀ e, e ≠ .normal → ∀ a w, Q e a w → Q' e a w) (hk : ∀ a w, K a w → K' a w)
    (h : o.wpIn (fw r) 0 P a w K Q) : o.wpIn (fw r) 0 P a w K' Q' := by
  refine ⟨h.1, ?_⟩
  have hh := h.2
  generalize (o.semAt (fw r).round a.eval).run P w = rr at *
  cases rr with
  | ok x w' =>
    cases x <;> simp only [Oper.uponIn] at hh ⊢ <;>
      first
        | exact hk _ _ hh
        | exact ⟨hh.1, CallsIn.mono hh.2 (fun e w'' he => by cases e <;> first | exact hk _ _ he | exact hq _ (by simp) _ _ he | (obtain ⟨a0, w0, h0⟩ := he; exact ⟨a0, w0, hq _ (by simp) _ _ h0⟩))⟩
        | exact ⟨hh.1, RowsIn.mono hh.2 (fun _ _ he => hk _ _ he)⟩
        | exact ⟨hh.1, RoundIn.mono hh.2 (fun e w'' he => by cases e <;> first | exact hk _ _ he | exact hq _ (by simp) _ _ he | (obtain ⟨a0, w0, h0⟩ := he; exact ⟨a0, w0, hq _ (by simp) _ _ h0⟩))⟩
  | halt x w' => cases x <;> simp only [Oper.uponIn] at hh ⊢ <;> exact hq _ (by simp) _ _ hh
theorem wpListIn_append {P : Program} {r : Option Nat} {ops : Array Oper} {Q' Q : Exit → Act → World → Prop} {l2 : List Oper} (h2 : ∀ a w, Q' .normal a w → wpListIn (fw r) 0 P ops Q l2 a w) (hq : ∀ e, e ≠ .normal → ∀ a w, Q' e a w → Q e a w) :
    ∀ (l1 : List Oper) (a : Act) (w : World), wpListIn (fw r) 0 P ops Q' l1 a w → wpListIn (fw r) 0 P ops Q (l1 ++ l2) a w
  | [], a, w, h => h2 a w h
  | o :: l, a, w, h => by
    rw [List.cons_append]
    unfold wpListIn at h ⊢
    split at h
    · rename_i hw; rw [if_pos hw]; exact operWpIn_monoN hq (fun a w h => wpListIn_append h2 hq l a w h) h
    · rename_i hw; rw [if_neg hw]; exact ⟨h.1, wpListIn_append h2 hq l _ _ h.2⟩
def dstL : Option Nat → FL → FL
  | none, L => L
  | some d, L => (d, none) :: L
theorem put_size' {a : Act} {d : Option Nat} (v : Value) : (a.put d v).tmps.size = a.tmps.size := by cases d <;> simp [Act.put]
theorem Fr.dst {n : Nat} {ds : List DF} {L : FL} {a : Act} (h : Fr n ds L a) (d : Option Nat) (v : Value) : Fr n ds (dstL d L) (a.put d v) := by
  cases d with
  | none => exact h
  | some d =>
    refine ⟨by rw [put_size']; exact h.size, by rw [put_defers]; exact h.defers, fun k u hk => ?_⟩
    unfold dstL fnd at hk
    split at hk
    · cases hk
    · rename_i hne
      rw [put_getD_ne v hne]; exact h.at_ k u hk
section
variable {P : Program} {r : Option Nat} {n : Nat} {ds : List DF} {M : FL → World → Prop} {l : List Oper} {o : Oper} {Q : Exit → Act → World → Prop}
end
end Go.Fk
set_option linter.unusedSimpArgs false
set_option linter.unusedVariables false
namespace Go.Fk
open Go Go.RowKit Go.MapKept
def kv (k : List Int) : Value := .agg (k.map (Value.int .i64)).toArray
theorem allI_ints : ∀ k : List Int, allI (k.map (Value.int .i64))
  | [] => trivial
  | _ :: r => ⟨rfl, allI_ints r⟩
theorem eqI_ints : ∀ a b : List Int, eqI (a.map (Value.int .i64)) (b.map (Value.int .i64)) = (a == b)
  | [], [] => rfl
  | [], _ :: _ => rfl
  | _ :: _, [] => rfl
  | a :: r, b :: s => by
    show ((a == b) && eqI (r.map _) (s.map _)) = _
    rw [eqI_ints r s]; rfl
theorem checkKey_flat {P : Program} {t : TypeId} {k : List Int} (hf : flatT P t = true) (hx : k.length = P.cellsOf t) (em : Bool) (w : World) : (Instr.checkKey em 10000 t (kv k)).run P w = .ok () w := by
  unfold flatT at hf
  split at hf
  · rename_i fs hu
    simp only [Bool.and_eq_true, Bool.not_eq_true', beq_iff_eq] at hf
    obtain ⟨⟨⟨hs, _⟩, hsz⟩, hall⟩ := hf
    have key : ∀ (l : List Field) (i : Nat), (l.zipIdx i).all (fun p => p.1.name != "_" && p.1.offset == p.2 && (match P.underlying p.1.type with | some (.int .i64) => true | _ => false)) = true → i + l.length = k.length →
        (forIn (m := Sem) l PUnit.unit (fun f _ => do
          if f.name ≠ "_" then Instr.checkKey em 9999 f.type (← part f.type (k.map (Value.int .i64)).toArray f.offset)
          pure (.yield PUnit.unit))).run P w = .ok PUnit.unit w := by
      intro l
      induction l with
      | nil => intro i _ _; simp
      | cons f l ih =>
        intro i hal hi
        simp only [List.zipIdx_cons, List.all_cons, Bool.and_eq_true, bne_iff_ne, ne_eq, beq_iff_eq] at hal
        obtain ⟨⟨⟨hn, ho⟩, hk⟩, hal⟩ := hal
        simp only [List.length_cons] at hi
        have hix : i < k.length := by omega
        have hu1 : P.underlying f.type = some (.int .i64) := by
          split at hk
          · assumption
          · cases hk
        have hp : (part f.type (k.map (Value.int .i64)).toArray f.offset).run P w = .ok (.int .i64 k[i]) w := by
          have hagg : (isAgg f.type).run P w = .ok false w := by
            unfold isAgg
            rw [Sem.run_bind]
            simp [underlying, hu1]
          unfold part
          rw [Sem.run_bind, hagg]
          simp [ho, hix]
        have hc : (Instr.checkKey em 9999 f.type (.int .i64 k[i])).run P w = .ok () w := by
          unfold Instr.checkKey
          rw [Sem.run_bind]
          simp [underlying, hu1]
        have ih' := ih (i + 1) hal (by omega)
        rw [List.forIn_cons]
        simp only [Sem.run_bind, hn, not_false_eq_true, ne_eq, if_true, hp, Result.andThen_ok, hc, Sem.run_pure]
        exact ih'
    have := key fs.toList 0 hall (by simp; omega)
    unfold Instr.checkKey kv
    rw [Sem.run_bind]
    simp only [underlying, hu, Sem.run_bind, run_program, Result.andThen_ok, Sem.run_pure]
    rw [← Array.forIn_toList]
    simp only [this, Result.andThen_ok, Sem.run_pure]
  · cases hf
theorem eq_flat {P : Program} {t : TypeId} {a b : List Int} (hf : flatT P t = true) (ha : a.length = P.cellsOf t) (hb : b.length = P.cellsOf t) (w : World) : (Op.equal t (kv a) (kv b)).run P w = .ok (a == b) w := by
  have := flat_run (P := P) hf (xs := a.map (Value.int .i64)) (ys := b.map (Value.int .i64)) (by simpa using ha) (by simpa using hb) (allI_ints a) (allI_ints b) w
  rw [eqI_ints] at this
  exact this
def ffind (k : List Int) : List (List Int × Value) → Nat → Option (Nat × Value)
  | [], _ => none
  | p :: r, i => if (k == p.1) = true then some (i, p.2) else ffind k r (i + 1)
def pairs (es : List MapEntry) : List (Value × Value) := es.map fun e => (e.key, e.val)
theorem findAsk {P : Program} {t : TypeId} {k : List Int} (hf : flatT P t = true) (hk : k.length = P.cellsOf t) (w : World) : ∀ (m : List (List Int × Value)) (es : List MapEntry) (i : Nat), pairs es = m.map (fun p => (kv p.1, p.2)) → (∀ p ∈ m, p.1.length = P.cellsOf t) →
    (Instr.findAsking t (kv k) es i).run P w = .ok (ffind k m i) w
  | [], [], i, _, _ => by simp [Instr.findAsking, ffind]
  | [], e :: es, i, h, _ => by simp [pairs] at h
  | p :: m, [], i, h, _ => by simp [pairs] at h
  | p :: m, e :: es, i, h, hl => by
    simp only [pairs, List.map_cons, List.cons.injEq, Prod.mk.injEq] at h
    obtain ⟨⟨h1, h2⟩, h3⟩ := h
    have ih := findAsk hf hk w m es (i + 1) h3 fun q hq => hl q (List.mem_cons_of_mem _ hq)
    have he := eq_flat (P := P) hf hk (hl p (List.mem_cons_self ..)) w
    unfold Instr.findAsking
    rw [Sem.run_bind, h1, he]
    unfold ffind
    by_cases hq : (k == p.1) = true
    · simp [hq, h2]
    · simp only [Bool.not_eq_true] at hq
      simp [hq, ih]
theorem findK {P : Program} {t : TypeId} {k : List Int} (hf : flatT P t = true) (hk : k.length = P.cellsOf t) (w : World) {m : List (List Int × Value)} {es : List MapEntry} (h : pairs es = m.map (fun p => (kv p.1, p.2))) (hl : ∀ p ∈ m, p.1.length = P.cellsOf t) :
    (Instr.findKey t (kv k) es).run P w = .ok (ffind k m 0) w := by
  have hu : ∃ fs, P.underlying t = some (.struct fs) := by
    unfold flatT at hf
    split at hf
    · rename_i fs h; exact ⟨fs, h⟩
    · cases hf
  obtain ⟨fs, hu⟩ := hu
  unfold Instr.findKey
  rw [Sem.run_bind, underlying_run hu]
  cases es with
  | nil =>
    have : m = [] := by cases m with | nil => rfl | cons _ _ => simp [pairs] at h
    subst this
    simp [Instr.findNow, ffind]
  | cons e es =>
    have : Instr.findNow (.struct fs) (kv k) (e :: es) 0 = none := by
      simp [Instr.findNow, Instr.sameNow]
    simp only [Result.andThen_ok, this]
    exact findAsk hf hk w m (e :: es) 0 h hl
structure MapB (w : World) (b n : Nat) (m : List (List Int × Value)) : Prop where
  ex : ∃ es clock, w.heap[b]? = some (.map es clock) ∧ pairs es.toList = m.map (fun p => (kv p.1, p.2))
  len : ∀ p ∈ m, p.1.length = n
theorem MapB.lt {w : World} {b n : Nat} {m : List (List Int × Value)} (h : MapB w b n m) : b < w.heap.size := by
  obtain ⟨es, c, h1, _⟩ := h.ex
  exact (Array.getElem?_eq_some_iff.1 h1).1
theorem MapB.keep {w w' : World} {b n : Nat} {m : List (List Int × Value)} {S : Nat → Prop} (h : MapB w b n m) (k : Keep S w w') (hs : S b) : MapB w' b n m := by
  have hlt := h.lt
  obtain ⟨es, c, h1, h2⟩ := h.ex
  exact ⟨⟨es, c, (k.block _ hlt hs).trans h1, h2⟩, h.len⟩
theorem MapB.ext {w w' : World} {b n : Nat} {m : List (List Int × Value)} (h : MapB w b n m) (k : Ext w w') : MapB w' b n m := h.keep (Keep.of_ext (S := fun _ => True) k) trivial
def mget (m : List (List Int × Value)) (k : List Int) : Option Value := (ffind k m 0).map (·.2)
def mset (k : List Int) (v : Value) : List (List Int × Value) → List (List Int × Value)
  | [] => [(k, v)]
  | p :: r => if (k == p.1) = true then (k, v) :: r else p :: mset k v r
theorem ffind_some {k : List Int} : ∀ (m : List (List Int × Value)) (i : Nat) {j : Nat} {v : Value}, ffind k m i = some (j, v) → ∃ d, j = i + d ∧ ∃ h : d < m.length, m[d] = (k, v) ∧ ∀ x, mset k x m = m.set d (k, x)
  | [], i, j, v, h => by cases h
  | p :: m, i, j, v, h => by
    unfold ffind at h
    by_cases hq : (k == p.1) = true
    · rw [if_pos hq] at h
      cases h
      refine ⟨0, rfl, by simp, ?_, fun x => by simp [mset, hq]⟩
      have : k = p.1 := by simpa using hq
      rw [this]; rfl
    · rw [if_neg hq] at h
      obtain ⟨d, e, hd, h1, h2⟩ := ffind_some m (i + 1) h
      refine ⟨d + 1, by omega, by simpa using hd, by simpa using h1, fun x => ?_⟩
      simp only [mset, if_neg hq, h2, List.set_cons_succ]
theorem ffind_none {k : List Int} : ∀ (m : List (List Int × Value)) (i : Nat), ffind k m i = none → ∀ x, mset k x m = m ++ [(k, x)]
  | [], i, h, x => rfl
  | p :: m, i, h, x => by
    unfold ffind at h
    by_cases hq : (k == p.1) = true
    · rw [if_pos hq] at h; cases h
    · rw [if_neg hq] at h
      simp only [mset, if_neg hq, ffind_none m (i + 1) h x, List.cons_append]
theorem mset_len {n : Nat} {k : List Int} {v : Value} (hk : k.length = n) : ∀ (m : List (List Int × Value)), (∀ p ∈ m, p.1.length = n) → ∀ p ∈ mset k v m, p.1.length = n
  | [], _, p, hp => by simp [mset] at hp; rw [hp]; exact hk
  | q :: m, h, p, hp => by
    unfold mset at hp
    split at hp
    · rcases List.mem_cons.1 hp with rfl | hp
      · exact hk
      · exact h p (List.mem_cons_of_mem _ hp)
    · rcases List.mem_cons.1 hp with rfl | hp
      · exact h _ (List.mem_cons_self ..)
      · exact mset_len hk m (fun x hx => h x (List.mem_cons_of_mem _ hx)) p hp
theorem ffind_shift (k : List Int) : ∀ (m : List (List Int × Value)) (i j : Nat), (ffind k m i).map (·.2) = (ffind k m j).map (·.2)
  | [], _, _ => rfl
  | p :: m, i, j => by
    simp only [ffind]
    split
    · rfl
    · exact ffind_shift k m (i + 1) (j + 1)
theorem mget_cons (p : List Int × Value) (m : List (List Int × Value)) (k : List Int) : mget (p :: m) k = if (k == p.1) = true then some p.2 else mget m k := by
  unfold mget
  simp only [ffind]
  split
  · rfl
  · exact ffind_shift k m 1 0
theorem mget_set (k : List Int) (v : Value) (k' : List Int) : ∀ m : List (List Int × Value), mget (mset k v m) k' = if (k' == k) = true then some v else mget m k'
  | [] => by simp [mset, mget_cons]
  | p :: m => by
    unfold mset
    by_cases hq : (k == p.1) = true
    · rw [if_pos hq, mget_cons, mget_cons]
      have e : k = p.1 := by simpa using hq
      simp only [e]
      split <;> rfl
    · rw [if_neg hq, mget_cons, mget_cons, mget_set k v k' m]
      by_cases h1 : (k' == p.1) = true
      · rw [if_pos h1, if_pos h1, if_neg]
        intro h2
        have e1 : k' = p.1 := by simpa using h1
        have e2 : k' = k := by simpa using h2
        exact hq (by rw [← e2, e1]; simp)
      · rw [if_neg h1, if_neg h1]
theorem sameBits_kv (k : List Int) : Instr.sameBits 10000 (kv k) (kv k) = true := by
  show ((k.map (Value.int .i64)).toArray.size == (k.map (Value.int .i64)).toArray.size && (((k.map (Value.int .i64)).toArray.toList.zip (k.map (Value.int .i64)).toArray.toList).all fun (x, y) => Instr.sameBits 9999 x y)) = true
  simp only [beq_self_eq_true, Bool.true_and, List.all_eq_true]
  rintro ⟨x, y⟩ h
  have : x = y ∧ ∃ i : Int, x = .int .i64 i := by
    obtain ⟨j, hj, e⟩ := List.getElem_of_mem h
    simp at e
    exact ⟨by rw [← e.1, ← e.2], _, e.1.symm⟩
  obtain ⟨rfl, i, rfl⟩ := this
  simp [Instr.sameBits]
section
variable {P : Program} {w : World} {mt kt et : TypeId} {b : Nat} {m : List (List Int × Value)} {k : List Int}
theorem SemW_lookup {ok : Bool} {z : Value} {sz by_ : Nat} (ht : P.underlying mt = some (.map kt et)) (hf : flatT P kt = true) (hT : TI P et z sz by_) (hM : MapB w b (P.cellsOf kt) m) (hk : k.length = P.cellsOf kt) {K : Value → World → Prop}
    (hK : K (if ok then .tuple #[(mget m k).getD z, .bool (mget m k).isSome] else (mget m k).getD z) w) : SemW P (Instr.lookup mt (.map (some b)) (kv k) ok) w K := by
  obtain ⟨es, c, h1, h2⟩ := hM.ex
  obtain ⟨i, hi, hz, _, _⟩ := info_parts hT.h
  refine SemW.of_run ?_ hK
  unfold Instr.lookup
  rw [Sem.run_bind, underlying_run ht]
  simp only [Result.andThen_ok, Sem.run_bind, Go.MapKept.run_getObj_map h1, Sem.run_pure, checkKey_flat hf hk, findK hf hk w h2 hM.len]
  unfold mget
  cases hfnd : ffind k m 0 with
  | none => cases ok <;> simp [zeroValue, typeInfo, hi, hz]
  | some p => cases ok <;> simp
theorem SemW_mapUpdate {x : Value} (ht : P.underlying mt = some (.map kt et)) (hf : flatT P kt = true) (hM : MapB w b (P.cellsOf kt) m) (hk : k.length = P.cellsOf kt) {K : Unit → World → Prop}
    (hK : ∀ w', MapB w' b (P.cellsOf kt) (mset k x m) → Keep (fun g => g ≠ b) w w' → w'.heap.size = w.heap.size → K () w') : SemW P (Instr.mapUpdate mt (.map (some b)) (kv k) x) w K := by
  obtain ⟨es, c, h1, h2⟩ := hM.ex
  have fin : ∀ es' c', pairs es'.toList = (mset k x m).map (fun p => (kv p.1, p.2)) → K () { w with heap := w.heap.setIfInBounds b (.map es' c') } := fun es' c' he => by
    obtain ⟨a1, a2⟩ := heap_set (o' := .map es' c') h1
    exact hK _ ⟨⟨es', c', a1, he⟩, mset_len hk m hM.len⟩ ⟨rfl, rfl, rfl, by simp, fun g _ hg => a2 g hg⟩ (by simp)
  have hsz : es.toList.length = m.length := by
    have := congrArg List.length h2
    simpa [pairs] using this
  cases hfnd : ffind k m 0 with
  | none =>
    refine SemW.of_run (v := ()) (w' := { w with heap := w.heap.setIfInBounds b (.map (es.push { key := kv k, val := x, born := c }) (c + 1)) }) ?_ (fin _ _ ?_)
    · unfold Instr.mapUpdate
      rw [Sem.run_bind, underlying_run ht]
      simp only [Result.andThen_ok, Sem.run_bind, Go.MapKept.run_getObj_map h1, checkKey_flat hf hk, findK hf hk w h2 hM.len, hfnd, Go.MapKept.run_setObj_map _ h1]
    · rw [ffind_none m 0 hfnd x]
      simp [pairs] at h2 ⊢
      exact h2
  | some p =>
    obtain ⟨j, v⟩ := p
    obtain ⟨d, e, hd, h3, h4⟩ := ffind_some m 0 hfnd
    have e : j = d := by omega
    subst e
    have hj : j < es.size := by simpa using (show j < es.toList.length by omega)
    have hkey : es[j].key = kv k := by
      have := congrArg (fun l => l[j]?) h2
      simp [pairs, hj, hd, h3] at this
      exact this.1
    refine SemW.of_run (v := ()) (w' := { w with heap := w.heap.setIfInBounds b (.map (es.modify j fun e => { e with key := kv k, val := x }) c) }) ?_ (fin _ _ ?_)
    · unfold Instr.mapUpdate
      rw [Sem.run_bind, underlying_run ht]
      simp only [Result.andThen_ok, Sem.run_bind, Go.MapKept.run_getObj_map h1, checkKey_flat hf hk, findK hf hk w h2 hM.len, hfnd]
      have hkk : (Instr.keyThatStays (((es[j]?).map (·.key)).getD (kv k)) (kv k)).run P w = .ok (kv k) w := by
        rw [Array.getElem?_eq_getElem hj]
        simp only [Option.map_some, Option.getD_some, hkey]
        unfold Instr.keyThatStays
        rw [if_pos (sameBits_kv k), Sem.run_pure]
      simp only [hkk, Result.andThen_ok, Go.MapKept.run_setObj_map _ h1]
    · rw [h4 x]
      apply List.ext_getElem?
      intro q
      have hq := congrArg (fun l => l[q]?) h2
      simp only [pairs, List.getElem?_map] at hq ⊢
      rw [Array.toList_modify, List.getElem?_modify, List.getElem?_set]
      by_cases e : j = q
      · subst e
        simp [hj, hd]
      · simp only [e, if_false]
        simpa [e] using hq
theorem SemW_makeMap {K : Value → World → Prop} (hK : ∀ w', MapB w' w.heap.size (P.cellsOf kt) [] → Ext w w' → w'.heap.size = w.heap.size + 1 → K (.map (some w.heap.size)) w') : SemW P (Instr.makeMap mt none) w K :=
  SemW.of_run (run_makeMap mt w) (hK _ ⟨⟨#[], 0, (heap_alloc w _).1, rfl⟩, fun p hp => by cases hp⟩ ((Below.refl _ _).alloc (Nat.le_refl _) _) (by show (w.heap.push _).size = _; simp))
end
end Go.Fk
set_option linter.unusedSimpArgs false
set_option linter.unusedVariables false
namespace Go.Fk
open Go Go.RowKit
theorem run_memN' {P : Program} {w w' : World} (a : Addr) (hx : ∀ i, has1 w (a.add i) → w'.cell? (a.add i) = some (mem w (a.add i))) : ∀ (n i : Nat) (acc : Array Value), hasN w a i n →
    (loadCellsFrom a i n acc).run P w' = .ok (acc ++ (memN w a i n).toArray) w'
  | 0, i, acc, _ => by simp [loadCellsFrom, memN]
  | n + 1, i, acc, h => by
    have h1 := hx i h.1
    have ih := run_memN' (P := P) a hx n (i + 1) (acc.push (mem w (a.add i))) h.2
    simp only [loadCellsFrom, Sem.run_bind, run_load, h1, Result.andThen_ok, ih]
    simp [memN]
theorem keep_cell {S : Nat → Prop} {w w' : World} (hk : Keep S w w') {a : Addr} (hs : S a.block) (h : has1 w a) : w'.cell? a = some (mem w a) := by
  have hb := World.block_lt_of_cell? _ _ h.cell
  have h1 := h.cell
  unfold World.cell? at h1 ⊢
  rw [hk.block _ hb hs]; exact h1
theorem loadVar_one' {P : Program} {t : TypeId} (h : oneCell P t = true) {w w' : World} {a : Addr} (hx : w'.cell? a = some (mem w a)) :
    (loadVar t a).run P w' = .ok (mem w a) w' := by
  unfold loadVar
  simp [Sem.run_bind, isAgg_one h, hx]
theorem loadVar_agg' {P : Program} {t : TypeId} (h : manyCell P t = true)
    {w w' : World} {a : Addr} (hx : ∀ i, has1 w (a.add i) → w'.cell? (a.add i) = some (mem w (a.add i))) (ha : hasN w a 0 (P.cellsOf t)) (hne : P.cellsOf t ≠ 0) :
    (loadVar t a).run P w' = .ok (.agg (memN w a 0 (P.cellsOf t)).toArray) w' := by
  obtain ⟨i, hi, hsz⟩ := cells_info hne
  have hs : (sizeOf t).run P w' = .ok (P.cellsOf t) w' := by simp [sizeOf, typeInfo, hi, hsz]
  unfold loadVar
  simp only [Sem.run_bind, isAgg_many h, hs, Result.andThen_ok, if_true]
  simp [loadCells, run_memN' a hx _ 0 #[] ha]
def qopS (P : Program) (S : Nat → Prop) (w : World) (ρ : Operand → Value) (op : Op) (K : Prop → Value → Prop) : Prop :=
  match op with
  | .load t x => qop P w ρ (.load t x) fun ob v => S (ptOf (ρ x)).block ∧ K ob v
  | op => qop P w ρ op K
def frstOp : Op → Bool
  | .load _ _ => true
  | .build _ _ => true
  | op => pureOp op
theorem qopS_sound {P : Program} {S : Nat → Prop} {w : World} {ρ : Operand → Value} {o : Oper} {K : Prop → Value → Prop} (hf : frstOp o.op = true) (h : qopS P S w ρ o.op K) :
    ∃ ob v, K ob v ∧ (ob → ∀ w', Keep S w w' → (execOp ρ o).run P w' = .ok (.value v) w') := by
  unfold qopS at h
  split at h
  · rename_i t x hop
    obtain ⟨dst, op, type, pos, after, guard⟩ := o
    simp only at hop
    subst hop
    unfold qop at h
    simp only at h
    split at h
    · rename_i h1
      refine ⟨_, _, h.2, fun ⟨hp, hc⟩ w' hk => ?_⟩
      have hl := loadVar_one' (P := P) h1 (keep_cell hk h.1 hc)
      obtain ⟨a, ha⟩ := hp.ex
      rw [ha] at hl
      simp only [ptOf_mk] at hl
      simp [execOp, ha, Instr.loadAt, Instr.sureAddr, hl]
    · split at h
      · refine ⟨_, _, h.2.2, fun ⟨hp, hc⟩ w' hk => ?_⟩
        have hl := loadVar_agg' (P := P) h.1.1 (fun i hi => keep_cell hk (by rw [blk_add]; exact h.2.1) hi) hc h.1.2
        obtain ⟨a, ha⟩ := hp.ex
        rw [ha] at hl
        simp only [ptOf_mk] at hl
        simp [execOp, ha, Instr.loadAt, Instr.sureAddr, hl, memA]
      · refine ⟨_, _, h.2.2, fun ⟨hp, hc⟩ w' hk => ?_⟩
        have hl := loadVar_agg' (P := P) h.1.1 (fun i hi => keep_cell hk (by rw [blk_add]; exact h.2.1) hi) hc h.1.2
        obtain ⟨a, ha⟩ := hp.ex
        rw [ha] at hl
        simp only [ptOf_mk] at hl
        simp [execOp, ha, Instr.loadAt, Instr.sureAddr, hl]
  · rename_i op hnl
    obtain ⟨ob, v, h1, h2⟩ := qop_sound h
    refine ⟨ob, v, h1, fun hb w' _ => h2 hb w' fun hl => ?_⟩
    cases hop : o.op with
    | load t x => exact (hnl t x hop).elim
    | _ => rw [hop] at hl; cases hl
def OP.okS (n : Nat) (l : List Oper) : Bool → OP → Nat → Array Bool → Bool
  | _, .done, _, listed => Region.ready .any l.toArray listed == []
  | head, .stop, _, _ => !head
  | head, .alt i t rest, f, listed => (!head || (OP.alt i t rest).idx == Region.ready .any l.toArray listed) && decide (0 < f) && OP.okS n l true t (f - 1) (listed.setIfInBounds i true) && OP.okS n l false rest f listed && (match l[i]? with | some o => stat n l [o] [] | none => false)
  | head, .first i t, f, listed => head && decide (0 < f) && (Region.ready .any l.toArray listed).contains i && Region.free .any l.toArray listed i && OP.okS n l true t (f - 1) (listed.setIfInBounds i true) && (match l[i]? with | some o => stat n l [o] [] && frstOp o.op && o.guard.isNone | none => false)
def putL (L : FL) (d : Option Nat) (v : Value) : FL := match d with | none => L | some d => (d, some v) :: L
def es (P : Program) (l : List Oper) (S : Nat → Prop) (w0 : World) (K : FL → World → Prop) : OP → FL → World → Prop
  | .done, L, w => Keep S w0 w ∧ K L w
  | .stop, _, _ => True
  | .alt i t rest, L, w => Keep S w0 w ∧ (match l[i]? with
      | some o => ∀ t0, eg P l t0 [o] [] L w fun L' w' => es P l S w0 K t L' w'
      | none => False) ∧ es P l S w0 K rest L w
  | .first i t, L, w => match l[i]? with
      | some o => ∀ t0, qopS P S w0 (rho (lk t0 L)) o.op fun ob v => ob ∧ es P l S w0 K t (putL L o.dst v) w
      | none => False
theorem Fr.put' {n : Nat} {ds : List DF} {L : FL} {a : Act} (hf : Fr n ds L a) {d : Option Nat} (hd : ∀ k, d = some k → k < n) (v : Value) : Fr n ds (putL L d v) (a.put d v) := by
  cases d with
  | none => exact ⟨hf.size, hf.defers, hf.at_⟩
  | some k =>
    refine ⟨by rw [put_size]; exact hf.size, by rw [put_defers]; exact hf.defers, fun j u hj => ?_⟩
    simp only [putL, fnd] at hj
    by_cases e : k = j
    · subst e
      rw [if_pos rfl] at hj
      cases hj
      exact put_getD_same v (by rw [hf.size]; exact hd k rfl)
    · rw [if_neg e] at hj
      rw [put_getD_ne v e]; exact hf.at_ j u hj
theorem es_still {P : Program} {n : Nat} {ds : List DF} {l : List Oper} {i : Nat} {o : Oper} {L : FL} {a : Act} {S : Nat → Prop} {w0 : World} {K : FL → Prop} (hi : l[i]? = some o) (hs : stat n l [o] [] = true) (hp : frstOp o.op = true) (hg : o.guard = none) (hf : Fr n ds L a)
    (h : ∀ t0, qopS P S w0 (rho (lk t0 L)) o.op fun ob v => ob ∧ K (putL L o.dst v)) : ∃ v, StillAt P (Keep S w0) l.toArray o v a ∧ ∃ L', Fr n ds L' (a.put o.dst v) ∧ K L' := by
  have hI := Inv.start hf
  obtain ⟨ob, v, ⟨hob, hK⟩, hv⟩ := qopS_sound hp (h fun k => a.tmps.getD k undef)
  have hw : Region.wanted o (yielded l.toArray a.tmps) = true := by simp [Region.wanted, hg]
  have hsel : execOp a.eval o = execOp (rho (lk (fun k => a.tmps.getD k undef) L)) o := by
    refine execOp_congr o (fun cs b e => by rw [e] at hp; cases hp) fun x hx => ?_
    have := hI.useO (G := []) (fun c hc => by cases hc) (x := x) (by cases x <;> simp [useO, useK])
    simpa [lkG] using this
  refine ⟨v, .inl ⟨hw, fun w' hx => by rw [hsel]; exact hv hob w' hx⟩, _, hf.put' (fun k hk => ?_) v, hK⟩
  unfold stat at hs
  rw [hk] at hs
  simp only [Bool.and_eq_true, decide_eq_true_eq] at hs
  exact hs.2.1.1.1
mutual
theorem es_sound {P : Program} {r : Option Nat} {n : Nat} {ds : List DF} {l : List Oper} {S : Nat → Prop} {w0 : World} {K : FL → World → Prop} (hd : noDefer l = true) : ∀ (t : OP) (f : Nat) (listed : Array Bool) (L : FL) (a : Act) (w : World), OP.okS n l true t f listed = true → Fr n ds L a → es P l S w0 K t L w →
    wpAC P (Keep S w0) r l.toArray (NQ n ds K) f listed a w
  | .done, f, listed, L, a, w, h, hf, he => by
    have h0 : Region.ready .any l.toArray listed = [] := by simpa [OP.okS] using h
    cases f with
    | zero => exact ⟨he.1, h0, L, hf, he.2⟩
    | succ f => exact ⟨he.1, fun _ => ⟨L, hf, he.2⟩, fun i hi => by rw [h0] at hi; cases hi⟩
  | .stop, f, listed, L, a, w, h, hf, he => by simp [OP.okS] at h
  | .first i t, f, listed, L, a, w, h, hf, he => by
    simp only [OP.okS, Bool.true_and, Bool.and_eq_true, decide_eq_true_eq] at h
    obtain ⟨⟨⟨⟨h1, h2⟩, h3⟩, h4⟩, h5⟩ := h
    obtain ⟨f, rfl⟩ : ∃ g, f = g + 1 := ⟨f - 1, by omega⟩
    unfold es at he
    split at he
    · rename_i o ho
      rw [ho] at h5
      simp only [Bool.and_eq_true, Option.isNone_iff_eq_none] at h5
      obtain ⟨⟨hs, hp⟩, hg⟩ := h5
      obtain ⟨v, hv, L', hL', hK⟩ := es_still (ds := ds) (n := n) (K := fun L' => es P l S w0 K t L' w) ho hs hp hg hf he
      have h0 : l.toArray[i]? = some o := by simpa using ho
      refine wpAC_first h0 (noDefer_spec hd).1 (noDefer_spec hd).2 f listed a w (Region.free_spec h0 h3) (by simpa using h2) hv ?_
      exact es_sound hd t f _ L' _ w (by simpa using h4) hL' hK
    · exact he.elim
  | .alt i t rest, f, listed, L, a, w, h, hf, he => by
    simp only [OP.okS, Bool.not_true, Bool.false_or, Bool.and_eq_true, beq_iff_eq, decide_eq_true_eq] at h
    obtain ⟨⟨⟨⟨h1, h2⟩, h3⟩, h4⟩, h5⟩ := h
    obtain ⟨f, rfl⟩ : ∃ g, f = g + 1 := ⟨f - 1, by omega⟩
    refine ⟨he.1, fun h0 => by rw [h0] at h1; simp [OP.idx] at h1, fun j hj => ?_⟩
    rw [← h1] at hj
    exact es_alts hd (.alt i t rest) f listed L a w (by simp only [OP.okS, Bool.not_false, Bool.true_or, Bool.and_eq_true, decide_eq_true_eq, Nat.add_sub_cancel]; exact ⟨⟨⟨⟨trivial, by omega⟩, by simpa using h3⟩, h4⟩, h5⟩) hf he j hj
theorem es_alts {P : Program} {r : Option Nat} {n : Nat} {ds : List DF} {l : List Oper} {S : Nat → Prop} {w0 : World} {K : FL → World → Prop} (hd : noDefer l = true) : ∀ (t : OP) (f : Nat) (listed : Array Bool) (L : FL) (a : Act) (w : World), OP.okS n l false t (f + 1) listed = true → Fr n ds L a → es P l S w0 K t L w →
    ∀ j ∈ t.idx, wpOpIn (fw r) 0 P l.toArray (NQ n ds K) j (wpAC P (Keep S w0) r l.toArray (NQ n ds K) f (listed.setIfInBounds j true)) a w
  | .done, f, listed, L, a, w, h, hf, he => by simp [OP.idx]
  | .stop, f, listed, L, a, w, h, hf, he => by simp [OP.idx]
  | .first _ _, f, listed, L, a, w, h, hf, he => by simp [OP.idx]
  | .alt i t rest, f, listed, L, a, w, h, hf, he => by
    simp only [OP.okS, Bool.not_false, Bool.true_or, Bool.and_eq_true, decide_eq_true_eq, Nat.add_sub_cancel] at h
    obtain ⟨⟨⟨_, h3⟩, h4⟩, h6⟩ := h
    intro j hj
    by_cases hji : j = i
    · subst hji
      obtain ⟨_, he1, _⟩ := he
      split at he1
      · rename_i o ho
        have hs : stat n l [o] [] = true := by rw [ho] at h6; exact h6
        have h5 := eg_sound (r := r) [o] [] [] L a w (Inv.start hf) hs (he1 _)
        have h0 : l.toArray[j]? = some o := by simpa using ho
        unfold wpOpIn
        simp only [h0]
        unfold wpListIn at h5
        have key : ∀ a' w', wpListIn (fw r) 0 P l.toArray (NQ n ds fun L' w' => es P l S w0 K t L' w') [] a' w' → wpAC P (Keep S w0) r l.toArray (NQ n ds K) f (listed.setIfInBounds j true) a' w' := fun a' w' ⟨L', hL', he'⟩ =>
          es_sound hd t f _ L' a' w' h3 hL' he'
        split at h5
        · rename_i hw
          rw [if_pos hw]
          exact operWpIn_mono' key h5
        · rename_i hw
          rw [if_neg hw]
          exact ⟨h5.1, key _ _ h5.2⟩
      · exact he1.elim
    · refine es_alts hd rest f listed L a w h4 hf he.2.2 j ?_
      simpa [OP.idx, hji] using hj
end
theorem Run_es (S : Nat → Prop) {P : Program} {r : Option Nat} {n : Nat} {ds : List DF} {k : List Td} {L : FL} {w : World} {Q : Exit → List DF → FL → World → Prop} {id : Nat} {l : List Oper} (vs : List Nat) (t : OP)
    (hm : P.follows .mixedOrders = true) (hd : noDefer l = true) (hok : OP.okS n l true t l.toArray.size (Array.replicate l.toArray.size false) = true)
    (h : ∀ w1, Ext w w1 → w1.heap.size = w.heap.size → es P l S w1 (fun L' w' => Run P r n ds k (prune vs L') w' Q) t L w1) : Run P r n ds (.code (.region id l.toArray true) :: k) L w Q := fun a ha => by
  refine wpIn_mono (wpIn_region_any hm (es_sound hd t _ _ L a _ hok ha (h _ (Ext.drew w) rfl)).any) fun e a' w' hq => ?_
  cases e <;> first | exact hq.elim | (obtain ⟨L', hL, hK⟩ := hq; exact hK a' hL.prune)
end Go.Fk
set_option linter.unusedSimpArgs false
set_option linter.unusedVariables false
namespace Go.Fk
open Go Go.RowKit
def depOn (ops : Array Oper) (j i : Nat) : Bool := match ops[j]? with | some o => o.after.any (fun e => Region.binds .any e && e.on == i) | none => false
def Closed (ops : Array Oper) (listed : Array Bool) : Prop := ∀ j i, listed.getD j false = true → depOn ops j i = true → listed.getD i false = true
def past (lasts : List Nat) (listed : Array Bool) : Bool := lasts.all fun j => listed.getD j false
theorem getD_set_self {listed : Array Bool} {i j : Nat} (h : (listed.setIfInBounds i true).getD j false = true) : j = i ∨ listed.getD j false = true := by
  by_cases e : i = j
  · exact .inl e.symm
  · rw [getD_set_ne false e] at h; exact .inr h
theorem past_set {lasts : List Nat} {listed : Array Bool} {i : Nat} (h : past lasts listed = true) : past lasts (listed.setIfInBounds i true) = true := by
  unfold past at *
  rw [List.all_eq_true] at *
  exact fun j hj => getD_set_true (h j hj)
theorem past_unset {lasts : List Nat} {listed : Array Bool} {i : Nat} (h : past lasts (listed.setIfInBounds i true) = true) (hi : lasts.contains i = false) : past lasts listed = true := by
  unfold past at *
  rw [List.all_eq_true] at *
  intro j hj
  rcases getD_set_self (h j hj) with rfl | h1
  · rw [List.contains_eq_mem] at hi; simp at hi; exact (hi hj).elim
  · exact h1
theorem Closed.set {ops : Array Oper} {listed : Array Bool} {j : Nat} (h : Closed ops listed) (hj : j ∈ Region.ready .any ops listed) : Closed ops (listed.setIfInBounds j true) := by
  intro k i hk hd
  rcases getD_set_self hk with rfl | hk
  · obtain ⟨_, o, ho, hall⟩ := mem_ready.1 hj
    unfold depOn at hd
    rw [ho] at hd
    simp only [Array.any_eq_true', Bool.and_eq_true, beq_iff_eq] at hd
    obtain ⟨e, he, hb, rfl⟩ := hd
    exact getD_set_true (hall e he hb)
  · exact getD_set_true (h k i hk hd)
theorem Closed.start (ops : Array Oper) (n : Nat) : Closed ops (Array.replicate n false) := fun j i h _ => by
  rw [Array.getD_eq_getD_getElem?] at h
  by_cases hj : j < n
  · simp [hj] at h
  · simp [hj] at h
def pathOk (ops : Array Oper) : Nat → List Nat → Bool
  | _, [] => true
  | a, b :: r => depOn ops b a && pathOk ops b r
def lst : Nat → List Nat → Nat
  | a, [] => a
  | _, b :: r => lst b r
theorem path_back {ops : Array Oper} {listed : Array Bool} (hc : Closed ops listed) : ∀ (p : List Nat) (a : Nat), pathOk ops a p = true → listed.getD (lst a p) false = true → listed.getD a false = true
  | [], a, _, h => h
  | b :: r, a, hp, h => by
    simp only [pathOk, Bool.and_eq_true] at hp
    exact hc b a (path_back hc r b hp.2 h) hp.1
def hasPath (ops : Array Oper) (lasts : List Nat) (ps : List (Nat × List Nat)) (i : Nat) : Bool := ps.any fun p => p.1 == i && pathOk ops p.1 p.2 && lasts.contains (lst p.1 p.2)
theorem path_past {ops : Array Oper} {lasts : List Nat} {ps : List (Nat × List Nat)} {i : Nat} {listed : Array Bool} (h : hasPath ops lasts ps i = true) (hc : Closed ops listed) (hu : listed.getD i true = false) : past lasts listed = false := by
  unfold hasPath at h
  rw [List.any_eq_true] at h
  obtain ⟨p, _, h⟩ := h
  simp only [Bool.and_eq_true, beq_iff_eq, List.contains_eq_mem, decide_eq_true_eq] at h
  obtain ⟨⟨rfl, h2⟩, h3⟩ := h
  rw [Bool.eq_false_iff]
  intro hp
  unfold past at hp
  rw [List.all_eq_true] at hp
  have := path_back hc _ _ h2 (hp _ h3)
  rw [getD_both hu] at this; cases this
section
variable {P : Program} {C : World → Prop} {lasts : List Nat} {r : Option Nat} {ops : Array Oper} {n : Nat} {ds : List DF} {M : FL → World → Prop}
def wpAF (P : Program) (C : World → Prop) (lasts : List Nat) (r : Option Nat) (ops : Array Oper) (Q : Exit → Act → World → Prop) : Nat → Array Bool → Act → World → Prop
  | 0, listed, a, w => (past lasts listed = true ∨ C w) ∧ Region.ready .any ops listed = [] ∧ Q .normal a w
  | f + 1, listed, a, w => (past lasts listed = true ∨ C w) ∧ (Region.ready .any ops listed = [] → Q .normal a w) ∧ ∀ i ∈ Region.ready .any ops listed, wpOpIn (fw r) 0 P ops Q i (wpAF P C lasts r ops Q f (listed.setIfInBounds i true)) a w
theorem wpAF.c {Q : Exit → Act → World → Prop} {f : Nat} {listed : Array Bool} {a : Act} {w : World} (h : wpAF P C lasts r ops Q f listed a w) : past lasts listed = true ∨ C w := by
  cases f <;> exact h.1
theorem wpAF.any {Q : Exit → Act → World → Prop} : ∀ {f : Nat} {listed : Array Bool} {a : Act} {w : World}, wpAF P C lasts r ops Q f listed a w → wpAnyIn (fw r) 0 P .any ops Q f listed a w
  | 0, _, _, _, h => h.2
  | f + 1, _, _, _, h => ⟨h.2.1, fun i hi => wpOpIn_mono (fun _ _ h => h.any) (h.2.2 i hi)⟩
theorem wpAF.of_any {Q : Exit → Act → World → Prop} : ∀ {f : Nat} {listed : Array Bool} {a : Act} {w : World}, past lasts listed = true → wpAnyIn (fw r) 0 P .any ops Q f listed a w → wpAF P C lasts r ops Q f listed a w
  | 0, _, _, _, hp, h => ⟨.inl hp, h⟩
  | f + 1, _, _, _, hp, h => ⟨.inl hp, h.1, fun i hi => wpOpIn_mono (fun _ _ h => wpAF.of_any (past_set hp) h) (h.2 i hi)⟩
theorem wpAF_first {i : Nat} {oi : Oper} {v : Value} (b : Bool) (hi : ops[i]? = some oi) (hsel : ∀ (j : Nat) (o : Oper) cs b, ops[j]? = some o → o.op ≠ .select cs b) (hdef : ∀ (j : Nat) (o : Oper) c, ops[j]? = some o → o.op ≠ .defer c)
    (hnl : lasts.contains i = false) (hpp : b = true → ∀ listed, Closed ops listed → listed.getD i true = false → past lasts listed = false) :
    ∀ (fuel : Nat) (listed : Array Bool) (a : Act) (w : World), Closed ops listed →
      (∀ j oj, ops[j]? = some oj → j ≠ i → listed.getD j true = false → (∀ e ∈ oj.after, Region.binds .any e = true → e.on ≠ i) → oi.apart ops oj = true) →
      i ∈ Region.ready .any ops listed → StillAt P (fun w => b = true → C w) ops oi v a →
      wpAF P C lasts r ops (NQ n ds M) fuel (listed.setIfInBounds i true) (a.put oi.dst v) w → wpAF P C lasts r ops (NQ n ds M) (fuel + 1) listed a w := by
  intro fuel
  induction fuel with
  | zero =>
    intro listed a w hcl _ hr hy H
    have hc : past lasts listed = true ∨ C w := H.c.imp (fun h => past_unset h hnl) id
    have hC : b = true → C w := fun hb => hc.resolve_left (by rw [hpp hb listed hcl (mem_ready.1 hr).1]; simp)
    refine ⟨hc, fun h => (by rw [h] at hr; cases hr), fun j hj => ?_⟩
    by_cases hji : j = i
    · subst hji; exact hy.wpOpIn hi (fun c => hdef j oi c hi) hC H
    · have := ready_mono hj hji
      rw [H.2.1] at this; cases this
  | succ f ih =>
    intro listed a w hcl hfree hr hy H
    have hc : past lasts listed = true ∨ C w := H.c.imp (fun h => past_unset h hnl) id
    have hC : b = true → C w := fun hb => hc.resolve_left (by rw [hpp hb listed hcl (mem_ready.1 hr).1]; simp)
    refine ⟨hc, fun h => (by rw [h] at hr; cases hr), fun j hj => ?_⟩
    by_cases hji : j = i
    · subst hji; exact hy.wpOpIn hi (fun c => hdef j oi c hi) hC H
    · have h1 := H.2.2 j (ready_mono hj hji)
      obtain ⟨hjun, oj, hoj, hall⟩ := mem_ready.1 hj
      have hun := (mem_ready.1 hr).1
      have hnot : ∀ e ∈ oj.after, Region.binds .any e = true → e.on ≠ i := fun e he hb heq => by
        have h1 := hall e he hb
        rw [heq, getD_both hun] at h1
        cases h1
      have h2 := wpOpIn_putC hoj (hfree j oj hoj hji hjun hnot) (fun cs b => hsel i oi cs b hi) (fun cs b => hsel j oj cs b hoj) (fun c => hdef j oj c hoj) hy h1
      have hfree' : ∀ k ok, ops[k]? = some ok → k ≠ i → (listed.setIfInBounds j true).getD k true = false →
          (∀ e ∈ ok.after, Region.binds .any e = true → e.on ≠ i) → oi.apart ops ok = true := fun k ok hk hki hun hno => by
        refine hfree k ok hk hki ?_ hno
        by_cases hjk : j = k
        · subst hjk; exact hjun
        · rw [getD_set_ne true hjk] at hun; exact hun
      refine wpOpIn_mono (fun a' w' h3 => ih (listed.setIfInBounds j true) a' w' (hcl.set hj) hfree' (ready_mono hr (Ne.symm hji)) h3.1 ?_) h2
      rw [Array.setIfInBounds_comm _ _ hji]
      exact h3.2
end
inductive OG where
  | done
  | stop
  | alt (i : Nat) (t : OG) (rest : OG)
  | first (i : Nat) (t : OG)
  | free (t : OP)
def OG.idx : OG → List Nat
  | .alt i _ r => i :: r.idx
  | _ => []
def OG.ok (lasts : List Nat) (ps : List (Nat × List Nat)) (n : Nat) (l : List Oper) : Bool → OG → Nat → Array Bool → Bool
  | _, .done, _, listed => Region.ready .any l.toArray listed == []
  | head, .stop, _, _ => !head
  | head, .alt i t rest, f, listed => (!head || (OG.alt i t rest).idx == Region.ready .any l.toArray listed) && decide (0 < f) && OG.ok lasts ps n l true t (f - 1) (listed.setIfInBounds i true) && OG.ok lasts ps n l false rest f listed && (match l[i]? with | some o => stat n l [o] [] | none => false)
  | head, .first i t, f, listed => head && decide (0 < f) && (Region.ready .any l.toArray listed).contains i && Region.free .any l.toArray listed i && OG.ok lasts ps n l true t (f - 1) (listed.setIfInBounds i true) && (match l[i]? with | some o => stat n l [o] [] && frstOp o.op && o.guard.isNone && !lasts.contains i && (!ldOp o.op || hasPath l.toArray lasts ps i) | none => false)
  | head, .free t, f, listed => head && past lasts listed && OP.ok n l true t f listed
theorem qopS_sound2 {P : Program} {S : Nat → Prop} {w : World} {ρ : Operand → Value} {o : Oper} {K : Prop → Value → Prop} (hf : frstOp o.op = true) (h : qopS P S w ρ o.op K) :
    ∃ ob v, K ob v ∧ (ob → ∀ w', (ldOp o.op = true → Keep S w w') → (execOp ρ o).run P w' = .ok (.value v) w') := by
  by_cases hl : ldOp o.op = true
  · obtain ⟨ob, v, h1, h2⟩ := qopS_sound hf h
    exact ⟨ob, v, h1, fun hb w' hk => h2 hb w' (hk hl)⟩
  · unfold qopS at h
    split at h
    · rename_i t x hop; rw [hop] at hl; exact (hl rfl).elim
    · obtain ⟨ob, v, h1, h2⟩ := qop_sound h
      exact ⟨ob, v, h1, fun hb w' _ => h2 hb w' fun h3 => (hl h3).elim⟩
end Go.Fk
set_option linter.unusedSimpArgs false
set_option linter.unusedVariables false
namespace Go.Fk
open Go Go.RowKit
def ung (o : Oper) : Oper := { o with guard := none }
def gOk (l : List Oper) (o : Oper) : Bool := match o.guard with
  | none => true
  | some (i, _) => match l[i]? with
    | some oi => oi.dst.isSome
    | none => false
def gres (l : List Oper) (o : Oper) (L : FL) (k : Bool → Prop) : Prop :=
  match o.guard with
  | none => k true
  | some (i, want) => match l[i]? with
    | some oi => match oi.dst with
      | some s => match fnd L s with
        | some (.bool b) => k (b == want)
        | _ => False
      | none => False
    | none => False
theorem gres_spec {n : Nat} {ds : List DF} {l : List Oper} {o : Oper} {L : FL} {a : Act} {k : Bool → Prop} (hf : Fr n ds L a) (h : gres l o L k) : k (Region.wanted o (yielded l.toArray a.tmps)) := by
  unfold gres at h
  cases hg : o.guard with
  | none =>
    rw [hg] at h
    have : Region.wanted o (yielded l.toArray a.tmps) = true := by simp [Region.wanted, hg]
    rw [this]; exact h
  | some g =>
    obtain ⟨i, want⟩ := g
    rw [hg] at h
    simp only at h
    cases hi : l[i]? with
    | none => rw [hi] at h; exact h.elim
    | some oi =>
      rw [hi] at h
      simp only at h
      cases hs : oi.dst with
      | none => rw [hs] at h; exact h.elim
      | some s =>
        rw [hs] at h
        simp only at h
        cases hv : fnd L s with
        | none => rw [hv] at h; exact h.elim
        | some v =>
          rw [hv] at h
          cases v with
          | bool b =>
            simp only at h
            have h1 := hf.at_ s _ hv
            have h2 := wanted_iff (all := l) (a := a) (o := o) hg hi hs
            have : Region.wanted o (yielded l.toArray a.tmps) = (b == want) := by
              rw [Bool.eq_iff_iff, h2, h1]; simp
            rw [this]; exact h
          | _ => exact h.elim
inductive OH where
  | done (b : Bool)
  | stop
  | alt (b : Bool) (i : Nat) (t : OH) (rest : OH)
  | first (i : Nat) (t : OH)
  | free (t : OP)
def OH.idx : OH → List Nat
  | .alt _ i _ r => i :: r.idx
  | _ => []
def OH.ok (lasts : List Nat) (ps : List (Nat × List Nat)) (n : Nat) (l : List Oper) : Bool → OH → Nat → Array Bool → Bool
  | _, .done b, _, listed => Region.ready .any l.toArray listed == [] && (b || past lasts listed)
  | head, .stop, _, _ => !head
  | head, .alt b i t rest, f, listed => (b || past lasts listed) && (!head || (OH.alt b i t rest).idx == Region.ready .any l.toArray listed) && decide (0 < f) && OH.ok lasts ps n l true t (f - 1) (listed.setIfInBounds i true) && OH.ok lasts ps n l false rest f listed && (match l[i]? with | some o => stat n l [ung o] [] && gOk l o | none => false)
  | head, .first i t, f, listed => head && decide (0 < f) && (Region.ready .any l.toArray listed).contains i && Region.free .any l.toArray listed i && OH.ok lasts ps n l true t (f - 1) (listed.setIfInBounds i true) && (match l[i]? with | some o => stat n l [ung o] [] && gOk l o && frstOp o.op && !lasts.contains i && (!ldOp o.op || hasPath l.toArray lasts ps i) | none => false)
  | head, .free t, f, listed => head && past lasts listed && OP.ok n l true t f listed
def eh (P : Program) (l : List Oper) (S : Nat → Prop) (w0 : World) (K : FL → World → Prop) : OH → FL → World → Prop
  | .done b, L, w => (b = true → Keep S w0 w) ∧ K L w
  | .stop, _, _ => True
  | .alt b i t rest, L, w => (b = true → Keep S w0 w) ∧ (match l[i]? with
      | some o => gres l o L fun y => if y = true then ∀ t0, eg P l t0 [ung o] [] L w fun L' w' => eh P l S w0 K t L' w' else eh P l S w0 K t (putL L o.dst undef) w
      | none => False) ∧ eh P l S w0 K rest L w
  | .first i t, L, w => match l[i]? with
      | some o => gres l o L fun y => if y = true then ∀ t0, qopS P S w0 (rho (lk t0 L)) o.op fun ob v => ob ∧ eh P l S w0 K t (putL L o.dst v) w else eh P l S w0 K t (putL L o.dst undef) w
      | none => False
  | .free t, L, w => ep P l K t L w
theorem eh_still {P : Program} {n : Nat} {ds : List DF} {l : List Oper} {o : Oper} {L : FL} {a : Act} {S : Nat → Prop} {w0 : World} {K : FL → Prop} (hs : stat n l [ung o] [] = true) (hp : frstOp o.op = true) (hf : Fr n ds L a)
    (h : gres l o L fun y => if y = true then ∀ t0, qopS P S w0 (rho (lk t0 L)) o.op fun ob v => ob ∧ K (putL L o.dst v) else K (putL L o.dst undef)) : ∃ v, StillAt P (fun w => ldOp o.op = true → Keep S w0 w) l.toArray o v a ∧ ∃ L', Fr n ds L' (a.put o.dst v) ∧ K L' := by
  have hdst : ∀ k, o.dst = some k → k < n := fun k hk => by
    unfold stat at hs
    rw [show (ung o).dst = o.dst from rfl, hk] at hs
    simp only [Bool.and_eq_true, decide_eq_true_eq] at hs
    exact hs.2.1.1.1
  have h := gres_spec hf h
  by_cases hw : Region.wanted o (yielded l.toArray a.tmps) = true
  · rw [if_pos hw] at h
    have hI := Inv.start hf
    obtain ⟨ob, v, ⟨hob, hK⟩, hv⟩ := qopS_sound2 hp (h fun k => a.tmps.getD k undef)
    have hsel : execOp a.eval o = execOp (rho (lk (fun k => a.tmps.getD k undef) L)) o := by
      refine execOp_congr o (fun cs b e => by rw [e] at hp; cases hp) fun x hx => ?_
      have := hI.useO (G := []) (fun c hc => by cases hc) (x := x) (by cases x <;> simp [useO, useK])
      simpa [lkG] using this
    exact ⟨v, .inl ⟨hw, fun w' hx => by rw [hsel]; exact hv hob w' hx⟩, _, hf.put' hdst v, hK⟩
  · rw [if_neg hw] at h
    exact ⟨undef, .inr ⟨by simpa using hw, rfl⟩, _, hf.put' hdst undef, h⟩
mutual
theorem eh_sound {P : Program} {r : Option Nat} {n : Nat} {ds : List DF} {l : List Oper} {S : Nat → Prop} {w0 : World} {K : FL → World → Prop} {lasts : List Nat} {ps : List (Nat × List Nat)} (hd : noDefer l = true) : ∀ (t : OH) (f : Nat) (listed : Array Bool) (L : FL) (a : Act) (w : World), Closed l.toArray listed → OH.ok lasts ps n l true t f listed = true → Fr n ds L a → eh P l S w0 K t L w →
    wpAF P (Keep S w0) lasts r l.toArray (NQ n ds K) f listed a w
  | .done b, f, listed, L, a, w, hcl, h, hf, he => by
    simp only [OH.ok, Bool.and_eq_true, beq_iff_eq, Bool.or_eq_true] at h
    obtain ⟨h0, hb⟩ := h
    have hc : past lasts listed = true ∨ Keep S w0 w := hb.symm.imp id he.1
    cases f with
    | zero => exact ⟨hc, h0, L, hf, he.2⟩
    | succ f => exact ⟨hc, fun _ => ⟨L, hf, he.2⟩, fun i hi => by rw [h0] at hi; cases hi⟩
  | .stop, f, listed, L, a, w, hcl, h, hf, he => by simp [OH.ok] at h
  | .free t, f, listed, L, a, w, hcl, h, hf, he => by
    simp only [OH.ok, Bool.true_and, Bool.and_eq_true] at h
    exact wpAF.of_any h.1 (ep_sound hd t f listed L a w h.2 hf he)
  | .first i t, f, listed, L, a, w, hcl, h, hf, he => by
    simp only [OH.ok, Bool.true_and, Bool.and_eq_true, decide_eq_true_eq] at h
    obtain ⟨⟨⟨⟨h1, h2⟩, h3⟩, h4⟩, h5⟩ := h
    obtain ⟨f, rfl⟩ : ∃ g, f = g + 1 := ⟨f - 1, by omega⟩
    unfold eh at he
    split at he
    · rename_i o ho
      rw [ho] at h5
      simp only [Bool.and_eq_true, Bool.not_eq_true', Bool.or_eq_true] at h5
      obtain ⟨⟨⟨⟨hs, hgk⟩, hp⟩, hnl⟩, hpt⟩ := h5
      obtain ⟨v, hv, L', hL', hK⟩ := eh_still (ds := ds) (n := n) (K := fun L' => eh P l S w0 K t L' w) hs hp hf he
      have h0 : l.toArray[i]? = some o := by simpa using ho
      have h2' : i ∈ Region.ready .any l.toArray listed := by simpa using h2
      refine wpAF_first (ldOp o.op) h0 (noDefer_spec hd).1 (noDefer_spec hd).2 hnl (fun hb lis hcl' hu => ?_) f listed a w hcl (Region.free_spec h0 h3) h2' hv ?_
      · rcases hpt with hpt | hpt
        · rw [hb] at hpt; cases hpt
        · exact path_past hpt hcl' hu
      · exact eh_sound hd t f _ L' _ w (hcl.set h2') (by simpa using h4) hL' hK
    · exact he.elim
  | .alt b i t rest, f, listed, L, a, w, hcl, h, hf, he => by
    simp only [OH.ok, Bool.not_true, Bool.false_or, Bool.and_eq_true, beq_iff_eq, decide_eq_true_eq, Bool.or_eq_true] at h
    obtain ⟨⟨⟨⟨⟨hb, h1⟩, h2⟩, h3⟩, h4⟩, h5⟩ := h
    obtain ⟨f, rfl⟩ : ∃ g, f = g + 1 := ⟨f - 1, by omega⟩
    refine ⟨hb.symm.imp id he.1, fun h0 => by rw [h0] at h1; simp [OH.idx] at h1, fun j hj => ?_⟩
    have hj' := hj
    rw [← h1] at hj
    exact eh_alts hd (.alt b i t rest) f listed L a w hcl (by simp only [OH.ok, Bool.not_false, Bool.true_or, Bool.and_eq_true, decide_eq_true_eq, Nat.add_sub_cancel, Bool.or_eq_true]; exact ⟨⟨⟨⟨⟨hb, trivial⟩, by omega⟩, by simpa using h3⟩, h4⟩, h5⟩) hf he j hj hj'
theorem eh_alts {P : Program} {r : Option Nat} {n : Nat} {ds : List DF} {l : List Oper} {S : Nat → Prop} {w0 : World} {K : FL → World → Prop} {lasts : List Nat} {ps : List (Nat × List Nat)} (hd : noDefer l = true) : ∀ (t : OH) (f : Nat) (listed : Array Bool) (L : FL) (a : Act) (w : World), Closed l.toArray listed → OH.ok lasts ps n l false t (f + 1) listed = true → Fr n ds L a → eh P l S w0 K t L w →
    ∀ j ∈ t.idx, j ∈ Region.ready .any l.toArray listed → wpOpIn (fw r) 0 P l.toArray (NQ n ds K) j (wpAF P (Keep S w0) lasts r l.toArray (NQ n ds K) f (listed.setIfInBounds j true)) a w
  | .done _, f, listed, L, a, w, hcl, h, hf, he => by simp [OH.idx]
  | .stop, f, listed, L, a, w, hcl, h, hf, he => by simp [OH.idx]
  | .free _, f, listed, L, a, w, hcl, h, hf, he => by simp [OH.idx]
  | .first _ _, f, listed, L, a, w, hcl, h, hf, he => by simp [OH.idx]
  | .alt b i t rest, f, listed, L, a, w, hcl, h, hf, he => by
    simp only [OH.ok, Bool.not_false, Bool.true_or, Bool.and_eq_true, decide_eq_true_eq, Nat.add_sub_cancel] at h
    obtain ⟨⟨⟨_, h3⟩, h4⟩, h6⟩ := h
    intro j hj hjr
    by_cases hji : j = i
    · subst hji
      obtain ⟨_, he1, _⟩ := he
      split at he1
      · rename_i o ho
        have hs : stat n l [ung o] [] = true := by rw [ho] at h6; simp only [Bool.and_eq_true] at h6; exact h6.1
        have hdst : ∀ k, o.dst = some k → k < n := fun k hk => by
          unfold stat at hs
          rw [show (ung o).dst = o.dst from rfl, hk] at hs
          simp only [Bool.and_eq_true, decide_eq_true_eq] at hs
          exact hs.2.1.1.1
        have hg := gres_spec hf he1
        have h0 : l.toArray[j]? = some o := by simpa using ho
        have key : ∀ a' w', wpListIn (fw r) 0 P l.toArray (NQ n ds fun L' w' => eh P l S w0 K t L' w') [] a' w' → wpAF P (Keep S w0) lasts r l.toArray (NQ n ds K) f (listed.setIfInBounds j true) a' w' := fun a' w' ⟨L', hL', he'⟩ =>
          eh_sound hd t f _ L' a' w' (hcl.set hjr) h3 hL' he'
        unfold wpOpIn
        simp only [h0]
        by_cases hw : Region.wanted o (yielded l.toArray a.tmps) = true
        · rw [if_pos hw] at hg ⊢
          have h5 := eg_sound (r := r) [ung o] [] [] L a w (Inv.start hf) hs (hg _)
          unfold wpListIn at h5
          rw [if_pos (by simp [Region.wanted, ung])] at h5
          have h5' : o.wpIn (fw r) 0 P a w (wpListIn (fw r) 0 P l.toArray (NQ n ds fun L' w' => eh P l S w0 K t L' w') []) (NQ n ds fun L' w' => eh P l S w0 K t L' w') := h5
          exact operWpIn_mono' key h5'
        · rw [if_neg hw] at hg ⊢
          exact ⟨fun _ _ => trivial, key _ _ ⟨_, hf.put' hdst undef, hg⟩⟩
      · exact he1.elim
    · refine eh_alts hd rest f listed L a w hcl h4 hf he.2.2 j ?_ hjr
      simpa [OH.idx, hji] using hj
end
theorem Run_eh (S : Nat → Prop) (lasts : List Nat) (ps : List (Nat × List Nat)) {P : Program} {r : Option Nat} {n : Nat} {ds : List DF} {k : List Td} {L : FL} {w : World} {Q : Exit → List DF → FL → World → Prop} {id : Nat} {l : List Oper} (vs : List Nat) (t : OH)
    (hm : P.follows .mixedOrders = true) (hd : noDefer l = true) (hok : OH.ok lasts ps n l true t l.toArray.size (Array.replicate l.toArray.size false) = true)
    (h : ∀ w1, Ext w w1 → w1.heap.size = w.heap.size → eh P l S w1 (fun L' w' => Run P r n ds k (prune vs L') w' Q) t L w1) : Run P r n ds (.code (.region id l.toArray true) :: k) L w Q := fun a ha => by
  refine wpIn_mono (wpIn_region_any hm (eh_sound hd t _ _ L a _ (Closed.start _ _) hok ha (h _ (Ext.drew w) rfl)).any) fun e a' w' hq => ?_
  cases e <;> first | exact hq.elim | (obtain ⟨L', hL, hK⟩ := hq; exact hK a' hL.prune)
end Go.Fk
set_option linter.unusedSimpArgs false
set_option linter.unusedVariables false
namespace Go.Fk
open Go Go.RowKit
inductive OQ where
  | done
  | stop
  | alt (i : Nat) (t rest : OQ)
  | first (i : Nat) (t : OQ)
  | tail (k : Nat)
def OQ.idx : OQ → List Nat
  | .alt i _ r => i :: r.idx
  | _ => []
def OQ.ok (n : Nat) (l : List Oper) : Bool → OQ → Nat → Array Bool → Bool
  | _, .done, _, listed => Region.ready .any l.toArray listed == []
  | head, .stop, _, _ => !head
  | head, .alt i t rest, f, listed => (!head || (OQ.alt i t rest).idx == Region.ready .any l.toArray listed) && decide (0 < f) && OQ.ok n l true t (f - 1) (listed.setIfInBounds i true) && OQ.ok n l false rest f listed && (match l[i]? with | some o => stat n l [o] [] | none => false)
  | head, .first i t, f, listed => head && decide (0 < f) && (Region.ready .any l.toArray listed).contains i && Region.free .any l.toArray listed i && OQ.ok n l true t (f - 1) (listed.setIfInBounds i true) && (match l[i]? with | some o => stat n l [o] [] && pureOp o.op && o.guard.isNone | none => false)
  | head, .tail k, f, listed => head && f == (l.drop k).length && Region.noSelect l.toArray && Region.lexFrom .any l.toArray (l.drop k).length k listed && stat n l (l.drop k) []
def er (P : Program) (l : List Oper) (K : FL → World → Prop) : OQ → FL → World → Prop
  | .done, L, w => K L w
  | .stop, _, _ => True
  | .alt i t rest, L, w => (match l[i]? with
      | some o => ∀ t0, eg P l t0 [o] [] L w fun L' w' => er P l K t L' w'
      | none => False) ∧ er P l K rest L w
  | .first i t, L, w => match l[i]? with
      | some o => ∀ t0, qg P (Ext w) l w t0 [o] [] L fun L' => er P l K t L' w
      | none => False
  | .tail k, L, w => ∀ t0, qg P (Ext w) l w t0 (l.drop k) [] L fun L' => ∀ w', Ext w w' → K L' w'
end Go.Fk
