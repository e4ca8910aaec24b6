/- A drawn region whose effects leave a class of blocks: operations that touch no memory, and loads of those blocks, may be taken first. No program is named. -/
import Derived.Test.YtoadfmgnpmcbfaaGreatFe
set_option linter.unusedSimpArgs false
set_option linter.unusedVariables false
namespace Go.Fk
open Go Go.RowKit
/-! loads of blocks that stay -/
theorem run_memN' {P : Program} {w w' : World} (a : Addr) (hx : ∀ i, has1 w (a.add i) → w'.cell? (a.add i) = some (mem w (a.add i))) : ∀ (n i : Nat) (acc : Array Value), hasN w a i n →
    (loadCellsFrom a i n acc).run P w' = .ok (acc ++ (memN w a i n).toArray) w'
  | 0, i, acc, _ => by simp [loadCellsFrom, memN]
  | n + 1, i, acc, h => by
    have h1 := hx i h.1
    have ih := run_memN' (P := P) a hx n (i + 1) (acc.push (mem w (a.add i))) h.2
    simp only [loadCellsFrom, Sem.run_bind, run_load, h1, Result.andThen_ok, ih]
    simp [memN]
theorem keep_cell {S : Nat → Prop} {w w' : World} (hk : Keep S w w') {a : Addr} (hs : S a.block) (h : has1 w a) : w'.cell? a = some (mem w a) := by
  have hb := World.block_lt_of_cell? _ _ h.cell
  have h1 := h.cell
  unfold World.cell? at h1 ⊢
  rw [hk.block _ hb hs]; exact h1
theorem loadVar_one' {P : Program} {t : TypeId} (h : oneCell P t = true) {w w' : World} {a : Addr} (hx : w'.cell? a = some (mem w a)) :
    (loadVar t a).run P w' = .ok (mem w a) w' := by
  unfold loadVar
  simp [Sem.run_bind, isAgg_one h, hx]
theorem loadVar_agg' {P : Program} {t : TypeId} (h : manyCell P t = true)
    {w w' : World} {a : Addr} (hx : ∀ i, has1 w (a.add i) → w'.cell? (a.add i) = some (mem w (a.add i))) (ha : hasN w a 0 (P.cellsOf t)) (hne : P.cellsOf t ≠ 0) :
    (loadVar t a).run P w' = .ok (.agg (memN w a 0 (P.cellsOf t)).toArray) w' := by
  obtain ⟨i, hi, hsz⟩ := cells_info hne
  have hs : (sizeOf t).run P w' = .ok (P.cellsOf t) w' := by simp [sizeOf, typeInfo, hi, hsz]
  unfold loadVar
  simp only [Sem.run_bind, isAgg_many h, hs, Result.andThen_ok, if_true]
  simp [loadCells, run_memN' a hx _ 0 #[] ha]
/-- what an operation owes that is taken first: a load's block must stay -/
def qopS (P : Program) (S : Nat → Prop) (w : World) (ρ : Operand → Value) (op : Op) (K : Prop → Value → Prop) : Prop :=
  match op with
  | .load t x => qop P w ρ (.load t x) fun ob v => S (ptOf (ρ x)).block ∧ K ob v
  | op => qop P w ρ op K
def frstOp : Op → Bool
  | .load _ _ => true
  | .build _ _ => true
  | op => pureOp op
theorem qopS_sound {P : Program} {S : Nat → Prop} {w : World} {ρ : Operand → Value} {o : Oper} {K : Prop → Value → Prop} (hf : frstOp o.op = true) (h : qopS P S w ρ o.op K) :
    ∃ ob v, K ob v ∧ (ob → ∀ w', Keep S w w' → (execOp ρ o).run P w' = .ok (.value v) w') := by
  unfold qopS at h
  split at h
  · rename_i t x hop
    obtain ⟨dst, op, type, pos, after, guard⟩ := o
    simp only at hop
    subst hop
    unfold qop at h
    simp only at h
    split at h
    · rename_i h1
      refine ⟨_, _, h.2, fun ⟨hp, hc⟩ w' hk => ?_⟩
      have hl := loadVar_one' (P := P) h1 (keep_cell hk h.1 hc)
      obtain ⟨a, ha⟩ := hp.ex
      rw [ha] at hl
      simp only [ptOf_mk] at hl
      simp [execOp, ha, Instr.loadAt, Instr.sureAddr, hl]
    · split at h
      · refine ⟨_, _, h.2.2, fun ⟨hp, hc⟩ w' hk => ?_⟩
        have hl := loadVar_agg' (P := P) h.1.1 (fun i hi => keep_cell hk (by rw [blk_add]; exact h.2.1) hi) hc h.1.2
        obtain ⟨a, ha⟩ := hp.ex
        rw [ha] at hl
        simp only [ptOf_mk] at hl
        simp [execOp, ha, Instr.loadAt, Instr.sureAddr, hl, memA]
      · refine ⟨_, _, h.2.2, fun ⟨hp, hc⟩ w' hk => ?_⟩
        have hl := loadVar_agg' (P := P) h.1.1 (fun i hi => keep_cell hk (by rw [blk_add]; exact h.2.1) hi) hc h.1.2
        obtain ⟨a, ha⟩ := hp.ex
        rw [ha] at hl
        simp only [ptOf_mk] at hl
        simp [execOp, ha, Instr.loadAt, Instr.sureAddr, hl]
  · rename_i op hnl
    obtain ⟨ob, v, h1, h2⟩ := qop_sound h
    refine ⟨ob, v, h1, fun hb w' _ => h2 hb w' fun hl => ?_⟩
    cases hop : o.op with
    | load t x => exact (hnl t x hop).elim
    | _ => rw [hop] at hl; cases hl
def OP.okS (n : Nat) (l : List Oper) : Bool → OP → Nat → Array Bool → Bool
  | _, .done, _, listed => Region.ready .any l.toArray listed == []
  | head, .stop, _, _ => !head
  | head, .alt i t rest, f, listed => (!head || (OP.alt i t rest).idx == Region.ready .any l.toArray listed) && decide (0 < f) && OP.okS n l true t (f - 1) (listed.setIfInBounds i true) && OP.okS n l false rest f listed && (match l[i]? with | some o => stat n l [o] [] | none => false)
  | head, .first i t, f, listed => head && decide (0 < f) && (Region.ready .any l.toArray listed).contains i && Region.free .any l.toArray listed i && OP.okS n l true t (f - 1) (listed.setIfInBounds i true) && (match l[i]? with | some o => stat n l [o] [] && frstOp o.op && o.guard.isNone | none => false)
def putL (L : FL) (d : Option Nat) (v : Value) : FL := match d with | none => L | some d => (d, some v) :: L
/-- all orders of a region in w0; the blocks of S stay -/
def es (P : Program) (l : List Oper) (S : Nat → Prop) (w0 : World) (K : FL → World → Prop) : OP → FL → World → Prop
  | .done, L, w => Keep S w0 w ∧ K L w
  | .stop, _, _ => True
  | .alt i t rest, L, w => Keep S w0 w ∧ (match l[i]? with
      | some o => ∀ t0, eg P l t0 [o] [] L w fun L' w' => es P l S w0 K t L' w'
      | none => False) ∧ es P l S w0 K rest L w
  | .first i t, L, w => match l[i]? with
      | some o => ∀ t0, qopS P S w0 (rho (lk t0 L)) o.op fun ob v => ob ∧ es P l S w0 K t (putL L o.dst v) w
      | none => False
theorem Fr.put' {n : Nat} {ds : List Nat} {L : FL} {a : Act} (hf : Fr n ds L a) {d : Option Nat} (hd : ∀ k, d = some k → k < n) (v : Value) : Fr n ds (putL L d v) (a.put d v) := by
  cases d with
  | none => exact ⟨hf.size, hf.defers, hf.at_⟩
  | some k =>
    refine ⟨by rw [put_size]; exact hf.size, by rw [put_defers]; exact hf.defers, fun j u hj => ?_⟩
    simp only [putL, fnd] at hj
    by_cases e : k = j
    · subst e
      rw [if_pos rfl] at hj
      cases hj
      exact put_getD_same v (by rw [hf.size]; exact hd k rfl)
    · rw [if_neg e] at hj
      rw [put_getD_ne v e]; exact hf.at_ j u hj
theorem es_still {P : Program} {n : Nat} {ds : List Nat} {l : List Oper} {i : Nat} {o : Oper} {L : FL} {a : Act} {S : Nat → Prop} {w0 : World} {K : FL → Prop} (hi : l[i]? = some o) (hs : stat n l [o] [] = true) (hp : frstOp o.op = true) (hg : o.guard = none) (hf : Fr n ds L a)
    (h : ∀ t0, qopS P S w0 (rho (lk t0 L)) o.op fun ob v => ob ∧ K (putL L o.dst v)) : ∃ v, StillAt P (Keep S w0) l.toArray o v a ∧ ∃ L', Fr n ds L' (a.put o.dst v) ∧ K L' := by
  have hI := Inv.start hf
  obtain ⟨ob, v, ⟨hob, hK⟩, hv⟩ := qopS_sound hp (h fun k => a.tmps.getD k undef)
  have hw : Region.wanted o (yielded l.toArray a.tmps) = true := by simp [Region.wanted, hg]
  have hsel : execOp a.eval o = execOp (rho (lk (fun k => a.tmps.getD k undef) L)) o := by
    refine execOp_congr o (fun cs b e => by rw [e] at hp; cases hp) fun x hx => ?_
    have := hI.useO (G := []) (fun c hc => by cases hc) (x := x) (by cases x <;> simp [useO, useK])
    simpa [lkG] using this
  refine ⟨v, .inl ⟨hw, fun w' hx => by rw [hsel]; exact hv hob w' hx⟩, _, hf.put' (fun k hk => ?_) v, hK⟩
  unfold stat at hs
  rw [hk] at hs
  simp only [Bool.and_eq_true, decide_eq_true_eq] at hs
  exact hs.2.1.1.1
mutual
theorem es_sound {P : Program} {r : Option Nat} {n : Nat} {ds : List Nat} {l : List Oper} {S : Nat → Prop} {w0 : World} {K : FL → World → Prop} (hd : noDefer l = true) : ∀ (t : OP) (f : Nat) (listed : Array Bool) (L : FL) (a : Act) (w : World), OP.okS n l true t f listed = true → Fr n ds L a → es P l S w0 K t L w →
    wpAC P (Keep S w0) r l.toArray (NQ n ds K) f listed a w
  | .done, f, listed, L, a, w, h, hf, he => by
    have h0 : Region.ready .any l.toArray listed = [] := by simpa [OP.okS] using h
    cases f with
    | zero => exact ⟨he.1, h0, L, hf, he.2⟩
    | succ f => exact ⟨he.1, fun _ => ⟨L, hf, he.2⟩, fun i hi => by rw [h0] at hi; cases hi⟩
  | .stop, f, listed, L, a, w, h, hf, he => by simp [OP.okS] at h
  | .first i t, f, listed, L, a, w, h, hf, he => by
    simp only [OP.okS, Bool.true_and, Bool.and_eq_true, decide_eq_true_eq] at h
    obtain ⟨⟨⟨⟨h1, h2⟩, h3⟩, h4⟩, h5⟩ := h
    obtain ⟨f, rfl⟩ : ∃ g, f = g + 1 := ⟨f - 1, by omega⟩
    unfold es at he
    split at he
    · rename_i o ho
      rw [ho] at h5
      simp only [Bool.and_eq_true, Option.isNone_iff_eq_none] at h5
      obtain ⟨⟨hs, hp⟩, hg⟩ := h5
      obtain ⟨v, hv, L', hL', hK⟩ := es_still (ds := ds) (n := n) (K := fun L' => es P l S w0 K t L' w) ho hs hp hg hf he
      have h0 : l.toArray[i]? = some o := by simpa using ho
      refine wpAC_first h0 (noDefer_spec hd).1 (noDefer_spec hd).2 f listed a w (Region.free_spec h0 h3) (by simpa using h2) hv ?_
      exact es_sound hd t f _ L' _ w (by simpa using h4) hL' hK
    · exact he.elim
  | .alt i t rest, f, listed, L, a, w, h, hf, he => by
    simp only [OP.okS, Bool.not_true, Bool.false_or, Bool.and_eq_true, beq_iff_eq, decide_eq_true_eq] at h
    obtain ⟨⟨⟨⟨h1, h2⟩, h3⟩, h4⟩, h5⟩ := h
    obtain ⟨f, rfl⟩ : ∃ g, f = g + 1 := ⟨f - 1, by omega⟩
    refine ⟨he.1, fun h0 => by rw [h0] at h1; simp [OP.idx] at h1, fun j hj => ?_⟩
    rw [← h1] at hj
    exact es_alts hd (.alt i t rest) f listed L a w (by simp only [OP.okS, Bool.not_false, Bool.true_or, Bool.and_eq_true, decide_eq_true_eq, Nat.add_sub_cancel]; exact ⟨⟨⟨⟨trivial, by omega⟩, by simpa using h3⟩, h4⟩, h5⟩) hf he j hj
theorem es_alts {P : Program} {r : Option Nat} {n : Nat} {ds : List Nat} {l : List Oper} {S : Nat → Prop} {w0 : World} {K : FL → World → Prop} (hd : noDefer l = true) : ∀ (t : OP) (f : Nat) (listed : Array Bool) (L : FL) (a : Act) (w : World), OP.okS n l false t (f + 1) listed = true → Fr n ds L a → es P l S w0 K t L w →
    ∀ j ∈ t.idx, wpOpIn (fw r) 0 P l.toArray (NQ n ds K) j (wpAC P (Keep S w0) r l.toArray (NQ n ds K) f (listed.setIfInBounds j true)) a w
  | .done, f, listed, L, a, w, h, hf, he => by simp [OP.idx]
  | .stop, f, listed, L, a, w, h, hf, he => by simp [OP.idx]
  | .first _ _, f, listed, L, a, w, h, hf, he => by simp [OP.idx]
  | .alt i t rest, f, listed, L, a, w, h, hf, he => by
    simp only [OP.okS, Bool.not_false, Bool.true_or, Bool.and_eq_true, decide_eq_true_eq, Nat.add_sub_cancel] at h
    obtain ⟨⟨⟨_, h3⟩, h4⟩, h6⟩ := h
    intro j hj
    by_cases hji : j = i
    · subst hji
      obtain ⟨_, he1, _⟩ := he
      split at he1
      · rename_i o ho
        have hs : stat n l [o] [] = true := by rw [ho] at h6; exact h6
        have h5 := eg_sound (r := r) [o] [] [] L a w (Inv.start hf) hs (he1 _)
        have h0 : l.toArray[j]? = some o := by simpa using ho
        unfold wpOpIn
        simp only [h0]
        unfold wpListIn at h5
        have key : ∀ a' w', wpListIn (fw r) 0 P l.toArray (NQ n ds fun L' w' => es P l S w0 K t L' w') [] a' w' → wpAC P (Keep S w0) r l.toArray (NQ n ds K) f (listed.setIfInBounds j true) a' w' := fun a' w' ⟨L', hL', he'⟩ =>
          es_sound hd t f _ L' a' w' h3 hL' he'
        split at h5
        · rename_i hw
          rw [if_pos hw]
          exact operWpIn_mono' key h5
        · rename_i hw
          rw [if_neg hw]
          exact ⟨h5.1, key _ _ h5.2⟩
      · exact he1.elim
    · refine es_alts hd rest f listed L a w h4 hf he.2.2 j ?_
      simpa [OP.idx, hji] using hj
end
theorem Run_es (S : Nat → Prop) {P : Program} {r : Option Nat} {n : Nat} {ds : List Nat} {k : List Td} {L : FL} {w : World} {Q : Exit → List Nat → FL → World → Prop} {id : Nat} {l : List Oper} (vs : List Nat) (t : OP)
    (hm : P.follows .mixedOrders = true) (hd : noDefer l = true) (hok : OP.okS n l true t l.toArray.size (Array.replicate l.toArray.size false) = true)
    (h : ∀ w1, Ext w w1 → w1.heap.size = w.heap.size → es P l S w1 (fun L' w' => Run P r n ds k (prune vs L') w' Q) t L w1) : Run P r n ds (.code (.region id l.toArray true) :: k) L w Q := fun a ha => by
  refine wpIn_mono (wpIn_region_any hm (es_sound hd t _ _ L a _ hok ha (h _ (Ext.drew w) rfl)).any) fun e a' w' hq => ?_
  cases e <;> first | exact hq.elim | (obtain ⟨L', hL, hK⟩ := hq; exact hK a' hL.prune)
end Go.Fk
