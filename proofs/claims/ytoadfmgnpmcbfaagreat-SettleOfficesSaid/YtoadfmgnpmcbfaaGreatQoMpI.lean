import Derived.Test.YtoadfmgnpmcbfaaGreatQoGe
/- Maps of the call's own, keyed by ints. No program is named. -/
set_option linter.unusedSimpArgs false
set_option linter.unusedVariables false
namespace Go.Fk
open Go Go.RowKit Go.MapKept
/-- a key's value -/
def ki (k : Int) : Value := .int .i64 k
theorem checkKey_int {P : Program} {t : TypeId} {k : Int} (hu : P.underlying t = some (.int .i64)) (em : Bool) (w : World) : (Instr.checkKey em 10000 t (ki k)).run P w = .ok () w := by
  unfold Instr.checkKey ki
  rw [Sem.run_bind]
  simp [underlying, hu]
/-- where a key lies -/
def ifind (k : Int) : List (Int × Value) → Nat → Option (Nat × Value)
  | [], _ => none
  | p :: r, i => if (k == p.1) = true then some (i, p.2) else ifind k r (i + 1)
theorem ifindNow {k : Int} : ∀ (m : List (Int × Value)) (es : List MapEntry) (i : Nat), pairs es = m.map (fun p => (ki p.1, p.2)) → Instr.findNow (.int .i64) (ki k) es i = some (ifind k m i)
  | [], [], i, _ => rfl
  | [], e :: es, i, h => by simp [pairs] at h
  | p :: m, [], i, h => by simp [pairs] at h
  | p :: m, e :: es, i, h => by
    simp only [pairs, List.map_cons, List.cons.injEq, Prod.mk.injEq] at h
    obtain ⟨⟨h1, h2⟩, h3⟩ := h
    have ih := ifindNow m es (i + 1) h3 (k := k)
    unfold Instr.findNow ifind
    rw [h1]
    simp only [ki, Instr.sameNow, if_true] at ih ⊢
    by_cases hq : (k == p.1) = true
    · simp [hq, h2]
    · simp only [Bool.not_eq_true] at hq
      simp [hq, ih]
theorem findKI {P : Program} {t : TypeId} {k : Int} (hu : P.underlying t = some (.int .i64)) (w : World) {m : List (Int × Value)} {es : List MapEntry} (h : pairs es = m.map (fun p => (ki p.1, p.2))) :
    (Instr.findKey t (ki k) es).run P w = .ok (ifind k m 0) w := by
  unfold Instr.findKey
  rw [Sem.run_bind, underlying_run hu]
  simp only [Result.andThen_ok, ifindNow m es 0 h, Sem.run_pure]
/-- a block that is a map -/
structure MapI (w : World) (b : Nat) (m : List (Int × Value)) : Prop where
  ex : ∃ es clock, w.heap[b]? = some (.map es clock) ∧ pairs es.toList = m.map (fun p => (ki p.1, p.2))
theorem MapI.lt {w : World} {b : Nat} {m : List (Int × Value)} (h : MapI w b m) : b < w.heap.size := by
  obtain ⟨es, c, h1, _⟩ := h.ex
  exact (Array.getElem?_eq_some_iff.1 h1).1
theorem MapI.keep {w w' : World} {b : Nat} {m : List (Int × Value)} {S : Nat → Prop} (h : MapI w b m) (k : Keep S w w') (hs : S b) : MapI w' b m := by
  have hlt := h.lt
  obtain ⟨es, c, h1, h2⟩ := h.ex
  exact ⟨⟨es, c, (k.block _ hlt hs).trans h1, h2⟩⟩
theorem MapI.ext {w w' : World} {b : Nat} {m : List (Int × Value)} (h : MapI w b m) (k : Ext w w') : MapI w' b m := h.keep (Keep.of_ext (S := fun _ => True) k) trivial
def iget (m : List (Int × Value)) (k : Int) : Option Value := (ifind k m 0).map (·.2)
def iset (k : Int) (v : Value) : List (Int × Value) → List (Int × Value)
  | [] => [(k, v)]
  | p :: r => if (k == p.1) = true then (k, v) :: r else p :: iset k v r
theorem ifind_some {k : Int} : ∀ (m : List (Int × Value)) (i : Nat) {j : Nat} {v : Value}, ifind k m i = some (j, v) → ∃ d, j = i + d ∧ ∃ h : d < m.length, m[d] = (k, v) ∧ ∀ x, iset k x m = m.set d (k, x)
  | [], i, j, v, h => by cases h
  | p :: m, i, j, v, h => by
    unfold ifind at h
    by_cases hq : (k == p.1) = true
    · rw [if_pos hq] at h
      cases h
      refine ⟨0, rfl, by simp, ?_, fun x => by simp [iset, hq]⟩
      have : k = p.1 := by simpa using hq
      rw [this]; rfl
    · rw [if_neg hq] at h
      obtain ⟨d, e, hd, h1, h2⟩ := ifind_some m (i + 1) h
      refine ⟨d + 1, by omega, by simpa using hd, by simpa using h1, fun x => ?_⟩
      simp only [iset, if_neg hq, h2, List.set_cons_succ]
theorem ifind_none {k : Int} : ∀ (m : List (Int × Value)) (i : Nat), ifind k m i = none → ∀ x, iset k x m = m ++ [(k, x)]
  | [], i, h, x => rfl
  | p :: m, i, h, x => by
    unfold ifind at h
    by_cases hq : (k == p.1) = true
    · rw [if_pos hq] at h; cases h
    · rw [if_neg hq] at h
      simp only [iset, if_neg hq, ifind_none m (i + 1) h x, List.cons_append]
theorem ifind_shift (k : Int) : ∀ (m : List (Int × Value)) (i j : Nat), (ifind k m i).map (·.2) = (ifind k m j).map (·.2)
  | [], _, _ => rfl
  | p :: m, i, j => by
    simp only [ifind]
    split
    · rfl
    · exact ifind_shift k m (i + 1) (j + 1)
theorem iget_cons (p : Int × Value) (m : List (Int × Value)) (k : Int) : iget (p :: m) k = if k = p.1 then some p.2 else iget m k := by
  unfold iget
  simp only [ifind, beq_iff_eq]
  split
  · rfl
  · exact ifind_shift k m 1 0
theorem iget_set (k : Int) (v : Value) (k' : Int) : ∀ m : List (Int × Value), iget (iset k v m) k' = if k' = k then some v else iget m k'
  | [] => by simp [iset, iget_cons]
  | p :: m => by
    unfold iset
    by_cases hq : (k == p.1) = true
    · rw [if_pos hq, iget_cons, iget_cons]
      have e : k = p.1 := by simpa using hq
      simp only [e]
      split <;> rfl
    · rw [if_neg hq, iget_cons, iget_cons, iget_set k v k' m]
      have hq : k ≠ p.1 := by simpa using hq
      by_cases h1 : k' = p.1
      · rw [if_pos h1, if_pos h1, if_neg (by omega)]
      · rw [if_neg h1, if_neg h1]
theorem sameBits_ki (k : Int) : Instr.sameBits 10000 (ki k) (ki k) = true := by simp [Instr.sameBits, ki]
section
variable {P : Program} {w : World} {mt kt et : TypeId} {b : Nat} {m : List (Int × Value)} {k : Int}
theorem SemW_lookupI {z : Value} {sz by_ : Nat} (ht : P.underlying mt = some (.map kt et)) (hf : P.underlying kt = some (.int .i64)) (hT : TI P et z sz by_) (hM : MapI w b m) {K : Value → World → Prop}
    (hK : K ((iget m k).getD z) w) : SemW P (Instr.lookup mt (.map (some b)) (.int .i64 k) false) w K := by
  obtain ⟨es, c, h1, h2⟩ := hM.ex
  obtain ⟨i, hi, hz, _, _⟩ := info_parts hT.h
  refine SemW.of_run ?_ hK
  show (Instr.lookup mt (.map (some b)) (ki k) false).run P w = _
  unfold Instr.lookup
  rw [Sem.run_bind, underlying_run ht]
  simp only [Result.andThen_ok, Sem.run_bind, Go.MapKept.run_getObj_map h1, Sem.run_pure, checkKey_int hf, findKI hf w h2]
  unfold iget
  cases hfnd : ifind k m 0 with
  | none => simp [zeroValue, typeInfo, hi, hz]
  | some p => simp
theorem SemW_mapUpdateI {x : Value} (ht : P.underlying mt = some (.map kt et)) (hf : P.underlying kt = some (.int .i64)) (hM : MapI w b m) {K : Unit → World → Prop}
    (hK : ∀ w', MapI w' b (iset k x m) → Keep (fun g => g ≠ b) w w' → w'.heap.size = w.heap.size → K () w') : SemW P (Instr.mapUpdate mt (.map (some b)) (.int .i64 k) x) w K := by
  obtain ⟨es, c, h1, h2⟩ := hM.ex
  have fin : ∀ es' c', pairs es'.toList = (iset k x m).map (fun p => (ki p.1, p.2)) → K () { w with heap := w.heap.setIfInBounds b (.map es' c') } := fun es' c' he => by
    obtain ⟨a1, a2⟩ := heap_set (o' := .map es' c') h1
    exact hK _ ⟨⟨es', c', a1, he⟩⟩ ⟨rfl, rfl, rfl, by simp, fun g _ hg => a2 g hg⟩ (by simp)
  have hsz : es.toList.length = m.length := by
    have := congrArg List.length h2
    simpa [pairs] using this
  show SemW P (Instr.mapUpdate mt (.map (some b)) (ki k) x) w K
  cases hfnd : ifind k m 0 with
  | none =>
    refine SemW.of_run (v := ()) (w' := { w with heap := w.heap.setIfInBounds b (.map (es.push { key := ki k, val := x, born := c }) (c + 1)) }) ?_ (fin _ _ ?_)
    · unfold Instr.mapUpdate
      rw [Sem.run_bind, underlying_run ht]
      simp only [Result.andThen_ok, Sem.run_bind, Go.MapKept.run_getObj_map h1, checkKey_int hf, findKI hf w h2, hfnd, Go.MapKept.run_setObj_map _ h1]
    · rw [ifind_none m 0 hfnd x]
      simp [pairs] at h2 ⊢
      exact h2
  | some p =>
    obtain ⟨j, v⟩ := p
    obtain ⟨d, e, hd, h3, h4⟩ := ifind_some m 0 hfnd
    have e : j = d := by omega
    subst e
    have hj : j < es.size := by simpa using (show j < es.toList.length by omega)
    have hkey : es[j].key = ki k := by
      have := congrArg (fun l => l[j]?) h2
      simp [pairs, hj, hd, h3] at this
      exact this.1
    refine SemW.of_run (v := ()) (w' := { w with heap := w.heap.setIfInBounds b (.map (es.modify j fun e => { e with key := ki k, val := x }) c) }) ?_ (fin _ _ ?_)
    · unfold Instr.mapUpdate
      rw [Sem.run_bind, underlying_run ht]
      simp only [Result.andThen_ok, Sem.run_bind, Go.MapKept.run_getObj_map h1, checkKey_int hf, findKI hf w h2, hfnd]
      have hkk : (Instr.keyThatStays (((es[j]?).map (·.key)).getD (ki k)) (ki k)).run P w = .ok (ki k) w := by
        rw [Array.getElem?_eq_getElem hj]
        simp only [Option.map_some, Option.getD_some, hkey]
        unfold Instr.keyThatStays
        rw [if_pos (sameBits_ki k), Sem.run_pure]
      simp only [hkk, Result.andThen_ok, Go.MapKept.run_setObj_map _ h1]
    · rw [h4 x]
      apply List.ext_getElem?
      intro q
      have hq := congrArg (fun l => l[q]?) h2
      simp only [pairs, List.getElem?_map] at hq ⊢
      rw [Array.toList_modify, List.getElem?_modify, List.getElem?_set]
      by_cases e : j = q
      · subst e
        simp [hj, hd]
      · simp only [e, if_false]
        simpa [e] using hq
theorem SemW_makeMapI {K : Value → World → Prop} (hK : ∀ w', MapI w' w.heap.size [] → Ext w w' → w'.heap.size = w.heap.size + 1 → K (.map (some w.heap.size)) w') : SemW P (Instr.makeMap mt none) w K :=
  SemW.of_run (run_makeMap mt w) (hK _ ⟨⟨#[], 0, (heap_alloc w _).1, rfl⟩⟩ ((Below.refl _ _).alloc (Nat.le_refl _) _) (by show (w.heap.push _).size = _; simp))
end
end Go.Fk
