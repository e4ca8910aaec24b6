/- Maps of the call's own, keyed by structs of ints. No program is named. -/
import Derived.Test.YtoadfmgnpmcbfaaGreatFk
import Derived.MapKept
set_option linter.unusedSimpArgs false
set_option linter.unusedVariables false
namespace Go.Fk
open Go Go.RowKit Go.MapKept
/-- a key's value -/
def kv (k : List Int) : Value := .agg (k.map (Value.int .i64)).toArray
theorem allI_ints : ∀ k : List Int, allI (k.map (Value.int .i64))
  | [] => trivial
  | _ :: r => ⟨rfl, allI_ints r⟩
theorem eqI_ints : ∀ a b : List Int, eqI (a.map (Value.int .i64)) (b.map (Value.int .i64)) = (a == b)
  | [], [] => rfl
  | [], _ :: _ => rfl
  | _ :: _, [] => rfl
  | a :: r, b :: s => by
    show ((a == b) && eqI (r.map _) (s.map _)) = _
    rw [eqI_ints r s]; rfl
theorem kv_inj {a b : List Int} (h : kv a = kv b) : a = b := by
  have h1 : a.map (Value.int .i64) = b.map (Value.int .i64) := by simpa [kv] using h
  have := eqI_ints a b
  rw [h1] at this
  have h2 := eqI_ints b b
  rw [this] at h2
  simpa using h2
theorem checkKey_flat {P : Program} {t : TypeId} {k : List Int} (hf : flatT P t = true) (hx : k.length = P.cellsOf t) (em : Bool) (w : World) : (Instr.checkKey em 10000 t (kv k)).run P w = .ok () w := by
  unfold flatT at hf
  split at hf
  · rename_i fs hu
    simp only [Bool.and_eq_true, Bool.not_eq_true', beq_iff_eq] at hf
    obtain ⟨⟨⟨hs, _⟩, hsz⟩, hall⟩ := hf
    have key : ∀ (l : List Field) (i : Nat), (l.zipIdx i).all (fun p => p.1.name != "_" && p.1.offset == p.2 && (match P.underlying p.1.type with | some (.int .i64) => true | _ => false)) = true → i + l.length = k.length →
        (forIn (m := Sem) l PUnit.unit (fun f _ => do
          if f.name ≠ "_" then Instr.checkKey em 9999 f.type (← part f.type (k.map (Value.int .i64)).toArray f.offset)
          pure (.yield PUnit.unit))).run P w = .ok PUnit.unit w := by
      intro l
      induction l with
      | nil => intro i _ _; simp
      | cons f l ih =>
        intro i hal hi
        simp only [List.zipIdx_cons, List.all_cons, Bool.and_eq_true, bne_iff_ne, ne_eq, beq_iff_eq] at hal
        obtain ⟨⟨⟨hn, ho⟩, hk⟩, hal⟩ := hal
        simp only [List.length_cons] at hi
        have hix : i < k.length := by omega
        have hu1 : P.underlying f.type = some (.int .i64) := by
          split at hk
          · assumption
          · cases hk
        have hp : (part f.type (k.map (Value.int .i64)).toArray f.offset).run P w = .ok (.int .i64 k[i]) w := by
          have hagg : (isAgg f.type).run P w = .ok false w := by
            unfold isAgg
            rw [Sem.run_bind]
            simp [underlying, hu1]
          unfold part
          rw [Sem.run_bind, hagg]
          simp [ho, hix]
        have hc : (Instr.checkKey em 9999 f.type (.int .i64 k[i])).run P w = .ok () w := by
          unfold Instr.checkKey
          rw [Sem.run_bind]
          simp [underlying, hu1]
        have ih' := ih (i + 1) hal (by omega)
        rw [List.forIn_cons]
        simp only [Sem.run_bind, hn, not_false_eq_true, ne_eq, if_true, hp, Result.andThen_ok, hc, Sem.run_pure]
        exact ih'
    have := key fs.toList 0 hall (by simp; omega)
    unfold Instr.checkKey kv
    rw [Sem.run_bind]
    simp only [underlying, hu, Sem.run_bind, run_program, Result.andThen_ok, Sem.run_pure]
    rw [← Array.forIn_toList]
    simp only [this, Result.andThen_ok, Sem.run_pure]
  · cases hf
theorem eq_flat {P : Program} {t : TypeId} {a b : List Int} (hf : flatT P t = true) (ha : a.length = P.cellsOf t) (hb : b.length = P.cellsOf t) (w : World) : (Op.equal t (kv a) (kv b)).run P w = .ok (a == b) w := by
  have := flat_run (P := P) hf (xs := a.map (Value.int .i64)) (ys := b.map (Value.int .i64)) (by simpa using ha) (by simpa using hb) (allI_ints a) (allI_ints b) w
  rw [eqI_ints] at this
  exact this
/-- where a key lies -/
def ffind (k : List Int) : List (List Int × Value) → Nat → Option (Nat × Value)
  | [], _ => none
  | p :: r, i => if (k == p.1) = true then some (i, p.2) else ffind k r (i + 1)
def pairs (es : List MapEntry) : List (Value × Value) := es.map fun e => (e.key, e.val)
theorem findAsk {P : Program} {t : TypeId} {k : List Int} (hf : flatT P t = true) (hk : k.length = P.cellsOf t) (w : World) : ∀ (m : List (List Int × Value)) (es : List MapEntry) (i : Nat), pairs es = m.map (fun p => (kv p.1, p.2)) → (∀ p ∈ m, p.1.length = P.cellsOf t) →
    (Instr.findAsking t (kv k) es i).run P w = .ok (ffind k m i) w
  | [], [], i, _, _ => by simp [Instr.findAsking, ffind]
  | [], e :: es, i, h, _ => by simp [pairs] at h
  | p :: m, [], i, h, _ => by simp [pairs] at h
  | p :: m, e :: es, i, h, hl => by
    simp only [pairs, List.map_cons, List.cons.injEq, Prod.mk.injEq] at h
    obtain ⟨⟨h1, h2⟩, h3⟩ := h
    have ih := findAsk hf hk w m es (i + 1) h3 fun q hq => hl q (List.mem_cons_of_mem _ hq)
    have he := eq_flat (P := P) hf hk (hl p (List.mem_cons_self ..)) w
    unfold Instr.findAsking
    rw [Sem.run_bind, h1, he]
    unfold ffind
    by_cases hq : (k == p.1) = true
    · simp [hq, h2]
    · simp only [Bool.not_eq_true] at hq
      simp [hq, ih]
theorem findK {P : Program} {t : TypeId} {k : List Int} (hf : flatT P t = true) (hk : k.length = P.cellsOf t) (w : World) {m : List (List Int × Value)} {es : List MapEntry} (h : pairs es = m.map (fun p => (kv p.1, p.2))) (hl : ∀ p ∈ m, p.1.length = P.cellsOf t) :
    (Instr.findKey t (kv k) es).run P w = .ok (ffind k m 0) w := by
  have hu : ∃ fs, P.underlying t = some (.struct fs) := by
    unfold flatT at hf
    split at hf
    · rename_i fs h; exact ⟨fs, h⟩
    · cases hf
  obtain ⟨fs, hu⟩ := hu
  unfold Instr.findKey
  rw [Sem.run_bind, underlying_run hu]
  cases es with
  | nil =>
    have : m = [] := by cases m with | nil => rfl | cons _ _ => simp [pairs] at h
    subst this
    simp [Instr.findNow, ffind]
  | cons e es =>
    have : Instr.findNow (.struct fs) (kv k) (e :: es) 0 = none := by
      simp [Instr.findNow, Instr.sameNow]
    simp only [Result.andThen_ok, this]
    exact findAsk hf hk w m (e :: es) 0 h hl
/-- a block that is a map; 'n': how many ints are a key -/
structure MapB (w : World) (b n : Nat) (m : List (List Int × Value)) : Prop where
  ex : ∃ es clock, w.heap[b]? = some (.map es clock) ∧ pairs es.toList = m.map (fun p => (kv p.1, p.2))
  len : ∀ p ∈ m, p.1.length = n
theorem MapB.lt {w : World} {b n : Nat} {m : List (List Int × Value)} (h : MapB w b n m) : b < w.heap.size := by
  obtain ⟨es, c, h1, _⟩ := h.ex
  exact (Array.getElem?_eq_some_iff.1 h1).1
theorem MapB.keep {w w' : World} {b n : Nat} {m : List (List Int × Value)} {S : Nat → Prop} (h : MapB w b n m) (k : Keep S w w') (hs : S b) : MapB w' b n m := by
  have hlt := h.lt
  obtain ⟨es, c, h1, h2⟩ := h.ex
  exact ⟨⟨es, c, (k.block _ hlt hs).trans h1, h2⟩, h.len⟩
theorem MapB.ext {w w' : World} {b n : Nat} {m : List (List Int × Value)} (h : MapB w b n m) (k : Ext w w') : MapB w' b n m := h.keep (Keep.of_ext (S := fun _ => True) k) trivial
def mget (m : List (List Int × Value)) (k : List Int) : Option Value := (ffind k m 0).map (·.2)
def mset (k : List Int) (v : Value) : List (List Int × Value) → List (List Int × Value)
  | [] => [(k, v)]
  | p :: r => if (k == p.1) = true then (k, v) :: r else p :: mset k v r
theorem ffind_some {k : List Int} : ∀ (m : List (List Int × Value)) (i : Nat) {j : Nat} {v : Value}, ffind k m i = some (j, v) → ∃ d, j = i + d ∧ ∃ h : d < m.length, m[d] = (k, v) ∧ ∀ x, mset k x m = m.set d (k, x)
  | [], i, j, v, h => by cases h
  | p :: m, i, j, v, h => by
    unfold ffind at h
    by_cases hq : (k == p.1) = true
    · rw [if_pos hq] at h
      cases h
      refine ⟨0, rfl, by simp, ?_, fun x => by simp [mset, hq]⟩
      have : k = p.1 := by simpa using hq
      rw [this]; rfl
    · rw [if_neg hq] at h
      obtain ⟨d, e, hd, h1, h2⟩ := ffind_some m (i + 1) h
      refine ⟨d + 1, by omega, by simpa using hd, by simpa using h1, fun x => ?_⟩
      simp only [mset, if_neg hq, h2, List.set_cons_succ]
theorem ffind_none {k : List Int} : ∀ (m : List (List Int × Value)) (i : Nat), ffind k m i = none → ∀ x, mset k x m = m ++ [(k, x)]
  | [], i, h, x => rfl
  | p :: m, i, h, x => by
    unfold ffind at h
    by_cases hq : (k == p.1) = true
    · rw [if_pos hq] at h; cases h
    · rw [if_neg hq] at h
      simp only [mset, if_neg hq, ffind_none m (i + 1) h x, List.cons_append]
theorem mset_len {n : Nat} {k : List Int} {v : Value} (hk : k.length = n) : ∀ (m : List (List Int × Value)), (∀ p ∈ m, p.1.length = n) → ∀ p ∈ mset k v m, p.1.length = n
  | [], _, p, hp => by simp [mset] at hp; rw [hp]; exact hk
  | q :: m, h, p, hp => by
    unfold mset at hp
    split at hp
    · rcases List.mem_cons.1 hp with rfl | hp
      · exact hk
      · exact h p (List.mem_cons_of_mem _ hp)
    · rcases List.mem_cons.1 hp with rfl | hp
      · exact h _ (List.mem_cons_self ..)
      · exact mset_len hk m (fun x hx => h x (List.mem_cons_of_mem _ hx)) p hp
theorem ffind_shift (k : List Int) : ∀ (m : List (List Int × Value)) (i j : Nat), (ffind k m i).map (·.2) = (ffind k m j).map (·.2)
  | [], _, _ => rfl
  | p :: m, i, j => by
    simp only [ffind]
    split
    · rfl
    · exact ffind_shift k m (i + 1) (j + 1)
theorem mget_cons (p : List Int × Value) (m : List (List Int × Value)) (k : List Int) : mget (p :: m) k = if (k == p.1) = true then some p.2 else mget m k := by
  unfold mget
  simp only [ffind]
  split
  · rfl
  · exact ffind_shift k m 1 0
theorem mget_set (k : List Int) (v : Value) (k' : List Int) : ∀ m : List (List Int × Value), mget (mset k v m) k' = if (k' == k) = true then some v else mget m k'
  | [] => by simp [mset, mget_cons]
  | p :: m => by
    unfold mset
    by_cases hq : (k == p.1) = true
    · rw [if_pos hq, mget_cons, mget_cons]
      have e : k = p.1 := by simpa using hq
      simp only [e]
      split <;> rfl
    · rw [if_neg hq, mget_cons, mget_cons, mget_set k v k' m]
      by_cases h1 : (k' == p.1) = true
      · rw [if_pos h1, if_pos h1, if_neg]
        intro h2
        have e1 : k' = p.1 := by simpa using h1
        have e2 : k' = k := by simpa using h2
        exact hq (by rw [← e2, e1]; simp)
      · rw [if_neg h1, if_neg h1]
theorem sameBits_kv (k : List Int) : Instr.sameBits 10000 (kv k) (kv k) = true := by
  show ((k.map (Value.int .i64)).toArray.size == (k.map (Value.int .i64)).toArray.size && (((k.map (Value.int .i64)).toArray.toList.zip (k.map (Value.int .i64)).toArray.toList).all fun (x, y) => Instr.sameBits 9999 x y)) = true
  simp only [beq_self_eq_true, Bool.true_and, List.all_eq_true]
  rintro ⟨x, y⟩ h
  have : x = y ∧ ∃ i : Int, x = .int .i64 i := by
    obtain ⟨j, hj, e⟩ := List.getElem_of_mem h
    simp at e
    exact ⟨by rw [← e.1, ← e.2], _, e.1.symm⟩
  obtain ⟨rfl, i, rfl⟩ := this
  simp [Instr.sameBits]
section
variable {P : Program} {w : World} {mt kt et : TypeId} {b : Nat} {m : List (List Int × Value)} {k : List Int}
theorem SemW_lookup {ok : Bool} {z : Value} {sz by_ : Nat} (ht : P.underlying mt = some (.map kt et)) (hf : flatT P kt = true) (hT : TI P et z sz by_) (hM : MapB w b (P.cellsOf kt) m) (hk : k.length = P.cellsOf kt) {K : Value → World → Prop}
    (hK : K (if ok then .tuple #[(mget m k).getD z, .bool (mget m k).isSome] else (mget m k).getD z) w) : SemW P (Instr.lookup mt (.map (some b)) (kv k) ok) w K := by
  obtain ⟨es, c, h1, h2⟩ := hM.ex
  obtain ⟨i, hi, hz, _, _⟩ := info_parts hT.h
  refine SemW.of_run ?_ hK
  unfold Instr.lookup
  rw [Sem.run_bind, underlying_run ht]
  simp only [Result.andThen_ok, Sem.run_bind, Go.MapKept.run_getObj_map h1, Sem.run_pure, checkKey_flat hf hk, findK hf hk w h2 hM.len]
  unfold mget
  cases hfnd : ffind k m 0 with
  | none => cases ok <;> simp [zeroValue, typeInfo, hi, hz]
  | some p => cases ok <;> simp
theorem SemW_mapUpdate {x : Value} (ht : P.underlying mt = some (.map kt et)) (hf : flatT P kt = true) (hM : MapB w b (P.cellsOf kt) m) (hk : k.length = P.cellsOf kt) {K : Unit → World → Prop}
    (hK : ∀ w', MapB w' b (P.cellsOf kt) (mset k x m) → Keep (fun g => g ≠ b) w w' → w'.heap.size = w.heap.size → K () w') : SemW P (Instr.mapUpdate mt (.map (some b)) (kv k) x) w K := by
  obtain ⟨es, c, h1, h2⟩ := hM.ex
  have fin : ∀ es' c', pairs es'.toList = (mset k x m).map (fun p => (kv p.1, p.2)) → K () { w with heap := w.heap.setIfInBounds b (.map es' c') } := fun es' c' he => by
    obtain ⟨a1, a2⟩ := heap_set (o' := .map es' c') h1
    exact hK _ ⟨⟨es', c', a1, he⟩, mset_len hk m hM.len⟩ ⟨rfl, rfl, rfl, by simp, fun g _ hg => a2 g hg⟩ (by simp)
  have hsz : es.toList.length = m.length := by
    have := congrArg List.length h2
    simpa [pairs] using this
  cases hfnd : ffind k m 0 with
  | none =>
    refine SemW.of_run (v := ()) (w' := { w with heap := w.heap.setIfInBounds b (.map (es.push { key := kv k, val := x, born := c }) (c + 1)) }) ?_ (fin _ _ ?_)
    · unfold Instr.mapUpdate
      rw [Sem.run_bind, underlying_run ht]
      simp only [Result.andThen_ok, Sem.run_bind, Go.MapKept.run_getObj_map h1, checkKey_flat hf hk, findK hf hk w h2 hM.len, hfnd, Go.MapKept.run_setObj_map _ h1]
    · rw [ffind_none m 0 hfnd x]
      simp [pairs] at h2 ⊢
      exact h2
  | some p =>
    obtain ⟨j, v⟩ := p
    obtain ⟨d, e, hd, h3, h4⟩ := ffind_some m 0 hfnd
    have e : j = d := by omega
    subst e
    have hj : j < es.size := by simpa using (show j < es.toList.length by omega)
    have hkey : es[j].key = kv k := by
      have := congrArg (fun l => l[j]?) h2
      simp [pairs, hj, hd, h3] at this
      exact this.1
    refine SemW.of_run (v := ()) (w' := { w with heap := w.heap.setIfInBounds b (.map (es.modify j fun e => { e with key := kv k, val := x }) c) }) ?_ (fin _ _ ?_)
    · unfold Instr.mapUpdate
      rw [Sem.run_bind, underlying_run ht]
      simp only [Result.andThen_ok, Sem.run_bind, Go.MapKept.run_getObj_map h1, checkKey_flat hf hk, findK hf hk w h2 hM.len, hfnd]
      have hkk : (Instr.keyThatStays (((es[j]?).map (·.key)).getD (kv k)) (kv k)).run P w = .ok (kv k) w := by
        rw [Array.getElem?_eq_getElem hj]
        simp only [Option.map_some, Option.getD_some, hkey]
        unfold Instr.keyThatStays
        rw [if_pos (sameBits_kv k), Sem.run_pure]
      simp only [hkk, Result.andThen_ok, Go.MapKept.run_setObj_map _ h1]
    · rw [h4 x]
      apply List.ext_getElem?
      intro q
      have hq := congrArg (fun l => l[q]?) h2
      simp only [pairs, List.getElem?_map] at hq ⊢
      rw [Array.toList_modify, List.getElem?_modify, List.getElem?_set]
      by_cases e : j = q
      · subst e
        simp [hj, hd]
      · simp only [e, if_false]
        simpa [e] using hq
theorem SemW_makeMap {K : Value → World → Prop} (hK : ∀ w', MapB w' w.heap.size (P.cellsOf kt) [] → Ext w w' → w'.heap.size = w.heap.size + 1 → K (.map (some w.heap.size)) w') : SemW P (Instr.makeMap mt none) w K :=
  SemW.of_run (run_makeMap mt w) (hK _ ⟨⟨#[], 0, (heap_alloc w _).1, rfl⟩, fun p hp => by cases hp⟩ ((Below.refl _ _).alloc (Nat.le_refl _) _) (by show (w.heap.push _).size = _; simp))
end
end Go.Fk
