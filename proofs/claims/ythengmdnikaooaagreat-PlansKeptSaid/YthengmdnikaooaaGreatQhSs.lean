import Derived.Test.YthengmdnikaooaaGreatQhSr
import Derived.Test.YthengmdnikaooaaGreatQhShR
import Derived.Shelf.SlSortCmp.NoneTotal
set_option linter.unusedSimpArgs false
set_option linter.unusedVariables false
set_option maxRecDepth 100000
namespace Go.Fk
open Go
section
variable {α : Type} [Inhabited α] {enc : α → List Value} {k : Nat}
omit [Inhabited α] in
theorem flat_len (hk : ∀ x, (enc x).length = k) : ∀ l : List α, (l.flatMap enc).length = l.length * k
  | [] => by simp
  | x :: l => by rw [List.flatMap_cons, List.length_append, hk, flat_len hk l, List.length_cons, Nat.add_mul]; omega
theorem flat_get (hk : ∀ x, (enc x).length = k) : ∀ (l : List α) (t : Nat), t < l.length * k → (l.flatMap enc)[t]! = (enc l[t / k]!)[t % k]!
  | [], t, h => by simp at h
  | x :: l, t, h => by
    have k0 : 0 < k := by rcases Nat.eq_zero_or_pos k with e | e; · subst e; simp at h
                          · exact e
    rw [List.flatMap_cons]
    by_cases ht : t < k
    · rw [Nat.div_eq_of_lt ht, Nat.mod_eq_of_lt ht]
      simp only [List.getElem!_eq_getElem?_getD, List.getElem?_cons_zero, Option.getD_some]
      rw [List.getElem?_append_left (by rw [hk]; exact ht)]
    · obtain ⟨s, rfl⟩ : ∃ s, t = s + k := ⟨t - k, by omega⟩
      have hs : s < l.length * k := by rw [List.length_cons, Nat.add_mul] at h; omega
      rw [Nat.add_div_right _ k0, Nat.add_mod_right]
      have := flat_get hk l s hs
      simp only [List.getElem!_eq_getElem?_getD] at this ⊢
      rw [List.getElem?_append_right (by rw [hk]; omega), hk, Nat.add_sub_cancel, this]
      simp
theorem flatK_list (hk : ∀ x, (enc x).length = k) (l : List α) : Sort.flatK enc k l.toArray = (l.flatMap enc).toArray := by
  refine Sort.ext_get! (by simp [flat_len hk]) fun t ht => ?_
  have ht : t < l.length * k := by simpa using ht
  rw [Sort.get_flatK enc k _ t (by simpa using ht)]
  have := flat_get hk l t ht
  simpa using this.symm
theorem holdsK_row (hk : ∀ x, (enc x).length = k) {w : World} {g : Nat} {cur : Array Value} {e : TypeId} (hg : w.heap[g]? = some (.cells cur e (0, 0))) {l : List α} (h : cur.toList.take (l.length * k) = l.flatMap enc) : Sort.HoldsK enc k w g 0 l.toArray := by
  unfold Sort.HoldsK
  rw [flatK_list hk]
  intro j hj
  have hj : j < (l.flatMap enc).length := by simpa using hj
  have hj2 := hj
  rw [flat_len hk] at hj2
  have e1 : cur[j]? = some (l.flatMap enc)[j] := by
    rw [← List.getElem?_eq_getElem hj, ← h, List.getElem?_take, if_pos hj2]
    simp
  refine ⟨?_, ?_⟩
  · simp only [World.cell?, hg, Nat.zero_add, Option.isSome_none, Bool.false_eq_true, if_false, e1]
    simp [List.getElem!_eq_getElem?_getD, List.getElem?_eq_getElem hj]
  · simp [World.frozen?, hg]
theorem sorted_row (hk : ∀ x, (enc x).length = k) {w : World} {g : Nat} {cur : Array Value} {e : TypeId} (hg : w.heap[g]? = some (.cells cur e (0, 0))) {l : List α} (h : l.length * k ≤ cur.size) (n : Nat) (os : Array Obj) :
    (∃ cur' : Array Value, (Go.Proofs.sortWorldK enc k w g 0 n l.toArray os).heap[g]? = some (.cells cur' e (0, 0)) ∧ cur'.size = cur.size ∧ cur'.toList.take (l.length * k) = l.flatMap enc) ∧ Keep (fun b => b ≠ g) w (Go.Proofs.sortWorldK enc k w g 0 n l.toArray os) := by
  have hlt : g < w.heap.size := (Array.getElem?_eq_some_iff.1 hg).1
  have hh : ∀ b, b < w.heap.size → (Go.Proofs.sortWorldK enc k w g 0 n l.toArray os).heap[b]? = if g = b then w.heap[b]?.map (Sort.onCells (Sort.putCells id 0 (Sort.flatK enc k l.toArray))) else w.heap[b]? := fun b hb => by
    unfold Go.Proofs.sortWorldK Sort.putRowK Sort.putRow Sort.mapBlock Sort.grow Sort.ahead
    simp only [Array.getElem?_append, Array.size_modify, hb, if_true, Array.getElem?_modify]
  refine ⟨⟨Sort.putCells id 0 (Sort.flatK enc k l.toArray) cur, ?_, by simp [Sort.putCells], ?_⟩, ⟨rfl, rfl, rfl, ?_, fun b hb hne => ?_⟩⟩
  · rw [hh g hlt, if_pos rfl, hg]; rfl
  · rw [flatK_list hk]
    refine List.ext_getElem (by simp [Sort.putCells, flat_len hk]; omega) fun j h1 h2 => ?_
    rw [flat_len hk] at h2
    have h3 : j < (l.flatMap enc).length := by rw [flat_len hk]; exact h2
    simp only [List.getElem_take, Array.getElem_toList, Sort.putCells, Array.getElem_mapIdx, Nat.zero_le, true_and, Nat.zero_add, List.size_toArray, Nat.sub_zero, id]
    rw [if_pos h3]
    simp [List.getElem!_eq_getElem?_getD, List.getElem?_eq_getElem h3]
  · unfold Go.Proofs.sortWorldK Sort.putRowK
    simp
  · rw [hh b hb, if_neg (Ne.symm hne)]
theorem Cs.runs {w : World} : ∀ {css : List (List Value)} {xs : List RunD}, Cs w css xs → css.flatten = xs.flatMap RunD.cs ∧ ∀ x ∈ xs, ∀ w', Enc.rep w' x.cs x
  | [], [], _ => ⟨rfl, fun x hx => by cases hx⟩
  | [], _ :: _, h => by have := h.len; simp at this
  | _ :: _, [], h => by have := h.len; simp at this
  | c :: css, x :: xs, h => by
    have h0 := h.rep 0 (by simp) (by simp)
    simp only [List.getElem_cons_zero] at h0
    obtain ⟨rfl, h1⟩ := h0
    obtain ⟨e, hr⟩ := h.tail.runs
    refine ⟨by rw [List.flatten_cons, List.flatMap_cons, e], fun y hy w' => ?_⟩
    rcases List.mem_cons.1 hy with rfl | hy
    · exact ⟨rfl, h1⟩
    · exact hr y hy w'
theorem Cs.ofRuns {w : World} : ∀ {xs : List RunD}, (∀ x ∈ xs, Enc.rep w x.cs x) → Cs w (xs.map RunD.cs) xs
  | [], _ => Cs.nil _
  | x :: xs, h => ⟨by simp, fun i h1 h2 => by rw [List.getElem_map]; exact h _ (List.getElem_mem h2)⟩
end
end Go.Fk
namespace Go.Proofs.YthengmdnikaooaaGreat
open Go Go.Fk
theorem cmpRunLays (blk off size : Nat) (w : World) : Go.Proofs.CmpLays Tryz.prog 76 #[] RunD.cs 3 cmpR blk off size w := fun m os dk _ x y => ttCmp x y _
theorem sortRuns {v : Value} {l : List RunD} {w : World} {B : Nat} (hb : BufO (α := RunD) 32 B w v l) (hn : l.length ≤ 100000) (ha : l.Pairwise Tt.Apart) :
    Calls Tryz.prog 75 #[v, .func (.func 76) #[] #[]] w fun e w' => e = .returned (.tuple #[]) ∧ BufO (α := RunD) 32 B w' v (Tt.sortR l) ∧ Keep (fun k => some k ≠ v.ownBlock) w w' := by
  by_cases h0 : l = []
  · subst h0
    have hv : ∃ p cap, v = .slice p 0 cap := by
      obtain ⟨css, hc, hl, hv⟩ := hb.ex
      rcases hv with ⟨rfl, _⟩ | ⟨g, cap, cur, rfl, _⟩
      · exact ⟨_, _, rfl⟩
      · exact ⟨_, _, rfl⟩
    obtain ⟨p, cap, rfl⟩ := hv
    refine (AnyF.slices_SortFunc_none sortRun p cap _ w).mono fun e w' ⟨he, hw⟩ => ?_
    subst hw
    exact ⟨he, hb, Keep.refl _ _⟩
  obtain ⟨css, hc, hl, hv⟩ := hb.ex
  obtain ⟨e1, hr⟩ := hc.runs
  rcases hv with ⟨rfl, h0'⟩ | ⟨g, cap, cur, rfl, hbs, hg, h1, h2, h3, h4⟩
  · exact (h0 (List.eq_nil_of_length_eq_zero h0')).elim
  rw [e1] at h4
  have hlt : g < w.heap.size := (Array.getElem?_eq_some_iff.1 hg).1
  have eg : ∀ args w, (callFunc 76 args).run Tryz.prog w = .ok (.enter 76 args) w := enters_of Tryz.func76 (by kernel_rfl) rfl
  have hk : ∀ x : RunD, x.cs.length = 3 := fun _ => rfl
  refine (AnyQ.slices_SortFunc sortRun 3 Tryz.isAgg32 Tryz.sizeOf32 RunD.cs hk (fun x v hv => by simp [RunD.cs] at hv; rcases hv with rfl | rfl | rfl <;> rfl) cmpR before_swo 76 #[] g 0 cap l.toArray w eg (cmpRunLays _ _ _ _) (holdsK_row hk hg h4) hlt (by simp; omega)).mono fun e w' ⟨he, d', n, os, hp, hs, hw⟩ => ?_
  obtain ⟨l', rfl⟩ : ∃ l' : List RunD, d' = l'.toArray := ⟨d'.toList, by simp⟩
  have hsz : l'.length = l.length := by simpa using hp.1
  have hpm : l'.Perm l := by
    have := hp.2.2
    simp at this
    rwa [List.take_of_length_le (Nat.le_of_eq hsz)] at this
  have hap : l'.Pairwise Tt.Apart := (hpm.symm.pairwise_iff (fun h => Tt.apart_symm h)).1 ha
  have hsrt : Tt.Srt l' := by
    refine List.pairwise_iff_getElem.2 fun i j hi hj hij => ?_
    refine Tt.apart_or (List.pairwise_iff_getElem.1 hap i j hi hj hij) ?_
    have := hs i j (Nat.zero_le _) hij (by simpa [hsz] using hj)
    rw [ltOf_before] at this
    simpa [List.getElem!_eq_getElem?_getD, List.getElem?_eq_getElem hi, List.getElem?_eq_getElem hj] using this
  have hse := Tt.sortR_eq hpm hsrt ha
  obtain ⟨⟨cur', q1, q2, q3⟩, q4⟩ := sorted_row hk hg (l := l') (by rw [h3, hsz]; exact Nat.mul_le_mul_right 3 h1) n os
  rw [← hw] at q1 q4
  refine ⟨he, ⟨l'.map RunD.cs, ?_, ?_, .inr ⟨g, cap, cur', by rw [← hse, hsz], hbs, q1, by rw [← hse, hsz]; exact h1, h2, by rw [q2]; exact h3, ?_⟩⟩, q4.mono fun k _ hk e => hk (by rw [e]; rfl)⟩
  · rw [← hse]
    exact Cs.ofRuns fun x hx => hr x (hpm.mem_iff.1 hx) _
  · rw [← hse, ← List.flatMap_def, flat_len hk]; rfl
  · rw [← hse, ← List.flatMap_def]; exact q3
end Go.Proofs.YthengmdnikaooaaGreat
