/- Lists of the call's own, changed in place. No program is named. -/
import Derived.Test.YtpiijpgfgcbfaaaFk
set_option linter.unusedSimpArgs false
set_option linter.unusedVariables false
namespace Go.Fk
open Go
theorem flatten_len {n : Nat} : ∀ (css : List (List Value)), (∀ c ∈ css, c.length = n) → css.flatten.length = css.length * n
  | [], _ => by simp
  | c :: r, h => by
    rw [List.flatten_cons, List.length_append, h c (by simp), flatten_len r fun x hx => h x (by simp [hx]), List.length_cons, Nat.add_mul]; omega
theorem flatten_set1 {n : Nat} {j : Nat} (hj : j < n) (X : Value) : ∀ (css : List (List Value)) (i : Nat) (hi : i < css.length), (∀ c ∈ css, c.length = n) → css.flatten.set (i * n + j) X = (css.set i (css[i].set j X)).flatten
  | c :: r, 0, _, h => by
    have hc := h c (by simp)
    simp only [List.flatten_cons, List.getElem_cons_zero, List.set_cons_zero]
    rw [Nat.zero_mul, Nat.zero_add, List.set_append_left _ _ (by omega)]
  | c :: r, i + 1, hi, h => by
    have hc := h c (by simp)
    simp only [List.flatten_cons, List.getElem_cons_succ, List.set_cons_succ]
    rw [List.set_append_right _ _ (by rw [Nat.add_mul]; omega), show (i + 1) * n + j - c.length = i * n + j by rw [Nat.add_mul]; omega]
    rw [flatten_set1 hj X r i (by simpa using hi) fun x hx => h x (by simp [hx])]
theorem flatten_setN {n : Nat} {X : List Value} (hX : X.length = n) : ∀ (css : List (List Value)) (i : Nat) (hi : i < css.length), (∀ c ∈ css, c.length = n) → css.flatten.take (i * n) ++ X ++ css.flatten.drop (i * n + n) = (css.set i X).flatten
  | c :: r, 0, _, h => by
    have hc := h c (by simp)
    simp only [List.flatten_cons, List.set_cons_zero]
    rw [Nat.zero_mul, Nat.zero_add, List.drop_append_of_le_length (by omega), List.drop_of_length_le (by omega)]; simp
  | c :: r, i + 1, hi, h => by
    have hc := h c (by simp)
    simp only [List.flatten_cons, List.set_cons_succ]
    have e1 : (i + 1) * n = c.length + i * n := by rw [Nat.add_mul]; omega
    rw [e1, List.take_length_add_append, show c.length + i * n + n = c.length + (i * n + n) by omega, List.drop_length_add_append, List.append_assoc, List.append_assoc, ← List.append_assoc (List.take _ _),
      flatten_setN hX r i (by simpa using hi) fun x hx => h x (by simp [hx])]
theorem Cs.lens {α : Type} [Enc α] {w : World} {css : List (List Value)} {xs : List α} (h : Cs w css xs) : ∀ c ∈ css, c.length = Enc.n α := fun c hc => by
  obtain ⟨i, hi, rfl⟩ := List.getElem_of_mem hc
  exact Enc.len _ _ _ (h.rep i hi (by rw [← h.len]; exact hi))
theorem Cs.set {α : Type} [Enc α] {w : World} {css : List (List Value)} {xs : List α} (h : Cs w css xs) {i : Nat} {c : List Value} {x : α} (hc : Enc.rep w c x) : Cs w (css.set i c) (xs.set i x) := ⟨by simp [h.len], fun k h1 h2 => by
  simp only [List.length_set] at h1 h2
  rw [List.getElem_set, List.getElem_set]
  split
  · exact hc
  · exact h.rep k h1 h2⟩
theorem take_set_of_lt {L : List Value} {q m : Nat} {X : Value} : (L.set q X).take m = (L.take m).set q X := by rw [List.take_set]
section
variable {α : Type} [Enc α] [Flat α] {e : TypeId} {W w : World} {v : Value} {xs : List α} {P : Program}
omit [Flat α] in
/-- the row behind it -/
theorem BufL.rowA (h : BufL e W w v xs) {i : Nat} (hi : i < xs.length) : ∃ css rest cap, Cs w css xs ∧ Row w (slAt v) e (css.flatten ++ rest) ∧ v = .slice (some (slAt v)) xs.length cap ∧ xs.length ≤ cap ∧ cap ≤ maxLen ∧ (css.flatten ++ rest).length = cap * Enc.n α ∧ W.heap.size ≤ (slAt v).block ∧ (slAt v).block < w.heap.size := by
  obtain ⟨css, hc, hb⟩ := h.ex
  have hX := hb.ext
  rcases hb.own.2 with ⟨rfl, h2⟩ | ⟨g, cap, cur, rfl, hbs, hg, h1, h2, h3⟩
  · omega
  · have e1 : css.flatten ++ cur.toList.drop (xs.length * Enc.n α) = cur.toList := by
      have := h3.2
      rw [← this, List.take_append_drop]
    refine ⟨css, cur.toList.drop (xs.length * Enc.n α), cap, hc, ⟨rfl, ?_⟩, rfl, h1, h2, ?_, hbs, (Array.getElem?_eq_some_iff.1 hg).1⟩
    · rw [e1]; exact hg
    · rw [e1]; simpa using h3.1
omit [Flat α] in
theorem BufL.back {w' : World} {css : List (List Value)} {rest : List Value} {cap : Nat} {ys : List α} (hW : Ext W w') (hc : Cs w' css ys) (hr : Row w' (slAt v) e (css.flatten ++ rest)) (hv : v = .slice (some (slAt v)) ys.length cap) (h1 : ys.length ≤ cap) (h2 : cap ≤ maxLen) (h3 : (css.flatten ++ rest).length = cap * Enc.n α)
    (h4 : W.heap.size ≤ (slAt v).block) : BufL e W w' v ys := by
  refine ⟨css, hc, ⟨⟨hc.flen, .inr ⟨(slAt v).block, cap, (css.flatten ++ rest).toArray, ?_, h4, hr.heap, h1, h2, ?_⟩⟩, hW⟩⟩
  · rw [← hr.p0]; exact hv
  · refine ⟨by simpa using h3, ?_⟩
    simp only [List.take_append]
    rw [List.take_of_length_le (by rw [hc.flen]; exact Nat.le_refl _), hc.flen]; simp
/-- a field of an element is set -/
theorem SemW_setF {t : TypeId} {X : Value} {a : Addr} (hB : BufL e W w v xs) (i j : Nat) (hi : i < xs.length) (x : α) (hc : P.cellsOf t = 1) (hj : j < Enc.n α) (hX : X.cells = #[X]) (h1 : X.oneCell' = true) (ha : a = (slAt v).add (i * Enc.n α + j))
    (hx : ∀ cs, Enc.rep w cs xs[i] → Enc.rep w (cs.set j X) x) {K : Unit → World → Prop} (hK : ∀ w', BufL e W w' v (xs.set i x) → Keep (fun k => k ≠ (slAt v).block) w w' → w'.heap.size = w.heap.size → Ext W w' → K () w') : SemW P (Instr.storeAt t (.pointer (some a)) X) w K := by
  obtain ⟨css, rest, cap, hcs, hr, hv, c1, c2, c3, c4, c5⟩ := hB.rowA hi
  subst ha
  have hl := hcs.flen
  have hm : (i + 1) * Enc.n α ≤ xs.length * Enc.n α := Nat.mul_le_mul_right _ hi
  rw [Nat.add_mul, Nat.one_mul] at hm
  refine SemW_setAt hc hr (by rw [List.length_append, hl]; omega) hX h1 fun w' r' k' s' => ?_
  have hE : Ext W w' := Keep.ext hB.ext0 k' fun k hk => by omega
  rw [List.set_append_left _ _ (by omega), flatten_set1 hj X css i (by rw [hcs.len]; exact hi) hcs.lens] at r'
  have hcs' : Cs w' (css.set i ((css[i]'(by rw [hcs.len]; exact hi)).set j X)) (xs.set i x) := (hcs.set (i := i) (hx _ (hcs.rep i _ hi))).any
  refine hK w' (BufL.back (cap := cap) hE hcs' r' (by simpa using hv) (by simpa using c1) c2 ?_ c4) k' s' hE
  rw [← c3]; simp [hcs'.flen, hl]
/-- an element is set -/
theorem SemW_setE {X : Value} {a : Addr} (hB : BufL e W w v xs) (i : Nat) (hi : i < xs.length) (x : α) (hc : P.cellsOf e = Enc.n α) (h0 : 0 < Enc.n α) (hx : Enc.rep w X.cells.toList x) (ha : a = (slAt v).add (i * Enc.n α))
    {K : Unit → World → Prop} (hK : ∀ w', BufL e W w' v (xs.set i x) → Keep (fun k => k ≠ (slAt v).block) w w' → w'.heap.size = w.heap.size → Ext W w' → K () w') : SemW P (Instr.storeAt e (.pointer (some a)) X) w K := by
  obtain ⟨css, rest, cap, hcs, hr, hv, c1, c2, c3, c4, c5⟩ := hB.rowA hi
  subst ha
  have hl := hcs.flen
  have hm : (i + 1) * Enc.n α ≤ xs.length * Enc.n α := Nat.mul_le_mul_right _ hi
  rw [Nat.add_mul, Nat.one_mul] at hm
  have hXl := Enc.len _ _ _ hx
  refine SemW_setN (i * Enc.n α) (by omega) (by rw [hc]; simpa using hXl) hr (by rw [hc, List.length_append, hl]; omega) (Flat.one _ _ _ hx) fun w' r' k' s' => ?_
  have hE : Ext W w' := Keep.ext hB.ext0 k' fun k hk => by omega
  rw [hc, List.take_append_of_le_length (by omega), List.drop_append_of_le_length (by omega), ← List.append_assoc, flatten_setN hXl css i (by rw [hcs.len]; exact hi) hcs.lens] at r'
  have hcs' : Cs w' (css.set i X.cells.toList) (xs.set i x) := (hcs.set (i := i) hx).any
  refine hK w' (BufL.back (cap := cap) hE hcs' r' (by simpa using hv) (by simpa using c1) c2 ?_ c4) k' s' hE
  rw [← c3]; simp [hcs'.flen, hl]
end
end Go.Fk
