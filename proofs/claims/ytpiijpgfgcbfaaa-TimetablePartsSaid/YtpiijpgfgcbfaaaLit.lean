/- Slices written out, of any data. No program is named. -/
import Derived.Test.YtpiijpgfgcbfaaaBufO
set_option linter.unusedSimpArgs false
set_option linter.unusedVariables false
namespace Go.Fk
open Go Go.RowKit
/-- '[]T{..}' of values, whatever the data -/
theorem SemW_lit {α : Type} [Enc α] {e : TypeId} {w : World} {P : Program} {t : TypeId} {z : Value} {bytes : Nat} (ht : P.underlying t = some (.slice e)) (hT : TI P e z (Enc.n α) bytes) (hzs : z.cells.size = Enc.n α) (hz0 : 0 < Enc.n α)
    {parts : Array (Nat × Value)} (vs : List Value) (xs : List α) {n : Nat} (hp : parts.toList = vs.zipIdx.map fun p => (p.2, p.1)) (hn : n = vs.length) (hr : Cs w (vs.map fun v => v.cells.toList) xs) (hsm : n * Enc.n α ≤ 16777216)
    {K : Value → World → Prop} (hK : ∀ v w', Sl w' v xs → Ext w w' → K v w') : SemW P (Instr.buildSlice t n parts) w K := by
  have hlen : vs.length = xs.length := by have := hr.len; simpa using this
  have hm : xs.length ≤ 16777216 := by
    have := Nat.le_mul_of_pos_right n hz0
    omega
  refine SemW_buildSlice (vs := vs) ht hT hzs hp hn (fun v hv => ?_) hsm fun p w' hN => ?_
  · obtain ⟨i, hi, rfl⟩ := List.getElem_of_mem hv
    have := Enc.len _ _ _ (hr.rep i (by simpa using hi) (by omega))
    simpa using this
  · have e1 : (vs.flatMap fun v => v.cells.toList) = (vs.map fun v => v.cells.toList).flatten := by rw [List.flatMap_def]
    rw [e1] at hN
    rw [hn, hlen]
    refine hK _ w' ?_ hN.ext
    refine ⟨by simp, rfl, Nat.le_refl _, by omega, by simp; omega, fun i hi => ?_⟩
    simp only [slAt_mk]
    exact (hr.ext hN.ext).at_ hN.at_ i hi
theorem Cs.cons {α : Type} [Enc α] {w : World} {cs : List Value} {css : List (List Value)} {x : α} {xs : List α} (h : Enc.rep w cs x) (h' : Cs w css xs) : Cs w (cs :: css) (x :: xs) := (Cs.one h).append h'
/-- ints written out -/
theorem Cs.ints {w : World} : ∀ (xs : List Int), (∀ x ∈ xs, I64 x) → Cs w ((xs.map fun x => (Value.int .i64 x)).map fun v => v.cells.toList) xs
  | [], _ => Cs.nil _
  | x :: xs, h => Cs.cons ⟨rfl, h x (by simp)⟩ (Cs.ints xs fun y hy => h y (by simp [hy]))
/-- a row that reads as a list -/
theorem Sl.of_row {α : Type} [Enc α] {w : World} {p : Addr} {e : TypeId} {css : List (List Value)} {xs : List α} {n : Nat} (hr : Row w p e css.flatten) (hc : Cs w css xs) (hn : n = xs.length) (hb : n ≤ 140737488355328) : Sl w (.slice (some p) n n) xs := by
  subst hn
  exact ⟨by simp, rfl, Nat.le_refl _, hb, by simp; omega, fun i hi => by simp only [slAt_mk]; exact hc.at_ hr.at_ i hi⟩
theorem Row.has {w : World} {p a : Addr} {t : TypeId} {cs : List Value} {v : Value} (h : Row w p t cs) (hb : a.block = p.block) (hc : w.cell? a = some v) : v ∈ cs := by
  unfold World.cell? at hc
  rw [hb, h.heap] at hc
  simp only at hc
  split at hc
  · cases hc
  · exact List.mem_of_getElem? (by simpa using hc)
/-- a list stays when a row is written that has nothing of its elements -/
theorem Sl.keepD {α : Type} [Enc α] [Flat α] {w w' : World} {v : Value} {xs : List α} {p : Addr} {t : TypeId} {cs : List Value} (h : Sl w v xs) (hr : Row w p t cs) (hd : ∀ x ∈ xs, ∀ cs', Enc.rep w cs' x → ∃ u, cs'[0]? = some u ∧ u ∉ cs) (k : Keep (fun g => g ≠ p.block) w w') : Sl w' v xs := by
  refine ⟨h.s, h.len, h.cap, h.big, h.capM, fun i hi => ?_⟩
  obtain ⟨cs', h1, h2⟩ := h.at_ i hi
  refine ⟨cs', Flat.any _ _ _ _ h1, h2.keep k fun hb => ?_⟩
  obtain ⟨u, hu, hn⟩ := hd _ (List.getElem_mem hi) cs' h1
  have := h2 0 u hu
  exact hn (hr.has (by rw [← hb, blk_add]) this)
/-- what has elements is not nil -/
theorem Sl.some' {α : Type} [Enc α] {w : World} {v : Value} {xs : List α} (h : Sl w v xs) (h0 : 0 < xs.length) : ∃ p n c, v = .slice (some p) n c := by
  rcases h.s.ex with rfl | h'
  · have := h.len
    simp at this; omega
  · exact h'
end Go.Fk
