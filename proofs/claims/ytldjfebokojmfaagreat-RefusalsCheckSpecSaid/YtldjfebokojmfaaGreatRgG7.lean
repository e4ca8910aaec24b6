import Derived.Test.YtldjfebokojmfaaGreatRgGe
import Derived.Test.YtldjfebokojmfaaGreatRgGb
import Derived.Maps.AppendAt
set_option linter.unusedSimpArgs false
set_option linter.unusedVariables false
set_option maxRecDepth 100000
namespace Go.Fk
open Go
theorem SemW_append1Q {α : Type} [Enc α] [Flat α] {P : Program} {e : TypeId} {B : Nat} {w : World} {v : Value} {xs : List α} {t ty : TypeId} {z X : Value} {bytes : Nat} (ht : P.underlying t = some (.slice e)) (hT : TI P e z (Enc.n α) bytes) (hzs : z.cells.size = Enc.n α) (hsz : 0 < Enc.n α ∧ Enc.n α ≤ 16777216) {x : α} (hB : BufO e B w v xs) (hbase : B ≤ w.heap.size)
    (hx : Enc.rep w X.cells.toList x) (hb : xs.length + 1 ≤ maxLen ∧ (xs.length + 1) * bytes ≤ 140737488355328) {K : Value → Value → World → Prop}
    (hK : ∀ s v' w', BufO e B w' v' (xs ++ [x]) → Keep (fun k => some k ≠ v.ownBlock) w w' → (v'.ownBlock = v.ownBlock ∨ ∃ g, v'.ownBlock = some g ∧ w.heap.size ≤ g) → K s v' w') :
    SemW P (Instr.buildSlice t 1 #[(0, X)]) w fun s w1 => SemW P (Builtin.append_ #[t, t] ty #[v, s]) w1 (K s) := by
  obtain ⟨css, hc, ho⟩ := hB.ex
  have hX : X.cells.size = Enc.n α := by simpa using Enc.len _ _ _ hx
  have h1 := Flat.one _ _ _ hx
  refine SemW_buildSlice (vs := [X]) ht hT hzs (by simp) rfl (by simpa using hX) (by simpa using hsz.2) fun p w1 hN => ?_
  have hB1 : w1.ownsRow B e (Enc.n α) v xs.length css.flatten := by rw [hN.w]; exact ho.alloc _
  have hat := hN.at_
  simp only [List.flatMap_cons, List.flatMap_nil, List.append_nil] at hat
  obtain ⟨i, hi, hz, hs, hbb⟩ := info_parts hT.h
  have hnw : ∀ j u, X.cells.toList[j]? = some u → w1.cell? (p.add j) = some u := hat
  have z1 := hN.size
  obtain ⟨v', w', hr, ho', hg, hnil, hw⟩ := run_append_own_at (P := P) w1 B t ty e i z (Enc.n α) bytes ht hi hz hs hbb hzs hsz.1 v xs.length css.flatten hB1 p 1 1 X.cells.toList (by simp [hX]) hnw (List.all_eq_true.1 h1) hb.1 hb.2 (by omega)
  refine SemW.of_run hr (hK _ v' w' ⟨css ++ [X.cells.toList], hc.any.append (Cs.one (Flat.any _ _ _ _ hx)), by simpa using ho'⟩ (grown_keepO (grownBy_trans (by rw [hN.w]; exact World.grownBy_alloc _ _ _) hg)) ?_)
  rcases hw with h | h
  · exact .inl h
  · exact .inr ⟨_, h, by omega⟩
theorem BufO.keepQ {α : Type} [Enc α] [Flat α] {e : TypeId} {B : Nat} {w w' : World} {v : Value} {xs : List α} {S : Nat → Prop} (h : BufO e B w v xs) (k : Keep S w w') (hS : ∀ g, v.ownBlock = some g → S g) : BufO e B w' v xs := by
  obtain ⟨css, hc, hb⟩ := h.ex
  exact ⟨css, hc.any, ownsRow_blk hb fun g hg => k.block g (hb.lt g hg).2 (hS g hg)⟩
end Go.Fk
