import Derived.Test.YthengmdnikaooaaGreatQfGb
import Derived.ArgAppend
set_option linter.unusedSimpArgs false
set_option linter.unusedVariables false
namespace Go.Fk
open Go Go.RowKit
theorem SemW_appendNew {α : Type} [Enc α] [Flat α] {P : Program} {w : World} {t ty e : TypeId} {z : Value} {bytes : Nat} (ht : P.underlying t = some (.slice e)) (hT : TI P e z (Enc.n α) bytes) (hzs : z.cells.size = Enc.n α) (hsz : 0 < Enc.n α)
    {b : Addr} {n cap : Nat} {x : Value} {xs ys : List α} (hv : Sl w (.slice (some b) n cap) xs) (hcap : cap = xs.length) (hx : Sl w x ys) (hy : 0 < ys.length) (hb : xs.length + ys.length ≤ maxLen ∧ (xs.length + ys.length) * bytes ≤ 140737488355328)
    {K : Value → World → Prop} (hK : ∀ v' w', BufO e w.heap.size w' v' (xs ++ ys) → Ext w w' → (∃ p n c, v' = .slice (some p) n c) → K v' w') : SemW P (Builtin.append_ #[t, t] ty #[.slice (some b) n cap, x]) w K := by
  obtain ⟨i, hi, hz, hs, hbb⟩ := info_parts hT.h
  obtain ⟨css, hc, ha⟩ := hv.cells
  obtain ⟨css2, hc2, ha2⟩ := hx.cells
  obtain ⟨a2, m2, c2, rfl⟩ := hx.some' hy
  have hn : n = xs.length := hv.len
  have hm : m2 = ys.length := hx.len
  obtain ⟨v', w', hr, ho, hg⟩ := run_append_arg_grows (P := P) w t ty e i z (Enc.n α) bytes ht hi hz hs hbb hzs hsz b n cap css.flatten (by rw [hc.flen, hn]) ha a2 m2 c2 css2.flatten (by rw [hc2.flen, hm]) ha2 (by omega) (by omega) (by rw [hn, hm]; exact hb.2)
  have hX : Ext w w' := Keep.ext (Ext.refl w) (Keep.grown (S := fun _ => True) hg (fun k h => by cases h)) fun _ _ => trivial
  refine SemW.of_run hr (hK v' w' ⟨css ++ css2, hc.any.append hc2.any, ?_⟩ hX ?_)
  · rw [hn, hm] at ho
    simpa using ho
  · rcases ho.2 with ⟨rfl, h2⟩ | ⟨g, cp, cur, rfl, _⟩
    · rw [hm] at h2; omega
    · exact ⟨_, _, _, rfl⟩
end Go.Fk
