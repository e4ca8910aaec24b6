/- Small laws of the calculus that several chapters use. No program is named. -/
import Derived.Test.YtpiijpgfgcbfaaaBufO
set_option linter.unusedSimpArgs false
set_option linter.unusedVariables false
namespace Go.Fk
open Go
theorem SemW.and {P : Program} {α : Type} {s : Sem α} {w : World} {K1 K2 : α → World → Prop} (h1 : SemW P s w K1) (h2 : SemW P s w K2) : SemW P s w fun v w' => K1 v w' ∧ K2 v w' := by
  unfold SemW at *
  split
  · rename_i h; rw [h] at h1 h2; exact ⟨h1, h2⟩
  · rename_i h; rw [h] at h1; exact h1
theorem SemW_build1 {P : Program} {w : World} {t e : TypeId} {z X : Value} {size bytes : Nat} (ht : P.underlying t = some (.slice e)) (hT : TI P e z size bytes) (hzs : z.cells.size = size) (hX : X.cells.size = size) (hs : size ≤ 16777216) : SemW P (Instr.buildSlice t 1 #[(0, X)]) w fun _ w' => Ext w w' :=
  SemW_buildSlice ht hT hzs (vs := [X]) rfl rfl (by simpa using hX) (by simp; omega) fun p w' h => h.ext
theorem CallW_cl {P : Program} {g : FuncId} {fi cap all : Array Value} {args : List Value} {w : World} {K : Value → World → Prop} {R : Ending → World → Prop} (hc : callable P g = true) (h : Calls P g all w R)
    (hK : ∀ e w', R e w' → ∃ v, e = .returned v ∧ K v w') (he : fi ++ args.toArray ++ cap = all := by simp) : CallW P (.func (.func g) fi cap) args w K := by subst he; exact ⟨hc, h.mono hK⟩
theorem Sl.blk {α : Type} [Enc α] {w : World} {v : Value} {xs : List α} (h : Sl w v xs) (hn : 0 < Enc.n α) {i : Nat} (hi : i < xs.length) : (slAt v).block < w.heap.size := by
  obtain ⟨cs, hr, ha⟩ := h.at_ i hi
  have hl := Enc.len _ _ _ hr
  have h0 : 0 < cs.length := by omega
  have := World.block_lt_of_cell? _ _ (ha 0 cs[0] (by simp [h0]))
  simpa [blk_add] using this
theorem At.blk {w : World} {a : Addr} {c : Value} {cs : List Value} (h : At w a (c :: cs)) : a.block < w.heap.size := by
  have := World.block_lt_of_cell? _ _ (h 0 c rfl)
  simpa [blk_add] using this
/-- 'append(v, X)', v's row the call's own, with what must hold in between -/
theorem SemW_append1G {α : Type} [Enc α] [Flat α] {P : Program} {e : TypeId} {B : Nat} {w : World} {v : Value} {xs : List α} {t ty : TypeId} {z X : Value} {bytes : Nat} (ht : P.underlying t = some (.slice e)) (hT : TI P e z (Enc.n α) bytes) (hzs : z.cells.size = Enc.n α) (hsz : 0 < Enc.n α ∧ Enc.n α ≤ 16777216) {x : α} (hB : BufO e B w v xs) (hbase : B ≤ w.heap.size)
    (hx : Enc.rep w X.cells.toList x) (hb : xs.length + 1 ≤ maxLen ∧ (xs.length + 1) * bytes ≤ 140737488355328) {G : World → Prop} (hG : ∀ w', Ext w w' → G w') {K : Value → Value → World → Prop}
    (hK : ∀ s v' w', BufO e B w' v' (xs ++ [x]) → Keep (fun k => some k ≠ v.ownBlock) w w' → v' ≠ .slice none 0 0 → K s v' w') :
    SemW P (Instr.buildSlice t 1 #[(0, X)]) w fun s w1 => G w1 ∧ SemW P (Builtin.append_ #[t, t] ty #[v, s]) w1 (K s) := by
  refine (SemW.and (SemW_append1FO (α := α) ht hT hzs hsz hB hbase hx hb fun s v' w' b k => hK s v' w' b k fun e => ?_) (SemW_build1 (e := e) (z := z) (size := Enc.n α) (bytes := bytes) ht hT hzs (by simpa using Enc.len _ _ _ hx) hsz.2)).mono fun s w2 h => ⟨hG _ h.2, h.1⟩
  have := b.isS.2
  rw [e] at this
  simp at this
end Go.Fk
