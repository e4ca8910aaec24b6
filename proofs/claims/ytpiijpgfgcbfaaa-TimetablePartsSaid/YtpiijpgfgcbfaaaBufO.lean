/- Rows of the call's own that read as lists, whatever else the call may write. No program is named. -/
import Derived.Test.YtpiijpgfgcbfaaaOwn
set_option linter.unusedSimpArgs false
set_option linter.unusedVariables false
namespace Go.Fk
open Go Go.RowKit
theorem SemW_set0 {P : Program} {w : World} {t T : TypeId} {X : Value} {p : Addr} {vs : List Value} {K : Unit → World → Prop} (hc : P.cellsOf t = 1) (hg : Row w p T vs) (hi : 0 < vs.length) (hX : X.cells = #[X]) (h1 : X.oneCell' = true)
    (hK : ∀ w', Row w' p T (vs.set 0 X) → Keep (fun k => k ≠ p.block) w w' → w'.heap.size = w.heap.size → K () w') : SemW P (Instr.storeAt t (.pointer (some p)) X) w K := by
  have := SemW_setAt (P := P) (i := 0) hc hg hi hX h1 hK
  simpa [add_zero] using this
/-- 'append(v, x...)', v's row the call's own, whatever else the call may write -/
theorem SemW_appendo {P : Program} {base : Nat} {w : World} {t ty e : TypeId} {z : Value} {size bytes : Nat} (ht : P.underlying t = some (.slice e)) (hT : TI P e z size bytes) (hzs : z.cells.size = size) (hsz : 0 < size)
    {v x : Value} {n m : Nat} {xs news : List Value} (hB : w.ownsRow base e size v n xs) (hbase : base ≤ w.heap.size) (hx : IsS x) (hm : slLen x = m) (hl : news.length = m * size) (hnews : 0 < m → At w (slAt x) news) (h1 : ∀ u ∈ news, u.oneCell' = true)
    (h63 : n + m ≤ maxLen) (hbytes : (n + m) * bytes ≤ 140737488355328) {K : Value → World → Prop}
    (hK : ∀ v' w', w'.ownsRow base e size v' (n + m) (xs ++ news) → w.grownBy w' v.ownBlock → K v' w') :
    SemW P (Builtin.append_ #[t, t] ty #[v, x]) w K := by
  obtain ⟨i, hi, hz, hs, hb⟩ := info_parts hT.h
  rcases hx.ex with rfl | ⟨a, k, c, rfl⟩
  · simp at hm; subst hm
    have hn0 : news = [] := List.eq_nil_of_length_eq_zero (by simpa using hl)
    subst hn0
    refine SemW.of_run (run_append_owned_none (P := P) w base t ty e i size ht hi v n xs hB) (hK _ _ (by simpa using hB) ⟨rfl, rfl, rfl, Nat.le_refl _, fun _ _ _ => rfl⟩)
  · simp at hm; subst hm
    have hnw : ∀ j u, news[j]? = some u → w.cell? (a.add j) = some u := fun j u hu => by
      have : 0 < k := by
        rcases Nat.eq_zero_or_pos k with rfl | h
        · have h0 : news = [] := List.eq_nil_of_length_eq_zero (by simpa using hl)
          rw [h0] at hu; simp at hu
        · exact h
      exact hnews this j u hu
    obtain ⟨v', w', hr, ho, hg, hnil⟩ := run_append_own (P := P) w base t ty e i z size bytes ht hi hz hs hb hzs hsz v n xs hB a k c news hl hnw h1 h63 hbytes hbase
    exact SemW.of_run hr (hK v' w' ho hg)
/-- a row of the call's own, beyond the block B -/
structure BufO {α : Type} [Enc α] (e : TypeId) (B : Nat) (w : World) (v : Value) (xs : List α) : Prop where
  ex : ∃ css, Cs w css xs ∧ w.ownsRow B e (Enc.n α) v xs.length css.flatten
section
variable {α : Type} [Enc α] {e : TypeId} {B : Nat} {w : World} {v : Value} {xs : List α} {P : Program}
theorem BufO.nil : BufO e B w (.slice none 0 0) ([] : List α) := ⟨[], Cs.nil _, ⟨by simp, .inl ⟨rfl, rfl⟩⟩⟩
theorem BufO.isS (h : BufO e B w v xs) : IsS v ∧ slLen v = xs.length := by
  obtain ⟨css, hc, hb⟩ := h.ex
  obtain ⟨h1, h2, _⟩ := ownsRow_val hb
  exact ⟨h1, h2⟩
theorem BufO.sl (h : BufO e B w v xs) (hbig : xs.length ≤ 140737488355328) : Sl w v xs := by
  obtain ⟨css, hc, hb⟩ := h.ex
  obtain ⟨h1, h2, h3, h4⟩ := ownsRow_val hb
  refine ⟨h1, h2, h3, hbig, h4, fun i hi => ?_⟩
  by_cases h0 : css.flatten = []
  · have hl := hc.flen
    rw [h0] at hl
    simp only [List.length_nil] at hl
    have hz : Enc.n α = 0 := by
      rcases Nat.mul_eq_zero.1 hl.symm with h | h
      · omega
      · exact h
    have := hc.rep i (by rw [hc.len]; exact hi) hi
    have hn := Enc.len _ _ _ this
    rw [hz] at hn
    exact ⟨_, this, by rw [List.eq_nil_of_length_eq_zero hn]; intro j v hj; simp at hj⟩
  · exact hc.at_ (ownsRow_at hb (List.length_pos_iff.2 h0)) i hi
theorem BufO.le (h : BufO e B w v xs) (hz : 0 < Enc.n α) (hne : xs ≠ []) : B ≤ (slAt v).block ∧ (slAt v).block < w.heap.size := by
  obtain ⟨css, hc, hb⟩ := h.ex
  rcases hb.2 with ⟨rfl, h2⟩ | ⟨g, cap, cur, rfl, hbs, hg, h1, h2, h3⟩
  · exact (hne (List.eq_nil_of_length_eq_zero h2)).elim
  · exact ⟨hbs, (Array.getElem?_eq_some_iff.1 hg).1⟩
theorem BufO.mono {B' : Nat} (h : BufO e B w v xs) (hB : B' ≤ B) : BufO e B' w v xs := by
  obtain ⟨css, hc, hl, hb⟩ := h.ex
  refine ⟨css, hc, hl, ?_⟩
  rcases hb with h | ⟨g, cap, cur, h0, hbs, h⟩
  · exact .inl h
  · exact .inr ⟨g, cap, cur, h0, by omega, h⟩
theorem BufL.o {W : World} (h : BufL e W w v xs) : BufO e W.heap.size w v xs := by
  obtain ⟨css, hc, hb⟩ := h.ex
  exact ⟨css, hc, hb.own⟩
/-- blocks of another type are others -/
theorem BufO.ne {p : Addr} {T : TypeId} {vs : List Value} (h : BufO e B w v xs) (r : Row w p T vs) (hT : T ≠ e) : some p.block ≠ v.ownBlock := by
  obtain ⟨css, hc, hl, hb⟩ := h.ex
  rcases hb with ⟨rfl, _⟩ | ⟨g, cap, cur, rfl, hbs, hg, _⟩
  · intro h; cases h
  · intro h
    have h : p.block = g := by simpa [Value.ownBlock] using h
    rw [← h, r.heap] at hg
    injection hg with hg
    injection hg with _ h2
    exact hT h2
theorem BufO.own_lt (h : BufO e B w v xs) {g : Nat} (hg : v.ownBlock = some g) : B ≤ g ∧ g < w.heap.size := by
  obtain ⟨css, hc, hb⟩ := h.ex
  exact hb.lt g hg
/-- no other block counts -/
theorem BufO.keep [Flat α] {w' : World} {S : Nat → Prop} (h : BufO e B w v xs) (k : Keep S w w') (hS : ∀ g, B ≤ g → g < w.heap.size → S g) : BufO e B w' v xs := by
  obtain ⟨css, hc, hb⟩ := h.ex
  exact ⟨css, hc.any, ownsRow_blk hb fun g hg => by
    obtain ⟨h1, h2⟩ := hb.lt g hg
    exact k.block g h2 (hS g h1 h2)⟩
theorem BufO.keep' {w' : World} {S : Nat → Prop} (h : BufO e B w v xs) (k : Keep S w w') (hS : ∀ g, B ≤ g → g < w.heap.size → S g) (hr : ∀ css, Cs w css xs → Cs w' css xs) : BufO e B w' v xs := by
  obtain ⟨css, hc, hb⟩ := h.ex
  exact ⟨css, hr _ hc, ownsRow_blk hb fun g hg => by
    obtain ⟨h1, h2⟩ := hb.lt g hg
    exact k.block g h2 (hS g h1 h2)⟩
theorem grown_keepO {w w' : World} {v : Value} (hg : w.grownBy w' v.ownBlock) : Keep (fun k => some k ≠ v.ownBlock) w w' :=
  Keep.grown hg fun k hk hne => hne hk.symm
theorem BufO.below (h : BufO e B w v xs) {w' : World} (hk : Keep (fun k => some k ≠ v.ownBlock) w w') : Keep (fun k => k < B) w w' :=
  hk.mono fun k _ hlt e => by have := (h.own_lt e.symm).1; omega
/-- 'append(v, X)', flat data -/
theorem SemW_append1FO [Flat α] {t ty : TypeId} {z X : Value} {bytes : Nat} (ht : P.underlying t = some (.slice e)) (hT : TI P e z (Enc.n α) bytes) (hzs : z.cells.size = Enc.n α) (hsz : 0 < Enc.n α ∧ Enc.n α ≤ 16777216) {x : α} (hB : BufO e B w v xs) (hbase : B ≤ w.heap.size)
    (hx : Enc.rep w X.cells.toList x) (hb : xs.length + 1 ≤ maxLen ∧ (xs.length + 1) * bytes ≤ 140737488355328) {K : Value → Value → World → Prop}
    (hK : ∀ s v' w', BufO e B w' v' (xs ++ [x]) → Keep (fun k => some k ≠ v.ownBlock) w w' → K s v' w') :
    SemW P (Instr.buildSlice t 1 #[(0, X)]) w fun s w1 => SemW P (Builtin.append_ #[t, t] ty #[v, s]) w1 (K s) := by
  obtain ⟨css, hc, ho⟩ := hB.ex
  refine SemW_append1o ht hT hzs hsz ho hbase (by simpa using Enc.len _ _ _ hx) (Flat.one _ _ _ hx) hb fun s v' w' h1 h2 => hK s v' w' ⟨css ++ [X.cells.toList], hc.any.append (Cs.one (Flat.any _ _ _ _ hx)), ?_⟩ (grown_keepO h2)
  simpa using h1
/-- 'append(v, x...)', flat data -/
theorem SemW_appendFO [Flat α] {t ty : TypeId} {z : Value} {bytes : Nat} (ht : P.underlying t = some (.slice e)) (hT : TI P e z (Enc.n α) bytes) (hzs : z.cells.size = Enc.n α) (hsz : 0 < Enc.n α) {x : Value} {ys : List α} (hB : BufO e B w v xs) (hbase : B ≤ w.heap.size) (hx : Sl w x ys)
    (hb : xs.length + ys.length ≤ maxLen ∧ (xs.length + ys.length) * bytes ≤ 140737488355328) {K : Value → World → Prop} (hK : ∀ v' w', BufO e B w' v' (xs ++ ys) → Keep (fun k => some k ≠ v.ownBlock) w w' → K v' w') :
    SemW P (Builtin.append_ #[t, t] ty #[v, x]) w K := by
  obtain ⟨css, hc, ho⟩ := hB.ex
  obtain ⟨css2, hc2, ha⟩ := hx.cells
  refine SemW_appendo ht hT hzs hsz ho hbase hx.s hx.len hc2.flen (fun _ => ha) (List.all_eq_true.1 hc2.one') hb.1 hb.2 fun v' w' h1 h2 => hK v' w' ⟨css ++ css2, hc.any.append hc2.any, ?_⟩ (grown_keepO h2)
  simpa using h1
/-- 'append(v, X)', data that may point: what it points to must stay -/
theorem SemW_append1O {t ty : TypeId} {z X : Value} {bytes : Nat} (ht : P.underlying t = some (.slice e)) (hT : TI P e z (Enc.n α) bytes) (hzs : z.cells.size = Enc.n α) (hsz : 0 < Enc.n α ∧ Enc.n α ≤ 16777216) {x : α} (hB : BufO e B w v xs) (hbase : B ≤ w.heap.size)
    (hx : Enc.rep w X.cells.toList x) (h1c : X.cells.toList.all Value.oneCell' = true) (hb : xs.length + 1 ≤ maxLen ∧ (xs.length + 1) * bytes ≤ 140737488355328) {K : Value → Value → World → Prop}
    (hst : ∀ w', Keep (fun k => some k ≠ v.ownBlock) w w' → (∀ css, Cs w css xs → Cs w' css xs) ∧ Enc.rep w' X.cells.toList x)
    (hK : ∀ s v' w', BufO e B w' v' (xs ++ [x]) → Keep (fun k => some k ≠ v.ownBlock) w w' → K s v' w') :
    SemW P (Instr.buildSlice t 1 #[(0, X)]) w fun s w1 => SemW P (Builtin.append_ #[t, t] ty #[v, s]) w1 (K s) := by
  obtain ⟨css, hc, ho⟩ := hB.ex
  refine SemW_append1o ht hT hzs hsz ho hbase (by simpa using Enc.len _ _ _ hx) h1c hb fun s v' w' h1 h2 => ?_
  have hk : Keep (fun k => some k ≠ v.ownBlock) w w' := Keep.grown h2 fun k hk hne => hne hk.symm
  obtain ⟨s1, s2⟩ := hst w' hk
  refine hK s v' w' ⟨css ++ [X.cells.toList], (s1 _ hc).append (Cs.one s2), ?_⟩ hk
  simpa using h1
end
end Go.Fk
