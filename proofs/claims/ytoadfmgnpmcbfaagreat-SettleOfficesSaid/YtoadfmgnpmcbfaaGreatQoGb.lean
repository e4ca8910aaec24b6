import Derived.Test.YtoadfmgnpmcbfaaGreatQoFk
/- Lists of the call's own, changed in place. No program is named. -/
set_option linter.unusedSimpArgs false
set_option linter.unusedVariables false
namespace Go.Fk
open Go
theorem Cs.set {α : Type} [Enc α] {w : World} {css : List (List Value)} {xs : List α} (h : Cs w css xs) {i : Nat} {c : List Value} {x : α} (hc : Enc.rep w c x) : Cs w (css.set i c) (xs.set i x) := ⟨by simp [h.len], fun k h1 h2 => by
  simp only [List.length_set] at h1 h2
  rw [List.getElem_set, List.getElem_set]
  split
  · exact hc
  · exact h.rep k h1 h2⟩
section
variable {α : Type} [Enc α] [Flat α] {e : TypeId} {W w : World} {v : Value} {xs : List α} {P : Program}
omit [Flat α] in
/-- the row behind it -/
theorem BufL.rowA (h : BufL e W w v xs) {i : Nat} (hi : i < xs.length) : ∃ css rest cap, Cs w css xs ∧ Row w (slAt v) e (css.flatten ++ rest) ∧ v = .slice (some (slAt v)) xs.length cap ∧ xs.length ≤ cap ∧ cap ≤ maxLen ∧ (css.flatten ++ rest).length = cap * Enc.n α ∧ W.heap.size ≤ (slAt v).block ∧ (slAt v).block < w.heap.size := by
  obtain ⟨css, hc, hb⟩ := h.ex
  have hX := hb.ext
  rcases hb.own.2 with ⟨rfl, h2⟩ | ⟨g, cap, cur, rfl, hbs, hg, h1, h2, h3⟩
  · omega
  · have e1 : css.flatten ++ cur.toList.drop (xs.length * Enc.n α) = cur.toList := by
      have := h3.2
      rw [← this, List.take_append_drop]
    refine ⟨css, cur.toList.drop (xs.length * Enc.n α), cap, hc, ⟨rfl, ?_⟩, rfl, h1, h2, ?_, hbs, (Array.getElem?_eq_some_iff.1 hg).1⟩
    · rw [e1]; exact hg
    · rw [e1]; simpa using h3.1
omit [Flat α] in
theorem BufL.back {w' : World} {css : List (List Value)} {rest : List Value} {cap : Nat} {ys : List α} (hW : Ext W w') (hc : Cs w' css ys) (hr : Row w' (slAt v) e (css.flatten ++ rest)) (hv : v = .slice (some (slAt v)) ys.length cap) (h1 : ys.length ≤ cap) (h2 : cap ≤ maxLen) (h3 : (css.flatten ++ rest).length = cap * Enc.n α)
    (h4 : W.heap.size ≤ (slAt v).block) : BufL e W w' v ys := by
  refine ⟨css, hc, ⟨⟨hc.flen, .inr ⟨(slAt v).block, cap, (css.flatten ++ rest).toArray, ?_, h4, hr.heap, h1, h2, ?_⟩⟩, hW⟩⟩
  · rw [← hr.p0]; exact hv
  · refine ⟨by simpa using h3, ?_⟩
    simp only [List.take_append]
    rw [List.take_of_length_le (by rw [hc.flen]; exact Nat.le_refl _), hc.flen]; simp
end
end Go.Fk
/- Rows of the call's own that read as lists, whatever else the call may write. No program is named. -/
set_option linter.unusedSimpArgs false
set_option linter.unusedVariables false
namespace Go.Fk
open Go Go.RowKit
theorem SemW_set0 {P : Program} {w : World} {t T : TypeId} {X : Value} {p : Addr} {vs : List Value} {K : Unit → World → Prop} (hc : P.cellsOf t = 1) (hg : Row w p T vs) (hi : 0 < vs.length) (hX : X.cells = #[X]) (h1 : X.oneCell' = true)
    (hK : ∀ w', Row w' p T (vs.set 0 X) → Keep (fun k => k ≠ p.block) w w' → w'.heap.size = w.heap.size → K () w') : SemW P (Instr.storeAt t (.pointer (some p)) X) w K := by
  have := SemW_setAt (P := P) (i := 0) hc hg hi hX h1 hK
  simpa [add_zero] using this
/-- a row of the call's own, beyond the block B -/
structure BufO {α : Type} [Enc α] (e : TypeId) (B : Nat) (w : World) (v : Value) (xs : List α) : Prop where
  ex : ∃ css, Cs w css xs ∧ w.ownsRow B e (Enc.n α) v xs.length css.flatten
section
variable {α : Type} [Enc α] {e : TypeId} {B : Nat} {w : World} {v : Value} {xs : List α} {P : Program}
theorem BufO.nil : BufO e B w (.slice none 0 0) ([] : List α) := ⟨[], Cs.nil _, ⟨by simp, .inl ⟨rfl, rfl⟩⟩⟩
theorem BufO.isS (h : BufO e B w v xs) : IsS v ∧ slLen v = xs.length := by
  obtain ⟨css, hc, hb⟩ := h.ex
  obtain ⟨h1, h2, _⟩ := ownsRow_val hb
  exact ⟨h1, h2⟩
theorem BufO.sl (h : BufO e B w v xs) (hbig : xs.length ≤ 140737488355328) : Sl w v xs := by
  obtain ⟨css, hc, hb⟩ := h.ex
  obtain ⟨h1, h2, h3, h4⟩ := ownsRow_val hb
  refine ⟨h1, h2, h3, hbig, h4, fun i hi => ?_⟩
  by_cases h0 : css.flatten = []
  · have hl := hc.flen
    rw [h0] at hl
    simp only [List.length_nil] at hl
    have hz : Enc.n α = 0 := by
      rcases Nat.mul_eq_zero.1 hl.symm with h | h
      · omega
      · exact h
    have := hc.rep i (by rw [hc.len]; exact hi) hi
    have hn := Enc.len _ _ _ this
    rw [hz] at hn
    exact ⟨_, this, by rw [List.eq_nil_of_length_eq_zero hn]; intro j v hj; simp at hj⟩
  · exact hc.at_ (ownsRow_at hb (List.length_pos_iff.2 h0)) i hi
theorem BufO.mono {B' : Nat} (h : BufO e B w v xs) (hB : B' ≤ B) : BufO e B' w v xs := by
  obtain ⟨css, hc, hl, hb⟩ := h.ex
  refine ⟨css, hc, hl, ?_⟩
  rcases hb with h | ⟨g, cap, cur, h0, hbs, h⟩
  · exact .inl h
  · exact .inr ⟨g, cap, cur, h0, by omega, h⟩
theorem BufL.o {W : World} (h : BufL e W w v xs) : BufO e W.heap.size w v xs := by
  obtain ⟨css, hc, hb⟩ := h.ex
  exact ⟨css, hc, hb.own⟩
/-- blocks of another type are others -/
theorem BufO.ne {p : Addr} {T : TypeId} {vs : List Value} (h : BufO e B w v xs) (r : Row w p T vs) (hT : T ≠ e) : some p.block ≠ v.ownBlock := by
  obtain ⟨css, hc, hl, hb⟩ := h.ex
  rcases hb with ⟨rfl, _⟩ | ⟨g, cap, cur, rfl, hbs, hg, _⟩
  · intro h; cases h
  · intro h
    have h : p.block = g := by simpa [Value.ownBlock] using h
    rw [← h, r.heap] at hg
    injection hg with hg
    injection hg with _ h2
    exact hT h2
theorem BufO.own_lt (h : BufO e B w v xs) {g : Nat} (hg : v.ownBlock = some g) : B ≤ g ∧ g < w.heap.size := by
  obtain ⟨css, hc, hb⟩ := h.ex
  exact hb.lt g hg
/-- no other block counts -/
theorem BufO.keep [Flat α] {w' : World} {S : Nat → Prop} (h : BufO e B w v xs) (k : Keep S w w') (hS : ∀ g, B ≤ g → g < w.heap.size → S g) : BufO e B w' v xs := by
  obtain ⟨css, hc, hb⟩ := h.ex
  exact ⟨css, hc.any, ownsRow_blk hb fun g hg => by
    obtain ⟨h1, h2⟩ := hb.lt g hg
    exact k.block g h2 (hS g h1 h2)⟩
theorem BufO.keep' {w' : World} {S : Nat → Prop} (h : BufO e B w v xs) (k : Keep S w w') (hS : ∀ g, B ≤ g → g < w.heap.size → S g) (hr : ∀ css, Cs w css xs → Cs w' css xs) : BufO e B w' v xs := by
  obtain ⟨css, hc, hb⟩ := h.ex
  exact ⟨css, hr _ hc, ownsRow_blk hb fun g hg => by
    obtain ⟨h1, h2⟩ := hb.lt g hg
    exact k.block g h2 (hS g h1 h2)⟩
theorem grown_keepO {w w' : World} {v : Value} (hg : w.grownBy w' v.ownBlock) : Keep (fun k => some k ≠ v.ownBlock) w w' :=
  Keep.grown hg fun k hk hne => hne hk.symm
theorem BufO.below (h : BufO e B w v xs) {w' : World} (hk : Keep (fun k => some k ≠ v.ownBlock) w w') : Keep (fun k => k < B) w w' :=
  hk.mono fun k _ hlt e => by have := (h.own_lt e.symm).1; omega
/-- 'append(v, X)', flat data -/
theorem SemW_append1FO [Flat α] {t ty : TypeId} {z X : Value} {bytes : Nat} (ht : P.underlying t = some (.slice e)) (hT : TI P e z (Enc.n α) bytes) (hzs : z.cells.size = Enc.n α) (hsz : 0 < Enc.n α ∧ Enc.n α ≤ 16777216) {x : α} (hB : BufO e B w v xs) (hbase : B ≤ w.heap.size)
    (hx : Enc.rep w X.cells.toList x) (hb : xs.length + 1 ≤ maxLen ∧ (xs.length + 1) * bytes ≤ 140737488355328) {K : Value → Value → World → Prop}
    (hK : ∀ s v' w', BufO e B w' v' (xs ++ [x]) → Keep (fun k => some k ≠ v.ownBlock) w w' → K s v' w') :
    SemW P (Instr.buildSlice t 1 #[(0, X)]) w fun s w1 => SemW P (Builtin.append_ #[t, t] ty #[v, s]) w1 (K s) := by
  obtain ⟨css, hc, ho⟩ := hB.ex
  refine SemW_append1o ht hT hzs hsz ho hbase (by simpa using Enc.len _ _ _ hx) (Flat.one _ _ _ hx) hb fun s v' w' h1 h2 => hK s v' w' ⟨css ++ [X.cells.toList], hc.any.append (Cs.one (Flat.any _ _ _ _ hx)), ?_⟩ (grown_keepO h2)
  simpa using h1
end
end Go.Fk
/- Slices written out, of any data. No program is named. -/
set_option linter.unusedSimpArgs false
set_option linter.unusedVariables false
namespace Go.Fk
open Go Go.RowKit
/-- '[]T{..}' of values, whatever the data -/
theorem SemW_lit {α : Type} [Enc α] {e : TypeId} {w : World} {P : Program} {t : TypeId} {z : Value} {bytes : Nat} (ht : P.underlying t = some (.slice e)) (hT : TI P e z (Enc.n α) bytes) (hzs : z.cells.size = Enc.n α) (hz0 : 0 < Enc.n α)
    {parts : Array (Nat × Value)} (vs : List Value) (xs : List α) {n : Nat} (hp : parts.toList = vs.zipIdx.map fun p => (p.2, p.1)) (hn : n = vs.length) (hr : Cs w (vs.map fun v => v.cells.toList) xs) (hsm : n * Enc.n α ≤ 16777216)
    {K : Value → World → Prop} (hK : ∀ v w', Sl w' v xs → Ext w w' → K v w') : SemW P (Instr.buildSlice t n parts) w K := by
  have hlen : vs.length = xs.length := by have := hr.len; simpa using this
  have hm : xs.length ≤ 16777216 := by
    have := Nat.le_mul_of_pos_right n hz0
    omega
  refine SemW_buildSlice (vs := vs) ht hT hzs hp hn (fun v hv => ?_) hsm fun p w' hN => ?_
  · obtain ⟨i, hi, rfl⟩ := List.getElem_of_mem hv
    have := Enc.len _ _ _ (hr.rep i (by simpa using hi) (by omega))
    simpa using this
  · have e1 : (vs.flatMap fun v => v.cells.toList) = (vs.map fun v => v.cells.toList).flatten := by rw [List.flatMap_def]
    rw [e1] at hN
    rw [hn, hlen]
    refine hK _ w' ?_ hN.ext
    refine ⟨by simp, rfl, Nat.le_refl _, by omega, by simp; omega, fun i hi => ?_⟩
    simp only [slAt_mk]
    exact (hr.ext hN.ext).at_ hN.at_ i hi
theorem Cs.cons {α : Type} [Enc α] {w : World} {cs : List Value} {css : List (List Value)} {x : α} {xs : List α} (h : Enc.rep w cs x) (h' : Cs w css xs) : Cs w (cs :: css) (x :: xs) := (Cs.one h).append h'
/-- ints written out -/
theorem Cs.ints {w : World} : ∀ (xs : List Int), (∀ x ∈ xs, I64 x) → Cs w ((xs.map fun x => (Value.int .i64 x)).map fun v => v.cells.toList) xs
  | [], _ => Cs.nil _
  | x :: xs, h => Cs.cons ⟨rfl, h x (by simp)⟩ (Cs.ints xs fun y hy => h y (by simp [hy]))
/-- a row that reads as a list -/
theorem Sl.of_row {α : Type} [Enc α] {w : World} {p : Addr} {e : TypeId} {css : List (List Value)} {xs : List α} {n : Nat} (hr : Row w p e css.flatten) (hc : Cs w css xs) (hn : n = xs.length) (hb : n ≤ 140737488355328) : Sl w (.slice (some p) n n) xs := by
  subst hn
  exact ⟨by simp, rfl, Nat.le_refl _, hb, by simp; omega, fun i hi => by simp only [slAt_mk]; exact hc.at_ hr.at_ i hi⟩
theorem Row.has {w : World} {p a : Addr} {t : TypeId} {cs : List Value} {v : Value} (h : Row w p t cs) (hb : a.block = p.block) (hc : w.cell? a = some v) : v ∈ cs := by
  unfold World.cell? at hc
  rw [hb, h.heap] at hc
  simp only at hc
  split at hc
  · cases hc
  · exact List.mem_of_getElem? (by simpa using hc)
end Go.Fk
/- Small laws of the calculus that several chapters use. No program is named. -/
set_option linter.unusedSimpArgs false
set_option linter.unusedVariables false
namespace Go.Fk
open Go
theorem SemW.and {P : Program} {α : Type} {s : Sem α} {w : World} {K1 K2 : α → World → Prop} (h1 : SemW P s w K1) (h2 : SemW P s w K2) : SemW P s w fun v w' => K1 v w' ∧ K2 v w' := by
  unfold SemW at *
  split
  · rename_i h; rw [h] at h1 h2; exact ⟨h1, h2⟩
  · rename_i h; rw [h] at h1; exact h1
theorem SemW_build1 {P : Program} {w : World} {t e : TypeId} {z X : Value} {size bytes : Nat} (ht : P.underlying t = some (.slice e)) (hT : TI P e z size bytes) (hzs : z.cells.size = size) (hX : X.cells.size = size) (hs : size ≤ 16777216) : SemW P (Instr.buildSlice t 1 #[(0, X)]) w fun _ w' => Ext w w' :=
  SemW_buildSlice ht hT hzs (vs := [X]) rfl rfl (by simpa using hX) (by simp; omega) fun p w' h => h.ext
theorem CallW_cl {P : Program} {g : FuncId} {fi cap all : Array Value} {args : List Value} {w : World} {K : Value → World → Prop} {R : Ending → World → Prop} (hc : callable P g = true) (h : Calls P g all w R)
    (hK : ∀ e w', R e w' → ∃ v, e = .returned v ∧ K v w') (he : fi ++ args.toArray ++ cap = all := by simp) : CallW P (.func (.func g) fi cap) args w K := by subst he; exact ⟨hc, h.mono hK⟩
theorem Sl.blk {α : Type} [Enc α] {w : World} {v : Value} {xs : List α} (h : Sl w v xs) (hn : 0 < Enc.n α) {i : Nat} (hi : i < xs.length) : (slAt v).block < w.heap.size := by
  obtain ⟨cs, hr, ha⟩ := h.at_ i hi
  have hl := Enc.len _ _ _ hr
  have h0 : 0 < cs.length := by omega
  have := World.block_lt_of_cell? _ _ (ha 0 cs[0] (by simp [h0]))
  simpa [blk_add] using this
theorem At.blk {w : World} {a : Addr} {c : Value} {cs : List Value} (h : At w a (c :: cs)) : a.block < w.heap.size := by
  have := World.block_lt_of_cell? _ _ (h 0 c rfl)
  simpa [blk_add] using this
/-- 'append(v, X)', v's row the call's own, with what must hold in between -/
theorem SemW_append1G {α : Type} [Enc α] [Flat α] {P : Program} {e : TypeId} {B : Nat} {w : World} {v : Value} {xs : List α} {t ty : TypeId} {z X : Value} {bytes : Nat} (ht : P.underlying t = some (.slice e)) (hT : TI P e z (Enc.n α) bytes) (hzs : z.cells.size = Enc.n α) (hsz : 0 < Enc.n α ∧ Enc.n α ≤ 16777216) {x : α} (hB : BufO e B w v xs) (hbase : B ≤ w.heap.size)
    (hx : Enc.rep w X.cells.toList x) (hb : xs.length + 1 ≤ maxLen ∧ (xs.length + 1) * bytes ≤ 140737488355328) {G : World → Prop} (hG : ∀ w', Ext w w' → G w') {K : Value → Value → World → Prop}
    (hK : ∀ s v' w', BufO e B w' v' (xs ++ [x]) → Keep (fun k => some k ≠ v.ownBlock) w w' → v' ≠ .slice none 0 0 → K s v' w') :
    SemW P (Instr.buildSlice t 1 #[(0, X)]) w fun s w1 => G w1 ∧ SemW P (Builtin.append_ #[t, t] ty #[v, s]) w1 (K s) := by
  refine (SemW.and (SemW_append1FO (α := α) ht hT hzs hsz hB hbase hx hb fun s v' w' b k => hK s v' w' b k fun e => ?_) (SemW_build1 (e := e) (z := z) (size := Enc.n α) (bytes := bytes) ht hT hzs (by simpa using Enc.len _ _ _ hx) hsz.2)).mono fun s w2 h => ⟨hG _ h.2, h.1⟩
  have := b.isS.2
  rw [e] at this
  simp at this
end Go.Fk
