import Derived.Test.YtldjfebokojmfaaGreatRgFk
import Derived.Test.YtldjfebokojmfaaGreatRgGe
import Derived.ArgAppend
import Derived.Test.YtldjfebokojmfaaGreatRgGa
set_option linter.unusedSimpArgs false
set_option linter.unusedVariables false
namespace Go.Fk
open Go
theorem flatten_setN {n : Nat} {X : List Value} (hX : X.length = n) : ∀ (css : List (List Value)) (i : Nat) (hi : i < css.length), (∀ c ∈ css, c.length = n) → css.flatten.take (i * n) ++ X ++ css.flatten.drop (i * n + n) = (css.set i X).flatten
  | c :: r, 0, _, h => by
    have hc := h c (by simp)
    simp only [List.flatten_cons, List.set_cons_zero]
    rw [Nat.zero_mul, Nat.zero_add, List.drop_append_of_le_length (by omega), List.drop_of_length_le (by omega)]; simp
  | c :: r, i + 1, hi, h => by
    have hc := h c (by simp)
    simp only [List.flatten_cons, List.set_cons_succ]
    have e1 : (i + 1) * n = c.length + i * n := by rw [Nat.add_mul]; omega
    rw [e1, List.take_length_add_append, show c.length + i * n + n = c.length + (i * n + n) by omega, List.drop_length_add_append, List.append_assoc, List.append_assoc, ← List.append_assoc (List.take _ _),
      flatten_setN hX r i (by simpa using hi) fun x hx => h x (by simp [hx])]
theorem Cs.lens {α : Type} [Enc α] {w : World} {css : List (List Value)} {xs : List α} (h : Cs w css xs) : ∀ c ∈ css, c.length = Enc.n α := fun c hc => by
  obtain ⟨i, hi, rfl⟩ := List.getElem_of_mem hc
  exact Enc.len _ _ _ (h.rep i hi (by rw [← h.len]; exact hi))
theorem Cs.set {α : Type} [Enc α] {w : World} {css : List (List Value)} {xs : List α} (h : Cs w css xs) {i : Nat} {c : List Value} {x : α} (hc : Enc.rep w c x) : Cs w (css.set i c) (xs.set i x) := ⟨by simp [h.len], fun k h1 h2 => by
  simp only [List.length_set] at h1 h2
  rw [List.getElem_set, List.getElem_set]
  split
  · exact hc
  · exact h.rep k h1 h2⟩
section
variable {α : Type} [Enc α] [Flat α] {e : TypeId} {W w : World} {v : Value} {xs : List α} {P : Program}
omit [Flat α] in
theorem BufL.rowA (h : BufL e W w v xs) {i : Nat} (hi : i < xs.length) : ∃ css rest cap, Cs w css xs ∧ Row w (slAt v) e (css.flatten ++ rest) ∧ v = .slice (some (slAt v)) xs.length cap ∧ xs.length ≤ cap ∧ cap ≤ maxLen ∧ (css.flatten ++ rest).length = cap * Enc.n α ∧ W.heap.size ≤ (slAt v).block ∧ (slAt v).block < w.heap.size := by
  obtain ⟨css, hc, hb⟩ := h.ex
  have hX := hb.ext
  rcases hb.own.2 with ⟨rfl, h2⟩ | ⟨g, cap, cur, rfl, hbs, hg, h1, h2, h3⟩
  · omega
  · have e1 : css.flatten ++ cur.toList.drop (xs.length * Enc.n α) = cur.toList := by
      have := h3.2
      rw [← this, List.take_append_drop]
    refine ⟨css, cur.toList.drop (xs.length * Enc.n α), cap, hc, ⟨rfl, ?_⟩, rfl, h1, h2, ?_, hbs, (Array.getElem?_eq_some_iff.1 hg).1⟩
    · rw [e1]; exact hg
    · rw [e1]; simpa using h3.1
omit [Flat α] in
theorem BufL.back {w' : World} {css : List (List Value)} {rest : List Value} {cap : Nat} {ys : List α} (hW : Ext W w') (hc : Cs w' css ys) (hr : Row w' (slAt v) e (css.flatten ++ rest)) (hv : v = .slice (some (slAt v)) ys.length cap) (h1 : ys.length ≤ cap) (h2 : cap ≤ maxLen) (h3 : (css.flatten ++ rest).length = cap * Enc.n α)
    (h4 : W.heap.size ≤ (slAt v).block) : BufL e W w' v ys := by
  refine ⟨css, hc, ⟨⟨hc.flen, .inr ⟨(slAt v).block, cap, (css.flatten ++ rest).toArray, ?_, h4, hr.heap, h1, h2, ?_⟩⟩, hW⟩⟩
  · rw [← hr.p0]; exact hv
  · refine ⟨by simpa using h3, ?_⟩
    simp only [List.take_append]
    rw [List.take_of_length_le (by rw [hc.flen]; exact Nat.le_refl _), hc.flen]; simp
theorem SemW_setE {X : Value} {a : Addr} (hB : BufL e W w v xs) (i : Nat) (hi : i < xs.length) (x : α) (hc : P.cellsOf e = Enc.n α) (h0 : 0 < Enc.n α) (hx : Enc.rep w X.cells.toList x) (ha : a = (slAt v).add (i * Enc.n α))
    {K : Unit → World → Prop} (hK : ∀ w', BufL e W w' v (xs.set i x) → Keep (fun k => k ≠ (slAt v).block) w w' → w'.heap.size = w.heap.size → Ext W w' → K () w') : SemW P (Instr.storeAt e (.pointer (some a)) X) w K := by
  obtain ⟨css, rest, cap, hcs, hr, hv, c1, c2, c3, c4, c5⟩ := hB.rowA hi
  subst ha
  have hl := hcs.flen
  have hm : (i + 1) * Enc.n α ≤ xs.length * Enc.n α := Nat.mul_le_mul_right _ hi
  rw [Nat.add_mul, Nat.one_mul] at hm
  have hXl := Enc.len _ _ _ hx
  refine SemW_setN (i * Enc.n α) (by omega) (by rw [hc]; simpa using hXl) hr (by rw [hc, List.length_append, hl]; omega) (Flat.one _ _ _ hx) fun w' r' k' s' => ?_
  have hE : Ext W w' := Keep.ext hB.ext0 k' fun k hk => by omega
  rw [hc, List.take_append_of_le_length (by omega), List.drop_append_of_le_length (by omega), ← List.append_assoc, flatten_setN hXl css i (by rw [hcs.len]; exact hi) hcs.lens] at r'
  have hcs' : Cs w' (css.set i X.cells.toList) (xs.set i x) := (hcs.set (i := i) hx).any
  refine hK w' (BufL.back (cap := cap) hE hcs' r' (by simpa using hv) (by simpa using c1) c2 ?_ c4) k' s' hE
  rw [← c3]; simp [hcs'.flen, hl]
end
end Go.Fk
set_option linter.unusedSimpArgs false
set_option linter.unusedVariables false
namespace Go.Fk
open Go Go.RowKit
theorem SemW_set0 {P : Program} {w : World} {t T : TypeId} {X : Value} {p : Addr} {vs : List Value} {K : Unit → World → Prop} (hc : P.cellsOf t = 1) (hg : Row w p T vs) (hi : 0 < vs.length) (hX : X.cells = #[X]) (h1 : X.oneCell' = true)
    (hK : ∀ w', Row w' p T (vs.set 0 X) → Keep (fun k => k ≠ p.block) w w' → w'.heap.size = w.heap.size → K () w') : SemW P (Instr.storeAt t (.pointer (some p)) X) w K := by
  have := SemW_setAt (P := P) (i := 0) hc hg hi hX h1 hK
  simpa [add_zero] using this
theorem SemW_appendo {P : Program} {base : Nat} {w : World} {t ty e : TypeId} {z : Value} {size bytes : Nat} (ht : P.underlying t = some (.slice e)) (hT : TI P e z size bytes) (hzs : z.cells.size = size) (hsz : 0 < size)
    {v x : Value} {n m : Nat} {xs news : List Value} (hB : w.ownsRow base e size v n xs) (hbase : base ≤ w.heap.size) (hx : IsS x) (hm : slLen x = m) (hl : news.length = m * size) (hnews : 0 < m → At w (slAt x) news) (h1 : ∀ u ∈ news, u.oneCell' = true)
    (h63 : n + m ≤ maxLen) (hbytes : (n + m) * bytes ≤ 140737488355328) {K : Value → World → Prop}
    (hK : ∀ v' w', w'.ownsRow base e size v' (n + m) (xs ++ news) → w.grownBy w' v.ownBlock → K v' w') :
    SemW P (Builtin.append_ #[t, t] ty #[v, x]) w K := by
  obtain ⟨i, hi, hz, hs, hb⟩ := info_parts hT.h
  rcases hx.ex with rfl | ⟨a, k, c, rfl⟩
  · simp at hm; subst hm
    have hn0 : news = [] := List.eq_nil_of_length_eq_zero (by simpa using hl)
    subst hn0
    refine SemW.of_run (run_append_owned_none (P := P) w base t ty e i size ht hi v n xs hB) (hK _ _ (by simpa using hB) ⟨rfl, rfl, rfl, Nat.le_refl _, fun _ _ _ => rfl⟩)
  · simp at hm; subst hm
    have hnw : ∀ j u, news[j]? = some u → w.cell? (a.add j) = some u := fun j u hu => by
      have : 0 < k := by
        rcases Nat.eq_zero_or_pos k with rfl | h
        · have h0 : news = [] := List.eq_nil_of_length_eq_zero (by simpa using hl)
          rw [h0] at hu; simp at hu
        · exact h
      exact hnews this j u hu
    obtain ⟨v', w', hr, ho, hg, hnil⟩ := run_append_own (P := P) w base t ty e i z size bytes ht hi hz hs hb hzs hsz v n xs hB a k c news hl hnw h1 h63 hbytes hbase
    exact SemW.of_run hr (hK v' w' ho hg)
structure BufO {α : Type} [Enc α] (e : TypeId) (B : Nat) (w : World) (v : Value) (xs : List α) : Prop where
  ex : ∃ css, Cs w css xs ∧ w.ownsRow B e (Enc.n α) v xs.length css.flatten
section
variable {α : Type} [Enc α] {e : TypeId} {B : Nat} {w : World} {v : Value} {xs : List α} {P : Program}
theorem BufO.nil : BufO e B w (.slice none 0 0) ([] : List α) := ⟨[], Cs.nil _, ⟨by simp, .inl ⟨rfl, rfl⟩⟩⟩
theorem BufO.isS (h : BufO e B w v xs) : IsS v ∧ slLen v = xs.length := by
  obtain ⟨css, hc, hb⟩ := h.ex
  obtain ⟨h1, h2, _⟩ := ownsRow_val hb
  exact ⟨h1, h2⟩
theorem BufO.sl (h : BufO e B w v xs) (hbig : xs.length ≤ 140737488355328) : Sl w v xs := by
  obtain ⟨css, hc, hb⟩ := h.ex
  obtain ⟨h1, h2, h3, h4⟩ := ownsRow_val hb
  refine ⟨h1, h2, h3, hbig, h4, fun i hi => ?_⟩
  by_cases h0 : css.flatten = []
  · have hl := hc.flen
    rw [h0] at hl
    simp only [List.length_nil] at hl
    have hz : Enc.n α = 0 := by
      rcases Nat.mul_eq_zero.1 hl.symm with h | h
      · omega
      · exact h
    have := hc.rep i (by rw [hc.len]; exact hi) hi
    have hn := Enc.len _ _ _ this
    rw [hz] at hn
    exact ⟨_, this, by rw [List.eq_nil_of_length_eq_zero hn]; intro j v hj; simp at hj⟩
  · exact hc.at_ (ownsRow_at hb (List.length_pos_iff.2 h0)) i hi
theorem BufO.le (h : BufO e B w v xs) (hz : 0 < Enc.n α) (hne : xs ≠ []) : B ≤ (slAt v).block ∧ (slAt v).block < w.heap.size := by
  obtain ⟨css, hc, hb⟩ := h.ex
  rcases hb.2 with ⟨rfl, h2⟩ | ⟨g, cap, cur, rfl, hbs, hg, h1, h2, h3⟩
  · exact (hne (List.eq_nil_of_length_eq_zero h2)).elim
  · exact ⟨hbs, (Array.getElem?_eq_some_iff.1 hg).1⟩
theorem BufO.mono {B' : Nat} (h : BufO e B w v xs) (hB : B' ≤ B) : BufO e B' w v xs := by
  obtain ⟨css, hc, hl, hb⟩ := h.ex
  refine ⟨css, hc, hl, ?_⟩
  rcases hb with h | ⟨g, cap, cur, h0, hbs, h⟩
  · exact .inl h
  · exact .inr ⟨g, cap, cur, h0, by omega, h⟩
theorem BufL.o {W : World} (h : BufL e W w v xs) : BufO e W.heap.size w v xs := by
  obtain ⟨css, hc, hb⟩ := h.ex
  exact ⟨css, hc, hb.own⟩
theorem BufO.ne {p : Addr} {T : TypeId} {vs : List Value} (h : BufO e B w v xs) (r : Row w p T vs) (hT : T ≠ e) : some p.block ≠ v.ownBlock := by
  obtain ⟨css, hc, hl, hb⟩ := h.ex
  rcases hb with ⟨rfl, _⟩ | ⟨g, cap, cur, rfl, hbs, hg, _⟩
  · intro h; cases h
  · intro h
    have h : p.block = g := by simpa [Value.ownBlock] using h
    rw [← h, r.heap] at hg
    injection hg with hg
    injection hg with _ h2
    exact hT h2
theorem BufO.own_lt (h : BufO e B w v xs) {g : Nat} (hg : v.ownBlock = some g) : B ≤ g ∧ g < w.heap.size := by
  obtain ⟨css, hc, hb⟩ := h.ex
  exact hb.lt g hg
theorem BufO.keep [Flat α] {w' : World} {S : Nat → Prop} (h : BufO e B w v xs) (k : Keep S w w') (hS : ∀ g, B ≤ g → g < w.heap.size → S g) : BufO e B w' v xs := by
  obtain ⟨css, hc, hb⟩ := h.ex
  exact ⟨css, hc.any, ownsRow_blk hb fun g hg => by
    obtain ⟨h1, h2⟩ := hb.lt g hg
    exact k.block g h2 (hS g h1 h2)⟩
theorem grown_keepO {w w' : World} {v : Value} (hg : w.grownBy w' v.ownBlock) : Keep (fun k => some k ≠ v.ownBlock) w w' :=
  Keep.grown hg fun k hk hne => hne hk.symm
theorem BufO.below (h : BufO e B w v xs) {w' : World} (hk : Keep (fun k => some k ≠ v.ownBlock) w w') : Keep (fun k => k < B) w w' :=
  hk.mono fun k _ hlt e => by have := (h.own_lt e.symm).1; omega
theorem SemW_appendFO [Flat α] {t ty : TypeId} {z : Value} {bytes : Nat} (ht : P.underlying t = some (.slice e)) (hT : TI P e z (Enc.n α) bytes) (hzs : z.cells.size = Enc.n α) (hsz : 0 < Enc.n α) {x : Value} {ys : List α} (hB : BufO e B w v xs) (hbase : B ≤ w.heap.size) (hx : Sl w x ys)
    (hb : xs.length + ys.length ≤ maxLen ∧ (xs.length + ys.length) * bytes ≤ 140737488355328) {K : Value → World → Prop} (hK : ∀ v' w', BufO e B w' v' (xs ++ ys) → Keep (fun k => some k ≠ v.ownBlock) w w' → K v' w') :
    SemW P (Builtin.append_ #[t, t] ty #[v, x]) w K := by
  obtain ⟨css, hc, ho⟩ := hB.ex
  obtain ⟨css2, hc2, ha⟩ := hx.cells
  refine SemW_appendo ht hT hzs hsz ho hbase hx.s hx.len hc2.flen (fun _ => ha) (List.all_eq_true.1 hc2.one') hb.1 hb.2 fun v' w' h1 h2 => hK v' w' ⟨css ++ css2, hc.any.append hc2.any, ?_⟩ (grown_keepO h2)
  simpa using h1
end
end Go.Fk
set_option linter.unusedSimpArgs false
set_option linter.unusedVariables false
namespace Go.Fk
open Go Go.RowKit
theorem SemW_lit {α : Type} [Enc α] {e : TypeId} {w : World} {P : Program} {t : TypeId} {z : Value} {bytes : Nat} (ht : P.underlying t = some (.slice e)) (hT : TI P e z (Enc.n α) bytes) (hzs : z.cells.size = Enc.n α) (hz0 : 0 < Enc.n α)
    {parts : Array (Nat × Value)} (vs : List Value) (xs : List α) {n : Nat} (hp : parts.toList = vs.zipIdx.map fun p => (p.2, p.1)) (hn : n = vs.length) (hr : Cs w (vs.map fun v => v.cells.toList) xs) (hsm : n * Enc.n α ≤ 16777216)
    {K : Value → World → Prop} (hK : ∀ v w', Sl w' v xs → Ext w w' → K v w') : SemW P (Instr.buildSlice t n parts) w K := by
  have hlen : vs.length = xs.length := by have := hr.len; simpa using this
  have hm : xs.length ≤ 16777216 := by
    have := Nat.le_mul_of_pos_right n hz0
    omega
  refine SemW_buildSlice (vs := vs) ht hT hzs hp hn (fun v hv => ?_) hsm fun p w' hN => ?_
  · obtain ⟨i, hi, rfl⟩ := List.getElem_of_mem hv
    have := Enc.len _ _ _ (hr.rep i (by simpa using hi) (by omega))
    simpa using this
  · have e1 : (vs.flatMap fun v => v.cells.toList) = (vs.map fun v => v.cells.toList).flatten := by rw [List.flatMap_def]
    rw [e1] at hN
    rw [hn, hlen]
    refine hK _ w' ?_ hN.ext
    refine ⟨by simp, rfl, Nat.le_refl _, by omega, by simp; omega, fun i hi => ?_⟩
    simp only [slAt_mk]
    exact (hr.ext hN.ext).at_ hN.at_ i hi
theorem Cs.cons {α : Type} [Enc α] {w : World} {cs : List Value} {css : List (List Value)} {x : α} {xs : List α} (h : Enc.rep w cs x) (h' : Cs w css xs) : Cs w (cs :: css) (x :: xs) := (Cs.one h).append h'
theorem Cs.ints {w : World} : ∀ (xs : List Int), (∀ x ∈ xs, I64 x) → Cs w ((xs.map fun x => (Value.int .i64 x)).map fun v => v.cells.toList) xs
  | [], _ => Cs.nil _
  | x :: xs, h => Cs.cons ⟨rfl, h x (by simp)⟩ (Cs.ints xs fun y hy => h y (by simp [hy]))
theorem Sl.of_row {α : Type} [Enc α] {w : World} {p : Addr} {e : TypeId} {css : List (List Value)} {xs : List α} {n : Nat} (hr : Row w p e css.flatten) (hc : Cs w css xs) (hn : n = xs.length) (hb : n ≤ 140737488355328) : Sl w (.slice (some p) n n) xs := by
  subst hn
  exact ⟨by simp, rfl, Nat.le_refl _, hb, by simp; omega, fun i hi => by simp only [slAt_mk]; exact hc.at_ hr.at_ i hi⟩
theorem Row.has {w : World} {p a : Addr} {t : TypeId} {cs : List Value} {v : Value} (h : Row w p t cs) (hb : a.block = p.block) (hc : w.cell? a = some v) : v ∈ cs := by
  unfold World.cell? at hc
  rw [hb, h.heap] at hc
  simp only at hc
  split at hc
  · cases hc
  · exact List.mem_of_getElem? (by simpa using hc)
theorem Sl.keepD {α : Type} [Enc α] [Flat α] {w w' : World} {v : Value} {xs : List α} {p : Addr} {t : TypeId} {cs : List Value} (h : Sl w v xs) (hr : Row w p t cs) (hd : ∀ x ∈ xs, ∀ cs', Enc.rep w cs' x → ∃ u, cs'[0]? = some u ∧ u ∉ cs) (k : Keep (fun g => g ≠ p.block) w w') : Sl w' v xs := by
  refine ⟨h.s, h.len, h.cap, h.big, h.capM, fun i hi => ?_⟩
  obtain ⟨cs', h1, h2⟩ := h.at_ i hi
  refine ⟨cs', Flat.any _ _ _ _ h1, h2.keep k fun hb => ?_⟩
  obtain ⟨u, hu, hn⟩ := hd _ (List.getElem_mem hi) cs' h1
  have := h2 0 u hu
  exact hn (hr.has (by rw [← hb, blk_add]) this)
theorem Sl.some' {α : Type} [Enc α] {w : World} {v : Value} {xs : List α} (h : Sl w v xs) (h0 : 0 < xs.length) : ∃ p n c, v = .slice (some p) n c := by
  rcases h.s.ex with rfl | h'
  · have := h.len
    simp at this; omega
  · exact h'
end Go.Fk
set_option linter.unusedSimpArgs false
set_option linter.unusedVariables false
namespace Go.Fk
open Go
theorem SemW.and {P : Program} {α : Type} {s : Sem α} {w : World} {K1 K2 : α → World → Prop} (h1 : SemW P s w K1) (h2 : SemW P s w K2) : SemW P s w fun v w' => K1 v w' ∧ K2 v w' := by
  unfold SemW at *
  split
  · rename_i h; rw [h] at h1 h2; exact ⟨h1, h2⟩
  · rename_i h; rw [h] at h1; exact h1
theorem SemW_build1 {P : Program} {w : World} {t e : TypeId} {z X : Value} {size bytes : Nat} (ht : P.underlying t = some (.slice e)) (hT : TI P e z size bytes) (hzs : z.cells.size = size) (hX : X.cells.size = size) (hs : size ≤ 16777216) : SemW P (Instr.buildSlice t 1 #[(0, X)]) w fun _ w' => Ext w w' :=
  SemW_buildSlice ht hT hzs (vs := [X]) rfl rfl (by simpa using hX) (by simp; omega) fun p w' h => h.ext
theorem CallW_cl {P : Program} {g : FuncId} {fi cap all : Array Value} {args : List Value} {w : World} {K : Value → World → Prop} {R : Ending → World → Prop} (hc : callable P g = true) (h : Calls P g all w R)
    (hK : ∀ e w', R e w' → ∃ v, e = .returned v ∧ K v w') (he : fi ++ args.toArray ++ cap = all := by simp) : CallW P (.func (.func g) fi cap) args w K := by subst he; exact ⟨hc, h.mono hK⟩
theorem Sl.blk {α : Type} [Enc α] {w : World} {v : Value} {xs : List α} (h : Sl w v xs) (hn : 0 < Enc.n α) {i : Nat} (hi : i < xs.length) : (slAt v).block < w.heap.size := by
  obtain ⟨cs, hr, ha⟩ := h.at_ i hi
  have hl := Enc.len _ _ _ hr
  have h0 : 0 < cs.length := by omega
  have := World.block_lt_of_cell? _ _ (ha 0 cs[0] (by simp [h0]))
  simpa [blk_add] using this
theorem At.blk {w : World} {a : Addr} {c : Value} {cs : List Value} (h : At w a (c :: cs)) : a.block < w.heap.size := by
  have := World.block_lt_of_cell? _ _ (h 0 c rfl)
  simpa [blk_add] using this
end Go.Fk
set_option linter.unusedSimpArgs false
set_option linter.unusedVariables false
namespace Go.Fk
open Go Go.RowKit
theorem Run_lastClear {P : Program} {r : Option Nat} {n : Nat} {ds : List DF} {k : List Td} {L : FL} {w : World} {Q : Exit → List DF → FL → World → Prop} {id : Nat} {l : List Oper} (vs : List Nat) (m : Nat) {o : Oper} (x : Operand) (t : TypeId) (hl : l = l.take m ++ [o]) (ho : o.op = .call { callee := .builtin .clear, args := #[x], argTypes := #[t] }) (hg : o.guard = none) (hd : o.dst = none) (hu : useO [] [] x = true)
    (hs : stat n l (l.take m) [] = true)
    (h : ∀ t0, eg P l t0 (l.take m) [] L w fun L' w' => ∀ t1, SemW P (Builtin.clear_ #[t] o.type #[rho (lk t1 L') x]) w' fun _ w'' => Run P r n ds k (prune vs L') w'' Q) :
    Run P r n ds (.code (.region id l.toArray false) :: k) L w Q := fun a ha => by
  have key : wpListIn (fw r) 0 P (l.take m ++ [o]).toArray (after P r n k (QA n Q)) (l.take m ++ [o]) a w := by
    rw [← hl]
    have := wpListIn_append (P := P) (r := r) (ops := l.toArray) (Q' := NQ n ds _) (Q := after P r n k (QA n Q)) (l2 := [o]) (fun a1 w1 h1 => ?_) (fun e he a w h => by cases e <;> first | exact (he rfl).elim | exact h.elim) (l.take m) a w (eg_sound (l.take m) [] [] L a w (Inv.start ha) hs (h _))
    · rwa [← hl] at this
    · obtain ⟨L1, hL1, h1⟩ := h1
      have h1 := h1 (fun k => a1.tmps.getD k undef)
      have I := Inv.start hL1
      have ex : a1.eval x = rho (lk (fun k => a1.tmps.getD k undef) L1) x := I.useO (G := []) (by simp [hold]) hu
      rw [← ex] at h1
      unfold wpListIn
      rw [if_pos (by simp [Region.wanted, hg])]
      refine ⟨fun _ _ => trivial, ?_⟩
      rw [Oper.semAt_eq _ _ _ (by intro c' e; rw [ho] at e; cases e)]
      unfold SemW at h1
      split at h1
      · rename_i v w2 hr
        have hr2 : (execOp a1.eval o).run P w1 = .ok (.value v) w2 := by
          simp only [execOp, ho, resolve, Sem.run_bind, Sem.run_pure, Result.andThen_ok, invoke]
          simp [builtin, Sem.run_bind, hr]
        rw [hr2, Oper.uponIn_value]
        show after P r n k (QA n Q) .normal _ w2
        rw [hd]
        exact h1 _ hL1.prune
      · exact h1.elim
  rw [← hl] at key
  exact wpIn_region_lit key
theorem SemW_clear {P : Program} {w : World} {t ty e T : TypeId} {z : Value} {size bytes : Nat} (ht : P.underlying t = some (.slice e)) (hT : TI P e z size bytes) (hzs : z.cells.size = size) (hs0 : 0 < size) (hz1 : ∀ u ∈ z.cells.toList, u.oneCell' = true) {p : Addr} {vs : List Value} {o m c : Nat} (hg : Row w p T vs) (hfit : o + m * size ≤ vs.length) (hm : 0 < m) {K : Value → World → Prop}
    (hK : ∀ w', (∃ zs, Row w' p T (vs.take o ++ zs ++ vs.drop (o + m * size)) ∧ zs.length = m * size) → Keep (fun k => k ≠ p.block) w w' → w'.heap.size = w.heap.size → K (.tuple #[]) w') : SemW P (Builtin.clear_ #[t] ty #[.slice (some (p.add o)) m c]) w K := by
  obtain ⟨i, hi, hz, _, _⟩ := info_parts hT.h
  have hp := hg.p0
  have hlen : (Builtin.zeroCells z.cells m).toList.length = m * size := by simp [Builtin.zeroCells, hzs]
  have hone : ∀ u ∈ (Builtin.zeroCells z.cells m).toList, u.oneCell' = true := fun u hu => by
    simp only [Builtin.zeroCells, Array.toList_map, List.mem_map] at hu
    obtain ⟨j, hj, rfl⟩ := hu
    have hjm : j % z.cells.size < z.cells.size := Nat.mod_lt _ (by omega)
    refine hz1 _ ?_
    rw [getElem!_pos z.cells _ hjm]
    exact Array.getElem_mem_toList hjm
  have hst := run_storeCells_at P p.block o T (Builtin.zeroCells z.cells m).toList 0 vs.toArray w hg.heap (by simpa [hlen] using hfit) hone
  simp only [Nat.add_zero, Array.length_toList] at hst
  obtain ⟨m', rfl⟩ : ∃ k, m = k + 1 := ⟨m - 1, by omega⟩
  have hpa : p.add o = ⟨p.block, o, none⟩ := by rw [hp, mk_add]
  have hrun : (Builtin.clear_ #[t] ty #[.slice (some (p.add o)) (m' + 1) c]).run P w = .ok (.tuple #[]) (w.setRow p.block (vs.take o ++ (Builtin.zeroCells z.cells (m' + 1)).toList ++ vs.drop (o + (m' + 1) * size)).toArray) := by
    rw [hpa]
    simp only [← Array.length_toList, hlen] at hst
    simp [Builtin.clear_, run_underlying ht, zeroValue, typeInfo, hi, hz, hst]
  exact SemW.of_run hrun (hK _ ⟨_, ⟨hp, setRow_heap _ _ _ _ _ _ hg.heap⟩, hlen⟩ ⟨rfl, rfl, rfl, by simp, fun k _ hk => setRow_other _ _ _ _ hk⟩ (by simp))
end Go.Fk
set_option linter.unusedSimpArgs false
set_option linter.unusedVariables false
namespace Go.Fk
open Go Go.RowKit
theorem SemW_appendNew {α : Type} [Enc α] [Flat α] {P : Program} {w : World} {t ty e : TypeId} {z : Value} {bytes : Nat} (ht : P.underlying t = some (.slice e)) (hT : TI P e z (Enc.n α) bytes) (hzs : z.cells.size = Enc.n α) (hsz : 0 < Enc.n α)
    {b : Addr} {n cap : Nat} {x : Value} {xs ys : List α} (hv : Sl w (.slice (some b) n cap) xs) (hcap : cap = xs.length) (hx : Sl w x ys) (hy : 0 < ys.length) (hb : xs.length + ys.length ≤ maxLen ∧ (xs.length + ys.length) * bytes ≤ 140737488355328)
    {K : Value → World → Prop} (hK : ∀ v' w', BufO e w.heap.size w' v' (xs ++ ys) → Ext w w' → (∃ p n c, v' = .slice (some p) n c) → K v' w') : SemW P (Builtin.append_ #[t, t] ty #[.slice (some b) n cap, x]) w K := by
  obtain ⟨i, hi, hz, hs, hbb⟩ := info_parts hT.h
  obtain ⟨css, hc, ha⟩ := hv.cells
  obtain ⟨css2, hc2, ha2⟩ := hx.cells
  obtain ⟨a2, m2, c2, rfl⟩ := hx.some' hy
  have hn : n = xs.length := hv.len
  have hm : m2 = ys.length := hx.len
  obtain ⟨v', w', hr, ho, hg⟩ := run_append_arg_grows (P := P) w t ty e i z (Enc.n α) bytes ht hi hz hs hbb hzs hsz b n cap css.flatten (by rw [hc.flen, hn]) ha a2 m2 c2 css2.flatten (by rw [hc2.flen, hm]) ha2 (by omega) (by omega) (by rw [hn, hm]; exact hb.2)
  have hX : Ext w w' := Keep.ext (Ext.refl w) (Keep.grown (S := fun _ => True) hg (fun k h => by cases h)) fun _ _ => trivial
  refine SemW.of_run hr (hK v' w' ⟨css ++ css2, hc.any.append hc2.any, ?_⟩ hX ?_)
  · rw [hn, hm] at ho
    simpa using ho
  · rcases ho.2 with ⟨rfl, h2⟩ | ⟨g, cp, cur, rfl, _⟩
    · rw [hm] at h2; omega
    · exact ⟨_, _, _, rfl⟩
end Go.Fk
set_option linter.unusedVariables false
set_option linter.unusedSimpArgs false
namespace Go.Fk
open Go
structure RawO where
  cs : List Value
instance : Enc RawO where
  n := 11
  rep _ cs x := cs = x.cs ∧ x.cs.length = 11 ∧ x.cs.all Value.oneCell' = true
  len _ _ _ h := by rw [h.1]; exact h.2.1
  ext _ _ _ _ _ h := h
instance : Flat RawO := ⟨fun _ _ _ _ h => h, fun _ _ _ h => by rw [h.1]; exact h.2.2⟩
theorem repO {w : World} {cs : List Value} {x : OrderD} (h : Enc.rep w cs x) : cs.length = 11 ∧ cs.all Value.oneCell' = true := by
  refine ⟨Enc.len _ _ _ h, ?_⟩
  obtain ⟨v0, rfl, h0, h1, h2, h3, h4, h5, h6, h7, h8, h9⟩ := h
  exact OrdR.one ⟨h0, h1, h2, h3, h4, h5, h6, h7, h8, h9⟩
structure RR (w : World) (rs : List RawO) (xs : List OrderD) : Prop where
  n : rs.length = xs.length
  r : ∀ i (h1 : i < rs.length) (h2 : i < xs.length), Enc.rep w rs[i].cs xs[i]
theorem RR.ext {w w' : World} {rs : List RawO} {xs : List OrderD} (h : RR w rs xs) (x : Ext w w') : RR w' rs xs := ⟨h.n, fun i h1 h2 => Enc.ext _ _ _ _ x (h.r i h1 h2)⟩
theorem RR.app {w : World} {rs ss : List RawO} {xs ys : List OrderD} (h : RR w rs xs) (h' : RR w ss ys) : RR w (rs ++ ss) (xs ++ ys) := ⟨by simp [h.n, h'.n], fun i h1 h2 => by
  simp only [List.length_append] at h1 h2
  have hn := h.n
  by_cases e : i < rs.length
  · rw [List.getElem_append_left e, List.getElem_append_left (by omega)]
    exact h.r i e (by omega)
  · rw [List.getElem_append_right (by omega), List.getElem_append_right (by omega)]
    have := h'.r (i - rs.length) (by omega) (by omega)
    simp only [hn] at this ⊢
    exact this⟩
theorem RR.one {w : World} {cs : List Value} {x : OrderD} (h : Enc.rep w cs x) : RR w [⟨cs⟩] [x] := ⟨rfl, fun i h1 h2 => by
  have : i = 0 := by simp at h1; omega
  subst this; exact h⟩
theorem Sl.unrawO {w : World} {v : Value} {rs : List RawO} {xs : List OrderD} (h : Sl w v rs) (hr : RR w rs xs) : Sl w v xs :=
  ⟨h.s, by rw [← hr.n]; exact h.len, by rw [← hr.n]; exact h.cap, by rw [← hr.n]; exact h.big, h.capM, fun i hi => by
    have hn := hr.n
    obtain ⟨cs, ⟨rfl, _⟩, ha⟩ := h.at_ i (by omega)
    exact ⟨_, hr.r i (by omega) hi, ha⟩⟩
end Go.Fk
