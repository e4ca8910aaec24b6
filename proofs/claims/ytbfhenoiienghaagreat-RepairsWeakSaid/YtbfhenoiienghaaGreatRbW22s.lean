import Derived.Test.YtbfhenoiienghaaGreatRbW22r
import Derived.Test.YtbfhenoiienghaaGreatRbW22m
namespace Go.Fk
open Go
theorem isS_c {v : Value} (h : IsS v) : v.cells = #[v] := by rcases h.ex with rfl | ⟨a, n, c, rfl⟩ <;> rfl
def cutW (w : World) (B : Nat) : World := { w with heap := w.heap.extract 0 B }
theorem cutW_size {w : World} {B : Nat} (h : B ≤ w.heap.size) : (cutW w B).heap.size = B := by simp [cutW]; omega
theorem cutW_get {w : World} {B k : Nat} (h : k < B) : (cutW w B).heap[k]? = w.heap[k]? := by
  simp [cutW, Array.getElem?_extract]; omega
theorem cutW_ext {w : World} {B : Nat} (h : B ≤ w.heap.size) : Ext (cutW w B) w := ⟨rfl, rfl, rfl, by rw [cutW_size h]; exact h, fun k hk => by rw [cutW_size h] at hk; exact (cutW_get hk).symm⟩
theorem cutW_of {w w' : World} {B : Nat} (x : Ext w w') (h1 : w.heap.size ≤ B) (h2 : B ≤ w'.heap.size) : Ext w (cutW w' B) := ⟨x.os, x.tape, x.output, by rw [cutW_size h2]; exact h1, fun k hk => by rw [cutW_get (by omega)]; exact x.block k hk⟩
theorem Row.cut {w : World} {B : Nat} {p : Addr} {t : TypeId} {vs : List Value} (h : Row w p t vs) (hb : p.block < B) : Row (cutW w B) p t vs := ⟨h.p0, by rw [cutW_get hb]; exact h.heap⟩
theorem BufO.cut {α : Type} [Enc α] {e : TypeId} {B : Nat} {w : World} {v : Value} {xs : List α} (h : BufO e B w v xs) (hB : B ≤ w.heap.size) : BufL e (cutW w B) w v xs := by
  obtain ⟨css, hc, hb⟩ := h.ex
  exact ⟨css, hc, ⟨by rw [cutW_size hB]; exact hb, cutW_ext hB⟩⟩
theorem BufO.ne2 {α β : Type} [Enc α] [Enc β] {e e' : TypeId} {B B' : Nat} {w : World} {v v' : Value} {xs : List α} {ys : List β} (h : BufO e B w v xs) (h' : BufO e' B' w v' ys) (hT : e ≠ e') {g : Nat} (hg : v.ownBlock = some g) : some g ≠ v'.ownBlock := by
  obtain ⟨css, hc, hl, hb⟩ := h.ex
  rcases hb with ⟨rfl, _⟩ | ⟨g', cap, cur, rfl, hbs, hq, _⟩
  · cases hg
  · have : g' = g := by simpa [Value.ownBlock] using hg
    subst this
    obtain ⟨css2, hc2, hl2, hb2⟩ := h'.ex
    rcases hb2 with ⟨rfl, _⟩ | ⟨g2, cap2, cur2, rfl, hbs2, hq2, _⟩
    · intro h; cases h
    · intro h
      have h : g' = g2 := by simpa [Value.ownBlock] using h
      subst h
      rw [hq] at hq2
      injection hq2 with hq2
      injection hq2 with _ h2
      exact hT h2
theorem cptF_len : ∀ (l : List RunD) (a : RunD), (cptF a l).length ≤ l.length
  | [], _ => Nat.le_refl _
  | b :: l, a => by
    rw [cptF]
    split
    · exact Nat.le_trans (cptF_len l a) (by simp)
    · simpa using cptF_len l b
theorem cpt_len (l : List RunD) : (cpt l).length ≤ l.length := by
  cases l with
  | nil => exact Nat.le_refl _
  | cons a l => simpa [cpt] using cptF_len l a
theorem SemW_append1W {α : Type} [Enc α] [Flat α] {P : Program} {e : TypeId} {B : Nat} {w : World} {v : Value} {xs : List α} {t ty : TypeId} {z X : Value} {bytes : Nat} (ht : P.underlying t = some (.slice e)) (hT : TI P e z (Enc.n α) bytes) (hzs : z.cells.size = Enc.n α) (hsz : 0 < Enc.n α ∧ Enc.n α ≤ 16777216) {x : α} (hB : BufO e B w v xs) (hbase : B ≤ w.heap.size)
    (hx : Enc.rep w X.cells.toList x) (hb : xs.length + 1 ≤ maxLen ∧ (xs.length + 1) * bytes ≤ 140737488355328) {G : World → Prop} (hG : ∀ w', Ext w w' → G w') {K : Value → Value → World → Prop}
    (hK : ∀ s v' w', BufO e B w' v' (xs ++ [x]) → Keep (fun k => some k ≠ v.ownBlock) w w' → (v'.ownBlock = v.ownBlock ∨ ∃ g, v'.ownBlock = some g ∧ w.heap.size ≤ g) → K s v' w') :
    SemW P (Instr.buildSlice t 1 #[(0, X)]) w fun s w1 => G w1 ∧ SemW P (Builtin.append_ #[t, t] ty #[v, s]) w1 (K s) :=
  (SemW.and (SemW_append1Q (α := α) ht hT hzs hsz hB hbase hx hb hK) (SemW_build1 (e := e) (z := z) (size := Enc.n α) (bytes := bytes) ht hT hzs (by simpa using Enc.len _ _ _ hx) hsz.2)).mono fun s w2 h => ⟨hG _ h.2, h.1⟩
end Go.Fk
namespace Go.Proofs.YtbfhenoiienghaaGreat
open Go Go.Fk
set_option linter.unusedSimpArgs false
set_option linter.unusedVariables false
set_option maxRecDepth 100000
structure PlW (W0 : World) (pp : Addr) (v0 : Value) (S : List RunD) (O C : List Int) (w : World) : Prop where
  e : Ext W0 w
  b : W0.heap.size ≤ pp.block
  s : BufO (α := RunD) 50 (pp.block + 1) w v0 S
  r : ∃ v1 v2, Row w pp 32 [v0, v1, v2] ∧ BufO (α := Int) 3 (pp.block + 1) w v1 O ∧ BufO (α := Int) 3 (pp.block + 1) w v2 C ∧ (∀ g, v1.ownBlock = some g → v2.ownBlock ≠ some g)
theorem PlW.ext {W0 w w' : World} {pp : Addr} {v0 : Value} {S : List RunD} {O C : List Int} (h : PlW W0 pp v0 S O C w) (x : Ext w w') : PlW W0 pp v0 S O C w' := by
  obtain ⟨v1, v2, r1, r2, r3, r4⟩ := h.r
  have k := Keep.of_ext (S := fun _ => True) x
  exact ⟨h.e.trans x, h.b, h.s.keep k fun _ _ _ => trivial, v1, v2, r1.ext x, r2.keep k fun _ _ _ => trivial, r3.keep k fun _ _ _ => trivial, r4⟩
theorem PlW.put1 {W0 w w1 w2 w3 : World} {pp : Addr} {v0 v1 v2 v1' : Value} {S : List RunD} {O C : List Int} {x : Int} (h : PlW W0 pp v0 S O C w) (x1 : Ext w w1) (p1 : Row w pp 32 [v0, v1, v2]) (p2 : BufO (α := Int) 3 (pp.block + 1) w v1 O) (p3 : BufO (α := Int) 3 (pp.block + 1) w v2 C) (p4 : ∀ g, v1.ownBlock = some g → v2.ownBlock ≠ some g)
    (b : BufO (α := Int) 3 (pp.block + 1) w2 v1' (O ++ [x])) (k2 : Keep (fun k => some k ≠ v1.ownBlock) w1 w2) (g : v1'.ownBlock = v1.ownBlock ∨ ∃ g, v1'.ownBlock = some g ∧ w1.heap.size ≤ g) (r3 : Row w3 pp 32 ([v0, v1, v2].set 1 v1')) (k3 : Keep (fun k => k ≠ pp.block) w2 w3) : PlW W0 pp v0 S (O ++ [x]) C w3 := by
  have K1 := Keep.of_ext (S := fun _ => True) x1
  have hb := h.b
  have z1 := x1.size
  refine ⟨?_, hb, ?_, v1', v2, r3, ?_, ?_, ?_⟩
  · exact Keep.ext (Keep.ext (h.e.trans x1) k2 fun k hk e => by have := (p2.own_lt e.symm).1; omega) k3 fun k hk => by omega
  · refine ((h.s.keepQ K1 fun _ _ => trivial).keepQ k2 fun g hg => h.s.ne2 p2 (by decide) hg).keepQ k3 fun g hg => by have := (h.s.own_lt hg).1; omega
  · exact b.keepQ k3 fun g hg => by have := (b.own_lt hg).1; omega
  · refine ((p3.keepQ K1 fun _ _ => trivial).keepQ k2 fun g hg e => p4 g e.symm hg).keepQ k3 fun g hg => by have := (p3.own_lt hg).1; omega
  · intro g' hg' hg2
    rcases g with e | ⟨g, e, hg⟩
    · exact p4 g' (by rw [← e]; exact hg') hg2
    · have := (p3.own_lt hg2).2
      rw [e] at hg'
      injection hg' with hg'
      omega
theorem PlW.put2 {W0 w w1 w2 w3 : World} {pp : Addr} {v0 v1 v2 v2' : Value} {S : List RunD} {O C : List Int} {x : Int} (h : PlW W0 pp v0 S O C w) (x1 : Ext w w1) (p1 : Row w pp 32 [v0, v1, v2]) (p2 : BufO (α := Int) 3 (pp.block + 1) w v1 O) (p3 : BufO (α := Int) 3 (pp.block + 1) w v2 C) (p4 : ∀ g, v1.ownBlock = some g → v2.ownBlock ≠ some g)
    (b : BufO (α := Int) 3 (pp.block + 1) w2 v2' (C ++ [x])) (k2 : Keep (fun k => some k ≠ v2.ownBlock) w1 w2) (g : v2'.ownBlock = v2.ownBlock ∨ ∃ g, v2'.ownBlock = some g ∧ w1.heap.size ≤ g) (r3 : Row w3 pp 32 ([v0, v1, v2].set 2 v2')) (k3 : Keep (fun k => k ≠ pp.block) w2 w3) : PlW W0 pp v0 S O (C ++ [x]) w3 := by
  have K1 := Keep.of_ext (S := fun _ => True) x1
  have hb := h.b
  have z1 := x1.size
  refine ⟨?_, hb, ?_, v1, v2', r3, ?_, ?_, ?_⟩
  · exact Keep.ext (Keep.ext (h.e.trans x1) k2 fun k hk e => by have := (p3.own_lt e.symm).1; omega) k3 fun k hk => by omega
  · refine ((h.s.keepQ K1 fun _ _ => trivial).keepQ k2 fun g hg => h.s.ne2 p3 (by decide) hg).keepQ k3 fun g hg => by have := (h.s.own_lt hg).1; omega
  · refine ((p2.keepQ K1 fun _ _ => trivial).keepQ k2 fun g hg e => p4 g hg e.symm).keepQ k3 fun g hg => by have := (p2.own_lt hg).1; omega
  · exact b.keepQ k3 fun g hg => by have := (b.own_lt hg).1; omega
  · intro g' hg' hg2
    rcases g with e | ⟨g, e, hg⟩
    · exact p4 g' hg' (by rw [← e]; exact hg2)
    · have := (p2.own_lt hg').2
      rw [e] at hg2
      injection hg2 with hg2
      omega
end Go.Proofs.YtbfhenoiienghaaGreat
