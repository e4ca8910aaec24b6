import Derived.Test.YtldjfebokojmfaaGreatRgW22r
import Derived.Test.YtldjfebokojmfaaGreatRgW22m
namespace Go.Fk
open Go
theorem isS_c {v : Value} (h : IsS v) : v.cells = #[v] := by rcases h.ex with rfl | ⟨a, n, c, rfl⟩ <;> rfl
def cutW (w : World) (B : Nat) : World := { w with heap := w.heap.extract 0 B }
theorem cutW_size {w : World} {B : Nat} (h : B ≤ w.heap.size) : (cutW w B).heap.size = B := by simp [cutW]; omega
theorem cutW_get {w : World} {B k : Nat} (h : k < B) : (cutW w B).heap[k]? = w.heap[k]? := by
  simp [cutW, Array.getElem?_extract]; omega
theorem cutW_ext {w : World} {B : Nat} (h : B ≤ w.heap.size) : Ext (cutW w B) w := ⟨rfl, rfl, rfl, by rw [cutW_size h]; exact h, fun k hk => by rw [cutW_size h] at hk; exact (cutW_get hk).symm⟩
theorem cutW_of {w w' : World} {B : Nat} (x : Ext w w') (h1 : w.heap.size ≤ B) (h2 : B ≤ w'.heap.size) : Ext w (cutW w' B) := ⟨x.os, x.tape, x.output, by rw [cutW_size h2]; exact h1, fun k hk => by rw [cutW_get (by omega)]; exact x.block k hk⟩
theorem Row.cut {w : World} {B : Nat} {p : Addr} {t : TypeId} {vs : List Value} (h : Row w p t vs) (hb : p.block < B) : Row (cutW w B) p t vs := ⟨h.p0, by rw [cutW_get hb]; exact h.heap⟩
theorem BufO.cut {α : Type} [Enc α] {e : TypeId} {B : Nat} {w : World} {v : Value} {xs : List α} (h : BufO e B w v xs) (hB : B ≤ w.heap.size) : BufL e (cutW w B) w v xs := by
  obtain ⟨css, hc, hb⟩ := h.ex
  exact ⟨css, hc, ⟨by rw [cutW_size hB]; exact hb, cutW_ext hB⟩⟩
theorem BufO.ne2 {α β : Type} [Enc α] [Enc β] {e e' : TypeId} {B B' : Nat} {w : World} {v v' : Value} {xs : List α} {ys : List β} (h : BufO e B w v xs) (h' : BufO e' B' w v' ys) (hT : e ≠ e') {g : Nat} (hg : v.ownBlock = some g) : some g ≠ v'.ownBlock := by
  obtain ⟨css, hc, hl, hb⟩ := h.ex
  rcases hb with ⟨rfl, _⟩ | ⟨g', cap, cur, rfl, hbs, hq, _⟩
  · cases hg
  · have : g' = g := by simpa [Value.ownBlock] using hg
    subst this
    obtain ⟨css2, hc2, hl2, hb2⟩ := h'.ex
    rcases hb2 with ⟨rfl, _⟩ | ⟨g2, cap2, cur2, rfl, hbs2, hq2, _⟩
    · intro h; cases h
    · intro h
      have h : g' = g2 := by simpa [Value.ownBlock] using h
      subst h
      rw [hq] at hq2
      injection hq2 with hq2
      injection hq2 with _ h2
      exact hT h2
theorem cptF_len : ∀ (l : List RunD) (a : RunD), (cptF a l).length ≤ l.length
  | [], _ => Nat.le_refl _
  | b :: l, a => by
    rw [cptF]
    split
    · exact Nat.le_trans (cptF_len l a) (by simp)
    · simpa using cptF_len l b
theorem cpt_len (l : List RunD) : (cpt l).length ≤ l.length := by
  cases l with
  | nil => exact Nat.le_refl _
  | cons a l => simpa [cpt] using cptF_len l a
theorem SemW_append1W {α : Type} [Enc α] [Flat α] {P : Program} {e : TypeId} {B : Nat} {w : World} {v : Value} {xs : List α} {t ty : TypeId} {z X : Value} {bytes : Nat} (ht : P.underlying t = some (.slice e)) (hT : TI P e z (Enc.n α) bytes) (hzs : z.cells.size = Enc.n α) (hsz : 0 < Enc.n α ∧ Enc.n α ≤ 16777216) {x : α} (hB : BufO e B w v xs) (hbase : B ≤ w.heap.size)
    (hx : Enc.rep w X.cells.toList x) (hb : xs.length + 1 ≤ maxLen ∧ (xs.length + 1) * bytes ≤ 140737488355328) {G : World → Prop} (hG : ∀ w', Ext w w' → G w') {K : Value → Value → World → Prop}
    (hK : ∀ s v' w', BufO e B w' v' (xs ++ [x]) → Keep (fun k => some k ≠ v.ownBlock) w w' → (v'.ownBlock = v.ownBlock ∨ ∃ g, v'.ownBlock = some g ∧ w.heap.size ≤ g) → K s v' w') :
    SemW P (Instr.buildSlice t 1 #[(0, X)]) w fun s w1 => G w1 ∧ SemW P (Builtin.append_ #[t, t] ty #[v, s]) w1 (K s) :=
  (SemW.and (SemW_append1Q (α := α) ht hT hzs hsz hB hbase hx hb hK) (SemW_build1 (e := e) (z := z) (size := Enc.n α) (bytes := bytes) ht hT hzs (by simpa using Enc.len _ _ _ hx) hsz.2)).mono fun s w2 h => ⟨hG _ h.2, h.1⟩
end Go.Fk
namespace Go.Proofs.YtldjfebokojmfaaGreat
open Go Go.Fk
set_option linter.unusedSimpArgs false
set_option linter.unusedVariables false
set_option maxRecDepth 100000
structure PlW (W0 : World) (pp : Addr) (v0 : Value) (S : List RunD) (O C : List Int) (w : World) : Prop where
  e : Ext W0 w
  b : W0.heap.size ≤ pp.block
  s : BufO (α := RunD) 34 (pp.block + 1) w v0 S
  r : ∃ v1 v2, Row w pp 61 [v0, v1, v2] ∧ BufO (α := Int) 3 (pp.block + 1) w v1 O ∧ BufO (α := Int) 3 (pp.block + 1) w v2 C ∧ (∀ g, v1.ownBlock = some g → v2.ownBlock ≠ some g)
theorem PlW.ext {W0 w w' : World} {pp : Addr} {v0 : Value} {S : List RunD} {O C : List Int} (h : PlW W0 pp v0 S O C w) (x : Ext w w') : PlW W0 pp v0 S O C w' := by
  obtain ⟨v1, v2, r1, r2, r3, r4⟩ := h.r
  have k := Keep.of_ext (S := fun _ => True) x
  exact ⟨h.e.trans x, h.b, h.s.keep k fun _ _ _ => trivial, v1, v2, r1.ext x, r2.keep k fun _ _ _ => trivial, r3.keep k fun _ _ _ => trivial, r4⟩
theorem PlW.put1 {W0 w w1 w2 w3 : World} {pp : Addr} {v0 v1 v2 v1' : Value} {S : List RunD} {O C : List Int} {x : Int} (h : PlW W0 pp v0 S O C w) (x1 : Ext w w1) (p1 : Row w pp 61 [v0, v1, v2]) (p2 : BufO (α := Int) 3 (pp.block + 1) w v1 O) (p3 : BufO (α := Int) 3 (pp.block + 1) w v2 C) (p4 : ∀ g, v1.ownBlock = some g → v2.ownBlock ≠ some g)
    (b : BufO (α := Int) 3 (pp.block + 1) w2 v1' (O ++ [x])) (k2 : Keep (fun k => some k ≠ v1.ownBlock) w1 w2) (g : v1'.ownBlock = v1.ownBlock ∨ ∃ g, v1'.ownBlock = some g ∧ w1.heap.size ≤ g) (r3 : Row w3 pp 61 ([v0, v1, v2].set 1 v1')) (k3 : Keep (fun k => k ≠ pp.block) w2 w3) : PlW W0 pp v0 S (O ++ [x]) C w3 := by
  have K1 := Keep.of_ext (S := fun _ => True) x1
  have hb := h.b
  have z1 := x1.size
  refine ⟨?_, hb, ?_, v1', v2, r3, ?_, ?_, ?_⟩
  · exact Keep.ext (Keep.ext (h.e.trans x1) k2 fun k hk e => by have := (p2.own_lt e.symm).1; omega) k3 fun k hk => by omega
  · refine ((h.s.keepQ K1 fun _ _ => trivial).keepQ k2 fun g hg => h.s.ne2 p2 (by decide) hg).keepQ k3 fun g hg => by have := (h.s.own_lt hg).1; omega
  · exact b.keepQ k3 fun g hg => by have := (b.own_lt hg).1; omega
  · refine ((p3.keepQ K1 fun _ _ => trivial).keepQ k2 fun g hg e => p4 g e.symm hg).keepQ k3 fun g hg => by have := (p3.own_lt hg).1; omega
  · intro g' hg' hg2
    rcases g with e | ⟨g, e, hg⟩
    · exact p4 g' (by rw [← e]; exact hg') hg2
    · have := (p3.own_lt hg2).2
      rw [e] at hg'
      injection hg' with hg'
      omega
theorem PlW.put2 {W0 w w1 w2 w3 : World} {pp : Addr} {v0 v1 v2 v2' : Value} {S : List RunD} {O C : List Int} {x : Int} (h : PlW W0 pp v0 S O C w) (x1 : Ext w w1) (p1 : Row w pp 61 [v0, v1, v2]) (p2 : BufO (α := Int) 3 (pp.block + 1) w v1 O) (p3 : BufO (α := Int) 3 (pp.block + 1) w v2 C) (p4 : ∀ g, v1.ownBlock = some g → v2.ownBlock ≠ some g)
    (b : BufO (α := Int) 3 (pp.block + 1) w2 v2' (C ++ [x])) (k2 : Keep (fun k => some k ≠ v2.ownBlock) w1 w2) (g : v2'.ownBlock = v2.ownBlock ∨ ∃ g, v2'.ownBlock = some g ∧ w1.heap.size ≤ g) (r3 : Row w3 pp 61 ([v0, v1, v2].set 2 v2')) (k3 : Keep (fun k => k ≠ pp.block) w2 w3) : PlW W0 pp v0 S O (C ++ [x]) w3 := by
  have K1 := Keep.of_ext (S := fun _ => True) x1
  have hb := h.b
  have z1 := x1.size
  refine ⟨?_, hb, ?_, v1, v2', r3, ?_, ?_, ?_⟩
  · exact Keep.ext (Keep.ext (h.e.trans x1) k2 fun k hk e => by have := (p3.own_lt e.symm).1; omega) k3 fun k hk => by omega
  · refine ((h.s.keepQ K1 fun _ _ => trivial).keepQ k2 fun g hg => h.s.ne2 p3 (by decide) hg).keepQ k3 fun g hg => by have := (h.s.own_lt hg).1; omega
  · refine ((p2.keepQ K1 fun _ _ => trivial).keepQ k2 fun g hg e => p4 g hg e.symm).keepQ k3 fun g hg => by have := (p2.own_lt hg).1; omega
  · exact b.keepQ k3 fun g hg => by have := (b.own_lt hg).1; omega
  · intro g' hg' hg2
    rcases g with e | ⟨g, e, hg⟩
    · exact p4 g' hg' (by rw [← e]; exact hg2)
    · have := (p2.own_lt hg').2
      rw [e] at hg2
      injection hg2 with hg2
      omega
set_option maxHeartbeats 4000000 in
theorem plPlan (vof : Value) (mb : Nat) (m : List (List Int × Value)) (l : List OrderD) (of : List RunD) (w : World) (hof : Sl w vof of) (hn : of.length ≤ l.length) (hl : l.length ≤ 64) (hd : Pl.Dis of) (hcr : ∀ o ∈ l, 1 ≤ o.Crowd ∧ o.Crowd ≤ 64) (hM : MapB w mb (Tryz.prog.cellsOf 34) m) (hL : LoadsAre m (Pl.load l of)) :
    Calls Tryz.prog 39 #[vof, .map (some mb)] w fun e w' => ∃ v0 v1 v2, e = .returned (.agg ((Pl.planOf l of).cs v0 v1 v2).toArray) ∧ Ext w w' ∧ PlanR w' (Pl.planOf l of) v0 v1 v2 := by
  have hs := hof.s
  have hofl := hof.len
  refine Calls_of_Run (args := [vof, .map (some mb)]) (n := 53) (rs := [.cell 4 61]) Tryz.func39 rfl rfl rfl (by simp) ?_
  (repeat with_reducible first | refine jy ?_ | refine jw KL39 [] TF39 fun _ => ?_)
  refine SemW_allocT ti61 fun pp w1 h1 => ?_
  have b1 := h1.blk
  have z1 := h1.size
  have x1 := h1.ext
  have r1 : Row w1 pp 61 [.slice none 0 0, .slice none 0 0, .slice none 0 0] := h1.row
  (repeat with_reducible first | refine jy ?_ | refine jw KL39 [] TF39 fun _ => ?_)
  refine CallW_gen call60 (clnRuns vof of w1 (hof.ext x1) (by omega)) fun e w2 ⟨v2, he2, B2⟩ => ⟨_, he2, ?_⟩
  have x2 := B2.ext0
  (repeat with_reducible first | refine jy ?_ | refine jw KL39 [] TF39 fun _ => ?_)
  have x02 := x1.trans x2
  have pb : pp.block = w.heap.size := by rw [h1.p]
  refine SemW_set0 cells59 (r1.ext x2) (by simp) (isS_c B2.isS.1) (isS_o B2.isS.1) fun w3 r3 k3 z3 => ?_
  have e1 : pp.block + 1 = w1.heap.size := by omega
  have O3 : BufO (α := RunD) 34 (pp.block + 1) w3 v2 of := (e1 ▸ B2.o).keepQ k3 fun g hg => by have := (B2.o.own_lt hg).1; omega
  have r3 : Row w3 pp 61 [v2, .slice none 0 0, .slice none 0 0] := r3
  have x3 : Ext w w3 := Keep.ext x02 k3 fun k hk => by omega
  have n3 := r3.n
  simp only [AtN, KS, Nat.reduceAdd, Nat.reduceMul, Nat.reduceEqDiff, ↓reduceIte, UT] at n3
  (repeat with_reducible first | refine jy ?_ | refine jw KL39 [] (aa TF39 n3) fun _ => ?_)
  refine CallW_gen call67 (sortPl O3 (by omega)) fun e w4 ⟨he4, ⟨l', hp4, hs4, O4⟩, k4⟩ => ⟨_, he4, ?_⟩
  have r4 := r3.keep k4 (O3.ne r3 (by decide))
  have x4 : Ext w w4 := Keep.ext x3 k4 fun k hk e => by have := (O3.own_lt e.symm).1; omega
  have hB4 : pp.block + 1 ≤ w4.heap.size := r4.lt
  have n4 := r4.n
  simp only [AtN, KS, Nat.reduceAdd, Nat.reduceMul, Nat.reduceEqDiff, ↓reduceIte, UT] at n4
  (repeat with_reducible first | refine jy ?_ | refine jw KL39 [] (aa TF39 n4) fun _ => ?_)
  refine CallW_gen call68 (cptR v2 l' _ w4 (O4.cut hB4) (by rw [hp4.length_eq]; omega)) fun e w5 ⟨v5, he5, B5⟩ => ⟨_, he5, ?_⟩
  rw [cpt_dd hp4 hs4 hd] at B5
  have x5 : Ext w w5 := (cutW_of x4 (by omega) hB4).trans B5.ext0
  have r5 := (Row.cut r4 (show pp.block < pp.block + 1 by omega)).ext B5.ext0
  have O5 := B5.o
  rw [cutW_size hB4] at O5
  (repeat with_reducible first | refine jy ?_ | refine jw KL39 [] TF39 fun _ => ?_)
  refine SemW_set0 cells59 r5 (by simp) (isS_c B5.isS.1) (isS_o B5.isS.1) fun w6 r6 k6 z6 => ?_
  have r6 : Row w6 pp 61 [v5, .slice none 0 0, .slice none 0 0] := r6
  have O6 := O5.keepQ k6 fun g hg => by have := (O5.own_lt hg).1; omega
  have x6 : Ext w w6 := Keep.ext x5 k6 fun k hk => by omega
  have P6 : PlW w pp v5 (Pl.dd of) [] [] w6 := ⟨x6, by omega, O6, _, _, r6, BufO.nil, BufO.nil, fun g hg => by cases hg⟩
  clear x5 r5 O5 k6 z6 r6 O6 B5 n4 hB4 r4 k4 O4 n3 r3 O3 z3 k3 B2 r1 z1 x02 x2 x1 b1 h1
  have hS64 : (Pl.dd of).length ≤ 64 := by
    rw [← cpt_dd hp4 hs4 hd]
    exact Nat.le_trans (cpt_len l') (by rw [hp4.length_eq]; omega)
  have hmem := (Pl.dd_spec hd).2
  clear hp4 hs4 hd
  generalize hSd : Pl.dd of = R at *
  (repeat with_reducible first | refine jy ?_ | refine jw KL39 [] (aa TF39 (aa hs hofl)) fun _ => ?_)
  refine Run_loopV [6, 21, 22] (σ := Nat) (fun q => [(21, some (.int .i64 q))]) (fun q w' => q ≤ of.length ∧ PlW w pp v5 R ((of.take q).map fun r => Pl.ridx r R 0) [] w') (fun q => of.length - q) 0 (by simp [SubB, fnd]) ⟨by omega, P6⟩ ?_
  rintro q w7 ⟨hq, P7⟩
  (repeat with_reducible first | refine jy ?_ | refine jw KL39 [] TF39 fun _ => ?_)
  refine Run_condS (fun _ => rfl) (fun h => ?_) (fun h => ?_)
  · simp at h
    have hql : q < of.length := by omega
    have hqc : (q : Int) < of.length := by omega
    clear h
    obtain ⟨r1, r2⟩ := (hof.ext P7.e).runD hql
    have htk : (of.take (q + 1)).map (fun r => Pl.ridx r R 0) = (of.take q).map (fun r => Pl.ridx r R 0) ++ [Pl.ridx of[q] R 0] := by rw [List.take_add_one, List.getElem?_eq_getElem hql, List.map_append]; rfl
    have hrd := Pl.ridx_getD ((hmem _).2 (List.getElem_mem hql))
    have hin := (hmem _).2 (List.getElem_mem hql)
    have hlq : ((of.take q).map fun r => Pl.ridx r R 0).length = q := by rw [List.length_map, List.length_take]; omega
    generalize (of.take q).map (fun r => Pl.ridx r R 0) = O at *
    generalize of[q] = r at *
    simp only [RunD.cs, AtN, KS, Nat.reduceAdd, Nat.reduceMul, Nat.reduceEqDiff, ↓reduceIte, UT] at r1
    (repeat with_reducible first | refine jy ?_ | refine jw KL39 [] (aa TF39 (aa hs (aa hofl r1))) fun _ => ?_)
    refine SemW_allocT ti34 fun pr w8 h8 => ?_
    have b8 := h8.blk
    (repeat with_reducible first | refine jy ?_ | refine jw KL39 [] TF39 fun _ => ?_)
    refine SemW_setW (by rw [cells34]; decide) (by rw [cells34]; rfl) h8.row (by rw [cells34]; rfl) rfl fun w9 r9 k9 z9 => ?_
    have r9 : Row w9 pr 34 r.cs := by simpa [Value.cells, RunD.cs] using r9
    have x9 : Ext w7 w9 := Keep.ext h8.ext k9 fun b hb => by omega
    obtain ⟨v1, v2', p1, p2, p3, p4⟩ := P7.r
    let S : Nat → Prop := fun b => some b ≠ v1.ownBlock
    have Sp : S pp.block := fun e => by have := (p2.own_lt e.symm).1; omega
    have Sr : S pr.block := fun e => by have := (p2.own_lt e.symm).2; omega
    (repeat with_reducible refine js ?_)
    refine Run_eh S [9] [(1, [9]), (3, [9]), (4, [9])] (id := 7) KL39 (.first 0 (.first 1 (.first 2 (.first 3 (.first 4 (.alt true 5 (.alt true 6 (.alt true 7 (.first 8 (.alt true 9 (.done false) .stop)) .stop) .stop) .stop)))))) mixed (by kernel_rfl) (by kernel_rfl) fun w10 x10 _ => ?_
    have r10 := (r9.ext x10).n
    have x710 := x9.trans x10
    have p10 := (p1.ext x710).n
    simp only [RunD.cs, AtN, KS, Nat.reduceAdd, Nat.reduceMul, Nat.reduceEqDiff, ↓reduceIte, UT] at r10 p10
    (try simp (maxSteps := 5000000) only [KS, Nat.reduceAdd, Nat.reduceMul, Nat.reduceEqDiff, ↓reduceIte, forall_const, Int.cast_ofNat_Int, Int.reduceToNat, List.take_succ_cons, List.take_zero, List.drop_succ_cons, List.drop_zero, TF39, KL39, eh, gres, qopS, putL, ung, r10, p10]); (try simp (disch := omega) only [wrapI, tmodI, tdivI])
    refine ⟨Sp, Sp, Sr, Keep.refl _ _, ?_⟩
    refine CallW_pure call69 (idxR v5 r R w10 ((P7.s.keepQ (Keep.of_ext (S := fun _ => True) x710) fun _ _ => trivial).sl (by omega))) fun w11 x11 => ⟨Keep.of_ext x11, ?_⟩
    have x711 := x710.trans x11
    have k711 := Keep.of_ext (S := fun _ => True) x711
    have hB11 : pp.block + 1 ≤ w11.heap.size := (p1.ext x711).lt
    refine SemW_append1W (α := Int) Tryz.underlying25 ti3 rfl (by decide) (p2.keepQ k711 fun _ _ => trivial) hB11 (x := Pl.ridx r R 0) ⟨rfl, by unfold I64; omega⟩ (by rw [hlq]; simp only [maxLen]; omega) (G := fun w' => Keep S w10 w') (fun w' x => Keep.of_ext (x11.trans x)) fun _ v12 w12 b12 k12 g12 => ⟨(Keep.of_ext x11).trans k12, ?_⟩
    refine SemW_setAt (i := 1) cells25 (p1.ext x711 |>.keep k12 Sp) (by simp) (isS_c b12.isS.1) (isS_o b12.isS.1) fun w13 r13 k13 z13 => ⟨fun h => h.elim, ?_⟩
    (repeat with_reducible first | refine jy ?_ | refine jw KL39 [] TF39 fun _ => ?_)
    refine Run_lp ⟨q + 1, by simp [SubB, fnd, strike, has], ⟨by omega, ?_⟩, by omega⟩
    rw [htk]
    exact P7.put1 x711 p1 p2 p3 p4 b12 k12 g12 r13 k13
  · simp at h
    obtain rfl : q = of.length := by omega
    rw [List.take_length] at P7
    obtain ⟨v1, v2', p1, p2, p3, p4⟩ := P7.r
    have p7 := p1.n
    simp only [AtN, KS, Nat.reduceAdd, Nat.reduceMul, Nat.reduceEqDiff, ↓reduceIte, UT] at p7
    have s5 := P7.s.isS.1
    have l5 := P7.s.isS.2
    (repeat with_reducible first | refine jy ?_ | refine jw KL39 [] (aa TF39 (aa p7 (aa s5 l5))) fun _ => ?_)
    clear p1 p2 p3 p4 p7 v1 v2'
    refine Run_loopV [8, 38, 39] (σ := Nat) (fun q => [(38, some (.int .i64 q))]) (fun q w' => q ≤ R.length ∧ PlW w pp v5 R (of.map fun r => Pl.ridx r R 0) ((R.take q).map fun r => (Pl.load l of r).covers) w') (fun q => R.length - q) 0 (by simp [SubB, fnd]) ⟨by omega, P7⟩ ?_
    rintro q w7 ⟨hq, P7⟩
    (repeat with_reducible first | refine jy ?_ | refine jw KL39 [] TF39 fun _ => ?_)
    refine Run_condS (fun _ => rfl) (fun h => ?_) (fun h => ?_)
    · simp at h
      have hql : q < R.length := by omega
      have hqc : (q : Int) < R.length := by omega
      clear h
      obtain ⟨r1, r2⟩ := (P7.s.sl (by omega)).runD hql
      have htk : (R.take (q + 1)).map (fun r => (Pl.load l of r).covers) = (R.take q).map (fun r => (Pl.load l of r).covers) ++ [(Pl.load l of R[q]).covers] := by rw [List.take_add_one, List.getElem?_eq_getElem hql, List.map_append]; rfl
      have hlq : ((R.take q).map fun r => (Pl.load l of r).covers).length = q := by rw [List.length_map, List.length_take]; omega
      generalize (R.take q).map (fun r => (Pl.load l of r).covers) = C at *
      generalize R[q] = r at *
      have hlr := Pl.load_bd hcr of r
      have hcv := Pl.cov_bd hcr of r
      simp only [RunD.cs, AtN, KS, Nat.reduceAdd, Nat.reduceMul, Nat.reduceEqDiff, ↓reduceIte, UT] at r1
      (repeat with_reducible first | refine jy ?_ | refine jw KL39 [] (aa TF39 (aa s5 (aa l5 r1))) fun _ => ?_)
      refine SemW_allocT ti34 fun pr w8 h8 => ?_
      have b8 := h8.blk
      (repeat with_reducible first | refine jy ?_ | refine jw KL39 [] TF39 fun _ => ?_)
      refine SemW_setW (by rw [cells34]; decide) (by rw [cells34]; rfl) h8.row (by rw [cells34]; rfl) rfl fun w9 r9 k9 z9 => ?_
      have r9 : Row w9 pr 34 r.cs := by simpa [Value.cells, RunD.cs] using r9
      have x9 : Ext w7 w9 := Keep.ext h8.ext k9 fun b hb => by omega
      obtain ⟨v1, v2', p1, p2, p3, p4⟩ := P7.r
      have hml : mb < w.heap.size := hM.lt
      let S : Nat → Prop := fun b => some b ≠ v2'.ownBlock
      have Sp : S pp.block := fun e => by have := (p3.own_lt e.symm).1; omega
      have Sr : S pr.block := fun e => by have := (p3.own_lt e.symm).2; omega
      have Sm : S mb := fun e => by have := (p3.own_lt e.symm).1; omega
      (repeat with_reducible refine js ?_)
      refine Run_eh S [9] [(1, [9]), (3, [9])] (id := 12) KL39 (.first 0 (.first 1 (.first 2 (.first 3 (.alt true 4 (.alt true 5 (.alt true 6 (.alt true 7 (.first 8 (.alt true 9 (.done false) .stop)) .stop) .stop) .stop) .stop))))) mixed (by kernel_rfl) (by kernel_rfl) fun w10 x10 _ => ?_
      have r10 := (r9.ext x10).n
      have x710 := x9.trans x10
      have p10 := (p1.ext x710).n
      simp only [RunD.cs, AtN, KS, Nat.reduceAdd, Nat.reduceMul, Nat.reduceEqDiff, ↓reduceIte, UT] at r10 p10
      (try simp (maxSteps := 5000000) only [KS, Nat.reduceAdd, Nat.reduceMul, Nat.reduceEqDiff, ↓reduceIte, forall_const, Int.cast_ofNat_Int, Int.reduceToNat, List.take_succ_cons, List.take_zero, List.drop_succ_cons, List.drop_zero, TF39, KL39, eh, gres, qopS, putL, ung, r10, p10]); (try simp (disch := omega) only [wrapI, tmodI, tdivI])
      have hflat : flatT Tryz.prog 34 = true := by kernel_rfl
      refine ⟨Sp, Sr, Keep.refl _ _, ?_⟩
      refine SemW_lookup (k := rk r) Tryz.underlying89 hflat ti92 (hM.ext (P7.e.trans x710)) (by rw [cells34]; rfl) ?_
      simp only [Bool.false_eq_true, if_false]
      have hz' : (mget m (rk r)).getD (.agg #[.int .i64 0, .int .i64 0]) = ldv (Pl.load l of r) := hL r
      rw [hz']
      refine ⟨Keep.refl _ _, ?_⟩
      refine CallW_pure call38 (ldCovers (Pl.load l of r) w10 (by omega) (by omega)) fun w11 x11 => ⟨Keep.of_ext x11, ?_⟩
      have x711 := x710.trans x11
      have k711 := Keep.of_ext (S := fun _ => True) x711
      have hB11 : pp.block + 1 ≤ w11.heap.size := (p1.ext x711).lt
      refine SemW_append1W (α := Int) Tryz.underlying25 ti3 rfl (by decide) (p3.keepQ k711 fun _ _ => trivial) hB11 (x := (Pl.load l of r).covers) ⟨rfl, by unfold I64; omega⟩ (by rw [hlq]; simp only [maxLen]; omega) (G := fun w' => Keep S w10 w') (fun w' x => Keep.of_ext (x11.trans x)) fun _ v12 w12 b12 k12 g12 => ⟨(Keep.of_ext x11).trans k12, ?_⟩
      refine SemW_setAt (i := 2) cells25 (p1.ext x711 |>.keep k12 Sp) (by simp) (isS_c b12.isS.1) (isS_o b12.isS.1) fun w13 r13 k13 z13 => ⟨fun h => h.elim, ?_⟩
      (repeat with_reducible first | refine jy ?_ | refine jw KL39 [] TF39 fun _ => ?_)
      refine Run_lp ⟨q + 1, by simp [SubB, fnd, strike, has], ⟨by omega, ?_⟩, by omega⟩
      rw [htk]
      exact P7.put2 x711 p1 p2 p3 p4 b12 k12 g12 r13 k13
    · simp at h
      obtain rfl : q = R.length := by omega
      rw [List.take_length] at P7
      obtain ⟨v1, v2', p1, p2, p3, p4⟩ := P7.r
      have p7 := p1.n
      simp only [AtN, KS, Nat.reduceAdd, Nat.reduceMul, Nat.reduceEqDiff, ↓reduceIte, UT] at p7
      (repeat with_reducible first | refine jy ?_ | refine jw KL39 [] (aa TF39 p7) fun _ => ?_)
      refine SemW_setW (by rw [cells61]; decide) (by rw [cells61]; rfl) p1 (by rw [cells61]; rfl) (by simp [Value.cells, isS_o s5, isS_o p2.isS.1, isS_o p3.isS.1]) fun w8 r8 k8 z8 => ?_
      have e8 := loadVar_at (P := Tryz.prog) (t := 61) (by kernel_rfl) (by rw [cells61]; decide) (by rw [cells61]; rfl) r8.at_
      (repeat with_reducible first | refine jy ?_ | refine jw KL39 [] TF39 fun _ => ?_)
      refine Run_ret ?_
      simp only [Rets, RetM, resV]
      refine ⟨pp, _, rfl, e8, ?_⟩
      simp only [oneOr]
      have hb := P7.b
      refine ⟨v5, v1, v2', rfl, Keep.ext P7.e k8 fun k hk => by omega, ?_⟩
      refine ⟨?_, ?_, ?_⟩
      · exact (P7.s.keepQ k8 fun g hg => by have := (P7.s.own_lt hg).1; omega).sl (by omega) |> fun h => by unfold Pl.planOf; rw [hSd]; exact h
      · exact (p2.keepQ k8 fun g hg => by have := (p2.own_lt hg).1; omega).sl (by rw [List.length_map]; omega) |> fun h => by unfold Pl.planOf; rw [hSd]; exact h
      · exact (p3.keepQ k8 fun g hg => by have := (p3.own_lt hg).1; omega).sl (by rw [List.length_map]; omega) |> fun h => by unfold Pl.planOf; rw [hSd]; exact h
end Go.Proofs.YtldjfebokojmfaaGreat
