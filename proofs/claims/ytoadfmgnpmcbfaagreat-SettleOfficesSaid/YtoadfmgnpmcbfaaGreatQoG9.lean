import Derived.Test.YtoadfmgnpmcbfaaGreatQoW41w
import Derived.Test.YtoadfmgnpmcbfaaGreatQoW39s
import Derived.Test.YtoadfmgnpmcbfaaGreatQoGb
import Derived.Test.YtoadfmgnpmcbfaaGreatQoGe
/- Chapter 41: Few, the calls, the examples' table. -/
namespace Go.Proofs.YtoadfmgnpmcbfaaGreat
open Go Go.Fk
set_option linter.unusedSimpArgs false
set_option linter.unusedVariables false
set_option maxRecDepth 100000
theorem fewP_bd {t : TimeD} {f : TariffD} {l : List OrderD} {p : PlanD} (h : FewP t f l p) : l.length ≤ 12 ∧ p.Runs.length ≤ 70 := by
  have := h.p
  simp only [fewPl, decide_eq_true_eq] at this
  exact ⟨h.l, this.1⟩
set_option maxHeartbeats 1000000 in
theorem rfFew41 (vl u0 u1 u2 vo v0 v1 v2 vh : Value) (t : TimeD) (f : TariffD) (l : List OrderD) (p : PlanD) (hd : List Int) (w : World) (hl : Sl w vl t.Lines) (hT : TarR w f u0 u1 u2) (ho : Sl w vo l) (hP : PlanR w p v0 v1 v2) (hh : Sl w vh hd) :
    Calls Tryz.prog 35 #[.agg (t.cs vl).toArray, .agg (f.cs u0 u1 u2).toArray, vo, .agg (p.cs v0 v1 v2).toArray, vh] w fun e w' => ∃ b : Bool, e = .returned (.bool b) ∧ Ext w w' ∧ (b = true → l.length ≤ 12 ∧ p.Runs.length ≤ 70 ∧ hd.length ≤ 70) := by
  have hhl := hh.len
  refine Calls_of_Run (args := [.agg (t.cs vl).toArray, .agg (f.cs u0 u1 u2).toArray, vo, .agg (p.cs v0 v1 v2).toArray, vh]) (n := 21) (rs := [.tmp 10]) Tryz.func35 rfl rfl rfl (by simp) ?_
  (repeat with_reducible first | refine js ?_ | refine ja ?_ | refine jw KL35 [] TF35 fun _ => ?_)
  refine SemW_box fun pt w1 h1 => SemW_box fun pf w2 h2 => SemW_box fun pp w3 h3 => ?_
  have x3 := h1.ext.trans (h2.ext.trans h3.ext)
  have t3 := (h1.at_.ext (h2.ext.trans h3.ext)).n
  have f3 := (h2.at_.ext h3.ext).n
  have p3 := h3.at_.n
  simp only [Value.cells, TimeD.cs, TariffD.cs, PlanD.cs, AtN, KS, Nat.reduceAdd, Nat.reduceMul, Nat.reduceEqDiff, ↓reduceIte, UT] at t3 f3 p3
  (repeat with_reducible first | refine js ?_ | refine ja ?_ | refine jw KL35 [] (aa TF35 (aa t3 (aa f3 p3))) fun _ => ?_)
  refine CallW_cl call17 (rfFew39 vl u0 u1 u2 vo v0 v1 v2 t f l p w3 (hl.ext x3) (hT.ext x3) (ho.ext x3) (hP.ext x3)) (fun e w4 ⟨b, he, x4, hb⟩ => ⟨_, he, ?_⟩) (he := by simp [TimeD.cs, TariffD.cs, PlanD.cs])
  (repeat with_reducible first | refine js ?_ | refine ja ?_ | refine jw KL35 [] (aa TF35 (aa hh.s (aa hhl KX))) fun _ => ?_)
  refine Run_ret ?_
  simp [Rets, RetM, resV, fnd, oneOr]
  by_cases hb2 : b = true ∧ hd.length ≤ 70
  · exact .inr ⟨⟨hb2.1, by omega⟩, x3.trans x4, (fewP_bd (hb hb2.1)).1, (fewP_bd (hb hb2.1)).2, hb2.2⟩
  · exact .inl ⟨fun e => by have : ¬ hd.length ≤ 70 := fun h => hb2 ⟨e, h⟩; omega, x3.trans x4⟩
section
variable {vl u0 u1 u2 vo v0 v1 v2 vh va vb : Value} {t : TimeD} {f : TariffD} {l : List OrderD} {p : PlanD} {hd : List Int} {m n : List MoveD} {b : Bool} {r : List MoveD × Int} {w : World} {K : Value → World → Prop}
theorem few41W (hl : Sl w vl t.Lines) (hT : TarR w f u0 u1 u2) (ho : Sl w vo l) (hP : PlanR w p v0 v1 v2) (hh : Sl w vh hd)
    (hK : ∀ (b : Bool) w', Ext w w' → (b = true → l.length ≤ 12 ∧ p.Runs.length ≤ 70 ∧ hd.length ≤ 70) → K (.bool b) w') :
    CallW Tryz.prog (.func (.func 35) #[] #[]) [.agg #[.int .i64 t.Offices, vl], .agg #[u0, u1, u2], vo, .agg #[v0, v1, v2], vh] w K :=
  CallW_gen call35 (rfFew41 vl u0 u1 u2 vo v0 v1 v2 vh t f l p hd w hl hT ho hP hh) fun e w' ⟨b, he, x, hb⟩ => ⟨_, he, hK b w' x hb⟩
theorem same41W (h : decide (m = n) = b) (hx : Sl w va m) (hy : Sl w vb n) (hK : ∀ w', Ext w w' → K (.bool b) w') : CallW Tryz.prog (.func (.func 20) #[] #[]) [va, vb] w K := by
  subst h; exact CallW_pure call20 (rfSame39 va vb m n w hx hy) hK
end
def eL : LineD := ⟨[0, 1, 2], [5, 6], 1, 4, [⟨10, 11, 1⟩], []⟩
def eT : TimeD := ⟨3, [eL]⟩
def eF (b : Int) : TariffD := ⟨[b], [3], []⟩
def eO : OrderD := { From := 0, Person := 0, Dest := 2, Class := 0, After := 0, By := 100, Crowd := 1, Pay := 16, Against := [], Back := false, Else := 0 }
def eP : PlanD := ⟨[⟨0, 10, 21⟩], [0], [1]⟩
def eT0 : TimeD := ⟨0, []⟩
def eP0 : PlanD := ⟨[], [], []⟩
def eWant : List MoveD := [⟨0, 51, 2, 16, 1, 0⟩, ⟨1, 2, 3, 3, 2, 0⟩, ⟨2, 2, 4, 3, 2, 0⟩, ⟨3, 2, 1, 10, 3, 0⟩, ⟨4, 1, 3, 3, 5, 0⟩, ⟨5, 1, 4, 3, 5, 0⟩, ⟨6, 1, 51, 4, 6, -1⟩]
def eBack : List MoveD := [⟨0, 51, 2, 16, 1, 0⟩, ⟨1, 2, 51, 16, 4, 0⟩, ⟨2, 1, 51, 0, 6, -1⟩]
theorem ek1 : Au.all eT (eF 10) [eO] eP [2] = (eWant, 0) := by kernel_rfl
theorem ek2 : Au.all eT (eF 10) [eO] eP [0] = (eBack, 0) := by kernel_rfl
theorem ek3 : Au.all eT0 (eF 10) [] eP0 [] = ([], 0) := by kernel_rfl
theorem ek4 : Au.all eT0 (eF 10) [] eP0 [0] = ([], 1) := by kernel_rfl
theorem ek5 : Au.all eT (eF 10) [eO] eP [3] = ([], 1) := by kernel_rfl
theorem ek6 : Au.all eT (eF 0) [eO] eP [2] = ([], 381) := by kernel_rfl
theorem ints41 {w : World} (xs : List Int) (p : Addr) (hx : xs.all (fun x => decide (-1000000 ≤ x ∧ x ≤ 1000000)) = true) (hl : xs.length ≤ 1000) (hr : Row w p 3 (xs.map fun x => .int .i64 x)) : Sl w (.slice (some p) xs.length xs.length) xs := by
  have hc := Cs.ints (w := w) xs fun x h => by
    have := List.all_eq_true.1 hx x h
    simp only [decide_eq_true_eq] at this
    unfold I64; omega
  refine Sl.of_row (e := 3) (css := (xs.map fun x => (Value.int .i64 x)).map fun v => v.cells.toList) ?_ hc rfl (by omega)
  have e : ((xs.map fun x => (Value.int .i64 x)).map fun v => v.cells.toList).flatten = xs.map fun x => .int .i64 x := by
    clear hx hl hr hc
    induction xs with
    | nil => rfl
    | cons x xs ih => simp only [List.map_cons, List.flatten_cons, ih]; rfl
  rw [e]; exact hr
/-- where the examples' table lies -/
structure OneR (w : World) (pa pb pr pl ua ub : Addr) (x : Int) : Prop where
  a : Row w pa 3 (eL.Offices.map fun x => .int .i64 x)
  b : Row w pb 3 (eL.Legs.map fun x => .int .i64 x)
  r : Row w pr 146 [.int .i64 10, .int .i64 11, .int .i64 1]
  l : Row w pl 52 (eL.cs (.slice (some pa) 3 3) (.slice (some pb) 2 2) (.slice (some pr) 1 1) (.slice none 0 0))
  fa : Row w ua 3 [.int .i64 x]
  fb : Row w ub 3 [.int .i64 3]
  n : pa.block ≠ ua.block ∧ pb.block ≠ ua.block ∧ pr.block ≠ ua.block ∧ pl.block ≠ ua.block ∧ ub.block ≠ ua.block
section
variable {w w' : World} {pa pb pr pl ua ub : Addr} {x : Int}
theorem OneR.ext (h : OneR w pa pb pr pl ua ub x) (e : Ext w w') : OneR w' pa pb pr pl ua ub x := ⟨h.a.ext e, h.b.ext e, h.r.ext e, h.l.ext e, h.fa.ext e, h.fb.ext e, h.n⟩
theorem OneR.put (h : OneR w pa pb pr pl ua ub x) {y : Int} (hu : Row w' ua 3 [.int .i64 y]) (k : Keep (fun b => b ≠ ua.block) w w') : OneR w' pa pb pr pl ua ub y := ⟨h.a.keep k h.n.1, h.b.keep k h.n.2.1, h.r.keep k h.n.2.2.1, h.l.keep k h.n.2.2.2.1, hu, h.fb.keep k h.n.2.2.2.2, h.n⟩
theorem OneR.keep {S : Nat → Prop} (h : OneR w pa pb pr pl ua ub x) (k : Keep S w w') (hS : S pa.block ∧ S pb.block ∧ S pr.block ∧ S pl.block ∧ S ua.block ∧ S ub.block) : OneR w' pa pb pr pl ua ub x := ⟨h.a.keep k hS.1, h.b.keep k hS.2.1, h.r.keep k hS.2.2.1, h.l.keep k hS.2.2.2.1, h.fa.keep k hS.2.2.2.2.1, h.fb.keep k hS.2.2.2.2.2, h.n⟩
theorem OneR.t (h : OneR w pa pb pr pl ua ub x) : Sl w (.slice (some pl) 1 1) eT.Lines :=
  Sl.of_row (css := [_]) h.l (Cs.one (LineR.rep ⟨ints41 eL.Offices pa (by decide) (by decide) h.a, ints41 eL.Legs pb (by decide) (by decide) h.b, by simp [eL, I64], by simp [eL, I64], Sl.of_row (css := [_]) h.r (Cs.one ⟨rfl, by simp [I64], by simp [I64], by simp [I64]⟩) rfl (by decide), Sl.nil _⟩)) rfl (by decide)
theorem OneR.f (h : OneR w pa pb pr pl ua ub x) (hx : I64 x) : TarR w (eF x) (.slice (some ua) 1 1) (.slice (some ub) 1 1) (.slice none 0 0) :=
  ⟨Sl.of_row (css := [_]) h.fa (Cs.one ⟨rfl, hx⟩) rfl (by decide), Sl.of_row (css := [_]) h.fb (Cs.one ⟨rfl, by simp [I64]⟩) rfl (by decide), Sl.nil _⟩
end
set_option maxHeartbeats 1000000 in
theorem one41 (w : World) : Calls Tryz.prog 74 #[] w fun e w' => ∃ pa pb pr pl ua ub, e = .returned (.tuple #[.agg (eT.cs (.slice (some pl) 1 1)).toArray, .agg ((eF 10).cs (.slice (some ua) 1 1) (.slice (some ub) 1 1) (.slice none 0 0)).toArray]) ∧ Ext w w' ∧ OneR w' pa pb pr pl ua ub 10 ∧ w.heap.size ≤ ua.block := by
  refine Calls_of_Run (args := []) (n := 14) (rs := [.cell 0 24, .cell 1 28]) Tryz.func74 rfl rfl rfl (by simp) ?_
  (repeat with_reducible first | refine js ?_ | refine ja ?_ | refine jw KL74 [] TF74 fun _ => ?_)
  refine SemW_allocT ti24 fun p0 w1 h1 => SemW_allocT ti28 fun p1 w2 h2 => ?_
  (repeat with_reducible first | refine js ?_ | refine ja ?_ | refine jw KL74 [] TF74 fun _ => ?_)
  refine SemW_buildSlice (vs := eL.Offices.map fun x => .int .i64 x) Tryz.underlying25 ti3 rfl rfl rfl (by decide) (by decide) fun pa w3 h3 => ?_
  refine SemW_buildSlice (vs := eL.Legs.map fun x => .int .i64 x) Tryz.underlying25 ti3 rfl rfl rfl (by decide) (by decide) fun pb w4 h4 => ?_
  refine ⟨.agg #[.int .i64 10, .int .i64 11, .int .i64 1], fun _ => by kernel_rfl, ?_⟩
  refine SemW_buildSlice (vs := [.agg #[.int .i64 10, .int .i64 11, .int .i64 1]]) Tryz.underlying49 ti146 rfl rfl rfl (by simp [Value.cells]) (by decide) fun pr w5 h5 => ?_
  refine ⟨.agg (eL.cs (.slice (some pa) 3 3) (.slice (some pb) 2 2) (.slice (some pr) 1 1) (.slice none 0 0)).toArray, fun _ => by kernel_rfl, ?_⟩
  refine SemW_allocT ti52 fun p2 w6 h6 => ?_
  refine SemW_setW (by rw [cells52]; decide) (by rw [cells52]; rfl) h6.row (by rw [cells52]; rfl) rfl fun w7 r7 k7 z7 => ?_
  have r7 : Row w7 p2 52 (eL.cs (.slice (some pa) 3 3) (.slice (some pb) 2 2) (.slice (some pr) 1 1) (.slice none 0 0)) := r7
  have n7 := r7.n
  simp only [AtN, KS, Nat.reduceAdd, Nat.reduceMul, Nat.reduceEqDiff, ↓reduceIte, UT, LineD.cs] at n7
  (repeat with_reducible first | refine js ?_ | refine ja ?_ | refine jw KL74 [] (aa TF74 n7) fun _ => ?_)
  refine SemW_buildSlice (vs := [.agg (eL.cs (.slice (some pa) 3 3) (.slice (some pb) 2 2) (.slice (some pr) 1 1) (.slice none 0 0)).toArray]) Tryz.underlying22 ti52 rfl rfl rfl (by simp [Value.cells, LineD.cs]) (by show 1 * 6 ≤ 16777216; decide) fun pl w8 h8 => ?_
  refine ⟨.agg (eT.cs (.slice (some pl) 1 1)).toArray, fun _ => by kernel_rfl, ?_⟩
  refine SemW_buildSlice (vs := (eF 10).Base.map fun x => .int .i64 x) Tryz.underlying25 ti3 rfl rfl rfl (by simp [eF, Value.cells]) (by decide) fun ua w9 h9 => ?_
  refine SemW_buildSlice (vs := (eF 10).Leg.map fun x => .int .i64 x) Tryz.underlying25 ti3 rfl rfl rfl (by simp [eF, Value.cells]) (by decide) fun ub wA hA => ?_
  refine ⟨.agg ((eF 10).cs (.slice (some ua) 1 1) (.slice (some ub) 1 1) (.slice none 0 0)).toArray, fun _ => by kernel_rfl, ?_⟩
  have b1 := h1.blk
  have b2 := h2.blk
  have b3 := h3.blk
  have b4 := h4.blk
  have b5 := h5.blk
  have b6 := h6.blk
  have b8 := h8.blk
  have b9 := h9.blk
  have bA := hA.blk
  have s1 := h1.size
  have s2 := h2.size
  have s3 := h3.size
  have s4 := h4.size
  have s5 := h5.size
  have s6 := h6.size
  have s8 := h8.size
  have s9 := h9.size
  have sA := hA.size
  have xA := h8.ext.trans (h9.ext.trans hA.ext)
  have xB := h3.ext.trans (h4.ext.trans (h5.ext.trans h6.ext))
  have q0 := ((h1.row.ext (h2.ext.trans xB)).keep k7 (by show p0.block ≠ p2.block; omega)).ext xA
  have q1 := ((h2.row.ext xB).keep k7 (by show p1.block ≠ p2.block; omega)).ext xA
  refine SemW_setW (by rw [cells24]; decide) (by rw [cells24]; rfl) q0 (by rw [cells24]; rfl) rfl fun wC rC kC zC => ?_
  have rC : Row wC p0 24 (eT.cs (.slice (some pl) 1 1)) := rC
  refine SemW_setW (by rw [cells28]; decide) (by rw [cells28]; rfl) (q1.keep kC (by show p1.block ≠ p0.block; omega)) (by rw [cells28]; rfl) rfl fun wD rD kD zD => ?_
  have rD : Row wD p1 28 ((eF 10).cs (.slice (some ua) 1 1) (.slice (some ub) 1 1) (.slice none 0 0)) := rD
  have rC := rC.keep kD (by show p0.block ≠ p1.block; omega)
  have kk : Keep (fun b => b ≠ p0.block ∧ b ≠ p1.block) wA wD := (kC.mono fun _ _ h => h.1).trans (kD.mono fun _ _ h => h.2)
  have gA : OneR wA pa pb pr pl ua ub 10 := ⟨((h3.row.ext (h4.ext.trans (h5.ext.trans h6.ext))).keep k7 (by show pa.block ≠ p2.block; omega)).ext xA, ((h4.row.ext (h5.ext.trans h6.ext)).keep k7 (by show pb.block ≠ p2.block; omega)).ext xA, ((h5.row.ext h6.ext).keep k7 (by show pr.block ≠ p2.block; omega)).ext xA, h8.row.ext (h9.ext.trans hA.ext), h9.row.ext hA.ext, hA.row, by omega, by omega, by omega, by omega, by omega⟩
  (repeat with_reducible first | refine js ?_ | refine ja ?_ | refine jw KL74 [] TF74 fun _ => ?_)
  refine Run_ret ?_
  simp only [Rets, RetM, resV, fnd, oneOr, ↓reduceIte]
  refine ⟨p0, _, rfl, loadVar_at (by kernel_rfl) (by rw [cells24]; decide) (by rw [cells24]; rfl) rC.at_, p1, _, rfl, loadVar_at (by kernel_rfl) (by rw [cells28]; decide) (by rw [cells28]; rfl) rD.at_, pa, pb, pr, pl, ua, ub, rfl, ?_, gA.keep kk (by refine ⟨?_, ?_, ?_, ?_, ?_, ?_⟩ <;> constructor <;> omega), by omega⟩
  exact Keep.ext (Keep.ext (h1.ext.trans (h2.ext.trans xB)) k7 fun b hb => by show b ≠ p2.block; omega) ((Keep.of_ext xA).trans kk) fun b hb => ⟨by omega, by omega⟩
end Go.Proofs.YtoadfmgnpmcbfaaGreat
/- Chapter 41: the examples. -/
namespace Go.Proofs.YtoadfmgnpmcbfaaGreat
open Go Go.Fk
set_option linter.unusedSimpArgs false
set_option linter.unusedVariables false
set_option maxRecDepth 100000
theorem int41 {w : World} {n : Int} {K : Value → World → Prop} (hn : I64 n) (hK : ∀ v w', Ext w w' → Sl w' v [n] → K v w') : SemW Tryz.prog (Instr.buildSlice 25 1 #[(0, .int .i64 n)]) w K :=
  SemW_lit (α := Int) Tryz.underlying25 ti3 rfl (by decide) [_] [n] rfl rfl (Cs.one ⟨rfl, hn⟩) (by show 1 * 1 ≤ 16777216; decide) fun v w' s x => hK v w' x s
theorem moves41 {w : World} {K : Value → World → Prop} (vs : List Value) (xs : List MoveD) {parts : Array (Nat × Value)} {n : Nat} (hp : parts.toList = vs.zipIdx.map fun p => (p.2, p.1)) (hn : n = vs.length) (hv : vs = xs.map fun m => .agg m.cs.toArray) (hI : ∀ m ∈ xs, MoveD.I m) (hs : n ≤ 1000)
    (hK : ∀ v w', Ext w w' → Sl w' v xs → K v w') : SemW Tryz.prog (Instr.buildSlice 35 n parts) w K :=
  SemW_buildF (α := MoveD) (W := w) Tryz.underlying35 ti70 rfl (by decide) (Ext.refl _) vs xs hp hn (by subst hv; exact ⟨by simp, fun i h1 h2 => by simp [Value.cells]; exact ⟨rfl, hI _ (List.getElem_mem h2)⟩⟩) (by show n * 6 ≤ _; omega) fun p w' _ hs hx => hK _ w' hx hs
theorem one41W {w : World} {K : Value → World → Prop} (hK : ∀ pa pb pr pl ua ub w', Ext w w' → OneR w' pa pb pr pl ua ub 10 → w.heap.size ≤ ua.block → K (.tuple #[.agg #[.int .i64 3, .slice (some pl) 1 1], .agg #[.slice (some ua) 1 1, .slice (some ub) 1 1, .slice none 0 0]]) w') : CallW Tryz.prog (.func (.func 74) #[] #[]) [] w K :=
  CallW_gen call74 (one41 w) fun e w' ⟨pa, pb, pr, pl, ua, ub, he, x, h, hu⟩ => ⟨_, he, hK pa pb pr pl ua ub w' x h hu⟩
/-- where all that the examples need lies -/
structure SaR (w : World) (p0 p1 p2 po pq pg ph pa pb pr pl ua ub : Addr) (x : Int) : Prop where
  o : OneR w pa pb pr pl ua ub x
  t : Row w p0 24 [.int .i64 3, .slice (some pl) 1 1]
  f : Row w p1 28 [.slice (some ua) 1 1, .slice (some ub) 1 1, .slice none 0 0]
  p : Row w p2 32 [.slice (some pq) 1 1, .slice (some pg) 1 1, .slice (some ph) 1 1]
  ro : Row w po 58 (eO.cs (.slice none 0 0))
  rq : Row w pq 54 [.int .i64 0, .int .i64 10, .int .i64 21]
  rg : Row w pg 3 (eP.Of.map fun x => .int .i64 x)
  rh : Row w ph 3 (eP.Covers.map fun x => .int .i64 x)
  ne : p0.block ≠ ua.block ∧ p1.block ≠ ua.block ∧ p2.block ≠ ua.block ∧ po.block ≠ ua.block ∧ pq.block ≠ ua.block ∧ pg.block ≠ ua.block ∧ ph.block ≠ ua.block
section
variable {w w' : World} {p0 p1 p2 po pq pg ph pa pb pr pl ua ub : Addr} {x : Int}
theorem SaR.ext (h : SaR w p0 p1 p2 po pq pg ph pa pb pr pl ua ub x) (e : Ext w w') : SaR w' p0 p1 p2 po pq pg ph pa pb pr pl ua ub x := ⟨h.o.ext e, h.t.ext e, h.f.ext e, h.p.ext e, h.ro.ext e, h.rq.ext e, h.rg.ext e, h.rh.ext e, h.ne⟩
theorem SaR.put (h : SaR w p0 p1 p2 po pq pg ph pa pb pr pl ua ub x) {y : Int} (hu : Row w' ua 3 [.int .i64 y]) (k : Keep (fun b => b ≠ ua.block) w w') : SaR w' p0 p1 p2 po pq pg ph pa pb pr pl ua ub y :=
  ⟨h.o.put hu k, h.t.keep k h.ne.1, h.f.keep k h.ne.2.1, h.p.keep k h.ne.2.2.1, h.ro.keep k h.ne.2.2.2.1, h.rq.keep k h.ne.2.2.2.2.1, h.rg.keep k h.ne.2.2.2.2.2.1, h.rh.keep k h.ne.2.2.2.2.2.2, h.ne⟩
theorem SaR.sl (h : SaR w p0 p1 p2 po pq pg ph pa pb pr pl ua ub x) : Sl w (.slice (some po) 1 1) [eO] :=
  Sl.of_row (css := [_]) h.ro (Cs.one (OrdR.rep (x := eO) (v0 := .slice none 0 0) ⟨by simp [eO, I64], by simp [eO, I64], by simp [eO, I64], by simp [eO, I64], by simp [eO, I64], by simp [eO, I64], by simp [eO, I64], by simp [eO, I64], Sl.nil _, by simp [eO, I64]⟩)) rfl (by decide)
theorem SaR.sp (h : SaR w p0 p1 p2 po pq pg ph pa pb pr pl ua ub x) : PlanR w eP (.slice (some pq) 1 1) (.slice (some pg) 1 1) (.slice (some ph) 1 1) :=
  ⟨Sl.of_row (css := [_]) h.rq (Cs.one ⟨rfl, by simp [I64], by simp [I64], by simp [I64]⟩) rfl (by decide), ints41 eP.Of pg (by decide) (by decide) h.rg, ints41 eP.Covers ph (by decide) (by decide) h.rh⟩
theorem SaR.n (h : SaR w p0 p1 p2 po pq pg ph pa pb pr pl ua ub x) : type_of% (And.intro h.t.n (And.intro h.f.n (And.intro h.p.n h.o.fa.n))) := And.intro h.t.n (And.intro h.f.n (And.intro h.p.n h.o.fa.n))
end
set_option maxHeartbeats 4000000 in
theorem lawSane41 (w : World) : Calls Tryz.prog 34 #[] w fun e w' => e = .returned (.bool true) ∧ Ext w w' := by
  refine Calls_of_Run (args := []) (n := 131) (rs := [.tmp 0]) Tryz.func34 rfl rfl rfl (by simp) ?_
  (repeat with_reducible first | refine js ?_ | refine ja ?_ | refine jw KL34 [] TF34 fun _ => ?_)
  refine one41W fun pa pb pr pl ua ub w1 x1 h1 hua0 => ?_
  (try simp (maxSteps := 5000000) only [KS, Nat.reduceAdd, Nat.reduceMul, Nat.reduceEqDiff, ↓reduceIte, forall_const, Int.cast_ofNat_Int, Int.reduceToNat, List.take_succ_cons, List.take_zero, List.drop_succ_cons, List.drop_zero, TF34, KL34]); (try simp (disch := omega) only [wrapI, tmodI, tdivI])
  refine ⟨by decide, by decide, ?_⟩
  refine SemW_allocT ti24 fun p0 w2 n2 => SemW_allocT ti28 fun p1 w3 n3 => ?_
  have b2 := n2.blk
  have b3 := n3.blk
  have s1 := x1.size
  have s2 := n2.size
  have s3 := n3.size
  refine SemW_setW (by rw [cells24]; decide) (by rw [cells24]; rfl) (n2.row.ext n3.ext) (by rw [cells24]; rfl) rfl fun w4 r4 k4 z4 => ?_
  have r4 : Row w4 p0 24 [.int .i64 3, .slice (some pl) 1 1] := r4
  refine SemW_setW (by rw [cells28]; decide) (by rw [cells28]; rfl) (n3.row.keep k4 (by show p1.block ≠ p0.block; omega)) (by rw [cells28]; rfl) rfl fun w5 r5 k5 z5 => ?_
  have r5 : Row w5 p1 28 [.slice (some ua) 1 1, .slice (some ub) 1 1, .slice none 0 0] := r5
  have r4 := r4.keep k5 (by show p0.block ≠ p1.block; omega)
  have x5 : Ext w1 w5 := Keep.ext (Keep.ext (n2.ext.trans n3.ext) k4 fun b hb => by show b ≠ p0.block; omega) k5 fun b hb => by show b ≠ p1.block; omega
  have h5 := h1.ext x5
  (repeat with_reducible first | refine js ?_ | refine ja ?_ | refine jw KL34 [] TF34 fun _ => ?_)
  refine ⟨.agg (eO.cs (.slice none 0 0)).toArray, fun _ => by kernel_rfl, ?_⟩
  refine SemW_buildSlice (vs := [.agg (eO.cs (.slice none 0 0)).toArray]) Tryz.underlying29 ti58 rfl rfl rfl (by simp [Value.cells, OrderD.cs]) (by show 1 * 11 ≤ 16777216; decide) fun po w6 n6 => ?_
  (repeat with_reducible first | refine js ?_ | refine ja ?_ | refine jw KL34 [] TF34 fun _ => ?_)
  refine ⟨.agg #[.int .i64 0, .int .i64 10, .int .i64 21], fun _ => by kernel_rfl, ?_⟩
  refine SemW_buildSlice (vs := [.agg #[.int .i64 0, .int .i64 10, .int .i64 21]]) Tryz.underlying30 ti54 rfl rfl rfl (by simp [Value.cells]) (by decide) fun pq w7 n7 => ?_
  refine SemW_buildSlice (vs := eP.Of.map fun x => .int .i64 x) Tryz.underlying25 ti3 rfl rfl rfl (by simp [eP, Value.cells]) (by decide) fun pg w8 n8 => ?_
  refine SemW_buildSlice (vs := eP.Covers.map fun x => .int .i64 x) Tryz.underlying25 ti3 rfl rfl rfl (by simp [eP, Value.cells]) (by decide) fun ph w9 n9 => ?_
  refine ⟨.agg (eP.cs (.slice (some pq) 1 1) (.slice (some pg) 1 1) (.slice (some ph) 1 1)).toArray, fun _ => by kernel_rfl, ?_⟩
  refine SemW_allocT ti32 fun p2 w10 n10 => ?_
  have b6 := n6.blk
  have b7 := n7.blk
  have b8 := n8.blk
  have b9 := n9.blk
  have b10 := n10.blk
  have s5 := x5.size
  have s6 := n6.size
  have s7 := n7.size
  have s8 := n8.size
  have s9 := n9.size
  refine SemW_setW (by rw [cells32]; decide) (by rw [cells32]; rfl) n10.row (by rw [cells32]; rfl) rfl fun w11 r11 k11 z11 => ?_
  have r11 : Row w11 p2 32 [.slice (some pq) 1 1, .slice (some pg) 1 1, .slice (some ph) 1 1] := r11
  have x79 := n7.ext.trans (n8.ext.trans (n9.ext.trans n10.ext))
  have ro := (n6.row.ext x79).keep k11 (by show po.block ≠ p2.block; omega)
  have rq := (n7.row.ext (n8.ext.trans (n9.ext.trans n10.ext))).keep k11 (by show pq.block ≠ p2.block; omega)
  have rg := (n8.row.ext (n9.ext.trans n10.ext)).keep k11 (by show pg.block ≠ p2.block; omega)
  have rh := (n9.row.ext n10.ext).keep k11 (by show ph.block ≠ p2.block; omega)
  have x11 : Ext w5 w11 := Keep.ext (n6.ext.trans x79) k11 fun b hb => by show b ≠ p2.block; omega
  have uaL := h1.fa.lt
  have hua : p0.block ≠ ua.block ∧ p1.block ≠ ua.block ∧ p2.block ≠ ua.block ∧ po.block ≠ ua.block ∧ pq.block ≠ ua.block ∧ pg.block ≠ ua.block ∧ ph.block ≠ ua.block := by omega
  have W11 : SaR w11 p0 p1 p2 po pq pg ph pa pb pr pl ua ub 10 := ⟨h5.ext x11, r4.ext x11, r5.ext x11, r11, ro, rq, rg, rh, hua⟩
  have y11 := x1.trans (x5.trans x11)
  clear r4 r5 r11 ro rq rg rh n2 n3 n6 n7 n8 n9 n10 k4 k5 k11 x79 h1 h5 x1 x5 x11
  clear z4 z5 z11 b2 b3 b6 b7 b8 b9 b10 s1 s2 s3 s5 s6 s7 s8 s9 uaL hua
  have g11 := W11.n
  simp only [AtN, KS, Nat.reduceAdd, Nat.reduceMul, Nat.reduceEqDiff, ↓reduceIte, UT] at g11
  (repeat with_reducible first | refine js ?_ | refine ja ?_ | refine jw KL34 [] (aa TF34 g11) fun _ => ?_)
  refine int41 (n := 2) (by simp [I64]) fun vh12 w12 x12 sh12 => ?_
  have W12 := W11.ext x12
  refine allWO (t := eT) (f := eF 10) (l := [eO]) (p := eP) ek1 W12.o.t (W12.o.f (by simp [I64])) W12.sl W12.sp sh12 (by decide) (by decide) fun vm13 w13 x13 sm13 => ?_
  have W13 := W12.ext x13
  have g13 := W13.n
  simp only [AtN, KS, Nat.reduceAdd, Nat.reduceMul, Nat.reduceEqDiff, ↓reduceIte, UT] at g13
  (try simp (maxSteps := 5000000) only [KS, Nat.reduceAdd, Nat.reduceMul, Nat.reduceEqDiff, ↓reduceIte, forall_const, Int.cast_ofNat_Int, Int.reduceToNat, List.take_succ_cons, List.take_zero, List.drop_succ_cons, List.drop_zero, TF34, KL34]); (try simp (disch := omega) only [wrapI, tmodI, tdivI])
  refine ⟨by decide, by decide, ?_⟩
  (repeat with_reducible first | refine js ?_ | refine ja ?_ | refine jw KL34 [] (aa TF34 g13) fun _ => ?_)
  refine int41 (n := 0) (by simp [I64]) fun vh14 w14 x14 sh14 => ?_
  have W14 := W13.ext x14
  refine allWO (t := eT) (f := eF 10) (l := [eO]) (p := eP) ek2 W14.o.t (W14.o.f (by simp [I64])) W14.sl W14.sp sh14 (by decide) (by decide) fun vm15 w15 x15 sm15 => ?_
  have W15 := W14.ext x15
  have g15 := W15.n
  simp only [AtN, KS, Nat.reduceAdd, Nat.reduceMul, Nat.reduceEqDiff, ↓reduceIte, UT] at g15
  (try simp (maxSteps := 5000000) only [KS, Nat.reduceAdd, Nat.reduceMul, Nat.reduceEqDiff, ↓reduceIte, forall_const, Int.cast_ofNat_Int, Int.reduceToNat, List.take_succ_cons, List.take_zero, List.drop_succ_cons, List.drop_zero, TF34, KL34]); (try simp (disch := omega) only [wrapI, tmodI, tdivI])
  refine ⟨by decide, by decide, ?_⟩
  (repeat with_reducible first | refine js ?_ | refine ja ?_ | refine jw KL34 [] (aa TF34 g15) fun _ => ?_)
  have N : ∀ w', PlanR w' eP0 (.slice none 0 0) (.slice none 0 0) (.slice none 0 0) := fun w' => ⟨Sl.nil _, Sl.nil _, Sl.nil _⟩
  refine ⟨.agg #[.int .i64 0, .slice none 0 0], fun _ => by kernel_rfl, ?_⟩
  refine ⟨.agg #[.slice none 0 0, .slice none 0 0, .slice none 0 0], fun _ => by kernel_rfl, ?_⟩
  refine allW (t := eT0) (f := eF 10) (l := []) (p := eP0) ek3 (Sl.nil _) (W15.o.f (by simp [I64])) (Sl.nil _) (N _) (Sl.nil _) (by decide) (by decide) fun vm17 w17 x17 sm17 => ?_
  have W17 := W15.ext x17
  have g17 := W17.n
  simp only [AtN, KS, Nat.reduceAdd, Nat.reduceMul, Nat.reduceEqDiff, ↓reduceIte, UT] at g17
  (try simp (maxSteps := 5000000) only [KS, Nat.reduceAdd, Nat.reduceMul, Nat.reduceEqDiff, ↓reduceIte, forall_const, Int.cast_ofNat_Int, Int.reduceToNat, List.take_succ_cons, List.take_zero, List.drop_succ_cons, List.drop_zero, TF34, KL34]); (try simp (disch := omega) only [wrapI, tmodI, tdivI])
  refine ⟨by decide, by decide, ?_⟩
  (repeat with_reducible first | refine js ?_ | refine ja ?_ | refine jw KL34 [] (aa TF34 g17) fun _ => ?_)
  refine ⟨.agg #[.int .i64 0, .slice none 0 0], fun _ => by kernel_rfl, ?_⟩
  refine ⟨.agg #[.slice none 0 0, .slice none 0 0, .slice none 0 0], fun _ => by kernel_rfl, ?_⟩
  refine int41 (n := 0) (by simp [I64]) fun vh18 w18 x18 sh18 => ?_
  have W18 := W17.ext x18
  refine allW (t := eT0) (f := eF 10) (l := []) (p := eP0) ek4 (Sl.nil _) (W18.o.f (by simp [I64])) (Sl.nil _) (N _) sh18 (by decide) (by decide) fun vm19 w19 x19 sm19 => ?_
  have W19 := W18.ext x19
  have g19 := W19.n
  simp only [AtN, KS, Nat.reduceAdd, Nat.reduceMul, Nat.reduceEqDiff, ↓reduceIte, UT] at g19
  (try simp (maxSteps := 5000000) only [KS, Nat.reduceAdd, Nat.reduceMul, Nat.reduceEqDiff, ↓reduceIte, forall_const, Int.cast_ofNat_Int, Int.reduceToNat, List.take_succ_cons, List.take_zero, List.drop_succ_cons, List.drop_zero, TF34, KL34]); (try simp (disch := omega) only [wrapI, tmodI, tdivI])
  refine ⟨by decide, by decide, ?_⟩
  (repeat with_reducible first | refine js ?_ | refine ja ?_ | refine jw KL34 [] (aa TF34 g19) fun _ => ?_)
  refine int41 (n := 3) (by simp [I64]) fun vh20 w20 x20 sh20 => ?_
  have W20 := W19.ext x20
  refine allW (t := eT) (f := eF 10) (l := [eO]) (p := eP) ek5 W20.o.t (W20.o.f (by simp [I64])) W20.sl W20.sp sh20 (by decide) (by decide) fun vm21 w21 x21 sm21 => ?_
  have W21 := W20.ext x21
  have g21 := W21.n
  simp only [AtN, KS, Nat.reduceAdd, Nat.reduceMul, Nat.reduceEqDiff, ↓reduceIte, UT] at g21
  (try simp (maxSteps := 5000000) only [KS, Nat.reduceAdd, Nat.reduceMul, Nat.reduceEqDiff, ↓reduceIte, forall_const, Int.cast_ofNat_Int, Int.reduceToNat, List.take_succ_cons, List.take_zero, List.drop_succ_cons, List.drop_zero, TF34, KL34]); (try simp (disch := omega) only [wrapI, tmodI, tdivI])
  refine ⟨by decide, by decide, ?_⟩
  (repeat with_reducible first | refine js ?_ | refine ja ?_ | refine jw KL34 [] (aa TF34 g21) fun _ => ?_)
  have x1321 : Ext w13 w21 := x14.trans (x15.trans (x17.trans (x18.trans (x19.trans (x20.trans x21)))))
  have x1521 : Ext w15 w21 := x17.trans (x18.trans (x19.trans (x20.trans x21)))
  have B13 := sm13.keepQ (Keep.of_ext (S := fun _ => True) x1321) fun _ _ => trivial
  have B15 := sm15.keepQ (Keep.of_ext (S := fun _ => True) x1521) fun _ _ => trivial
  have L12 := W12.o.fa.lt
  have L14 := W14.o.fa.lt
  have y21 : Ext w11 w21 := x12.trans (x13.trans x1321)
  have e17 := sm17.len
  have s17 := sm17.s
  refine setW0 (by rw [cells3]) W21.o.fa (by simp) rfl rfl fun w22 r22 k22 z22 => ?_
  have W22 := W21.put r22 k22
  have B13 := B13.keepQ k22 fun g hg => by have := (B13.own_lt hg).1; omega
  have B15 := B15.keepQ k22 fun g hg => by have := (B15.own_lt hg).1; omega
  have hua : w.heap.size ≤ ua.block := hua0
  have y22 : Ext w w22 := Keep.ext (y11.trans y21) k22 fun b hb => by omega
  have g22 := W22.n
  simp only [AtN, KS, Nat.reduceAdd, Nat.reduceMul, Nat.reduceEqDiff, ↓reduceIte, UT] at g22
  (repeat with_reducible first | refine js ?_ | refine ja ?_ | refine jw KL34 [] (aa TF34 g22) fun _ => ?_)
  refine int41 (n := 2) (by simp [I64]) fun vh23 w23 x23 sh23 => ?_
  have W23 := W22.ext x23
  refine allW (t := eT) (f := eF 0) (l := [eO]) (p := eP) ek6 W23.o.t (W23.o.f (by simp [I64])) W23.sl W23.sp sh23 (by decide) (by decide) fun vm24 w24 x24 sm24 => ?_
  (try simp (maxSteps := 5000000) only [KS, Nat.reduceAdd, Nat.reduceMul, Nat.reduceEqDiff, ↓reduceIte, forall_const, Int.cast_ofNat_Int, Int.reduceToNat, List.take_succ_cons, List.take_zero, List.drop_succ_cons, List.drop_zero, TF34, KL34]); (try simp (disch := omega) only [wrapI, tmodI, tdivI])
  refine ⟨by decide, by decide, ?_⟩
  (repeat with_reducible first | refine js ?_ | refine ja ?_ | refine jw KL34 [] (aa TF34 (aa s17 (aa e17 (aa @beq_self_eq_true.{0} KX)))) fun _ => ?_)
  refine Run_condS (fun _ => rfl) (fun h => ?_) (fun h => ?_)
  · exact absurd h (by decide)
  clear h
  (repeat with_reducible first | refine js ?_ | refine ja ?_ | refine jw KL34 [] TF34 fun _ => ?_)
  refine ⟨.agg (eWant.getD 0 default).cs.toArray, fun _ => by kernel_rfl, ?_⟩
  refine ⟨.agg (eWant.getD 1 default).cs.toArray, fun _ => by kernel_rfl, ?_⟩
  refine ⟨.agg (eWant.getD 2 default).cs.toArray, fun _ => by kernel_rfl, ?_⟩
  refine ⟨.agg (eWant.getD 3 default).cs.toArray, fun _ => by kernel_rfl, ?_⟩
  refine ⟨.agg (eWant.getD 4 default).cs.toArray, fun _ => by kernel_rfl, ?_⟩
  refine ⟨.agg (eWant.getD 5 default).cs.toArray, fun _ => by kernel_rfl, ?_⟩
  refine ⟨.agg (eWant.getD 6 default).cs.toArray, fun _ => by kernel_rfl, ?_⟩
  refine moves41 (eWant.map fun m => .agg m.cs.toArray) eWant rfl rfl rfl (by simp [eWant, MoveD.I, I64]) (by decide) fun vw w25 x25 sw => ?_
  (repeat with_reducible first | refine js ?_ | refine ja ?_ | refine jw KL34 [] TF34 fun _ => ?_)
  refine ⟨.agg (eBack.getD 0 default).cs.toArray, fun _ => by kernel_rfl, ?_⟩
  refine ⟨.agg (eBack.getD 1 default).cs.toArray, fun _ => by kernel_rfl, ?_⟩
  refine ⟨.agg (eBack.getD 2 default).cs.toArray, fun _ => by kernel_rfl, ?_⟩
  refine moves41 (eBack.map fun m => .agg m.cs.toArray) eBack rfl rfl rfl (by simp [eBack, MoveD.I, I64]) (by decide) fun vb w26 x26 sb => ?_
  have x2226 : Ext w22 w26 := x23.trans (x24.trans (x25.trans x26))
  have S13 := (B13.keepQ (Keep.of_ext (S := fun _ => True) x2226) fun _ _ => trivial).sl (by decide)
  have S15 := (B15.keepQ (Keep.of_ext (S := fun _ => True) x2226) fun _ _ => trivial).sl (by decide)
  (repeat with_reducible first | refine js ?_ | refine ja ?_ | refine jw KL34 [] TF34 fun _ => ?_)
  refine same41W (b := true) (by decide) S13 (sw.ext x26) fun w27 x27 => ?_
  (repeat with_reducible first | refine js ?_ | refine ja ?_ | refine jw KL34 [] (aa TF34 KX) fun _ => ?_)
  refine .inl (same41W (b := true) (by decide) (S15.ext x27) (sb.ext x27) fun w28 x28 => ?_)
  unfold hush
  (repeat with_reducible first | refine js ?_ | refine ja ?_ | refine jw KL34 [] (aa TF34 KX) fun _ => ?_)
  refine Run_ret ?_
  simp [Rets, RetM, resV, fnd, oneOr]
  exact y22.trans (x2226.trans (x27.trans x28))
theorem sane41W {w : World} {K : Value → World → Prop} (hK : ∀ w', Ext w w' → K (.bool true) w') : CallW Tryz.prog (.func (.func 34) #[] #[]) [] w K :=
  CallW_pure call34 (lawSane41 w) hK
end Go.Proofs.YtoadfmgnpmcbfaaGreat
