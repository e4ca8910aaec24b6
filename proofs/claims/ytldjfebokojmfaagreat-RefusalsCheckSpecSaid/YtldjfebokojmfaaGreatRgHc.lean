import Derived.Test.YtldjfebokojmfaaGreatRgW23h
import Derived.Test.YtldjfebokojmfaaGreatRgHe
import Derived.Test.YtldjfebokojmfaaGreatRgGu
namespace Go.Proofs.YtldjfebokojmfaaGreat
open Go Go.Fk
set_option linter.unusedSimpArgs false
set_option linter.unusedVariables false
set_option maxRecDepth 100000
def e23L : LineD := ⟨[0, 1], [10], 1, 3, [⟨5, 6, 1⟩], []⟩
def e23T : TimeD := ⟨3, [e23L]⟩
def e23F : TariffD := ⟨[0], [0], []⟩
def e23O (n : Int) : OrderD := { From := 0, Person := 0, Dest := 1, Class := 0, After := 0, By := 20, Crowd := n, Pay := 0, Against := [], Back := false, Else := 0 }
def e23far : OrderD := { From := 0, Person := 0, Dest := 2, Class := 0, After := 0, By := 20, Crowd := 1, Pay := 0, Against := [], Back := false, Else := 0 }
def e23z : OrderD := { From := 0, Person := 0, Dest := 0, Class := 0, After := 0, By := 0, Crowd := 0, Pay := 0, Against := [], Back := false, Else := 0 }
def e23run : RunD := ⟨0, 5, 15⟩
def e23deep : Nat → RefusalD
  | 0 => .mk (-1) [] 1 e23run
  | n + 1 => .mk (3 - n) [e23deep n] 0 Rf.zeroR
theorem g23_1 : Rf.least e23T e23F [] 0 = ([], Rf.noRef, false, 0) := by kernel_rfl
theorem g23_2 : Rf.least e23T e23F [] (-1) = ([], Rf.covLeaf, true, 0) := by kernel_rfl
theorem g23_3 : Rf.least e23T e23F [e23O 2] 1 = ([0], .mk 0 [Rf.covLeaf] 0 Rf.zeroR, true, 0) := by kernel_rfl
theorem g23_4 : Rf.least e23T e23F [e23O 2] 2 = ([], Rf.noRef, false, 0) := by kernel_rfl
theorem g23_5 : Rf.least e23T e23F [e23O 1, e23O 1, e23O 1, e23O 1] 9 = ([0, 1, 2, 3], e23deep 4, true, 0) := by kernel_rfl
theorem g23_6 : Rf.least e23T e23F [e23O 1, e23far] 9 = ([1], Rf.noRef, true, 0) := by kernel_rfl
theorem g23_7 : Rf.least e23T e23F [e23z] 0 = ([], Rf.noRef, false, 220) := by kernel_rfl
theorem g23_8 : Rf.check e23T e23F [e23O 1, e23O 1, e23O 1, e23O 1] 9 (e23deep 4) = (true, 0) := by kernel_rfl
theorem g23_9 : Rf.check e23T e23F [e23O 1, e23O 1, e23O 1] 9 (e23deep 4) = (false, 0) := by kernel_rfl
section
variable {vl u0 u1 u2 vo u va vb : Value} {t : TimeD} {f : TariffD} {l : List OrderD} {p : RefusalD} {covers : Int} {w : World} {K : Value → World → Prop}
theorem leastW (hl : Sl w vl t.Lines) (hT : TarR w f u0 u1 u2) (ho : Sl w vo l) (hcv : I64 covers) {q : List Int × RefusalD × Bool × Int} (h : Rf.least t f l covers = q) (hK : ∀ vc v w', Ext w w' → Sl w' vc q.1 → RefR (fun _ => True) w' (q.2.1.cs v) q.2.1 → K (.tuple #[vc, .agg (q.2.1.cs v).toArray, .bool q.2.2.1, .int .i64 q.2.2.2]) w') :
    CallW Tryz.prog (.func (.func 7) #[] #[]) [.agg #[.int .i64 t.Offices, vl], .agg #[u0, u1, u2], vo, .int .i64 covers] w K := by
  subst h
  exact CallW_gen call7 (rsLeast vl u0 u1 u2 vo t f l covers w hl hT ho hcv) fun e w' ⟨vc, v, he, x, h1, h2⟩ => ⟨_, he, hK vc v w' x h1 h2⟩
theorem checkW (hl : Sl w vl t.Lines) (hT : TarR w f u0 u1 u2) (ho : Sl w vo l) (io : I64 p.o) (iw : I64 p.why) (ir : RunJ p.run) (hk : Sl w u p.kids) {q : Bool × Int} (h : Rf.check t f l covers p = q) (hK : ∀ w', Ext w w' → K (.tuple #[.bool q.1, .int .i64 q.2]) w') :
    CallW Tryz.prog (.func (.func 12) #[] #[]) [.agg #[.int .i64 t.Offices, vl], .agg #[u0, u1, u2], vo, .int .i64 covers, .agg #[.int .i64 p.o, u, .int .i64 p.why, .int .i64 p.run.Line, .int .i64 p.run.At, .int .i64 p.run.Arrive]] w K := by
  subst h
  exact CallW_pure call12 (rsCheck vl u0 u1 u2 vo u t f l covers p w hl hT ho io iw ir hk) hK
theorem sameW (ha : Sl w va p.kids) (hb : Sl w vb p.kids) (hK : ∀ w', Ext w w' → K (.bool true) w') :
    CallW Tryz.prog (.func (.func 10) #[] #[]) [.agg #[.int .i64 p.o, va, .int .i64 p.why, .int .i64 p.run.Line, .int .i64 p.run.At, .int .i64 p.run.Arrive], .agg #[.int .i64 p.o, vb, .int .i64 p.why, .int .i64 p.run.Line, .int .i64 p.run.At, .int .i64 p.run.Arrive]] w K :=
  CallW_pure call10 (rgSame (SizeOf.sizeOf p) p va vb w (Nat.le_refl _) ha hb) hK
def RV (w : World) (q : Addr) (x : RefusalD) : Prop := ∃ v, Row w q 36 (x.cs v) ∧ RefR (fun _ => True) w (x.cs v) x
theorem RV.ext {w w' : World} {q : Addr} {x : RefusalD} (h : RV w q x) (k : Ext w w') : RV w' q x := by
  obtain ⟨v, h1, h2⟩ := h
  exact ⟨v, h1.ext k, h2.ext k⟩
theorem RV.n {w : World} {q : Addr} {x : RefusalD} (h : RV w q x) : ∃ v, AtN w q 0 (x.cs v) ∧ I64 x.o ∧ I64 x.why ∧ RunJ x.run ∧ Sl w v x.kids := by
  obtain ⟨v, h1, h2⟩ := h
  obtain ⟨v', e, a, b, c, d⟩ := h2.op
  have : v = v' := by simpa [RefusalD.cs] using e
  subst this
  exact ⟨v, h1.n, a, b, c, d⟩
theorem refVar {x : RefusalD} {v : Value} (h : RefR (fun _ => True) w (x.cs v) x) (hK : ∀ q w', Ext w w' → RV w' q x → K (.pointer (some q)) w') :
    SemW Tryz.prog (Instr.alloc 36 true (.tuple #[])) w (fun q w' => SemW Tryz.prog (Instr.storeAt 36 q (.agg (x.cs v).toArray)) w' fun _ w'' => K q w'') := by
  refine SemW_allocT ti36 fun q w1 h1 => ?_
  refine SemW_setW (by rw [cells36]; decide) (by rw [cells36]; rfl) h1.row (by rw [cells36]; rfl) (by simpa [Value.cells] using h.one) fun w2 r2 k2 z2 => ?_
  have r2 : Row w2 q 36 (x.cs v) := by simpa [Value.cells] using r2
  have x2 : Ext w w2 := extKeep h1.ext k2 (by have := h1.blk; omega)
  exact hK q w2 x2 ⟨v, r2, h.ext x2⟩
end
set_option maxHeartbeats 1000000 in
theorem lwTable23 (w : World) : Calls Tryz.prog 14 #[] w fun e w' => ∃ vl u0 u1, e = .returned (.tuple #[.agg (e23T.cs vl).toArray, .agg (e23F.cs u0 u1 (.slice none 0 0)).toArray]) ∧ Ext w w' ∧ Sl w' vl e23T.Lines ∧ TarR w' e23F u0 u1 (.slice none 0 0) := by
  refine Calls_of_Run (args := []) (n := 14) (rs := [.cell 0 24, .cell 1 28]) Tryz.func14 rfl rfl rfl (by simp) ?_
  (repeat with_reducible first | refine jy ?_ | refine jw KL14 [] TF14 fun _ => ?_)
  refine SemW_allocT ti24 fun p0 w1 h1 => SemW_allocT ti28 fun p1 w2 h2 => ?_
  (repeat with_reducible first | refine jy ?_ | refine jw KL14 [] TF14 fun _ => ?_)
  refine SemW_buildSlice (vs := e23L.Offices.map fun x => .int .i64 x) Tryz.underlying25 ti3 rfl rfl rfl (by decide) (by decide) fun pa w4 h4 => ?_
  refine SemW_buildSlice (vs := e23L.Legs.map fun x => .int .i64 x) Tryz.underlying25 ti3 rfl rfl rfl (by decide) (by decide) fun pb w5 h5 => ?_
  refine ⟨.agg #[.int .i64 5, .int .i64 6, .int .i64 1], fun _ => by kernel_rfl, ?_⟩
  refine SemW_buildSlice (vs := [.agg #[.int .i64 5, .int .i64 6, .int .i64 1]]) Tryz.underlying79 ti78 rfl rfl rfl (by simp [Value.cells]) (by decide) fun pr w6 h6 => ?_
  refine ⟨.agg (e23L.cs (.slice (some pa) 2 2) (.slice (some pb) 1 1) (.slice (some pr) 1 1) (.slice none 0 0)).toArray, fun _ => by kernel_rfl, ?_⟩
  refine SemW_allocT ti82 fun p3 w7 h7 => ?_
  have b1 := h1.blk
  have b2 := h2.blk
  have b4 := h4.blk
  have b5 := h5.blk
  have b6 := h6.blk
  have b7 := h7.blk
  have s1 := h1.size
  have s2 := h2.size
  have s4 := h4.size
  have s5 := h5.size
  have s6 := h6.size
  have s7 := h7.size
  (repeat with_reducible first | refine jy ?_ | refine jw KL14 [] TF14 fun _ => ?_)
  refine SemW_setW (by rw [cells82]; decide) (by rw [cells82]; rfl) h7.row (by rw [cells82]; rfl) rfl fun w8 r8 k8 z8 => ?_
  have r8 : Row w8 p3 82 (e23L.cs (.slice (some pa) 2 2) (.slice (some pb) 1 1) (.slice (some pr) 1 1) (.slice none 0 0)) := r8
  have x68 : Ext w6 w8 := Keep.ext h7.ext k8 fun b hb => by omega
  have r8n := r8.n
  simp only [LineD.cs, AtN, KS, Nat.reduceAdd, Nat.reduceMul, Nat.reduceEqDiff, ↓reduceIte, UT] at r8n
  (repeat with_reducible first | refine jy ?_ | refine jw KL14 [] (aa TF14 r8n) fun _ => ?_)
  refine SemW_buildSlice (vs := [.agg (e23L.cs (.slice (some pa) 2 2) (.slice (some pb) 1 1) (.slice (some pr) 1 1) (.slice none 0 0)).toArray]) Tryz.underlying22 ti82 rfl rfl rfl (by simp [Value.cells, LineD.cs]) (by show 1 * 6 ≤ 16777216; decide) fun pl w9 h9 => ?_
  refine ⟨.agg (e23T.cs (.slice (some pl) 1 1)).toArray, fun _ => by kernel_rfl, ?_⟩
  refine SemW_buildSlice (vs := e23F.Base.map fun x => .int .i64 x) Tryz.underlying25 ti3 rfl rfl rfl (by decide) (by decide) fun pc w10 h10 => ?_
  refine SemW_buildSlice (vs := e23F.Leg.map fun x => .int .i64 x) Tryz.underlying25 ti3 rfl rfl rfl (by decide) (by decide) fun pd w11 h11 => ?_
  refine ⟨.agg (e23F.cs (.slice (some pc) 1 1) (.slice (some pd) 1 1) (.slice none 0 0)).toArray, fun _ => by kernel_rfl, ?_⟩
  have b9 := h9.blk
  have b10 := h10.blk
  have b11 := h11.blk
  have s9 := h9.size
  have s10 := h10.size
  have s68 := x68.size
  have x611 := x68.trans (h9.ext.trans (h10.ext.trans h11.ext))
  have x211 := h4.ext.trans (h5.ext.trans (h6.ext.trans x611))
  have s211 := x211.size
  refine SemW_setW (by rw [cells24]; decide) (by rw [cells24]; rfl) (h1.row.ext (h2.ext.trans x211)) (by rw [cells24]; rfl) rfl fun wA rA kA zA => ?_
  have rA : Row wA p0 24 (e23T.cs (.slice (some pl) 1 1)) := rA
  refine SemW_setW (by rw [cells28]; decide) (by rw [cells28]; rfl) ((h2.row.ext x211).keep kA (show p1.block ≠ p0.block by omega)) (by rw [cells28]; rfl) rfl fun wB rB kB zB => ?_
  have rB : Row wB p1 28 (e23F.cs (.slice (some pc) 1 1) (.slice (some pd) 1 1) (.slice none 0 0)) := rB
  have kk : Keep (fun b => b ≠ p0.block ∧ b ≠ p1.block) w11 wB := (kA.mono fun b _ h => h.1).trans (kB.mono fun b _ h => h.2)
  have qa := (h4.row.ext (h5.ext.trans (h6.ext.trans x611))).keep kk (show pa.block ≠ p0.block ∧ pa.block ≠ p1.block by omega)
  have qb := (h5.row.ext (h6.ext.trans x611)).keep kk (show pb.block ≠ p0.block ∧ pb.block ≠ p1.block by omega)
  have qr := (h6.row.ext x611).keep kk (show pr.block ≠ p0.block ∧ pr.block ≠ p1.block by omega)
  have ql := (h9.row.ext (h10.ext.trans h11.ext)).keep kk (show pl.block ≠ p0.block ∧ pl.block ≠ p1.block by omega)
  have qc := (h10.row.ext h11.ext).keep kk (show pc.block ≠ p0.block ∧ pc.block ≠ p1.block by omega)
  have qd := h11.row.keep kk (show pd.block ≠ p0.block ∧ pd.block ≠ p1.block by omega)
  (repeat with_reducible first | refine jy ?_ | refine jw KL14 [] TF14 fun _ => ?_)
  refine Run_ret ?_
  simp only [Rets, RetM, resV, fnd, oneOr, ↓reduceIte]
  refine ⟨p0, _, rfl, loadVar_at (by kernel_rfl) (by rw [cells24]; decide) (by rw [cells24]; rfl) (rA.keep kB (show p0.block ≠ p1.block by omega)).at_, p1, _, rfl, loadVar_at (by kernel_rfl) (by rw [cells28]; decide) (by rw [cells28]; rfl) rB.at_, _, _, _, rfl, Keep.ext (h1.ext.trans (h2.ext.trans x211)) kk fun b hb => by omega, ?_, ?_⟩
  · exact Sl.of_row (css := [_]) ql (Cs.one (LineR.rep ⟨ints22 e23L.Offices pa (by decide) (by decide) qa, ints22 e23L.Legs pb (by decide) (by decide) qb, by simp [e23L, I64], by simp [e23L, I64], Sl.of_row (css := [_]) qr (Cs.one ⟨rfl, by simp [I64], by simp [I64], by simp [I64]⟩) rfl (by decide), Sl.nil _⟩)) rfl (by decide)
  · exact ⟨ints22 e23F.Base pc (by decide) (by decide) qc, ints22 e23F.Leg pd (by decide) (by decide) qd, Sl.nil _⟩
theorem lwOrder23 (n : Int) (w : World) : Calls Tryz.prog 15 #[.int .i64 n] w fun e w' => e = .returned (.agg ((e23O n).cs (.slice none 0 0)).toArray) ∧ Ext w w' := by
  refine Calls_of_Run (args := [.int .i64 n]) (n := 5) (rs := [.cell 2 50]) Tryz.func15 rfl rfl rfl (by simp) ?_
  (repeat with_reducible first | refine jy ?_ | refine jw KL15 [] TF15 fun _ => ?_)
  refine SemW_allocT ti50 fun p0 w1 h1 => ?_
  have b1 := h1.blk
  (repeat with_reducible first | refine jy ?_ | refine jw KL15 [] TF15 fun _ => ?_)
  refine ⟨.agg ((e23O n).cs (.slice none 0 0)).toArray, fun _ => by kernel_rfl, ?_⟩
  refine SemW_setW (by rw [cells50]; decide) (by rw [cells50]; rfl) h1.row (by rw [cells50]; rfl) rfl fun w2 r2 k2 z2 => ?_
  have r2 : Row w2 p0 50 ((e23O n).cs (.slice none 0 0)) := r2
  (repeat with_reducible first | refine jy ?_ | refine jw KL15 [] TF15 fun _ => ?_)
  refine Run_ret ?_
  simp only [Rets, RetM, resV, fnd, oneOr, ↓reduceIte]
  exact ⟨p0, _, rfl, loadVar_at (by kernel_rfl) (by rw [cells50]; decide) (by rw [cells50]; rfl) r2.at_, rfl, extKeep h1.ext k2 (by omega)⟩
theorem ordR23 {n : Int} (h : I64 n) (w : World) : OrdR w (e23O n) (.slice none 0 0) := ⟨by simp [e23O, I64], by simp [e23O, I64], by simp [e23O, I64], by simp [e23O, I64], by simp [e23O, I64], by simp [e23O, I64], h, by simp [e23O, I64], Sl.nil _, by simp [e23O, I64]⟩
theorem orderW23 {n : Int} {w : World} {K : Value → World → Prop} (hK : ∀ w', Ext w w' → K (.agg ((e23O n).cs (.slice none 0 0)).toArray) w') : CallW Tryz.prog (.func (.func 15) #[] #[]) [.int .i64 n] w K := CallW_pure call15 (lwOrder23 n w) hK
theorem ordLit4 {o : OrderD} {g : Value} {w : World} {K : Value → World → Prop} (hO : OrdR w o g) (hK : ∀ v w', Sl w' v [o, o, o, o] → Ext w w' → K v w') : SemW Tryz.prog (Instr.buildSlice 29 4 #[(0, .agg (o.cs g).toArray), (1, .agg (o.cs g).toArray), (2, .agg (o.cs g).toArray), (3, .agg (o.cs g).toArray)]) w K :=
  have h : Enc.rep w (Value.agg (o.cs g).toArray).cells.toList o := by simpa [Value.cells] using hO.rep
  SemW_lit (α := OrderD) Tryz.underlying29 ti50 rfl (by decide) [.agg (o.cs g).toArray, .agg (o.cs g).toArray, .agg (o.cs g).toArray, .agg (o.cs g).toArray] [o, o, o, o] rfl rfl (Cs.cons h (Cs.cons h (Cs.cons h (Cs.one h)))) (by show 4 * 11 ≤ _; decide) hK
theorem putNo {w w0 : World} {p : Addr} {vc vd : Value} {K : Unit → World → Prop} (hr : Row w p 36 [.int .i64 0, .slice none 0 0, .int .i64 0, .int .i64 0, .int .i64 0, .int .i64 0]) (hs : Sl w vc ([1] : List Int)) (h : RefR (fun _ => True) w0 (Rf.noRef.cs vd) Rf.noRef) (hK : ∀ w', Keep (fun k => k ≠ p.block) w w' → Sl w' vc ([1] : List Int) → RV w' p Rf.noRef → K () w') :
    SemW Tryz.prog (Instr.storeAt 36 (.pointer (some p)) (.agg (Rf.noRef.cs vd).toArray)) w K := by
  refine SemW_setW (by rw [cells36]; decide) (by rw [cells36]; rfl) hr (by rw [cells36]; rfl) (by simpa [Value.cells] using h.one) fun w2 r2 k2 z2 => ?_
  have r2 : Row w2 p 36 (Rf.noRef.cs vd) := by simpa [Value.cells] using r2
  obtain ⟨v', e, a, b, c, d⟩ := h.op
  have : vd = v' := by simpa [RefusalD.cs] using e
  subst this
  have d2 : Sl w2 vd ([] : List RawF) := ⟨d.s, d.len, d.cap, d.big, d.capM, fun i hi => by simp at hi⟩
  exact hK w2 k2 (hs.keepD hr (fun x hx cs' hc => ⟨.int .i64 x, by rw [hc.1]; rfl, fun hm => by
    rw [List.mem_singleton] at hx
    subst hx; simp at hm⟩) k2) ⟨vd, r2, RefR.of_raw (rs := []) a b c d2 rfl (fun h => (h rfl).elim) fun i h1 => by simp at h1⟩
set_option maxHeartbeats 8000000 in
theorem lwSane23 (w : World) : Calls Tryz.prog 5 #[] w fun e w' => e = .returned (.bool true) ∧ Ext w w' := by
  refine Calls_of_Run (args := []) (n := 252) (rs := [.tmp 0]) Tryz.func5 rfl rfl rfl (by simp) ?_
  (repeat with_reducible first | refine jy ?_ | refine jw KL5 [20] TF5 fun _ => ?_)
  refine CallW_gen call14 (lwTable23 w) fun e w1 ⟨vl, u0, u1, he1, x1, sl1, sf1⟩ => ⟨_, he1, ?_⟩
  (repeat with_reducible first | refine jy ?_ | refine jw KL5 [20] TF5 fun _ => ?_)
  refine SemW_allocT ti24 fun pt w2 h2 => SemW_allocT ti28 fun pf w3 h3 => ?_
  have b2 := h2.blk
  have b3 := h3.blk
  have s2 := h2.size
  have s3 := h3.size
  refine SemW_setW (by rw [cells24]; decide) (by rw [cells24]; rfl) (h2.row.ext h3.ext) (by rw [cells24]; rfl) (by simp [Value.cells, e23T, TimeD.cs, isS_o sl1.s]; rfl) fun w5 r5 k5 z5 => ?_
  have r5 : Row w5 pt 24 (e23T.cs vl) := r5
  refine SemW_setW (by rw [cells28]; decide) (by rw [cells28]; rfl) (h3.row.keep k5 (show pf.block ≠ pt.block by omega)) (by rw [cells28]; rfl) (by simp [Value.cells, e23F, TariffD.cs, isS_o sf1.b.s, isS_o sf1.l.s]; rfl) fun w7 r6 k6 z6 => ?_
  have r6 : Row w7 pf 28 (e23F.cs u0 u1 (.slice none 0 0)) := r6
  have rt := r5.keep k6 (show pt.block ≠ pf.block by omega)
  have x17 : Ext w1 w7 := extKeep (extKeep (h2.ext.trans h3.ext) k5 (by omega)) k6 (by omega)
  have hl := sl1.ext x17
  have hT := sf1.ext x17
  have y7 := x1.trans x17
  clear he1 k5 k6 r5 h2 h3 z5 z6 sl1 sf1 s2 s3 b2 b3
  have T := fun w' (x : Ext w7 w') => (rt.ext x).n
  have F := fun w' (x : Ext w7 w') => (r6.ext x).n
  simp only [TimeD.cs, TariffD.cs, AtN, KS, Nat.reduceAdd, Nat.reduceMul, Nat.reduceEqDiff, ↓reduceIte, UT] at T F
  have i1 : I64 1 := by simp [I64]
  have i2 : I64 2 := by simp [I64]
  (repeat with_reducible first | refine jy ?_ | refine jw KL5 [20] TF5 fun _ => ?_)
  refine orderW23 fun w8 x8 => ?_
  (repeat with_reducible first | refine jy ?_ | refine jw KL5 [20] TF5 fun _ => ?_)
  refine ordLit (o := e23O 2) (ordR23 i2 w8) fun vtwo w9 stwo x9 => ?_
  have x79 := x8.trans x9
  have t9 := T w9 x79
  have f9 := F w9 x79
  (repeat with_reducible first | refine jy ?_ | refine jw KL5 [20] (aa TF5 (aa t9 f9)) fun _ => ?_)
  refine leastW (hl.ext x79) (hT.ext x79) (Sl.nil _) (by simp [I64]) g23_1 fun ca da w10 x10 Sa hR => ?_
  (try simp (maxSteps := 5000000) only [KS, Nat.reduceAdd, Nat.reduceMul, Nat.reduceEqDiff, ↓reduceIte, forall_const, Int.cast_ofNat_Int, Int.reduceToNat, List.take_succ_cons, List.take_zero, List.drop_succ_cons, List.drop_zero, TF5, KL5]); (try simp (disch := omega) only [wrapI, tmodI, tdivI])
  refine ⟨by decide, by decide, by decide, by decide, ?_⟩
  refine refVar hR fun qa w11 x11 Ra => ?_
  have y11 := x79.trans (x10.trans x11)
  have t11 := T w11 y11
  have f11 := F w11 y11
  (repeat with_reducible first | refine jy ?_ | refine jw KL5 [20] (aa TF5 (aa t11 f11)) fun _ => ?_)
  refine leastW (hl.ext y11) (hT.ext y11) (Sl.nil _) (by simp [I64]) g23_2 fun cb db w12 x12 Sb hR => ?_
  (try simp (maxSteps := 5000000) only [KS, Nat.reduceAdd, Nat.reduceMul, Nat.reduceEqDiff, ↓reduceIte, forall_const, Int.cast_ofNat_Int, Int.reduceToNat, List.take_succ_cons, List.take_zero, List.drop_succ_cons, List.drop_zero, TF5, KL5]); (try simp (disch := omega) only [wrapI, tmodI, tdivI])
  refine ⟨by decide, by decide, by decide, by decide, ?_⟩
  refine refVar hR fun qb w13 x13 Rb => ?_
  have y13 := y11.trans (x12.trans x13)
  have t13 := T w13 y13
  have f13 := F w13 y13
  (repeat with_reducible first | refine jy ?_ | refine jw KL5 [20] (aa TF5 (aa t13 f13)) fun _ => ?_)
  have k13 : Ext w9 w13 := x10.trans (x11.trans (x12.trans x13))
  refine leastW (hl.ext y13) (hT.ext y13) (stwo.ext k13) (by simp [I64]) g23_3 fun cc dc w14 x14 Sc hR => ?_
  (try simp (maxSteps := 5000000) only [KS, Nat.reduceAdd, Nat.reduceMul, Nat.reduceEqDiff, ↓reduceIte, forall_const, Int.cast_ofNat_Int, Int.reduceToNat, List.take_succ_cons, List.take_zero, List.drop_succ_cons, List.drop_zero, TF5, KL5]); (try simp (disch := omega) only [wrapI, tmodI, tdivI])
  refine ⟨by decide, by decide, by decide, by decide, ?_⟩
  refine refVar hR fun qc w15 x15 Rc => ?_
  have y15 := y13.trans (x14.trans x15)
  have t15 := T w15 y15
  have f15 := F w15 y15
  (repeat with_reducible first | refine jy ?_ | refine jw KL5 [20] (aa TF5 (aa t15 f15)) fun _ => ?_)
  have k15 : Ext w9 w15 := k13.trans (x14.trans x15)
  refine leastW (hl.ext y15) (hT.ext y15) (stwo.ext k15) (by simp [I64]) g23_4 fun cd dd w16 x16 Sd hR => ?_
  (try simp (maxSteps := 5000000) only [KS, Nat.reduceAdd, Nat.reduceMul, Nat.reduceEqDiff, ↓reduceIte, forall_const, Int.cast_ofNat_Int, Int.reduceToNat, List.take_succ_cons, List.take_zero, List.drop_succ_cons, List.drop_zero, TF5, KL5]); (try simp (disch := omega) only [wrapI, tmodI, tdivI])
  refine ⟨by decide, by decide, by decide, by decide, ?_⟩
  refine refVar hR fun qd w17 x17 Rd => ?_
  have y17 := y15.trans (x16.trans x17)
  (repeat with_reducible first | refine jy ?_ | refine jw KL5 [20] TF5 fun _ => ?_)
  refine orderW23 fun w18 x18 => ?_
  (repeat with_reducible first | refine jy ?_ | refine jw KL5 [20] TF5 fun _ => ?_)
  refine orderW23 fun w19 x19 => ?_
  (repeat with_reducible first | refine jy ?_ | refine jw KL5 [20] TF5 fun _ => ?_)
  refine orderW23 fun w20 x20 => ?_
  (repeat with_reducible first | refine jy ?_ | refine jw KL5 [20] TF5 fun _ => ?_)
  refine orderW23 fun w21 x21 => ?_
  (repeat with_reducible first | refine jy ?_ | refine jw KL5 [20] TF5 fun _ => ?_)
  refine ordLit4 (o := e23O 1) (ordR23 i1 w21) fun vfour w22 sfour x22 => ?_
  have y22 := y17.trans (x18.trans (x19.trans (x20.trans (x21.trans x22))))
  have t22 := T w22 y22
  have f22 := F w22 y22
  (repeat with_reducible first | refine jy ?_ | refine jw KL5 [20] (aa TF5 (aa t22 f22)) fun _ => ?_)
  refine leastW (hl.ext y22) (hT.ext y22) sfour (by simp [I64]) g23_5 fun ce de w23 x23 Se hR => ?_
  (try simp (maxSteps := 5000000) only [KS, Nat.reduceAdd, Nat.reduceMul, Nat.reduceEqDiff, ↓reduceIte, forall_const, Int.cast_ofNat_Int, Int.reduceToNat, List.take_succ_cons, List.take_zero, List.drop_succ_cons, List.drop_zero, TF5, KL5]); (try simp (disch := omega) only [wrapI, tmodI, tdivI])
  refine ⟨by decide, by decide, by decide, by decide, ?_⟩
  refine refVar hR fun qe w24 x24 Re => ?_
  have y24 := y22.trans (x23.trans x24)
  (repeat with_reducible first | refine jy ?_ | refine jw KL5 [20] TF5 fun _ => ?_)
  refine orderW23 fun w25 x25 => ?_
  (repeat with_reducible first | refine jy ?_ | refine jw KL5 [20] TF5 fun _ => ?_)
  refine SemW_allocT ti50 fun pfar w26 h26 => ?_
  have b26 := h26.blk
  refine SemW_setW (by rw [cells50]; decide) (by rw [cells50]; rfl) h26.row (by rw [cells50]; rfl) rfl fun w27 r27 k27 z27 => ?_
  have r27 : Row w27 pfar 50 ((e23O 1).cs (.slice none 0 0)) := r27
  have x27 : Ext w25 w27 := extKeep h26.ext k27 (by omega)
  (repeat with_reducible first | refine jy ?_ | refine jw KL5 [20] TF5 fun _ => ?_)
  refine SemW_setAt (i := 2) cells3 r27 (by decide) rfl rfl fun w28 r28 k28 z28 => ?_
  have r28 : Row w28 pfar 50 (e23far.cs (.slice none 0 0)) := r28
  have x28 : Ext w25 w28 := extKeep x27 k28 (by omega)
  have y28 := y24.trans (x25.trans x28)
  let S : Nat → Prop := fun _ => True
  (repeat with_reducible refine js ?_)
  have hfar : ∀ w', OrdR w' e23far (.slice none 0 0) := fun w' => ⟨by simp [e23far, I64], by simp [e23far, I64], by simp [e23far, I64], by simp [e23far, I64], by simp [e23far, I64], by simp [e23far, I64], by simp [e23far, I64], by simp [e23far, I64], Sl.nil _, by simp [e23far, I64]⟩
  refine Run_cutV [26, 27, 28, 29] (σ := Addr × Value) (fun s => [(26, some s.2), (27, some (.pointer (some s.1))), (28, some (.bool true)), (29, some (.int .i64 0))]) (fun s w' => Ext w28 w' ∧ Sl w' s.2 ([1] : List Int) ∧ RV w' s.1 Rf.noRef) ?_ ?_
  · refine Run_eh S [13] [(0, [13]), (1, [13]), (3, [13])] (id := 11) KL5 (.first 0 (.first 1 (.first 3 (.alt true 2 (.alt true 4 (.alt true 5 (.first 6 (.first 7 (.first 8 (.first 9 (.first 10 (.alt true 11 (.first 12 (.alt true 13 (.free (.first 14 (.first 15 .done))) .stop)) .stop)))))) (.alt true 11 (.alt true 5 (.first 6 (.first 7 (.first 8 (.first 9 (.first 10 (.first 12 (.alt true 13 (.free (.first 14 (.first 15 .done))) .stop))))))) .stop) .stop)) (.alt true 11 (.alt true 4 (.alt true 5 (.first 6 (.first 7 (.first 8 (.first 9 (.first 10 (.first 12 (.alt true 13 (.free (.first 14 (.first 15 .done))) .stop))))))) .stop) .stop) .stop)) (.alt true 11 (.alt true 2 (.alt true 4 (.alt true 5 (.first 6 (.first 7 (.first 8 (.first 9 (.first 10 (.first 12 (.alt true 13 (.free (.first 14 (.first 15 .done))) .stop))))))) .stop) .stop) .stop) .stop))))) mixed (by kernel_rfl) (by kernel_rfl) fun w29 xk _ => ?_
    have y29 := y28.trans xk
    have t29 := T w29 y29
    have f29 := F w29 y29
    have a29 := (r28.ext xk).n
    simp only [OrderD.cs, AtN, KS, Nat.reduceAdd, Nat.reduceMul, Nat.reduceEqDiff, ↓reduceIte, UT] at a29
    (try simp (maxSteps := 5000000) only [KS, Nat.reduceAdd, Nat.reduceMul, Nat.reduceEqDiff, ↓reduceIte, forall_const, Int.cast_ofNat_Int, Int.reduceToNat, List.take_succ_cons, List.take_zero, List.drop_succ_cons, List.drop_zero, TF5, KL5, eh, gres, qopS, putL, ung, t29, f29, a29]); (try simp (disch := omega) only [wrapI, tmodI, tdivI])
    refine ⟨trivial, trivial, trivial, Keep.refl _ _, ?_⟩
    refine ⟨?_, Keep.refl _ _, ?_⟩
    · skip
      refine orderW23 fun w30 x30 => ⟨Keep.of_ext ((Ext.refl w29).trans x30), ?_⟩
      refine ⟨?_, Keep.of_ext ((Ext.refl w29).trans x30), ?_⟩
      · skip
        refine ordLit2 (o := e23O 1) (o2 := e23far) (ordR23 i1 _) (hfar _) fun vS w31 sS x31 => ⟨Keep.of_ext (((Ext.refl w29).trans x30).trans x31), ?_⟩
        refine ⟨?_, Keep.of_ext (((Ext.refl w29).trans x30).trans x31), ?_⟩
        · skip
          refine leastW (hl.ext (y29.trans (((Ext.refl w29).trans x30).trans x31))) (hT.ext (y29.trans (((Ext.refl w29).trans x30).trans x31))) sS (by simp [I64]) g23_6 fun vc vd w32 x32 sC hR => ⟨⟨rfl, by simp [tpOf]⟩, ⟨rfl, by simp [tpOf]⟩, ⟨rfl, by simp [tpOf]⟩, ⟨rfl, by simp [tpOf]⟩, Keep.of_ext ((((Ext.refl w29).trans x30).trans x31).trans x32), ?_⟩
          refine SemW_allocT ti36 fun pp w33 hA => ⟨Keep.of_ext (((((Ext.refl w29).trans x30).trans x31).trans x32).trans hA.ext), ?_⟩
          have bA := hA.blk
          have szA := (((((Ext.refl w29).trans x30).trans x31).trans x32) : Ext w29 w32).size
          have x33 := hA.ext
          refine putNo hA.row (sC.ext x33) hR fun w34 k34 sD rv => ?_
          exact Run_lp ⟨(pp, vc), by simp [SubB, fnd, strike, has], xk.trans (extKeep (((((Ext.refl w29).trans x30).trans x31).trans x32).trans x33) k34 (by omega)), sD, rv⟩
        · skip
          refine SemW_allocT ti36 fun pp w32 hA => ⟨Keep.of_ext ((((Ext.refl w29).trans x30).trans x31).trans hA.ext), ?_⟩
          have bA := hA.blk
          have szA := ((((Ext.refl w29).trans x30).trans x31) : Ext w29 w31).size
          have x32 := hA.ext
          refine leastW (hl.ext (y29.trans ((((Ext.refl w29).trans x30).trans x31).trans x32))) (hT.ext (y29.trans ((((Ext.refl w29).trans x30).trans x31).trans x32))) (sS.ext x32) (by simp [I64]) g23_6 fun vc vd w33 x33 sC hR => ⟨⟨rfl, by simp [tpOf]⟩, ⟨rfl, by simp [tpOf]⟩, ⟨rfl, by simp [tpOf]⟩, ⟨rfl, by simp [tpOf]⟩, Keep.of_ext (((((Ext.refl w29).trans x30).trans x31).trans x32).trans x33), ?_⟩
          refine putNo (hA.row.ext x33) sC hR fun w34 k34 sD rv => ?_
          exact Run_lp ⟨(pp, vc), by simp [SubB, fnd, strike, has], xk.trans (extKeep (((((Ext.refl w29).trans x30).trans x31).trans x32).trans x33) k34 (by omega)), sD, rv⟩
      · skip
        refine SemW_allocT ti36 fun pp w31 hA => ⟨Keep.of_ext (((Ext.refl w29).trans x30).trans hA.ext), ?_⟩
        have bA := hA.blk
        have szA := (((Ext.refl w29).trans x30) : Ext w29 w30).size
        have x31 := hA.ext
        refine ordLit2 (o := e23O 1) (o2 := e23far) (ordR23 i1 _) (hfar _) fun vS w32 sS x32 => ⟨Keep.of_ext ((((Ext.refl w29).trans x30).trans x31).trans x32), ?_⟩
        refine leastW (hl.ext (y29.trans ((((Ext.refl w29).trans x30).trans x31).trans x32))) (hT.ext (y29.trans ((((Ext.refl w29).trans x30).trans x31).trans x32))) sS (by simp [I64]) g23_6 fun vc vd w33 x33 sC hR => ⟨⟨rfl, by simp [tpOf]⟩, ⟨rfl, by simp [tpOf]⟩, ⟨rfl, by simp [tpOf]⟩, ⟨rfl, by simp [tpOf]⟩, Keep.of_ext (((((Ext.refl w29).trans x30).trans x31).trans x32).trans x33), ?_⟩
        refine putNo ((hA.row.ext x32).ext x33) sC hR fun w34 k34 sD rv => ?_
        exact Run_lp ⟨(pp, vc), by simp [SubB, fnd, strike, has], xk.trans (extKeep (((((Ext.refl w29).trans x30).trans x31).trans x32).trans x33) k34 (by omega)), sD, rv⟩
    · skip
      refine SemW_allocT ti36 fun pp w30 hA => ⟨Keep.of_ext ((Ext.refl w29).trans hA.ext), ?_⟩
      have bA := hA.blk
      have szA := ((Ext.refl w29) : Ext w29 w29).size
      have x30 := hA.ext
      refine orderW23 fun w31 x31 => ⟨Keep.of_ext (((Ext.refl w29).trans x30).trans x31), ?_⟩
      refine ordLit2 (o := e23O 1) (o2 := e23far) (ordR23 i1 _) (hfar _) fun vS w32 sS x32 => ⟨Keep.of_ext ((((Ext.refl w29).trans x30).trans x31).trans x32), ?_⟩
      refine leastW (hl.ext (y29.trans ((((Ext.refl w29).trans x30).trans x31).trans x32))) (hT.ext (y29.trans ((((Ext.refl w29).trans x30).trans x31).trans x32))) sS (by simp [I64]) g23_6 fun vc vd w33 x33 sC hR => ⟨⟨rfl, by simp [tpOf]⟩, ⟨rfl, by simp [tpOf]⟩, ⟨rfl, by simp [tpOf]⟩, ⟨rfl, by simp [tpOf]⟩, Keep.of_ext (((((Ext.refl w29).trans x30).trans x31).trans x32).trans x33), ?_⟩
      refine putNo (((hA.row.ext x31).ext x32).ext x33) sC hR fun w34 k34 sD rv => ?_
      exact Run_lp ⟨(pp, vc), by simp [SubB, fnd, strike, has], xk.trans (extKeep (((((Ext.refl w29).trans x30).trans x31).trans x32).trans x33) k34 (by omega)), sD, rv⟩
  rintro ⟨qs, vlost⟩ w30 ⟨x30, slost, Rs⟩
  simp only at slost Rs
  have y30 := y28.trans x30
  have t30 := T w30 y30
  have f30 := F w30 y30
  (repeat with_reducible first | refine jy ?_ | refine jw KL5 [20] (aa TF5 (aa t30 f30)) fun _ => ?_)
  refine ⟨.agg (e23z.cs (.slice none 0 0)).toArray, fun _ => by kernel_rfl, ?_⟩
  have hzO : ∀ w', OrdR w' e23z (.slice none 0 0) := fun w' => ⟨by simp [e23z, I64], by simp [e23z, I64], by simp [e23z, I64], by simp [e23z, I64], by simp [e23z, I64], by simp [e23z, I64], by simp [e23z, I64], by simp [e23z, I64], Sl.nil _, by simp [e23z, I64]⟩
  refine ordLit (o := e23z) (hzO w30) fun vz w31 sz x31 => ?_
  have y31 := y30.trans x31
  refine leastW (hl.ext y31) (hT.ext y31) sz (by simp [I64]) g23_7 fun cf df w32 x32 Sf hR => ?_
  (try simp (maxSteps := 5000000) only [KS, Nat.reduceAdd, Nat.reduceMul, Nat.reduceEqDiff, ↓reduceIte, forall_const, Int.cast_ofNat_Int, Int.reduceToNat, List.take_succ_cons, List.take_zero, List.drop_succ_cons, List.drop_zero, TF5, KL5]); (try simp (disch := omega) only [wrapI, tmodI, tdivI])
  refine ⟨by decide, by decide, by decide, by decide, ?_⟩
  refine refVar hR fun qf w33 x33 Rf' => ?_
  have y33 := y31.trans (x32.trans x33)
  (repeat with_reducible first | refine jy ?_ | refine jw KL5 [20] TF5 fun _ => ?_)
  refine ⟨.agg e23run.cs.toArray, fun _ => by kernel_rfl, ?_⟩
  refine SemW_allocT ti34 fun prn w34 h34 => ?_
  have b34 := h34.blk
  refine SemW_setW (by rw [cells34]; decide) (by rw [cells34]; rfl) h34.row (by rw [cells34]; rfl) rfl fun w35 r35 k35 z35 => ?_
  have r35 : Row w35 prn 34 e23run.cs := r35
  have x35 : Ext w33 w35 := extKeep h34.ext k35 (by omega)
  have r35n := r35.n
  simp only [RunD.cs, AtN, KS, Nat.reduceAdd, Nat.reduceMul, Nat.reduceEqDiff, ↓reduceIte, UT] at r35n
  (repeat with_reducible first | refine jy ?_ | refine jw KL5 [20] (aa TF5 r35n) fun _ => ?_)
  refine ⟨.agg ((e23deep 0).cs (.slice none 0 0)).toArray, fun _ => by kernel_rfl, ?_⟩
  refine SemW_allocT ti36 fun pd w36 h36 => ?_
  have b36 := h36.blk
  have s36 := h36.size
  refine SemW_setW (by rw [cells36]; decide) (by rw [cells36]; rfl) h36.row (by rw [cells36]; rfl) rfl fun w37 r37 k37 z37 => ?_
  have r37 : Row w37 pd 36 ((e23deep 0).cs (.slice none 0 0)) := r37
  have x37 : Ext w35 w37 := extKeep h36.ext k37 (by omega)
  have y37 := y33.trans (x35.trans x37)
  have y35 := y33.trans x35
  have e0 : RefR (fun b => pd.block < b) w37 ((e23deep 0).cs (.slice none 0 0)) (e23deep 0) := RefR.leaf (i64n (by decide) (by decide)) (i64n (by decide) (by decide)) ⟨i64n (by decide) (by decide), i64n (by decide) (by decide), i64n (by decide) (by decide)⟩
  (repeat with_reducible first | refine jy ?_ | refine jw KL5 [20] TF5 fun _ => ?_)
  refine Run_loopV [36, 123] (σ := Nat) (fun k => [(36, some (.int .i64 (3 - k)))]) (fun k w' => k ≤ 4 ∧ Ext w35 w' ∧ ∃ v, Row w' pd 36 ((e23deep k).cs v) ∧ RefR (fun b => pd.block < b) w' ((e23deep k).cs v) (e23deep k)) (fun k => 4 - k) 0 (by simp [SubB, fnd]) ⟨by omega, x37, _, r37, e0⟩ ?_
  rintro k w38 ⟨hk, x38, vk, r38, R38⟩
  (repeat with_reducible first | refine jy ?_ | refine jw KL5 [20] TF5 fun _ => ?_)
  refine Run_condS (fun _ => rfl) (fun h => ?_) (fun h => ?_)
  · simp at h
    have hk3 : k ≤ 3 := by omega
    clear h
    have r38n := r38.n
    simp only [RefusalD.cs, AtN, KS, Nat.reduceAdd, Nat.reduceMul, Nat.reduceEqDiff, ↓reduceIte, UT] at r38n
    (repeat with_reducible first | refine jy ?_ | refine jw KL5 [20] (aa TF5 r38n) fun _ => ?_)
    refine SemW_buildSlice (vs := [.agg ((e23deep k).cs vk).toArray]) Tryz.underlying32 ti36 rfl rfl rfl (by simp [Value.cells, RefusalD.cs]) (by show 1 * 6 ≤ 16777216; decide) fun pn w39 h39 => ?_
    have b39 := h39.blk
    have q38 := r38.lt
    refine ⟨.agg ((e23deep (k + 1)).cs (.slice (some pn) 1 1)).toArray, fun _ => by kernel_rfl, ?_⟩
    refine SemW_setW (by rw [cells36]; decide) (by rw [cells36]; rfl) (r38.ext h39.ext) (by rw [cells36]; rfl) rfl fun w40 r40 k40 z40 => ?_
    have r40 : Row w40 pd 36 ((e23deep (k + 1)).cs (.slice (some pn) 1 1)) := r40
    have rn40 := h39.row.keep k40 (show pn.block ≠ pd.block by omega)
    have R40 : RefR (fun b => pd.block < b) w40 ((e23deep k).cs vk) (e23deep k) := (R38.ext h39.ext).keep k40 fun b hb => by omega
    have S40 : Sl w40 (.slice (some pn) 1 1) [(⟨(e23deep k).cs vk⟩ : RawF)] := Sl.of_row (css := [(e23deep k).cs vk]) (by simpa [Value.cells] using rn40) (Cs.one R40.raw) rfl (by decide)
    have E40 : RefR (fun b => pd.block < b) w40 ((e23deep (k + 1)).cs (.slice (some pn) 1 1)) (e23deep (k + 1)) := RefR.of_raw (rs := [⟨(e23deep k).cs vk⟩]) (kids := [e23deep k]) (i64n (by omega) (by omega)) (i64n (by decide) (by decide)) ⟨i64n (by decide) (by decide), i64n (by decide) (by decide), i64n (by decide) (by decide)⟩ S40 rfl (fun _ => by show pd.block < pn.block; omega) fun i h1 h2 => by
      have : i = 0 := by simp at h1; omega
      subst this; exact R40
    (repeat with_reducible first | refine jy ?_ | refine jw KL5 [20] TF5 fun _ => ?_)
    exact Run_lp ⟨k + 1, (by
      simp [SubB, fnd, strike, has]
      omega), ⟨by omega, extKeep (x38.trans h39.ext) k40 (by omega), _, r40, E40⟩, by omega⟩
  simp at h
  obtain rfl : k = 4 := by omega
  clear h
  have y38 := y35.trans x38
  have hdl := R38.mono (F' := fun _ => True) fun _ _ => trivial
  obtain ⟨vk', e, io, iw, ir, sk⟩ := hdl.op
  have hvk : vk = vk' := by simpa [RefusalD.cs] using e
  subst hvk
  have t38 := T w38 y38
  have f38 := F w38 y38
  have r38n := r38.n
  simp only [RefusalD.cs, AtN, KS, Nat.reduceAdd, Nat.reduceMul, Nat.reduceEqDiff, ↓reduceIte, UT] at r38n
  (repeat with_reducible first | refine jy ?_ | refine jw KL5 [20] (aa TF5 (aa t38 (aa f38 r38n))) fun _ => ?_)
  have k2238 : Ext w22 w38 := (x23.trans x24).trans ((x25.trans x28).trans (x30.trans (x31.trans ((x32.trans x33).trans (x35.trans x38)))))
  refine checkW (hl.ext y38) (hT.ext y38) (sfour.ext k2238) io iw ir sk g23_8 fun w39 x39 => ?_
  (try simp (maxSteps := 5000000) only [KS, Nat.reduceAdd, Nat.reduceMul, Nat.reduceEqDiff, ↓reduceIte, forall_const, Int.cast_ofNat_Int, Int.reduceToNat, List.take_succ_cons, List.take_zero, List.drop_succ_cons, List.drop_zero, TF5, KL5]); (try simp (disch := omega) only [wrapI, tmodI, tdivI])
  refine ⟨by decide, by decide, ?_⟩
  have y39 := y38.trans x39
  have t39 := T w39 y39
  have f39 := F w39 y39
  have D39 := r38.ext x39
  have d39 := D39.n
  simp only [RefusalD.cs, AtN, KS, Nat.reduceAdd, Nat.reduceMul, Nat.reduceEqDiff, ↓reduceIte, UT] at d39
  have sfour39 := sfour.ext (k2238.trans x39)
  (repeat with_reducible first | refine jy ?_ | refine jw KL5 [20] (aa TF5 (aa t39 (aa f39 (aa d39 (aa sfour39.s sfour39.len))))) fun _ => ?_)
  have hcap : 4 ≤ slCap vfour := sfour39.cap
  have ssub : ∀ w', Ext w39 w' → Sl w' (slSub 11 vfour 0 3 (slCap vfour)) [e23O 1, e23O 1, e23O 1] := fun w' x => (sfour39.ext x).sub (l := 0) (r := 3) (m := slCap vfour) (by omega) (by decide) (by omega) (Nat.le_refl _)
  have c9 : ∀ w', Ext w39 w' → Calls Tryz.prog 12 #[.agg (e23T.cs vl).toArray, .agg (e23F.cs u0 u1 (.slice none 0 0)).toArray, slSub 11 vfour 0 3 (slCap vfour), .int .i64 9, .agg ((e23deep 4).cs vk).toArray] w' fun e w'' => e = .returned (.tuple #[.bool false, .int .i64 0]) ∧ Ext w' w'' := fun w' x => by
    have := rsCheck vl u0 u1 (.slice none 0 0) (slSub 11 vfour 0 3 (slCap vfour)) vk e23T e23F [e23O 1, e23O 1, e23O 1] 9 (e23deep 4) w' (hl.ext (y39.trans x)) (hT.ext (y39.trans x)) (ssub w' x) io iw ir (sk.ext (x39.trans x))
    rw [g23_9] at this
    exact this
  refine ⟨⟨by omega, by omega, by omega, fun h => h.elim⟩, .tuple #[.bool false, .int .i64 0], PC_pure call12 c9, ⟨rfl, by simp [tpOf]⟩, ⟨rfl, by simp [tpOf]⟩, fun w40 x40 => ?_⟩
  have y40 := y39.trans x40
  (repeat with_reducible first | refine jy ?_ | refine jw KL5 [20] (aa TF5 KX) fun _ => ?_)
  refine Run_condS (fun _ => rfl) (fun h => by cases h) (fun _ => ?_)
  (repeat with_reducible first | refine jy ?_ | refine jw KL5 [20] TF5 fun _ => ?_)
  refine ⟨.agg (Rf.covLeaf.cs (.slice none 0 0)).toArray, fun _ => by kernel_rfl, ?_⟩
  have hcl : ∀ w', RefR (fun _ => True) w' (Rf.covLeaf.cs (.slice none 0 0)) Rf.covLeaf := fun w' => RefR.leaf (i64n (by decide) (by decide)) (i64n (by decide) (by decide)) ⟨i64n (by decide) (by decide), i64n (by decide) (by decide), i64n (by decide) (by decide)⟩
  refine refVar (hcl w40) fun qv w41 x41 Rv => ?_
  have y41 := y40.trans x41
  have k3041 : Ext w30 w41 := (x31.trans ((x32.trans x33).trans (x35.trans x38))).trans (x39.trans (x40.trans x41))
  have k2241 := (k2238.trans x39).trans (x40.trans x41)
  have k1322 : Ext w13 w22 := (x14.trans x15).trans ((x16.trans x17).trans (x18.trans (x19.trans (x20.trans (x21.trans x22)))))
  have sb41 := Sb.ext (x13.trans (k1322.trans k2241))
  have sc41 := Sc.ext (x15.trans ((x16.trans x17).trans ((x18.trans (x19.trans (x20.trans (x21.trans x22)))).trans k2241)))
  have se41 := Se.ext (x24.trans ((x25.trans x28).trans (x30.trans k3041)))
  have sl41 := slost.ext k3041
  have sbl := sb41.len
  simp only [List.length_nil] at sbl
  (repeat with_reducible first | refine jy ?_ | refine jw KL5 [20] (aa TF5 (aa sb41.s (aa sbl KX))) fun _ => ?_)
  refine .inl ⟨by decide, intLit22 [0] rfl rfl (by decide) (by decide) fun va w42 sa x42 => ?_⟩
  unfold hush
  (repeat with_reducible first | refine jy ?_ | refine jw KL5 [20] (aa TF5 (aa sb41.s (aa sbl KX))) fun _ => ?_)
  refine .inl (.inl ⟨by decide, CallW_pure call9 (rgSameInts cc va [0] [0] w42 (sc41.ext x42) sa) fun w43 x43 => ?_⟩)
  unfold hush
  (repeat with_reducible first | refine jy ?_ | refine jw KL5 [20] (aa TF5 (aa sb41.s (aa sbl KX))) fun _ => ?_)
  refine .inl ⟨by decide, intLit22 [0, 1, 2, 3] rfl rfl (by decide) (by decide) fun vb w44 sb x44 => ?_⟩
  unfold hush
  (repeat with_reducible first | refine jy ?_ | refine jw KL5 [20] (aa TF5 (aa sb41.s (aa sbl KX))) fun _ => ?_)
  refine .inl (.inl ⟨by decide, CallW_pure call9 (rgSameInts ce vb [0, 1, 2, 3] [0, 1, 2, 3] w44 (se41.ext (x42.trans (x43.trans x44))) sb) fun w45 x45 => ?_⟩)
  unfold hush
  (repeat with_reducible first | refine jy ?_ | refine jw KL5 [20] (aa TF5 (aa sb41.s (aa sbl KX))) fun _ => ?_)
  refine .inl ⟨by decide, intLit22 [1] rfl rfl (by decide) (by decide) fun vd w46 sd x46 => ?_⟩
  unfold hush
  (repeat with_reducible first | refine jy ?_ | refine jw KL5 [20] (aa TF5 (aa sb41.s (aa sbl KX))) fun _ => ?_)
  have k4146 := x42.trans (x43.trans (x44.trans (x45.trans x46)))
  refine .inl (.inl ⟨by decide, CallW_pure call9 (rgSameInts vlost vd [1] [1] w46 (sl41.ext k4146) sd) fun w47 x47 => ?_⟩)
  unfold hush
  (repeat with_reducible first | refine jy ?_ | refine jw KL5 [20] (aa TF5 (aa sb41.s (aa sbl KX))) fun _ => ?_)
  have k4147 := k4146.trans x47
  refine Run_condS (fun _ => rfl) (fun h => by cases h) (fun _ => ?_)
  have y47 := y41.trans k4147
  obtain ⟨v1, n1, i11, i12, i13, s1⟩ := (Rb.ext (k1322.trans (k2241.trans k4147))).n
  obtain ⟨v2, rw2, R2⟩ := Rv.ext k4147
  obtain ⟨v2', e2, _, _, _, s2⟩ := R2.op
  have h2 : v2 = v2' := by simpa [RefusalD.cs] using e2
  subst h2
  have n2 := rw2.n
  simp only [RefusalD.cs, AtN, KS, Nat.reduceAdd, Nat.reduceMul, Nat.reduceEqDiff, ↓reduceIte, UT] at n1 n2
  (repeat with_reducible first | refine jy ?_ | refine jw KL5 [20] (aa TF5 (aa n1 n2)) fun _ => ?_)
  refine sameW s1 s2 fun w48 x48 => ?_
  have n2 := (rw2.ext x48).n
  obtain ⟨v3, n3, i31, i32, i33, s3⟩ := (Rc.ext ((x16.trans x17).trans ((x18.trans (x19.trans (x20.trans (x21.trans x22)))).trans (k2241.trans (k4147.trans x48))))).n
  have k2247 := k2241.trans k4147
  simp only [RefusalD.cs, AtN, KS, Nat.reduceAdd, Nat.reduceMul, Nat.reduceEqDiff, ↓reduceIte, UT] at n2 n3
  (repeat with_reducible first | refine jy ?_ | refine jw KL5 [20] (aa TF5 (aa n2 (aa n3 KX))) fun _ => ?_)
  refine SemW_buildSlice (vs := [.agg (Rf.covLeaf.cs v2).toArray]) Tryz.underlying32 ti36 rfl rfl rfl (by simp [Value.cells, RefusalD.cs]) (by show 1 * 6 ≤ 16777216; decide) fun pn w49 h49 => ?_
  have S49 : Sl w49 (.slice (some pn) 1 1) [Rf.covLeaf] := Sl.of_row (css := [Rf.covLeaf.cs v2]) (by simpa [Value.cells] using h49.row) (Cs.one ((R2.ext x48).ext h49.ext)) rfl (by decide)
  unfold hush
  have n3' := n3
  (repeat with_reducible first | refine jy ?_ | refine jw KL5 [20] (aa TF5 (aa n2 (aa n3 KX))) fun _ => ?_)
  refine ⟨.agg ((RefusalD.mk 0 [Rf.covLeaf] 0 Rf.zeroR).cs (.slice (some pn) 1 1)).toArray, fun _ => by kernel_rfl, .inl ?_⟩
  refine sameW (p := .mk 0 [Rf.covLeaf] 0 Rf.zeroR) (s3.ext h49.ext) S49 fun w50 x50 => ?_
  unfold hush
  have k4750 := x48.trans (h49.ext.trans x50)
  have n2 := (rw2.ext k4750).n
  have n3 := (Rc.ext ((x16.trans x17).trans ((x18.trans (x19.trans (x20.trans (x21.trans x22)))).trans (k2247.trans k4750)))).n
  obtain ⟨_, n3, _⟩ := n3
  obtain ⟨v4, n4, i41, i42, i43, s4⟩ := (Re.ext ((x25.trans x28).trans (x30.trans (k3041.trans (k4147.trans k4750))))).n
  have nd := (r38.ext (x39.trans (x40.trans (x41.trans (k4147.trans k4750))))).n
  simp only [RefusalD.cs, AtN, KS, Nat.reduceAdd, Nat.reduceMul, Nat.reduceEqDiff, ↓reduceIte, UT] at n2 n3 n4 nd
  (repeat with_reducible first | refine jy ?_ | refine jw KL5 [20] (aa TF5 (aa n2 (aa n3 (aa n4 (aa nd KX))))) fun _ => ?_)
  refine .inl (sameW (p := e23deep 4) s4 (sk.ext (x39.trans (x40.trans (x41.trans (k4147.trans k4750))))) fun w51 x51 => ?_)
  unfold hush
  have k4751 := k4750.trans x51
  have n2 := (rw2.ext k4751).n
  have n3 := (Rc.ext ((x16.trans x17).trans ((x18.trans (x19.trans (x20.trans (x21.trans x22)))).trans (k2247.trans k4751)))).n
  obtain ⟨_, n3, _⟩ := n3
  have n4 := (Re.ext ((x25.trans x28).trans (x30.trans (k3041.trans (k4147.trans k4751))))).n
  obtain ⟨_, n4, _⟩ := n4
  have nd := (r38.ext (x39.trans (x40.trans (x41.trans (k4147.trans k4751))))).n
  obtain ⟨v5, n5, i51, i52, i53, s5⟩ := (Rs.ext (k3041.trans (k4147.trans k4751))).n
  simp only [RefusalD.cs, AtN, KS, Nat.reduceAdd, Nat.reduceMul, Nat.reduceEqDiff, ↓reduceIte, UT] at n2 n3 n4 nd n5
  (repeat with_reducible first | refine jy ?_ | refine jw KL5 [20] (aa TF5 (aa n2 (aa n3 (aa n4 (aa nd (aa n5 KX)))))) fun _ => ?_)
  refine ⟨.agg (Rf.noRef.cs (.slice none 0 0)).toArray, fun _ => by kernel_rfl, .inl ?_⟩
  refine sameW (p := Rf.noRef) s5 (Sl.nil _) fun w52 x52 => ?_
  unfold hush
  (repeat with_reducible first | refine jy ?_ | refine jw KL5 [20] (aa TF5 (aa n2 (aa n3 (aa n4 (aa nd (aa n5 KX)))))) fun _ => ?_)
  refine Run_ret ?_
  simp [Rets, RetM, resV, fnd, oneOr]
  exact y7.trans (y47.trans (k4751.trans x52))
theorem sane23W {w : World} {K : Value → World → Prop} (hK : ∀ w', Ext w w' → K (.bool true) w') : CallW Tryz.prog (.func (.func 5) #[] #[]) [] w K := CallW_pure call5 (lwSane23 w) hK
end Go.Proofs.YtldjfebokojmfaaGreat
