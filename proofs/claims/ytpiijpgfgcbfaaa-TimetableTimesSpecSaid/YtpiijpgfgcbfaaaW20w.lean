/- Chapter 20: the examples. -/
import Derived.Test.YtpiijpgfgcbfaaaW20v
set_option linter.unusedSimpArgs false
set_option linter.unusedVariables false
set_option maxRecDepth 100000
namespace Go.Proofs.Ytpiijpgfgcbfaaa
open Go Go.Fk
theorem c45l : Try.prog.cellsOf 45 ≠ 0 := by rw [cells45]; decide
theorem c24t : Try.prog.cellsOf 24 ≠ 0 := by rw [cells24]; decide
/-- a line that departs once -/
def lineOf20 (a : Int) (legs offices : List Int) : LineD := ⟨offices, legs, 1, 1, [⟨a, a + 1, 1⟩], []⟩
theorem lwLine (a : Int) (vl vo : Value) (legs offices : List Int) (w : World) (hl : Sl w vl legs) (ho : Sl w vo offices) (h0 : 0 ≤ a) (h1 : a ≤ 1000000) :
    Calls Try.prog 24 #[.int .i64 a, vl, vo] w fun e w' => ∃ vr, e = .returned (.agg ((lineOf20 a legs offices).cs vo vl vr (.slice none 0 0)).toArray) ∧ Ext w w' ∧ LineR w' (lineOf20 a legs offices) vo vl vr (.slice none 0 0) := by
  refine Calls_of_Run (args := [.int .i64 a, vl, vo]) (n := 15) (rs := [.cell 6 45]) Try.func24 rfl rfl rfl (by simp) ?_
  (repeat with_reducible first | refine js ?_ | refine ja ?_ | refine jw KL24 [] TF24 fun _ => ?_)
  refine SemW_allocT ti45 fun p w1 h1' => ?_
  have b1 := h1'.blk
  (repeat with_reducible first | refine js ?_ | refine ja ?_ | refine jw KL24 [] TF24 fun _ => ?_)
  refine ⟨.agg #[.int .i64 a, .int .i64 (a + 1), .int .i64 1], fun _ => by kernel_rfl, ?_⟩
  refine SemW_buildSlice (n := 1) (vs := [.agg #[.int .i64 a, .int .i64 (a + 1), .int .i64 1]]) Try.underlying42 ti70 rfl rfl rfl (by simp [Value.cells]) (by omega) fun pr w2 h2 => ?_
  refine ⟨.agg ((lineOf20 a legs offices).cs vo vl (.slice (some pr) 1 1) (.slice none 0 0)).toArray, fun _ => ?_, ?_⟩
  · rcases hl.s.ex with rfl | ⟨_, _, _, rfl⟩ <;> rcases ho.s.ex with rfl | ⟨_, _, _, rfl⟩ <;> kernel_rfl
  have r1 := h1'.row.ext h2.ext
  have io := isS_o ho.s
  have il := isS_o hl.s
  refine SemW_setW c45l (by rw [cells45]; rfl) r1 (by rw [cells45]; rfl) (by simp [Value.cells, LineD.cs, lineOf20, io, il]; exact ⟨rfl, rfl, rfl⟩) fun w3 r3 k3 _ => ?_
  have z2 := h2.ext.size
  have x3 : Ext w w3 := Keep.ext (h1'.ext.trans h2.ext) k3 fun k hk => by show k ≠ p.block; omega
  have b2 := h2.blk
  have z1 := h1'.size
  have r2 : Row w2 pr 70 (⟨a, a + 1, 1⟩ : Rule).cs := by have := h2.row; simpa [Value.cells, Rule.cs] using this
  have r2 := r2.keep k3 (by show pr.block ≠ p.block; omega)
  have e1 := loadVar_at (P := Try.prog) (t := 45) (by kernel_rfl) c45l (by rw [cells45]; rfl) r3.at_
  refine Run_ret ?_
  simp only [Rets, RetM, resV]
  refine ⟨p, _, rfl, e1, ?_⟩
  simp only [oneOr]
  refine ⟨.slice (some pr) 1 1, rfl, x3, ⟨ho.ext x3, hl.ext x3, by simp [lineOf20, I64], by simp [lineOf20, I64], ?_, Sl.nil _⟩⟩
  exact Row.sl (css := [_]) (by simpa using r2) (Cs.one (x := (⟨a, a + 1, 1⟩ : Rule)) ⟨rfl, by simp only [I64]; omega⟩) (by simp [lineOf20])
theorem lineW {a : Int} {vl vo : Value} {legs offices : List Int} {w : World} {K : Value → World → Prop} (hl : Sl w vl legs) (ho : Sl w vo offices) (h0 : 0 ≤ a ∧ a ≤ 1000000)
    (hK : ∀ vr w', Ext w w' → LineR w' (lineOf20 a legs offices) vo vl vr (.slice none 0 0) → K (.agg ((lineOf20 a legs offices).cs vo vl vr (.slice none 0 0)).toArray) w') : CallW Try.prog (.func (.func 24) #[] #[]) [.int .i64 a, vl, vo] w K :=
  CallW_gen call24 (lwLine a vl vo legs offices w hl ho h0.1 h0.2) fun e w' ⟨vr, he, hx, hr⟩ => ⟨_, he, hK vr w' hx hr⟩
theorem runsW {vl : Value} {t : TimeD} {a b : Int} {r : List RunD × Int} {w : World} {K : Value → World → Prop} (h : Tt.runs t a b = r) (hl : Sl w vl t.Lines) (hK : ∀ v w', Ext w w' → Sl w' v r.1 → K (.tuple #[v, .int .i64 r.2]) w') : CallW Try.prog (.func (.func 11) #[] #[]) [.agg #[.int .i64 t.Offices, vl], .int .i64 a, .int .i64 b] w K := by
  subst h; exact CallW_gen call11 (ttRuns vl t a b w hl) fun e w' ⟨v, he, x, hs⟩ => ⟨_, he, hK v w' x hs⟩
theorem rrunsW {vl : Value} {t : TimeD} {a b : Int} {r : List RunD × Int} {w : World} {K : Value → World → Prop} (h : Tt.runs t a b = r) (hl : Sl w vl t.Lines) (hK : ∀ v w', Ext w w' → Sl w' v r.1 → K (.tuple #[v, .int .i64 r.2]) w') : CallW Try.prog (.func (.func 12) #[] #[]) [.agg #[.int .i64 t.Offices, vl], .int .i64 a, .int .i64 b] w K := by
  subst h; exact CallW_gen call12 (rfRuns vl t a b w hl) fun e w' ⟨v, he, x, hs⟩ => ⟨_, he, hK v w' x hs⟩
theorem timesW {vl : Value} {t : TimeD} {r : RunD} {q : List Int × Int} {w : World} {K : Value → World → Prop} (h : timesT t r = q) (hl : Sl w vl t.Lines) (hr : RunI r) (hK : ∀ v w', Ext w w' → Sl w' v q.1 → K (.tuple #[v, .int .i64 q.2]) w') : CallW Try.prog (.func (.func 16) #[] #[]) [.agg #[.int .i64 t.Offices, vl], .agg #[.int .i64 r.Line, .int .i64 r.At, .int .i64 r.Arrive]] w K := by
  subst h; exact CallW_gen call16 (ttTimes vl t r w hl hr) fun e w' ⟨v, he, x, hs⟩ => ⟨_, he, hK v w' x hs⟩
theorem rtimesW {vl : Value} {t : TimeD} {r : RunD} {q : List Int × Int} {w : World} {K : Value → World → Prop} (h : timesT t r = q) (hl : Sl w vl t.Lines) (hr : RunI r) (hK : ∀ v w', Ext w w' → Sl w' v q.1 → K (.tuple #[v, .int .i64 q.2]) w') : CallW Try.prog (.func (.func 17) #[] #[]) [.agg #[.int .i64 t.Offices, vl], .agg #[.int .i64 r.Line, .int .i64 r.At, .int .i64 r.Arrive]] w K := by
  subst h; exact CallW_gen call17 (rfTimes vl t r w hl hr) fun e w' ⟨v, he, x, hs⟩ => ⟨_, he, hK v w' x hs⟩
theorem isTW {vl : Value} {t : TimeD} {r : RunD} {b : Bool} {w : World} {K : Value → World → Prop} (h : Tt.isRun t r = b) (hl : Sl w vl t.Lines) (hr : RunI r) (hK : ∀ w', Ext w w' → K (.bool b) w') : CallW Try.prog (.func (.func 18) #[] #[]) [.agg #[.int .i64 t.Offices, vl], .agg #[.int .i64 r.Line, .int .i64 r.At, .int .i64 r.Arrive]] w K := by
  subst h; exact CallW_pure call18 (ttIs vl t r w hl hr) hK
theorem same20W {va vb : Value} {l m : List RunD} {b : Bool} {w : World} {K : Value → World → Prop} (h : decide (l = m) = b) (hx : Sl w va l) (hy : Sl w vb m) (hK : ∀ w', Ext w w' → K (.bool b) w') : CallW Try.prog (.func (.func 15) #[] #[]) [va, vb] w K := by
  subst h; exact CallW_pure call15 (rfSame20 va vb l m w hx hy) hK
theorem sameI20W {va vb : Value} {l m : List Int} {b : Bool} {w : World} {K : Value → World → Prop} (h : decide (l = m) = b) (hx : Sl w va l) (hy : Sl w vb m) (hK : ∀ w', Ext w w' → K (.bool b) w') : CallW Try.prog (.func (.func 20) #[] #[]) [va, vb] w K := by
  subst h; exact CallW_pure call20 (rfSameInts20 va vb l m w hx hy) hK
theorem intLit20 {w : World} {K : Value → World → Prop} (xs : List Int) {parts : Array (Nat × Value)} {n : Nat} (hp : parts.toList = (xs.map fun x => (Value.int .i64 x)).zipIdx.map fun p => (p.2, p.1)) (hn : n = xs.length) (hx : xs.all (fun x => decide (-1000000 ≤ x ∧ x ≤ 1000000)) = true) (hs : n ≤ 1000)
    (hK : ∀ v w', Sl w' v xs → Ext w w' → K v w') : SemW Try.prog (Instr.buildSlice 35 n parts) w K :=
  SemW_lit (α := Int) Try.underlying35 ti3 rfl (by decide) (xs.map fun x => (Value.int .i64 x)) xs hp (by simpa using hn) (Cs.ints xs fun x h => by
    have := List.all_eq_true.1 hx x h
    simp only [decide_eq_true_eq] at this
    unfold I64; omega) (by show n * 1 ≤ _; omega) hK
theorem linLit20 {w : World} {K : Value → World → Prop} {x : LineD} {v0 v1 v2 v3 : Value} (hR : LineR w x v0 v1 v2 v3) (hK : ∀ v w', Sl w' v [x] → Ext w w' → K v w') : SemW Try.prog (Instr.buildSlice 22 1 #[(0, .agg (x.cs v0 v1 v2 v3).toArray)]) w K :=
  SemW_lit (α := LineD) Try.underlying22 ti45 rfl (by decide) [.agg (x.cs v0 v1 v2 v3).toArray] [x] rfl rfl (Cs.one (by simpa [Value.cells] using hR.rep)) (by show 1 * 6 ≤ _; decide) hK
theorem runLit20 {w : World} {K : Value → World → Prop} {x : RunD} (hx : RunI x) (hK : ∀ v w', Sl w' v [x] → Ext w w' → K v w') : SemW Try.prog (Instr.buildSlice 27 1 #[(0, .agg x.cs.toArray)]) w K :=
  SemW_lit (α := RunD) Try.underlying27 ti34 rfl (by decide) [.agg x.cs.toArray] [x] rfl rfl (Cs.one (by show Enc.rep w x.cs x; exact ⟨rfl, hx⟩)) (by show 1 * 3 ≤ _; decide) hK
def ex20 : TimeD := ⟨3, [lineOf20 100 [10, 20] [2, 0, 1]]⟩
def ex20o : TimeD := ⟨1, [lineOf20 0 [] [0]]⟩
def ex20r : TimeD := ⟨2, [lineOf20 0 [1, 1] [0, 1, 0]]⟩
def exrun : RunD := ⟨0, 100, 130⟩
theorem xr1 : Tt.runs ex20 100 101 = ([exrun], 0) := by kernel_rfl
theorem xr2 : timesT ex20 exrun = ([100, 110, 130], 0) := by kernel_rfl
theorem xr3 : timesT ex20 ⟨0, 100, 131⟩ = ([], 1) := by kernel_rfl
theorem xr4 : Tt.runs ⟨0, []⟩ 0 0 = ([], 0) := by kernel_rfl
theorem xr5 : Tt.runs ⟨0, []⟩ 1 0 = ([], 1) := by kernel_rfl
theorem xr6 : Tt.runs ex20 0 100 = ([], 0) := by kernel_rfl
theorem xr7 : Tt.isRun ex20 exrun = true := by kernel_rfl
theorem xr8 : Tt.isRun ex20 ⟨0, 0, 0⟩ = false := by kernel_rfl
theorem xr9 : Tt.chk ex20 = 0 := by kernel_rfl
theorem xr10 : Tt.chk ex20o = 200 := by kernel_rfl
theorem xr11 : Tt.chk ex20r = 200 := by kernel_rfl
def zline : LineD := ⟨[], [], 0, 0, [], []⟩
def ex20m : TimeD := ⟨0, List.replicate 65 zline⟩
theorem xr12 : Tt.chk ex20m = 2 := by kernel_rfl
theorem manyLit {w : World} {K : Value → World → Prop} (hK : ∀ v w', Sl w' v (List.replicate 65 zline) → Ext w w' → K v w') : SemW Try.prog (Instr.makeSlice 22 (.int .i64 65) (.int .i64 65)) w K := by
  refine SemW_makeC (n := 65) Try.underlying22 ti45 (by decide) (by decide) (by decide) fun p w1 hN => ?_
  have hm : (madeCells (Value.agg #[.slice none 0 0, .slice none 0 0, .int .i64 0, .int .i64 0, .slice none 0 0, .slice none 0 0]).cells (65 * 6)).toList = (List.replicate 65 (zline.cs (.slice none 0 0) (.slice none 0 0) (.slice none 0 0) (.slice none 0 0))).flatten := by kernel_rfl
  rw [hm] at hN
  refine hK _ w1 (Sl.of_row hN.row ⟨by simp, fun i h1 h2 => ?_⟩ (by simp) (by simp)) hN.ext
  rw [List.getElem_replicate, List.getElem_replicate]
  exact ⟨_, _, _, _, rfl, Sl.nil _, Sl.nil _, by simp [zline, I64], by simp [zline, I64], Sl.nil _, Sl.nil _⟩
/-- 't := api.Timetable{..}' -/
theorem timeVar {n : Int} {vl : Value} {ls : List LineD} {w : World} {K : Value → World → Prop} (hs : Sl w vl ls) (hK : ∀ p w', Ext w w' → (∀ w'', Ext w' w'' → AtN w'' p 0 ((⟨n, ls⟩ : TimeD).cs vl)) → K (.pointer (some p)) w') :
    SemW Try.prog (Instr.alloc 24 true (.tuple #[])) w (fun v w' => SemW Try.prog (Instr.storeAt 24 v (.agg ((⟨n, ls⟩ : TimeD).cs vl).toArray)) w' fun _ w'' => K v w'') :=
  SemW_var ti24 rfl rfl (by decide) (by simp [Value.cells, TimeD.cs, isS_o hs.s]; rfl) fun p w' h => hK p w' h.ext fun w'' x => by
    have := h.at_
    simp only [Value.cells, List.toList_toArray] at this
    exact (this.ext x).n
theorem timeBuild {n : Int} {vl : Value} {ls : List LineD} {w : World} (hs : Sl w vl ls) (w' : World) : (Instr.build 24 #[(0, .int .i64 n), (1, vl)]).run Try.prog w' = .ok (.agg ((⟨n, ls⟩ : TimeD).cs vl).toArray) w' := by
  rcases hs.s.ex with rfl | ⟨_, _, _, rfl⟩ <;> kernel_rfl
theorem timeBuild0 {vl : Value} {ls : List LineD} {w : World} (hs : Sl w vl ls) (w' : World) : (Instr.build 24 #[(1, vl)]).run Try.prog w' = .ok (.agg ((⟨0, ls⟩ : TimeD).cs vl).toArray) w' := by
  rcases hs.s.ex with rfl | ⟨_, _, _, rfl⟩ <;> kernel_rfl
set_option maxHeartbeats 4000000 in
theorem lawSane20 (w : World) : Calls Try.prog 9 #[] w fun e w' => e = .returned (.bool true) ∧ Ext w w' := by
  refine Calls_of_Run (args := []) (n := 143) (rs := [.tmp 0]) Try.func9 rfl rfl rfl (by simp) ?_
  (repeat with_reducible first | refine js ?_ | refine ja ?_ | refine jw KL9 [] TF9 fun _ => ?_)
  refine intLit20 [10, 20] rfl rfl (by decide) (by decide) fun va w1 sa x1 => ?_
  refine intLit20 [2, 0, 1] rfl rfl (by decide) (by decide) fun vb w2 sb x2 => ?_
  (repeat with_reducible first | refine js ?_ | refine ja ?_ | refine jw KL9 [] TF9 fun _ => ?_)
  refine lineW (sa.ext x2) sb (by decide) fun vr w3 x3 hR => ?_
  (repeat with_reducible first | refine js ?_ | refine ja ?_ | refine jw KL9 [] TF9 fun _ => ?_)
  refine linLit20 hR fun vl w4 sl x4 => ?_
  refine ⟨_, timeBuild sl, ?_⟩
  refine timeVar sl fun pt w5 x5 T => ?_
  have y5 := x1.trans (x2.trans (x3.trans (x4.trans x5)))
  have hl : ∀ w', Ext w5 w' → Sl w' vl ex20.Lines := fun w' x => sl.ext (x5.trans x)
  (repeat with_reducible first | refine js ?_ | refine ja ?_ | refine jw KL9 [] TF9 fun _ => ?_)
  refine ⟨.agg exrun.cs.toArray, fun _ => by kernel_rfl, ?_⟩
  refine SemW_var ti34 rfl rfl (by decide) rfl fun pr w6 h6 => ?_
  have x6 := h6.ext
  have R : ∀ w', Ext w6 w' → AtN w' pr 0 exrun.cs := fun w' x => by
    have := h6.at_
    simp only [Value.cells, List.toList_toArray] at this
    exact (this.ext x).n
  simp only [TimeD.cs, RunD.cs, exrun, AtN, KS, Nat.reduceAdd, Nat.reduceMul, Nat.reduceEqDiff, ↓reduceIte, UT] at T R
  have t6 := T w6 x6
  (repeat with_reducible first | refine js ?_ | refine ja ?_ | refine jw KL9 [] (aa TF9 t6) fun _ => ?_)
  refine runsW (t := ex20) xr1 (hl _ x6) fun v7 w7 x7 s7 => ?_
  have t7 := T w7 (x6.trans x7)
  have r7 := R w7 x7
  (repeat with_reducible first | refine js ?_ | refine ja ?_ | refine jw KL9 [] (aa TF9 (aa t7 r7)) fun _ => ?_)
  refine timesW (t := ex20) (r := exrun) xr2 (hl _ (x6.trans x7)) (by simp [RunI, exrun, I64]) fun v8 w8 x8 s8 => ?_
  have z8 := x7.trans x8
  have t8 := T w8 (x6.trans z8)
  (repeat with_reducible first | refine js ?_ | refine ja ?_ | refine jw KL9 [] (aa TF9 t8) fun _ => ?_)
  refine ⟨.agg (⟨0, 100, 131⟩ : RunD).cs.toArray, fun _ => by kernel_rfl, ?_⟩
  refine timesW (t := ex20) (r := ⟨0, 100, 131⟩) xr3 (hl _ (x6.trans z8)) (by simp [RunI, I64]) fun v9 w9 x9 s9 => ?_
  (repeat with_reducible first | refine js ?_ | refine ja ?_ | refine jw KL9 [] TF9 fun _ => ?_)
  refine ⟨.agg ((⟨0, []⟩ : TimeD).cs (.slice none 0 0)).toArray, fun _ => by kernel_rfl, ?_⟩
  refine runsW (t := ⟨0, []⟩) xr4 (Sl.nil _) fun v10 w10 x10 s10 => ?_
  (repeat with_reducible first | refine js ?_ | refine ja ?_ | refine jw KL9 [] TF9 fun _ => ?_)
  refine ⟨.agg ((⟨0, []⟩ : TimeD).cs (.slice none 0 0)).toArray, fun _ => by kernel_rfl, ?_⟩
  refine runsW (t := ⟨0, []⟩) xr5 (Sl.nil _) fun v11 w11 x11 s11 => ?_
  have z11 := z8.trans (x9.trans (x10.trans x11))
  have t11 := T w11 (x6.trans z11)
  (repeat with_reducible first | refine js ?_ | refine ja ?_ | refine jw KL9 [] (aa TF9 t11) fun _ => ?_)
  refine runsW (t := ex20) xr6 (hl _ (x6.trans z11)) fun v12 w12 x12 s12 => ?_
  have z12 := z11.trans x12
  (repeat with_reducible first | refine js ?_ | refine ja ?_ | refine jw KL9 [] TF9 fun _ => ?_)
  refine intLit20 [0] rfl rfl (by decide) (by decide) fun vc w13 sc x13 => ?_
  (repeat with_reducible first | refine js ?_ | refine ja ?_ | refine jw KL9 [] TF9 fun _ => ?_)
  refine lineW (legs := []) (Sl.nil _) sc (by decide) fun vq w14 x14 hQ => ?_
  (repeat with_reducible first | refine js ?_ | refine ja ?_ | refine jw KL9 [] TF9 fun _ => ?_)
  refine linLit20 hQ fun vo w15 so x15 => ?_
  refine ⟨_, timeBuild so, ?_⟩
  refine timeVar so fun po w16 x16 O => ?_
  (repeat with_reducible first | refine js ?_ | refine ja ?_ | refine jw KL9 [] TF9 fun _ => ?_)
  refine intLit20 [1, 1] rfl rfl (by decide) (by decide) fun vd w17 sd x17 => ?_
  refine intLit20 [0, 1, 0] rfl rfl (by decide) (by decide) fun ve w18 se x18 => ?_
  (repeat with_reducible first | refine js ?_ | refine ja ?_ | refine jw KL9 [] TF9 fun _ => ?_)
  refine lineW (sd.ext x18) se (by decide) fun vf w19 x19 hF => ?_
  (repeat with_reducible first | refine js ?_ | refine ja ?_ | refine jw KL9 [] TF9 fun _ => ?_)
  refine linLit20 hF fun vg w20 sg x20 => ?_
  refine ⟨_, timeBuild sg, ?_⟩
  refine timeVar sg fun pg w21 x21 D => ?_
  (repeat with_reducible first | refine js ?_ | refine ja ?_ | refine jw KL9 [] TF9 fun _ => ?_)
  refine manyLit fun vm w22 sm x22 => ?_
  refine ⟨_, timeBuild0 sm, ?_⟩
  refine timeVar sm fun pm w23 x23 M => ?_
  simp only [TimeD.cs, AtN, KS, Nat.reduceAdd, Nat.reduceMul, Nat.reduceEqDiff, ↓reduceIte, UT] at O D M
  clear hR hQ hF sa sb sc sd se
  have e23 : Ext w12 w23 := x13.trans (x14.trans (x15.trans (x16.trans (x17.trans (x18.trans (x19.trans (x20.trans (x21.trans (x22.trans x23)))))))))
  have o23 : Ext w16 w23 := x17.trans (x18.trans (x19.trans (x20.trans (x21.trans (x22.trans x23)))))
  have d23 : Ext w21 w23 := x22.trans x23
  (repeat with_reducible first | refine js ?_ | refine ja ?_ | refine jw KL9 [] (aa TF9 KX) fun _ => ?_)
  have t23 := T w23 (x6.trans (z12.trans e23))
  have r23 := R w23 (z12.trans e23)
  (repeat with_reducible first | refine js ?_ | refine ja ?_ | refine jw KL9 [] (aa TF9 (aa t23 (aa r23 KX))) fun _ => ?_)
  refine .inl ⟨by decide, ?_⟩
  refine runLit20 (x := exrun) (by simp [RunI, exrun, I64]) fun vx w24 sx x24 => ?_
  unfold hush
  have t24 := T w24 (x6.trans (z12.trans (e23.trans x24)))
  have r24 := R w24 (z12.trans (e23.trans x24))
  (repeat with_reducible first | refine js ?_ | refine ja ?_ | refine jw KL9 [] (aa TF9 (aa t24 (aa r24 KX))) fun _ => ?_)
  refine .inl (.inl ⟨by decide, ?_⟩)
  refine same20W (b := true) (by decide) (s7.ext (x8.trans (x9.trans (x10.trans (x11.trans (x12.trans (e23.trans x24))))))) sx fun w25 x25 => ?_
  unfold hush
  have t25 := T w25 (x6.trans (z12.trans (e23.trans (x24.trans x25))))
  have r25 := R w25 (z12.trans (e23.trans (x24.trans x25)))
  (repeat with_reducible first | refine js ?_ | refine ja ?_ | refine jw KL9 [] (aa TF9 (aa t25 (aa r25 KX))) fun _ => ?_)
  have x25' := x24.trans x25
  refine .inl ⟨by decide, ?_⟩
  refine intLit20 [100, 110, 130] rfl rfl (by decide) (by decide) fun vy w26 sy x26 => ?_
  unfold hush
  have q26 : Ext w12 w26 := e23.trans (x25'.trans x26)
  have t26 := T w26 (x6.trans (z12.trans q26))
  have r26 := R w26 (z12.trans q26)
  (repeat with_reducible first | refine js ?_ | refine ja ?_ | refine jw KL9 [] (aa TF9 (aa t26 (aa r26 KX))) fun _ => ?_)
  refine .inl (.inl ⟨by decide, ?_⟩)
  refine sameI20W (b := true) (by decide) (s8.ext (x9.trans (x10.trans (x11.trans (x12.trans q26))))) sy fun w27 x27 => ?_
  unfold hush
  have q27 := q26.trans x27
  have t27 := T w27 (x6.trans (z12.trans q27))
  have r27 := R w27 (z12.trans q27)
  have l10 : slLen v10 = 0 := s10.len
  have l12 : slLen v12 = 0 := s12.len
  (repeat with_reducible first | refine js ?_ | refine ja ?_ | refine jw KL9 [] (aa TF9 (aa t27 (aa r27 (aa s10.s (aa l10 (aa s12.s (aa l12 KX))))))) fun _ => ?_)
  refine .inl (.inl ⟨by decide, ?_⟩)
  refine isTW (t := ex20) (r := exrun) xr7 (hl _ (x6.trans (z12.trans q27))) (by simp [RunI, exrun, I64]) fun w28 x28 => ?_
  unfold hush
  have q28 := q27.trans x28
  have t28 := T w28 (x6.trans (z12.trans q28))
  have r28 := R w28 (z12.trans q28)
  (repeat with_reducible first | refine js ?_ | refine ja ?_ | refine jw KL9 [] (aa TF9 (aa t28 (aa r28 (aa s10.s (aa l10 (aa s12.s (aa l12 KX))))))) fun _ => ?_)
  refine ⟨.agg (⟨0, 0, 0⟩ : RunD).cs.toArray, fun _ _ => by kernel_rfl, .inl (.inl ⟨by decide, ?_⟩)⟩
  refine isTW (t := ex20) (r := ⟨0, 0, 0⟩) xr8 (hl _ (x6.trans (z12.trans q28))) (by simp [RunI, I64]) fun w29 x29 => ?_
  unfold hush
  have q29 := q28.trans x29
  have t29 := T w29 (x6.trans (z12.trans q29))
  (repeat with_reducible first | refine js ?_ | refine ja ?_ | refine jw KL9 [] (aa TF9 (aa t29 (aa s10.s (aa l10 (aa s12.s (aa l12 KX)))))) fun _ => ?_)
  refine .inl (.inl ⟨by decide, ?_⟩)
  refine chkW (t := ex20) xr9 (hl _ (x6.trans (z12.trans q29))) fun w30 x30 => ?_
  unfold hush
  have q30 := q29.trans x30
  have c30 : Ext w23 w30 := x25'.trans (x26.trans (x27.trans (x28.trans (x29.trans x30))))
  have t30 := O w30 (o23.trans c30)
  (repeat with_reducible first | refine js ?_ | refine ja ?_ | refine jw KL9 [] (aa TF9 (aa t30 (aa s10.s (aa l10 (aa s12.s (aa l12 KX)))))) fun _ => ?_)
  refine .inl (.inl ⟨by decide, ?_⟩)
  refine chkW (t := ex20o) xr10 (so.ext (x16.trans (o23.trans c30))) fun w31 x31 => ?_
  unfold hush
  have c31 := c30.trans x31
  have t31 := D w31 (d23.trans c31)
  (repeat with_reducible first | refine js ?_ | refine ja ?_ | refine jw KL9 [] (aa TF9 (aa t31 (aa s10.s (aa l10 (aa s12.s (aa l12 KX)))))) fun _ => ?_)
  refine .inl (.inl ⟨by decide, ?_⟩)
  refine chkW (t := ex20r) xr11 (sg.ext (x21.trans (d23.trans c31))) fun w32 x32 => ?_
  unfold hush
  have c32 := c31.trans x32
  have t32 := M w32 c32
  (repeat with_reducible first | refine js ?_ | refine ja ?_ | refine jw KL9 [] (aa TF9 (aa t32 (aa s10.s (aa l10 (aa s12.s (aa l12 KX)))))) fun _ => ?_)
  refine .inl (.inl ⟨by decide, ?_⟩)
  refine chkW (t := ex20m) xr12 (sm.ext (x23.trans c32)) fun w33 x33 => ?_
  unfold hush
  (repeat with_reducible first | refine js ?_ | refine ja ?_ | refine jw KL9 [] (aa TF9 (aa s10.s (aa l10 (aa s12.s (aa l12 KX))))) fun _ => ?_)
  refine Run_ret ?_
  simp [Rets, RetM, resV, fnd, oneOr]
  have := c32.trans x33
  exact y5.trans (x6.trans (z12.trans (e23.trans this)))
theorem sane20W {w : World} {K : Value → World → Prop} (hK : ∀ w', Ext w w' → K (.bool true) w') : CallW Try.prog (.func (.func 9) #[] #[]) [] w K :=
  CallW_pure call9 (lawSane20 w) hK
end Go.Proofs.Ytpiijpgfgcbfaaa
