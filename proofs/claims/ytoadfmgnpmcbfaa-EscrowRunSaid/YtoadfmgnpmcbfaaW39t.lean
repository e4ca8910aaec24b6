/- Chapter 39: the examples. -/
import Derived.Test.YtoadfmgnpmcbfaaW39s
namespace Go.Proofs.Ytoadfmgnpmcbfaa
open Go Go.Fk
set_option linter.unusedSimpArgs false
set_option linter.unusedVariables false
set_option maxRecDepth 100000

section
variable {vl u0 u1 u2 vo v0 v1 v2 : Value} {t : TimeD} {f : TariffD} {l : List OrderD} {p : PlanD} {run handed : Int} {r : List MoveD × Int} {w : World} {K : Value → World → Prop}
theorem postW (h : Ec.post t f l p = r) (hl : Sl w vl t.Lines) (hT : TarR w f u0 u1 u2) (ho : Sl w vo l) (hP : PlanR w p v0 v1 v2) (hK : ∀ v w', Ext w w' → Sl w' v r.1 → K (.tuple #[v, .int .i64 r.2]) w') :
    CallW Try.prog (.func (.func 9) #[] #[]) [.agg #[.int .i64 t.Offices, vl], .agg #[u0, u1, u2], vo, .agg #[v0, v1, v2]] w K := by
  subst h; exact CallW_gen call9 (esPost vl u0 u1 u2 vo v0 v1 v2 t f l p w hl hT ho hP) fun e w' ⟨v, he, x, hs⟩ => ⟨_, he, hK v w' x hs⟩
theorem payW (h : Ec.pay t f l p run handed = r) (hl : Sl w vl t.Lines) (hT : TarR w f u0 u1 u2) (ho : Sl w vo l) (hP : PlanR w p v0 v1 v2) (hr : I64 run) (hK : ∀ v w', Ext w w' → Sl w' v r.1 → K (.tuple #[v, .int .i64 r.2]) w') :
    CallW Try.prog (.func (.func 6) #[] #[]) [.agg #[.int .i64 t.Offices, vl], .agg #[u0, u1, u2], vo, .agg #[v0, v1, v2], .int .i64 run, .int .i64 handed] w K := by
  subst h; exact CallW_gen call6 (esPay vl u0 u1 u2 vo v0 v1 v2 t f l p run handed w hl hT ho hP hr) fun e w' ⟨v, he, x, hs⟩ => ⟨_, he, hK v w' x hs⟩
end
theorem movesB {w : World} {K : Value → World → Prop} (vs : List Value) (xs : List MoveD) {parts : Array (Nat × Value)} {n : Nat} (hp : parts.toList = vs.zipIdx.map fun p => (p.2, p.1)) (hn : n = vs.length) (hv : vs = xs.map fun m => .agg m.cs.toArray) (hI : ∀ m ∈ xs, MoveD.I m) (hs : n ≤ 1000)
    (hK : ∀ v w', Sl w' v xs → Ext w w' → K v w') : SemW Try.prog (Instr.buildSlice 35 n parts) w K :=
  SemW_buildF (α := MoveD) (W := w) Try.underlying35 ti41 rfl (by decide) (Ext.refl _) vs xs hp hn (by subst hv; exact ⟨by simp, fun i h1 h2 => by simp [Value.cells]; exact ⟨rfl, hI _ (List.getElem_mem h2)⟩⟩) (by show n * 6 ≤ _; omega) fun p w' _ hs hx => hK _ w' hs hx
def exLg (n : Int) : MoveD := ⟨n, 2, 3 + n, 3, 2, 0⟩
def exPost : List MoveD := [⟨0, 51, 2, 22, 1, 0⟩]
def exSome : List MoveD := [exLg 0, exLg 1, ⟨2, 2, 51, 16, 4, 0⟩]
def exAll : List MoveD := [exLg 0, exLg 1, exLg 2, exLg 3, ⟨4, 2, 1, 10, 3, 0⟩]
def exBack : List MoveD := [⟨0, 2, 51, 22, 4, 0⟩]
def exP0 : PlanD := ⟨[], [], []⟩
theorem xp1 : Ec.post exT exF [exO] exP = (exPost, 0) := by kernel_rfl
theorem xa2 : Ec.pay exT exF [exO] exP 0 2 = (exSome, 0) := by kernel_rfl
theorem xa4 : Ec.pay exT exF [exO] exP 0 4 = (exAll, 0) := by kernel_rfl
theorem xa0 : Ec.pay exT exF [exO] exP 0 0 = (exBack, 0) := by kernel_rfl
theorem xp0 : Ec.post exT exF [] exP0 = ([], 0) := by kernel_rfl
theorem xp2 : Ec.post exT exF [exO] exP0 = ([], 220) := by kernel_rfl
theorem xan : Ec.pay exT exF [] exP0 0 0 = ([], 1) := by kernel_rfl
theorem xa5 : Ec.pay exT exF [exO] exP 0 5 = ([], 1) := by kernel_rfl
theorem lawLeg (n : Int) (w : World) (hn : 0 ≤ n ∧ n ≤ 100) : Calls Try.prog 10 #[.int .i64 n] w fun e w' => e = .returned (.agg (exLg n).cs.toArray) ∧ Ext w w' := by
  refine Calls_of_Run (args := [.int .i64 n]) (n := 7) (rs := [.cell 2 41]) Try.func10 rfl rfl rfl (by simp) ?_
  (repeat with_reducible first | refine js ?_ | refine ja ?_ | refine jw KL10 [] TF10 fun _ => ?_)
  refine SemW_allocT ti41 fun p w1 h1 => ?_
  have b1 := h1.blk
  (repeat with_reducible first | refine js ?_ | refine ja ?_ | refine jw KL10 [] TF10 fun _ => ?_)
  refine ⟨.agg (exLg n).cs.toArray, fun w' => by kernel_rfl, ?_⟩
  refine SemW_setW (by rw [cells41]; decide) (by rw [cells41]; rfl) h1.row (by rw [cells41]; rfl) rfl fun w2 r2 k2 z2 => ?_
  (repeat with_reducible first | refine js ?_ | refine ja ?_ | refine jw KL10 [] TF10 fun _ => ?_)
  have r2 : Row w2 p 41 (exLg n).cs := r2
  refine Run_ret ?_
  simp only [Rets, RetM, resV, fnd, oneOr, ↓reduceIte]
  refine ⟨p, _, rfl, loadVar_at (by kernel_rfl) (by rw [cells41]; decide) (by rw [cells41]; rfl) r2.at_, rfl, Keep.ext h1.ext k2 fun k hk => by omega⟩
theorem legW {n : Int} {w : World} {K : Value → World → Prop} (hn : 0 ≤ n ∧ n ≤ 100) (hK : ∀ w', Ext w w' → K (.agg #[.int .i64 n, .int .i64 2, .int .i64 (3 + n), .int .i64 3, .int .i64 2, .int .i64 0]) w') : CallW Try.prog (.func (.func 10) #[] #[]) [.int .i64 n] w K :=
  CallW_pure call10 (lawLeg n w hn) hK
set_option maxHeartbeats 4000000 in
theorem lawSane (w : World) : Calls Try.prog 4 #[] w fun e w' => e = .returned (.bool true) ∧ Ext w w' := by
  refine Calls_of_Run (args := []) (n := 159) (rs := [.tmp 0]) Try.func4 rfl rfl rfl (by simp) ?_
  (repeat with_reducible first | refine js ?_ | refine ja ?_ | refine jw KL4 [] TF4 fun _ => ?_)
  refine CallW_gen call8 (lawWorld w) fun e w1 ⟨vl, u0, u1, u2, vo, v0, v1, v2, he, sl, hT, ho, hP, x1⟩ => ⟨_, he, ?_⟩
  have il := isS_o sl.s
  (repeat with_reducible first | refine js ?_ | refine ja ?_ | refine jw KL4 [] TF4 fun _ => ?_)
  refine SemW_allocT ti24 fun pt w2 h2 => SemW_allocT ti28 fun pf w3 h3 => SemW_allocT ti32 fun pp w4 h4 => ?_
  have b2 := h2.blk
  have b3 := h3.blk
  have b4 := h4.blk
  have z2 := h2.size
  have z3 := h3.size
  have z4 := h4.size
  refine SemW_setW (by rw [cells24]; decide) (by rw [cells24]; rfl) (h2.row.ext (h3.ext.trans h4.ext)) (by rw [cells24]; rfl) (by simp [Value.cells, TimeD.cs, il]; rfl) fun w5 r5 k5 s5 => ?_
  have g3 := (h3.row.ext h4.ext).keep k5 (by show pf.block ≠ pt.block; omega)
  have g4 := h4.row.keep k5 (by show pp.block ≠ pt.block; omega)
  refine SemW_setW (by rw [cells28]; decide) (by rw [cells28]; rfl) g3 (by rw [cells28]; rfl) (by simp [Value.cells, TariffD.cs, isS_o hT.b.s, isS_o hT.l.s, isS_o hT.t.s]) fun w6 r6 k6 s6 => ?_
  have g5 := r5.keep k6 (by show pt.block ≠ pf.block; omega)
  have g4 := g4.keep k6 (by show pp.block ≠ pf.block; omega)
  refine SemW_setW (by rw [cells32]; decide) (by rw [cells32]; rfl) g4 (by rw [cells32]; rfl) (by simp [Value.cells, PlanD.cs, isS_o hP.r.s, isS_o hP.o.s, isS_o hP.c.s]) fun w7 r7 k7 s7 => ?_
  have rt := g5.keep k7 (by show pt.block ≠ pp.block; omega)
  have rf := r6.keep k7 (by show pf.block ≠ pp.block; omega)
  have e7 : Ext w1 w7 := Keep.ext (Keep.ext (Keep.ext (h2.ext.trans (h3.ext.trans h4.ext)) k5 fun k hk => by omega) k6 fun k hk => by omega) k7 fun k hk => by omega
  have T : ∀ w', Ext w7 w' → AtN w' pt 0 (exT.cs vl) := fun w' x => ((rt.ext x).at_).n
  have F : ∀ w', Ext w7 w' → AtN w' pf 0 (exF.cs u0 u1 u2) := fun w' x => ((rf.ext x).at_).n
  have P : ∀ w', Ext w7 w' → AtN w' pp 0 (exP.cs v0 v1 v2) := fun w' x => ((r7.ext x).at_).n
  simp only [TimeD.cs, TariffD.cs, PlanD.cs, AtN, KS, Nat.reduceAdd, Nat.reduceMul, Nat.reduceEqDiff, ↓reduceIte, UT] at T F P
  have t7 := T _ (Ext.refl _)
  have f7 := F _ (Ext.refl _)
  have p7 := P _ (Ext.refl _)
  have N : ∀ w', PlanR w' exP0 (.slice none 0 0) (.slice none 0 0) (.slice none 0 0) := fun w' => ⟨Sl.nil _, Sl.nil _, Sl.nil _⟩
  have i0 : I64 0 := by simp [I64]
  (repeat with_reducible first | refine js ?_ | refine ja ?_ | refine jw KL4 [] (aa TF4 (aa t7 (aa f7 p7))) fun _ => ?_)
  refine postW xp1 (sl.ext e7) (hT.ext e7) (ho.ext e7) (hP.ext e7) fun m1 w8 x8 q1 => ?_
  have y8 := e7.trans x8
  have t8 := T _ x8
  have f8 := F _ x8
  have p8 := P _ x8
  (repeat with_reducible first | refine js ?_ | refine ja ?_ | refine jw KL4 [] (aa TF4 (aa t8 (aa f8 p8))) fun _ => ?_)
  refine payW xa2 (sl.ext y8) (hT.ext y8) (ho.ext y8) (hP.ext y8) i0 fun m2 w9 x9 q2 => ?_
  have y9 := y8.trans x9
  have t9 := T _ (x8.trans x9)
  have f9 := F _ (x8.trans x9)
  have p9 := P _ (x8.trans x9)
  (repeat with_reducible first | refine js ?_ | refine ja ?_ | refine jw KL4 [] (aa TF4 (aa t9 (aa f9 p9))) fun _ => ?_)
  refine payW xa4 (sl.ext y9) (hT.ext y9) (ho.ext y9) (hP.ext y9) i0 fun m3 w10 x10 q3 => ?_
  have y10 := y9.trans x10
  have z10 := x8.trans (x9.trans x10)
  have t10 := T _ z10
  have f10 := F _ z10
  have p10 := P _ z10
  (repeat with_reducible first | refine js ?_ | refine ja ?_ | refine jw KL4 [] (aa TF4 (aa t10 (aa f10 p10))) fun _ => ?_)
  refine payW xa0 (sl.ext y10) (hT.ext y10) (ho.ext y10) (hP.ext y10) i0 fun m4 w11 x11 q4 => ?_
  have y11 := y10.trans x11
  have z11 := z10.trans x11
  have t11 := T _ z11
  have f11 := F _ z11
  (repeat with_reducible first | refine js ?_ | refine ja ?_ | refine jw KL4 [] (aa TF4 (aa t11 f11)) fun _ => ?_)
  refine ⟨.agg #[.slice none 0 0, .slice none 0 0, .slice none 0 0], fun _ => by kernel_rfl, ?_⟩
  refine postW (p := exP0) xp0 (sl.ext y11) (hT.ext y11) (Sl.nil _) (N _) fun m5 w12 x12 q5 => ?_
  have y12 := y11.trans x12
  have z12 := z11.trans x12
  have t12 := T _ z12
  have f12 := F _ z12
  (repeat with_reducible first | refine js ?_ | refine ja ?_ | refine jw KL4 [] (aa TF4 (aa t12 f12)) fun _ => ?_)
  refine ⟨.agg #[.slice none 0 0, .slice none 0 0, .slice none 0 0], fun _ => by kernel_rfl, ?_⟩
  refine postW (p := exP0) xp2 (sl.ext y12) (hT.ext y12) (ho.ext y12) (N _) fun m6 w13 x13 q6 => ?_
  have y13 := y12.trans x13
  have z13 := z12.trans x13
  have t13 := T _ z13
  have f13 := F _ z13
  (repeat with_reducible first | refine js ?_ | refine ja ?_ | refine jw KL4 [] (aa TF4 (aa t13 f13)) fun _ => ?_)
  refine ⟨.agg #[.slice none 0 0, .slice none 0 0, .slice none 0 0], fun _ => by kernel_rfl, ?_⟩
  refine payW (p := exP0) xan (sl.ext y13) (hT.ext y13) (Sl.nil _) (N _) i0 fun m7 w14 x14 q7 => ?_
  have y14 := y13.trans x14
  have z14 := z13.trans x14
  have t14 := T _ z14
  have f14 := F _ z14
  have p14 := P _ z14
  (repeat with_reducible first | refine js ?_ | refine ja ?_ | refine jw KL4 [] (aa TF4 (aa t14 (aa f14 p14))) fun _ => ?_)
  refine payW xa5 (sl.ext y14) (hT.ext y14) (ho.ext y14) (hP.ext y14) i0 fun m8 w15 x15 q8 => ?_
  have y15 := y14.trans x15
  (repeat with_reducible first | refine js ?_ | refine ja ?_ | refine jw KL4 [] (aa TF4 (aa q5.s (aa q5.len (aa @List.length_nil.{0} (aa @beq_self_eq_true.{0} (aa @bne_self_eq_false.{0} KX)))))) fun _ => ?_)
  refine Run_condS (fun _ => rfl) (fun h => by cases h) (fun _ => ?_)
  (repeat with_reducible first | refine js ?_ | refine ja ?_ | refine jw KL4 [] (aa TF4 (aa q1.s KX)) fun _ => ?_)
  refine ⟨.agg (⟨0, 51, 2, 22, 1, 0⟩ : MoveD).cs.toArray, fun _ => by kernel_rfl, ?_⟩
  refine movesB [_] exPost rfl rfl rfl (by simp [exPost, MoveD.I, I64]) (by decide) fun va w16 sa x16 => ?_
  have xb : Ext w8 w15 := x9.trans (x10.trans (x11.trans (x12.trans (x13.trans (x14.trans x15)))))
  refine sameW (b := true) (by decide) (q1.ext (xb.trans x16)) sa fun w17 x17 => ?_
  refine ⟨rfl, .inl (.inl ⟨rfl, legW (n := 0) (by omega) fun w18 x18 => ?_⟩)⟩
  unfold hush
  (repeat with_reducible first | refine js ?_ | refine ja ?_ | refine jw KL4 [] (aa TF4 (aa q2.s KX)) fun _ => ?_)
  refine .inl (legW (n := 1) (by omega) fun w19 x19 => ?_)
  unfold hush
  (repeat with_reducible first | refine js ?_ | refine ja ?_ | refine jw KL4 [] (aa TF4 (aa q2.s KX)) fun _ => ?_)
  refine ⟨.agg (⟨2, 2, 51, 16, 4, 0⟩ : MoveD).cs.toArray, fun _ => by kernel_rfl, ?_⟩
  refine movesB [_, _, _] exSome rfl rfl rfl (by simp [exSome, exLg, MoveD.I, I64]) (by decide) fun vb w20 sb x20 => ?_
  have xc : Ext w9 w20 := x10.trans (x11.trans (x12.trans (x13.trans (x14.trans (x15.trans (x16.trans (x17.trans (x18.trans (x19.trans x20)))))))))
  unfold hush
  (repeat with_reducible first | refine js ?_ | refine ja ?_ | refine jw KL4 [] (aa TF4 (aa q2.s KX)) fun _ => ?_)
  refine .inl (sameW (b := true) (by decide) (q2.ext xc) sb fun w21 x21 => ?_)
  unfold hush
  (repeat with_reducible first | refine js ?_ | refine ja ?_ | refine jw KL4 [] (aa TF4 KX) fun _ => ?_)
  refine Run_condS (fun _ => rfl) (fun h => by cases h) (fun _ => ?_)
  have xd : Ext w10 w21 := x11.trans (x12.trans (x13.trans (x14.trans (x15.trans (x16.trans (x17.trans (x18.trans (x19.trans (x20.trans x21)))))))))
  (repeat with_reducible first | refine js ?_ | refine ja ?_ | refine jw KL4 [] (aa TF4 KX) fun _ => ?_)
  refine legW (n := 0) (by omega) fun w22 x22 => legW (n := 1) (by omega) fun w23 x23 => legW (n := 2) (by omega) fun w24 x24 => legW (n := 3) (by omega) fun w25 x25 => ?_
  refine ⟨.agg (⟨4, 2, 1, 10, 3, 0⟩ : MoveD).cs.toArray, fun _ => by kernel_rfl, ?_⟩
  refine movesB [_, _, _, _, _] exAll rfl rfl rfl (by simp [exAll, exLg, MoveD.I, I64]) (by decide) fun vc w26 sc x26 => ?_
  have xe : Ext w21 w26 := x22.trans (x23.trans (x24.trans (x25.trans x26)))
  refine sameW (b := true) (by decide) (q3.ext (xd.trans xe)) sc fun w27 x27 => ?_
  refine ⟨.agg (⟨0, 2, 51, 22, 4, 0⟩ : MoveD).cs.toArray, fun _ _ => by kernel_rfl, .inl ⟨rfl, ?_⟩⟩
  refine movesB [_] exBack rfl rfl rfl (by simp [exBack, MoveD.I, I64]) (by decide) fun vd w28 sd x28 => ?_
  unfold hush
  (repeat with_reducible first | refine js ?_ | refine ja ?_ | refine jw KL4 [] (aa TF4 (aa q4.s KX)) fun _ => ?_)
  have xf : Ext w11 w28 := x12.trans (x13.trans (x14.trans (x15.trans (x16.trans (x17.trans (x18.trans (x19.trans (x20.trans (x21.trans (xe.trans (x27.trans x28)))))))))))
  refine .inl (sameW (b := true) (by decide) (q4.ext xf) sd fun w29 x29 => ?_)
  unfold hush
  (repeat with_reducible first | refine js ?_ | refine ja ?_ | refine jw KL4 [] (aa TF4 KX) fun _ => ?_)
  refine Run_ret ?_
  simp [Rets, RetM, resV, fnd, oneOr]
  exact x1.trans (y11.trans (xf.trans x29))
theorem saneW {w : World} {K : Value → World → Prop} (hK : ∀ w', Ext w w' → K (.bool true) w') : CallW Try.prog (.func (.func 4) #[] #[]) [] w K :=
  CallW_pure call4 (lawSane w) hK
end Go.Proofs.Ytoadfmgnpmcbfaa
