import Derived.Test.YtbfhenoiienghaaGreatRbX24a
import Derived.Test.YtbfhenoiienghaaGreatRbW20v
namespace Go.Proofs.YtbfhenoiienghaaGreat
open Go Go.Fk
set_option linter.unusedSimpArgs false
set_option linter.unusedVariables false
set_option maxRecDepth 100000
theorem runLit24 {w : World} {r : RunD} (hr : RunI r) {K : Value → World → Prop} (hK : ∀ v w', Sl w' v [r] → Ext w w' → K v w') : SemW Tryz.prog (Instr.buildSlice 30 1 #[(0, .agg #[.int .i64 r.Line, .int .i64 r.At, .int .i64 r.Arrive])]) w K :=
  runLit22 [r] rfl rfl (fun x hx => by rw [List.mem_singleton.1 hx]; exact hr) (by decide) hK
set_option maxHeartbeats 4000000 in
theorem lwSane24 (w : World) : Calls Tryz.prog 14 #[] w fun e w' => e = .returned (.bool true) ∧ Ext w w' := by
  refine Calls_of_Run (args := []) (n := 153) (rs := [.tmp 0]) Tryz.func14 rfl rfl rfl (by simp) ?_
  (repeat with_reducible first | refine js ?_ | refine ja ?_ | refine jw KL14 [] TF14 fun _ => ?_)
  refine CallW_gen call43 (lwWorld24 w) fun e w1 ⟨vl, u0, u1, he1, x1, sl1, sf1⟩ => ⟨_, he1, ?_⟩
  (repeat with_reducible first | refine js ?_ | refine ja ?_ | refine jw KL14 [] TF14 fun _ => ?_)
  refine SemW_allocT ti24 fun pt w2 h2 => SemW_allocT ti28 fun pf w3 h3 => SemW_allocT ti48 fun po w4 h4 => ?_
  have b2 := h2.blk
  have b3 := h3.blk
  have b4 := h4.blk
  have s2 := h2.size
  have s3 := h3.size
  have s4 := h4.size
  refine SemW_setW (by rw [cells24]; decide) (by rw [cells24]; rfl) (h2.row.ext (h3.ext.trans h4.ext)) (by rw [cells24]; rfl) (by simp [Value.cells, e24T, TimeD.cs, isS_o sl1.s]; rfl) fun w5 r5 k5 z5 => ?_
  have r5 : Row w5 pt 24 (e24T.cs vl) := r5
  refine SemW_setW (by rw [cells28]; decide) (by rw [cells28]; rfl) ((h3.row.ext h4.ext).keep k5 (show pf.block ≠ pt.block by omega)) (by rw [cells28]; rfl) (by simp [Value.cells, e24F, TariffD.cs, isS_o sf1.b.s, isS_o sf1.l.s]; rfl) fun w6 r6 k6 z6 => ?_
  have r6 : Row w6 pf 28 (e24F.cs u0 u1 (.slice none 0 0)) := r6
  refine SemW_setW (by rw [cells48]; decide) (by rw [cells48]; rfl) ((h4.row.keep k5 (show po.block ≠ pt.block by omega)).keep k6 (show po.block ≠ pf.block by omega)) (by rw [cells48]; rfl) rfl fun w7 r7 k7 z7 => ?_
  have r7 : Row w7 po 48 (e24O.cs (.slice none 0 0)) := r7
  have rt := (r5.keep k6 (show pt.block ≠ pf.block by omega)).keep k7 (show pt.block ≠ po.block by omega)
  have rf := r6.keep k7 (show pf.block ≠ po.block by omega)
  have x17 : Ext w1 w7 := extKeep (extKeep (extKeep (h2.ext.trans (h3.ext.trans h4.ext)) k5 (by omega)) k6 (by omega)) k7 (by omega)
  have hl := sl1.ext x17
  have hT := sf1.ext x17
  have y7 := x1.trans x17
  clear he1 k5 k6 k7 r5 r6 h2 h3 h4 z5 z6 z7 sl1 sf1 s2 s3 s4 b2 b3 b4
  have T := fun w' (x : Ext w7 w') => (rt.ext x).n
  have F := fun w' (x : Ext w7 w') => (rf.ext x).n
  have O := fun w' (x : Ext w7 w') => (r7.ext x).n
  simp only [TimeD.cs, TariffD.cs, OrderD.cs, AtN, KS, Nat.reduceAdd, Nat.reduceMul, Nat.reduceEqDiff, ↓reduceIte, UT] at T F O
  have hO : ∀ w', OrdR w' e24O (.slice none 0 0) := fun w' => ⟨by simp [e24O, I64], by simp [e24O, I64], by simp [e24O, I64], by simp [e24O, I64], by simp [e24O, I64], by simp [e24O, I64], by simp [e24O, I64], by simp [e24O, I64], Sl.nil _, by simp [e24O, I64]⟩
  have ha : RunI e24a := by simp [RunI, e24a, I64]
  have hb : RunI e24b := by simp [RunI, e24b, I64]
  (repeat with_reducible first | refine js ?_ | refine ja ?_ | refine jw KL14 [] TF14 fun _ => ?_)
  refine ⟨.agg e24a.cs.toArray, fun _ => by kernel_rfl, ?_⟩
  refine ⟨.agg e24b.cs.toArray, fun _ => by kernel_rfl, ?_⟩
  refine SemW_allocT ti50 fun pa w8 h8 => SemW_allocT ti50 fun pb w9 h9 => ?_
  have b8 := h8.blk
  have b9 := h9.blk
  have s8 := h8.size
  refine SemW_setW (by rw [cells50]; decide) (by rw [cells50]; rfl) (h8.row.ext h9.ext) (by rw [cells50]; rfl) rfl fun w10 r10 k10 z10 => ?_
  have r10 : Row w10 pa 50 e24a.cs := r10
  refine SemW_setW (by rw [cells50]; decide) (by rw [cells50]; rfl) (h9.row.keep k10 (show pb.block ≠ pa.block by omega)) (by rw [cells50]; rfl) rfl fun w11 r11 k11 z11 => ?_
  have r11 : Row w11 pb 50 e24b.cs := r11
  have ra := r10.keep k11 (show pa.block ≠ pb.block by omega)
  have x711 : Ext w7 w11 := extKeep (extKeep (h8.ext.trans h9.ext) k10 (by omega)) k11 (by omega)
  clear r10 k10 k11 z10 z11 h8 h9
  have A := fun w' (x : Ext w11 w') => (ra.ext x).n
  have B := fun w' (x : Ext w11 w') => (r11.ext x).n
  simp only [RunD.cs, AtN, KS, Nat.reduceAdd, Nat.reduceMul, Nat.reduceEqDiff, ↓reduceIte, UT] at A B
  have a11 := A w11 (Ext.refl _)
  (repeat with_reducible first | refine js ?_ | refine ja ?_ | refine jw KL14 [] (aa TF14 a11) fun _ => ?_)
  refine runLit24 ha fun va w12 sa x12 => ?_
  refine intLit22 [0] rfl rfl (by decide) (by decide) fun vb w13 sb x13 => ?_
  refine intLit22 [1] rfl rfl (by decide) (by decide) fun vc w14 sc x14 => ?_
  have hP14 : PlanR w14 e24p va vb vc := ⟨sa.ext (x13.trans x14), sb.ext x14, sc⟩
  refine ⟨.agg (e24p.cs va vb vc).toArray, fun w' => planBuild hP14 w', ?_⟩
  refine planVar (p := e24p) hP14 fun pp w15 x15 P15 => ?_
  have x1115 := x12.trans (x13.trans (x14.trans x15))
  have b15 := B w15 x1115
  (repeat with_reducible first | refine js ?_ | refine ja ?_ | refine jw KL14 [] (aa TF14 b15) fun _ => ?_)
  refine runLit24 hb fun va' w16 sa' x16 => ?_
  refine intLit22 [0] rfl rfl (by decide) (by decide) fun vb' w17 sb' x17' => ?_
  refine intLit22 [1] rfl rfl (by decide) (by decide) fun vc' w18 sc' x18 => ?_
  have hP18 : PlanR w18 e24q va' vb' vc' := ⟨sa'.ext (x17'.trans x18), sb'.ext x18, sc'⟩
  refine ⟨.agg (e24q.cs va' vb' vc').toArray, fun w' => planBuild hP18 w', ?_⟩
  refine planVar (p := e24q) hP18 fun pw w19 x19 P19 => ?_
  have x1519 := x16.trans (x17'.trans (x18.trans x19))
  have x719 := x711.trans (x1115.trans x1519)
  have o19 := O w19 x719
  (repeat with_reducible first | refine js ?_ | refine ja ?_ | refine jw KL14 [] (aa TF14 o19) fun _ => ?_)
  refine ordLit (o := e24O) (hO w19) fun vo w20 so x20 => ?_
  have x720 := x719.trans x20
  have t20 := T w20 x720
  have f20 := F w20 x720
  obtain ⟨p0, p1, p2, rp, hp⟩ := P15.ext (x1519.trans x20)
  obtain ⟨q0, q1, q2, rq, hq⟩ := P19.ext x20
  clear P15 P19 sa sb sc sa' sb' sc' hP14 hP18 o19 a11 b15
  have Pp := fun w' (x : Ext w20 w') => (rp.ext x).n
  have Pq := fun w' (x : Ext w20 w') => (rq.ext x).n
  simp only [PlanD.cs, AtN, KS, Nat.reduceAdd, Nat.reduceMul, Nat.reduceEqDiff, ↓reduceIte, UT] at Pp Pq
  have p20 := Pp w20 (Ext.refl _)
  (repeat with_reducible first | refine js ?_ | refine ja ?_ | refine jw KL14 [] (aa TF14 (aa t20 (aa f20 p20))) fun _ => ?_)
  have hl20 := hl.ext x720
  have hT20 := hT.ext x720
  refine rpRepairW hl20 hT20 so hp (by simp [I64]) g24_1 fun a0 a1 a2 w21 x21 hR => ?_
  (try simp (maxSteps := 5000000) only [KS, Nat.reduceAdd, Nat.reduceMul, Nat.reduceEqDiff, ↓reduceIte, forall_const, Int.cast_ofNat_Int, Int.reduceToNat, List.take_succ_cons, List.take_zero, List.drop_succ_cons, List.drop_zero, TF14, KL14]); (try simp (disch := omega) only [wrapI, tmodI, tdivI])
  refine ⟨by decide, by decide, by decide, ?_⟩
  refine planVar (p := e24q) hR fun pq w22 x22 PQ => ?_
  have z22 := x21.trans x22
  obtain ⟨c0, c1, c2, rc, hc⟩ := PQ
  have Pc := fun w' (x : Ext w22 w') => (rc.ext x).n
  simp only [PlanD.cs, AtN, KS, Nat.reduceAdd, Nat.reduceMul, Nat.reduceEqDiff, ↓reduceIte, UT] at Pc
  have t22 := T w22 (x720.trans z22)
  have f22 := F w22 (x720.trans z22)
  have c22 := Pc w22 (Ext.refl _)
  (repeat with_reducible first | refine js ?_ | refine ja ?_ | refine jw KL14 [] (aa TF14 (aa t22 (aa f22 c22))) fun _ => ?_)
  refine rpRepairW (hl20.ext z22) (hT20.ext z22) (so.ext z22) hc (by simp [I64]) g24_2 fun a0 a1 a2 w23 x23 hR => ?_
  (try simp (maxSteps := 5000000) only [KS, Nat.reduceAdd, Nat.reduceMul, Nat.reduceEqDiff, ↓reduceIte, forall_const, Int.cast_ofNat_Int, Int.reduceToNat, List.take_succ_cons, List.take_zero, List.drop_succ_cons, List.drop_zero, TF14, KL14]); (try simp (disch := omega) only [wrapI, tmodI, tdivI])
  refine ⟨by decide, by decide, by decide, ?_⟩
  refine planVar (p := Pl.noPlan) hR fun p_ w24 x24 _ => ?_
  have z24 := z22.trans (x23.trans x24)
  have t24 := T w24 (x720.trans z24)
  have f24 := F w24 (x720.trans z24)
  have p24 := Pp w24 z24
  (repeat with_reducible first | refine js ?_ | refine ja ?_ | refine jw KL14 [] (aa TF14 (aa t24 (aa f24 p24))) fun _ => ?_)
  refine rpWeakW (hl20.ext z24) (hT20.ext z24) (so.ext z24) (hp.ext z24) (by simp [I64]) (by decide) g24_3 fun vn w25 x25 sn => ?_
  (try simp (maxSteps := 5000000) only [KS, Nat.reduceAdd, Nat.reduceMul, Nat.reduceEqDiff, ↓reduceIte, forall_const, Int.cast_ofNat_Int, Int.reduceToNat, List.take_succ_cons, List.take_zero, List.drop_succ_cons, List.drop_zero, TF14, KL14]); (try simp (disch := omega) only [wrapI, tmodI, tdivI])
  refine ⟨by decide, by decide, ?_⟩
  have z25 := z24.trans x25
  have t25 := T w25 (x720.trans z25)
  have f25 := F w25 (x720.trans z25)
  have p25 := Pq w25 z25
  (repeat with_reducible first | refine js ?_ | refine ja ?_ | refine jw KL14 [] (aa TF14 (aa t25 (aa f25 p25))) fun _ => ?_)
  refine rpWeakW (hl20.ext z25) (hT20.ext z25) (so.ext z25) (hq.ext z25) (by simp [I64]) (by decide) g24_4 fun vk w26 x26 sk => ?_
  (try simp (maxSteps := 5000000) only [KS, Nat.reduceAdd, Nat.reduceMul, Nat.reduceEqDiff, ↓reduceIte, forall_const, Int.cast_ofNat_Int, Int.reduceToNat, List.take_succ_cons, List.take_zero, List.drop_succ_cons, List.drop_zero, TF14, KL14]); (try simp (disch := omega) only [wrapI, tmodI, tdivI])
  refine ⟨by decide, by decide, ?_⟩
  have z26 := z25.trans x26
  have t26 := T w26 (x720.trans z26)
  have f26 := F w26 (x720.trans z26)
  (repeat with_reducible first | refine js ?_ | refine ja ?_ | refine jw KL14 [] (aa TF14 (aa t26 f26)) fun _ => ?_)
  refine ⟨.agg #[.slice none 0 0, .slice none 0 0, .slice none 0 0], fun _ => by kernel_rfl, ?_⟩
  refine rpRepairW (hl20.ext z26) (hT20.ext z26) (Sl.nil _) (p := Pl.noPlan) ⟨Sl.nil _, Sl.nil _, Sl.nil _⟩ (by simp [I64]) g24_5 fun a0 a1 a2 w27 x27 hR => ?_
  (try simp (maxSteps := 5000000) only [KS, Nat.reduceAdd, Nat.reduceMul, Nat.reduceEqDiff, ↓reduceIte, forall_const, Int.cast_ofNat_Int, Int.reduceToNat, List.take_succ_cons, List.take_zero, List.drop_succ_cons, List.drop_zero, TF14, KL14]); (try simp (disch := omega) only [wrapI, tmodI, tdivI])
  refine ⟨by decide, by decide, by decide, ?_⟩
  refine planVar (p := Pl.noPlan) hR fun p_ w28 x28 _ => ?_
  have z28 := z26.trans (x27.trans x28)
  have t28 := T w28 (x720.trans z28)
  have f28 := F w28 (x720.trans z28)
  (repeat with_reducible first | refine js ?_ | refine ja ?_ | refine jw KL14 [] (aa TF14 (aa t28 f28)) fun _ => ?_)
  refine ⟨.agg #[.slice none 0 0, .slice none 0 0, .slice none 0 0], fun _ => by kernel_rfl, ?_⟩
  refine rpRepairW (hl20.ext z28) (hT20.ext z28) (so.ext z28) (p := Pl.noPlan) ⟨Sl.nil _, Sl.nil _, Sl.nil _⟩ (by simp [I64]) g24_6 fun a0 a1 a2 w29 x29 hR => ?_
  (try simp (maxSteps := 5000000) only [KS, Nat.reduceAdd, Nat.reduceMul, Nat.reduceEqDiff, ↓reduceIte, forall_const, Int.cast_ofNat_Int, Int.reduceToNat, List.take_succ_cons, List.take_zero, List.drop_succ_cons, List.drop_zero, TF14, KL14]); (try simp (disch := omega) only [wrapI, tmodI, tdivI])
  refine ⟨by decide, by decide, by decide, ?_⟩
  refine planVar (p := Pl.noPlan) hR fun p_ w30 x30 _ => ?_
  have z30 := z28.trans (x29.trans x30)
  have t30 := T w30 (x720.trans z30)
  have f30 := F w30 (x720.trans z30)
  have p30 := Pp w30 z30
  (repeat with_reducible first | refine js ?_ | refine ja ?_ | refine jw KL14 [] (aa TF14 (aa t30 (aa f30 p30))) fun _ => ?_)
  refine rpWeakW (hl20.ext z30) (hT20.ext z30) (so.ext z30) (hp.ext z30) (by simp [I64]) (by decide) g24_7 fun v_ w31 x31 _ => ?_
  (try simp (maxSteps := 5000000) only [KS, Nat.reduceAdd, Nat.reduceMul, Nat.reduceEqDiff, ↓reduceIte, forall_const, Int.cast_ofNat_Int, Int.reduceToNat, List.take_succ_cons, List.take_zero, List.drop_succ_cons, List.drop_zero, TF14, KL14]); (try simp (disch := omega) only [wrapI, tmodI, tdivI])
  refine ⟨by decide, by decide, ?_⟩
  have z31 := z30.trans x31
  have p31 := Pq w31 z31
  have x2231 := (x23.trans (x24.trans (x25.trans (x26.trans (x27.trans (x28.trans (x29.trans (x30.trans x31))))))))
  have c31 := Pc w31 x2231
  have sn31 := sn.ext (x26.trans (x27.trans (x28.trans (x29.trans (x30.trans x31)))))
  have sk31 := sk.ext (x27.trans (x28.trans (x29.trans (x30.trans x31))))
  have snl := sn31.len
  simp only [List.length_nil] at snl
  (repeat with_reducible first | refine js ?_ | refine ja ?_ | refine jw KL14 [] (aa TF14 (aa p31 (aa c31 (aa sn31.s (aa snl KX))))) fun _ => ?_)
  refine .inl (.inl ⟨by decide, same22W (p := e24q) (q := e24q) (b := true) (by decide) (hc.ext x2231) (hq.ext z31) fun w32 x32 => ?_⟩)
  unfold hush
  have sn32 := sn31.ext x32
  have sk32 := sk31.ext x32
  (repeat with_reducible first | refine js ?_ | refine ja ?_ | refine jw KL14 [] (aa TF14 (aa sn31.s (aa snl KX))) fun _ => ?_)
  refine .inl ⟨by decide, intLit22 [0] rfl rfl (by decide) (by decide) fun vz w33 sz x33 => ?_⟩
  unfold hush
  (repeat with_reducible first | refine js ?_ | refine ja ?_ | refine jw KL14 [] (aa TF14 (aa sn31.s (aa snl KX))) fun _ => ?_)
  refine .inl (.inl ⟨by decide, CallW_pure call21 (rfSameInts20 vk vz [0] [0] w33 (sk32.ext x33) sz) fun w34 x34 => ?_⟩)
  unfold hush
  (repeat with_reducible first | refine js ?_ | refine ja ?_ | refine jw KL14 [] (aa TF14 (aa sn31.s (aa snl KX))) fun _ => ?_)
  refine Run_ret ?_
  simp [Rets, RetM, resV, fnd, oneOr]
  exact y7.trans (x720.trans (z31.trans (x32.trans (x33.trans x34))))
theorem sane24W {w : World} {K : Value → World → Prop} (hK : ∀ w', Ext w w' → K (.bool true) w') : CallW Tryz.prog (.func (.func 14) #[] #[]) [] w K := CallW_pure call14 (lwSane24 w) hK
end Go.Proofs.YtbfhenoiienghaaGreat
