import Derived.Test.YtldjfebokojmfaaGreatRgHe
import Derived.Test.YtldjfebokojmfaaGreatRgW23f
import Derived.Test.YtldjfebokojmfaaGreatRgW22t
namespace Go.Fk
open Go
theorem keep_same {w w' : World} {p : Addr} {T : TypeId} {vs : List Value} {S : Nat → Prop} (r : Row w p T vs) (r' : Row w' p T vs) (k : Keep (fun b => b ≠ p.block) w w') : Keep S w w' :=
  ⟨k.os, k.tape, k.output, k.size, fun b hb _ => by
    by_cases e : b = p.block
    · subst e; rw [r'.heap, r.heap]
    · exact k.block b hb e⟩
end Go.Fk
namespace Go.Proofs.YtldjfebokojmfaaGreat
open Go Go.Fk
set_option linter.unusedSimpArgs false
set_option linter.unusedVariables false
set_option maxRecDepth 100000
structure LsR (w : World) (pc pp pk pe : Addr) (c p : List Value) (k e : Value) : Prop where
  c : Row w pc 25 c
  p : Row w pp 36 p
  k : Row w pk 4 [k]
  e : Row w pe 37 [e]
theorem LsR.keep {w w' : World} {pc pp pk pe : Addr} {c p : List Value} {k e : Value} {S : Nat → Prop} (h : LsR w pc pp pk pe c p k e) (K : Keep S w w') (h1 : S pc.block) (h2 : S pp.block) (h3 : S pk.block) (h4 : S pe.block) : LsR w' pc pp pk pe c p k e := ⟨h.c.keep K h1, h.p.keep K h2, h.k.keep K h3, h.e.keep K h4⟩
theorem LsR.ext {w w' : World} {pc pp pk pe : Addr} {c p : List Value} {k e : Value} (h : LsR w pc pp pk pe c p k e) (x : Ext w w') : LsR w' pc pp pk pe c p k e := h.keep (S := fun _ => True) (Keep.of_ext x) trivial trivial trivial trivial
theorem lsSet {w0 w : World} {pc pp pk pe : Addr} {e0 ev : Int} {S : Nat → Prop} (hne : pc.block ≠ pp.block ∧ pc.block ≠ pk.block ∧ pc.block ≠ pe.block ∧ pp.block ≠ pk.block ∧ pp.block ≠ pe.block ∧ pk.block ≠ pe.block) (hS : ∀ b, S b → b ≠ pc.block ∧ b ≠ pk.block) (k0 : Keep S w0 w)
    (L : LsR w pc pp pk pe [.slice none 0 0] (RefusalD.cs Rf.noRef (.slice none 0 0)) (.bool false) (.int .i64 e0)) {K : World → Prop} (hK : ∀ w', LsR w' pc pp pk pe [.slice none 0 0] (RefusalD.cs Rf.noRef (.slice none 0 0)) (.bool false) (.int .i64 ev) → Keep (fun b => b ≠ pc.block ∧ b ≠ pp.block ∧ b ≠ pk.block ∧ b ≠ pe.block) w w' → K w') :
    SemW Tryz.prog (Instr.storeAt 25 (.pointer (some pc)) (.slice none 0 0)) w fun x w' => Keep S w0 w' ∧ SemW Tryz.prog (Instr.storeAt 36 (.pointer (some pp)) (.agg #[.int .i64 0, .slice none 0 0, .int .i64 0, .int .i64 0, .int .i64 0, .int .i64 0])) w' fun x w' => Keep S w0 w' ∧ SemW Tryz.prog (Instr.storeAt 4 (.pointer (some pk)) (.bool false)) w' fun x w' => Keep S w0 w' ∧ SemW Tryz.prog (Instr.storeAt 37 (.pointer (some pe)) (.int .i64 ev)) w' fun x w' => (False → Keep S w0 w') ∧ K w' := by
  obtain ⟨n1, n2, n3, n4, n5, n6⟩ := hne
  refine SemW_set1 cells25 L.c rfl rfl fun w1 r1 k1 z1 => ⟨k0.trans (k1.mono fun b _ h => (hS b h).1), ?_⟩
  have L1 : LsR w1 pc pp pk pe _ _ _ _ := ⟨r1, L.p.keep k1 (Ne.symm n1), L.k.keep k1 (Ne.symm n2), L.e.keep k1 (Ne.symm n3)⟩
  refine SemW_setW (by rw [cells36]; decide) (by rw [cells36]; rfl) L1.p (by rw [cells36]; rfl) rfl fun w2 r2 k2 z2 => ⟨(k0.trans (k1.mono fun b _ h => (hS b h).1)).trans (keep_same L1.p r2 k2), ?_⟩
  have L2 : LsR w2 pc pp pk pe _ _ _ _ := ⟨L1.c.keep k2 n1, r2, L1.k.keep k2 (Ne.symm n4), L1.e.keep k2 (Ne.symm n5)⟩
  refine SemW_set1 cells4 L2.k rfl rfl fun w3 r3 k3 z3 => ⟨((k0.trans (k1.mono fun b _ h => (hS b h).1)).trans (keep_same L1.p r2 k2)).trans (k3.mono fun b _ h => (hS b h).2), ?_⟩
  have L3 : LsR w3 pc pp pk pe _ _ _ _ := ⟨L2.c.keep k3 n2, L2.p.keep k3 n4, r3, L2.e.keep k3 (Ne.symm n6)⟩
  refine SemW_set1 cells37 L3.e rfl rfl fun w4 r4 k4 z4 => ⟨fun h => h.elim, hK w4 ⟨L3.c.keep k4 n3, L3.p.keep k4 n5, L3.k.keep k4 n6, r4⟩ ?_⟩
  exact (k1.mono fun b _ h => h.1).trans ((k2.mono fun b _ h => h.2.1).trans ((k3.mono fun b _ h => h.2.2.1).trans (k4.mono fun b _ h => h.2.2.2)))
theorem lsP {w : World} {pp : Addr} {x : RefusalD} {v : Value} (h : Row w pp 36 (x.cs v)) : (loadVar 36 pp).run Tryz.prog w = .ok (.agg (x.cs v).toArray) w := loadVar_at (by kernel_rfl) (by rw [cells36]; decide) (by rw [cells36]; rfl) h.at_
theorem leafNo {F : Nat → Prop} {w : World} : RefR F w (Rf.noRef.cs (.slice none 0 0)) Rf.noRef := RefR.leaf (by constructor <;> decide) (by constructor <;> decide) ⟨by constructor <;> decide, by constructor <;> decide, by constructor <;> decide⟩
theorem planOne {w : World} {p : PlanD} {v0 v1 v2 : Value} (h : PlanR w p v0 v1 v2) : (Value.agg (p.cs v0 v1 v2).toArray).cells.toList.all Value.oneCell' = true := by
  have : (p.cs v0 v1 v2).all Value.oneCell' = true := by simp only [PlanD.cs, List.all_cons, List.all_nil, isS_o h.r.s, isS_o h.o.s, isS_o h.c.s]; rfl
  simpa [Value.cells] using this
set_option maxHeartbeats 8000000 in
theorem rsLeast (vl u0 u1 u2 vo : Value) (t : TimeD) (f : TariffD) (l : List OrderD) (covers : Int) (w : World) (hl : Sl w vl t.Lines) (hT : TarR w f u0 u1 u2) (ho : Sl w vo l) (hcv : I64 covers) :
    Calls Tryz.prog 7 #[.agg (t.cs vl).toArray, .agg (f.cs u0 u1 u2).toArray, vo, .int .i64 covers] w fun e w' => ∃ vc v, e = .returned (.tuple #[vc, .agg ((Rf.least t f l covers).2.1.cs v).toArray, .bool (Rf.least t f l covers).2.2.1, .int .i64 (Rf.least t f l covers).2.2.2]) ∧ Ext w w' ∧ Sl w' vc (Rf.least t f l covers).1 ∧ RefR (fun _ => True) w' ((Rf.least t f l covers).2.1.cs v) (Rf.least t f l covers).2.1 := by
  have s0 := hT.b.s
  have s1 := hT.l.s
  have s2 := hT.t.s
  have hos := ho.s
  have hol := ho.len
  refine Calls_of_Run (args := [.agg (t.cs vl).toArray, .agg (f.cs u0 u1 u2).toArray, vo, .int .i64 covers]) (n := 96) (rs := [.cell 8 25, .cell 9 36, .cell 10 4, .cell 11 37]) Tryz.func7 rfl rfl rfl (by simp) ?_
  (repeat with_reducible first | refine jy ?_ | refine jw KL7 [] TF7 fun _ => ?_)
  refine SemW_box fun pt w1 h1 => SemW_box fun pf w2 h2 => SemW_box fun pl w3 h3 => SemW_box fun pv w4 h4 => SemW_allocT ti25 fun pc w5 h5 => SemW_allocT ti36 fun pp w6 h6 => SemW_allocT ti4 fun pk w7 h7 => SemW_allocT ti37 fun pe w8 h8 => ?_
  have z1 := h1.size
  have z2 := h2.size
  have z3 := h3.size
  have z4 := h4.size
  have z5 := h5.size
  have z6 := h6.size
  have z7 := h7.size
  have z8 := h8.size
  have b5 := h5.blk
  have b6 := h6.blk
  have b7 := h7.blk
  have b8 := h8.blk
  have x48 := h5.ext.trans (h6.ext.trans (h7.ext.trans h8.ext))
  have y8 := h1.ext.trans (h2.ext.trans (h3.ext.trans (h4.ext.trans x48)))
  have hNN : AtN w8 pe 0 [] := trivial
  have L8 : LsR w8 pc pp pk pe [.slice none 0 0] (RefusalD.cs Rf.noRef (.slice none 0 0)) (.bool false) (.int .i64 0) := ⟨h5.row.ext (h6.ext.trans (h7.ext.trans h8.ext)), h6.row.ext (h7.ext.trans h8.ext), h7.row.ext h8.ext, h8.row⟩
  have T : ∀ w', Ext w4 w' → AtN w' pt 0 (t.cs vl) ∧ AtN w' pf 0 (f.cs u0 u1 u2) ∧ AtN w' pl 0 [vo] ∧ AtN w' pv 0 [.int .i64 covers] := fun w' x => ⟨(h1.at_.ext (h2.ext.trans (h3.ext.trans (h4.ext.trans x)))).n, (h2.at_.ext (h3.ext.trans (h4.ext.trans x))).n, by simpa [isS_c hos] using (h3.at_.ext (h4.ext.trans x)).n, (h4.at_.ext x).n⟩
  simp only [TimeD.cs, TariffD.cs, AtN, KS, Nat.reduceAdd, Nat.reduceMul, Nat.reduceEqDiff, ↓reduceIte, UT] at T
  have t8 := T w8 x48
  (repeat with_reducible first | refine jy ?_ | refine jw KL7 [] (aa TF7 t8) fun _ => ?_)
  refine ⟨_, fun _ => askBuild (t := t) (f := f) _, ?_⟩
  refine SemW_allocT ti53 fun pa w9 h9 => ?_
  have z9 := h9.size
  have b9 := h9.blk
  (repeat with_reducible first | refine jy ?_ | refine jw KL7 [] TF7 fun _ => ?_)
  refine SemW_setW (by rw [cells53]; decide) (by rw [cells53]; rfl) h9.row (by rw [cells53]; rfl) (by
    have : ([.int .i64 t.Offices, vl, u0, u1, u2, .int .i64 covers] : List Value).all Value.oneCell' = true := by simp only [List.all_cons, List.all_nil, isS_o s0, isS_o s1, isS_o s2, isS_o hl.s]; rfl
    simpa [Value.cells] using this) fun w10 r10 k10 z10 => ?_
  have r10 : Row w10 pa 53 [.int .i64 t.Offices, vl, u0, u1, u2, .int .i64 covers] := r10
  have x810 : Ext w8 w10 := Keep.ext h9.ext k10 fun b hb => by omega
  have x410 := x48.trans x810
  have y10 := y8.trans x810
  have t10 := T w10 x410
  have a10 := r10.n
  simp only [AtN, KS, Nat.reduceAdd, Nat.reduceMul, Nat.reduceEqDiff, ↓reduceIte, UT] at a10
  (repeat with_reducible first | refine jy ?_ | refine jw KL7 [] (aa TF7 (aa t10 a10)) fun _ => ?_)
  refine CallW_gen call17 (rfBegin vl u0 u1 u2 vo t f l covers w10 (hl.ext y10) (hT.ext y10) (ho.ext y10)) fun e w11 ⟨vO, he, x11, sO, hO⟩ => ⟨_, he, ?_⟩
  have L11 := (L8.ext x810).ext x11
  have x411 := x410.trans x11
  have y11 := y10.trans x11
  have hb : Rf.begE t f l = if Pl.err t f l ≠ 0 then Pl.err t f l else Pl.optsE t f l := rfl
  generalize hg : Rf.begE t f l = g at *
  (repeat with_reducible first | refine jy ?_ | refine jw KL7 [] TF7 fun _ => ?_)
  refine SemW_set1 cells37 L11.e rfl rfl fun w12 r12 k12 z12 => ?_
  have L12 : LsR w12 pc pp pk pe [.slice none 0 0] (RefusalD.cs Rf.noRef (.slice none 0 0)) (.bool false) (.int .i64 g) := ⟨L11.c.keep k12 (show pc.block ≠ pe.block by omega), L11.p.keep k12 (show pp.block ≠ pe.block by omega), L11.k.keep k12 (show pk.block ≠ pe.block by omega), r12⟩
  have hnb : pc.block ≠ pp.block ∧ pc.block ≠ pk.block ∧ pc.block ≠ pe.block ∧ pp.block ≠ pk.block ∧ pp.block ≠ pe.block ∧ pk.block ≠ pe.block := by omega
  have x412 : Ext w4 w12 := Keep.ext x411 k12 fun b hb => by omega
  have y12 : Ext w w12 := Keep.ext y11 k12 fun b hb => by omega
  have p12 := L12.p.n
  have e12 := L12.e.n
  simp only [RefusalD.cs, RefusalD.o, RefusalD.why, RefusalD.run, Rf.noRef, Rf.zeroR, AtN, KS, Nat.reduceAdd, Nat.reduceMul, Nat.reduceEqDiff, ↓reduceIte, UT] at p12 e12
  (repeat with_reducible first | refine jy ?_ | refine jw KL7 [] (aa TF7 e12) fun _ => ?_)
  refine Run_condS (fun _ => rfl) (fun h => ?_) (fun h => ?_)
  · have hne : g ≠ 0 := by simpa using h
    clear h
    have hc : Rf.least t f l covers = ([], Rf.noRef, false, g) := by
      unfold Rf.least
      by_cases h1 : Pl.err t f l = 0
      · have h2 : Pl.optsE t f l = g := by rw [hb, if_neg (by simp [h1])]
        rw [if_neg (by simp [h1]), if_pos (by rw [h2]; exact hne), h2]
      · rw [if_pos h1, hb, if_pos h1]
    rw [hc]
    let S : Nat → Prop := fun b => b = pp.block ∨ b = pe.block
    (repeat with_reducible refine js ?_)
    refine Run_eh S [5] [(0, [5]), (1, [5])] (id := 4) KL7 (.first 0 (.first 1 (.alt true 2 (.alt true 3 (.alt true 4 (.alt true 5 (.done false) .stop) .stop) .stop) .stop))) mixed (by kernel_rfl) (by kernel_rfl) fun w13 x13 _ => ?_
    have L13 := L12.ext x13
    have p13 := L13.p.n
    have e13 := L13.e.n
    simp only [RefusalD.cs, RefusalD.o, RefusalD.why, RefusalD.run, Rf.noRef, Rf.zeroR, AtN, KS, Nat.reduceAdd, Nat.reduceMul, Nat.reduceEqDiff, ↓reduceIte, UT] at p13 e13
    (try simp (maxSteps := 5000000) only [KS, Nat.reduceAdd, Nat.reduceMul, Nat.reduceEqDiff, ↓reduceIte, forall_const, Int.cast_ofNat_Int, Int.reduceToNat, List.take_succ_cons, List.take_zero, List.drop_succ_cons, List.drop_zero, TF7, KL7, eh, gres, qopS, putL, ung, p13, e13]); (try simp (disch := omega) only [wrapI, tmodI, tdivI])
    refine ⟨.inl rfl, .inr rfl, Keep.refl _ _, lsSet hnb (fun b hb => by omega) (Keep.refl _ _) L13 fun w14 L14 k14 => ?_⟩
    refine Run_ret ?_
    simp only [Rets, RetM, resV, fnd, oneOr, ↓reduceIte, KS, Nat.reduceAdd, Nat.reduceMul, Nat.reduceEqDiff, ↓reduceIte, UT]
    refine ⟨pc, _, rfl, loadVar_row (by kernel_rfl) L14.c, pp, _, rfl, lsP L14.p, pk, _, rfl, loadVar_row (by kernel_rfl) L14.k, pe, _, rfl, loadVar_row (by kernel_rfl) L14.e, _, _, rfl, Keep.ext (y12.trans x13) k14 fun b hb => by omega, Sl.nil _, leafNo⟩
  have h0 : g = 0 := by simpa using h
  clear h
  have he0 : Pl.err t f l = 0 := by
    by_cases h1 : Pl.err t f l = 0
    · exact h1
    · rw [hb, if_pos h1] at h0; exact h0
  have ho0 : Pl.optsE t f l = 0 := by
    have := h0
    rw [hb, if_neg (by simp [he0])] at this; exact this
  have t12 := T w12 x412
  (repeat with_reducible first | refine jy ?_ | refine jw KL7 [] (aa TF7 (aa t12 hol)) fun _ => ?_)
  refine Run_condS (fun _ => rfl) (fun h => ?_) (fun h => ?_)
  · simp at h
    have hc : Rf.least t f l covers = ([], Rf.noRef, false, 2) := by
      unfold Rf.least
      rw [if_neg (by simp [he0]), if_neg (by simp [ho0]), if_pos (by omega)]
    rw [hc]
    let S : Nat → Prop := fun b => b = pp.block ∨ b = pe.block
    (repeat with_reducible refine js ?_)
    refine Run_eh S [4] [(0, [4])] (id := 6) KL7 (.first 0 (.alt true 1 (.alt true 2 (.alt true 3 (.alt true 4 (.done false) .stop) .stop) .stop) .stop)) mixed (by kernel_rfl) (by kernel_rfl) fun w13 x13 _ => ?_
    have L13 := L12.ext x13
    have p13 := L13.p.n
    have e13 := L13.e.n
    simp only [RefusalD.cs, RefusalD.o, RefusalD.why, RefusalD.run, Rf.noRef, Rf.zeroR, AtN, KS, Nat.reduceAdd, Nat.reduceMul, Nat.reduceEqDiff, ↓reduceIte, UT] at p13 e13
    (try simp (maxSteps := 5000000) only [KS, Nat.reduceAdd, Nat.reduceMul, Nat.reduceEqDiff, ↓reduceIte, forall_const, Int.cast_ofNat_Int, Int.reduceToNat, List.take_succ_cons, List.take_zero, List.drop_succ_cons, List.drop_zero, TF7, KL7, eh, gres, qopS, putL, ung, p13, e13]); (try simp (disch := omega) only [wrapI, tmodI, tdivI])
    refine ⟨.inl rfl, Keep.refl _ _, lsSet hnb (fun b hb => by omega) (Keep.refl _ _) L13 fun w14 L14 k14 => ?_⟩
    refine Run_ret ?_
    simp only [Rets, RetM, resV, fnd, oneOr, ↓reduceIte, KS, Nat.reduceAdd, Nat.reduceMul, Nat.reduceEqDiff, ↓reduceIte, UT]
    refine ⟨pc, _, rfl, loadVar_row (by kernel_rfl) L14.c, pp, _, rfl, lsP L14.p, pk, _, rfl, loadVar_row (by kernel_rfl) L14.k, pe, _, rfl, loadVar_row (by kernel_rfl) L14.e, _, _, rfl, Keep.ext (y12.trans x13) k14 fun b hb => by omega, Sl.nil _, leafNo⟩
  simp at h
  have h16 : l.length ≤ 16 := by omega
  clear h
  (repeat with_reducible first | refine jy ?_ | refine jw KL7 [] (aa TF7 t12) fun _ => ?_)
  refine CallW_gen call18 (plMake vl u0 u1 u2 vo t f l covers w12 (hl.ext y12) (hT.ext y12) (ho.ext y12) hcv) fun e w15 ⟨v0, v1, v2, he, x15, P15⟩ => ⟨_, he, ?_⟩
  have L15 := L12.ext x15
  refine ⟨by simp [IsT, tpOf], by simp [IsT, tpOf], by simp [IsT, tpOf], ?_⟩
  refine SemW_allocT ti61 fun pq w16 h16 => ?_
  have b16 := h16.blk
  (repeat with_reducible first | refine jy ?_ | refine jw KL7 [] TF7 fun _ => ?_)
  refine SemW_setW (by rw [cells61]; decide) (by rw [cells61]; rfl) h16.row (by rw [cells61]; rfl) (planOne P15) fun w17 r17 k17 z17 => ?_
  have x1217 : Ext w12 w17 := x15.trans (Keep.ext h16.ext k17 fun b hb => by omega)
  have y17 := y12.trans x1217
  have x417 := x412.trans x1217
  have L17 := L12.ext x1217
  have a17 := (r10.ext x11).keep k12 (show pa.block ≠ pe.block by omega)
  have a17 := a17.ext x1217
  (repeat with_reducible first | refine jy ?_ | refine jw KL7 [] TF7 fun _ => ?_)
  refine Run_condS (fun _ => rfl) (fun h => ?_) (fun h => ?_)
  · have hc : Rf.least t f l covers = ([], Rf.noRef, false, 0) := by
      unfold Rf.least
      rw [if_neg (by simp [he0]), if_neg (by simp [ho0]), if_neg (by omega), if_pos (by simpa [tpOf] using h)]
    rw [hc]
    let S : Nat → Prop := fun b => b = pp.block ∨ b = pe.block
    (repeat with_reducible refine js ?_)
    refine Run_eh S [4] [(0, [4])] (id := 9) KL7 (.first 0 (.alt true 1 (.alt true 2 (.alt true 3 (.alt true 4 (.done false) .stop) .stop) .stop) .stop)) mixed (by kernel_rfl) (by kernel_rfl) fun w13 x13 _ => ?_
    have L13 := L17.ext x13
    have p13 := L13.p.n
    have e13 := L13.e.n
    simp only [RefusalD.cs, RefusalD.o, RefusalD.why, RefusalD.run, Rf.noRef, Rf.zeroR, AtN, KS, Nat.reduceAdd, Nat.reduceMul, Nat.reduceEqDiff, ↓reduceIte, UT] at p13 e13
    (try simp (maxSteps := 5000000) only [KS, Nat.reduceAdd, Nat.reduceMul, Nat.reduceEqDiff, ↓reduceIte, forall_const, Int.cast_ofNat_Int, Int.reduceToNat, List.take_succ_cons, List.take_zero, List.drop_succ_cons, List.drop_zero, TF7, KL7, eh, gres, qopS, putL, ung, p13, e13]); (try simp (disch := omega) only [wrapI, tmodI, tdivI])
    refine ⟨.inl rfl, Keep.refl _ _, lsSet hnb (fun b hb => by omega) (Keep.refl _ _) L13 fun w14 L14 k14 => ?_⟩
    refine Run_ret ?_
    simp only [Rets, RetM, resV, fnd, oneOr, ↓reduceIte, KS, Nat.reduceAdd, Nat.reduceMul, Nat.reduceEqDiff, ↓reduceIte, UT]
    refine ⟨pc, _, rfl, loadVar_row (by kernel_rfl) L14.c, pp, _, rfl, lsP L14.p, pk, _, rfl, loadVar_row (by kernel_rfl) L14.k, pe, _, rfl, loadVar_row (by kernel_rfl) L14.e, _, _, rfl, Keep.ext (y17.trans x13) k14 fun b hb => by omega, Sl.nil _, leafNo⟩
  have hmk : (Pl.make t f l covers).2.1 = false := by simpa [tpOf] using h
  clear h
  have t17 := T w17 x417
  (repeat with_reducible first | refine jy ?_ | refine jw KL7 [] (aa TF7 (aa t17 hol)) fun _ => ?_)
  refine CallW_gen call19 (rsSets l.length w17) fun e w18 ⟨pn, he, x18, hpn, bpn, z18⟩ => ⟨_, he, ?_⟩
  (repeat with_reducible first | refine jy ?_ | refine jw KL7 [] TF7 fun _ => ?_)
  have x418 := x417.trans x18
  have y18 := y17.trans x18
  have L18 := L17.ext x18
  have a18 := a17.ext x18
  have zz12 := x1217.size
  have zz11 := x11.size
  have z12e : w8.heap.size ≤ w12.heap.size := by have := x810.size; omega
  have hb18 : pa.block < w17.heap.size := a17.lt
  have hw := y12.size
  have hseed : ∀ s ∈ Rf.allSets l.length, s.length ≤ 16 ∧ ∀ x ∈ s, 0 ≤ x ∧ x < (l.length : Int) := fun s hs => by
    unfold Rf.allSets at hs
    obtain ⟨m, hm, hs⟩ := List.mem_flatMap.1 hs
    obtain ⟨q1, q2, q3⟩ := Rf.setsF_mem hs
    have := q3 (by omega)
    exact ⟨by omega, fun x hx => by have := q2 x hx; omega⟩
  have hls : Rf.least t f l covers = match (Rf.allSets l.length).find? (Rf.noSet t f l covers) with
      | none => ([], Rf.noRef, false, 0)
      | some s => (s, Rf.proofF t (Rf.someO l s) (Pl.optsOf t f (Rf.someO l s)) [], true, 0) := by
    unfold Rf.least
    rw [if_neg (by simp [he0]), if_neg (by simp [ho0]), if_neg (by omega), if_neg (by simp [hmk])]
    rfl
  generalize hMM : w18.heap.size = M at *
  have hkpM : ∀ b, (M + 2 ≤ b ∨ b = pn.block) → b ≠ M ∧ b ≠ M + 1 := fun b hb => by omega
  refine Run_iterV [57] (fun _ => rfl) call40 (by simp) (Rf.allSets l.length).length (fun _ => False) (fun b => M + 2 ≤ b ∨ b = pn.block) (fun b hb => hb.elim) (fun b hb => by rw [hMM]; exact hkpM b hb)
    (fun j w' => Ext w18 w' ∧ ∀ i (h : i < (Rf.allSets l.length).length), i < j → Rf.noSet t f l covers (Rf.allSets l.length)[i] = false)
    (stY l.length (fun b => M + 2 ≤ b ∨ b = pn.block))
    (fun e w' => e = none ∧ ∃ s vs v, (Rf.allSets l.length).find? (Rf.noSet t f l covers) = some s ∧ LsR w' pc pp pk pe [vs] ((Rf.proofF t (Rf.someO l s) (Pl.optsOf t f (Rf.someO l s)) []).cs v) (.bool true) (.int .i64 0) ∧ Ext w w' ∧ Sl w' vs s ∧ (s ≠ [] → M + 2 ≤ (slAt vs).block ∨ (slAt vs).block = pn.block) ∧ RefR (fun b => M + 2 ≤ b) w' ((Rf.proofF t (Rf.someO l s) (Pl.optsOf t f (Rf.someO l s)) []).cs v) (Rf.proofF t (Rf.someO l s) (Pl.optsOf t f (Rf.someO l s)) []))
    (fun yv J Jx w1 hcs hyc hx1 hz hj0 => stIter hcs hyc (by omega) (.inr rfl) (fun b hb => .inl (by omega)) (hpn.ext hx1) hj0)
    (fun w1 hx1 _ => ⟨hx1, fun i h h0 => by omega⟩)
    (fun j q1 q2 ⟨g1, g2⟩ hk => ⟨Keep.ext g1 hk fun b hb => ⟨id, by omega, by omega⟩, g2⟩)
    (fun e q1 q2 ⟨he, s, vs, v, g1, g2, g3, g4, g5, g6⟩ hk => ⟨he, s, vs, v, g1, g2.keep hk ⟨id, by omega, by omega⟩ ⟨id, by omega, by omega⟩ ⟨id, by omega, by omega⟩ ⟨id, by omega, by omega⟩, Keep.ext g3 hk fun b hb => ⟨id, by omega, by omega⟩, g4.keepF hk (fun h => ⟨id, by rw [hMM]; exact hkpM _ (g5 h)⟩), g5, g6.keep hk fun b hb => ⟨id, by omega, by omega⟩⟩) ?_ ?_ ?_
  · intro j xs hj w1 hxl ⟨e1, g1⟩ ⟨hj', v, hxs, hv, hkv⟩ zq1
    subst hxs
    have hfj : ∀ (hh : Rf.noSet t f l covers (Rf.allSets l.length)[j] = true), (Rf.allSets l.length).find? (Rf.noSet t f l covers) = some (Rf.allSets l.length)[j] := fun hh => by
      rw [List.find?_eq_some_iff_getElem]
      exact ⟨hh, j, hj, rfl, fun i hi => by simp [g1 i (by omega) hi]⟩
    have hgs : Rf.noSet t f l covers (Rf.allSets l.length)[j] = false → ∀ i (h : i < (Rf.allSets l.length).length), i < j + 1 → Rf.noSet t f l covers (Rf.allSets l.length)[i] = false := fun hh i h hi => by
      by_cases e : i = j
      · subst e; exact hh
      · exact g1 i h (by omega)
    have hsd := hseed _ (List.getElem_mem hj)
    generalize (Rf.allSets l.length)[j] = s at *
    rw [hMM] at zq1 ⊢
    simp only [zipL]
    (repeat with_reducible first | refine jy ?_ | refine jw KL7 [] TF7 fun _ => ?_)
    refine Run_lp ⟨Keep.refl _ _, fun w2 k2 zz2 => ?_⟩
    have e2 : Ext w18 w2 := Keep.ext e1 k2 fun b hb => by omega
    have hv2 : Sl w2 v s := hv.keepF k2 fun h => (hkpM _ (hkv h)).2
    have vs2 := hv2.s
    have vl2 := hv2.len
    (repeat with_reducible first | refine jy ?_ | refine jw KL7 [] (aa TF7 (aa vs2 vl2)) fun _ => ?_)
    have hsl : (Rf.someO l s).length = s.length := by simp [Rf.someO]
    refine Run_loopV [17, 19, 60, 61] (σ := Nat × Value) (fun q => [(60, some (.int .i64 q.1)), (17, some q.2)]) (fun q w' => q.1 ≤ s.length ∧ Ext w2 w' ∧ ∃ rs, BufO (α := RawO) 50 w2.heap.size w' q.2 rs ∧ RR w rs ((Rf.someO l s).take q.1)) (fun q => s.length - q.1) (0, .slice none 0 0) (by simp [SubB, fnd]) ⟨by simp, Ext.refl _, [], BufO.nil, ⟨by simp, fun i h => by simp at h⟩⟩ ?_
    rintro ⟨q, vb⟩ w3 ⟨hq, x3, rs, c1, c2⟩
    simp only at hq x3 c1 c2
    have svb := c1.isS.1
    have crl := c2.n
    rw [List.length_take, hsl] at crl
    have e3 : Ext w18 w3 := e2.trans x3
    (repeat with_reducible first | refine jy ?_ | refine jw KL7 [] TF7 fun _ => ?_)
    refine Run_condS (fun _ => rfl) (fun h => ?_) (fun h => ?_)
    · simp at h
      have hqs : q < s.length := by omega
      have hqc : (q : Int) < s.length := by omega
      clear h
      obtain ⟨d1, d2, d3⟩ := (hv2.ext x3).get hqs
      obtain ⟨d4, d5⟩ := hsd.2 _ (List.getElem_mem hqs)
      have htk : (Rf.someO l s).take (q + 1) = (Rf.someO l s).take q ++ [l.getD s[q].toNat default] := by
        rw [List.take_succ_eq_append_getElem (by omega)]; simp [Rf.someO]
      generalize s[q] = ix at *
      have hixl : ix.toNat < l.length := by omega
      have hgd : l.getD ix.toNat default = l[ix.toNat] := by simp [List.getD_eq_getElem?_getD, hixl]
      rw [hgd] at htk
      obtain ⟨g, _, oB, hO'⟩ := ho.ord hixl
      have oA := (oB.ext (y18.trans e3)).n
      have hone := hO'.one
      have hrp := hO'.rep
      generalize l[ix.toNat] = o at *
      have t3 := T w3 (x418.trans e3)
      simp only [OrderD.cs, AtN, KS, Nat.reduceAdd, Nat.reduceMul, Nat.reduceEqDiff, ↓reduceIte, UT] at oA
      (repeat with_reducible first | refine jy ?_ | refine jw KL7 [] (aa TF7 (aa vs2 (aa vl2 (aa d1 (aa d2 (aa t3 (aa hos (aa hol oA)))))))) fun _ => ?_)
      have hB3 : w2.heap.size ≤ w3.heap.size := x3.size
      refine SemW_append1Q (α := RawO) Tryz.underlying29 ti50 rfl (by decide) c1 hB3 (x := ⟨o.cs g⟩) ⟨rfl, repO hrp⟩ (by simp only [maxLen]; omega) fun _ v5 w5 b5 k5 g5 => ?_
      (repeat with_reducible first | refine jy ?_ | refine jw KL7 [] TF7 fun _ => ?_)
      exact Run_lp ⟨(q + 1, v5), by simp [SubB, fnd, strike, has], ⟨by show q + 1 ≤ s.length; omega, Keep.ext x3 k5 fun b hb e => by have := (c1.own_lt e.symm).1; omega, rs ++ [⟨o.cs g⟩], b5, by show RR w _ ((Rf.someO l s).take (q + 1)); rw [htk]; exact c2.app (RR.one hrp)⟩, by show s.length - (q + 1) < s.length - q; omega⟩
    simp at h
    obtain rfl : q = s.length := by omega
    clear h
    rw [← hsl, List.take_length] at c2
    have t3 := T w3 (x418.trans e3)
    (repeat with_reducible first | refine jy ?_ | refine jw KL7 [] (aa TF7 t3) fun _ => ?_)
    have so : Sl w3 vb (Rf.someO l s) := (c1.sl (by omega)).unrawO (c2.ext (y18.trans e3))
    have hsm : ∀ o ∈ Rf.someO l s, o ∈ l := fun o ho' => by
      unfold Rf.someO at ho'
      obtain ⟨x, hx, rfl⟩ := List.mem_map.1 ho'
      have := hsd.2 x hx
      have hxl : x.toNat < l.length := by omega
      rw [List.getD_eq_getElem?_getD, List.getElem?_eq_getElem hxl]
      exact List.getElem_mem _
    have hes : Pl.err t f (Rf.someO l s) = 0 := Pl.err_sub he0 hsm (by omega)
    have hos' : Pl.optsE t f (Rf.someO l s) = 0 := Pl.optsE_sub ho0 hsm
    have hns : Rf.noSet t f l covers s = !(Pl.make t f (Rf.someO l s) covers).2.1 := rfl
    have y3 := y18.trans e3
    refine CallW_gen call18 (plMake vl u0 u1 u2 vb t f (Rf.someO l s) covers w3 (hl.ext y3) (hT.ext y3) so hcv) fun e w4 ⟨c0, c1', c2', he, x4, P4⟩ => ⟨_, he, ?_⟩
    refine ⟨by simp [IsT, tpOf], by simp [IsT, tpOf], by simp [IsT, tpOf], ?_⟩
    refine SemW_allocT ti61 fun pq2 w5 h5' => ?_
    have b5' := h5'.blk
    (repeat with_reducible first | refine jy ?_ | refine jw KL7 [] TF7 fun _ => ?_)
    refine SemW_setW (by rw [cells61]; decide) (by rw [cells61]; rfl) h5'.row (by rw [cells61]; rfl) (planOne P4) fun w6 r6 k6 z6' => ?_
    have x26 : Ext w2 w6 := x3.trans (x4.trans (Keep.ext h5'.ext k6 fun b hb => by omega))
    have e6 : Ext w18 w6 := e2.trans x26
    (repeat with_reducible first | refine jy ?_ | refine jw KL7 [] TF7 fun _ => ?_)
    refine Run_condS (fun _ => rfl) (fun h => ?_) (fun h => ?_)
    · have hpl : (Pl.make t f (Rf.someO l s) covers).2.1 = true := by simpa [tpOf] using h
      rw [hpl] at hns
      (repeat with_reducible first | refine jy ?_ | refine jw KL7 [] TF7 fun _ => ?_)
      exact Run_nil ⟨Keep.of_ext x26, e6, hgs (by rw [hns]; rfl)⟩
    have hpl : (Pl.make t f (Rf.someO l s) covers).2.1 = false := by simpa [tpOf] using h
    clear h
    rw [hpl] at hns
    have hfj := hfj (by rw [hns]; rfl)
    have a6 := (a18.ext e6).n
    simp only [AtN, KS, Nat.reduceAdd, Nat.reduceMul, Nat.reduceEqDiff, ↓reduceIte, UT] at a6
    have y6 := y18.trans e6
    (repeat with_reducible first | refine jy ?_ | refine jw KL7 [] (aa TF7 a6) fun _ => ?_)
    refine CallW_gen call17 (rfBegin vl u0 u1 u2 vb t f (Rf.someO l s) covers w6 (hl.ext y6) (hT.ext y6) (so.ext (x4.trans (Keep.ext h5'.ext k6 fun b hb => by omega)))) fun e w7 ⟨vO2, he, x7, sO2, hO2⟩ => ⟨_, he, ?_⟩
    have hb2 : Rf.begE t f (Rf.someO l s) = 0 := by unfold Rf.begE; rw [if_neg (by simp [hes]), hos']
    rw [hb2]
    have hO2 := hO2 hb2
    (repeat with_reducible first | refine jy ?_ | refine jw KL7 [] TF7 fun _ => ?_)
    refine SemW_allocT ti56 fun ps w9 h9' => ?_
    have b9' := h9'.blk
    (repeat with_reducible first | refine jy ?_ | refine jw KL7 [] TF7 fun _ => ?_)
    refine SemW_setW (by rw [cells56]; decide) (by rw [cells56]; rfl) h9'.row (by rw [cells56]; rfl) (by simpa [Value.cells] using srOne (t := t) (covers := covers) hl.s s0 s1 s2 svb sO2) fun w10' r10' k10' z10' => ?_
    have r10' : Row w10' ps 56 (srC t covers vl u0 u1 u2 vb vO2) := r10'
    have x710 : Ext w7 w10' := Keep.ext h9'.ext k10' fun b hb => by omega
    have e10 : Ext w18 w10' := e6.trans (x7.trans x710)
    (repeat with_reducible first | refine jy ?_ | refine jw KL7 [] TF7 fun _ => ?_)
    refine Run_condS (fun _ => rfl) (fun h => by cases h) (fun _ => ?_)
    have rs10 := r10'.n
    simp only [srC, AtN, KS, Nat.reduceAdd, Nat.reduceMul, Nat.reduceEqDiff, ↓reduceIte, UT] at rs10
    (repeat with_reducible first | refine jy ?_ | refine jw KL7 [] (aa TF7 rs10) fun _ => ?_)
    have K := sok hes hos'
    have y10' := y18.trans e10
    have so10 : Sl w10' vb (Rf.someO l s) := so.ext (x4.trans ((Keep.ext h5'.ext k6 fun b hb => by omega : Ext w4 w6).trans (x7.trans x710)))
    refine CallW_gen call20 (rfProof (t := t) (l := Rf.someO l s) (covers := covers) (vl := vl) (u0 := u0) (u1 := u1) (u2 := u2) (vo := vb) (vO := vO2) (opts := Pl.optsOf t f (Rf.someO l s)) K.cr K.n K.len K.ob (Rf.someO l s).length (Pl.optsOf t f (Rf.someO l s)) [] (.slice none 0 0) w10' K.len (by simp [K.len]) rfl (by simp) (hl.ext y10') so10 (hO2.ext x710) s0 s1 s2 (Sl.nil _)) fun e w14 ⟨vp, he, x14, R14⟩ => ⟨_, he, ?_⟩
    have e14 : Ext w18 w14 := e10.trans x14
    have L14 := L18.ext e14
    have x214 : Ext w2 w14 := x26.trans (x7.trans (x710.trans x14))
    have q10 : M + 2 ≤ w10'.heap.size := by have := (x26.trans (x7.trans x710)).size; omega
    have hpcn : pc.block < w17.heap.size ∧ pp.block < w17.heap.size ∧ pk.block < w17.heap.size ∧ pe.block < w17.heap.size := by omega
    have hone := R14.one
    generalize hPF : Rf.proofF t (Rf.someO l s) (Pl.optsOf t f (Rf.someO l s)) [] = PF at *
    obtain ⟨n1, n2, n3, n4, n5, n6⟩ := hnb
    refine SemW_set1 cells25 L14.c (by rw [isS_c vs2]; rfl) (by rw [isS_c vs2]; simpa using isS_o vs2) fun w15' r15 k15 z15 => ?_
    have r15 : Row w15' pc 25 [v] := by simpa [isS_c vs2] using r15
    have La : LsR w15' pc pp pk pe _ _ _ _ := ⟨r15, L14.p.keep k15 (Ne.symm n1), L14.k.keep k15 (Ne.symm n2), L14.e.keep k15 (Ne.symm n3)⟩
    refine SemW_setW (by rw [cells36]; decide) (by rw [cells36]; rfl) La.p (by rw [cells36]; rfl) (by simpa [Value.cells] using hone) fun w16' r16 k16 z16 => ?_
    have r16 : Row w16' pp 36 (PF.cs vp) := by simpa [Value.cells] using r16
    have Lb : LsR w16' pc pp pk pe _ _ _ _ := ⟨La.c.keep k16 n1, r16, La.k.keep k16 (Ne.symm n4), La.e.keep k16 (Ne.symm n5)⟩
    refine SemW_set1 cells4 Lb.k rfl rfl fun w17' r17' k17' z17' => ?_
    have Lc : LsR w17' pc pp pk pe _ _ _ _ := ⟨Lb.c.keep k17' n2, Lb.p.keep k17' n4, r17', Lb.e.keep k17' (Ne.symm n6)⟩
    refine SemW_set1 cells37 Lc.e rfl rfl fun w18' r18' k18' z18' => ?_
    have Ld : LsR w18' pc pp pk pe [v] (PF.cs vp) (.bool true) (.int .i64 0) := ⟨Lc.c.keep k18' n3, Lc.p.keep k18' n5, Lc.k.keep k18' n6, r18'⟩
    have KK : Keep (fun b => b ≠ pc.block ∧ b ≠ pp.block ∧ b ≠ pk.block ∧ b ≠ pe.block) w14 w18' := (k15.mono fun b _ h => h.1).trans ((k16.mono fun b _ h => h.2.1).trans ((k17'.mono fun b _ h => h.2.2.1).trans (k18'.mono fun b _ h => h.2.2.2)))
    (repeat with_reducible first | refine jy ?_ | refine jw KL7 [] TF7 fun _ => ?_)
    subst hPF
    refine Run_ret ⟨(Keep.of_ext x214).trans (KK.mono fun b _ hb => by omega), rfl, s, v, vp, hfj, Ld, Keep.ext (y18.trans e14) KK fun b hb => by omega, (hv2.ext x214).keepF KK (fun h => by have := hkv h; omega), hkv, (R14.keep KK fun b hb => by omega).mono fun b hb => by omega⟩
  · intro w' ⟨g0, g1⟩ hd
    have hd' := hd
    rw [hMM] at hd
    have hz : M < w'.heap.size := (Array.getElem?_eq_some_iff.1 hd).1
    have hnone : (Rf.allSets l.length).find? (Rf.noSet t f l covers) = none := by
      rw [List.find?_eq_none]
      intro s hs
      obtain ⟨i, hi, rfl⟩ := List.getElem_of_mem hs
      simp [g1 i hi hi]
    rw [hls, hnone]
    have L20 := L18.ext g0
    have y20 := y18.trans g0
    let S : Nat → Prop := fun b => b = pp.block ∨ b = pe.block
    (repeat with_reducible refine js ?_)
    refine Run_eh S [4] [(0, [4])] (id := 24) KL7 (.first 0 (.alt true 1 (.alt true 2 (.alt true 3 (.alt true 4 (.done false) .stop) .stop) .stop) .stop)) mixed (by kernel_rfl) (by kernel_rfl) fun w13 x13 _ => ?_
    have L13 := L20.ext x13
    have p13 := L13.p.n
    have e13 := L13.e.n
    simp only [RefusalD.cs, RefusalD.o, RefusalD.why, RefusalD.run, Rf.noRef, Rf.zeroR, AtN, KS, Nat.reduceAdd, Nat.reduceMul, Nat.reduceEqDiff, ↓reduceIte, UT] at p13 e13
    (try simp (maxSteps := 5000000) only [KS, Nat.reduceAdd, Nat.reduceMul, Nat.reduceEqDiff, ↓reduceIte, forall_const, Int.cast_ofNat_Int, Int.reduceToNat, List.take_succ_cons, List.take_zero, List.drop_succ_cons, List.drop_zero, TF7, KL7, eh, gres, qopS, putL, ung, p13, e13]); (try simp (disch := omega) only [wrapI, tmodI, tdivI])
    refine ⟨.inl rfl, Keep.refl _ _, lsSet hnb (fun b hb => by omega) (Keep.refl _ _) L13 fun w14 L14 k14 => ?_⟩
    refine Run_ret (RetM_one (d := w18.heap.size) ((k14.block _ (by have := x13.size; omega) (by omega)).trans ((x13.block _ (by omega)).trans hd')) fun w16 k16 _ => ?_)
    simp only [resV]
    rw [hMM] at k16
    have L16 := L14.keep k16 (by omega) (by omega) (by omega) (by omega)
    exact ⟨pc, _, rfl, loadVar_row (by kernel_rfl) L16.c, pp, _, rfl, lsP L16.p, pk, _, rfl, loadVar_row (by kernel_rfl) L16.k, pe, _, rfl, loadVar_row (by kernel_rfl) L16.e, _, _, rfl, Keep.ext (Keep.ext (y20.trans x13) k14 fun b hb => by omega) k16 fun b hb => by omega, Sl.nil _, leafNo⟩
  · rintro e w' ⟨rfl, s, vs, v, g1, g2, g3, g4, g5, g6⟩ hd
    show Run _ _ _ _ (.code .ret :: _) _ _ _
    rw [hMM] at hd
    refine Run_ret (RetM_one (d := w18.heap.size) (by rw [hMM]; exact hd) fun w16 k16 _ => ?_)
    simp only [resV]
    rw [hMM] at k16
    have L16 := g2.keep k16 (by omega) (by omega) (by omega) (by omega)
    rw [hls, g1]
    exact ⟨pc, _, rfl, loadVar_row (by kernel_rfl) L16.c, pp, _, rfl, lsP L16.p, pk, _, rfl, loadVar_row (by kernel_rfl) L16.k, pe, _, rfl, loadVar_row (by kernel_rfl) L16.e, _, _, rfl, Keep.ext g3 k16 fun b hb => by omega, g4.keepF k16 (fun h => (hkpM _ (g5 h)).1), (g6.keep k16 fun b hb => by omega).mono fun _ _ => trivial⟩
end Go.Proofs.YtldjfebokojmfaaGreat
