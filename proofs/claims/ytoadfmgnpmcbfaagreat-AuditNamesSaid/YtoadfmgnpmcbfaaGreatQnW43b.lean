import Derived.Test.YtoadfmgnpmcbfaaGreatQnW41w
import Derived.Test.YtoadfmgnpmcbfaaGreatQnW42s
import Derived.Test.YtoadfmgnpmcbfaaGreatQnP43b
import Derived.Test.YtoadfmgnpmcbfaaGreatQnGb
namespace Go.Proofs.YtoadfmgnpmcbfaaGreat
open Go Go.Fk
set_option linter.unusedSimpArgs false
set_option linter.unusedVariables false
set_option maxRecDepth 100000
theorem eqM43 (a b : MoveD) : (a.No == b.No && (a.From == b.From && (a.To == b.To && (a.Amount == b.Amount && (a.Why == b.Why && (a.Run == b.Run && true)))))) = decide (a = b) := by
  rw [Bool.eq_iff_iff]
  cases a; cases b
  simp
theorem rerr42Q {vl u0 u1 u2 vo v0 v1 v2 vh : Value} {t : TimeD} {f : TariffD} {l : List OrderD} {p : PlanD} {hd : List Int} {w : World} (hl : Sl w vl t.Lines) (hT : TarR w f u0 u1 u2) (ho : Sl w vo l) (hP : PlanR w p v0 v1 v2) (hh : Sl w vh hd) :
    PC Tryz.prog (Ext w) (.func (.func 31) #[] #[]) [.agg #[.int .i64 t.Offices, vl], .agg #[u0, u1, u2], vo, .agg #[v0, v1, v2], vh] (.int .i64 (Au.err t f l p hd)) :=
  PC_pure call31 fun w' x' => rfError42 vl u0 u1 u2 vo v0 v1 v2 vh t f l p hd w' (hl.ext x') (hT.ext x') (ho.ext x') (hP.ext x') (hh.ext x')
set_option maxHeartbeats 2000000 in
theorem settled42 (vl u0 u1 u2 vo v0 v1 v2 vh : Value) (t : TimeD) (f : TariffD) (l : List OrderD) (p : PlanD) (hd : List Int) (w : World) (hl : Sl w vl t.Lines) (hT : TarR w f u0 u1 u2) (ho : Sl w vo l) (hP : PlanR w p v0 v1 v2) (hh : Sl w vh hd) :
    Calls Tryz.prog 41 #[.agg (t.cs vl).toArray, .agg (f.cs u0 u1 u2).toArray, vo, .agg (p.cs v0 v1 v2).toArray, vh] w fun e w' => ∃ v b, e = .returned (.tuple #[v, .bool b]) ∧ Ext w w' ∧ (b = true → l.length ≤ 8 ∧ p.Runs.length ≤ 70 ∧ (Au.all t f l p hd).2 = 0 ∧ (Au.all t f l p hd).1.length ≤ 1000 ∧ Sl w' v (Au.all t f l p hd).1) := by
  have hol := ho.len
  refine Calls_of_Run (args := [.agg (t.cs vl).toArray, .agg (f.cs u0 u1 u2).toArray, vo, .agg (p.cs v0 v1 v2).toArray, vh]) (n := 46) (rs := [.tmp 10, .tmp 11]) Tryz.func41 rfl rfl rfl (by simp) ?_
  (repeat with_reducible first | refine js ?_ | refine ja ?_ | refine jw KL41 [] TF41 fun _ => ?_)
  refine SemW_box fun pt w1 h1 => SemW_box fun pf w2 h2 => SemW_box fun pp w3 h3 => ?_
  have x3 := h1.ext.trans (h2.ext.trans h3.ext)
  have T : ∀ w', Ext w3 w' → AtN w' pt 0 (t.cs vl) := fun w' x => (h1.at_.ext (h2.ext.trans (h3.ext.trans x))).n
  have F : ∀ w', Ext w3 w' → AtN w' pf 0 (f.cs u0 u1 u2) := fun w' x => (h2.at_.ext (h3.ext.trans x)).n
  have P : ∀ w', Ext w3 w' → AtN w' pp 0 (p.cs v0 v1 v2) := fun w' x => (h3.at_.ext x).n
  simp only [TimeD.cs, TariffD.cs, PlanD.cs, AtN, KS, Nat.reduceAdd, Nat.reduceMul, Nat.reduceEqDiff, ↓reduceIte, UT] at T F P
  have t3 := T w3 (Ext.refl _)
  have f3 := F w3 (Ext.refl _)
  have p3 := P w3 (Ext.refl _)
  (repeat with_reducible first | refine js ?_ | refine ja ?_ | refine jw KL41 [] (aa TF41 (aa t3 (aa f3 p3))) fun _ => ?_)
  refine few42W (hl.ext x3) (hT.ext x3) (ho.ext x3) (hP.ext x3) (hh.ext x3) (Sl.nil _) fun b w5 x5 hb => ?_
  have y5 := x3.trans x5
  have t5 := T w5 x5
  have f5 := F w5 x5
  have p5 := P w5 x5
  (repeat with_reducible first | refine js ?_ | refine ja ?_ | refine jw KL41 [] (aa TF41 (aa t5 (aa f5 (aa p5 KX)))) fun _ => ?_)
  refine .inr ⟨.int .i64 (Au.err t f l p hd), fun _ => rerr42Q (hl.ext y5) (hT.ext y5) (ho.ext y5) (hP.ext y5) (hh.ext y5), fun w6 x6 => ?_⟩
  unfold hush
  have y6 := y5.trans x6
  have z6 := x5.trans x6
  (repeat with_reducible first | refine js ?_ | refine ja ?_ | refine jw KL41 [] (aa TF41 KX) fun _ => ?_)
  refine Run_condS (fun _ => rfl) (fun h => ?_) (fun h => ?_)
  · (repeat with_reducible first | refine js ?_ | refine ja ?_ | refine jw KL41 [] TF41 fun _ => ?_)
    refine Run_ret ?_
    simp [Rets, RetM, resV, fnd, oneOr, y6]
  have hh0 : b = true ∧ Au.err t f l p hd = 0 := by
    simp only [Bool.or_eq_false_iff, Bool.not_eq_false', bne_eq_false_iff_eq] at h
    exact h
  obtain ⟨hbt, herr⟩ := hh0
  obtain ⟨hb1, hb2, hb3⟩ := hb hbt
  clear h hb
  have t6 := T w6 z6
  have f6 := F w6 z6
  have p6 := P w6 z6
  (repeat with_reducible first | refine js ?_ | refine ja ?_ | refine jw KL41 [] (aa TF41 (aa t6 (aa f6 p6))) fun _ => ?_)
  refine allW rfl (hl.ext y6) (hT.ext y6) (ho.ext y6) (hP.ext y6) (hh.ext y6) hb2 (by omega) fun vm w7 x7 sm => ?_
  have y7 := y6.trans x7
  have sml := sm.len
  (try simp (maxSteps := 5000000) only [KS, Nat.reduceAdd, Nat.reduceMul, Nat.reduceEqDiff, ↓reduceIte, forall_const, Int.cast_ofNat_Int, Int.reduceToNat, List.take_succ_cons, List.take_zero, List.drop_succ_cons, List.drop_zero, TF41, KL41]); (try simp (disch := omega) only [wrapI, tmodI, tdivI])
  refine ⟨by decide, by decide, ?_⟩
  (repeat with_reducible first | refine js ?_ | refine ja ?_ | refine jw KL41 [] (aa TF41 (aa sm.s (aa sml KX))) fun _ => ?_)
  refine Run_ret ?_
  simp only [Rets, RetM, resV, fnd, oneOr, ↓reduceIte]
  refine ⟨_, rfl, _, rfl, vm, _, rfl, y7, fun hq => ?_⟩
  simp only [Bool.and_eq_true, beq_iff_eq, decide_eq_true_eq] at hq
  exact ⟨hb1, hb2, hq.1, by omega, sm⟩
theorem settled42W {vl u0 u1 u2 vo v0 v1 v2 vh : Value} {t : TimeD} {f : TariffD} {l : List OrderD} {p : PlanD} {hd : List Int} {w : World} {K : Value → World → Prop} (hl : Sl w vl t.Lines) (hT : TarR w f u0 u1 u2) (ho : Sl w vo l) (hP : PlanR w p v0 v1 v2) (hh : Sl w vh hd)
    (hK : ∀ v (b : Bool) w', Ext w w' → (b = true → l.length ≤ 8 ∧ p.Runs.length ≤ 70 ∧ (Au.all t f l p hd).2 = 0 ∧ (Au.all t f l p hd).1.length ≤ 1000 ∧ Sl w' v (Au.all t f l p hd).1) → K (.tuple #[v, .bool b]) w') :
    CallW Tryz.prog (.func (.func 41) #[] #[]) [.agg #[.int .i64 t.Offices, vl], .agg #[u0, u1, u2], vo, .agg #[v0, v1, v2], vh] w K :=
  CallW_gen call41 (settled42 vl u0 u1 u2 vo v0 v1 v2 vh t f l p hd w hl hT ho hP hh) fun e w' ⟨v, b, he, x, hb⟩ => ⟨_, he, hK v b w' x hb⟩
set_option maxHeartbeats 4000000 in
theorem lawAuditNames (vl u0 u1 u2 vo v0 v1 v2 vh : Value) (t : TimeD) (f : TariffD) (l : List OrderD) (p : PlanD) (hd : List Int) (at' : Int) (o : MoveD) (w : World) (hl : Sl w vl t.Lines) (hT : TarR w f u0 u1 u2) (ho : Sl w vo l) (hP : PlanR w p v0 v1 v2) (hh : Sl w vh hd) (ha : 0 ≤ at' ∧ at' ≤ 65535) (hoI : MoveD.I o) :
    Calls Tryz.prog 15 #[.agg (t.cs vl).toArray, .agg (f.cs u0 u1 u2).toArray, vo, .agg (p.cs v0 v1 v2).toArray, vh, .int .u16 at', .agg o.cs.toArray] w fun e w' => e = .returned (.bool true) ∧ Ext w w' := by
  refine Calls_of_Run (args := [.agg (t.cs vl).toArray, .agg (f.cs u0 u1 u2).toArray, vo, .agg (p.cs v0 v1 v2).toArray, vh, .int .u16 at', .agg o.cs.toArray]) (n := 133) (rs := [.tmp 14]) Tryz.func15 rfl rfl rfl (by simp) ?_
  (repeat with_reducible first | refine js ?_ | refine ja ?_ | refine jw KL15 [12, 18] TF15 fun _ => ?_)
  refine SemW_box fun pt w1 h1 => SemW_box fun pf w2 h2 => SemW_box fun pp w3 h3 => SemW_box fun po w3' h3' => ?_
  have x3 := h1.ext.trans (h2.ext.trans (h3.ext.trans h3'.ext))
  have T : ∀ w', Ext w3' w' → AtN w' pt 0 (t.cs vl) := fun w' x => (h1.at_.ext (h2.ext.trans (h3.ext.trans (h3'.ext.trans x)))).n
  have F : ∀ w', Ext w3' w' → AtN w' pf 0 (f.cs u0 u1 u2) := fun w' x => (h2.at_.ext (h3.ext.trans (h3'.ext.trans x))).n
  have P : ∀ w', Ext w3' w' → AtN w' pp 0 (p.cs v0 v1 v2) := fun w' x => (h3.at_.ext (h3'.ext.trans x)).n
  have O : ∀ w', Ext w3' w' → AtN w' po 0 o.cs := fun w' x => (h3'.at_.ext x).n
  have e1 := h1.blk
  have e2 := h2.blk
  have e3 := h3.blk
  have e4 := h3'.blk
  simp only [TimeD.cs, TariffD.cs, PlanD.cs, MoveD.cs, AtN, KS, Nat.reduceAdd, Nat.reduceMul, Nat.reduceEqDiff, ↓reduceIte, UT] at T F P O
  clear h1 h2 h3 h3'
  (repeat with_reducible first | refine js ?_ | refine ja ?_ | refine jw KL15 [12, 18] TF15 fun _ => ?_)
  refine sane42W fun w4 x4 => ?_
  (repeat with_reducible first | refine js ?_ | refine ja ?_ | refine jw KL15 [12, 18] TF15 fun _ => ?_)
  refine Run_condS (fun _ => rfl) (fun h => by cases h) (fun _ => ?_)
  have y4 := x3.trans x4
  have t4 := T w4 x4
  have f4 := F w4 x4
  have p4 := P w4 x4
  (repeat with_reducible first | refine js ?_ | refine ja ?_ | refine jw KL15 [12, 18] (aa TF15 (aa t4 (aa f4 p4))) fun _ => ?_)
  refine settled42W (hl.ext y4) (hT.ext y4) (ho.ext y4) (hP.ext y4) (hh.ext y4) fun vm b w5 x5 hb => ?_
  have y5 := y4.trans x5
  have z5 := x4.trans x5
  (repeat with_reducible first | refine js ?_ | refine ja ?_ | refine jw KL15 [12, 18] (aa TF15 KX) fun _ => ?_)
  refine Run_condS (fun _ => rfl) (fun h => ?_) (fun h => ?_)
  · (repeat with_reducible first | refine js ?_ | refine ja ?_ | refine jw KL15 [12, 18] TF15 fun _ => ?_)
    refine Run_ret ?_
    simp [Rets, RetM, resV, fnd, oneOr, y5]
  obtain ⟨hl8, hR, h0, hBl, sm⟩ := hb (by simpa using h)
  clear h hb
  have hmore := Au.check_more h0 hR (show l.length ≤ 64 by omega) o
  have hless := fun k hk => Au.check_less (k := k) h0 hR (show l.length ≤ 64 by omega) hk
  have hset := fun k hk hne => Au.check_set (k := k) (o := o) h0 hR (show l.length ≤ 64 by omega) hk hne
  have hsame := fun k hk he => Au.check_same (k := k) (o := o) h0 hR (show l.length ≤ 64 by omega) hk he
  generalize (Au.all t f l p hd).1 = B at *
  have sml := sm.len
  (repeat with_reducible first | refine jq ?_ | refine jk ?_ | refine jc ?_ | refine jl ?_ | refine jb ?_ | refine jo ?_ | refine ji ?_ | refine jx rfl ?_)
  refine Run_cutV [17, 18, 19] (σ := Unit) (fun _ => [(17, some (.int .i64 B.length)), (18, some (.bool false)), (19, some (.int .i64 0))]) (fun _ w' => Ext w5 w') ?_ ?_
  · (repeat with_reducible first | refine jq ?_ | refine jk ?_ | refine jc ?_ | refine jl ?_ | refine jb ?_ | refine jo ?_ | refine ji ?_ | refine jx rfl ?_)
    refine Run_ec (id := 6) KL15 (.first 0 (.first 1 (.first 2 (.first 3 (.first 4 (.first 6 (.first 8 (.alt 5 (.alt 7 (.alt 9 (.alt 10 (.alt 11 (.first 12 (.first 13 (.first 14 (.first 15 (.first 16 (.first 17 (.first 18 .done))))))) .stop) .stop) .stop) (.alt 9 (.alt 7 (.alt 10 (.alt 11 (.first 12 (.first 13 (.first 14 (.first 15 (.first 16 (.first 17 (.first 18 .done))))))) .stop) .stop) .stop) .stop)) (.alt 9 (.alt 5 (.alt 7 (.alt 10 (.alt 11 (.first 12 (.first 13 (.first 14 (.first 15 (.first 16 (.first 17 (.first 18 .done))))))) .stop) .stop) .stop) .stop) .stop))))))))) mixed (by kernel_rfl) (by kernel_rfl) fun w6 x6 _ => ?_
    have z6 := z5.trans x6
    have y6 := x3.trans z6
    have y56 := y5.trans x6
    have t6 := T w6 z6
    have f6 := F w6 z6
    have p6 := P w6 z6
    have o6 := O w6 z6
    (try simp (maxSteps := 5000000) only [KS, Nat.reduceAdd, Nat.reduceMul, Nat.reduceEqDiff, ↓reduceIte, forall_const, Int.cast_ofNat_Int, Int.reduceToNat, List.take_succ_cons, List.take_zero, List.drop_succ_cons, List.drop_zero, TF15, KL15, ec, t6, f6, p6, o6, sm.s, sml]); (try simp (disch := omega) only [wrapI, tmodI, tdivI])
    (try simp (maxSteps := 5000000) only [KS, Nat.reduceAdd, Nat.reduceMul, Nat.reduceEqDiff, ↓reduceIte, forall_const, Int.cast_ofNat_Int, Int.reduceToNat, List.take_succ_cons, List.take_zero, List.drop_succ_cons, List.drop_zero, TF15, KL15, ec, t6, f6, p6, o6, sm.s, sml]); (try simp (disch := omega) only [wrapI, tmodI, tdivI])
    have hA : ∀ (w' : World) (K : Value → World → Prop), Ext w6 w' → (∀ v w'', Ext w' w'' → BufO (α := MoveD) 70 w'.heap.size w'' v [] → K v w'') → SemW Tryz.prog (Instr.buildSlice 35 0 #[]) w' K := fun w' K hx hK =>
      SemW_buildF (α := MoveD) (W := w') Tryz.underlying35 ti70 rfl (by decide) (Ext.refl _) [] [] rfl rfl (Cs.nil _) (by decide) fun p0 w'' b0 _ x0 => hK _ w'' x0 b0.o
    have hB : ∀ (v : Value) (w' : World) (C : Nat) (K : Value → World → Prop), Ext w6 w' → BufO (α := MoveD) 70 C w' v [] → w6.heap.size ≤ C → C ≤ w'.heap.size → (∀ v' w'', Ext w6 w'' → BufO (α := MoveD) 70 C w'' v' B → Keep (fun k => k < C ∨ some k ≠ v.ownBlock) w' w'' → K v' w'') → SemW Tryz.prog (Builtin.append_ #[35, 35] 35 #[v, vm]) w' K := fun v w' C K hx hb h1 h2 hK =>
      SemW_appendFO (α := MoveD) Tryz.underlying35 ti70 rfl (by decide) hb h2 (sm.ext (x6.trans hx)) (by simp only [maxLen, List.length_nil]; omega) fun v' w'' b'' k'' => hK v' w'' (Keep.ext hx k'' fun q hq e => by have := (hb.own_lt e.symm).1; omega) (by simpa using b'') (k''.mono fun q _ hq => by
        rcases hq with hq | hq
        · intro e; have := (hb.own_lt e.symm).1; omega
        · exact hq)
    have hC : ∀ (w' : World) (K : Value → World → Prop), (∀ q w'', Ext w' w'' → Row w'' q 70 o.cs → q.block = w'.heap.size → K (.slice (some q) 1 1) w'') → SemW Tryz.prog (Instr.buildSlice 35 1 #[(0, .agg #[.int .i64 o.No, .int .i64 o.From, .int .i64 o.To, .int .i64 o.Amount, .int .i64 o.Why, .int .i64 o.Run])]) w' K := fun w' K hK =>
      SemW_buildSlice (vs := [_]) Tryz.underlying35 ti70 rfl rfl rfl (by simp [Value.cells]) (by show 1 * 6 ≤ 16777216; decide) fun q w'' h => hK q w'' h.ext (by have := h.row; simpa [Value.cells, MoveD.cs] using this) h.blk
    have hD : ∀ (v : Value) (q : Addr) (w' : World) (C : Nat) (K : Value → World → Prop), Ext w6 w' → BufO (α := MoveD) 70 C w' v B → w6.heap.size ≤ C → C ≤ w'.heap.size → Row w' q 70 o.cs → (∀ v' w'', Ext w6 w'' → Sl w'' v' (B ++ [o]) → K v' w'') → SemW Tryz.prog (Builtin.append_ #[35, 35] 35 #[v, .slice (some q) 1 1]) w' K := fun v q w' C K hx hb h1 h2 hr hK =>
      SemW_appendFO (α := MoveD) Tryz.underlying35 ti70 rfl (by decide) hb h2 (Sl.of_row (css := [_]) hr (Cs.one ⟨rfl, hoI⟩) rfl (by simp)) (by simp only [maxLen, List.length_singleton]; omega) fun v' w'' b'' k'' => hK v' w'' (Keep.ext hx k'' fun q hq e => by have := (hb.own_lt e.symm).1; omega) (b''.sl (by rw [List.length_append, List.length_singleton]; omega))
    refine ⟨Ext.refl _, hA w6 _ (Ext.refl _) fun v7 w7 x7 b7 => ⟨x7, hB v7 w7 _ _ x7 b7 (Nat.le_refl _) x7.size fun v8 w8 x8 b8 k8 => ⟨x8, hC w8 _ fun q w9 x9 r9 e9 => ⟨x8.trans x9, hD v8 q w9 _ _ (x8.trans x9) (b8.keepQ (Keep.of_ext (S := fun _ => True) x9) fun _ _ => trivial) (Nat.le_refl _) (x8.trans x9).size r9 fun v10 w10 x10 s10 => ⟨x10, ?_⟩⟩⟩,
      x7, hC w7 _ fun q w8 x8 r8 e8 => ⟨x7.trans x8, hB v7 w8 _ _ (x7.trans x8) (b7.keepQ (Keep.of_ext (S := fun _ => True) x8) fun _ _ => trivial) (Nat.le_refl _) (x7.trans x8).size fun v9 w9 x9 b9 k9 => ⟨x9, hD v9 q w9 _ _ x9 b9 (Nat.le_refl _) x9.size (r8.keep k9 (.inr fun e => by have := (b7.own_lt e.symm).2; omega)) fun v10 w10 x10 s10 => ⟨x10, ?_⟩⟩⟩⟩,
      Ext.refl _, hC w6 _ fun q w7 x7 r7 e7 => ⟨x7, hA w7 _ x7 fun v8 w8 x8 b8 => ⟨x7.trans x8, hB v8 w8 _ _ (x7.trans x8) b8 x7.size x8.size fun v9 w9 x9 b9 k9 => ⟨x9, hD v9 q w9 _ _ x9 b9 x7.size (by have := x8.size; have := k9.size; omega) ((r7.ext x8).keep k9 (.inl (by have := r7.lt; omega))) fun v10 w10 x10 s10 => ⟨x10, ?_⟩⟩⟩⟩⟩
    all_goals
      refine auCheckW hmore (hl.ext (y6.trans x10)) (hT.ext (y6.trans x10)) (ho.ext (y6.trans x10)) (hP.ext (y6.trans x10)) (hh.ext (y6.trans x10)) s10 hR fun w11 x11 => ?_
      (try simp (maxSteps := 5000000) only [KS, Nat.reduceAdd, Nat.reduceMul, Nat.reduceEqDiff, ↓reduceIte, forall_const, Int.cast_ofNat_Int, Int.reduceToNat, List.take_succ_cons, List.take_zero, List.drop_succ_cons, List.drop_zero, TF15, KL15]); (try simp (disch := omega) only [wrapI, tmodI, tdivI])
      refine ⟨by decide, by decide, by decide, x10.trans x11, ?_⟩
      (repeat with_reducible first | refine js ?_ | refine ja ?_ | refine jw KL15 [12, 18] TF15 fun _ => ?_)
      exact Run_lp ⟨(), by simp [SubB, fnd, strike, has], x6.trans (x10.trans x11)⟩
  rintro _ w7 x7
  have y7 := y5.trans x7
  have z7 := z5.trans x7
  have sm7 := sm.ext x7
  (repeat with_reducible first | refine js ?_ | refine ja ?_ | refine jw KL15 [12, 18] (aa TF15 (aa sm7.s (aa sml (aa @bne_self_eq_false.{0} KX)))) fun _ => ?_)
  refine Run_condS (fun _ => rfl) (fun h => by cases h) (fun _ => ?_)
  (repeat with_reducible first | refine js ?_ | refine ja ?_ | refine jw KL15 [12, 18] (aa TF15 (aa sm7.s sml)) fun _ => ?_)
  refine Run_condS (fun _ => rfl) (fun h => ?_) (fun h => ?_)
  · (repeat with_reducible first | refine js ?_ | refine ja ?_ | refine jw KL15 [12, 18] TF15 fun _ => ?_)
    refine Run_ret ?_
    simp [Rets, RetM, resV, fnd, oneOr]
    exact y7
  have hB0 : B.length ≠ 0 := by simpa using h
  clear h
  have hB1 : 0 < B.length := by omega
  obtain ⟨k, hkE, hkl⟩ : ∃ k : Nat, at' % (B.length : Int) = (k : Int) ∧ k < B.length := by
    have q1 := Int.emod_nonneg at' (show (B.length : Int) ≠ 0 by omega)
    have q2 := Int.emod_lt_of_pos at' (show (0 : Int) < B.length by omega)
    exact ⟨(at' % (B.length : Int)).toNat, by omega, by omega⟩
  have hkc : (k : Int) < B.length := by omega
  have hcap := sm.cap
  have t7 := T w7 z7
  have f7 := F w7 z7
  have p7 := P w7 z7
  (repeat with_reducible first | refine js ?_ | refine ja ?_ | refine jw KL15 [12, 18] (aa TF15 (aa sm7.s (aa sml (aa hkE (aa t7 (aa f7 p7)))))) fun _ => ?_)
  have sub : ∀ w', Ext w7 w' → Sl w' (slSub 6 vm 0 k (slCap vm)) (B.take k) := fun w' x => by
    have := (sm7.ext x).sub (l := 0) (r := k) (m := slCap vm) (by omega) (by omega) (by omega) (Nat.le_refl _)
    rwa [List.drop_zero] at this
  refine ⟨.tuple #[.int .i64 k, .bool false, .int .i64 0], PC_pure call29 fun w8 x8 => ?_, ⟨by simp, by simp⟩, ⟨by simp, by simp⟩, ⟨by simp, by simp⟩, fun w8 x8 => ?_⟩
  · have := auCheckM vl u0 u1 u2 vo v0 v1 v2 vh (slSub 6 vm 0 k (slCap vm)) t f l p hd (B.take k) w8 (hl.ext (y7.trans x8)) (hT.ext (y7.trans x8)) (ho.ext (y7.trans x8)) (hP.ext (y7.trans x8)) (hh.ext (y7.trans x8)) (sub w8 x8) hR
    rw [hless k hkl] at this
    simpa [TimeD.cs, TariffD.cs, PlanD.cs] using this
  have y8 := y7.trans x8
  have z8 := z7.trans x8
  have sm8 := sm7.ext x8
  (repeat with_reducible first | refine js ?_ | refine ja ?_ | refine jw KL15 [12, 18] (aa TF15 (aa sm8.s (aa sml (aa @bne_self_eq_false.{0} KX)))) fun _ => ?_)
  refine Run_condS (fun _ => rfl) (fun h => by cases h) (fun _ => ?_)
  (repeat with_reducible first | refine js ?_ | refine ja ?_ | refine jw KL15 [12, 18] TF15 fun _ => ?_)
  refine SemW_buildF (α := MoveD) (W := w8) Tryz.underlying35 ti70 rfl (by decide) (Ext.refl _) [] [] rfl rfl (Cs.nil _) (by decide) fun p0 w9 b9 _ x9 => ?_
  refine SemW_appendF (α := MoveD) Tryz.underlying35 ti70 rfl (by decide) b9 (sm8.ext x9) (by simp only [maxLen, List.length_nil]; omega) fun vx w10 b10 _ x10 => ?_
  rw [List.nil_append] at b10
  have y10 := y8.trans x10
  have z10 := z8.trans x10
  have o10 := O w10 z10
  obtain ⟨bs1, bs2⟩ := b10.isS
  (repeat with_reducible first | refine js ?_ | refine ja ?_ | refine jw KL15 [12, 18] (aa TF15 (aa o10 (aa bs1 bs2))) fun _ => ?_)
  refine SemW_setE b10 k hkl o (by rw [cells70]; rfl) (by decide) ⟨rfl, hoI⟩ (by simp [Enc.n]) fun w11 b11 k11 z11 x11 => ?_
  have y11 := y8.trans x11
  have z11 := z8.trans x11
  have sx := b11.sl (by rw [List.length_set]; omega)
  have t11 := T w11 z11
  have f11 := F w11 z11
  have p11 := P w11 z11
  (repeat with_reducible first | refine js ?_ | refine ja ?_ | refine jw KL15 [12, 18] (aa TF15 (aa t11 (aa f11 p11))) fun _ => ?_)
  have hS1 := hset k hkl
  have hS2 := hsame k hkl
  generalize hcr : Au.check t f l p hd (B.set k o) = cr at *
  obtain ⟨ra, rb, rc⟩ := cr
  refine auCheckW hcr (hl.ext y11) (hT.ext y11) (ho.ext y11) (hP.ext y11) (hh.ext y11) sx hR fun w12 x12 => ?_
  have y12 := y11.trans x12
  have z12 := z11.trans x12
  have o12 := O w12 z12
  obtain ⟨e1, mI⟩ := (sm8.ext (x11.trans x12)).moveD hkl
  simp only [MoveD.cs, AtN, KS, Nat.reduceAdd, Nat.reduceMul, Nat.reduceEqDiff, ↓reduceIte, UT] at e1
  (try simp (maxSteps := 5000000) only [KS, Nat.reduceAdd, Nat.reduceMul, Nat.reduceEqDiff, ↓reduceIte, forall_const, Int.cast_ofNat_Int, Int.reduceToNat, List.take_succ_cons, List.take_zero, List.drop_succ_cons, List.drop_zero, TF15, KL15]); (try simp (disch := omega) only [wrapI, tmodI, tdivI])
  refine ⟨by decide, by decide, by decide, ?_⟩
  (repeat with_reducible first | refine js ?_ | refine ja ?_ | refine jw KL15 [12, 18] (aa TF15 (aa o12 (aa e1 (aa sm8.s (aa sml hkc))))) fun _ => ?_)
  refine ⟨by kernel_rfl, fun w13 x13 => ?_⟩
  rw [eqM43]
  have y13 := y12.trans x13
  refine Run_condS (fun _ => rfl) (fun h => ?_) (fun h => ?_)
  · have he : o = B[k] := by simpa using h
    have := hS2 he
    simp only [Prod.mk.injEq] at this
    obtain ⟨rfl, rfl⟩ := this
    (repeat with_reducible first | refine js ?_ | refine ja ?_ | refine jw KL15 [12, 18] (aa TF15 (aa @beq_self_eq_true.{0} KX)) fun _ => ?_)
    refine Run_ret ?_
    simp [Rets, RetM, resV, fnd, oneOr]
    exact y13
  · have he : o ≠ B[k] := by simpa using h
    have := hS1 he
    simp only [Prod.mk.injEq] at this
    obtain ⟨rfl, rfl, rfl⟩ := this
    (repeat with_reducible first | refine js ?_ | refine ja ?_ | refine jw KL15 [12, 18] (aa TF15 (aa @beq_self_eq_true.{0} KX)) fun _ => ?_)
    refine Run_ret ?_
    simp [Rets, RetM, resV, fnd, oneOr]
    exact y13
end Go.Proofs.YtoadfmgnpmcbfaaGreat
