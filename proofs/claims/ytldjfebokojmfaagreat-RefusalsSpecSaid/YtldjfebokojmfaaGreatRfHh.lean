import Derived.Test.YtldjfebokojmfaaGreatRfHl
import Derived.Test.YtldjfebokojmfaaGreatRfW22u
import Derived.Test.YtldjfebokojmfaaGreatRfGs
import Derived.Test.YtldjfebokojmfaaGreatRfGe
namespace Go.Proofs.YtldjfebokojmfaaGreat
open Go Go.Fk
set_option linter.unusedSimpArgs false
set_option linter.unusedVariables false
set_option maxRecDepth 100000
section
variable {vl u0 u1 u2 vo vO : Value} {t : TimeD} {f : TariffD} {l : List OrderD} {covers : Int} {opts : List (List RunD)}
set_option maxHeartbeats 16000000 in
theorem rfChoose (hlen : opts.length = l.length) (hl64 : l.length ≤ 64) (hcr : ∀ o ∈ l, 1 ≤ o.Crowd ∧ o.Crowd ≤ 64) (hopt : ∀ o ∈ opts, ∀ r ∈ o, 0 ≤ r.Line ∧ r.Line < t.Lines.length) :
    ∀ (rest : List (List RunD)) (of : List RunD) (vof : Value) (w : World), opts.drop of.length = rest → of.length + rest.length = l.length → Sl w vl t.Lines → TarR w f u0 u1 u2 → Sl w vo l → Sl w vO opts → Sl w vof of →
      Calls Tryz.prog 43 #[.agg (t.cs vl).toArray, .agg (f.cs u0 u1 u2).toArray, vo, .int .i64 covers, vO, vof] w
        (fun e w' => ∃ v, e = .returned (.tuple #[v, .bool (Pl.srch l (Pl.room t) (Pl.leafC t f l covers) rest of).isSome]) ∧ Ext w w' ∧ ∀ x, Pl.srch l (Pl.room t) (Pl.leafC t f l covers) rest of = some x → Sl w' v x) := by
  intro rest
  induction rest with
  | nil =>
    intro of vof w hdr hn hl hT ho hO hof
    have ofl := hof.len
    have hll := ho.len
    simp only [List.length_nil, Nat.add_zero] at hn
    refine Calls_of_Run (args := [.agg (t.cs vl).toArray, .agg (f.cs u0 u1 u2).toArray, vo, .int .i64 covers, vO, vof]) (n := 106) (rs := [.tmp 12, .tmp 13]) Tryz.func43 rfl rfl rfl (by simp) ?_
    (repeat with_reducible first | refine jy ?_ | refine jw KL43 [2, 10] TF43 fun _ => ?_)
    refine SemW_box fun pt w1 h1 => SemW_box fun pf w2 h2 => ?_
    have x2 := h1.ext.trans h2.ext
    have T : ∀ w', Ext w2 w' → AtN w' pt 0 (t.cs vl) := fun w' x => (h1.at_.ext (h2.ext.trans x)).n
    have F : ∀ w', Ext w2 w' → AtN w' pf 0 (f.cs u0 u1 u2) := fun w' x => (h2.at_.ext x).n
    simp only [TimeD.cs, TariffD.cs, AtN, KS, Nat.reduceAdd, Nat.reduceMul, Nat.reduceEqDiff, ↓reduceIte, UT] at T F
    (repeat with_reducible first | refine jy ?_ | refine jw KL43 [2, 10] (aa TF43 (aa hof.s (aa ofl (aa ho.s hll)))) fun _ => ?_)
    refine Run_condS (fun _ => rfl) (fun h => ?_) (fun h => ?_)
    · clear h
      (repeat with_reducible refine js ?_)
      refine Run_ec (id := 2) KL43 (.first 0 (.first 1 (.first 2 (.first 3 (.first 4 (.first 5 (.alt 6 (.alt 7 (.first 8 (.first 9 (.first 10 (.first 11 (.first 12 .done))))) .stop) .stop))))))) mixed (by kernel_rfl) (by kernel_rfl) fun w3 x3 _ => ?_
      have y3 := x2.trans x3
      have t3 := T w3 x3
      have f3 := F w3 x3
      (try simp (maxSteps := 5000000) only [KS, Nat.reduceAdd, Nat.reduceMul, Nat.reduceEqDiff, ↓reduceIte, forall_const, Int.cast_ofNat_Int, Int.reduceToNat, List.take_succ_cons, List.take_zero, List.drop_succ_cons, List.drop_zero, TF43, KL43, ec, t3, f3]); (try simp (disch := omega) only [wrapI, tmodI, tdivI])
      refine ⟨Ext.refl _, CallW_gen call44 (rfPlan vo vof l of w3 (ho.ext y3) (hof.ext y3) (by omega) hl64 hcr) fun e w4 ⟨p0, p1, p2, he4, x4, hP⟩ => ⟨_, he4, x4, ?_⟩⟩
      have y4 := y3.trans x4
      refine CallW_pure call71 (rfCheckP vl u0 u1 u2 vo p0 p1 p2 t f l covers (Pl.planOf l of) w4 (hl.ext y4) (hT.ext y4) (ho.ext y4) hP) fun w5 x5 => ⟨⟨rfl, by simp [tpOf]⟩, ⟨rfl, by simp [tpOf]⟩, x4.trans x5, ?_⟩
      (repeat with_reducible first | refine jy ?_ | refine jw KL43 [2, 10] TF43 fun _ => ?_)
      refine Run_ret ?_
      have hb : Pl.leafC t f l covers of = (Pl.check t f l covers (Pl.planOf l of)).1 := rfl
      rw [← hb]
      unfold Pl.srch
      cases hlf : Pl.leafC t f l covers of
      · simp [Rets, RetM, resV, fnd, oneOr]
        exact y4.trans x5
      · simp [Rets, RetM, resV, fnd, oneOr]
        exact ⟨y4.trans x5, hof.ext (y4.trans x5)⟩
    · exact absurd h (by simp [hn])
  | cons o rest ih =>
    intro of vof w hdr hn hl hT ho hO hof
    have ofl := hof.len
    have hll := ho.len
    have hos := hO.s
    have hol := hO.len
    simp only [List.length_cons] at hn
    refine Calls_of_Run (args := [.agg (t.cs vl).toArray, .agg (f.cs u0 u1 u2).toArray, vo, .int .i64 covers, vO, vof]) (n := 106) (rs := [.tmp 12, .tmp 13]) Tryz.func43 rfl rfl rfl (by simp) ?_
    (repeat with_reducible first | refine jy ?_ | refine jw KL43 [2, 10] TF43 fun _ => ?_)
    refine SemW_box fun pt w1 h1 => SemW_box fun pf w2 h2 => ?_
    have x2 := h1.ext.trans h2.ext
    have T : ∀ w', Ext w2 w' → AtN w' pt 0 (t.cs vl) := fun w' x => (h1.at_.ext (h2.ext.trans x)).n
    have F : ∀ w', Ext w2 w' → AtN w' pf 0 (f.cs u0 u1 u2) := fun w' x => (h2.at_.ext x).n
    simp only [TimeD.cs, TariffD.cs, AtN, KS, Nat.reduceAdd, Nat.reduceMul, Nat.reduceEqDiff, ↓reduceIte, UT] at T F
    (repeat with_reducible first | refine jy ?_ | refine jw KL43 [2, 10] (aa TF43 (aa hof.s (aa ofl (aa ho.s hll)))) fun _ => ?_)
    refine Run_condS (fun _ => rfl) (fun h => ?_) (fun h => ?_)
    · exact absurd h (by simp; omega)
    clear h
    have hk : of.length < opts.length := by omega
    have hkl : of.length < l.length := by omega
    have hkc : (of.length : Int) < opts.length := by omega
    have hko : opts[of.length] = o := by
      have := List.drop_eq_getElem_cons hk
      rw [hdr] at this
      exact (List.cons.inj this).1.symm
    have hdr2 : opts.drop (of.length + 1) = rest := by
      have := List.drop_eq_getElem_cons hk
      rw [hdr] at this
      exact (List.cons.inj this).2.symm
    have hps : Pl.srch l (Pl.room t) (Pl.leafC t f l covers) (o :: rest) of = o.findSome? fun r => if Pl.step l (Pl.room t) of r then Pl.srch l (Pl.room t) (Pl.leafC t f l covers) rest (of ++ [r]) else none := rfl
    rw [hps]
    generalize hf : (fun r => if Pl.step l (Pl.room t) of r then Pl.srch l (Pl.room t) (Pl.leafC t f l covers) rest (of ++ [r]) else none) = g
    obtain ⟨cs, ⟨vk, rfl, sk0⟩, ak⟩ := hO.at_ of.length hk
    rw [hko] at sk0
    rw [show of.length * Enc.n (List RunD) = of.length from Nat.mul_one _] at ak
    have skl := sk0.len
    have osm := sk0.small
    have hoin : o ∈ opts := by rw [← hko]; exact List.getElem_mem hk
    (repeat with_reducible first | refine jy ?_ | refine jw KL43 [2, 10] (aa TF43 (aa hof.s ofl)) fun _ => ?_)
    refine Run_loopV [12, 13, 17, 18, 19, 20, 21, 22, 49, 93, 104] (σ := Nat) (fun q => [(17, some (.int .i64 q)), (12, some (.slice none 0 0)), (13, some (.bool false))]) (fun q w' => q ≤ o.length ∧ (o.drop q).findSome? g = o.findSome? g ∧ Ext w2 w') (fun q => o.length - q) 0 (by simp [SubB, fnd]) ⟨by omega, rfl, Ext.refl _⟩ ?_
    rintro q w3 ⟨hq, hfs, x3⟩
    have y3 := x2.trans x3
    have ak3 := (ak.ext y3).n
    simp only [AtN, KS, Nat.reduceAdd, Nat.reduceMul, Nat.reduceEqDiff, ↓reduceIte, UT] at ak3
    (repeat with_reducible first | refine jy ?_ | refine jw KL43 [2, 10] (aa TF43 (aa hos (aa hol (aa ak3 (aa sk0.s skl))))) fun _ => ?_)
    refine Run_condS (fun _ => rfl) (fun h => ?_) (fun h => ?_)
    · simp at h
      have hql : q < o.length := by omega
      have hqc : (q : Int) < o.length := by omega
      clear h
      have hline := hopt o hoin o[q] (List.getElem_mem hql)
      have hfr : g o[q] = if Pl.step l (Pl.room t) of o[q] then Pl.srch l (Pl.room t) (Pl.leafC t f l covers) rest (of ++ [o[q]]) else none := by rw [← hf]
      have hskip := fun e => Pl.findS_skip (f := g) hql e
      have hhit := fun x e => Pl.findS_hit (f := g) (x := x) hql e
      have R := fun w' (x : Ext w3 w') => ((sk0.ext (y3.trans x)).runD hql).1
      have hI := ((sk0.ext y3).runD hql).2
      generalize o[q] = r at *
      simp only [RunD.cs, AtN, KS, Nat.reduceAdd, Nat.reduceMul, Nat.reduceEqDiff, ↓reduceIte, UT] at R
      have hre : ∀ w', Enc.rep w' r.cs r := fun w' => ⟨rfl, hI⟩
      (repeat with_reducible refine js ?_)
      refine Run_cutV [18] (σ := Value) (fun u => [(18, some u)]) (fun u w' => Ext w3 w' ∧ Sl w' u (of ++ [r])) ?_ ?_
      · refine Run_ec (id := 8) KL43 (.first 1 (.first 3 (.first 4 (.first 5 (.first 6 (.first 7 (.first 8 (.first 9 (.alt 0 (.alt 2 (.alt 10 (.alt 11 (.first 12 .done) .stop) .stop) (.alt 10 (.alt 2 (.alt 11 (.first 12 .done) .stop) .stop) .stop)) (.alt 10 (.alt 0 (.alt 2 (.alt 11 (.first 12 .done) .stop) .stop) .stop) .stop)))))))))) mixed (by kernel_rfl) (by kernel_rfl) fun w4 x4 _ => ?_
        have z4 := y3.trans x4
        have r4 := R w4 x4
        have ak4 := (ak.ext z4).n
        simp only [AtN, KS, Nat.reduceAdd, Nat.reduceMul, Nat.reduceEqDiff, ↓reduceIte, UT] at ak4
        have s4 := hof.ext z4
        have hE : ∀ {w' : World} {K : Value → World → Prop}, Ext w4 w' → (∀ p w'', p.block = w'.heap.size → w''.heap.size = w'.heap.size + 1 → Ext w' w'' → Ext w4 w'' → BufL (α := RunD) 34 w4 w'' (.slice (some p) 0 0) [] → K (.slice (some p) 0 0) w'') → SemW Tryz.prog (Instr.buildSlice 59 0 #[]) w' K := fun hx' hK =>
          SemW_buildSlice (vs := []) Tryz.underlying59 ti34 rfl rfl rfl (by simp) (by simp) fun p w'' hN => hK p w'' hN.blk hN.size hN.ext (hx'.trans hN.ext) (BufL.new (css := []) (xs := ([] : List RunD)) hN hx' (Cs.nil _) (by simp))
        have hO' : ∀ {w' : World} {K : Value → World → Prop}, Ext w4 w' → (∀ q w'', q.block = w'.heap.size → w''.heap.size = w'.heap.size + 1 → Ext w' w'' → Ext w4 w'' → Row w'' q 34 r.cs → K (.slice (some q) 1 1) w'') → SemW Tryz.prog (Instr.buildSlice 59 1 #[(0, .agg #[.int .i64 r.Line, .int .i64 r.At, .int .i64 r.Arrive])]) w' K := fun hx' hK =>
          SemW_buildSlice (vs := [.agg r.cs.toArray]) Tryz.underlying59 ti34 rfl rfl rfl (by simp [Value.cells, RunD.cs]) (by simp) fun p w'' hN => hK p w'' hN.blk hN.size hN.ext (hx'.trans hN.ext) (by have := hN.row; simpa [Value.cells] using this)
        have hA : ∀ {p : Addr} {u w' : World} {K : Value → World → Prop}, BufL (α := RunD) 34 w4 u (.slice (some p) 0 0) [] → Ext u w' → (∀ v2 w'', BufL (α := RunD) 34 w4 w'' v2 of → Keep (fun b => b ≠ p.block) w' w'' → Ext w4 w'' → K v2 w'') → SemW Tryz.prog (Builtin.append_ #[59, 59] 59 #[.slice (some p) 0 0, vof]) w' K := fun hb hu hK =>
          SemW_appendF (α := RunD) Tryz.underlying59 ti34 rfl (by decide) (hb.ext hu) (s4.ext ((hb.ext hu).ext0)) (by simp [maxLen]; omega) fun v2 w'' hb' hg hx' => hK v2 w'' hb' (Keep.grown hg fun b hb1 hb2 => hb2 (by simpa [Value.ownBlock] using hb1.symm)) hx'
        have hF : ∀ {v2 : Value} {q : Addr} {w' : World} {K : Value → World → Prop}, BufL (α := RunD) 34 w4 w' v2 of → Row w' q 34 r.cs → (∀ v4 w'', BufL (α := RunD) 34 w4 w'' v4 (of ++ [r]) → Ext w4 w'' → K v4 w'') → SemW Tryz.prog (Builtin.append_ #[59, 59] 59 #[v2, .slice (some q) 1 1]) w' K := fun hb hq hK =>
          SemW_appendF (α := RunD) (ys := [r]) Tryz.underlying59 ti34 rfl (by decide) hb (Row.sl (css := [r.cs]) (by simpa using hq) (Cs.one (hre _)) (by simp)) (by simp [maxLen]; omega) fun v2 w'' hb' hg hx' => hK v2 w'' hb' hx'
        (try simp (maxSteps := 5000000) only [KS, Nat.reduceAdd, Nat.reduceMul, Nat.reduceEqDiff, ↓reduceIte, forall_const, Int.cast_ofNat_Int, Int.reduceToNat, List.take_succ_cons, List.take_zero, List.drop_succ_cons, List.drop_zero, TF43, KL43, ec, r4, ak4, hos, hol, sk0.s, skl]); (try simp (disch := omega) only [wrapI, tmodI, tdivI])
        have FIN : ∀ {v4 : Value} {w8 : World}, BufL (α := RunD) 34 w4 w8 v4 (of ++ [r]) → Ext w4 w8 → Ext w3 w8 ∧ Sl w8 v4 (of ++ [r]) := fun hb hx => ⟨x4.trans hx, hb.sl (by simp; omega)⟩
        refine ⟨⟨by omega, by omega⟩, ⟨by omega, by omega⟩, Ext.refl _, ?_, ?_⟩
        · refine hE (Ext.refl _) fun p5 w5 b5 z5 x5 y5 hb5 => ⟨y5, ?_, y5, ?_⟩
          · refine hA hb5 (Ext.refl _) fun v2 w6 hb6 k6 y6 => ⟨y6, ?_⟩
            refine hO' y6 fun q w7 b7 z7 x7 y7 r7 => ⟨y7, ?_⟩
            refine hF (hb6.ext x7) r7 fun v4 w8 hb8 y8 => ⟨y8, ?_⟩
            exact Run_lp ⟨v4, by simp [SubB, fnd, strike, has], FIN hb8 y8⟩
          · refine hO' y5 fun q w7 b7 z7 x7 y7 r7 => ⟨y7, ?_⟩
            refine hA hb5 x7 fun v2 w6 hb6 k6 y6 => ⟨y6, ?_⟩
            refine hF hb6 (r7.keep k6 (by omega)) fun v4 w8 hb8 y8 => ⟨y8, ?_⟩
            exact Run_lp ⟨v4, by simp [SubB, fnd, strike, has], FIN hb8 y8⟩
        · refine ⟨Ext.refl _, ?_⟩
          refine hO' (Ext.refl _) fun q w7 b7 z7 x7 y7 r7 => ⟨y7, ?_⟩
          refine hE y7 fun p5 w5 b5 z5 x5 y5 hb5 => ⟨y5, ?_⟩
          refine hA hb5 (Ext.refl _) fun v2 w6 hb6 k6 y6 => ⟨y6, ?_⟩
          refine hF hb6 ((r7.ext x5).keep k6 (by omega)) fun v4 w8 hb8 y8 => ⟨y8, ?_⟩
          exact Run_lp ⟨v4, by simp [SubB, fnd, strike, has], FIN hb8 y8⟩
      rintro u w4 ⟨x4, su⟩
      have y4 := y3.trans x4
      have r4 := R w4 x4
      have ak4 := (ak.ext y4).n
      simp only [AtN, KS, Nat.reduceAdd, Nat.reduceMul, Nat.reduceEqDiff, ↓reduceIte, UT] at ak4
      (repeat with_reducible first | refine jy ?_ | refine jw KL43 [2, 10] (aa TF43 (aa hos (aa hol (aa ak4 (aa sk0.s (aa skl r4)))))) fun _ => ?_)
      refine CallW_pure call49 (rfLoad vo u l (of ++ [r]) r w4 (ho.ext y4) su (by simp; omega) hcr (by omega) hI) fun w5 x5 => ?_
      have y5 := y4.trans x5
      have r5 := R w5 (x4.trans x5)
      have ak5 := (ak.ext y5).n
      have t5 := T w5 (x3.trans (x4.trans x5))
      simp only [AtN, KS, Nat.reduceAdd, Nat.reduceMul, Nat.reduceEqDiff, ↓reduceIte, UT] at ak5
      have hlt : r.Line.toNat < t.Lines.length := by omega
      obtain ⟨v0, v1, v2, v3, f1, f2, hR⟩ := (hl.ext y5).line hlt
      have hroom : Pl.room t r = t.Lines[r.Line.toNat].Room := by simp [Pl.room, Pl.lineR, List.getD_eq_getElem?_getD, hlt]
      have hstep : Pl.step l (Pl.room t) of r = decide (max (Pl.load l (of ++ [r]) r).n (Pl.load l (of ++ [r]) r).c ≤ Pl.room t r) := rfl
      rw [hroom] at hstep
      generalize t.Lines[r.Line.toNat] = x at *
      generalize Pl.load l (of ++ [r]) r = ld at *
      simp only [LineD.cs, AtN, KS, Nat.reduceAdd, Nat.reduceMul, Nat.reduceEqDiff, ↓reduceIte, UT] at f1
      (repeat with_reducible first | refine jy ?_ | refine jw KL43 [2, 10] (aa TF43 (aa hos (aa hol (aa ak5 (aa sk0.s (aa skl (aa r5 (aa t5 (aa hl.s (aa hl.len f1)))))))))) fun _ => ?_)
      intro w6 x6
      have y6 := y5.trans x6
      have z6 := x3.trans (x4.trans (x5.trans x6))
      refine Run_condS (fun _ => rfl) (fun h => ?_) (fun h => ?_)
      · have hs : Pl.step l (Pl.room t) of r = false := by rw [hstep]; simp at h ⊢; omega
        rw [hs] at hfr
        simp only [Bool.false_eq_true, if_false] at hfr
        (repeat with_reducible first | refine jy ?_ | refine jw KL43 [2, 10] TF43 fun _ => ?_)
        exact Run_lp ⟨q + 1, by simp [SubB, fnd, strike, has], ⟨by omega, by rw [← hskip hfr]; exact hfs, z6⟩, by omega⟩
      have hs : Pl.step l (Pl.room t) of r = true := by rw [hstep]; simp at h ⊢; omega
      rw [hs, if_pos rfl] at hfr
      clear h
      have t6 := T w6 z6
      have f6 := F w6 z6
      (repeat with_reducible first | refine jy ?_ | refine jw KL43 [2, 10] (aa TF43 (aa t6 f6)) fun _ => ?_)
      refine CallW_gen call43 (ih (of ++ [r]) u w6 (by rw [List.length_append]; exact hdr2) (by simp; omega) (hl.ext y6) (hT.ext y6) (ho.ext y6) (hO.ext y6) (su.ext (x5.trans x6))) fun e w7 ⟨v7, he7, x7, m7⟩ => ⟨_, he7, ?_⟩
      (repeat with_reducible first | refine jy ?_ | refine jw KL43 [2, 10] TF43 fun _ => ?_)
      refine Run_condS (fun _ => rfl) (fun h => ?_) (fun h => ?_)
      · have hso : ∃ x, Pl.srch l (Pl.room t) (Pl.leafC t f l covers) rest (of ++ [r]) = some x := Option.isSome_iff_exists.1 h
        obtain ⟨x, hx⟩ := hso
        have hres : o.findSome? g = some x := by rw [← hfs]; exact hhit x (hfr.trans hx)
        (repeat with_reducible first | refine jy ?_ | refine jw KL43 [2, 10] TF43 fun _ => ?_)
        refine Run_ret ?_
        simp [Rets, RetM, resV, fnd, oneOr, hres]
        exact ⟨y6.trans x7, m7 x hx⟩
      · have hno : Pl.srch l (Pl.room t) (Pl.leafC t f l covers) rest (of ++ [r]) = none := by simpa using h
        (repeat with_reducible first | refine jy ?_ | refine jw KL43 [2, 10] TF43 fun _ => ?_)
        exact Run_lp ⟨q + 1, by simp [SubB, fnd, strike, has], ⟨by omega, by rw [← hskip (hfr.trans hno)]; exact hfs, z6.trans x7⟩, by omega⟩
    · simp at h
      obtain rfl : q = o.length := by omega
      rw [List.drop_length, List.findSome?_nil] at hfs
      (repeat with_reducible first | refine jy ?_ | refine jw KL43 [2, 10] TF43 fun _ => ?_)
      refine Run_ret ?_
      simp [Rets, RetM, resV, fnd, oneOr, ← hfs, y3]
end
end Go.Proofs.YtldjfebokojmfaaGreat
namespace Go.Fk
open Go
structure RawS where
  v : Value
instance : Enc RawS where
  n := 1
  rep _ cs x := cs = [x.v] ∧ IsS x.v
  len _ _ _ h := by rw [h.1]; rfl
  ext _ _ _ _ _ h := h
instance : Flat RawS := ⟨fun _ _ _ _ h => h, fun _ _ _ h => by rw [h.1]; simpa using isS_o h.2⟩
theorem Sl.lists {α : Type} [Enc α] {w : World} {v : Value} {rs : List RawS} {xs : List (List α)} (h : Sl w v rs) (hl : rs.length = xs.length) (hr : ∀ i (h1 : i < rs.length) (h2 : i < xs.length), Sl w rs[i].v xs[i]) : Sl w v xs :=
  ⟨h.s, by rw [← hl]; exact h.len, by rw [← hl]; exact h.cap, by rw [← hl]; exact h.big, h.capM, fun i hi => by
    obtain ⟨cs, ⟨rfl, _⟩, ha⟩ := h.at_ i (by omega)
    exact ⟨_, ⟨_, rfl, hr i (by omega) hi⟩, ha⟩⟩
end Go.Fk
namespace Go.Proofs.YtldjfebokojmfaaGreat
open Go Go.Fk
set_option linter.unusedSimpArgs false
set_option linter.unusedVariables false
set_option maxRecDepth 100000
structure OpB (W0 w : World) (vb : Value) (opts : List (List RunD)) (q : Nat) : Prop where
  e : Ext W0 w
  b : ∃ rs : List RawS, BufO (α := RawS) 59 W0.heap.size w vb rs ∧ rs.length = q ∧ ∀ k (h1 : k < rs.length) (h2 : k < opts.length), BufO (α := RunD) 34 0 w rs[k].v opts[k]
set_option maxHeartbeats 4000000 in
theorem rfMake (vl u0 u1 u2 vo : Value) (t : TimeD) (f : TariffD) (l : List OrderD) (covers : Int) (w : World) (hl : Sl w vl t.Lines) (hT : TarR w f u0 u1 u2) (ho : Sl w vo l) :
    Calls Tryz.prog 22 #[.agg (t.cs vl).toArray, .agg (f.cs u0 u1 u2).toArray, vo, .int .i64 covers] w fun e w' => ∃ v0 v1 v2, e = .returned (.tuple #[.agg ((Pl.make t f l covers).1.cs v0 v1 v2).toArray, .bool (Pl.make t f l covers).2.1, .int .i64 (Pl.make t f l covers).2.2]) ∧ Ext w w' ∧ PlanR w' (Pl.make t f l covers).1 v0 v1 v2 := by
  have hos := ho.s
  have hol := ho.len
  refine Calls_of_Run (args := [.agg (t.cs vl).toArray, .agg (f.cs u0 u1 u2).toArray, vo, .int .i64 covers]) (n := 65) (rs := [.cell 8 61, .tmp 9, .tmp 10]) Tryz.func22 rfl rfl rfl (by simp) ?_
  (repeat with_reducible first | refine jy ?_ | refine jw KL22 [8] TF22 fun _ => ?_)
  refine SemW_box fun pt w1 h1 => SemW_box fun pf w2 h2 => SemW_allocT ti61 fun pp w5 h5 => ?_
  have b5 := h5.blk
  have z1 := h1.size
  have z2 := h2.size
  have z5 := h5.size
  have x5 := h1.ext.trans (h2.ext.trans h5.ext)
  have T : ∀ w', Ext w5 w' → AtN w' pt 0 (t.cs vl) := fun w' x => (h1.at_.ext (h2.ext.trans (h5.ext.trans x))).n
  have F : ∀ w', Ext w5 w' → AtN w' pf 0 (f.cs u0 u1 u2) := fun w' x => (h2.at_.ext (h5.ext.trans x)).n
  have r5 : Row w5 pp 61 [.slice none 0 0, .slice none 0 0, .slice none 0 0] := h5.row
  simp only [TimeD.cs, TariffD.cs, AtN, KS, Nat.reduceAdd, Nat.reduceMul, Nat.reduceEqDiff, ↓reduceIte, UT] at T F
  have t5 := T w5 (Ext.refl _)
  have f5 := F w5 (Ext.refl _)
  (repeat with_reducible first | refine jy ?_ | refine jw KL22 [8] (aa TF22 (aa t5 f5)) fun _ => ?_)
  refine rferrW (hl.ext x5) (hT.ext x5) (ho.ext x5) fun w6 x6 => ?_
  have y6 := x5.trans x6
  (repeat with_reducible first | refine jy ?_ | refine jw KL22 [8] TF22 fun _ => ?_)
  refine Run_condS (fun _ => rfl) (fun h => ?_) (fun h => ?_)
  · have he : Pl.err t f l ≠ 0 := by simpa using h
    have hm : Pl.make t f l covers = (Pl.noPlan, false, Pl.err t f l) := by unfold Pl.make; rw [if_pos he]
    (repeat with_reducible first | refine jy ?_ | refine jw KL22 [8] TF22 fun _ => ?_)
    refine ⟨.agg #[.slice none 0 0, .slice none 0 0, .slice none 0 0], fun _ => by kernel_rfl, ?_⟩
    refine SemW_setW (by rw [cells61]; decide) (by rw [cells61]; rfl) (r5.ext x6) (by rw [cells61]; rfl) rfl fun wz rz kz zz => ?_
    have ez := loadVar_at (P := Tryz.prog) (t := 61) (by kernel_rfl) (by rw [cells61]; decide) (by rw [cells61]; rfl) rz.at_
    (repeat with_reducible first | refine jy ?_ | refine jw KL22 [8] TF22 fun _ => ?_)
    refine Run_ret ?_
    simp only [Rets, RetM, resV, fnd, oneOr, ↓reduceIte, KS, Nat.reduceAdd, Nat.reduceMul, Nat.reduceEqDiff, ↓reduceIte, UT]
    rw [hm]
    refine ⟨pp, _, rfl, ez, ?_⟩
    simp [resV, oneOr, fnd, Pl.noPlan, PlanD.cs]
    exact ⟨.slice none 0 0, .slice none 0 0, .slice none 0 0, rfl, Keep.ext (x5.trans x6) kz fun k hk => by omega, Sl.nil _, Sl.nil _, Sl.nil _⟩
  have he : Pl.err t f l = 0 := by simpa using h
  clear h
  have ok := Pl.err_ok he
  have hl64 := ok.n
  have hoptl : (Pl.optsOf t f l).length = l.length := by simp [Pl.optsOf]
  have hcr : ∀ o ∈ l, 1 ≤ o.Crowd ∧ o.Crowd ≤ 64 := fun o ho' => (ok_num ok ho').2.2.2
  (repeat with_reducible first | refine jy ?_ | refine jw KL22 [8] TF22 fun _ => ?_)
  refine Run_loopV [9, 10, 12, 13, 14, 15, 29, 43] (σ := Nat × Value) (fun q => [(13, some (.int .i64 q.1)), (12, some q.2), (9, some (.bool false)), (10, some (.int .i64 0))]) (fun q w' => q.1 ≤ l.length ∧ OpB w5 w' q.2 (Pl.optsOf t f l) q.1 ∧ Pl.optsE t f (l.drop q.1) = Pl.optsE t f l) (fun q => l.length - q.1) (0, .slice none 0 0) (by simp [SubB, fnd]) ⟨by simp, ⟨x6, [], BufO.nil, rfl, by simp⟩, rfl⟩ ?_
  rintro ⟨q, vb⟩ w7 ⟨hq, O7, hf⟩
  simp only at hq O7 hf
  (repeat with_reducible first | refine jy ?_ | refine jw KL22 [8] (aa TF22 (aa hos hol)) fun _ => ?_)
  refine Run_condS (fun _ => rfl) (fun h => ?_) (fun h => ?_)
  · simp at h
    have hql : q < l.length := by omega
    have hqc : (q : Int) < l.length := by omega
    clear h
    have x7 := O7.e
    have y7 := x5.trans x7
    obtain ⟨g, oA, oB, hO⟩ := (ho.ext y7).ord hql
    rw [Pl.optsE_drop hql] at hf
    have hget : ∀ h, (Pl.optsOf t f l)[q]'h = (Pl.options t f l[q]).1 := fun h => by simp [Pl.optsOf]
    generalize l[q] = o at *
    let S : Nat → Prop := fun _ => True
    (repeat with_reducible refine js ?_)
    refine Run_eh S [6] [(0, [6]), (1, [6]), (5, [6])] (id := 8) KL22 (.first 0 (.first 1 (.first 2 (.first 3 (.first 4 (.first 5 (.alt true 6 (.free (.first 7 (.first 8 (.first 9 (.first 10 (.first 11 .done)))))) .stop))))))) mixed (by kernel_rfl) (by kernel_rfl) fun w8 x8 _ => ?_
    have z8 := x7.trans x8
    have t8 := T w8 z8
    have f8 := F w8 z8
    have o8 := (oB.ext x8).n
    simp only [OrderD.cs, AtN, KS, Nat.reduceAdd, Nat.reduceMul, Nat.reduceEqDiff, ↓reduceIte, UT] at o8
    (try simp (maxSteps := 5000000) only [KS, Nat.reduceAdd, Nat.reduceMul, Nat.reduceEqDiff, ↓reduceIte, forall_const, Int.cast_ofNat_Int, Int.reduceToNat, List.take_succ_cons, List.take_zero, List.drop_succ_cons, List.drop_zero, TF22, KL22, eh, gres, qopS, putL, ung, t8, f8, o8, hos, hol]); (try simp (disch := omega) only [wrapI, tmodI, tdivI])
    refine ⟨trivial, trivial, ⟨by omega, by omega⟩, trivial, Keep.refl _ _, ?_⟩
    have y8 := y7.trans x8
    refine CallW_gen call32 (rfOptionsO vl t f u0 u1 u2 o g w8 (hl.ext y8) (hT.ext y8) (hO.ext x8)) fun e w9 ⟨v9, he9, x9, b9⟩ => ⟨_, he9, ⟨rfl, by simp [tpOf]⟩, ⟨rfl, by simp [tpOf]⟩, ?_⟩
    (try simp (maxSteps := 5000000) only [KS, Nat.reduceAdd, Nat.reduceMul, Nat.reduceEqDiff, ↓reduceIte, forall_const, Int.cast_ofNat_Int, Int.reduceToNat, List.take_succ_cons, List.take_zero, List.drop_succ_cons, List.drop_zero, TF22, KL22, eh, gres, qopS, putL, ung]); (try simp (disch := omega) only [wrapI, tmodI, tdivI])
    have z9 := z8.trans x9
    (repeat with_reducible first | refine jy ?_ | refine jw KL22 [8] TF22 fun _ => ?_)
    refine Run_condS (fun _ => rfl) (fun h => ?_) (fun h => ?_)
    · have he2 : (Pl.options t f o).2 ≠ 0 := by simpa using h
      rw [if_pos he2] at hf
      have hm : Pl.make t f l covers = (Pl.noPlan, false, (Pl.options t f o).2) := by unfold Pl.make; rw [if_neg (by simp [he]), if_pos (by rw [← hf]; exact he2), ← hf]
      (repeat with_reducible first | refine jy ?_ | refine jw KL22 [8] TF22 fun _ => ?_)
      refine ⟨.agg #[.slice none 0 0, .slice none 0 0, .slice none 0 0], fun _ => by kernel_rfl, ?_⟩
      refine SemW_setW (by rw [cells61]; decide) (by rw [cells61]; rfl) (r5.ext z9) (by rw [cells61]; rfl) rfl fun wz rz kz zz => ?_
      have ez := loadVar_at (P := Tryz.prog) (t := 61) (by kernel_rfl) (by rw [cells61]; decide) (by rw [cells61]; rfl) rz.at_
      (repeat with_reducible first | refine jy ?_ | refine jw KL22 [8] TF22 fun _ => ?_)
      refine Run_ret ?_
      simp only [Rets, RetM, resV, fnd, oneOr, ↓reduceIte, KS, Nat.reduceAdd, Nat.reduceMul, Nat.reduceEqDiff, ↓reduceIte, UT]
      rw [hm]
      refine ⟨pp, _, rfl, ez, ?_⟩
      simp [resV, oneOr, fnd, Pl.noPlan, PlanD.cs]
      exact ⟨.slice none 0 0, .slice none 0 0, .slice none 0 0, rfl, Keep.ext (x5.trans z9) kz fun k hk => by omega, Sl.nil _, Sl.nil _, Sl.nil _⟩
    have he2 : (Pl.options t f o).2 = 0 := by simpa using h
    rw [if_neg (by simp [he2])] at hf
    obtain ⟨rs, c1, c2, c3⟩ := O7.b
    have k79 := Keep.of_ext (S := fun _ => True) (x8.trans x9)
    have hB9 : w5.heap.size ≤ w9.heap.size := z9.size
    rw [he2]
    (repeat with_reducible first | refine jy ?_ | refine jw KL22 [8] TF22 fun _ => ?_)
    have C9 := c1.keepQ k79 fun _ _ => trivial
    refine SemW_append1Q (α := RawS) Tryz.underlying54 ti59 rfl (by decide) C9 hB9 (x := ⟨v9⟩) (by rw [isS_c b9.isS.1]; exact ⟨rfl, b9.isS.1⟩) (by rw [c2]; simp only [maxLen]; omega) fun _ v10 w10 b10 k10 g10 => ?_
    (repeat with_reducible first | refine jy ?_ | refine jw KL22 [8] TF22 fun _ => ?_)
    refine Run_lp ⟨(q + 1, v10), by simp [SubB, fnd, strike, has], ⟨by show q + 1 ≤ l.length; omega, ⟨Keep.ext z9 k10 fun k hk e => by have := (C9.own_lt e.symm).1; omega, rs ++ [⟨v9⟩], b10, by simp [c2], fun k h1 h2 => ?_⟩, hf⟩, by show l.length - (q + 1) < l.length - q; omega⟩
    by_cases hk : k < rs.length
    · rw [List.getElem_append_left hk]
      have d := (c3 k hk h2).keepQ k79 fun _ _ => trivial
      exact d.keepQ k10 fun g hg => d.ne2 C9 (by decide) hg
    · have e : k = q := by simp at h1; omega
      subst e
      rw [hget, List.getElem_append_right (by omega)]
      simp only [c2, Nat.sub_self, List.getElem_cons_zero]
      exact (b9.mono (Nat.zero_le _)).keepQ k10 fun g hg => b9.ne2 C9 (by decide) hg
  simp at h
  obtain rfl : q = l.length := by omega
  clear h
  rw [List.drop_length] at hf
  have hoE : Pl.optsE t f l = 0 := hf.symm
  have x7 := O7.e
  have y7 := x5.trans x7
  have t7 := T w7 x7
  have f7 := F w7 x7
  have sO : Sl w7 vb (Pl.optsOf t f l) := by
    obtain ⟨rs, b1, b2, b3⟩ := O7.b
    exact (b1.sl (by omega)).lists (by omega) fun i h1 h2 => (b3 i h1 h2).sl (by
      have : (Pl.optsOf t f l)[i] = (Pl.options t f (l[i]'(by omega))).1 := by simp [Pl.optsOf]
      rw [this]; have := opts_le (t := t) (f := f) (o := l[i]'(by omega)); omega)
  have hopt : ∀ o ∈ Pl.optsOf t f l, ∀ r ∈ o, 0 ≤ r.Line ∧ r.Line < t.Lines.length := fun o ho' r hr => by
    unfold Pl.optsOf at ho'
    obtain ⟨x, hx, rfl⟩ := List.mem_map.1 ho'
    obtain ⟨g1, g2, g3⟩ := isRunL (((Pl.opt_ok (Pl.optsE_iff.1 hoE x hx)).2.1 r).1 hr).1
    exact ⟨g1, g2⟩
  have hch := Pl.choose_eq (covers := covers) he hoE
  (repeat with_reducible first | refine jy ?_ | refine jw KL22 [8] (aa TF22 (aa t7 f7)) fun _ => ?_)
  refine CallW_gen call43 (rfChoose (covers := covers) hoptl hl64 hcr hopt (Pl.optsOf t f l) [] (.slice none 0 0) w7 rfl (by simpa using hoptl) (hl.ext y7) (hT.ext y7) (ho.ext y7) sO (Sl.nil _)) fun e w8 ⟨v8, he8, x8, m8⟩ => ⟨_, he8, ?_⟩
  rw [hch] at m8 ⊢
  have z8 := x7.trans x8
  have y8 := x5.trans z8
  cases hres : Pl.mkOf t f l covers with
  | none =>
    have hm : Pl.make t f l covers = (Pl.noPlan, false, 0) := by unfold Pl.make; rw [if_neg (by simp [he]), if_neg (by simp [hoE]), hres]
    (repeat with_reducible first | refine jy ?_ | refine jw KL22 [8] (aa TF22 KX) fun _ => ?_)
    refine Run_condS (fun _ => rfl) (fun _ => ?_) (fun h => by cases h)
    (repeat with_reducible first | refine jy ?_ | refine jw KL22 [8] TF22 fun _ => ?_)
    refine ⟨.agg #[.slice none 0 0, .slice none 0 0, .slice none 0 0], fun _ => by kernel_rfl, ?_⟩
    refine SemW_setW (by rw [cells61]; decide) (by rw [cells61]; rfl) (r5.ext z8) (by rw [cells61]; rfl) rfl fun wz rz kz zz => ?_
    have ez := loadVar_at (P := Tryz.prog) (t := 61) (by kernel_rfl) (by rw [cells61]; decide) (by rw [cells61]; rfl) rz.at_
    (repeat with_reducible first | refine jy ?_ | refine jw KL22 [8] TF22 fun _ => ?_)
    refine Run_ret ?_
    simp only [Rets, RetM, resV, fnd, oneOr, ↓reduceIte, KS, Nat.reduceAdd, Nat.reduceMul, Nat.reduceEqDiff, ↓reduceIte, UT]
    rw [hm]
    refine ⟨pp, _, rfl, ez, ?_⟩
    simp [resV, oneOr, fnd, Pl.noPlan, PlanD.cs]
    exact ⟨.slice none 0 0, .slice none 0 0, .slice none 0 0, rfl, Keep.ext (x5.trans z8) kz fun k hk => by omega, Sl.nil _, Sl.nil _, Sl.nil _⟩
  | some of =>
    have hm : Pl.make t f l covers = (Pl.planOf l of, true, 0) := by unfold Pl.make; rw [if_neg (by simp [he]), if_neg (by simp [hoE]), hres]
    have hmk := Pl.mk_ok hoE hres
    have s8 := m8 of hres
    (repeat with_reducible first | refine jy ?_ | refine jw KL22 [8] (aa TF22 KX) fun _ => ?_)
    refine Run_condS (fun _ => rfl) (fun h => by cases h) (fun _ => ?_)
    (repeat with_reducible first | refine jy ?_ | refine jw KL22 [8] TF22 fun _ => ?_)
    refine CallW_gen call44 (rfPlan vo v8 l of w8 (ho.ext y8) s8 (by rw [hmk.n]; exact Nat.le_refl _) hl64 hcr) fun e w20 ⟨v0, v1, v2, he20, x20, P20⟩ => ⟨_, he20, ?_⟩
    have y20 := z8.trans x20
    have r20 := r5.ext y20
    refine SemW_setW (by rw [cells61]; decide) (by rw [cells61]; rfl) r20 (by rw [cells61]; rfl) (by simp [Value.cells, PlanD.cs, isS_o P20.r.s, isS_o P20.o.s, isS_o P20.c.s]) fun wz rz kz zz => ?_
    have ez := loadVar_at (P := Tryz.prog) (t := 61) (by kernel_rfl) (by rw [cells61]; decide) (by rw [cells61]; rfl) rz.at_
    have kR : ∀ (v : Value) (xs : List RunD), Sl w20 v xs → Sl wz v xs := fun v xs hv => hv.keepD r20 (fun x _ cs' hc => ⟨.int .i64 x.Line, by rw [hc.1]; rfl, fun hm => by simp at hm⟩) kz
    have kI : ∀ (v : Value) (xs : List Int), Sl w20 v xs → Sl wz v xs := fun v xs hv => hv.keepD r20 (fun x _ cs' hc => ⟨.int .i64 x, by rw [hc.1]; rfl, fun hm => by simp at hm⟩) kz
    (repeat with_reducible first | refine jy ?_ | refine jw KL22 [8] TF22 fun _ => ?_)
    refine Run_ret ?_
    simp only [Rets, RetM, resV, fnd, oneOr, ↓reduceIte, KS, Nat.reduceAdd, Nat.reduceMul, Nat.reduceEqDiff, ↓reduceIte, UT]
    rw [hm]
    refine ⟨pp, _, rfl, ez, ?_⟩
    simp [resV, oneOr, fnd, Pl.noPlan, PlanD.cs]
    exact ⟨v0, v1, v2, rfl, Keep.ext (x5.trans y20) kz fun k hk => by omega, kR _ _ P20.r, kI _ _ P20.o, kI _ _ P20.c⟩
end Go.Proofs.YtldjfebokojmfaaGreat
