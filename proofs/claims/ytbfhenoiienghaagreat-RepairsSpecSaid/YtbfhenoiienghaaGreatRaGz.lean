import Derived.Test.YtbfhenoiienghaaGreatRaW22w
import Derived.Test.YtbfhenoiienghaaGreatRaW22u
import Derived.Test.YtbfhenoiienghaaGreatRaGs
import Derived.Test.YtbfhenoiienghaaGreatRaGe
import Derived.Test.YtbfhenoiienghaaGreatRaGy
namespace Go.Proofs.YtbfhenoiienghaaGreat
open Go Go.Fk
set_option linter.unusedSimpArgs false
set_option linter.unusedVariables false
set_option maxRecDepth 100000
section
variable {vl u0 u1 u2 vo vO : Value} {t : TimeD} {f : TariffD} {l : List OrderD} {covers : Int} {opts : List (List RunD)}
set_option maxHeartbeats 16000000 in
theorem rfChoose24 (hlen : opts.length = l.length) (hl64 : l.length ≤ 64) (hcr : ∀ o ∈ l, 1 ≤ o.Crowd ∧ o.Crowd ≤ 64) (hopt : ∀ o ∈ opts, ∀ r ∈ o, 0 ≤ r.Line ∧ r.Line < t.Lines.length) :
    ∀ (rest : List (List RunD)) (of : List RunD) (vof : Value) (w : World), opts.drop of.length = rest → of.length + rest.length = l.length → Sl w vl t.Lines → TarR w f u0 u1 u2 → Sl w vo l → Sl w vO opts → Sl w vof of →
      Calls Tryz.prog 50 #[.agg (t.cs vl).toArray, .agg (f.cs u0 u1 u2).toArray, vo, .int .i64 covers, vO, vof] w
        (fun e w' => ∃ v, e = .returned (.tuple #[v, .bool (Pl.srch l (Pl.room t) (Pl.leafC t f l covers) rest of).isSome]) ∧ Ext w w' ∧ ∀ x, Pl.srch l (Pl.room t) (Pl.leafC t f l covers) rest of = some x → Sl w' v x) := by
  intro rest
  induction rest with
  | nil =>
    intro of vof w hdr hn hl hT ho hO hof
    have ofl := hof.len
    have hll := ho.len
    simp only [List.length_nil, Nat.add_zero] at hn
    refine Calls_of_Run (args := [.agg (t.cs vl).toArray, .agg (f.cs u0 u1 u2).toArray, vo, .int .i64 covers, vO, vof]) (n := 106) (rs := [.tmp 12, .tmp 13]) Tryz.func50 rfl rfl rfl (by simp) ?_
    (repeat with_reducible first | refine js ?_ | refine ja ?_ | refine jw KL50 [2, 10] TF50 fun _ => ?_)
    refine SemW_box fun pt w1 h1 => SemW_box fun pf w2 h2 => ?_
    have x2 := h1.ext.trans h2.ext
    have T : ∀ w', Ext w2 w' → AtN w' pt 0 (t.cs vl) := fun w' x => (h1.at_.ext (h2.ext.trans x)).n
    have F : ∀ w', Ext w2 w' → AtN w' pf 0 (f.cs u0 u1 u2) := fun w' x => (h2.at_.ext x).n
    simp only [TimeD.cs, TariffD.cs, AtN, KS, Nat.reduceAdd, Nat.reduceMul, Nat.reduceEqDiff, ↓reduceIte, UT] at T F
    (repeat with_reducible first | refine js ?_ | refine ja ?_ | refine jw KL50 [2, 10] (aa TF50 (aa hof.s (aa ofl (aa ho.s hll)))) fun _ => ?_)
    refine Run_condS (fun _ => rfl) (fun h => ?_) (fun h => ?_)
    · clear h
      (repeat with_reducible first | refine jq ?_ | refine jk ?_ | refine jc ?_ | refine jl ?_ | refine jb ?_ | refine jo ?_ | refine ji ?_ | refine jx rfl ?_)
      refine Run_ec (id := 2) KL50 (.first 0 (.first 1 (.first 2 (.first 3 (.first 4 (.first 5 (.alt 6 (.alt 7 (.first 8 (.first 9 (.first 10 (.first 11 (.first 12 .done))))) .stop) .stop))))))) mixed (by kernel_rfl) (by kernel_rfl) fun w3 x3 _ => ?_
      have y3 := x2.trans x3
      have t3 := T w3 x3
      have f3 := F w3 x3
      (try simp (maxSteps := 5000000) only [KS, Nat.reduceAdd, Nat.reduceMul, Nat.reduceEqDiff, ↓reduceIte, forall_const, Int.cast_ofNat_Int, Int.reduceToNat, List.take_succ_cons, List.take_zero, List.drop_succ_cons, List.drop_zero, TF50, KL50, ec, t3, f3]); (try simp (disch := omega) only [wrapI, tmodI, tdivI])
      refine ⟨Ext.refl _, CallW_gen call51 (rfPlan vo vof l of w3 (ho.ext y3) (hof.ext y3) (by omega) hl64 hcr) fun e w4 ⟨p0, p1, p2, he4, x4, hP⟩ => ⟨_, he4, x4, ?_⟩⟩
      have y4 := y3.trans x4
      refine CallW_pure call29 (rfCheckP vl u0 u1 u2 vo p0 p1 p2 t f l covers (Pl.planOf l of) w4 (hl.ext y4) (hT.ext y4) (ho.ext y4) hP) fun w5 x5 => ⟨⟨rfl, by simp [tpOf]⟩, ⟨rfl, by simp [tpOf]⟩, x4.trans x5, ?_⟩
      (repeat with_reducible first | refine js ?_ | refine ja ?_ | refine jw KL50 [2, 10] TF50 fun _ => ?_)
      refine Run_ret ?_
      have hb : Pl.leafC t f l covers of = (Pl.check t f l covers (Pl.planOf l of)).1 := rfl
      rw [← hb]
      unfold Pl.srch
      cases hlf : Pl.leafC t f l covers of
      · simp [Rets, RetM, resV, fnd, oneOr]
        exact y4.trans x5
      · simp [Rets, RetM, resV, fnd, oneOr]
        exact ⟨y4.trans x5, hof.ext (y4.trans x5)⟩
    · exact absurd h (by simp [hn])
  | cons o rest ih =>
    intro of vof w hdr hn hl hT ho hO hof
    have ofl := hof.len
    have hll := ho.len
    have hos := hO.s
    have hol := hO.len
    simp only [List.length_cons] at hn
    refine Calls_of_Run (args := [.agg (t.cs vl).toArray, .agg (f.cs u0 u1 u2).toArray, vo, .int .i64 covers, vO, vof]) (n := 106) (rs := [.tmp 12, .tmp 13]) Tryz.func50 rfl rfl rfl (by simp) ?_
    (repeat with_reducible first | refine js ?_ | refine ja ?_ | refine jw KL50 [2, 10] TF50 fun _ => ?_)
    refine SemW_box fun pt w1 h1 => SemW_box fun pf w2 h2 => ?_
    have x2 := h1.ext.trans h2.ext
    have T : ∀ w', Ext w2 w' → AtN w' pt 0 (t.cs vl) := fun w' x => (h1.at_.ext (h2.ext.trans x)).n
    have F : ∀ w', Ext w2 w' → AtN w' pf 0 (f.cs u0 u1 u2) := fun w' x => (h2.at_.ext x).n
    simp only [TimeD.cs, TariffD.cs, AtN, KS, Nat.reduceAdd, Nat.reduceMul, Nat.reduceEqDiff, ↓reduceIte, UT] at T F
    (repeat with_reducible first | refine js ?_ | refine ja ?_ | refine jw KL50 [2, 10] (aa TF50 (aa hof.s (aa ofl (aa ho.s hll)))) fun _ => ?_)
    refine Run_condS (fun _ => rfl) (fun h => ?_) (fun h => ?_)
    · exact absurd h (by simp; omega)
    clear h
    have hk : of.length < opts.length := by omega
    have hkl : of.length < l.length := by omega
    have hkc : (of.length : Int) < opts.length := by omega
    have hko : opts[of.length] = o := by
      have := List.drop_eq_getElem_cons hk
      rw [hdr] at this
      exact (List.cons.inj this).1.symm
    have hdr2 : opts.drop (of.length + 1) = rest := by
      have := List.drop_eq_getElem_cons hk
      rw [hdr] at this
      exact (List.cons.inj this).2.symm
    have hps : Pl.srch l (Pl.room t) (Pl.leafC t f l covers) (o :: rest) of = o.findSome? fun r => if Pl.step l (Pl.room t) of r then Pl.srch l (Pl.room t) (Pl.leafC t f l covers) rest (of ++ [r]) else none := rfl
    rw [hps]
    generalize hf : (fun r => if Pl.step l (Pl.room t) of r then Pl.srch l (Pl.room t) (Pl.leafC t f l covers) rest (of ++ [r]) else none) = g
    obtain ⟨cs, ⟨vk, rfl, sk0⟩, ak⟩ := hO.at_ of.length hk
    rw [hko] at sk0
    rw [show of.length * Enc.n (List RunD) = of.length from Nat.mul_one _] at ak
    have skl := sk0.len
    have osm := sk0.small
    have hoin : o ∈ opts := by rw [← hko]; exact List.getElem_mem hk
    (repeat with_reducible first | refine js ?_ | refine ja ?_ | refine jw KL50 [2, 10] (aa TF50 (aa hof.s ofl)) fun _ => ?_)
    refine Run_loopV [12, 13, 17, 18, 19, 20, 21, 22, 49, 93, 104] (σ := Nat) (fun q => [(17, some (.int .i64 q)), (12, some (.slice none 0 0)), (13, some (.bool false))]) (fun q w' => q ≤ o.length ∧ (o.drop q).findSome? g = o.findSome? g ∧ Ext w2 w') (fun q => o.length - q) 0 (by simp [SubB, fnd]) ⟨by omega, rfl, Ext.refl _⟩ ?_
    rintro q w3 ⟨hq, hfs, x3⟩
    have y3 := x2.trans x3
    have ak3 := (ak.ext y3).n
    simp only [AtN, KS, Nat.reduceAdd, Nat.reduceMul, Nat.reduceEqDiff, ↓reduceIte, UT] at ak3
    (repeat with_reducible first | refine js ?_ | refine ja ?_ | refine jw KL50 [2, 10] (aa TF50 (aa hos (aa hol (aa ak3 (aa sk0.s skl))))) fun _ => ?_)
    refine Run_condS (fun _ => rfl) (fun h => ?_) (fun h => ?_)
    · simp at h
      have hql : q < o.length := by omega
      have hqc : (q : Int) < o.length := by omega
      clear h
      have hline := hopt o hoin o[q] (List.getElem_mem hql)
      have hfr : g o[q] = if Pl.step l (Pl.room t) of o[q] then Pl.srch l (Pl.room t) (Pl.leafC t f l covers) rest (of ++ [o[q]]) else none := by rw [← hf]
      have hskip := fun e => Pl.findS_skip (f := g) hql e
      have hhit := fun x e => Pl.findS_hit (f := g) (x := x) hql e
      have R := fun w' (x : Ext w3 w') => ((sk0.ext (y3.trans x)).runD hql).1
      have hI := ((sk0.ext y3).runD hql).2
      generalize o[q] = r at *
      simp only [RunD.cs, AtN, KS, Nat.reduceAdd, Nat.reduceMul, Nat.reduceEqDiff, ↓reduceIte, UT] at R
      have hre : ∀ w', Enc.rep w' r.cs r := fun w' => ⟨rfl, hI⟩
      (repeat with_reducible first | refine jq ?_ | refine jk ?_ | refine jc ?_ | refine jl ?_ | refine jb ?_ | refine jo ?_ | refine ji ?_ | refine jx rfl ?_)
      refine Run_cutV [18] (σ := Value) (fun u => [(18, some u)]) (fun u w' => Ext w3 w' ∧ Sl w' u (of ++ [r])) ?_ ?_
      · refine Run_ec (id := 8) KL50 (.first 1 (.first 3 (.first 4 (.first 5 (.first 6 (.first 7 (.first 8 (.first 9 (.alt 0 (.alt 2 (.alt 10 (.alt 11 (.first 12 .done) .stop) .stop) (.alt 10 (.alt 2 (.alt 11 (.first 12 .done) .stop) .stop) .stop)) (.alt 10 (.alt 0 (.alt 2 (.alt 11 (.first 12 .done) .stop) .stop) .stop) .stop)))))))))) mixed (by kernel_rfl) (by kernel_rfl) fun w4 x4 _ => ?_
        have z4 := y3.trans x4
        have r4 := R w4 x4
        have ak4 := (ak.ext z4).n
        simp only [AtN, KS, Nat.reduceAdd, Nat.reduceMul, Nat.reduceEqDiff, ↓reduceIte, UT] at ak4
        have s4 := hof.ext z4
        have hE : ∀ {w' : World} {K : Value → World → Prop}, Ext w4 w' → (∀ p w'', p.block = w'.heap.size → w''.heap.size = w'.heap.size + 1 → Ext w' w'' → Ext w4 w'' → BufL (α := RunD) 50 w4 w'' (.slice (some p) 0 0) [] → K (.slice (some p) 0 0) w'') → SemW Tryz.prog (Instr.buildSlice 30 0 #[]) w' K := fun hx' hK =>
          SemW_buildSlice (vs := []) Tryz.underlying30 ti50 rfl rfl rfl (by simp) (by simp) fun p w'' hN => hK p w'' hN.blk hN.size hN.ext (hx'.trans hN.ext) (BufL.new (css := []) (xs := ([] : List RunD)) hN hx' (Cs.nil _) (by simp))
        have hO' : ∀ {w' : World} {K : Value → World → Prop}, Ext w4 w' → (∀ q w'', q.block = w'.heap.size → w''.heap.size = w'.heap.size + 1 → Ext w' w'' → Ext w4 w'' → Row w'' q 50 r.cs → K (.slice (some q) 1 1) w'') → SemW Tryz.prog (Instr.buildSlice 30 1 #[(0, .agg #[.int .i64 r.Line, .int .i64 r.At, .int .i64 r.Arrive])]) w' K := fun hx' hK =>
          SemW_buildSlice (vs := [.agg r.cs.toArray]) Tryz.underlying30 ti50 rfl rfl rfl (by simp [Value.cells, RunD.cs]) (by simp) fun p w'' hN => hK p w'' hN.blk hN.size hN.ext (hx'.trans hN.ext) (by have := hN.row; simpa [Value.cells] using this)
        have hA : ∀ {p : Addr} {u w' : World} {K : Value → World → Prop}, BufL (α := RunD) 50 w4 u (.slice (some p) 0 0) [] → Ext u w' → (∀ v2 w'', BufL (α := RunD) 50 w4 w'' v2 of → Keep (fun b => b ≠ p.block) w' w'' → Ext w4 w'' → K v2 w'') → SemW Tryz.prog (Builtin.append_ #[30, 30] 30 #[.slice (some p) 0 0, vof]) w' K := fun hb hu hK =>
          SemW_appendF (α := RunD) Tryz.underlying30 ti50 rfl (by decide) (hb.ext hu) (s4.ext ((hb.ext hu).ext0)) (by simp [maxLen]; omega) fun v2 w'' hb' hg hx' => hK v2 w'' hb' (Keep.grown hg fun b hb1 hb2 => hb2 (by simpa [Value.ownBlock] using hb1.symm)) hx'
        have hF : ∀ {v2 : Value} {q : Addr} {w' : World} {K : Value → World → Prop}, BufL (α := RunD) 50 w4 w' v2 of → Row w' q 50 r.cs → (∀ v4 w'', BufL (α := RunD) 50 w4 w'' v4 (of ++ [r]) → Ext w4 w'' → K v4 w'') → SemW Tryz.prog (Builtin.append_ #[30, 30] 30 #[v2, .slice (some q) 1 1]) w' K := fun hb hq hK =>
          SemW_appendF (α := RunD) (ys := [r]) Tryz.underlying30 ti50 rfl (by decide) hb (Row.sl (css := [r.cs]) (by simpa using hq) (Cs.one (hre _)) (by simp)) (by simp [maxLen]; omega) fun v2 w'' hb' hg hx' => hK v2 w'' hb' hx'
        (try simp (maxSteps := 5000000) only [KS, Nat.reduceAdd, Nat.reduceMul, Nat.reduceEqDiff, ↓reduceIte, forall_const, Int.cast_ofNat_Int, Int.reduceToNat, List.take_succ_cons, List.take_zero, List.drop_succ_cons, List.drop_zero, TF50, KL50, ec, r4, ak4, hos, hol, sk0.s, skl]); (try simp (disch := omega) only [wrapI, tmodI, tdivI])
        have FIN : ∀ {v4 : Value} {w8 : World}, BufL (α := RunD) 50 w4 w8 v4 (of ++ [r]) → Ext w4 w8 → Ext w3 w8 ∧ Sl w8 v4 (of ++ [r]) := fun hb hx => ⟨x4.trans hx, hb.sl (by simp; omega)⟩
        refine ⟨⟨by omega, by omega⟩, ⟨by omega, by omega⟩, Ext.refl _, ?_, ?_⟩
        · refine hE (Ext.refl _) fun p5 w5 b5 z5 x5 y5 hb5 => ⟨y5, ?_, y5, ?_⟩
          · refine hA hb5 (Ext.refl _) fun v2 w6 hb6 k6 y6 => ⟨y6, ?_⟩
            refine hO' y6 fun q w7 b7 z7 x7 y7 r7 => ⟨y7, ?_⟩
            refine hF (hb6.ext x7) r7 fun v4 w8 hb8 y8 => ⟨y8, ?_⟩
            exact Run_lp ⟨v4, by simp [SubB, fnd, strike, has], FIN hb8 y8⟩
          · refine hO' y5 fun q w7 b7 z7 x7 y7 r7 => ⟨y7, ?_⟩
            refine hA hb5 x7 fun v2 w6 hb6 k6 y6 => ⟨y6, ?_⟩
            refine hF hb6 (r7.keep k6 (by omega)) fun v4 w8 hb8 y8 => ⟨y8, ?_⟩
            exact Run_lp ⟨v4, by simp [SubB, fnd, strike, has], FIN hb8 y8⟩
        · refine ⟨Ext.refl _, ?_⟩
          refine hO' (Ext.refl _) fun q w7 b7 z7 x7 y7 r7 => ⟨y7, ?_⟩
          refine hE y7 fun p5 w5 b5 z5 x5 y5 hb5 => ⟨y5, ?_⟩
          refine hA hb5 (Ext.refl _) fun v2 w6 hb6 k6 y6 => ⟨y6, ?_⟩
          refine hF hb6 ((r7.ext x5).keep k6 (by omega)) fun v4 w8 hb8 y8 => ⟨y8, ?_⟩
          exact Run_lp ⟨v4, by simp [SubB, fnd, strike, has], FIN hb8 y8⟩
      rintro u w4 ⟨x4, su⟩
      have y4 := y3.trans x4
      have r4 := R w4 x4
      have ak4 := (ak.ext y4).n
      simp only [AtN, KS, Nat.reduceAdd, Nat.reduceMul, Nat.reduceEqDiff, ↓reduceIte, UT] at ak4
      (repeat with_reducible first | refine js ?_ | refine ja ?_ | refine jw KL50 [2, 10] (aa TF50 (aa hos (aa hol (aa ak4 (aa sk0.s (aa skl r4)))))) fun _ => ?_)
      refine CallW_pure call66 (rfLoad vo u l (of ++ [r]) r w4 (ho.ext y4) su (by simp; omega) hcr (by omega) hI) fun w5 x5 => ?_
      have y5 := y4.trans x5
      have r5 := R w5 (x4.trans x5)
      have ak5 := (ak.ext y5).n
      have t5 := T w5 (x3.trans (x4.trans x5))
      simp only [AtN, KS, Nat.reduceAdd, Nat.reduceMul, Nat.reduceEqDiff, ↓reduceIte, UT] at ak5
      have hlt : r.Line.toNat < t.Lines.length := by omega
      obtain ⟨v0, v1, v2, v3, f1, f2, hR⟩ := (hl.ext y5).line hlt
      have hroom : Pl.room t r = t.Lines[r.Line.toNat].Room := by simp [Pl.room, Pl.lineR, List.getD_eq_getElem?_getD, hlt]
      have hstep : Pl.step l (Pl.room t) of r = decide (max (Pl.load l (of ++ [r]) r).n (Pl.load l (of ++ [r]) r).c ≤ Pl.room t r) := rfl
      rw [hroom] at hstep
      generalize t.Lines[r.Line.toNat] = x at *
      generalize Pl.load l (of ++ [r]) r = ld at *
      simp only [LineD.cs, AtN, KS, Nat.reduceAdd, Nat.reduceMul, Nat.reduceEqDiff, ↓reduceIte, UT] at f1
      (repeat with_reducible first | refine js ?_ | refine ja ?_ | refine jw KL50 [2, 10] (aa TF50 (aa hos (aa hol (aa ak5 (aa sk0.s (aa skl (aa r5 (aa t5 (aa hl.s (aa hl.len f1)))))))))) fun _ => ?_)
      intro w6 x6
      have y6 := y5.trans x6
      have z6 := x3.trans (x4.trans (x5.trans x6))
      refine Run_condS (fun _ => rfl) (fun h => ?_) (fun h => ?_)
      · have hs : Pl.step l (Pl.room t) of r = false := by rw [hstep]; simp at h ⊢; omega
        rw [hs] at hfr
        simp only [Bool.false_eq_true, if_false] at hfr
        (repeat with_reducible first | refine js ?_ | refine ja ?_ | refine jw KL50 [2, 10] TF50 fun _ => ?_)
        exact Run_lp ⟨q + 1, by simp [SubB, fnd, strike, has], ⟨by omega, by rw [← hskip hfr]; exact hfs, z6⟩, by omega⟩
      have hs : Pl.step l (Pl.room t) of r = true := by rw [hstep]; simp at h ⊢; omega
      rw [hs, if_pos rfl] at hfr
      clear h
      have t6 := T w6 z6
      have f6 := F w6 z6
      (repeat with_reducible first | refine js ?_ | refine ja ?_ | refine jw KL50 [2, 10] (aa TF50 (aa t6 f6)) fun _ => ?_)
      refine CallW_gen call50 (ih (of ++ [r]) u w6 (by rw [List.length_append]; exact hdr2) (by simp; omega) (hl.ext y6) (hT.ext y6) (ho.ext y6) (hO.ext y6) (su.ext (x5.trans x6))) fun e w7 ⟨v7, he7, x7, m7⟩ => ⟨_, he7, ?_⟩
      (repeat with_reducible first | refine js ?_ | refine ja ?_ | refine jw KL50 [2, 10] TF50 fun _ => ?_)
      refine Run_condS (fun _ => rfl) (fun h => ?_) (fun h => ?_)
      · have hso : ∃ x, Pl.srch l (Pl.room t) (Pl.leafC t f l covers) rest (of ++ [r]) = some x := Option.isSome_iff_exists.1 h
        obtain ⟨x, hx⟩ := hso
        have hres : o.findSome? g = some x := by rw [← hfs]; exact hhit x (hfr.trans hx)
        (repeat with_reducible first | refine js ?_ | refine ja ?_ | refine jw KL50 [2, 10] TF50 fun _ => ?_)
        refine Run_ret ?_
        simp [Rets, RetM, resV, fnd, oneOr, hres]
        exact ⟨y6.trans x7, m7 x hx⟩
      · have hno : Pl.srch l (Pl.room t) (Pl.leafC t f l covers) rest (of ++ [r]) = none := by simpa using h
        (repeat with_reducible first | refine js ?_ | refine ja ?_ | refine jw KL50 [2, 10] TF50 fun _ => ?_)
        exact Run_lp ⟨q + 1, by simp [SubB, fnd, strike, has], ⟨by omega, by rw [← hskip (hfr.trans hno)]; exact hfs, z6.trans x7⟩, by omega⟩
    · simp at h
      obtain rfl : q = o.length := by omega
      rw [List.drop_length, List.findSome?_nil] at hfs
      (repeat with_reducible first | refine js ?_ | refine ja ?_ | refine jw KL50 [2, 10] TF50 fun _ => ?_)
      refine Run_ret ?_
      simp [Rets, RetM, resV, fnd, oneOr, ← hfs, y3]
end
theorem rfRight24 (vl u0 u1 u2 vo v0 v1 v2 : Value) (t : TimeD) (f : TariffD) (l : List OrderD) (covers : Int) (p : PlanD) (w : World) (hl : Sl w vl t.Lines) (hT : TarR w f u0 u1 u2) (ho : Sl w vo l) (hP : PlanR w p v0 v1 v2) :
    Calls Tryz.prog 48 #[.agg (t.cs vl).toArray, .agg (f.cs u0 u1 u2).toArray, vo, .int .i64 covers, .agg (p.cs v0 v1 v2).toArray] w fun e w' => e = .returned (.int .i64 (Rp.err t f l covers p)) ∧ Ext w w' := by
  refine Calls_of_Run (args := [.agg (t.cs vl).toArray, .agg (f.cs u0 u1 u2).toArray, vo, .int .i64 covers, .agg (p.cs v0 v1 v2).toArray]) (n := 27) (rs := [.tmp 10]) Tryz.func48 rfl rfl rfl (by simp) ?_
  (repeat with_reducible first | refine js ?_ | refine ja ?_ | refine jw KL48 [] TF48 fun _ => ?_)
  refine SemW_box fun pt w1 h1 => SemW_box fun pf w2 h2 => SemW_box fun pp w3 h3 => ?_
  have x3 := h1.ext.trans (h2.ext.trans h3.ext)
  have t3 : AtN w3 pt 0 (t.cs vl) := (h1.at_.ext (h2.ext.trans h3.ext)).n
  have f3 : AtN w3 pf 0 (f.cs u0 u1 u2) := (h2.at_.ext h3.ext).n
  have p3 : AtN w3 pp 0 (p.cs v0 v1 v2) := h3.at_.n
  simp only [TimeD.cs, TariffD.cs, PlanD.cs, AtN, KS, Nat.reduceAdd, Nat.reduceMul, Nat.reduceEqDiff, ↓reduceIte, UT] at t3 f3 p3
  (repeat with_reducible first | refine js ?_ | refine ja ?_ | refine jw KL48 [] (aa TF48 (aa t3 (aa f3 p3))) fun _ => ?_)
  refine CallW_pure call29 (rfCheckP vl u0 u1 u2 vo v0 v1 v2 t f l covers p w3 (hl.ext x3) (hT.ext x3) (ho.ext x3) (hP.ext x3)) fun w4 x4 => ?_
  have hd : Rp.err t f l covers p = if (Pl.check t f l covers p).2 ≠ 0 then (Pl.check t f l covers p).2 else if (Pl.check t f l covers p).1 then 0 else 220 := rfl
  rw [hd]
  generalize (Pl.check t f l covers p).1 = b
  generalize (Pl.check t f l covers p).2 = e
  have y4 := x3.trans x4
  (repeat with_reducible first | refine js ?_ | refine ja ?_ | refine jw KL48 [] (aa TF48 KX) fun _ => ?_)
  by_cases he : e = 0
  · subst he
    refine Run_condS (fun _ => rfl) (fun h => by cases h) (fun _ => ?_)
    cases b
    · (repeat with_reducible first | refine js ?_ | refine ja ?_ | refine jw KL48 [] (aa TF48 KX) fun _ => ?_)
      refine Run_condS (fun _ => rfl) (fun _ => ?_) (fun h => by cases h)
      (repeat with_reducible first | refine js ?_ | refine ja ?_ | refine jw KL48 [] TF48 fun _ => ?_)
      refine Run_ret ?_
      simp [Rets, RetM, resV, fnd, oneOr, y4]
    · (repeat with_reducible first | refine js ?_ | refine ja ?_ | refine jw KL48 [] (aa TF48 KX) fun _ => ?_)
      refine Run_condS (fun _ => rfl) (fun h => by cases h) (fun _ => ?_)
      (repeat with_reducible first | refine js ?_ | refine ja ?_ | refine jw KL48 [] TF48 fun _ => ?_)
      refine Run_ret ?_
      simp [Rets, RetM, resV, fnd, oneOr, y4]
  · refine Run_condS (fun _ => rfl) (fun _ => ?_) (fun h => by simp [he] at h)
    (repeat with_reducible first | refine js ?_ | refine ja ?_ | refine jw KL48 [] TF48 fun _ => ?_)
    refine Run_ret ?_
    simp [Rets, RetM, resV, fnd, oneOr, he, y4]
theorem rfRight24W {vl u0 u1 u2 vo v0 v1 v2 : Value} {t : TimeD} {f : TariffD} {l : List OrderD} {covers : Int} {p : PlanD} {w : World} {K : Value → World → Prop} (hl : Sl w vl t.Lines) (hT : TarR w f u0 u1 u2) (ho : Sl w vo l) (hP : PlanR w p v0 v1 v2) (hK : ∀ w', Ext w w' → K (.int .i64 (Rp.err t f l covers p)) w') :
    CallW Tryz.prog (.func (.func 48) #[] #[]) [.agg #[.int .i64 t.Offices, vl], .agg #[u0, u1, u2], vo, .int .i64 covers, .agg #[v0, v1, v2]] w K := CallW_pure call48 (rfRight24 vl u0 u1 u2 vo v0 v1 v2 t f l covers p w hl hT ho hP) hK
set_option maxHeartbeats 4000000 in
theorem rfAllowed (vl u0 u1 u2 vo v0 v1 v2 : Value) (t : TimeD) (f : TariffD) (l : List OrderD) (p : PlanD) (run : Int) (w : World) (hl : Sl w vl t.Lines) (hT : TarR w f u0 u1 u2) (ho : Sl w vo l) (hP : PlanR w p v0 v1 v2) (hol : p.Of.length = l.length) (hin : ∀ k ∈ p.Of, 0 ≤ k ∧ k < p.Runs.length) (h64 : l.length ≤ 64) :
    Calls Tryz.prog 49 #[.agg (t.cs vl).toArray, .agg (f.cs u0 u1 u2).toArray, vo, .agg (p.cs v0 v1 v2).toArray, .int .i64 run] w fun e w' => ∃ v, e = .returned (.tuple #[v, .int .i64 (Rp.oErr t f l p run 0 l.length)]) ∧ Ext w w' ∧ (Rp.oErr t f l p run 0 l.length = 0 → Sl w' v (Rp.opts t f l p run l.length)) := by
  have hos := ho.s
  have hll := ho.len
  have rl := hP.r.len
  have ol := hP.o.len
  refine Calls_of_Run (args := [.agg (t.cs vl).toArray, .agg (f.cs u0 u1 u2).toArray, vo, .agg (p.cs v0 v1 v2).toArray, .int .i64 run]) (n := 87) (rs := [.tmp 10, .tmp 11]) Tryz.func49 rfl rfl rfl (by simp) ?_
  (repeat with_reducible first | refine js ?_ | refine ja ?_ | refine jw KL49 [8, 15] TF49 fun _ => ?_)
  refine SemW_box fun pt w1 h1 => SemW_box fun pf w2 h2 => SemW_box fun pp w3 h3 => ?_
  have x3 := h1.ext.trans (h2.ext.trans h3.ext)
  have T : ∀ w', Ext w3 w' → AtN w' pt 0 (t.cs vl) := fun w' x => (h1.at_.ext (h2.ext.trans (h3.ext.trans x))).n
  have F : ∀ w', Ext w3 w' → AtN w' pf 0 (f.cs u0 u1 u2) := fun w' x => (h2.at_.ext (h3.ext.trans x)).n
  have P : ∀ w', Ext w3 w' → AtN w' pp 0 (p.cs v0 v1 v2) := fun w' x => (h3.at_.ext x).n
  simp only [TimeD.cs, TariffD.cs, PlanD.cs, AtN, KS, Nat.reduceAdd, Nat.reduceMul, Nat.reduceEqDiff, ↓reduceIte, UT] at T F P
  (repeat with_reducible first | refine js ?_ | refine ja ?_ | refine jw KL49 [8, 15] TF49 fun _ => ?_)
  refine SemW_buildSlice (vs := []) Tryz.underlying82 ti30 rfl rfl rfl (by simp) (by simp) fun pe w5 h5 => ?_
  have B5 : BufO (α := RawS) 30 w3.heap.size w5 (.slice (some pe) 0 0) [] := (BufL.new (css := []) (xs := ([] : List RawS)) h5 (Ext.refl _) (Cs.nil _) (by simp)).o
  (repeat with_reducible first | refine js ?_ | refine ja ?_ | refine jw KL49 [8, 15] TF49 fun _ => ?_)
  have hopl : (Rp.opts t f l p run l.length).length = l.length := by simp [Rp.opts]
  refine Run_loopV [10, 11, 12, 13, 14, 15, 16, 17, 18, 23, 41, 58, 64, 74] (σ := Nat × Value) (fun q => [(13, some (.int .i64 q.1)), (12, some q.2)]) (fun q w' => q.1 ≤ l.length ∧ OpB w3 w' q.2 (Rp.opts t f l p run l.length) q.1 ∧ Rp.oErr t f l p run q.1 (l.length - q.1) = Rp.oErr t f l p run 0 l.length) (fun q => l.length - q.1) (0, .slice (some pe) 0 0) (by simp [SubB, fnd]) ⟨by simp, ⟨h5.ext, [], B5, rfl, by simp⟩, rfl⟩ ?_
  rintro ⟨q, vb⟩ w7 ⟨hq, O7, hf⟩
  simp only at hq O7 hf
  (repeat with_reducible first | refine js ?_ | refine ja ?_ | refine jw KL49 [8, 15] (aa TF49 (aa hos hll)) fun _ => ?_)
  refine Run_condS (fun _ => rfl) (fun h => ?_) (fun h => ?_)
  · simp at h
    have hql : q < l.length := by omega
    have hqc : (q : Int) < l.length := by omega
    have hqo : q < p.Of.length := by omega
    have hqoc : (q : Int) < p.Of.length := by omega
    clear h
    have x7 := O7.e
    have y7 := x3.trans x7
    have hOr := fun w' (x : Ext w7 w') => ((ho.ext (y7.trans x)).ord hql)
    have hOf := fun w' (x : Ext w7 w') => ((hP.o.ext (y7.trans x)).get hqo)
    have hk := hin _ (List.getElem_mem hqo)
    have hkg : p.Of.getD q 0 = p.Of[q] := by simp [List.getD_eq_getElem?_getD, hqo]
    have hrun : Rp.runOf p q = p.Runs.getD (p.Of[q]).toNat default := by unfold Rp.runOf; rw [hkg]
    have hlg : l.getD q default = l[q] := by simp [List.getD_eq_getElem?_getD, hql]
    have hoE : Rp.oErr t f l p run q (l.length - q) = if p.Of[q] = run ∧ (Pl.options t f l[q]).2 ≠ 0 then (Pl.options t f l[q]).2 else Rp.oErr t f l p run (q + 1) (l.length - (q + 1)) := by
      obtain ⟨m, hm⟩ : ∃ m, l.length - q = m + 1 := ⟨l.length - q - 1, by omega⟩
      rw [hm, show l.length - (q + 1) = m by omega]
      show (if p.Of.getD q 0 = run ∧ (Pl.options t f (l.getD q default)).2 ≠ 0 then _ else _) = _
      rw [hkg, hlg]
    rw [hoE] at hf
    have hget : ∀ h, (Rp.opts t f l p run l.length)[q]'h = if p.Of[q] = run then (Pl.options t f l[q]).1.filter (fun y => decide ((Rp.runOf p q).At < y.At)) else [Rp.runOf p q] := fun h => by
      simp only [Rp.opts, List.getElem_map, List.getElem_range]
      unfold Rp.opt1; rw [hkg, hlg]
    rw [hrun] at hget
    clear hoE
    generalize hke : p.Of[q] = k at *
    have hkl : k.toNat < p.Runs.length := by omega
    have hrg : p.Runs.getD k.toNat default = p.Runs[k.toNat] := by simp [List.getD_eq_getElem?_getD, hkl]
    rw [hrg] at hget
    have hRn := fun w' (x : Ext w7 w') => ((hP.r.ext (y7.trans x)).runD hkl)
    clear hrun hrg hlg hkg
    generalize p.Runs[k.toNat] = r at *
    generalize l[q] = o at *
    let S : Nat → Prop := fun _ => True
    (repeat with_reducible first | refine jq ?_ | refine jk ?_ | refine jc ?_ | refine jl ?_ | refine jb ?_ | refine jo ?_ | refine ji ?_ | refine jx rfl ?_)
    refine Run_eh S [10] [(1, [10]), (3, [10]), (6, [10]), (8, [10])] (id := 5) KL49 (.first 0 (.first 1 (.first 2 (.first 3 (.first 4 (.first 5 (.first 6 (.first 7 (.first 8 (.alt true 9 (.alt true 10 (.done false) .stop) .stop)))))))))) mixed (by kernel_rfl) (by kernel_rfl) fun w10 x10 _ => ?_
    have z10 := x7.trans x10
    have p10 := P w10 z10
    obtain ⟨c1, c2, c3⟩ := hOf w10 x10
    have r10 := (hRn w10 x10).1
    have rI := (hRn w10 x10).2
    simp only [RunD.cs, AtN, KS, Nat.reduceAdd, Nat.reduceMul, Nat.reduceEqDiff, ↓reduceIte, UT] at r10
    (try simp (maxSteps := 5000000) only [KS, Nat.reduceAdd, Nat.reduceMul, Nat.reduceEqDiff, ↓reduceIte, forall_const, Int.cast_ofNat_Int, Int.reduceToNat, List.take_succ_cons, List.take_zero, List.drop_succ_cons, List.drop_zero, TF49, KL49, eh, gres, qopS, putL, ung, p10, hP.o.s, ol, hP.r.s, rl, c1, c2, r10]); (try simp (disch := omega) only [wrapI, tmodI, tdivI])
    refine ⟨trivial, trivial, ⟨by omega, by omega⟩, trivial, ⟨by omega, by omega⟩, trivial, Keep.refl _ _, ?_⟩
    refine SemW_allocT ti50 fun pr w11 h11 => ⟨Keep.of_ext h11.ext, ?_⟩
    have b11 := h11.blk
    refine SemW_setW (by rw [cells50]; decide) (by rw [cells50]; rfl) h11.row (by rw [cells50]; rfl) rfl fun w12 r12 k12 z12 => ⟨fun h => h.elim, ?_⟩
    have r12 : Row w12 pr 50 r.cs := r12
    have x12 : Ext w10 w12 := Keep.ext h11.ext k12 fun b hb => by omega
    have x712 := x10.trans x12
    have z12' := x7.trans x712
    have p12 := P w12 z12'
    obtain ⟨d1, d2, d3⟩ := hOf w12 x712
    (repeat with_reducible first | refine js ?_ | refine ja ?_ | refine jw KL49 [8, 15] (aa TF49 (aa p12 (aa hP.o.s (aa ol (aa d1 d2))))) fun _ => ?_)
    by_cases hkr : k = run
    · subst hkr
      refine Run_condS (fun _ => rfl) (fun h => by simp at h) (fun _ => ?_)
      let S : Nat → Prop := fun _ => True
      (repeat with_reducible first | refine jq ?_ | refine jk ?_ | refine jc ?_ | refine jl ?_ | refine jb ?_ | refine jo ?_ | refine ji ?_ | refine jx rfl ?_)
      refine Run_eh S [6] [(0, [6]), (1, [6]), (5, [6])] (id := 8) KL49 (.first 0 (.first 1 (.first 2 (.first 3 (.first 4 (.first 5 (.alt true 6 (.free (.first 7 (.first 8 (.first 9 (.first 10 (.first 11 .done)))))) .stop))))))) mixed (by kernel_rfl) (by kernel_rfl) fun w13 x13 _ => ?_
      have x713 := x712.trans x13
      have z13 := x7.trans x713
      have y13 := x3.trans z13
      have t13 := T w13 z13
      have f13 := F w13 z13
      obtain ⟨g, oA, oB, hO⟩ := hOr w13 x713
      have o13 := oB.n
      simp only [OrderD.cs, AtN, KS, Nat.reduceAdd, Nat.reduceMul, Nat.reduceEqDiff, ↓reduceIte, UT] at o13
      (try simp (maxSteps := 5000000) only [KS, Nat.reduceAdd, Nat.reduceMul, Nat.reduceEqDiff, ↓reduceIte, forall_const, Int.cast_ofNat_Int, Int.reduceToNat, List.take_succ_cons, List.take_zero, List.drop_succ_cons, List.drop_zero, TF49, KL49, eh, gres, qopS, putL, ung, t13, f13, o13, hos, hll]); (try simp (disch := omega) only [wrapI, tmodI, tdivI])
      refine ⟨trivial, trivial, ⟨by omega, by omega⟩, trivial, Keep.refl _ _, ?_⟩
      refine CallW_gen call82 (rfOptionsO vl t f u0 u1 u2 o g w13 (hl.ext y13) (hT.ext y13) hO) fun e w14 ⟨v14, he14, x14, b14⟩ => ⟨_, he14, ⟨rfl, by simp [tpOf]⟩, ⟨rfl, by simp [tpOf]⟩, ?_⟩
      (try simp (maxSteps := 5000000) only [KS, Nat.reduceAdd, Nat.reduceMul, Nat.reduceEqDiff, ↓reduceIte, forall_const, Int.cast_ofNat_Int, Int.reduceToNat, List.take_succ_cons, List.take_zero, List.drop_succ_cons, List.drop_zero, TF49, KL49, eh, gres, qopS, putL, ung]); (try simp (disch := omega) only [wrapI, tmodI, tdivI])
      have x714 := x713.trans x14
      (repeat with_reducible first | refine js ?_ | refine ja ?_ | refine jw KL49 [8, 15] TF49 fun _ => ?_)
      refine Run_condS (fun _ => rfl) (fun h => ?_) (fun h => ?_)
      · have he2 : (Pl.options t f o).2 ≠ 0 := by simpa using h
        rw [if_pos ⟨rfl, he2⟩] at hf
        (repeat with_reducible first | refine js ?_ | refine ja ?_ | refine jw KL49 [8, 15] TF49 fun _ => ?_)
        refine Run_ret ?_
        simp only [Rets, RetM, resV, fnd, oneOr, ↓reduceIte, KS, Nat.reduceAdd, Nat.reduceMul, Nat.reduceEqDiff, ↓reduceIte, UT]
        refine ⟨_, rfl, _, rfl, ?_⟩
        exact ⟨.slice none 0 0, by rw [hf], y7.trans x714, fun h0 => (he2 (hf.trans h0)).elim⟩
      have he2 : (Pl.options t f o).2 = 0 := by simpa using h
      clear h
      rw [if_neg (by simp [he2])] at hf
      simp only [if_true] at hget
      have hle := opts_le (t := t) (f := f) (o := o)
      have s14 := b14.sl (by omega)
      have l14 := s14.len
      generalize (Pl.options t f o).1 = xs at *
      (repeat with_reducible first | refine js ?_ | refine ja ?_ | refine jw KL49 [8, 15] TF49 fun _ => ?_)
      refine SemW_buildSlice (vs := []) Tryz.underlying30 ti50 rfl rfl rfl (by simp) (by simp) fun pb w15 h15 => ?_
      have B15 : BufO (α := RunD) 50 w14.heap.size w15 (.slice (some pb) 0 0) [] := (BufL.new (css := []) (xs := ([] : List RunD)) h15 (Ext.refl _) (Cs.nil _) (by simp)).o
      (repeat with_reducible first | refine js ?_ | refine ja ?_ | refine jw KL49 [8, 15] TF49 fun _ => ?_)
      refine Run_loopV [17, 18, 64, 74] (σ := Nat × Value) (fun j => [(18, some (.int .i64 j.1)), (17, some j.2)]) (fun j w' => j.1 ≤ xs.length ∧ Ext w14 w' ∧ BufO (α := RunD) 50 w14.heap.size w' j.2 ((xs.take j.1).filter fun y => decide (r.At < y.At))) (fun j => xs.length - j.1) (0, .slice (some pb) 0 0) (by simp [SubB, fnd]) ⟨by simp, h15.ext, by simpa using B15⟩ ?_
      rintro ⟨j, vj⟩ w16 ⟨hj, x16, B16⟩
      simp only at hj x16 B16
      (repeat with_reducible first | refine js ?_ | refine ja ?_ | refine jw KL49 [8, 15] (aa TF49 (aa s14.s l14)) fun _ => ?_)
      refine Run_condS (fun _ => rfl) (fun h => ?_) (fun h => ?_)
      · simp at h
        have hjl : j < xs.length := by omega
        have hjc : (j : Int) < xs.length := by omega
        clear h
        obtain ⟨e1, e2⟩ := (s14.ext x16).runD hjl
        have htk : (xs.take (j + 1)).filter (fun y => decide (r.At < y.At)) = if decide (r.At < xs[j].At) = true then (xs.take j).filter (fun y => decide (r.At < y.At)) ++ [xs[j]] else (xs.take j).filter (fun y => decide (r.At < y.At)) := by
          rw [List.take_succ_eq_append_getElem hjl, List.filter_append]
          by_cases h : r.At < xs[j].At <;> simp [h]
        have hfl : ((xs.take j).filter fun y => decide (r.At < y.At)).length ≤ j := Nat.le_trans (List.length_filter_le _ _) (by simp; omega)
        generalize (xs.take j).filter (fun y => decide (r.At < y.At)) = O at *
        generalize hye : xs[j] = y at *
        have r16 := (r12.ext (x13.trans (x14.trans x16))).n
        simp only [RunD.cs, AtN, KS, Nat.reduceAdd, Nat.reduceMul, Nat.reduceEqDiff, ↓reduceIte, UT] at e1 r16
        (repeat with_reducible first | refine js ?_ | refine ja ?_ | refine jw KL49 [8, 15] (aa TF49 (aa s14.s (aa l14 (aa e1 r16)))) fun _ => ?_)
        intro w17 x17
        have x1417 := x16.trans x17
        have B17 := B16.keepQ (Keep.of_ext (S := fun _ => True) x17) fun _ _ => trivial
        have hB17 : w14.heap.size ≤ w17.heap.size := x1417.size
        refine Run_condS (fun _ => rfl) (fun h => ?_) (fun h => ?_)
        · rw [if_pos h] at htk
          obtain ⟨e1, _⟩ := (s14.ext x1417).runD hjl
          rw [hye] at e1
          simp only [RunD.cs, AtN, KS, Nat.reduceAdd, Nat.reduceMul, Nat.reduceEqDiff, ↓reduceIte, UT] at e1
          (repeat with_reducible first | refine js ?_ | refine ja ?_ | refine jw KL49 [8, 15] (aa TF49 (aa s14.s (aa l14 e1))) fun _ => ?_)
          refine SemW_append1Q (α := RunD) Tryz.underlying30 ti50 rfl (by decide) B17 hB17 (x := y) ⟨rfl, e2⟩ (by simp only [maxLen]; omega) fun _ v18 w18 b18 k18 g18 => ?_
          (repeat with_reducible first | refine js ?_ | refine ja ?_ | refine jw KL49 [8, 15] TF49 fun _ => ?_)
          refine Run_lp ⟨(j + 1, v18), by simp [SubB, fnd, strike, has], ⟨by show j + 1 ≤ xs.length; omega, Keep.ext x1417 k18 fun k hk e => by have := (B17.own_lt e.symm).1; omega, ?_⟩, by show xs.length - (j + 1) < xs.length - j; omega⟩
          show BufO _ _ _ v18 ((xs.take (j + 1)).filter fun y => decide (r.At < y.At))
          rw [htk]; exact b18
        · rw [if_neg (by simp [h])] at htk
          (repeat with_reducible first | refine js ?_ | refine ja ?_ | refine jw KL49 [8, 15] TF49 fun _ => ?_)
          refine Run_lp ⟨(j + 1, vj), by simp [SubB, fnd, strike, has], ⟨by show j + 1 ≤ xs.length; omega, x1417, ?_⟩, by show xs.length - (j + 1) < xs.length - j; omega⟩
          show BufO _ _ _ vj ((xs.take (j + 1)).filter fun y => decide (r.At < y.At))
          rw [htk]; exact B17
      simp at h
      obtain rfl : j = xs.length := by omega
      clear h
      rw [List.take_length] at B16
      have x716 := x714.trans x16
      obtain ⟨rs, c1', c2', c3', xx, hB⟩ := O7.at_ x716
      (repeat with_reducible first | refine js ?_ | refine ja ?_ | refine jw KL49 [8, 15] TF49 fun _ => ?_)
      refine SemW_append1Q (α := RawS) Tryz.underlying82 ti30 rfl (by decide) c1' hB (x := ⟨vj⟩) (by rw [isS_c B16.isS.1]; exact ⟨rfl, B16.isS.1⟩) (by rw [c2']; simp only [maxLen]; omega) fun _ v17 w17 b17 k17 g17 => ?_
      (repeat with_reducible first | refine js ?_ | refine ja ?_ | refine jw KL49 [8, 15] TF49 fun _ => ?_)
      exact Run_lp ⟨(q + 1, v17), by simp [SubB, fnd, strike, has], ⟨by show q + 1 ≤ l.length; omega, OpB.put xx c1' c2' c3' (B16.mono (Nat.zero_le _)) hget b17 k17, hf⟩, by show l.length - (q + 1) < l.length - q; omega⟩
    · rw [if_neg (by simp [hkr])] at hf
      simp only [if_neg hkr] at hget
      refine Run_condS (fun _ => rfl) (fun _ => ?_) (fun h => by simp [hkr] at h)
      have n12 := r12.n
      simp only [RunD.cs, AtN, KS, Nat.reduceAdd, Nat.reduceMul, Nat.reduceEqDiff, ↓reduceIte, UT] at n12
      (repeat with_reducible first | refine js ?_ | refine ja ?_ | refine jw KL49 [8, 15] (aa TF49 n12) fun _ => ?_)
      refine SemW_buildSlice (vs := [.agg r.cs.toArray]) Tryz.underlying30 ti50 rfl rfl rfl (by simp [Value.cells, RunD.cs]) (by simp) fun pb w13 h13 => ?_
      have B13 : BufO (α := RunD) 50 0 w13 (.slice (some pb) 1 1) [r] := by
        have := BufL.new (α := RunD) (e := 50) (W := w12) (w := w12) (w' := w13) (p := pb) (css := [r.cs]) (xs := [r]) (by simpa [Value.cells] using h13) (Ext.refl _) (Cs.one ⟨rfl, rI⟩) (by simp [maxLen])
        exact this.o.mono (Nat.zero_le _)
      have x713 := x712.trans h13.ext
      obtain ⟨rs, c1', c2', c3', xx, hB⟩ := O7.at_ x713
      refine SemW_append1Q (α := RawS) Tryz.underlying82 ti30 rfl (by decide) c1' hB (x := ⟨.slice (some pb) 1 1⟩) (by show Enc.rep _ (Value.slice (some pb) 1 1).cells.toList _; rw [isS_c B13.isS.1]; exact ⟨rfl, B13.isS.1⟩) (by rw [c2']; simp only [maxLen]; omega) fun _ v16 w16 b16 k16 g16 => ?_
      (repeat with_reducible first | refine js ?_ | refine ja ?_ | refine jw KL49 [8, 15] TF49 fun _ => ?_)
      exact Run_lp ⟨(q + 1, v16), by simp [SubB, fnd, strike, has], ⟨by show q + 1 ≤ l.length; omega, OpB.put xx c1' c2' c3' B13 hget b16 k16, hf⟩, by show l.length - (q + 1) < l.length - q; omega⟩
  · simp at h
    obtain rfl : q = l.length := by omega
    clear h
    rw [Nat.sub_self] at hf
    (repeat with_reducible first | refine js ?_ | refine ja ?_ | refine jw KL49 [8, 15] TF49 fun _ => ?_)
    refine Run_ret ?_
    simp only [Rets, RetM, resV, fnd, oneOr, ↓reduceIte, KS, Nat.reduceAdd, Nat.reduceMul, Nat.reduceEqDiff, ↓reduceIte, UT]
    refine ⟨_, rfl, _, rfl, ?_⟩
    exact ⟨vb, by rw [← hf]; rfl, x3.trans O7.e, fun _ => O7.sl hopl (by omega) opts_small⟩
set_option maxHeartbeats 4000000 in
theorem rfRepair24 (vl u0 u1 u2 vo v0 v1 v2 : Value) (t : TimeD) (f : TariffD) (l : List OrderD) (covers : Int) (p : PlanD) (run : Int) (w : World) (hl : Sl w vl t.Lines) (hT : TarR w f u0 u1 u2) (ho : Sl w vo l) (hP : PlanR w p v0 v1 v2) :
    Calls Tryz.prog 17 #[.agg (t.cs vl).toArray, .agg (f.cs u0 u1 u2).toArray, vo, .int .i64 covers, .agg (p.cs v0 v1 v2).toArray, .int .i64 run] w fun e w' => ∃ a0 a1 a2, e = .returned (.tuple #[.agg ((Rp.repair t f l covers p run).1.cs a0 a1 a2).toArray, .bool (Rp.repair t f l covers p run).2.1, .int .i64 (Rp.repair t f l covers p run).2.2]) ∧ Ext w w' ∧ PlanR w' (Rp.repair t f l covers p run).1 a0 a1 a2 := by
  have rl := hP.r.len
  refine Calls_of_Run (args := [.agg (t.cs vl).toArray, .agg (f.cs u0 u1 u2).toArray, vo, .int .i64 covers, .agg (p.cs v0 v1 v2).toArray, .int .i64 run]) (n := 68) (rs := [.cell 12 32, .tmp 13, .tmp 14]) Tryz.func17 rfl rfl rfl (by simp) ?_
  (repeat with_reducible first | refine js ?_ | refine ja ?_ | refine jw KL17 [] TF17 fun _ => ?_)
  refine SemW_box fun pt w1 h1 => SemW_box fun pf w2 h2 => SemW_box fun pp w3 h3 => SemW_allocT ti32 fun pq w4 h4 => ?_
  have b4 := h4.blk
  have z1 := h1.size
  have z2 := h2.size
  have z3 := h3.size
  have z4 := h4.size
  have x4 := h1.ext.trans (h2.ext.trans (h3.ext.trans h4.ext))
  have T : ∀ w', Ext w4 w' → AtN w' pt 0 (t.cs vl) := fun w' x => (h1.at_.ext (h2.ext.trans (h3.ext.trans (h4.ext.trans x)))).n
  have F : ∀ w', Ext w4 w' → AtN w' pf 0 (f.cs u0 u1 u2) := fun w' x => (h2.at_.ext (h3.ext.trans (h4.ext.trans x))).n
  have P : ∀ w', Ext w4 w' → AtN w' pp 0 (p.cs v0 v1 v2) := fun w' x => (h3.at_.ext (h4.ext.trans x)).n
  have r4 : Row w4 pq 32 [.slice none 0 0, .slice none 0 0, .slice none 0 0] := h4.row
  simp only [TimeD.cs, TariffD.cs, PlanD.cs, AtN, KS, Nat.reduceAdd, Nat.reduceMul, Nat.reduceEqDiff, ↓reduceIte, UT] at T F P
  have t4 := T w4 (Ext.refl _)
  have f4 := F w4 (Ext.refl _)
  have p4 := P w4 (Ext.refl _)
  (repeat with_reducible first | refine js ?_ | refine ja ?_ | refine jw KL17 [] (aa TF17 (aa t4 (aa f4 p4))) fun _ => ?_)
  refine rfRight24W (hl.ext x4) (hT.ext x4) (ho.ext x4) (hP.ext x4) fun w5 x5 => ?_
  (repeat with_reducible first | refine js ?_ | refine ja ?_ | refine jw KL17 [] TF17 fun _ => ?_)
  refine Run_condS (fun _ => rfl) (fun h => ?_) (fun h => ?_)
  · have he : Rp.err t f l covers p ≠ 0 := by simpa using h
    (repeat with_reducible first | refine js ?_ | refine ja ?_ | refine jw KL17 [] TF17 fun _ => ?_)
    refine ⟨.agg #[.slice none 0 0, .slice none 0 0, .slice none 0 0], fun _ => by kernel_rfl, ?_⟩
    refine SemW_setW (by rw [cells32]; decide) (by rw [cells32]; rfl) (r4.ext x5) (by rw [cells32]; rfl) rfl fun wz rz kz zz => ?_
    have ez := loadVar_at (P := Tryz.prog) (t := 32) (by kernel_rfl) (by rw [cells32]; decide) (by rw [cells32]; rfl) rz.at_
    (repeat with_reducible first | refine js ?_ | refine ja ?_ | refine jw KL17 [] TF17 fun _ => ?_)
    refine Run_ret ?_
    simp only [Rets, RetM, resV, fnd, oneOr, ↓reduceIte, KS, Nat.reduceAdd, Nat.reduceMul, Nat.reduceEqDiff, ↓reduceIte, UT]
    rw [Rp.repair_err he]
    refine ⟨pq, _, rfl, ez, ?_⟩
    simp [resV, oneOr, fnd, Pl.noPlan, PlanD.cs, mendPl]
    exact ⟨.slice none 0 0, .slice none 0 0, .slice none 0 0, rfl, Keep.ext (x4.trans x5) kz fun k hk => by omega, Sl.nil _, Sl.nil _, Sl.nil _⟩
  have he : Rp.err t f l covers p = 0 := by simpa using h
  clear h
  obtain ⟨h0, hA⟩ := Rp.err_acc he
  have h64 := (Pl.err_ok h0).n
  have hcr := Pl.err_crowd h0
  have p5 := P w5 x5
  (repeat with_reducible first | refine js ?_ | refine ja ?_ | refine jw KL17 [] (aa TF17 (aa p5 (aa hP.r.s (aa rl KX)))) fun _ => ?_)
  refine Run_condS (fun _ => rfl) (fun h => ?_) (fun h => ?_)
  · have hr : run < 0 ∨ p.Runs.length ≤ run := by simpa using h
    (repeat with_reducible first | refine js ?_ | refine ja ?_ | refine jw KL17 [] TF17 fun _ => ?_)
    refine ⟨.agg #[.slice none 0 0, .slice none 0 0, .slice none 0 0], fun _ => by kernel_rfl, ?_⟩
    refine SemW_setW (by rw [cells32]; decide) (by rw [cells32]; rfl) (r4.ext x5) (by rw [cells32]; rfl) rfl fun wz rz kz zz => ?_
    have ez := loadVar_at (P := Tryz.prog) (t := 32) (by kernel_rfl) (by rw [cells32]; decide) (by rw [cells32]; rfl) rz.at_
    (repeat with_reducible first | refine js ?_ | refine ja ?_ | refine jw KL17 [] TF17 fun _ => ?_)
    refine Run_ret ?_
    simp only [Rets, RetM, resV, fnd, oneOr, ↓reduceIte, KS, Nat.reduceAdd, Nat.reduceMul, Nat.reduceEqDiff, ↓reduceIte, UT]
    rw [Rp.repair_arg he hr]
    refine ⟨pq, _, rfl, ez, ?_⟩
    simp [resV, oneOr, fnd, Pl.noPlan, PlanD.cs, mendPl]
    exact ⟨.slice none 0 0, .slice none 0 0, .slice none 0 0, rfl, Keep.ext (x4.trans x5) kz fun k hk => by omega, Sl.nil _, Sl.nil _, Sl.nil _⟩
  have hr : ¬ (run < 0 ∨ p.Runs.length ≤ run) := by simpa using h
  clear h
  have t5 := T w5 x5
  have f5 := F w5 x5
  have y5 := x4.trans x5
  (repeat with_reducible first | refine js ?_ | refine ja ?_ | refine jw KL17 [] (aa TF17 (aa t5 (aa f5 p5))) fun _ => ?_)
  refine CallW_gen call49 (rfAllowed vl u0 u1 u2 vo v0 v1 v2 t f l p run w5 (hl.ext y5) (hT.ext y5) (ho.ext y5) (hP.ext y5) hA.ol hA.ins h64) fun e w6 ⟨v6, he6, x6, s6⟩ => ⟨_, he6, ?_⟩
  have y6 := x5.trans x6
  (repeat with_reducible first | refine js ?_ | refine ja ?_ | refine jw KL17 [] TF17 fun _ => ?_)
  refine Run_condS (fun _ => rfl) (fun h => ?_) (fun h => ?_)
  · have hoe : Rp.oErr t f l p run 0 l.length ≠ 0 := by simpa using h
    (repeat with_reducible first | refine js ?_ | refine ja ?_ | refine jw KL17 [] TF17 fun _ => ?_)
    refine ⟨.agg #[.slice none 0 0, .slice none 0 0, .slice none 0 0], fun _ => by kernel_rfl, ?_⟩
    refine SemW_setW (by rw [cells32]; decide) (by rw [cells32]; rfl) (r4.ext y6) (by rw [cells32]; rfl) rfl fun wz rz kz zz => ?_
    have ez := loadVar_at (P := Tryz.prog) (t := 32) (by kernel_rfl) (by rw [cells32]; decide) (by rw [cells32]; rfl) rz.at_
    (repeat with_reducible first | refine js ?_ | refine ja ?_ | refine jw KL17 [] TF17 fun _ => ?_)
    refine Run_ret ?_
    simp only [Rets, RetM, resV, fnd, oneOr, ↓reduceIte, KS, Nat.reduceAdd, Nat.reduceMul, Nat.reduceEqDiff, ↓reduceIte, UT]
    rw [Rp.repair_opt he hr hoe]
    refine ⟨pq, _, rfl, ez, ?_⟩
    simp [resV, oneOr, fnd, Pl.noPlan, PlanD.cs, mendPl]
    exact ⟨.slice none 0 0, .slice none 0 0, .slice none 0 0, rfl, Keep.ext (x4.trans y6) kz fun k hk => by omega, Sl.nil _, Sl.nil _, Sl.nil _⟩
  have hoe : Rp.oErr t f l p run 0 l.length = 0 := by simpa using h
  clear h
  have s6 := s6 hoe
  have t6 := T w6 y6
  have f6 := F w6 y6
  have z6 := x4.trans y6
  have hopt : ∀ o ∈ Rp.opts t f l p run l.length, ∀ r ∈ o, 0 ≤ r.Line ∧ r.Line < t.Lines.length := fun o ho' r hr => by
    obtain ⟨g1, g2, g3⟩ := isRunL (Rp.opts_run he hoe o ho' r hr)
    exact ⟨g1, g2⟩
  have hol : (Rp.opts t f l p run l.length).length = l.length := by simp [Rp.opts]
  (repeat with_reducible first | refine js ?_ | refine ja ?_ | refine jw KL17 [] (aa TF17 (aa t6 f6)) fun _ => ?_)
  refine CallW_gen call50 (rfChoose24 (covers := covers) hol h64 hcr hopt (Rp.opts t f l p run l.length) [] (.slice none 0 0) w6 rfl (by simpa using hol) (hl.ext z6) (hT.ext z6) (ho.ext z6) s6 (Sl.nil _)) fun e w7 ⟨v7, he7, x7, m7⟩ => ⟨_, he7, ?_⟩
  rw [Rp.rchoose_eq he hoe] at m7 ⊢
  rw [Rp.repair_ok he hr hoe]
  have y7 := y6.trans x7
  have z7 := x4.trans y7
  cases hres : Rp.mend t f l covers p run with
  | none =>
    (repeat with_reducible first | refine js ?_ | refine ja ?_ | refine jw KL17 [] (aa TF17 KX) fun _ => ?_)
    refine Run_condS (fun _ => rfl) (fun _ => ?_) (fun h => by cases h)
    (repeat with_reducible first | refine js ?_ | refine ja ?_ | refine jw KL17 [] TF17 fun _ => ?_)
    refine ⟨.agg #[.slice none 0 0, .slice none 0 0, .slice none 0 0], fun _ => by kernel_rfl, ?_⟩
    refine SemW_setW (by rw [cells32]; decide) (by rw [cells32]; rfl) (r4.ext y7) (by rw [cells32]; rfl) rfl fun wz rz kz zz => ?_
    have ez := loadVar_at (P := Tryz.prog) (t := 32) (by kernel_rfl) (by rw [cells32]; decide) (by rw [cells32]; rfl) rz.at_
    (repeat with_reducible first | refine js ?_ | refine ja ?_ | refine jw KL17 [] TF17 fun _ => ?_)
    refine Run_ret ?_
    simp only [Rets, RetM, resV, fnd, oneOr, ↓reduceIte, KS, Nat.reduceAdd, Nat.reduceMul, Nat.reduceEqDiff, ↓reduceIte, UT]
    refine ⟨pq, _, rfl, ez, ?_⟩
    simp [resV, oneOr, fnd, Pl.noPlan, PlanD.cs, mendPl]
    exact ⟨.slice none 0 0, .slice none 0 0, .slice none 0 0, rfl, Keep.ext (x4.trans y7) kz fun k hk => by omega, Sl.nil _, Sl.nil _, Sl.nil _⟩
  | some of =>
    have s7 := m7 of hres
    have hmk := Rp.mend_ok he hoe hres
    (repeat with_reducible first | refine js ?_ | refine ja ?_ | refine jw KL17 [] (aa TF17 KX) fun _ => ?_)
    refine Run_condS (fun _ => rfl) (fun h => by cases h) (fun _ => ?_)
    (repeat with_reducible first | refine js ?_ | refine ja ?_ | refine jw KL17 [] TF17 fun _ => ?_)
    refine CallW_gen call51 (rfPlan vo v7 l of w7 (ho.ext z7) s7 (by rw [hmk.n]; exact Nat.le_refl _) h64 hcr) fun e w20 ⟨a0, a1, a2, he20, x20, P20⟩ => ⟨_, he20, ?_⟩
    have y20 := y7.trans x20
    have r20 := r4.ext y20
    refine SemW_setW (by rw [cells32]; decide) (by rw [cells32]; rfl) r20 (by rw [cells32]; rfl) (by simp [Value.cells, PlanD.cs, isS_o P20.r.s, isS_o P20.o.s, isS_o P20.c.s]) fun wz rz kz zz => ?_
    have ez := loadVar_at (P := Tryz.prog) (t := 32) (by kernel_rfl) (by rw [cells32]; decide) (by rw [cells32]; rfl) rz.at_
    have kR : ∀ (v : Value) (xs : List RunD), Sl w20 v xs → Sl wz v xs := fun v xs hv => hv.keepD r20 (fun x _ cs' hc => ⟨.int .i64 x.Line, by rw [hc.1]; rfl, fun hm => by simp at hm⟩) kz
    have kI : ∀ (v : Value) (xs : List Int), Sl w20 v xs → Sl wz v xs := fun v xs hv => hv.keepD r20 (fun x _ cs' hc => ⟨.int .i64 x, by rw [hc.1]; rfl, fun hm => by simp at hm⟩) kz
    (repeat with_reducible first | refine js ?_ | refine ja ?_ | refine jw KL17 [] TF17 fun _ => ?_)
    refine Run_ret ?_
    simp only [Rets, RetM, resV, fnd, oneOr, ↓reduceIte, KS, Nat.reduceAdd, Nat.reduceMul, Nat.reduceEqDiff, ↓reduceIte, UT]
    refine ⟨pq, _, rfl, ez, ?_⟩
    simp [resV, oneOr, fnd, Pl.noPlan, PlanD.cs, mendPl]
    exact ⟨a0, a1, a2, rfl, Keep.ext (x4.trans y20) kz fun k hk => by omega, kR _ _ P20.r, kI _ _ P20.o, kI _ _ P20.c⟩
set_option maxHeartbeats 2000000 in
theorem rfWeak24 (vl u0 u1 u2 vo v0 v1 v2 : Value) (t : TimeD) (f : TariffD) (l : List OrderD) (covers : Int) (p : PlanD) (w : World) (hl : Sl w vl t.Lines) (hT : TarR w f u0 u1 u2) (ho : Sl w vo l) (hP : PlanR w p v0 v1 v2) (hpn : p.Runs.length ≤ 1000000) :
    Calls Tryz.prog 20 #[.agg (t.cs vl).toArray, .agg (f.cs u0 u1 u2).toArray, vo, .int .i64 covers, .agg (p.cs v0 v1 v2).toArray] w fun e w' => ∃ v, e = .returned (.tuple #[v, .int .i64 (Rp.weak t f l covers p).2]) ∧ Ext w w' ∧ Sl w' v (Rp.weak t f l covers p).1 := by
  have rl := hP.r.len
  have rs := hP.r.s
  refine Calls_of_Run (args := [.agg (t.cs vl).toArray, .agg (f.cs u0 u1 u2).toArray, vo, .int .i64 covers, .agg (p.cs v0 v1 v2).toArray]) (n := 56) (rs := [.tmp 10, .tmp 11]) Tryz.func20 rfl rfl rfl (by simp) ?_
  (repeat with_reducible first | refine js ?_ | refine ja ?_ | refine jw KL20 [] TF20 fun _ => ?_)
  refine SemW_box fun pt w1 h1 => SemW_box fun pf w2 h2 => SemW_box fun pp w3 h3 => ?_
  have x3 := h1.ext.trans (h2.ext.trans h3.ext)
  have T : ∀ w', Ext w3 w' → AtN w' pt 0 (t.cs vl) := fun w' x => (h1.at_.ext (h2.ext.trans (h3.ext.trans x))).n
  have F : ∀ w', Ext w3 w' → AtN w' pf 0 (f.cs u0 u1 u2) := fun w' x => (h2.at_.ext (h3.ext.trans x)).n
  have P : ∀ w', Ext w3 w' → AtN w' pp 0 (p.cs v0 v1 v2) := fun w' x => (h3.at_.ext x).n
  simp only [TimeD.cs, TariffD.cs, PlanD.cs, AtN, KS, Nat.reduceAdd, Nat.reduceMul, Nat.reduceEqDiff, ↓reduceIte, UT] at T F P
  have t3 := T w3 (Ext.refl _)
  have f3 := F w3 (Ext.refl _)
  have p3 := P w3 (Ext.refl _)
  (repeat with_reducible first | refine js ?_ | refine ja ?_ | refine jw KL20 [] (aa TF20 (aa t3 (aa f3 p3))) fun _ => ?_)
  refine rfRight24W (hl.ext x3) (hT.ext x3) (ho.ext x3) (hP.ext x3) fun w5 x5 => ?_
  have y5 := x3.trans x5
  (repeat with_reducible first | refine js ?_ | refine ja ?_ | refine jw KL20 [] TF20 fun _ => ?_)
  refine Run_condS (fun _ => rfl) (fun h => ?_) (fun h => ?_)
  · have he : Rp.err t f l covers p ≠ 0 := by simpa using h
    have hm : Rp.weak t f l covers p = ([], Rp.err t f l covers p) := by unfold Rp.weak; rw [if_pos he]
    (repeat with_reducible first | refine js ?_ | refine ja ?_ | refine jw KL20 [] TF20 fun _ => ?_)
    refine Run_ret ?_
    simp only [Rets, RetM, resV, fnd, oneOr, ↓reduceIte, KS, Nat.reduceAdd, Nat.reduceMul, Nat.reduceEqDiff, ↓reduceIte, UT]
    refine ⟨_, rfl, _, rfl, ?_⟩
    rw [hm]
    exact ⟨.slice none 0 0, rfl, y5, Sl.nil _⟩
  have he : Rp.err t f l covers p = 0 := by simpa using h
  clear h
  have hm : Rp.weak t f l covers p = Rp.weakF t f l covers p 0 p.Runs.length [] := by unfold Rp.weak; rw [if_neg (by simp [he])]
  (repeat with_reducible first | refine js ?_ | refine ja ?_ | refine jw KL20 [] TF20 fun _ => ?_)
  refine SemW_buildSlice (vs := []) Tryz.underlying25 ti3 rfl rfl rfl (by simp) (by simp) fun pb w6 h6 => ?_
  have B6 : BufO (α := Int) 3 w3.heap.size w6 (.slice (some pb) 0 0) [] := ((BufL.new (css := []) (xs := ([] : List Int)) h6 (Ext.refl _) (Cs.nil _) (by simp)).o).mono x5.size
  (repeat with_reducible first | refine js ?_ | refine ja ?_ | refine jw KL20 [] TF20 fun _ => ?_)
  refine Run_loopV [10, 11, 13, 14, 16, 17, 32, 47, 50] (σ := Nat × List Int × Value) (fun q => [(14, some (.int .i64 q.1)), (13, some q.2.2)]) (fun q w' => q.1 ≤ p.Runs.length ∧ Ext w3 w' ∧ BufO (α := Int) 3 w3.heap.size w' q.2.2 q.2.1 ∧ Rp.weakF t f l covers p q.1 (p.Runs.length - q.1) q.2.1 = Rp.weak t f l covers p ∧ q.2.1.length ≤ q.1) (fun q => p.Runs.length - q.1) (0, [], .slice (some pb) 0 0) (by simp [SubB, fnd]) ⟨by simp, x5.trans h6.ext, B6, by rw [hm, Nat.sub_zero], by simp⟩ ?_
  rintro ⟨q, a, vb⟩ w7 ⟨hq, x7, B7, hf, ha⟩
  simp only at hq x7 B7 hf ha
  have p7 := P w7 x7
  (repeat with_reducible first | refine js ?_ | refine ja ?_ | refine jw KL20 [] (aa TF20 (aa p7 (aa rs rl))) fun _ => ?_)
  refine Run_condS (fun _ => rfl) (fun h => ?_) (fun h => ?_)
  · simp at h
    have hql : q < p.Runs.length := by omega
    have hqc : (q : Int) < p.Runs.length := by omega
    clear h
    rw [Rp.weakF_step hql] at hf
    have t7 := T w7 x7
    have f7 := F w7 x7
    have y7 := x3.trans x7
    (repeat with_reducible first | refine js ?_ | refine ja ?_ | refine jw KL20 [] (aa TF20 (aa t7 (aa f7 p7))) fun _ => ?_)
    refine CallW_gen call17 (rfRepair24 vl u0 u1 u2 vo v0 v1 v2 t f l covers p q w7 (hl.ext y7) (hT.ext y7) (ho.ext y7) (hP.ext y7)) fun e w8 ⟨b0, b1, b2, he8, x8, P8⟩ => ⟨_, he8, ?_⟩
    generalize Rp.repair t f l covers p q = res at *
    (repeat with_reducible first | refine js ?_ | refine ja ?_ | refine jw KL20 [] TF20 fun _ => ?_)
    refine SemW_allocT ti32 fun px w9 h9 => ?_
    have b9 := h9.blk
    refine SemW_setW (by rw [cells32]; decide) (by rw [cells32]; rfl) h9.row (by rw [cells32]; rfl) (by simp [Value.cells, PlanD.cs, isS_o P8.r.s, isS_o P8.o.s, isS_o P8.c.s]) fun w10 r10 k10 z10 => ?_
    have x710 : Ext w7 w10 := Keep.ext (x8.trans h9.ext) k10 fun b hb => by have := x8.size; omega
    have x10 := x7.trans x710
    have B10 := B7.keepQ (Keep.of_ext (S := fun _ => True) x710) fun _ _ => trivial
    (repeat with_reducible first | refine js ?_ | refine ja ?_ | refine jw KL20 [] TF20 fun _ => ?_)
    refine Run_condS (fun _ => rfl) (fun h => ?_) (fun h => ?_)
    · have he2 : res.2.2 ≠ 0 := by simpa using h
      rw [if_pos he2] at hf
      (repeat with_reducible first | refine js ?_ | refine ja ?_ | refine jw KL20 [] TF20 fun _ => ?_)
      refine Run_ret ?_
      simp only [Rets, RetM, resV, fnd, oneOr, ↓reduceIte, KS, Nat.reduceAdd, Nat.reduceMul, Nat.reduceEqDiff, ↓reduceIte, UT]
      refine ⟨_, rfl, _, rfl, ?_⟩
      rw [← hf]
      exact ⟨.slice none 0 0, rfl, x3.trans x10, Sl.nil _⟩
    have he2 : res.2.2 = 0 := by simpa using h
    clear h
    rw [if_neg (by simp [he2])] at hf
    obtain ⟨_, ok, _⟩ := res
    simp only at hf he2
    cases ok with
    | true =>
      (repeat with_reducible first | refine js ?_ | refine ja ?_ | refine jw KL20 [] (aa TF20 KX) fun _ => ?_)
      refine Run_condS (fun _ => rfl) (fun h => by cases h) (fun _ => ?_)
      (repeat with_reducible first | refine js ?_ | refine ja ?_ | refine jw KL20 [] TF20 fun _ => ?_)
      exact Run_lp ⟨(q + 1, a, vb), by simp [SubB, fnd, strike, has], ⟨by show q + 1 ≤ p.Runs.length; omega, x10, B10, by simpa using hf, by show a.length ≤ q + 1; omega⟩, by show p.Runs.length - (q + 1) < p.Runs.length - q; omega⟩
    | false =>
      (repeat with_reducible first | refine js ?_ | refine ja ?_ | refine jw KL20 [] (aa TF20 KX) fun _ => ?_)
      refine Run_condS (fun _ => rfl) (fun _ => ?_) (fun h => by cases h)
      (repeat with_reducible first | refine js ?_ | refine ja ?_ | refine jw KL20 [] TF20 fun _ => ?_)
      refine SemW_append1Q (α := Int) Tryz.underlying25 ti3 rfl (by decide) B10 x10.size (x := (q : Int)) ⟨rfl, by unfold I64; omega⟩ (by simp only [maxLen]; omega) fun _ v12 w12 b12 k12 g12 => ?_
      (repeat with_reducible first | refine js ?_ | refine ja ?_ | refine jw KL20 [] TF20 fun _ => ?_)
      exact Run_lp ⟨(q + 1, a ++ [(q : Int)], v12), by simp [SubB, fnd, strike, has], ⟨by show q + 1 ≤ p.Runs.length; omega, Keep.ext x10 k12 fun b hb e => by have := (B10.own_lt e.symm).1; omega, b12, by simpa using hf, by show (a ++ [(q : Int)]).length ≤ q + 1; simp; omega⟩, by show p.Runs.length - (q + 1) < p.Runs.length - q; omega⟩
  · simp at h
    obtain rfl : q = p.Runs.length := by omega
    rw [Nat.sub_self] at hf
    have hf : (a, (0 : Int)) = Rp.weak t f l covers p := hf
    (repeat with_reducible first | refine js ?_ | refine ja ?_ | refine jw KL20 [] TF20 fun _ => ?_)
    refine Run_ret ?_
    simp only [Rets, RetM, resV, fnd, oneOr, ↓reduceIte, KS, Nat.reduceAdd, Nat.reduceMul, Nat.reduceEqDiff, ↓reduceIte, UT]
    refine ⟨_, rfl, _, rfl, ?_⟩
    rw [← hf]
    exact ⟨vb, rfl, x3.trans x7, B7.sl (by omega)⟩
end Go.Proofs.YtbfhenoiienghaaGreat
