import Derived.Test.YthengmdnikaooaaGreatQgX22c
import Derived.Test.YthengmdnikaooaaGreatQgGb
import Derived.Test.YthengmdnikaooaaGreatQgGe
import Derived.Test.YthengmdnikaooaaGreatQgG3
namespace Go.Proofs.YthengmdnikaooaaGreat
open Go Go.Fk
set_option linter.unusedSimpArgs false
set_option linter.unusedVariables false
set_option maxRecDepth 100000
set_option maxHeartbeats 4000000 in
theorem lawNone22 (vl : Value) (t : TimeD) (f : TariffD) (u0 u1 u2 vo : Value) (l : List OrderD) (o : OrderD) (g : Value) (a covers : Int) (w : World) (hl : Sl w vl t.Lines) (hT : TarR w f u0 u1 u2) (ho : Sl w vo l) (hO : OrdR w o g) (ha : 0 ≤ a ∧ a ≤ 255) (hcv : I64 covers) (hbd : l.length * 104 ≤ 140737488351232) :
    Calls Tryz.prog 10 #[.agg (t.cs vl).toArray, .agg (f.cs u0 u1 u2).toArray, vo, .agg (o.cs g).toArray, .int .u8 a, .int .i64 covers] w fun e w' => Yes22 e ∧ Ext w w' := by
  have hol := ho.len
  refine Calls_of_Run (args := [.agg (t.cs vl).toArray, .agg (f.cs u0 u1 u2).toArray, vo, .agg (o.cs g).toArray, .int .u8 a, .int .i64 covers]) (n := 113) (rs := [.tmp 12]) Tryz.func10 rfl rfl rfl (by simp) ?_
  (repeat with_reducible first | refine js ?_ | refine ja ?_ | refine jw KL10 [] TF10 fun _ => ?_)
  refine SemW_box fun pt w1 h1 => SemW_box fun pf w2 h2 => SemW_box fun po w3 h3 => ?_
  have x3 := h1.ext.trans (h2.ext.trans h3.ext)
  have T : ∀ w', Ext w3 w' → AtN w' pt 0 (t.cs vl) := fun w' x => (h1.at_.ext (h2.ext.trans (h3.ext.trans x))).n
  have F : ∀ w', Ext w3 w' → AtN w' pf 0 (f.cs u0 u1 u2) := fun w' x => (h2.at_.ext (h3.ext.trans x)).n
  have O : ∀ w', Ext w3 w' → AtN w' po 0 (o.cs g) := fun w' x => (h3.at_.ext x).n
  simp only [TimeD.cs, TariffD.cs, OrderD.cs, AtN, KS, Nat.reduceAdd, Nat.reduceMul, Nat.reduceEqDiff, ↓reduceIte, UT] at T F O
  have hone := hO.one
  (repeat with_reducible first | refine js ?_ | refine ja ?_ | refine jw KL10 [] TF10 fun _ => ?_)
  refine sane22W fun w5 x5 => ?_
  have y5 := x3.trans x5
  (repeat with_reducible first | refine js ?_ | refine ja ?_ | refine jw KL10 [] TF10 fun _ => ?_)
  refine Run_condS (fun _ => rfl) (fun h => by cases h) (fun _ => ?_)
  obtain ⟨k, hk, hkl⟩ : ∃ k : Nat, a % ((l.length : Int) + 1) = k ∧ k ≤ l.length := by
    have h1 := Int.emod_nonneg a (show (l.length : Int) + 1 ≠ 0 by omega)
    have h2 := Int.emod_lt_of_pos a (show (0 : Int) < l.length + 1 by omega)
    exact ⟨(a % (l.length + 1)).toNat, by omega, by omega⟩
  have hl0' : (l.length : Int) + 1 ≠ 0 := by omega
  have hsm := ho.small
  (repeat with_reducible first | refine js ?_ | refine ja ?_ | refine jw KL10 [] (aa TF10 (aa hol (aa ho.s (aa hk hl0')))) fun _ => ?_)
  obtain ⟨rs, srs, rr⟩ := (ho.ext y5).rawO
  have hrn := rr.n
  have hcap := srs.cap
  (repeat with_reducible first | refine jq ?_ | refine jk ?_ | refine jc ?_ | refine jl ?_ | refine jb ?_ | refine jo ?_ | refine ji ?_ | refine jx rfl ?_)
  refine Run_cutV [14] (σ := Value) (fun u => [(14, some u)]) (fun u w' => Ext w5 w' ∧ Sl w' u (l.take k ++ [o] ++ l.drop k)) ?_ ?_
  · refine Run_ec (id := 4) KL10 (.first 1 (.first 2 (.first 3 (.first 5 (.first 8 (.first 9 (.first 10 (.alt 0 (.alt 4 (.alt 6 (.alt 7 (.alt 11 (.first 12 .done) .stop) .stop) .stop) (.alt 6 (.alt 4 (.alt 7 (.alt 11 (.first 12 .done) .stop) .stop) .stop) .stop)) (.alt 6 (.alt 0 (.alt 4 (.alt 7 (.alt 11 (.first 12 .done) .stop) .stop) .stop) .stop) .stop))))))))) mixed (by kernel_rfl) (by kernel_rfl) fun w0 x0 _ => ?_
    have z0 := x5.trans x0
    have o0 := O w0 z0
    (try simp (maxSteps := 5000000) only [KS, Nat.reduceAdd, Nat.reduceMul, Nat.reduceEqDiff, ↓reduceIte, forall_const, Int.cast_ofNat_Int, Int.reduceToNat, List.take_succ_cons, List.take_zero, List.drop_succ_cons, List.drop_zero, TF10, KL10, ec, o0, hol, ho.s]); (try simp (disch := omega) only [wrapI, tmodI, tdivI])
    have y0 := y5.trans x0
    have hll : rs.length ≤ slCap vo := hcap
    have sr0 := srs.ext x0
    have s1 := fun w' (x : Ext w0 w') => (sr0.ext x).sub (l := 0) (r := k) (m := slCap vo) (by omega) (by omega) (by omega) (Nat.le_refl _)
    have s2 := fun w' (x : Ext w0 w') => (sr0.ext x).sub (l := k) (r := rs.length) (m := slCap vo) (by omega) (by omega) (by omega) (Nat.le_refl _)
    rw [List.take_length] at s2
    simp only [List.drop_zero] at s1
    rw [hrn] at s2
    have hre : ∀ w', Enc.rep w' (o.cs g) (⟨o.cs g⟩ : RawO) := fun w' => ⟨rfl, rfl, hone⟩
    have hE : ∀ {w' : World} {K : Value → World → Prop}, Ext w0 w' → (∀ p w'', p.block = w'.heap.size → w''.heap.size = w'.heap.size + 1 → Ext w' w'' → Ext w0 w'' → BufL (α := RawO) 30 w0 w'' (.slice (some p) 0 0) [] → K (.slice (some p) 0 0) w'') → SemW Tryz.prog (Instr.buildSlice 35 0 #[]) w' K := fun hx' hK =>
      SemW_buildSlice (vs := []) Tryz.underlying35 ti30 rfl rfl rfl (by simp) (by simp) fun p w'' hN => hK p w'' hN.blk hN.size hN.ext (hx'.trans hN.ext) (BufL.new (css := []) (xs := ([] : List RawO)) hN hx' (Cs.nil _) (by simp))
    have hB : ∀ {w' : World} {K : Value → World → Prop}, Ext w0 w' → (∀ q w'', q.block = w'.heap.size → w''.heap.size = w'.heap.size + 1 → Ext w' w'' → Ext w0 w'' → Row w'' q 30 (o.cs g) → K (.slice (some q) 1 1) w'') → SemW Tryz.prog (Instr.buildSlice 35 1 #[(0, .agg (o.cs g).toArray)]) w' K := fun hx' hK =>
      SemW_buildSlice (vs := [.agg (o.cs g).toArray]) Tryz.underlying35 ti30 rfl rfl rfl (by simp [Value.cells, OrderD.cs]) (by show 1 * 11 ≤ _; decide) fun p w'' hN => hK p w'' hN.blk hN.size hN.ext (hx'.trans hN.ext) (by have := hN.row; simpa [Value.cells] using this)
    have hA1 : ∀ {p : Addr} {u w' : World} {K : Value → World → Prop}, BufL (α := RawO) 30 w0 u (.slice (some p) 0 0) [] → Ext u w' → (∀ v2 w'', BufL (α := RawO) 30 w0 w'' v2 (rs.take k) → Keep (fun b => b ≠ p.block) w' w'' → Ext w0 w'' → K v2 w'') → SemW Tryz.prog (Builtin.append_ #[35, 35] 35 #[.slice (some p) 0 0, slSub 11 vo 0 k (slCap vo)]) w' K := fun hb hu hK =>
      SemW_appendF (α := RawO) Tryz.underlying35 ti30 rfl (by decide) (hb.ext hu) (s1 _ ((hb.ext hu).ext0)) (by simp [maxLen]; omega) fun v2 w'' hb' hg hx' => hK v2 w'' (by simpa using hb') (Keep.grown hg fun b hb1 hb2 => hb2 (by simpa [Value.ownBlock] using hb1.symm)) hx'
    have hA2 : ∀ {v2 : Value} {q : Addr} {w' : World} {K : Value → World → Prop}, BufL (α := RawO) 30 w0 w' v2 (rs.take k) → Row w' q 30 (o.cs g) → (∀ v4 w'', BufL (α := RawO) 30 w0 w'' v4 (rs.take k ++ [⟨o.cs g⟩]) → Ext w0 w'' → K v4 w'') → SemW Tryz.prog (Builtin.append_ #[35, 35] 35 #[v2, .slice (some q) 1 1]) w' K := fun hb hq hK =>
      SemW_appendF (α := RawO) (ys := [⟨o.cs g⟩]) Tryz.underlying35 ti30 rfl (by decide) hb (Row.sl (css := [o.cs g]) (by simpa using hq) (Cs.one (hre _)) (by simp)) (by simp [maxLen]; omega) fun v2 w'' hb' hg hx' => hK v2 w'' hb' hx'
    have hA3 : ∀ {v2 : Value} {w' : World} {K : Value → World → Prop}, BufL (α := RawO) 30 w0 w' v2 (rs.take k ++ [⟨o.cs g⟩]) → (∀ v4 w'', BufL (α := RawO) 30 w0 w'' v4 (rs.take k ++ [⟨o.cs g⟩] ++ rs.drop k) → Ext w0 w'' → K v4 w'') → SemW Tryz.prog (Builtin.append_ #[35, 35] 35 #[v2, slSub 11 vo k l.length (slCap vo)]) w' K := fun hb hK =>
      SemW_appendF (α := RawO) Tryz.underlying35 ti30 rfl (by decide) hb (s2 _ hb.ext0) (by simp [maxLen]; omega) fun v2 w'' hb' hg hx' => hK v2 w'' hb' hx'
    have FIN : ∀ {v4 : Value} {w8 : World}, BufL (α := RawO) 30 w0 w8 v4 (rs.take k ++ [⟨o.cs g⟩] ++ rs.drop k) → Ext w0 w8 → Ext w5 w8 ∧ Sl w8 v4 (l.take k ++ [o] ++ l.drop k) := fun hb hx => ⟨x0.trans hx, (hb.sl (by simp; omega)).unrawO ((((rr.ext (x0.trans hx)).take k).app (RR.one (hO.ext (y0.trans hx)).rep)).app ((rr.ext (x0.trans hx)).drop k))⟩
    refine ⟨⟨by omega, by omega, by omega, fun h => h.elim⟩, ⟨by omega, by omega, fun h => h.elim, fun h => h.elim⟩, Ext.refl _, ?_, ?_⟩
    · refine hE (Ext.refl _) fun p5 w5 b5 z5 x5 y5 hb5 => ⟨y5, ?_, y5, ?_⟩
      · refine hA1 hb5 (Ext.refl _) fun v2 w6 hb6 k6 y6 => ⟨y6, ?_⟩
        refine hB y6 fun q w7 b7 z7 x7 y7 r7 => ⟨y7, ?_⟩
        refine hA2 (hb6.ext x7) r7 fun v3 w8 hb8 y8 => ⟨y8, ?_⟩
        refine hA3 hb8 fun v4 w9 hb9 y9 => ⟨y9, ?_⟩
        exact Run_lp ⟨v4, by simp [SubB, fnd, strike, has], FIN hb9 y9⟩
      · refine hB y5 fun q w7 b7 z7 x7 y7 r7 => ⟨y7, ?_⟩
        refine hA1 hb5 x7 fun v2 w6 hb6 k6 y6 => ⟨y6, ?_⟩
        refine hA2 hb6 (r7.keep k6 (by omega)) fun v3 w8 hb8 y8 => ⟨y8, ?_⟩
        refine hA3 hb8 fun v4 w9 hb9 y9 => ⟨y9, ?_⟩
        exact Run_lp ⟨v4, by simp [SubB, fnd, strike, has], FIN hb9 y9⟩
    · refine ⟨Ext.refl _, ?_⟩
      refine hB (Ext.refl _) fun q w7 b7 z7 x7 y7 r7 => ⟨y7, ?_⟩
      refine hE y7 fun p5 w5 b5 z5 x5 y5 hb5 => ⟨y5, ?_⟩
      refine hA1 hb5 (Ext.refl _) fun v2 w6 hb6 k6 y6 => ⟨y6, ?_⟩
      refine hA2 hb6 ((r7.ext x5).keep k6 (by omega)) fun v3 w8 hb8 y8 => ⟨y8, ?_⟩
      refine hA3 hb8 fun v4 w9 hb9 y9 => ⟨y9, ?_⟩
      exact Run_lp ⟨v4, by simp [SubB, fnd, strike, has], FIN hb9 y9⟩
  rintro va w6 ⟨x6, sa⟩
  have y6 := y5.trans x6
  have z6 := x5.trans x6
  have t6 := T w6 z6
  have f6 := F w6 z6
  generalize hall : l.take k ++ [o] ++ l.drop k = all at *
  have hmo : o ∈ all := by rw [← hall]; simp
  (repeat with_reducible first | refine js ?_ | refine ja ?_ | refine jw KL10 [] (aa TF10 (aa t6 (aa f6 KX))) fun _ => ?_)
  refine few22W (hl.ext y6) (hT.ext y6) (ho.ext y6) fun b1 w7 x7 => ?_
  have y7 := y6.trans x7
  have z7 := z6.trans x7
  have t7 := T w7 z7
  have f7 := F w7 z7
  cases b1 with
  | false =>
    (repeat with_reducible first | refine js ?_ | refine ja ?_ | refine jw KL10 [] (aa TF10 (aa t7 (aa f7 KX))) fun _ => ?_)
    refine .inr ⟨undef, fun w8 x8 => ?_⟩
    unfold hush
    (repeat with_reducible first | refine js ?_ | refine ja ?_ | refine jw KL10 [] (aa TF10 (aa t7 (aa f7 KX))) fun _ => ?_)
    refine .inl ?_
    unfold hush
    (repeat with_reducible first | refine js ?_ | refine ja ?_ | refine jw KL10 [] (aa TF10 (aa t7 (aa f7 KX))) fun _ => ?_)
    refine Run_condS (fun _ => rfl) (fun _ => ?_) (fun h => by cases h)
    (repeat with_reducible first | refine js ?_ | refine ja ?_ | refine jw KL10 [] TF10 fun _ => ?_)
    refine Run_ret ?_
    simp [Rets, RetM, resV, fnd, oneOr]
    exact y7.trans x8
  | true =>
    (repeat with_reducible first | refine js ?_ | refine ja ?_ | refine jw KL10 [] (aa TF10 (aa t7 (aa f7 KX))) fun _ => ?_)
    refine .inl (few22W (hl.ext y7) (hT.ext y7) (sa.ext x7) fun b2 w8 x8 => ?_)
    unfold hush
    have y8 := y7.trans x8
    have z8 := z7.trans x8
    have t8 := T w8 z8
    have f8 := F w8 z8
    (repeat with_reducible first | refine js ?_ | refine ja ?_ | refine jw KL10 [] (aa TF10 (aa t7 (aa f7 (aa t8 (aa f8 KX))))) fun _ => ?_)
    refine .inr ⟨.int .i64 (Pl.err t f l), fun _ => PC_pure call30 fun w9 x9 => rfError22 vl u0 u1 u2 vo t f l w9 (hl.ext (y8.trans x9)) (hT.ext (y8.trans x9)) (ho.ext (y8.trans x9)), fun w9 x9 => ?_⟩
    unfold hush
    have y9 := y8.trans x9
    have z9 := z8.trans x9
    have t9 := T w9 z9
    have f9 := F w9 z9
    (repeat with_reducible first | refine js ?_ | refine ja ?_ | refine jw KL10 [] (aa TF10 (aa t7 (aa f7 (aa t8 (aa f8 KX))))) fun _ => ?_)
    refine Run_condS (fun _ => rfl) (fun h => ?_) (fun h => ?_)
    · (repeat with_reducible first | refine js ?_ | refine ja ?_ | refine jw KL10 [] TF10 fun _ => ?_)
      refine Run_ret ?_
      simp [Rets, RetM, resV, fnd, oneOr, y9]
    have he : Pl.err t f l = 0 := by
      simp only [Bool.or_eq_false_iff, bne_eq_false_iff_eq] at h
      exact h.2
    clear h
    (repeat with_reducible first | refine js ?_ | refine ja ?_ | refine jw KL10 [] (aa TF10 (aa t9 f9)) fun _ => ?_)
    cases hri : Pl.oright o t.Offices 1024 f.Base.length with
    | false =>
      have hm := Pl.make_bad (covers := covers) he hmo hri
      refine plMakeW (hl.ext y9) (hT.ext y9) (sa.ext (x7.trans (x8.trans x9))) hcv hm fun a0 a1 a2 w10 x10 hP => ?_
      (try simp (maxSteps := 5000000) only [KS, Nat.reduceAdd, Nat.reduceMul, Nat.reduceEqDiff, ↓reduceIte, forall_const, Int.cast_ofNat_Int, Int.reduceToNat, List.take_succ_cons, List.take_zero, List.drop_succ_cons, List.drop_zero, TF10, KL10]); (try simp (disch := omega) only [wrapI, tmodI, tdivI])
      refine ⟨by decide, by decide, by decide, ?_⟩
      refine planVar hP fun pp w11 x11 PP => ?_
      have z11 := z9.trans (x10.trans x11)
      have y11 := y9.trans (x10.trans x11)
      have o11 := O w11 z11
      have t11 := T w11 z11
      have f11 := F w11 z11
      (repeat with_reducible first | refine js ?_ | refine ja ?_ | refine jw KL10 [] (aa TF10 (aa o11 (aa t11 (aa f11 (aa hT.b.s hT.b.len))))) fun _ => ?_)
      refine CallW_pure call31 (rfRight18 o g t.Offices 1024 f.Base.length w11 (hO.ext y11)) fun w12 x12 => ?_
      rw [hri]
      (repeat with_reducible first | refine js ?_ | refine ja ?_ | refine jw KL10 [] (aa TF10 KX) fun _ => ?_)
      refine Run_condS (fun _ => rfl) (fun _ => ?_) (fun h => by cases h)
      (repeat with_reducible first | refine js ?_ | refine ja ?_ | refine jw KL10 [] (aa TF10 KX) fun _ => ?_)
      refine Run_ret ?_
      simp [Rets, RetM, resV, fnd, oneOr]
      exact y11.trans x12
    | true =>
      by_cases hg0 : (Pl.options t f o).2 = 0
      · by_cases hx0 : (Pl.options t f o).1 = []
        · obtain ⟨e, hm⟩ := Pl.make_no (t := t) (f := f) (covers := covers) hmo hx0
          refine plMakeW (hl.ext y9) (hT.ext y9) (sa.ext (x7.trans (x8.trans x9))) hcv hm fun a0 a1 a2 w10 x10 hP => ?_
          (try simp (maxSteps := 5000000) only [KS, Nat.reduceAdd, Nat.reduceMul, Nat.reduceEqDiff, ↓reduceIte, forall_const, Int.cast_ofNat_Int, Int.reduceToNat, List.take_succ_cons, List.take_zero, List.drop_succ_cons, List.drop_zero, TF10, KL10]); (try simp (disch := omega) only [wrapI, tmodI, tdivI])
          refine ⟨by decide, by decide, by decide, ?_⟩
          refine planVar hP fun pp w11 x11 PP => ?_
          have z11 := z9.trans (x10.trans x11)
          have y11 := y9.trans (x10.trans x11)
          have o11 := O w11 z11
          have t11 := T w11 z11
          have f11 := F w11 z11
          (repeat with_reducible first | refine js ?_ | refine ja ?_ | refine jw KL10 [] (aa TF10 (aa o11 (aa t11 (aa f11 (aa hT.b.s hT.b.len))))) fun _ => ?_)
          refine CallW_pure call31 (rfRight18 o g t.Offices 1024 f.Base.length w11 (hO.ext y11)) fun w12 x12 => ?_
          rw [hri]
          have z12 := z11.trans x12
          have y12 := y11.trans x12
          have o12 := O w12 z12
          have t12 := T w12 z12
          have f12 := F w12 z12
          (repeat with_reducible first | refine js ?_ | refine ja ?_ | refine jw KL10 [] (aa TF10 KX) fun _ => ?_)
          refine Run_condS (fun _ => rfl) (fun h => by cases h) (fun _ => ?_)
          (repeat with_reducible first | refine js ?_ | refine ja ?_ | refine jw KL10 [] (aa TF10 (aa o12 (aa t12 f12))) fun _ => ?_)
          refine plOptW (hl.ext y12) (hT.ext y12) (hO.ext y12) rfl fun vx w13 x13 sx => ?_
          rw [hg0]
          have lx := sx.len
          rw [hx0] at lx
          obtain ⟨b0, b1, b2, rp, hp⟩ := PP.ext (x12.trans x13)
          have p13 := rp.n
          simp only [AtN, KS, Nat.reduceAdd, Nat.reduceMul, Nat.reduceEqDiff, ↓reduceIte, UT, PlanD.cs] at p13
          simp only [List.length_nil] at lx
          (repeat with_reducible first | refine js ?_ | refine ja ?_ | refine jw KL10 [] (aa TF10 (aa sx.s (aa lx KX))) fun _ => ?_)
          refine Run_condS (fun _ => rfl) (fun h => by simp at h) (fun _ => ?_)
          (repeat with_reducible first | refine js ?_ | refine ja ?_ | refine jw KL10 [] (aa TF10 (aa p13 KX)) fun _ => ?_)
          refine ⟨.agg #[.slice none 0 0, .slice none 0 0, .slice none 0 0], fun _ _ => by kernel_rfl, .bool true, fun _ => PC_pure call20 fun w' x => ?_, fun w14 x14 => ?_⟩
          · have := rfSame22 Pl.noPlan Pl.noPlan b0 b1 b2 (.slice none 0 0) (.slice none 0 0) (.slice none 0 0) w' (hp.ext x) ⟨Sl.nil _, Sl.nil _, Sl.nil _⟩
            rwa [decide_eq_true rfl] at this
          unfold hush
          (repeat with_reducible first | refine js ?_ | refine ja ?_ | refine jw KL10 [] (aa TF10 (aa p13 KX)) fun _ => ?_)
          refine Run_ret ?_
          simp [Rets, RetM, resV, fnd, oneOr]
          exact y12.trans (x13.trans x14)
        · refine plMakeW (hl.ext y9) (hT.ext y9) (sa.ext (x7.trans (x8.trans x9))) hcv rfl fun a0 a1 a2 w10 x10 hP => ?_
          (try simp (maxSteps := 5000000) only [KS, Nat.reduceAdd, Nat.reduceMul, Nat.reduceEqDiff, ↓reduceIte, forall_const, Int.cast_ofNat_Int, Int.reduceToNat, List.take_succ_cons, List.take_zero, List.drop_succ_cons, List.drop_zero, TF10, KL10]); (try simp (disch := omega) only [wrapI, tmodI, tdivI])
          refine ⟨by simp [tpOf], by simp [tpOf], by simp [tpOf], ?_⟩
          refine planVar hP fun pp w11 x11 PP => ?_
          have z11 := z9.trans (x10.trans x11)
          have y11 := y9.trans (x10.trans x11)
          have o11 := O w11 z11
          have t11 := T w11 z11
          have f11 := F w11 z11
          (repeat with_reducible first | refine js ?_ | refine ja ?_ | refine jw KL10 [] (aa TF10 (aa o11 (aa t11 (aa f11 (aa hT.b.s hT.b.len))))) fun _ => ?_)
          refine CallW_pure call31 (rfRight18 o g t.Offices 1024 f.Base.length w11 (hO.ext y11)) fun w12 x12 => ?_
          rw [hri]
          have z12 := z11.trans x12
          have y12 := y11.trans x12
          have o12 := O w12 z12
          have t12 := T w12 z12
          have f12 := F w12 z12
          (repeat with_reducible first | refine js ?_ | refine ja ?_ | refine jw KL10 [] (aa TF10 KX) fun _ => ?_)
          refine Run_condS (fun _ => rfl) (fun h => by cases h) (fun _ => ?_)
          (repeat with_reducible first | refine js ?_ | refine ja ?_ | refine jw KL10 [] (aa TF10 (aa o12 (aa t12 f12))) fun _ => ?_)
          refine plOptW (hl.ext y12) (hT.ext y12) (hO.ext y12) rfl fun vx w13 x13 sx => ?_
          have lx := sx.len
          rw [hg0]
          have hpos : decide (0 < ((Pl.options t f o).1.length : Int)) = true := by
            have := List.length_pos_iff.2 hx0
            simp; omega
          (repeat with_reducible first | refine js ?_ | refine ja ?_ | refine jw KL10 [] (aa TF10 (aa sx.s (aa lx (aa hpos KX)))) fun _ => ?_)
          refine Run_condS (fun _ => rfl) (fun _ => ?_) (fun h => by simp at h)
          (repeat with_reducible first | refine js ?_ | refine ja ?_ | refine jw KL10 [] (aa TF10 KX) fun _ => ?_)
          refine Run_ret ?_
          simp [Rets, RetM, resV, fnd, oneOr]
          exact y12.trans x13
      · obtain ⟨e, hm, he0⟩ := Pl.make_opt (t := t) (f := f) (covers := covers) hmo hg0
        refine plMakeW (hl.ext y9) (hT.ext y9) (sa.ext (x7.trans (x8.trans x9))) hcv hm fun a0 a1 a2 w10 x10 hP => ?_
        (try simp (maxSteps := 5000000) only [KS, Nat.reduceAdd, Nat.reduceMul, Nat.reduceEqDiff, ↓reduceIte, forall_const, Int.cast_ofNat_Int, Int.reduceToNat, List.take_succ_cons, List.take_zero, List.drop_succ_cons, List.drop_zero, TF10, KL10]); (try simp (disch := omega) only [wrapI, tmodI, tdivI])
        refine ⟨by decide, by decide, by decide, ?_⟩
        refine planVar hP fun pp w11 x11 PP => ?_
        have z11 := z9.trans (x10.trans x11)
        have y11 := y9.trans (x10.trans x11)
        have o11 := O w11 z11
        have t11 := T w11 z11
        have f11 := F w11 z11
        (repeat with_reducible first | refine js ?_ | refine ja ?_ | refine jw KL10 [] (aa TF10 (aa o11 (aa t11 (aa f11 (aa hT.b.s hT.b.len))))) fun _ => ?_)
        refine CallW_pure call31 (rfRight18 o g t.Offices 1024 f.Base.length w11 (hO.ext y11)) fun w12 x12 => ?_
        rw [hri]
        have z12 := z11.trans x12
        have y12 := y11.trans x12
        have o12 := O w12 z12
        have t12 := T w12 z12
        have f12 := F w12 z12
        (repeat with_reducible first | refine js ?_ | refine ja ?_ | refine jw KL10 [] (aa TF10 KX) fun _ => ?_)
        refine Run_condS (fun _ => rfl) (fun h => by cases h) (fun _ => ?_)
        (repeat with_reducible first | refine js ?_ | refine ja ?_ | refine jw KL10 [] (aa TF10 (aa o12 (aa t12 f12))) fun _ => ?_)
        refine plOptW (hl.ext y12) (hT.ext y12) (hO.ext y12) rfl fun vx w13 x13 sx => ?_
        have lx := sx.len
        have hb1 : ((Pl.options t f o).2 != 0) = true := by simpa using hg0
        have hb2 : ((Pl.options t f o).2 == 0) = false := by simpa using hg0
        have hb3 : (e != 0) = true := by simpa using he0
        (repeat with_reducible first | refine js ?_ | refine ja ?_ | refine jw KL10 [] (aa TF10 (aa sx.s (aa lx (aa hb1 KX)))) fun _ => ?_)
        refine Run_condS (fun _ => rfl) (fun _ => ?_) (fun h => by simp at h)
        (repeat with_reducible first | refine js ?_ | refine ja ?_ | refine jw KL10 [] (aa TF10 (aa hb2 (aa hb3 KX))) fun _ => ?_)
        refine Run_ret ?_
        simp [Rets, RetM, resV, fnd, oneOr]
        exact y12.trans x13
end Go.Proofs.YthengmdnikaooaaGreat
