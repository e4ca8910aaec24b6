import Derived.Test.YtldjfebokojmfaaGreatRgW20x
import Derived.Test.YtldjfebokojmfaaGreatRgGp
import Derived.Test.YtldjfebokojmfaaGreatRgGe
import Derived.Test.YtldjfebokojmfaaGreatRgG1
import Derived.Test.YtldjfebokojmfaaGreatRgGb
namespace Go.Proofs.YtldjfebokojmfaaGreat
open Go Go.Fk
set_option linter.unusedSimpArgs false
set_option linter.unusedVariables false
set_option maxRecDepth 100000
def BV (w : World) (v : Value) (b : Bool) : Prop := ∀ w1, Ext w w1 → ∀ K : Value → World → Prop, (∀ w', Ext w1 w' → K (.bool b) w') → CallW Tryz.prog v [] w1 K
theorem BV.ext {w w' : World} {v : Value} {b : Bool} (h : BV w v b) (hx : Ext w w') : BV w' v b := fun w1 x1 => h w1 (hx.trans x1)
def BVs (w : World) : List Value → List Bool → Prop
  | [], [] => True
  | v :: vs, b :: bs => BV w v b ∧ v.cells = #[v] ∧ BVs w vs bs
  | _, _ => False
theorem BVs.ext {w w' : World} (hx : Ext w w') : ∀ {vs : List Value} {bs : List Bool}, BVs w vs bs → BVs w' vs bs
  | [], [], _ => trivial
  | v :: vs, b :: bs, h => ⟨h.1.ext hx, h.2.1, BVs.ext hx h.2.2⟩
theorem BVs.get {w : World} : ∀ {vs : List Value} {bs : List Bool}, BVs w vs bs → vs.length = bs.length ∧ ∀ k (h : k < vs.length) (h' : k < bs.length), BV w vs[k] bs[k]
  | [], [], _ => ⟨rfl, fun k h => by simp at h⟩
  | v :: vs, b :: bs, h => by
    obtain ⟨h1, h2⟩ := BVs.get h.2.2
    refine ⟨by simp [h1], fun k hk hk' => ?_⟩
    cases k with
    | zero => exact h.1
    | succ k => exact h2 k (by simpa using hk) (by simpa using hk')
theorem BVs.cells {w : World} : ∀ {vs : List Value} {bs : List Bool}, BVs w vs bs → (vs.flatMap fun v => v.cells.toList) = vs ∧ ∀ v ∈ vs, v.cells.size = 1
  | [], [], _ => ⟨rfl, by simp⟩
  | v :: vs, b :: bs, h => by
    obtain ⟨h1, h2⟩ := BVs.cells h.2.2
    refine ⟨by rw [List.flatMap_cons, h1, h.2.1]; rfl, fun x hx => ?_⟩
    rcases List.mem_cons.1 hx with rfl | hx
    · rw [h.2.1]; rfl
    · exact h2 x hx
theorem ordB (px pn : Addr) (x n : Int) (w : World) (h1 : At w px [.int .i64 x]) (h2 : At w pn [.int .i64 n]) :
    Calls Tryz.prog 101 #[.pointer (some px), .pointer (some pn)] w fun e w' => e = .returned (.bool (decide (0 ≤ x ∧ x < n))) ∧ Ext w w' := by
  have g1 := h1.n
  have g2 := h2.n
  simp only [AtN, KS, Nat.reduceAdd, Nat.reduceMul, Nat.reduceEqDiff, ↓reduceIte, UT] at g1 g2
  refine Calls_of_Run (args := [.pointer (some px), .pointer (some pn)]) (n := 10) (rs := [.tmp 2]) Tryz.func101 rfl rfl rfl (by simp) ?_
  (repeat with_reducible first | refine jy ?_ | refine jw KL101 [] (aa TF101 (aa g1 g2)) fun _ => ?_)
  refine Run_ret ?_
  simp [Rets, RetM, resV, fnd, oneOr, Ext.refl]
theorem ordBelow (x n : Int) (w : World) : Calls Tryz.prog 100 #[.int .i64 x, .int .i64 n] w fun e w' => ∃ px pn, e = .returned (.func (.func 101) #[] #[.pointer (some px), .pointer (some pn)]) ∧ Ext w w' ∧ At w' px [.int .i64 x] ∧ At w' pn [.int .i64 n] := by
  refine Calls_of_Run (args := [.int .i64 x, .int .i64 n]) (n := 6) (rs := [.tmp 4]) Tryz.func100 rfl rfl rfl (by simp) ?_
  (repeat with_reducible first | refine jy ?_ | refine jw KL100 [] TF100 fun _ => ?_)
  refine SemW_box fun p w1 h1 => SemW_box fun q w2 h2 => ?_
  (repeat with_reducible first | refine jy ?_ | refine jw KL100 [] TF100 fun _ => ?_)
  refine Run_ret ?_
  simp [Rets, RetM, resV, fnd, oneOr]
  exact ⟨p, q, ⟨rfl, rfl⟩, h1.ext.trans h2.ext, h1.at_.ext h2.ext, h2.at_⟩
theorem belW {x n : Int} {w : World} {K : Value → World → Prop} (hK : ∀ v w', Ext w w' → BV w' v (decide (0 ≤ x ∧ x < n)) → v.cells = #[v] → K v w') : CallW Tryz.prog (.func (.func 100) #[] #[]) [.int .i64 x, .int .i64 n] w K :=
  CallW_gen call100 (ordBelow x n w) fun e w' ⟨px, pn, he, hx, a1, a2⟩ => ⟨_, he, hK _ w' hx (fun w1 x1 K' hK' => CallW_cap (args := []) (cap := [.pointer (some px), .pointer (some pn)]) call101 (ordB px pn x n w1 (a1.ext x1) (a2.ext x1)) hK') rfl⟩
theorem ordNe (po : Addr) (o : OrderD) (v0 : Value) (w : World) (h : At w po (o.cs v0)) :
    Calls Tryz.prog 102 #[.pointer (some po)] w fun e w' => e = .returned (.bool (decide (o.From ≠ o.Dest))) ∧ Ext w w' := by
  have g := h.n
  simp only [OrderD.cs, AtN, KS, Nat.reduceAdd, Nat.reduceMul, Nat.reduceEqDiff, ↓reduceIte, UT] at g
  refine Calls_of_Run (args := [.pointer (some po)]) (n := 7) (rs := [.tmp 1]) Tryz.func102 rfl rfl rfl (by simp) ?_
  (repeat with_reducible first | refine jy ?_ | refine jw KL102 [] (aa TF102 g) fun _ => ?_)
  refine Run_ret ?_
  simp [Rets, RetM, resV, fnd, oneOr, Ext.refl]
  rw [Bool.eq_iff_iff]; simp
theorem ordAg (po pn : Addr) (o : OrderD) (n : Int) (v0 : Value) (w : World) (h : At w po (o.cs v0)) (hn : At w pn [.int .i64 n]) (hs : Sl w v0 o.Against) :
    Calls Tryz.prog 103 #[.pointer (some po), .pointer (some pn)] w fun e w' => e = .returned (.bool (Pl.agF n (-1) o.Against)) ∧ Ext w w' := by
  have hl := hs.small
  refine Calls_of_Run (args := [.pointer (some po), .pointer (some pn)]) (n := 23) (rs := [.tmp 2]) Tryz.func103 rfl rfl rfl (by simp) ?_
  have g := h.n
  simp only [OrderD.cs, AtN, KS, Nat.reduceAdd, Nat.reduceMul, Nat.reduceEqDiff, ↓reduceIte, UT] at g
  (repeat with_reducible first | refine jy ?_ | refine jw KL103 [] (aa TF103 (aa g (aa hs.s hs.len))) fun _ => ?_)
  refine Run_loopV [2, 3, 5, 9, 10, 20] (σ := Nat × Int) (fun s => [(9, some (.int .i64 s.1)), (3, some (.int .i64 s.2))]) (fun s w' => s.1 ≤ o.Against.length ∧ I64 s.2 ∧ Pl.agF n (-1) o.Against = Pl.agF n s.2 (o.Against.drop s.1) ∧ Ext w w') (fun s => o.Against.length - s.1) (0, -1) (by simp [SubB, fnd]) ⟨by simp, by simp [I64], by simp, Ext.refl _⟩ ?_
  rintro ⟨k, la⟩ w1 ⟨hk, hI, hf, x1⟩
  simp only at hk hI hf
  (repeat with_reducible first | refine jy ?_ | refine jw KL103 [] TF103 fun _ => ?_)
  refine Run_condS (fun _ => rfl) (fun h => ?_) (fun h => ?_)
  · simp at h
    have hkl := h
    obtain ⟨f1, f2, f3⟩ := (hs.ext x1).get hkl
    have gn := (hn.ext x1).n
    simp only [AtN, KS, Nat.reduceAdd, Nat.reduceMul, Nat.reduceEqDiff, ↓reduceIte, UT] at gn
    rw [Pl.agF_drop hkl] at hf
    (repeat with_reducible first | refine jy ?_ | refine jw KL103 [] (aa TF103 (aa hs.s (aa hs.len (aa f1 (aa f2 gn))))) fun _ => ?_)
    refine Run_condS (fun _ => rfl) (fun h => ?_) (fun h => ?_)
    · (repeat with_reducible first | refine jy ?_ | refine jw KL103 [] TF103 fun _ => ?_)
      refine Run_ret ?_
      have : Pl.agF n (-1) o.Against = false := by
        rw [hf]
        rw [Bool.and_eq_false_iff]; left
        simp at h ⊢; omega
      simp [Rets, RetM, resV, fnd, oneOr, this, x1]
    · (repeat with_reducible first | refine jy ?_ | refine jw KL103 [] TF103 fun _ => ?_)
      refine Run_lp ⟨(k + 1, o.Against[k]), ?_, ⟨by simp only; omega, f3, ?_, x1⟩, by simp only; omega⟩
      · simp [SubB, fnd, strike, has]
      · rw [hf]
        have : decide (la < o.Against[k] ∧ o.Against[k] < n) = true := by simp at h ⊢; omega
        rw [this, Bool.true_and]
  · simp at h
    obtain rfl : k = o.Against.length := by omega
    rw [List.drop_length] at hf
    (repeat with_reducible first | refine jy ?_ | refine jw KL103 [] TF103 fun _ => ?_)
    refine Run_ret ?_
    simp [Rets, RetM, resV, fnd, oneOr, hf, Pl.agF, x1]
theorem oright_all (o : OrderD) (n p c : Int) (hc : I64 o.Crowd) : Pl.oright o n p c = ([decide (0 ≤ o.From ∧ o.From < n), decide (0 ≤ o.Dest ∧ o.Dest < n), decide (0 ≤ o.Person ∧ o.Person < p), decide (0 ≤ o.Class ∧ o.Class < c), decide (0 ≤ o.After ∧ o.After < o.By), decide (0 ≤ o.By ∧ o.By < 2097152), decide (0 ≤ IntKind.i64.wrap (o.Crowd - 1) ∧ IntKind.i64.wrap (o.Crowd - 1) < 64), decide (0 ≤ o.Pay ∧ o.Pay < 1099511627777), decide (0 ≤ o.Else ∧ o.Else < 3), decide (o.From ≠ o.Dest), Pl.agF n (-1) o.Against] : List Bool).all id := by
  have hw : (0 ≤ IntKind.i64.wrap (o.Crowd - 1) ∧ IntKind.i64.wrap (o.Crowd - 1) < 64) ↔ (1 ≤ o.Crowd ∧ o.Crowd ≤ 64) := by
    unfold I64 at hc
    by_cases h : o.Crowd = -9223372036854775808
    · rw [h]
      have : IntKind.i64.wrap (-9223372036854775808 - 1) = 9223372036854775807 := by decide
      rw [this]; omega
    · rw [wrapI (by omega) (by omega)]; omega
  unfold Pl.oright Pl.oNum
  simp only [List.all_cons, List.all_nil, Bool.and_true, id, hw]
  rw [Bool.eq_iff_iff]
  simp only [Bool.and_eq_true, decide_eq_true_eq]
  constructor
  · rintro ⟨⟨h1, h2, h3, h4, h5, h6, h7, h8, h9, h10⟩, h11⟩
    exact ⟨h1, h2, h3, h4, h5, ⟨by omega, h6⟩, h7, by omega, by omega, h10, h11⟩
  · rintro ⟨h1, h2, h3, h4, h5, h6, h7, h8, h9, h10, h11⟩
    exact ⟨⟨h1, h2, h3, h4, h5, h6.2, h7, by omega, by omega, h10⟩, h11⟩
theorem ordRight (o : OrderD) (v0 : Value) (n p c : Int) (w : World) (hO : OrdR w o v0) :
    Calls Tryz.prog 65 #[.agg (o.cs v0).toArray, .int .i64 n, .int .i64 p, .int .i64 c] w fun e w' => e = .returned (.bool (Pl.oright o n p c)) ∧ Ext w w' := by
  refine Calls_of_Run (args := [.agg (o.cs v0).toArray, .int .i64 n, .int .i64 p, .int .i64 c]) (n := 67) (rs := [.tmp 8]) Tryz.func65 rfl rfl rfl (by simp) ?_
  (repeat with_reducible first | refine jy ?_ | refine jw KL65 [] TF65 fun _ => ?_)
  refine SemW_box fun po w1 h1 => SemW_box fun pn w2 h2 => ?_
  have x2 := h1.ext.trans h2.ext
  have O : ∀ w', Ext w2 w' → AtN w' po 0 (o.cs v0) := fun w' x => (h1.at_.ext (h2.ext.trans x)).n
  have N : ∀ w', Ext w2 w' → AtN w' pn 0 [.int .i64 n] := fun w' x => (h2.at_.ext x).n
  have aO := h1.at_.ext h2.ext
  have aN := h2.at_
  simp only [OrderD.cs, AtN, KS, Nat.reduceAdd, Nat.reduceMul, Nat.reduceEqDiff, ↓reduceIte, UT] at O N
  (repeat with_reducible first | refine jy ?_ | refine jw KL65 [] TF65 fun _ => ?_)
  (repeat with_reducible refine js ?_)
  refine Run_ec (id := 2) KL65 (.first 0 (.first 1 (.first 2 (.first 3 (.first 5 (.first 6 (.first 7 (.first 8 (.first 10 (.first 11 (.first 12 (.first 13 (.first 15 (.first 16 (.first 17 (.first 18 (.first 20 (.first 21 (.first 22 (.first 23 (.first 24 (.first 26 (.first 27 (.first 28 (.first 30 (.first 31 (.first 32 (.first 33 (.first 35 (.first 36 (.first 37 (.first 39 (.first 40 (.first 41 (.first 43 (.first 44 (.first 47 (.alt 4 (.alt 9 (.alt 14 (.alt 19 (.alt 25 (.alt 29 (.alt 34 (.alt 38 (.alt 42 (.alt 45 (.first 46 .done) .stop) .stop) .stop) .stop) .stop) .stop) .stop) .stop) .stop) .stop)))))))))))))))))))))))))))))))))))))) mixed (by kernel_rfl) (by kernel_rfl) fun w3 x3 _ => ?_
  have o3 := O w3 x3
  have n3 := N w3 x3
  (try simp (maxSteps := 5000000) only [KS, Nat.reduceAdd, Nat.reduceMul, Nat.reduceEqDiff, ↓reduceIte, forall_const, Int.cast_ofNat_Int, Int.reduceToNat, List.take_succ_cons, List.take_zero, List.drop_succ_cons, List.drop_zero, TF65, KL65, ec, o3, n3]); (try simp (disch := omega) only [wrapI, tmodI, tdivI])
  refine ⟨Ext.refl _, ?_⟩
  refine belW fun c0 w4 x4 q0 s0 => ⟨?_, ?_⟩
  · exact x4
  have y4 : Ext w3 w4 := x4
  refine belW fun c1 w5 x5 q1 s1 => ⟨?_, ?_⟩
  · exact y4.trans x5
  have y5 : Ext w3 w5 := y4.trans x5
  refine belW fun c2 w6 x6 q2 s2 => ⟨?_, ?_⟩
  · exact y5.trans x6
  have y6 : Ext w3 w6 := y5.trans x6
  refine belW fun c3 w7 x7 q3 s3 => ⟨?_, ?_⟩
  · exact y6.trans x7
  have y7 : Ext w3 w7 := y6.trans x7
  refine belW fun c4 w8 x8 q4 s4 => ⟨?_, ?_⟩
  · exact y7.trans x8
  have y8 : Ext w3 w8 := y7.trans x8
  refine belW fun c5 w9 x9 q5 s5 => ⟨?_, ?_⟩
  · exact y8.trans x9
  have y9 : Ext w3 w9 := y8.trans x9
  refine belW fun c6 w10 x10 q6 s6 => ⟨?_, ?_⟩
  · exact y9.trans x10
  have y10 : Ext w3 w10 := y9.trans x10
  refine belW fun c7 w11 x11 q7 s7 => ⟨?_, ?_⟩
  · exact y10.trans x11
  have y11 : Ext w3 w11 := y10.trans x11
  refine belW fun c8 w12 x12 q8 s8 => ⟨?_, ?_⟩
  · exact y11.trans x12
  have y12 : Ext w3 w12 := y11.trans x12
  have z11 := x12
  have z10 := x11.trans z11
  have z9 := x10.trans z10
  have z8 := x9.trans z9
  have z7 := x8.trans z8
  have z6 := x7.trans z7
  have z5 := x6.trans z6
  have z4 := x5.trans z5
  let vs : List Value := [c0, c1, c2, c3, c4, c5, c6, c7, c8, (.func (.func 102) #[] #[.pointer (some po)]), (.func (.func 103) #[] #[.pointer (some po), .pointer (some pn)])]
  have X12 := x3.trans y12
  have B12 : BVs w12 vs [decide (0 ≤ o.From ∧ o.From < n), decide (0 ≤ o.Dest ∧ o.Dest < n), decide (0 ≤ o.Person ∧ o.Person < p), decide (0 ≤ o.Class ∧ o.Class < c), decide (0 ≤ o.After ∧ o.After < o.By), decide (0 ≤ o.By ∧ o.By < 2097152), decide (0 ≤ IntKind.i64.wrap (o.Crowd - 1) ∧ IntKind.i64.wrap (o.Crowd - 1) < 64), decide (0 ≤ o.Pay ∧ o.Pay < 1099511627777), decide (0 ≤ o.Else ∧ o.Else < 3), decide (o.From ≠ o.Dest), Pl.agF n (-1) o.Against] :=
    ⟨q0.ext z4, s0, q1.ext z5, s1, q2.ext z6, s2, q3.ext z7, s3, q4.ext z8, s4, q5.ext z9, s5, q6.ext z10, s6, q7.ext z11, s7, q8, s8,
      fun w' x' K hK => CallW_cap (args := []) (cap := [.pointer (some po)]) call102 (ordNe po o v0 w' (aO.ext (X12.trans x'))) hK, rfl,
      fun w' x' K hK => CallW_cap (args := []) (cap := [.pointer (some po), .pointer (some pn)]) call103 (ordAg po pn o n v0 w' (aO.ext (X12.trans x')) (aN.ext (X12.trans x')) (hO.g.ext (x2.trans (X12.trans x')))) hK, rfl, trivial⟩
  obtain ⟨e1, e2⟩ := B12.cells
  have hres := oright_all o n p c hO.i6
  refine SemW_buildSlice (vs := vs) Tryz.underlying155 ti30 rfl rfl rfl e2 (by show 11 * 1 ≤ 16777216; decide) fun ph w13 hB => ⟨by simp, y12.trans hB.ext, ?_⟩
  rw [e1] at hB
  have B13 := B12.ext hB.ext
  generalize hbs : [decide (0 ≤ o.From ∧ o.From < n), decide (0 ≤ o.Dest ∧ o.Dest < n), decide (0 ≤ o.Person ∧ o.Person < p), decide (0 ≤ o.Class ∧ o.Class < c), decide (0 ≤ o.After ∧ o.After < o.By), decide (0 ≤ o.By ∧ o.By < 2097152), decide (0 ≤ IntKind.i64.wrap (o.Crowd - 1) ∧ IntKind.i64.wrap (o.Crowd - 1) < 64), decide (0 ≤ o.Pay ∧ o.Pay < 1099511627777), decide (0 ≤ o.Else ∧ o.Else < 3), decide (o.From ≠ o.Dest), Pl.agF n (-1) o.Against] = bs at *
  have hbl : bs.length = 11 := by rw [← hbs]; rfl
  have hvl : vs.length = 11 := rfl
  obtain ⟨_, G⟩ := B13.get
  have aV := hB.at_
  have X13 := x2.trans (X12.trans hB.ext)
  clear_value vs
  clear B12 B13 e1 e2 q0 q1 q2 q3 q4 q5 q6 q7 q8 O N o3 n3 hbs
  (repeat with_reducible first | refine jy ?_ | refine jw KL65 [] TF65 fun _ => ?_)
  refine Run_loopV [8, 11, 59, 60, 65] (σ := Nat) (fun k => [(59, some (.int .i64 k))]) (fun k w' => k ≤ 11 ∧ (∀ j (h : j < bs.length), j < k → bs[j] = true) ∧ Ext w13 w') (fun k => 11 - k) 0 (by simp [SubB, fnd]) ⟨by omega, by simp, Ext.refl _⟩ ?_
  rintro k w14 ⟨hk, hf, x14⟩
  (repeat with_reducible first | refine jy ?_ | refine jw KL65 [] TF65 fun _ => ?_)
  refine Run_condS (fun _ => rfl) (fun h => ?_) (fun h => ?_)
  · simp at h
    have hkv : k < vs.length := by omega
    have m1 := (aV.ext x14).mem hkv
    have m2 := (aV.ext x14).has hkv
    have hC := (G k hkv (by omega)).ext x14
    (repeat with_reducible first | refine jy ?_ | refine jw KL65 [] (aa TF65 (aa m1 m2)) fun _ => ?_)
    refine hC w14 (Ext.refl _) _ fun w15 x15 => ?_
    (repeat with_reducible first | refine jy ?_ | refine jw KL65 [] TF65 fun _ => ?_)
    refine Run_condS (fun _ => rfl) (fun h => ?_) (fun h => ?_)
    · (repeat with_reducible first | refine jy ?_ | refine jw KL65 [] TF65 fun _ => ?_)
      refine Run_ret ?_
      have : Pl.oright o n p c = false := by
        rw [hres, List.all_eq_false]
        exact ⟨bs[k]'(by omega), List.getElem_mem _, by simpa using h⟩
      simp [Rets, RetM, resV, fnd, oneOr, this]
      exact X13.trans (x14.trans x15)
    · (repeat with_reducible first | refine jy ?_ | refine jw KL65 [] TF65 fun _ => ?_)
      refine Run_lp ⟨k + 1, ?_, ⟨by omega, fun j hj hjk => ?_, x14.trans x15⟩, by omega⟩
      · simp [SubB, fnd, strike, has]
      · by_cases e : j = k
        · subst e; simpa using h
        · exact hf j hj (by omega)
  · simp at h
    obtain rfl : k = 11 := by omega
    (repeat with_reducible first | refine jy ?_ | refine jw KL65 [] TF65 fun _ => ?_)
    refine Run_ret ?_
    have : Pl.oright o n p c = true := by
      rw [hres, List.all_eq_true]
      intro b hb
      obtain ⟨j, hj, rfl⟩ := List.getElem_of_mem hb
      exact hf j hj (by omega)
    simp [Rets, RetM, resV, fnd, oneOr, this]
    exact X13.trans x14
theorem SemW_copyR {P : Program} {w : World} {t t' ty e T : TypeId} {z : Value} {bytes : Nat} (ht : P.underlying t = some (.slice e)) (hT : TI P e z 1 bytes) {p a : Addr} {vs cs : List Value} {o n c m d : Nat} {K : Value → World → Prop} (hg : Row w p T vs) (hn : cs.length = Nat.min m n)
    (hat : At w a cs) (hfit : o + cs.length ≤ vs.length) (h1 : ∀ v ∈ cs, v.oneCell' = true) (hK : ∀ w', Row w' p T (vs.take o ++ cs ++ vs.drop (o + cs.length)) → Keep (fun k => k ≠ p.block) w w' → w'.heap.size = w.heap.size → K (.int .i64 cs.length) w') :
    SemW P (Builtin.copy_ #[t, t'] ty #[.slice (some (p.add o)) n c, .slice (some a) m d]) w K := by
  obtain ⟨i, hi, hz, hsz, hb⟩ := info_parts hT.h
  have hp := hg.p0
  have hpa : p.add o = ⟨p.block, o, none⟩ := by rw [hp, mk_add]
  rw [hpa]
  have hr := run_copy_row (P := P) w t t' ty e p.block o n c a m d vs.toArray T cs ht (by simp [hi, hsz]) hg.heap hn (fun j v hj => hat j v hj) (by simpa using hfit) h1
  exact SemW.of_run hr (hK _ ⟨hp, setRow_heap _ _ _ _ _ _ hg.heap⟩ ⟨rfl, rfl, rfl, by simp, fun k _ hk => setRow_other _ _ _ _ hk⟩ (by simp))
theorem mul64 (c : Nat) (hc : c ≤ 8) (w : World) : Calls Tryz.prog 163 #[.int .u64 1, .int .u64 (c : Int)] w fun e w' => e = .returned (.tuple #[.int .u64 0, .int .u64 (c : Int)]) ∧ Ext w w' := by
  refine Calls_of_Run (args := [.int .u64 1, .int .u64 (c : Int)]) (n := 51) (rs := [.tmp 4, .tmp 5]) Tryz.func163 rfl rfl rfl (by simp) ?_
  have h : c = 0 ∨ c = 1 ∨ c = 2 ∨ c = 3 ∨ c = 4 ∨ c = 5 ∨ c = 6 ∨ c = 7 ∨ c = 8 := by omega
  (repeat with_reducible first | refine jy ?_ | refine jw KL163 [] TF163 fun _ => ?_)
  refine Run_ret ?_
  simp only [Rets, RetM, resV, fnd, oneOr, ↓reduceIte]
  refine ⟨_, rfl, _, rfl, ?_, Ext.refl _⟩
  rcases h with rfl | rfl | rfl | rfl | rfl | rfl | rfl | rfl | rfl <;> rfl
theorem bitsMul (c : Nat) (hc : c ≤ 8) (w : World) : Calls Tryz.prog 160 #[.int .u64 1, .int .u64 (c : Int)] w fun e w' => e = .returned (.tuple #[.int .u64 0, .int .u64 (c : Int)]) ∧ Ext w w' := by
  refine Calls_of_Run (args := [.int .u64 1, .int .u64 (c : Int)]) (n := 30) (rs := [.tmp 4, .tmp 5]) Tryz.func160 rfl rfl rfl (by simp) ?_
  (repeat with_reducible first | refine jy ?_ | refine jw KL160 [] TF160 fun _ => ?_)
  refine Run_cond (b := false) (fun _ => rfl) (fun h => by cases h) (fun _ => ?_)
  (repeat with_reducible first | refine jy ?_ | refine jw KL160 [] TF160 fun _ => ?_)
  refine CallW_pure call163 (mul64 c hc w) fun w1 x1 => ?_
  (repeat with_reducible first | refine jy ?_ | refine jw KL160 [] TF160 fun _ => ?_)
  refine Run_ret ?_
  simp [Rets, RetM, resV, fnd, oneOr, x1]
theorem wrapU {c : Nat} (hc : c ≤ 8) : IntKind.u64.wrap (c : Int) = c ∧ IntKind.i64.wrap (c : Int) = c := by
  have h : c = 0 ∨ c = 1 ∨ c = 2 ∨ c = 3 ∨ c = 4 ∨ c = 5 ∨ c = 6 ∨ c = 7 ∨ c = 8 := by omega
  rcases h with rfl | rfl | rfl | rfl | rfl | rfl | rfl | rfl | rfl <;> exact ⟨rfl, rfl⟩
theorem slRepeat (v : Value) (x : Int) (n : Nat) (h1 : 1 ≤ n) (h8 : n ≤ 8) (w : World) (hx : Sl w v [x]) :
    Calls Tryz.prog 157 #[v, .int .i64 (n : Int)] w fun e w' => ∃ v', e = .returned v' ∧ BufL (α := Int) 3 w w' v' (List.replicate n x) := by
  obtain ⟨f1, f2, f3⟩ := hx.get (i := 0) (by simp)
  simp only [List.getElem_cons_zero, add_zero] at f1 f2 f3
  obtain ⟨u1, u2⟩ := wrapU h8
  have hu1 : IntKind.u64.wrap 1 = 1 := rfl
  have hl : slLen v = 1 := hx.len
  refine Calls_of_Run (args := [v, .int .i64 (n : Int)]) (n := 48) (rs := [.tmp 4]) Tryz.func157 rfl rfl rfl (by simp) ?_
  (repeat with_reducible first | refine jy ?_ | refine jw KL157 [] TF157 fun _ => ?_)
  refine Run_condS (fun _ => rfl) (fun h => ?_) (fun h => ?_)
  · exfalso; simp at h; omega
  (repeat with_reducible first | refine jy ?_ | refine jw KL157 [] (aa TF157 (aa hx.s (aa hl (aa u1 hu1)))) fun _ => ?_)
  refine CallW_pure call160 (bitsMul n h8 w) fun w1 x1 => ?_
  have hd : decide (9223372036854775807 < (n : Int)) = false := by simp; omega
  have hd0 : decide ((0 : Int) < 0) = false := rfl
  (repeat with_reducible first | refine jy ?_ | refine jw KL157 [] (aa TF157 (aa hd (aa hd0 KX))) fun _ => ?_)
  refine Run_condS (fun _ => rfl) (fun h => by cases h) (fun _ => ?_)
  (repeat with_reducible first | refine jy ?_ | refine jw KL157 [] (aa TF157 u2) fun _ => ?_)
  refine SemW_make (n := n) Tryz.underlying25 ti3 (by omega) (by omega) (by unfold maxLen; omega) fun p w2 cs hcs hN hz => ?_
  have e := hz rfl rfl
  subst e
  have e2 : (Value.int .i64 0).cells[0]! = Value.int .i64 0 := rfl
  rw [e2] at hN
  have r2 := hN.row
  have b2 := hN.blk
  have x2 := hN.ext
  obtain ⟨a, c, hv⟩ : ∃ a c, v = .slice (some a) 1 c := by
    rcases hx.s.ex with rfl | ⟨a, n, c, rfl⟩
    · simp at hl
    · simp at hl; subst hl; exact ⟨a, c, rfl⟩
  subst hv
  simp only [slAt_mk] at f1 f2
  (repeat with_reducible first | refine jy ?_ | refine jw KL157 [] TF157 fun _ => ?_)
  have ha : At w2 a [.int .i64 x] := fun j u hj => by
    have hj0 : j = 0 := by have := (List.getElem?_eq_some_iff.1 hj).1; simpa using this
    subst hj0
    simp at hj; subst hj
    rw [add_zero, (x1.trans x2).cell f2]
    simpa using f1
  have hcp := SemW_copyR (P := Tryz.prog) (T := 3) (t := 25) (t' := 25) (ty := 3) Tryz.underlying25 ti3 (o := 0) (n := n) (c := n) (m := 1) (d := c) r2 (cs := [.int .i64 x]) (by simp [Nat.min_def]; omega) ha (by simp; omega) (by simp; rfl)
    (K := fun v w' => v = .int .i64 1 ∧ Row w' p 3 (.int .i64 x :: List.replicate (n - 1) (.int .i64 0)) ∧ Keep (fun k => k ≠ p.block) w2 w') (fun w' r k _ => ⟨rfl, by
      have e : List.take 0 (List.replicate n (Value.int .i64 0)) ++ [Value.int .i64 x] ++ List.drop (0 + [Value.int .i64 x].length) (List.replicate n (Value.int .i64 0)) = .int .i64 x :: List.replicate (n - 1) (.int .i64 0) := by simp
      rw [e] at r; exact r, k⟩)
  rw [add_zero] at hcp
  refine hcp.mono fun v3 w3 ⟨e3, r3, k3⟩ => ?_
  subst e3
  have y3 : Ext w w3 := Keep.ext (x1.trans x2) k3 fun q hq => by have := x1.size; omega
  (repeat with_reducible first | refine jy ?_ | refine jw KL157 [] TF157 fun _ => ?_)
  refine Run_loopV [8, 37] (σ := Nat) (fun k => [(8, some (.int .i64 k))]) (fun k w' => 1 ≤ k ∧ k ≤ n ∧ Row w' p 3 (List.replicate k (.int .i64 x) ++ List.replicate (n - k) (.int .i64 0)) ∧ Ext w w') (fun k => n - k) 1 (by simp [SubB, fnd]) ⟨by omega, by omega, by simpa using r3, y3⟩ ?_
  rintro k w4 ⟨hk1, hkn, r4, y4⟩
  (repeat with_reducible first | refine jy ?_ | refine jw KL157 [] TF157 fun _ => ?_)
  refine Run_condS (fun _ => rfl) (fun h => ?_) (fun h => ?_)
  · simp at h
    have e5 : (k : Int).toNat = k := by omega
    have e6 : (n : Int).toNat = n := by omega
    (repeat with_reducible refine js ?_)
    refine Run_ep (id := 9) [0, 1, 4, 5, 6, 7, 8, 10, 26, 37] (.first 0 (.first 1 (.first 2 (.first 3 (.first 4 (.first 5 (.first 6 (.alt 7 (.first 8 (.first 9 .done)) .stop)))))))) mixed (by kernel_rfl) (by kernel_rfl) fun w5 x5 _ => ?_
    (try simp (maxSteps := 5000000) only [KS, Nat.reduceAdd, Nat.reduceMul, Nat.reduceEqDiff, ↓reduceIte, forall_const, Int.cast_ofNat_Int, Int.reduceToNat, List.take_succ_cons, List.take_zero, List.drop_succ_cons, List.drop_zero, TF157, KL157, slSub, e5, e6]); (try simp (disch := omega) only [wrapI, tmodI, tdivI])
    have r5 := r4.ext x5
    have hne : ¬ n = k := by omega
    have hn0 : ¬ n = 0 := by omega
    rw [if_neg hne, if_neg hn0]
    refine ⟨⟨by omega, by omega, fun h => h.elim, fun h => h⟩, ⟨by omega, by omega, by omega, fun h => h.elim⟩, ?_⟩
    have hrep : (List.replicate k (Value.int .i64 x) ++ List.replicate (n - k) (Value.int .i64 0)).length = n := by simp; omega
    have ha : At w5 p (List.replicate (min k (n - k)) (Value.int .i64 x)) := fun j u hj => by
      have hj' : j < min k (n - k) := by have := (List.getElem?_eq_some_iff.1 hj).1; simpa using this
      refine r5.at_ j u ?_
      rw [List.getElem?_append_left (by simp; omega), List.getElem?_replicate, if_pos (by omega)]
      rw [List.getElem?_replicate, if_pos hj'] at hj
      exact hj
    refine SemW_copyR Tryz.underlying25 ti3 (o := k) (n := n - k) (c := n - k) (m := k - 0) (d := n - 0) r5 (cs := List.replicate (min k (n - k)) (Value.int .i64 x)) (by simp [Nat.min_def]) ha (by simp; omega) (fun v hv => by rw [(List.mem_replicate.1 hv).2]; rfl) fun w6 r6 k6 z6 => ?_
    have hx5 := y4.trans x5
    have y6 : Ext w w6 := Keep.ext hx5 k6 fun q hq => by have := x1.size; omega
    have hm : k + min k (n - k) ≤ n := by omega
    have e7 : (List.replicate k (Value.int .i64 x) ++ List.replicate (n - k) (Value.int .i64 0)).take k ++ List.replicate (min k (n - k)) (Value.int .i64 x) ++ (List.replicate k (Value.int .i64 x) ++ List.replicate (n - k) (Value.int .i64 0)).drop (k + (List.replicate (min k (n - k)) (Value.int .i64 x)).length) = List.replicate (k + min k (n - k)) (.int .i64 x) ++ List.replicate (n - (k + min k (n - k))) (.int .i64 0) := by
      rw [List.take_append_of_le_length (by simp), List.take_of_length_le (by simp), List.drop_append]
      simp only [List.length_replicate, List.drop_replicate]
      rw [List.replicate_append_replicate, show k - (k + min k (n - k)) = 0 by omega, show n - k - (k + min k (n - k) - k) = n - (k + min k (n - k)) by omega]
      simp
    rw [e7] at r6
    have hlen : ((List.replicate (min k (n - k)) (Value.int .i64 x)).length : Int) = (min k (n - k) : Nat) := by simp
    rw [hlen]
    (try simp (maxSteps := 5000000) only [KS, Nat.reduceAdd, Nat.reduceMul, Nat.reduceEqDiff, ↓reduceIte, forall_const, Int.cast_ofNat_Int, Int.reduceToNat, List.take_succ_cons, List.take_zero, List.drop_succ_cons, List.drop_zero, TF157, KL157]); (try simp (disch := omega) only [wrapI, tmodI, tdivI])
    (repeat with_reducible first | refine jy ?_ | refine jw KL157 [] TF157 fun _ => ?_)
    refine Run_lp ⟨k + min k (n - k), ?_, ⟨by omega, hm, r6, y6⟩, by omega⟩
    have e8 : (k : Int) + (min k (n - k) : Nat) = (k + min k (n - k) : Nat) := by omega
    rw [e8]
    simp [SubB, fnd, strike, has]
  · simp at h
    obtain rfl : k = n := by omega
    (repeat with_reducible first | refine jy ?_ | refine jw KL157 [] TF157 fun _ => ?_)
    refine Run_ret ?_
    simp only [Rets, RetM, resV, fnd, oneOr, ↓reduceIte]
    refine ⟨_, rfl, _, rfl, ?_⟩
    rw [Nat.sub_self, List.replicate_zero, List.append_nil] at r4
    refine BufL.back (css := (List.replicate k [Value.int .i64 x])) (rest := []) (cap := k) y4 ⟨by simp, fun i h1 h2 => by simp; exact ⟨rfl, f3⟩⟩ ?_ (by simp) (by simp) (by unfold maxLen; omega) (by simp [Enc.n]) (by simp; have := x1.size; omega)
    have e9 : (List.replicate k [Value.int .i64 x]).flatten ++ [] = List.replicate k (Value.int .i64 x) := by
      rw [List.append_nil]
      have : ∀ j : Nat, (List.replicate j [Value.int .i64 x]).flatten = List.replicate j (Value.int .i64 x) := fun j => by
        induction j with
        | zero => rfl
        | succ j ih => rw [List.replicate_succ, List.flatten_cons, ih]; rfl
      exact this k
    rw [e9]
    exact r4
end Go.Proofs.YtldjfebokojmfaaGreat
