import Derived.Test.YtldjfebokojmfaaGreatRgW22c
import Derived.Test.YtldjfebokojmfaaGreatRgW20x
namespace Go.Proofs.YtldjfebokojmfaaGreat
open Go Go.Fk
set_option linter.unusedSimpArgs false
set_option linter.unusedVariables false
set_option maxRecDepth 100000
abbrev trip (f : TariffD) (u0 u1 u2 : Value) (x : LineD) (l0 l1 l2 l3 : Value) (o : OrderD) (g : Value) (r : RunD) : List Value := f.cs u0 u1 u2 ++ x.cs l0 l1 l2 l3 ++ o.cs g ++ r.cs
structure TripR (w : World) (f : TariffD) (u0 u1 u2 : Value) (x : LineD) (l0 l1 l2 l3 : Value) (o : OrderD) (g : Value) (r : RunD) (n : Int) : Prop where
  t : TarR w f u0 u1 u2
  l : LineR w x l0 l1 l2 l3
  od : OrdR w o g
  k : Tt.LOk x n
  c : 0 ≤ o.Class
theorem TripR.ext {w w' : World} {f : TariffD} {u0 u1 u2 : Value} {x : LineD} {l0 l1 l2 l3 : Value} {o : OrderD} {g : Value} {r : RunD} {n : Int} (h : TripR w f u0 u1 u2 x l0 l1 l2 l3 o g r n) (hx : Ext w w') : TripR w' f u0 u1 u2 x l0 l1 l2 l3 o g r n := ⟨h.t.ext hx, h.l.ext hx, h.od.ext hx, h.k, h.c⟩
section
variable (f : TariffD) (u0 u1 u2 : Value) (x : LineD) (l0 l1 l2 l3 : Value) (o : OrderD) (g : Value) (r : RunD) (n : Int) (w : World) (h : TripR w f u0 u1 u2 x l0 l1 l2 l3 o g r n)
include h
theorem plC1 : Calls Tryz.prog 115 #[.agg (trip f u0 u1 u2 x l0 l1 l2 l3 o g r).toArray] w fun e w' => e = .returned (.bool (Pl.c0 x o)) ∧ Ext w w' := by
  have hc := h.c
  refine Calls_of_Run (args := [.agg (trip f u0 u1 u2 x l0 l1 l2 l3 o g r).toArray]) (n := 12) (rs := [.tmp 2]) Tryz.func115 rfl rfl rfl (by simp) ?_
  (repeat with_reducible first | refine jy ?_ | refine jw KL115 [] TF115 fun _ => ?_)
  refine SemW_box fun p w1 hN => ?_
  have g1 := hN.at_.n
  simp only [trip, TariffD.cs, LineD.cs, OrderD.cs, RunD.cs, AtN, KS, Nat.reduceAdd, Nat.reduceMul, Nat.reduceEqDiff, ↓reduceIte, UT] at g1
  (repeat with_reducible first | refine jy ?_ | refine jw KL115 [] (aa TF115 g1) fun _ => ?_)
  refine Run_ret ?_
  simp [Rets, RetM, resV, fnd, oneOr, hN.ext, Pl.c0]
  first | done | rfl
theorem plC2 : Calls Tryz.prog 116 #[.agg (trip f u0 u1 u2 x l0 l1 l2 l3 o g r).toArray] w fun e w' => e = .returned (.bool (Pl.c1 x o)) ∧ Ext w w' := by
  have h2 := h.k.o2
  have h9 := h.k.o9
  refine Calls_of_Run (args := [.agg (trip f u0 u1 u2 x l0 l1 l2 l3 o g r).toArray]) (n := 28) (rs := [.tmp 2]) Tryz.func116 rfl rfl rfl (by simp) ?_
  (repeat with_reducible first | refine jy ?_ | refine jw KL116 [1] TF116 fun _ => ?_)
  refine SemW_box fun p w1 hN => ?_
  have g1 := hN.at_.n
  simp only [trip, TariffD.cs, LineD.cs, OrderD.cs, RunD.cs, AtN, KS, Nat.reduceAdd, Nat.reduceMul, Nat.reduceEqDiff, ↓reduceIte, UT] at g1
  obtain ⟨a1, a2, a3⟩ := (h.l.o.ext hN.ext).get (i := 0) (by omega)
  obtain ⟨b1, b2, b3⟩ := (h.l.o.ext hN.ext).get (i := x.Offices.length - 1) (by omega)
  rw [add_zero] at a1 a2
  have e1 : ((x.Offices.length : Int) - 1).toNat = x.Offices.length - 1 := by omega
  have q0 : x.Offices[0]'(by omega) = x.Offices.getD 0 0 := by simp [List.getD_eq_getElem?_getD, show 0 < x.Offices.length by omega]
  have q1 : x.Offices[x.Offices.length - 1]'(by omega) = x.Offices.getD (x.Offices.length - 1) 0 := by simp [List.getD_eq_getElem?_getD, show x.Offices.length - 1 < x.Offices.length by omega]
  rw [q0] at a1
  rw [q1] at b1
  have ho := hN.ext
  (repeat with_reducible first | refine jy ?_ | refine jw KL116 [1] (aa TF116 (aa g1 (aa h.l.o.s (aa h.l.o.len (aa a1 (aa a2 (aa b1 (aa b2 e1)))))))) fun _ => ?_)
  intro w2 x2
  refine Run_ret ?_
  simp [Rets, RetM, resV, fnd, oneOr, Pl.c1]
  refine ⟨?_, ho.trans x2⟩
  rw [Bool.eq_iff_iff]; simp
omit h in
theorem plC3 : Calls Tryz.prog 117 #[.agg (trip f u0 u1 u2 x l0 l1 l2 l3 o g r).toArray] w fun e w' => e = .returned (.bool (Pl.c2 o r)) ∧ Ext w w' := by
  refine Calls_of_Run (args := [.agg (trip f u0 u1 u2 x l0 l1 l2 l3 o g r).toArray]) (n := 19) (rs := [.tmp 2]) Tryz.func117 rfl rfl rfl (by simp) ?_
  (repeat with_reducible first | refine jy ?_ | refine jw KL117 [] TF117 fun _ => ?_)
  refine SemW_box fun p w1 hN => ?_
  have g1 := hN.at_.n
  simp only [trip, TariffD.cs, LineD.cs, OrderD.cs, RunD.cs, AtN, KS, Nat.reduceAdd, Nat.reduceMul, Nat.reduceEqDiff, ↓reduceIte, UT] at g1
  (repeat with_reducible first | refine jy ?_ | refine jw KL117 [] (aa TF117 g1) fun _ => ?_)
  refine Run_ret ?_
  simp [Rets, RetM, resV, fnd, oneOr, hN.ext, Pl.c2]
theorem plC4 : Calls Tryz.prog 118 #[.agg (trip f u0 u1 u2 x l0 l1 l2 l3 o g r).toArray] w fun e w' => e = .returned (.bool (Pl.c3 f x o)) ∧ Ext w w' := by
  have h1 := h.k.l1
  have h9 := h.k.o9
  refine Calls_of_Run (args := [.agg (trip f u0 u1 u2 x l0 l1 l2 l3 o g r).toArray]) (n := 26) (rs := [.tmp 2]) Tryz.func118 rfl rfl rfl (by simp) ?_
  (repeat with_reducible first | refine jy ?_ | refine jw KL118 [] TF118 fun _ => ?_)
  refine SemW_box fun p w1 hN => ?_
  have g1 := hN.at_.n
  simp only [trip, TariffD.cs, LineD.cs, OrderD.cs, RunD.cs, AtN, KS, Nat.reduceAdd, Nat.reduceMul, Nat.reduceEqDiff, ↓reduceIte, UT] at g1
  (repeat with_reducible first | refine jy ?_ | refine jw KL118 [] (aa TF118 (aa g1 (aa h.l.l.s h.l.l.len))) fun _ => ?_)
  refine priceW (h.t.ext hN.ext) fun w2 x2 => ?_
  have g2 := (hN.at_.ext x2).n
  simp only [trip, TariffD.cs, LineD.cs, OrderD.cs, RunD.cs, AtN, KS, Nat.reduceAdd, Nat.reduceMul, Nat.reduceEqDiff, ↓reduceIte, UT] at g2
  (repeat with_reducible first | refine jy ?_ | refine jw KL118 [] (aa TF118 g2) fun _ => ?_)
  refine Run_ret ?_
  simp [Rets, RetM, resV, fnd, oneOr, Pl.c3]
  exact hN.ext.trans x2
omit h in
theorem plC5 : Calls Tryz.prog 120 #[.agg (trip f u0 u1 u2 x l0 l1 l2 l3 o g r).toArray] w fun e w' => e = .returned (.bool (Pl.c4 x o)) ∧ Ext w w' := by
  refine Calls_of_Run (args := [.agg (trip f u0 u1 u2 x l0 l1 l2 l3 o g r).toArray]) (n := 10) (rs := [.tmp 2]) Tryz.func120 rfl rfl rfl (by simp) ?_
  (repeat with_reducible first | refine jy ?_ | refine jw KL120 [] TF120 fun _ => ?_)
  refine SemW_box fun p w1 hN => ?_
  have g1 := hN.at_.n
  simp only [trip, TariffD.cs, LineD.cs, OrderD.cs, RunD.cs, AtN, KS, Nat.reduceAdd, Nat.reduceMul, Nat.reduceEqDiff, ↓reduceIte, UT] at g1
  (repeat with_reducible first | refine jy ?_ | refine jw KL120 [] (aa TF120 g1) fun _ => ?_)
  refine Run_ret ?_
  simp [Rets, RetM, resV, fnd, oneOr, hN.ext, Pl.c4]
end
theorem slIndex (v : Value) (xs : List Int) (n : Int) (w : World) (hx : Sl w v xs) : Calls Tryz.prog 147 #[v, .int .i64 n] w fun e w' => e = .returned (.int .i64 (idx n xs 0)) ∧ Ext w w' := by
  have hn := hx.small
  refine Calls_of_Run (args := [v, .int .i64 n]) (n := 19) (rs := [.tmp 4]) Tryz.func147 rfl rfl rfl (by simp) ?_
  (repeat with_reducible first | refine jy ?_ | refine jw KL147 [] (aa TF147 (aa hx.s hx.len)) fun _ => ?_)
  refine Run_loopV [4, 5, 8, 9, 16] (σ := Nat) (fun k => [(8, some (.int .i64 k))]) (fun k w' => k ≤ xs.length ∧ idx n xs 0 = idx n (xs.drop k) k ∧ Ext w w') (fun k => xs.length - k) 0 (by simp [SubB, fnd]) ⟨by omega, by simp, Ext.refl _⟩ ?_
  rintro k w1 ⟨hk, hf, x1⟩
  (repeat with_reducible first | refine jy ?_ | refine jw KL147 [] TF147 fun _ => ?_)
  refine Run_condS (fun _ => rfl) (fun h => ?_) (fun h => ?_)
  · simp at h
    have hkl := h
    obtain ⟨f1, f2, f3⟩ := (hx.ext x1).get hkl
    rw [idx_drop hkl] at hf
    (repeat with_reducible first | refine jy ?_ | refine jw KL147 [] (aa TF147 (aa hx.s (aa hx.len (aa f1 f2)))) fun _ => ?_)
    refine Run_condS (fun _ => rfl) (fun h => ?_) (fun h => ?_)
    · (repeat with_reducible first | refine jy ?_ | refine jw KL147 [] TF147 fun _ => ?_)
      refine Run_ret ?_
      have h' : n = xs[k] := by simpa using h
      rw [if_pos h'.symm] at hf
      simp [Rets, RetM, resV, fnd, oneOr, hf, x1]
    · have h' : ¬ n = xs[k] := by simpa using h
      rw [if_neg (fun e => h' e.symm)] at hf
      (repeat with_reducible first | refine jy ?_ | refine jw KL147 [] TF147 fun _ => ?_)
      refine Run_lp ⟨k + 1, ?_, ⟨by omega, hf, x1⟩, by omega⟩
      simp [SubB, fnd, strike, has]
  · simp at h
    obtain rfl : k = xs.length := by omega
    rw [List.drop_length] at hf
    (repeat with_reducible first | refine jy ?_ | refine jw KL147 [] TF147 fun _ => ?_)
    refine Run_ret ?_
    simp [Rets, RetM, resV, fnd, oneOr, hf, idx, x1]
theorem slContains (v : Value) (xs : List Int) (n : Int) (w : World) (hx : Sl w v xs) : Calls Tryz.prog 124 #[v, .int .i64 n] w fun e w' => e = .returned (.bool (xs.contains n)) ∧ Ext w w' := by
  refine Calls_of_Run (args := [v, .int .i64 n]) (n := 9) (rs := [.tmp 4]) Tryz.func124 rfl rfl rfl (by simp) ?_
  (repeat with_reducible first | refine jy ?_ | refine jw KL124 [] TF124 fun _ => ?_)
  refine CallW_pure call147 (slIndex v xs n w hx) fun w1 x1 => ?_
  (repeat with_reducible first | refine jy ?_ | refine jw KL124 [] TF124 fun _ => ?_)
  refine Run_ret ?_
  have := idx_mem (n := n) (xs := xs) (k := 0) (by omega)
  simp only [Rets, RetM, resV, fnd, oneOr, ↓reduceIte]
  exact ⟨_, rfl, by rw [← this], x1⟩
theorem plC61 (p : Addr) (n : Int) (f : TariffD) (u0 u1 u2 : Value) (x : LineD) (l0 l1 l2 l3 : Value) (o : OrderD) (g : Value) (r : RunD) (w : World) (ha : At w p (trip f u0 u1 u2 x l0 l1 l2 l3 o g r)) (hg : Sl w g o.Against) :
    Calls Tryz.prog 123 #[.int .i64 n, .pointer (some p)] w fun e w' => e = .returned (.bool (!o.Against.contains n)) ∧ Ext w w' := by
  have g1 := ha.n
  simp only [trip, TariffD.cs, LineD.cs, OrderD.cs, RunD.cs, AtN, KS, Nat.reduceAdd, Nat.reduceMul, Nat.reduceEqDiff, ↓reduceIte, UT] at g1
  refine Calls_of_Run (args := [.int .i64 n, .pointer (some p)]) (n := 10) (rs := [.tmp 3]) Tryz.func123 rfl rfl rfl (by simp) ?_
  (repeat with_reducible first | refine jy ?_ | refine jw KL123 [] (aa TF123 g1) fun _ => ?_)
  refine CallW_pure call124 (slContains g _ n w hg) fun w1 x1 => ?_
  (repeat with_reducible first | refine jy ?_ | refine jw KL123 [] TF123 fun _ => ?_)
  refine Run_ret ?_
  simp [Rets, RetM, resV, fnd, oneOr, x1]
theorem plC6 (f : TariffD) (u0 u1 u2 : Value) (x : LineD) (l0 l1 l2 l3 : Value) (o : OrderD) (g : Value) (r : RunD) (n : Int) (w : World) (h : TripR w f u0 u1 u2 x l0 l1 l2 l3 o g r n) :
    Calls Tryz.prog 121 #[.agg (trip f u0 u1 u2 x l0 l1 l2 l3 o g r).toArray] w fun e w' => e = .returned (.bool (Pl.c5 x o)) ∧ Ext w w' := by
  refine Calls_of_Run (args := [.agg (trip f u0 u1 u2 x l0 l1 l2 l3 o g r).toArray]) (n := 8) (rs := [.tmp 2]) Tryz.func121 rfl rfl rfl (by simp) ?_
  (repeat with_reducible first | refine jy ?_ | refine jw KL121 [] TF121 fun _ => ?_)
  refine SemW_box fun p w1 hN => ?_
  have g1 := hN.at_.n
  simp only [trip, TariffD.cs, LineD.cs, OrderD.cs, RunD.cs, AtN, KS, Nat.reduceAdd, Nat.reduceMul, Nat.reduceEqDiff, ↓reduceIte, UT] at g1
  have aN : At w1 p (trip f u0 u1 u2 x l0 l1 l2 l3 o g r) := by simpa [Value.cells] using hN.at_
  (repeat with_reducible first | refine jy ?_ | refine jw KL121 [] (aa TF121 g1) fun _ => ?_)
  have hh := hasInt l0 (.func (.func 123) #[] #[.pointer (some p)]) x.Offices (fun k => !o.Against.contains (x.Offices.getD k 0)) w1 (h.l.o.ext hN.ext) fun k hk w2 x2 => by
    have e : x.Offices.getD k 0 = x.Offices[k] := by simp [List.getD_eq_getElem?_getD, hk]
    rw [e]
    exact CallW_cap (cap := [.pointer (some p)]) call123 (plC61 p _ f u0 u1 u2 x l0 l1 l2 l3 o g r w2 (aN.ext x2) (h.od.g.ext (hN.ext.trans x2))) fun w3 x3 => ⟨rfl, x3⟩
  rw [anyN_list (q := fun n => !o.Against.contains n) fun k hk => by simp [List.getD_eq_getElem?_getD, hk]] at hh
  refine CallW_pure call122 hh fun w2 x2 => ?_
  (repeat with_reducible first | refine jy ?_ | refine jw KL121 [] TF121 fun _ => ?_)
  refine Run_ret ?_
  simp [Rets, RetM, resV, fnd, oneOr, Pl.c5]
  exact hN.ext.trans x2
def plConds : List Raw := [⟨fnv 115⟩, ⟨fnv 116⟩, ⟨fnv 117⟩, ⟨fnv 118⟩, ⟨fnv 120⟩, ⟨fnv 121⟩]
theorem plConditions (w : World) : Calls Tryz.prog 86 #[] w fun e w' => ∃ v, e = .returned v ∧ Ext w w' ∧ Sl w' v plConds := by
  refine Calls_of_Run (args := []) (n := 2) (rs := [.tmp 0]) Tryz.func86 rfl rfl rfl (by simp) ?_
  (repeat with_reducible first | refine jy ?_ | refine jw KL86 [] TF86 fun _ => ?_)
  refine SemW_buildSlice (vs := plConds.map Raw.v) Tryz.underlying139 ti140 rfl rfl rfl (by simp [plConds, Value.cells]) (by decide) fun p w1 hN => ?_
  (repeat with_reducible first | refine jy ?_ | refine jw KL86 [] TF86 fun _ => ?_)
  refine Run_ret ?_
  simp [Rets, RetM, resV, fnd, oneOr]
  exact ⟨hN.ext, Sl.flat (xs := plConds) hN (fun i hi => by
    have : i = 0 ∨ i = 1 ∨ i = 2 ∨ i = 3 ∨ i = 4 ∨ i = 5 := by simp [plConds] at hi; omega
    rcases this with rfl | rfl | rfl | rfl | rfl | rfl <;> rfl) (by decide)⟩
theorem idxTrip (vs fv : Value) (xs : List Raw) (p : Nat → Bool) (w : World) (hs : Sl w vs xs) (hp : ∀ k (hk : k < xs.length), Pred Tryz.prog fv [xs[k].v] w (p k)) :
    Calls Tryz.prog 114 #[vs, fv] w fun e w' => ∃ r, e = .returned (.int .i64 r) ∧ Ext w w' ∧ decide (0 ≤ r) = anyN xs.length p := by
  have hn := hs.small
  refine Calls_of_Run (args := [vs, fv]) (n := 19) (rs := [.tmp 4]) Tryz.func114 rfl rfl rfl (by simp) ?_
  (repeat with_reducible first | refine jy ?_ | refine jw KL114 [] (aa TF114 (aa hs.s hs.len)) fun _ => ?_)
  refine Run_loopV [4, 5, 8, 9, 16] (σ := Nat) (fun k => [(8, some (.int .i64 k))]) (fun k w' => k ≤ xs.length ∧ (∀ j, j < k → p j = false) ∧ Ext w w') (fun k => xs.length - k) 0 (by simp [SubB, fnd]) ⟨by omega, by simp, Ext.refl _⟩ ?_
  rintro k w1 ⟨hk, hf, x1⟩
  (repeat with_reducible first | refine jy ?_ | refine jw KL114 [] TF114 fun _ => ?_)
  refine Run_condS (fun _ => rfl) (fun h => ?_) (fun h => ?_)
  · simp at h
    obtain ⟨f1, f2⟩ := slRaw (hs.ext x1) h
    (repeat with_reducible first | refine jy ?_ | refine jw KL114 [] (aa TF114 (aa hs.s (aa hs.len (aa f1 f2)))) fun _ => ?_)
    refine (hp k h w1 x1).mono fun v w2 ⟨hv, x2⟩ => ?_
    subst hv
    (repeat with_reducible first | refine jy ?_ | refine jw KL114 [] TF114 fun _ => ?_)
    refine Run_condS (fun _ => rfl) (fun h => ?_) (fun h => ?_)
    · (repeat with_reducible first | refine jy ?_ | refine jw KL114 [] TF114 fun _ => ?_)
      refine Run_ret ?_
      simp [Rets, RetM, resV, fnd, oneOr, anyN_true (by assumption) (by assumption : p k = true)]
      exact x1.trans x2
    · (repeat with_reducible first | refine jy ?_ | refine jw KL114 [] TF114 fun _ => ?_)
      refine Run_lp ⟨k + 1, ?_, ⟨by omega, fun j hj => ?_, x1.trans x2⟩, by omega⟩
      · simp [SubB, fnd, strike, has]
      · by_cases e : j = k
        · subst e; assumption
        · exact hf j (by omega)
  · simp at h
    obtain rfl : k = xs.length := by omega
    (repeat with_reducible first | refine jy ?_ | refine jw KL114 [] TF114 fun _ => ?_)
    refine Run_ret ?_
    simp [Rets, RetM, resV, fnd, oneOr, anyN_false hf, x1]
theorem hasTrip (vs fv : Value) (xs : List Raw) (p : Nat → Bool) (w : World) (hs : Sl w vs xs) (hp : ∀ k (hk : k < xs.length), Pred Tryz.prog fv [xs[k].v] w (p k)) :
    Calls Tryz.prog 85 #[vs, fv] w fun e w' => e = .returned (.bool (anyN xs.length p)) ∧ Ext w w' := by
  refine Calls_of_Run (args := [vs, fv]) (n := 9) (rs := [.tmp 4]) Tryz.func85 rfl rfl rfl (by simp) ?_
  (repeat with_reducible first | refine jy ?_ | refine jw KL85 [] TF85 fun _ => ?_)
  refine CallW_gen call114 (idxTrip vs fv xs p w hs hp) fun e w1 ⟨r, he, x1, hr⟩ => ⟨_, he, ?_⟩
  (repeat with_reducible first | refine jy ?_ | refine jw KL85 [] TF85 fun _ => ?_)
  refine Run_ret ?_
  simp [Rets, RetM, resV, fnd, oneOr, x1]
  simpa using hr
theorem plFits1 (fv : Value) (b : Bool) (p : Addr) (f : TariffD) (u0 u1 u2 : Value) (x : LineD) (l0 l1 l2 l3 : Value) (o : OrderD) (g : Value) (r : RunD) (w : World) (ha : At w p (trip f u0 u1 u2 x l0 l1 l2 l3 o g r)) (hp : Pred Tryz.prog fv [.agg (trip f u0 u1 u2 x l0 l1 l2 l3 o g r).toArray] w b) :
    Calls Tryz.prog 87 #[fv, .pointer (some p)] w fun e w' => e = .returned (.bool (!b)) ∧ Ext w w' := by
  have g1 := ha.n
  simp only [trip, TariffD.cs, LineD.cs, OrderD.cs, RunD.cs, AtN, KS, Nat.reduceAdd, Nat.reduceMul, Nat.reduceEqDiff, ↓reduceIte, UT] at g1
  refine Calls_of_Run (args := [fv, .pointer (some p)]) (n := 8) (rs := [.tmp 3]) Tryz.func87 rfl rfl rfl (by simp) ?_
  (repeat with_reducible first | refine jy ?_ | refine jw KL87 [] (aa TF87 g1) fun _ => ?_)
  refine (hp w (Ext.refl w)).mono fun v w1 ⟨hv, x1⟩ => ?_
  subst hv
  (repeat with_reducible first | refine jy ?_ | refine jw KL87 [] TF87 fun _ => ?_)
  refine Run_ret ?_
  simp [Rets, RetM, resV, fnd, oneOr, x1]
def condP (f : TariffD) (x : LineD) (o : OrderD) (r : RunD) : Nat → Bool
  | 0 => Pl.c0 x o
  | 1 => Pl.c1 x o
  | 2 => Pl.c2 o r
  | 3 => Pl.c3 f x o
  | 4 => Pl.c4 x o
  | _ => Pl.c5 x o
theorem fits_eq (f : TariffD) (x : LineD) (o : OrderD) (r : RunD) : (Pl.c0 x o && Pl.c1 x o && Pl.c2 o r && Pl.c3 f x o && Pl.c4 x o && Pl.c5 x o) = !anyN 6 (fun k => !condP f x o r k) := by
  have : anyN 6 (fun k => !condP f x o r k) = (!Pl.c0 x o || (!Pl.c1 x o || (!Pl.c2 o r || (!Pl.c3 f x o || (!Pl.c4 x o || !Pl.c5 x o))))) := by simp [anyN, List.range, List.range.loop, condP]
  rw [this, Bool.eq_iff_iff]
  simp [and_assoc]
theorem predP (f : TariffD) (u0 u1 u2 : Value) (x : LineD) (l0 l1 l2 l3 : Value) (o : OrderD) (g : Value) (r : RunD) (n : Int) (w : World) (h : TripR w f u0 u1 u2 x l0 l1 l2 l3 o g r n) (k : Nat) (hk : k < plConds.length) :
    Pred Tryz.prog plConds[k].v [.agg (trip f u0 u1 u2 x l0 l1 l2 l3 o g r).toArray] w (condP f x o r k) := by
  have : k = 0 ∨ k = 1 ∨ k = 2 ∨ k = 3 ∨ k = 4 ∨ k = 5 := by simp [plConds] at hk; omega
  intro w1 x1
  rcases this with rfl | rfl | rfl | rfl | rfl | rfl
  · exact CallW_pure call115 (plC1 f u0 u1 u2 x l0 l1 l2 l3 o g r n w1 (h.ext x1)) fun w2 x2 => ⟨rfl, x2⟩
  · exact CallW_pure call116 (plC2 f u0 u1 u2 x l0 l1 l2 l3 o g r n w1 (h.ext x1)) fun w2 x2 => ⟨rfl, x2⟩
  · exact CallW_pure call117 (plC3 f u0 u1 u2 x l0 l1 l2 l3 o g r w1) fun w2 x2 => ⟨rfl, x2⟩
  · exact CallW_pure call118 (plC4 f u0 u1 u2 x l0 l1 l2 l3 o g r n w1 (h.ext x1)) fun w2 x2 => ⟨rfl, x2⟩
  · exact CallW_pure call120 (plC5 f u0 u1 u2 x l0 l1 l2 l3 o g r w1) fun w2 x2 => ⟨rfl, x2⟩
  · exact CallW_pure call121 (plC6 f u0 u1 u2 x l0 l1 l2 l3 o g r n w1 (h.ext x1)) fun w2 x2 => ⟨rfl, x2⟩
theorem plFits (vl : Value) (t : TimeD) (f : TariffD) (u0 u1 u2 : Value) (o : OrderD) (g : Value) (r : RunD) (w : World) (hl : Sl w vl t.Lines) (hT : TarR w f u0 u1 u2) (hO : OrdR w o g) (hr : 0 ≤ r.Line ∧ r.Line < t.Lines.length) (hk : Tt.LOk (Pl.lineR t r) t.Offices) (hc : 0 ≤ o.Class) :
    Calls Tryz.prog 57 #[.agg (t.cs vl).toArray, .agg (f.cs u0 u1 u2).toArray, .agg (o.cs g).toArray, .agg r.cs.toArray] w fun e w' => e = .returned (.bool (Pl.fits t f o r)) ∧ Ext w w' := by
  have hlen := hl.len
  refine Calls_of_Run (args := [.agg (t.cs vl).toArray, .agg (f.cs u0 u1 u2).toArray, .agg (o.cs g).toArray, .agg r.cs.toArray]) (n := 24) (rs := [.tmp 8]) Tryz.func57 rfl rfl rfl (by simp) ?_
  (repeat with_reducible first | refine jy ?_ | refine jw KL57 [] TF57 fun _ => ?_)
  refine SemW_box fun pt w1 h1 => SemW_box fun pf w2 h2 => SemW_box fun po w3 h3 => SemW_box fun pr w4 h4 => ?_
  have x4 := h1.ext.trans (h2.ext.trans (h3.ext.trans h4.ext))
  have T : ∀ w', Ext w4 w' → AtN w' pt 0 (t.cs vl) := fun w' x => (h1.at_.ext (h2.ext.trans (h3.ext.trans (h4.ext.trans x)))).n
  have F : ∀ w', Ext w4 w' → AtN w' pf 0 (f.cs u0 u1 u2) := fun w' x => (h2.at_.ext (h3.ext.trans (h4.ext.trans x))).n
  have O : ∀ w', Ext w4 w' → AtN w' po 0 (o.cs g) := fun w' x => (h3.at_.ext (h4.ext.trans x)).n
  have R : ∀ w', Ext w4 w' → AtN w' pr 0 r.cs := fun w' x => (h4.at_.ext x).n
  simp only [TimeD.cs, TariffD.cs, OrderD.cs, RunD.cs, AtN, KS, Nat.reduceAdd, Nat.reduceMul, Nat.reduceEqDiff, ↓reduceIte, UT] at T F O R
  have hlt : r.Line.toNat < t.Lines.length := by omega
  have hlo : Pl.lineR t r = t.Lines[r.Line.toNat] := by unfold Pl.lineR; simp [List.getD_eq_getElem?_getD, hlt]
  obtain ⟨l0, l1, l2, l3, e1, e2, hR⟩ := (hl.ext x4).line hlt
  have hone := hR.one
  have hres : Pl.fits t f o r = !anyN 6 (fun k => !condP f (Pl.lineR t r) o r k) := fits_eq f (Pl.lineR t r) o r
  rw [hlo] at hk hres
  generalize hxx : t.Lines[r.Line.toNat] = x at *
  (repeat with_reducible refine js ?_)
  refine Run_ec (id := 1) KL57 (.first 0 (.first 1 (.first 2 (.first 3 (.first 4 (.first 5 (.first 6 (.first 7 (.first 8 (.alt 9 (.alt 10 (.alt 11 .done .stop) .stop) (.alt 10 (.alt 9 (.alt 11 .done .stop) .stop) .stop))))))))))) mixed (by kernel_rfl) (by kernel_rfl) fun w5 x5 _ => ?_
  have t5 := T w5 x5
  have f5 := F w5 x5
  have o5 := O w5 x5
  have r5 := R w5 x5
  have e5 := (e2.ext x5).n
  simp only [LineD.cs, AtN, KS, Nat.reduceAdd, Nat.reduceMul, Nat.reduceEqDiff, ↓reduceIte, UT] at e5
  (try simp (maxSteps := 5000000) only [KS, Nat.reduceAdd, Nat.reduceMul, Nat.reduceEqDiff, ↓reduceIte, forall_const, Int.cast_ofNat_Int, Int.reduceToNat, List.take_succ_cons, List.take_zero, List.drop_succ_cons, List.drop_zero, TF57, KL57, ec, t5, f5, o5, r5, e5, hl.s, hl.len]); (try simp (disch := omega) only [wrapI, tmodI, tdivI])
  have Hx : ∀ cs, cs = trip f u0 u1 u2 x l0 l1 l2 l3 o g r → cs.all Value.oneCell' = true := fun cs e => by
    subst e
    have q0 := isS_o hT.b.s
    have q1 := isS_o hT.l.s
    have q2 := isS_o hT.t.s
    have q3 := hO.one
    simp only [trip, List.all_append, hone, q3, TariffD.cs, List.all_cons, List.all_nil, q0, q1, q2]; rfl
  refine ⟨by omega, Ext.refl _, ⟨.agg (trip f u0 u1 u2 x l0 l1 l2 l3 o g r).toArray, fun _ => by kernel_rfl, Ext.refl _, SemW_allocT ti137 fun px w6 h6 => ⟨h6.ext, ?_⟩⟩, Ext.refl _, SemW_allocT ti137 fun px w6 h6 => ⟨h6.ext, .agg (trip f u0 u1 u2 x l0 l1 l2 l3 o g r).toArray, fun _ => by kernel_rfl, h6.ext, ?_⟩⟩
  all_goals
    have b6 := h6.blk
    refine SemW_setW (by rw [cells137]; decide) (by rw [cells137]; rfl) h6.row (by rw [cells137]; rfl) (Hx _ rfl) fun w7 r7 k7 z7 => ?_
    have r7 : Row w7 px 137 (trip f u0 u1 u2 x l0 l1 l2 l3 o g r) := r7
    have x7 : Ext w5 w7 := Keep.ext h6.ext k7 fun q hq => by omega
    refine ⟨x7, ?_⟩
    have y7 := x4.trans (x5.trans x7)
    have tr : TripR w7 f u0 u1 u2 x l0 l1 l2 l3 o g r t.Offices := ⟨hT.ext y7, hR.ext (x5.trans x7), hO.ext y7, hk, hc⟩
    (repeat with_reducible first | refine jy ?_ | refine jw KL57 [] TF57 fun _ => ?_)
    refine CallW_gen call86 (plConditions w7) fun e w8 ⟨vc, he, x8, sc⟩ => ⟨_, he, ?_⟩
    (repeat with_reducible first | refine jy ?_ | refine jw KL57 [] TF57 fun _ => ?_)
    refine CallW_pure call85 (hasTrip vc _ plConds (fun k => !condP f x o r k) w8 sc fun k hk w9 x9 => ?_) fun w9 x9 => ?_
    · exact CallW_cap (cap := [.pointer (some px)]) call87 (plFits1 _ (condP f x o r k) px f u0 u1 u2 x l0 l1 l2 l3 o g r w9 (r7.at_.ext (x8.trans x9)) (predP f u0 u1 u2 x l0 l1 l2 l3 o g r t.Offices w9 (tr.ext (x8.trans x9)) k hk)) fun w10 x10 => ⟨rfl, x10⟩
    (repeat with_reducible first | refine jy ?_ | refine jw KL57 [] TF57 fun _ => ?_)
    refine Run_ret ?_
    simp only [Rets, RetM, resV, fnd, oneOr, ↓reduceIte]
    exact ⟨_, rfl, by rw [hres]; rfl, y7.trans (x8.trans x9)⟩
theorem fitsW {vl : Value} {t : TimeD} {f : TariffD} {u0 u1 u2 : Value} {o : OrderD} {g : Value} {r : RunD} {w : World} {K : Value → World → Prop} (hl : Sl w vl t.Lines) (hT : TarR w f u0 u1 u2) (hO : OrdR w o g) (hr : 0 ≤ r.Line ∧ r.Line < t.Lines.length) (hk : Tt.LOk (Pl.lineR t r) t.Offices) (hc : 0 ≤ o.Class) (hK : ∀ w', Ext w w' → K (.bool (Pl.fits t f o r)) w') :
    CallW Tryz.prog (.func (.func 57) #[] #[]) [.agg (t.cs vl).toArray, .agg (f.cs u0 u1 u2).toArray, .agg (o.cs g).toArray, .agg r.cs.toArray] w K := CallW_pure call57 (plFits vl t f u0 u1 u2 o g r w hl hT hO hr hk hc) hK
end Go.Proofs.YtldjfebokojmfaaGreat
