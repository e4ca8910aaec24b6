import Derived.Test.YtldjfebokojmfaaGreatRgW22e
import Derived.Test.YtldjfebokojmfaaGreatRgW20x
namespace Go.Proofs.YtldjfebokojmfaaGreat
open Go Go.Fk
set_option linter.unusedSimpArgs false
set_option linter.unusedVariables false
set_option maxRecDepth 100000
theorem rfExtra (f : TariffD) (u0 u1 u2 : Value) (c : Int) (w : World) (hT : TarR w f u0 u1 u2) :
    Calls Tryz.prog 111 #[.agg (f.cs u0 u1 u2).toArray, .int .i64 c] w fun e w' => e = .returned (.int .i64 (Tf.extra f c)) ∧ Ext w w' := by
  have hn := hT.t.small
  have hl := hT.t.len
  refine Calls_of_Run (args := [.agg (f.cs u0 u1 u2).toArray, .int .i64 c]) (n := 29) (rs := [.tmp 4]) Tryz.func111 rfl rfl rfl (by simp) ?_
  (repeat with_reducible first | refine jy ?_ | refine jw KL111 [] TF111 fun _ => ?_)
  refine SemW_box fun pf w1 h1 => ?_
  have x1 := h1.ext
  have F : ∀ w', Ext w1 w' → AtN w' pf 0 (f.cs u0 u1 u2) := fun w' x => (h1.at_.ext x).n
  simp only [TariffD.cs, AtN, KS, Nat.reduceAdd, Nat.reduceMul, Nat.reduceEqDiff, ↓reduceIte, UT] at F
  (repeat with_reducible first | refine jy ?_ | refine jw KL111 [] TF111 fun _ => ?_)
  refine Run_loopV [5, 6, 11, 21] (σ := Nat × Int) (fun s => [(6, some (.int .i64 s.1)), (5, some (.int .i64 s.2))]) (fun s w' => s.1 ≤ f.Tiers.length ∧ Tf.extra f c = Tf.extraF c (f.Tiers.drop s.1) s.2 ∧ Ext w1 w') (fun s => f.Tiers.length - s.1) (0, 0) (by simp [SubB, fnd]) ⟨by simp, by simp [Tf.extra], Ext.refl _⟩ ?_
  rintro ⟨k, a⟩ w2 ⟨hk, hf, x2⟩
  simp only at hk hf
  have f2 := F w2 x2
  (repeat with_reducible first | refine jy ?_ | refine jw KL111 [] (aa TF111 (aa f2 (aa hT.t.s hT.t.len))) fun _ => ?_)
  refine Run_condS (fun _ => rfl) (fun h => ?_) (fun h => ?_)
  · simp at h
    have hkl := h
    obtain ⟨g1, g2⟩ := (hT.t.ext (x1.trans x2)).tierD hkl
    rw [Tf.extraF_drop hkl] at hf
    generalize hxx : f.Tiers[k] = x at *
    simp only [TierD.cs, AtN, KS, Nat.reduceAdd, Nat.reduceMul, Nat.reduceEqDiff, ↓reduceIte, UT] at g1
    (repeat with_reducible first | refine jy ?_ | refine jw KL111 [] (aa TF111 (aa f2 (aa hT.t.s (aa hT.t.len g1)))) fun _ => ?_)
    refine Run_condS (fun _ => rfl) (fun h => ?_) (fun h => ?_)
    · simp at h
      rw [if_pos h] at hf
      (repeat with_reducible first | refine jy ?_ | refine jw KL111 [] (aa TF111 (aa f2 (aa hT.t.s (aa hT.t.len g1)))) fun _ => ?_)
      refine Run_lp ⟨(k + 1, x.Extra), ?_, ⟨by simp only; omega, hf, x2⟩, by simp only; omega⟩
      simp [SubB, fnd, strike, has]
    · simp at h
      rw [if_neg (by omega)] at hf
      (repeat with_reducible first | refine jy ?_ | refine jw KL111 [] TF111 fun _ => ?_)
      refine Run_lp ⟨(k + 1, a), ?_, ⟨by simp only; omega, hf, x2⟩, by simp only; omega⟩
      simp [SubB, fnd, strike, has]
  · simp at h
    obtain rfl : k = f.Tiers.length := by omega
    rw [List.drop_length] at hf
    (repeat with_reducible first | refine jy ?_ | refine jw KL111 [] TF111 fun _ => ?_)
    refine Run_ret ?_
    simp [Rets, RetM, resV, fnd, oneOr, hf, Tf.extraF]
    exact x1.trans x2
theorem rfWrong (f : TariffD) (u0 u1 u2 : Value) (c l k : Int) (w : World) (hT : TarR w f u0 u1 u2) :
    Calls Tryz.prog 110 #[.agg (f.cs u0 u1 u2).toArray, .int .i64 c, .int .i64 l, .int .i64 k] w fun e w' => e = .returned (.int .i64 (Tf.wrong f c l k)) ∧ Ext w w' := by
  have lb := hT.b.len
  refine Calls_of_Run (args := [.agg (f.cs u0 u1 u2).toArray, .int .i64 c, .int .i64 l, .int .i64 k]) (n := 37) (rs := [.tmp 8]) Tryz.func110 rfl rfl rfl (by simp) ?_
  (repeat with_reducible first | refine jy ?_ | refine jw KL110 [] TF110 fun _ => ?_)
  refine SemW_box fun pf w1 h1 => ?_
  have x1 := h1.ext
  have F : ∀ w', Ext w1 w' → AtN w' pf 0 (f.cs u0 u1 u2) := fun w' x => (h1.at_.ext x).n
  simp only [TariffD.cs, AtN, KS, Nat.reduceAdd, Nat.reduceMul, Nat.reduceEqDiff, ↓reduceIte, UT] at F
  have f1 := F w1 (Ext.refl _)
  (repeat with_reducible first | refine jy ?_ | refine jw KL110 [] (aa TF110 f1) fun _ => ?_)
  refine CallW_pure call51 (rfCheck21 f u0 u1 u2 w1 (hT.ext x1)) fun w2 x2 => ?_
  have y2 := x1.trans x2
  (repeat with_reducible first | refine jy ?_ | refine jw KL110 [] TF110 fun _ => ?_)
  refine Run_condS (fun _ => rfl) (fun h => ?_) (fun h => ?_)
  · have hc : Tf.chk f ≠ 0 := by simpa using h
    (repeat with_reducible first | refine jy ?_ | refine jw KL110 [] TF110 fun _ => ?_)
    refine Run_ret ?_
    have : Tf.wrong f c l k = 210 := by unfold Tf.wrong; rw [if_pos hc]
    simp [Rets, RetM, resV, fnd, oneOr, this, y2]
  have hc : Tf.chk f = 0 := by simpa using h
  have f2 := F w2 x2
  (repeat with_reducible first | refine jy ?_ | refine jw KL110 [] (aa TF110 (aa f2 (aa hT.b.s hT.b.len))) fun _ => ?_)
  refine Run_condS (fun _ => rfl) (fun h => ?_) (fun h => ?_)
  · (repeat with_reducible first | refine jy ?_ | refine jw KL110 [] TF110 fun _ => ?_)
    refine Run_ret ?_
    have : Tf.wrong f c l k = 1 := by
      unfold Tf.wrong
      rw [if_neg (by simp [hc]), if_pos]
      simp at h; omega
    simp [Rets, RetM, resV, fnd, oneOr, this, y2]
  · (repeat with_reducible first | refine jy ?_ | refine jw KL110 [] TF110 fun _ => ?_)
    refine Run_ret ?_
    have : Tf.wrong f c l k = 0 := by
      unfold Tf.wrong
      rw [if_neg (by simp [hc]), if_neg]
      simp at h; omega
    simp [Rets, RetM, resV, fnd, oneOr, this, y2]
theorem rfPriceW (f : TariffD) (u0 u1 u2 : Value) (c l k : Int) (w : World) (hT : TarR w f u0 u1 u2) :
    Calls Tryz.prog 80 #[.agg (f.cs u0 u1 u2).toArray, .int .i64 c, .int .i64 l, .int .i64 k] w fun e w' => e = .returned (.tuple #[.int .i64 (Tf.pri f c l k).1, .int .i64 (Tf.pri f c l k).2]) ∧ Ext w w' := by
  have lb := hT.b.len
  have ll := hT.l.len
  refine Calls_of_Run (args := [.agg (f.cs u0 u1 u2).toArray, .int .i64 c, .int .i64 l, .int .i64 k]) (n := 36) (rs := [.tmp 8, .tmp 9]) Tryz.func80 rfl rfl rfl (by simp) ?_
  (repeat with_reducible first | refine jy ?_ | refine jw KL80 [4] TF80 fun _ => ?_)
  refine SemW_box fun pf w1 h1 => ?_
  have x1 := h1.ext
  have F : ∀ w', Ext w1 w' → AtN w' pf 0 (f.cs u0 u1 u2) := fun w' x => (h1.at_.ext x).n
  simp only [TariffD.cs, AtN, KS, Nat.reduceAdd, Nat.reduceMul, Nat.reduceEqDiff, ↓reduceIte, UT] at F
  have f1 := F w1 (Ext.refl _)
  (repeat with_reducible first | refine jy ?_ | refine jw KL80 [4] (aa TF80 f1) fun _ => ?_)
  refine CallW_pure call110 (rfWrong f u0 u1 u2 c l k w1 (hT.ext x1)) fun w2 x2 => ?_
  have y2 := x1.trans x2
  (repeat with_reducible first | refine jy ?_ | refine jw KL80 [4] TF80 fun _ => ?_)
  refine Run_condS (fun _ => rfl) (fun h => ?_) (fun h => ?_)
  · have hw : Tf.wrong f c l k ≠ 0 := by simpa using h
    (repeat with_reducible first | refine jy ?_ | refine jw KL80 [4] TF80 fun _ => ?_)
    refine Run_ret ?_
    have : Tf.pri f c l k = (0, Tf.wrong f c l k) := by unfold Tf.pri; rw [if_pos hw]
    simp [Rets, RetM, resV, fnd, oneOr, this, y2]
  have hw : Tf.wrong f c l k = 0 := by simpa using h
  clear h
  have hin : Tf.chk f = 0 ∧ (0 ≤ c ∧ c < f.Base.length) ∧ 1 ≤ l ∧ l ≤ 8 := by
    have hw' := hw
    unfold Tf.wrong at hw'
    split at hw'
    · cases hw'
    · rename_i h1
      split at hw'
      · cases hw'
      · exact ⟨by simpa using h1, by omega, by omega, by omega⟩
  obtain ⟨hc, hcb, hl⟩ := hin
  have ok := Tf.chk_ok hc
  have hcb2 : c.toNat < f.Base.length := by omega
  have hcl2 : c.toNat < f.Leg.length := by have := ok.n; omega
  obtain ⟨a1, a2, a3⟩ := (hT.b.ext y2).get hcb2
  obtain ⟨b1, b2, b3⟩ := (hT.l.ext y2).get hcl2
  have ebase : f.Base[c.toNat] = Tf.base f c := by unfold Tf.base; simp [List.getD_eq_getElem?_getD, hcb2]
  have eleg : f.Leg[c.toNat] = Tf.leg f c := by unfold Tf.leg; simp [List.getD_eq_getElem?_getD, hcl2]
  have bbd := Tf.base_bd hc c
  have lbd := Tf.leg_bd hc c
  have xbd := Tf.extra_bd hc k
  rw [ebase] at a1
  rw [eleg] at b1
  have f2 := F w2 x2
  have nl := ok.n
  have hmul : 0 ≤ l * Tf.leg f c ∧ l * Tf.leg f c ≤ 8 * 1048576 := ⟨Int.mul_nonneg (by omega) (by omega), Int.mul_le_mul hl.2 lbd.2 lbd.1 (by omega)⟩
  have hres : Tf.pri f c l k = (Tf.base f c + l * Tf.leg f c + Tf.extra f k, 0) := by unfold Tf.pri; rw [if_neg (by simp [hw])]
  generalize hq : l * Tf.leg f c = q at *
  (repeat with_reducible first | refine jy ?_ | refine jw KL80 [4] (aa TF80 (aa f2 (aa hT.b.s (aa hT.b.len (aa hT.l.s (aa hT.l.len (aa a1 (aa a2 (aa b1 (aa b2 hq)))))))))) fun _ => ?_)
  refine ⟨.int .i64 (Tf.extra f k), PC_pure call111 fun w3 x3 => rfExtra f u0 u1 u2 k w3 (hT.ext (y2.trans x3)), rfl, fun w3 x3 => ?_⟩
  (repeat with_reducible first | refine jy ?_ | refine jw KL80 [4] TF80 fun _ => ?_)
  refine Run_ret ?_
  have e1 : IntKind.i64.wrap (Tf.base f c + q + Tf.extra f k) = Tf.base f c + q + Tf.extra f k := wrapI (by omega) (by omega)
  simp [Rets, RetM, resV, fnd, oneOr, hres, e1]
  exact y2.trans x3
theorem bit_fin : ∀ c : Fin 256, ∀ k : Fin 8, (iand .i64 (((c : Nat) : Int).fdiv (2 ^ (min (k : Nat) 64))) 1 == 1) = decide (((c : Nat) / 2 ^ (k : Nat)) % 2 = 1) := by decide +kernel
theorem rfBit (c k : Nat) (hc : c < 256) (hk : k < 8) (w : World) : Calls Tryz.prog 79 #[.int .i64 (c : Int), .int .i64 (k : Int)] w fun e w' => e = .returned (.bool (iand .i64 ((c : Int).fdiv (2 ^ (min k 64))) 1 == 1)) ∧ Ext w w' := by
  refine Calls_of_Run (args := [.int .i64 (c : Int), .int .i64 (k : Int)]) (n := 16) (rs := [.tmp 4]) Tryz.func79 rfl rfl rfl (by simp) ?_
  (repeat with_reducible first | refine jy ?_ | refine jw KL79 [] TF79 fun _ => ?_)
  refine Run_loopV [0, 5, 8] (σ := Nat) (fun j => [(5, some (.int .i64 j)), (0, some (.int .i64 ((c / 2 ^ j : Nat) : Int)))]) (fun j w' => j ≤ k ∧ Ext w w') (fun j => k - j) 0 (by simp [SubB, fnd]) ⟨by omega, Ext.refl _⟩ ?_
  rintro j w1 ⟨hj, x1⟩
  have hle : c / 2 ^ j ≤ c := Nat.div_le_self _ _
  (repeat with_reducible first | refine jy ?_ | refine jw KL79 [] TF79 fun _ => ?_)
  refine Run_condS (fun _ => rfl) (fun h => ?_) (fun h => ?_)
  · simp at h
    generalize hq : c / 2 ^ j = q at *
    (repeat with_reducible first | refine jy ?_ | refine jw KL79 [] TF79 fun _ => ?_)
    refine Run_lp ⟨j + 1, ?_, ⟨by omega, x1⟩, by omega⟩
    have e : c / 2 ^ (j + 1) = q / 2 := by rw [Nat.pow_succ, ← Nat.div_div_eq_div_mul, hq]
    rw [e]
    have e2 : ((q / 2 : Nat) : Int) = (q : Int) / 2 := by omega
    rw [e2]
    simp [SubB, fnd, strike, has]
  · simp at h
    obtain rfl : j = k := by omega
    have hb := bit_fin ⟨c, hc⟩ ⟨j, hk⟩
    simp only at hb
    generalize hq : c / 2 ^ j = q at *
    (repeat with_reducible first | refine jy ?_ | refine jw KL79 [] TF79 fun _ => ?_)
    refine Run_ret ?_
    simp only [Rets, RetM, resV, fnd, oneOr, ↓reduceIte]
    refine ⟨_, rfl, ?_, x1⟩
    rw [hb]
    congr 2
    rw [Bool.eq_iff_iff]; simp; omega
theorem rfLoad (vo vr : Value) (l : List OrderD) (of : List RunD) (r : RunD) (w : World) (ho : Sl w vo l) (hr : Sl w vr of) (hlen : of.length ≤ l.length) (hcr : ∀ o ∈ l, 1 ≤ o.Crowd ∧ o.Crowd ≤ 64) (h64 : l.length ≤ 1000000) (hI : RunI r) :
    Calls Tryz.prog 49 #[vo, vr, .agg r.cs.toArray] w fun e w' => e = .returned (.tuple #[.int .i64 (Pl.load l of r).n, .int .i64 (Pl.load l of r).c]) ∧ Ext w w' := by
  have hol := ho.len
  have hrl := hr.len
  refine Calls_of_Run (args := [vo, vr, .agg r.cs.toArray]) (n := 35) (rs := [.tmp 6, .tmp 7]) Tryz.func49 rfl rfl rfl (by simp) ?_
  (repeat with_reducible first | refine jy ?_ | refine jw KL49 [6] TF49 fun _ => ?_)
  refine SemW_box fun pr w1 h1 => ?_
  have x1 := h1.ext
  have R : ∀ w', Ext w1 w' → AtN w' pr 0 r.cs := fun w' x => (h1.at_.ext x).n
  simp only [RunD.cs, AtN, KS, Nat.reduceAdd, Nat.reduceMul, Nat.reduceEqDiff, ↓reduceIte, UT] at R
  (repeat with_reducible first | refine jy ?_ | refine jw KL49 [6] TF49 fun _ => ?_)
  refine Run_loopV [8, 9, 10, 14, 22] (σ := Nat) (fun k => [(10, some (.int .i64 k)), (8, some (.int .i64 (Pl.load l (of.take k) r).n)), (9, some (.int .i64 (Pl.load l (of.take k) r).c))]) (fun k w' => k ≤ of.length ∧ Ext w1 w') (fun k => of.length - k) 0 (by simp [SubB, fnd, Pl.load, Pl.loadF, Pl.LoadD.zero]) ⟨by omega, Ext.refl _⟩ ?_
  rintro k w2 ⟨hk, x2⟩
  have y2 := x1.trans x2
  (repeat with_reducible first | refine jy ?_ | refine jw KL49 [6] (aa TF49 (aa hr.s hr.len)) fun _ => ?_)
  refine Run_condS (fun _ => rfl) (fun h => ?_) (fun h => ?_)
  · simp at h
    have hkl := h
    have hko : k < l.length := by omega
    obtain ⟨q1, q2⟩ := (hr.ext y2).runD hkl
    obtain ⟨g, o1, o2, hO⟩ := (ho.ext y2).ord hko
    have hl2 : (of.take k).length = k := by simp; omega
    have htk : of.take (k + 1) = of.take k ++ [of[k]] := List.take_succ_eq_append_getElem hkl
    have hsn := Pl.load_snoc (l := l) (of := of.take k) (by omega) of[k] r
    have hbd := Pl.load_bd hcr (of.take k) r
    have hcro := hcr _ (List.getElem_mem hko)
    simp only [hl2] at hsn
    rw [← htk] at hsn
    generalize hqq : of[k] = s at *
    generalize hoo : l[k] = o at *
    generalize Pl.load l (of.take k) r = ld at *
    have r2 := R w2 x2
    simp only [RunD.cs, OrderD.cs, AtN, KS, Nat.reduceAdd, Nat.reduceMul, Nat.reduceEqDiff, ↓reduceIte, UT] at q1 o1
    have hfl : flatT Tryz.prog 34 = true := by kernel_rfl
    (repeat with_reducible first | refine jy ?_ | refine jw KL49 [6] (aa TF49 (aa hr.s (aa hr.len (aa q1 (aa r2 hfl))))) fun _ => ?_)
    intro w3 x3
    have y3 := y2.trans x3
    have o3 := (o2.ext x3).n
    simp only [OrderD.cs, AtN, KS, Nat.reduceAdd, Nat.reduceMul, Nat.reduceEqDiff, ↓reduceIte, UT] at o3
    refine Run_condS (fun _ => rfl) (fun h => ?_) (fun h => ?_)
    · have hsr : s = r := by
        cases s; cases r
        simp at h
        simp [h]
      rw [if_pos hsr] at hsn
      (repeat with_reducible first | refine jy ?_ | refine jw KL49 [6] (aa TF49 (aa ho.s (aa ho.len o3))) fun _ => ?_)
      refine Run_lp ⟨k + 1, ?_, ⟨by omega, x2.trans x3⟩, by omega⟩
      rw [hsn]
      simp only [Pl.LoadD.wth]
      simp [SubB, fnd, strike, has]
    · have hsr : ¬ s = r := by
        rintro rfl
        simp at h
      rw [if_neg hsr] at hsn
      (repeat with_reducible first | refine jy ?_ | refine jw KL49 [6] TF49 fun _ => ?_)
      refine Run_lp ⟨k + 1, ?_, ⟨by omega, x2.trans x3⟩, by omega⟩
      rw [hsn]
      simp [SubB, fnd, strike, has]
  · simp at h
    obtain rfl : k = of.length := by omega
    rw [List.take_length]
    (repeat with_reducible first | refine jy ?_ | refine jw KL49 [6] TF49 fun _ => ?_)
    refine Run_ret ?_
    simp [Rets, RetM, resV, fnd, oneOr]
    exact y2
theorem agF_iff {n : Int} : ∀ {l : List Int} {a : Int}, Pl.agF n a l = true ↔ ∀ k (h : k < l.length), (if k = 0 then a else l.getD (k - 1) 0) < l[k] ∧ l[k] < n
  | [], a => by simp [Pl.agF]
  | x :: r, a => by
    simp only [Pl.agF, Bool.and_eq_true, decide_eq_true_eq, agF_iff (l := r)]
    constructor
    · rintro ⟨h1, h2⟩ k hk
      cases k with
      | zero => simpa using h1
      | succ k =>
        have := h2 k (by simpa using hk)
        cases k with
        | zero => simpa using this
        | succ k => simpa using this
    · intro h
      have h0 := h 0 (by simp)
      refine ⟨by simpa using h0, fun k hk => ?_⟩
      have := h (k + 1) (by simpa using hk)
      cases k with
      | zero => simpa using this
      | succ k => simpa using this
def agP (n : Int) (l : List Int) (k : Nat) : Bool := decide (0 ≤ l.getD k 0) && decide (l.getD k 0 < n) && (decide (k = 0) || decide (l.getD (k - 1) 0 < l.getD k 0))
theorem agF_all (n : Int) (l : List Int) : Pl.agF n (-1) l = allN l.length (agP n l) := by
  rw [Bool.eq_iff_iff, agF_iff, allN_iff]
  have hg : ∀ {k}, (hk : k < l.length) → l.getD k 0 = l[k] := fun hk => by simp [List.getD_eq_getElem?_getD, hk]
  constructor
  · intro h k hk
    have hk1 := h k hk
    have h0 : 0 ≤ l[k] := by
      have key : ∀ j (hj : j < l.length), 0 ≤ l[j] := by
        intro j
        induction j with
        | zero => intro hj; have := h 0 hj; simp at this; omega
        | succ j ih =>
          intro hj
          have := h (j + 1) hj
          have := ih (by omega)
          simp only [Nat.add_sub_cancel, if_neg (show ¬ j + 1 = 0 by omega), hg (show j < l.length by omega)] at *
          omega
      exact key k hk
    unfold agP
    rw [hg hk]
    by_cases k0 : k = 0
    · subst k0; simp; exact ⟨h0, hk1.2⟩
    · rw [if_neg k0] at hk1
      simp [k0]
      refine ⟨⟨h0, hk1.2⟩, ?_⟩
      simpa using hk1.1
  · intro h k hk
    have := h k hk
    unfold agP at this
    rw [hg hk] at this
    simp only [Bool.and_eq_true, decide_eq_true_eq, Bool.or_eq_true] at this
    refine ⟨?_, this.1.2⟩
    split
    · omega
    · rcases this.2 with h1 | h1
      · omega
      · exact h1
set_option maxHeartbeats 2000000 in
theorem rfRight18 (o : OrderD) (v0 : Value) (n p c : Int) (w : World) (hO : OrdR w o v0) :
    Calls Tryz.prog 52 #[.agg (o.cs v0).toArray, .int .i64 n, .int .i64 p, .int .i64 c] w fun e w' => e = .returned (.bool (Pl.oright o n p c)) ∧ Ext w w' := by
  have hgl := hO.g.len
  have hgs := hO.g.small
  refine Calls_of_Run (args := [.agg (o.cs v0).toArray, .int .i64 n, .int .i64 p, .int .i64 c]) (n := 147) (rs := [.tmp 8]) Tryz.func52 rfl rfl rfl (by simp) ?_
  (repeat with_reducible first | refine jy ?_ | refine jw KL52 [8] TF52 fun _ => ?_)
  refine SemW_box fun po w1 h1 => ?_
  have x1 := h1.ext
  have O : ∀ w', Ext w1 w' → AtN w' po 0 (o.cs v0) := fun w' x => (h1.at_.ext x).n
  simp only [OrderD.cs, AtN, KS, Nat.reduceAdd, Nat.reduceMul, Nat.reduceEqDiff, ↓reduceIte, UT] at O
  have o1 := O w1 (Ext.refl _)
  (repeat with_reducible first | refine jy ?_ | refine jw KL52 [8] (aa TF52 o1) fun _ => ?_)
  refine Run_condS (fun _ => rfl) (fun h => ?_) (fun h => ?_)
  · (repeat with_reducible first | refine jy ?_ | refine jw KL52 [8] TF52 fun _ => ?_)
    refine Run_ret ?_
    have : Pl.oright o n p c = false := by
      have : Pl.oNum o n p c = false := by
        unfold Pl.oNum
        simp only [Bool.or_eq_true, decide_eq_true_eq, beq_iff_eq] at h
        simp only [decide_eq_false_iff_not]; omega
      simp [Pl.oright, this]
    simp [Rets, RetM, resV, fnd, oneOr, this, x1]
  simp only [Bool.or_eq_false_iff, decide_eq_false_iff_not, beq_eq_false_iff_ne, ne_eq] at h
  have hA := h
  clear h
  (repeat with_reducible first | refine jy ?_ | refine jw KL52 [8] (aa TF52 o1) fun _ => ?_)
  refine Run_condS (fun _ => rfl) (fun h => ?_) (fun h => ?_)
  · (repeat with_reducible first | refine jy ?_ | refine jw KL52 [8] TF52 fun _ => ?_)
    refine Run_ret ?_
    have : Pl.oright o n p c = false := by
      have : Pl.oNum o n p c = false := by
        unfold Pl.oNum
        simp only [Bool.or_eq_true, decide_eq_true_eq] at h
        simp only [decide_eq_false_iff_not]; omega
      simp [Pl.oright, this]
    simp [Rets, RetM, resV, fnd, oneOr, this, x1]
  simp only [Bool.or_eq_false_iff, decide_eq_false_iff_not] at h
  have hB := h
  clear h
  have hag := agF_all n o.Against
  (repeat with_reducible first | refine jy ?_ | refine jw KL52 [8] TF52 fun _ => ?_)
  refine Run_loopV [8, 9, 98, 133] (σ := Nat) (fun k => [(9, some (.int .i64 k)), (8, some (.bool false))]) (fun k w' => k ≤ o.Against.length ∧ (∀ j, j < k → agP n o.Against j = true) ∧ Ext w1 w') (fun k => o.Against.length - k) 0 (by simp [SubB, fnd]) ⟨by omega, by simp, Ext.refl _⟩ ?_
  rintro k w2 ⟨hk, hf, x2⟩
  have y2 := x1.trans x2
  have o2 := O w2 x2
  (repeat with_reducible first | refine jy ?_ | refine jw KL52 [8] (aa TF52 (aa o2 (aa hO.g.s hO.g.len))) fun _ => ?_)
  refine Run_condS (fun _ => rfl) (fun h => ?_) (fun h => ?_)
  · simp at h
    have hkl := h
    obtain ⟨f1, f2, f3⟩ := (hO.g.ext y2).get hkl
    have e1 : o.Against[k] = o.Against.getD k 0 := by simp [List.getD_eq_getElem?_getD, hkl]
    rw [e1] at f1
    have hbad : agP n o.Against k = false → Pl.oright o n p c = false := fun hh => by
      rw [Pl.oright, hag, allN_false hkl hh, Bool.and_false]
    by_cases k0 : k = 0
    · have e0 : decide (0 < (k : Int)) = false := by simp; omega
      have hp : (decide (o.Against.getD k 0 < 0) || decide (n ≤ o.Against.getD k 0)) = !agP n o.Against k := by
        rw [Bool.eq_iff_iff]; simp [agP, k0]
      (repeat with_reducible first | refine jy ?_ | refine jw KL52 [8] (aa TF52 (aa o2 (aa hO.g.s (aa hO.g.len (aa f1 (aa f2 (aa e0 KX))))))) fun _ => ?_)
      intro w3 x3
      have y3 := y2.trans x3
      refine Run_condS (fun _ => rfl) (fun h => ?_) (fun h => ?_)
      · have h2 : (!agP n o.Against k) = true := hp.symm.trans h
        (repeat with_reducible first | refine jy ?_ | refine jw KL52 [8] TF52 fun _ => ?_)
        refine Run_ret ?_
        simp [Rets, RetM, resV, fnd, oneOr, hbad (by simpa using h2), y3]
      · have h2 : (!agP n o.Against k) = false := hp.symm.trans h
        (repeat with_reducible first | refine jy ?_ | refine jw KL52 [8] TF52 fun _ => ?_)
        refine Run_lp ⟨k + 1, ?_, ⟨by omega, fun j hj => ?_, x2.trans x3⟩, by omega⟩
        · simp [SubB, fnd, strike, has]
        · by_cases e : j = k
          · rw [e]; simpa using h2
          · exact hf j (by omega)
    · have e0 : decide (0 < (k : Int)) = true := by simp; omega
      have e2 : ((k : Int) - 1).toNat = k - 1 := by omega
      obtain ⟨g1, g2, g3⟩ := (hO.g.ext y2).get (show k - 1 < o.Against.length by omega)
      have e3 : o.Against[k - 1]'(by omega) = o.Against.getD (k - 1) 0 := by simp [List.getD_eq_getElem?_getD, show k - 1 < o.Against.length by omega]
      rw [e3] at g1
      have hp : (decide (o.Against.getD k 0 < 0) || decide (n ≤ o.Against.getD k 0) || decide (o.Against.getD k 0 ≤ o.Against.getD (k - 1) 0)) = !agP n o.Against k := by
        rw [Bool.eq_iff_iff]
        simp only [agP, Bool.or_eq_true, decide_eq_true_eq, Bool.not_eq_true', Bool.and_eq_false_iff, decide_eq_false_iff_not, Bool.or_eq_false_iff]
        omega
      (repeat with_reducible first | refine jy ?_ | refine jw KL52 [8] (aa TF52 (aa o2 (aa hO.g.s (aa hO.g.len (aa f1 (aa f2 (aa g1 (aa g2 (aa e0 (aa e2 KX)))))))))) fun _ => ?_)
      intro w3 x3
      have y3 := y2.trans x3
      refine Run_condS (fun _ => rfl) (fun h => ?_) (fun h => ?_)
      · have h2 : (!agP n o.Against k) = true := hp.symm.trans h
        (repeat with_reducible first | refine jy ?_ | refine jw KL52 [8] TF52 fun _ => ?_)
        refine Run_ret ?_
        simp [Rets, RetM, resV, fnd, oneOr, hbad (by simpa using h2), y3]
      · have h2 : (!agP n o.Against k) = false := hp.symm.trans h
        (repeat with_reducible first | refine jy ?_ | refine jw KL52 [8] TF52 fun _ => ?_)
        refine Run_lp ⟨k + 1, ?_, ⟨by omega, fun j hj => ?_, x2.trans x3⟩, by omega⟩
        · simp [SubB, fnd, strike, has]
        · by_cases e : j = k
          · rw [e]; simpa using h2
          · exact hf j (by omega)
  · simp at h
    obtain rfl : k = o.Against.length := by omega
    (repeat with_reducible first | refine jy ?_ | refine jw KL52 [8] (aa TF52 o2) fun _ => ?_)
    refine Run_ret ?_
    simp only [Rets, RetM, resV, fnd, oneOr, ↓reduceIte]
    refine ⟨_, rfl, ?_, y2⟩
    congr 2
    rw [Pl.oright, hag, allN_true hf, Bool.and_true]
    unfold Pl.oNum
    rw [Bool.eq_iff_iff]
    simp only [Bool.or_eq_true, beq_iff_eq, decide_eq_true_eq]
    omega
theorem rfError22 (vl u0 u1 u2 vo : Value) (t : TimeD) (f : TariffD) (l : List OrderD) (w : World) (hl : Sl w vl t.Lines) (hT : TarR w f u0 u1 u2) (ho : Sl w vo l) :
    Calls Tryz.prog 31 #[.agg (t.cs vl).toArray, .agg (f.cs u0 u1 u2).toArray, vo] w fun e w' => e = .returned (.int .i64 (Pl.err t f l)) ∧ Ext w w' := by
  have hn := ho.small
  have hol := ho.len
  refine Calls_of_Run (args := [.agg (t.cs vl).toArray, .agg (f.cs u0 u1 u2).toArray, vo]) (n := 38) (rs := [.tmp 6]) Tryz.func31 rfl rfl rfl (by simp) ?_
  (repeat with_reducible first | refine jy ?_ | refine jw KL31 [11] TF31 fun _ => ?_)
  refine SemW_box fun pt w1 h1 => SemW_box fun pf w2 h2 => ?_
  have x2 := h1.ext.trans h2.ext
  have T : ∀ w', Ext w2 w' → AtN w' pt 0 (t.cs vl) := fun w' x => (h1.at_.ext (h2.ext.trans x)).n
  have F : ∀ w', Ext w2 w' → AtN w' pf 0 (f.cs u0 u1 u2) := fun w' x => (h2.at_.ext x).n
  simp only [TimeD.cs, TariffD.cs, AtN, KS, Nat.reduceAdd, Nat.reduceMul, Nat.reduceEqDiff, ↓reduceIte, UT] at T F
  have t2 := T w2 (Ext.refl _)
  (repeat with_reducible first | refine jy ?_ | refine jw KL31 [11] (aa TF31 t2) fun _ => ?_)
  refine chk20W rfl (hl.ext x2) fun w3 x3 => ?_
  have y3 := x2.trans x3
  have f3 := F w3 x3
  (repeat with_reducible first | refine jy ?_ | refine jw KL31 [11] TF31 fun _ => ?_)
  refine Run_cutV [7, 12] (σ := Unit) (fun _ => [(7, some (.int .i64 (if Tt.chk t ≠ 0 then Tt.chk t else Tf.chk f)))]) (fun _ w' => Ext w3 w') ?_ ?_
  · refine Run_condS (fun _ => rfl) (fun h => ?_) (fun h => ?_)
    · have hc : Tt.chk t = 0 := by simpa using h
      (repeat with_reducible first | refine jy ?_ | refine jw KL31 [11] (aa TF31 f3) fun _ => ?_)
      refine CallW_pure call51 (rfCheck21 f u0 u1 u2 w3 (hT.ext y3)) fun w4 x4 => ?_
      (repeat with_reducible first | refine jy ?_ | refine jw KL31 [11] TF31 fun _ => ?_)
      refine Run_lp ⟨(), ?_, x4⟩
      rw [if_neg (by simp [hc])]
      simp [SubB, fnd, strike, has]
    · have hc : Tt.chk t ≠ 0 := by simpa using h
      (repeat with_reducible first | refine jy ?_ | refine jw KL31 [11] TF31 fun _ => ?_)
      refine Run_lp ⟨(), ?_, Ext.refl _⟩
      rw [if_pos hc]
      simp [SubB, fnd, strike, has]
  rintro _ w4 x4
  have y4 := y3.trans x4
  (repeat with_reducible first | refine jy ?_ | refine jw KL31 [11] TF31 fun _ => ?_)
  refine Run_condS (fun _ => rfl) (fun h => ?_) (fun h => ?_)
  · (repeat with_reducible first | refine jy ?_ | refine jw KL31 [11] TF31 fun _ => ?_)
    refine Run_ret ?_
    have : Pl.err t f l = if Tt.chk t ≠ 0 then Tt.chk t else Tf.chk f := by
      unfold Pl.err
      by_cases hc : Tt.chk t = 0
      · rw [if_neg (show ¬ (Tt.chk t ≠ 0) by simp [hc]), if_neg (show ¬ (Tt.chk t ≠ 0) by simp [hc])]
        have hc2 : Tf.chk f ≠ 0 := by
          rw [if_neg (by simp [hc])] at h
          simpa using h
        rw [if_pos hc2]
      · rw [if_pos hc, if_pos hc]
    simp only [Rets, RetM, resV, fnd, oneOr, ↓reduceIte]
    exact ⟨_, rfl, by rw [this], y4⟩
  have hcc : Tt.chk t = 0 ∧ Tf.chk f = 0 := by
    by_cases hc : Tt.chk t = 0
    · rw [if_neg (by simp [hc])] at h
      exact ⟨hc, by simpa using h⟩
    · rw [if_pos hc] at h
      exact (hc (by simpa using h)).elim
  clear h
  have hres : Pl.err t f l = if 64 < l.length then 220 else if l.all (fun o => Pl.oright o t.Offices 1024 f.Base.length) then 0 else 220 := by
    unfold Pl.err; rw [if_neg (by simp [hcc.1]), if_neg (by simp [hcc.2])]
  (repeat with_reducible first | refine jy ?_ | refine jw KL31 [11] (aa TF31 (aa ho.s ho.len)) fun _ => ?_)
  refine Run_condS (fun _ => rfl) (fun h => ?_) (fun h => ?_)
  · simp at h
    (repeat with_reducible first | refine jy ?_ | refine jw KL31 [11] TF31 fun _ => ?_)
    refine Run_ret ?_
    rw [if_pos (by omega)] at hres
    simp [Rets, RetM, resV, fnd, oneOr, hres, y4]
  simp at h
  rw [if_neg (by omega)] at hres
  (repeat with_reducible first | refine jy ?_ | refine jw KL31 [11] TF31 fun _ => ?_)
  refine Run_loopV [6, 8, 24, 37] (σ := Nat) (fun k => [(8, some (.int .i64 k)), (6, some (.int .i64 0))]) (fun k w' => k ≤ l.length ∧ (∀ j (h : j < l.length), j < k → Pl.oright l[j] t.Offices 1024 f.Base.length = true) ∧ Ext w4 w') (fun k => l.length - k) 0 (by simp [SubB, fnd]) ⟨by omega, by simp, Ext.refl _⟩ ?_
  rintro k w5 ⟨hk, hf, x5⟩
  have y5 := y4.trans x5
  (repeat with_reducible first | refine jy ?_ | refine jw KL31 [11] (aa TF31 (aa ho.s ho.len)) fun _ => ?_)
  refine Run_condS (fun _ => rfl) (fun h => ?_) (fun h => ?_)
  · simp at h
    have hkl : k < l.length := by omega
    obtain ⟨g, o1, o2, hO⟩ := (ho.ext y5).ord hkl
    have t5 := T w5 (x3.trans (x4.trans x5))
    have f5 := F w5 (x3.trans (x4.trans x5))
    have hall : l.all (fun o => Pl.oright o t.Offices 1024 f.Base.length) = true → Pl.oright l[k] t.Offices 1024 f.Base.length = true := fun hs => List.all_eq_true.1 hs _ (List.getElem_mem hkl)
    generalize hoo : l[k] = o at *
    simp only [OrderD.cs, AtN, KS, Nat.reduceAdd, Nat.reduceMul, Nat.reduceEqDiff, ↓reduceIte, UT] at o1
    (repeat with_reducible first | refine jy ?_ | refine jw KL31 [11] (aa TF31 (aa ho.s (aa ho.len (aa o1 (aa t5 (aa f5 (aa hT.b.s hT.b.len))))))) fun _ => ?_)
    refine ⟨.bool (Pl.oright o t.Offices 1024 f.Base.length), PC_pure call52 fun w6 x6 => rfRight18 o g t.Offices 1024 f.Base.length w6 (hO.ext x6), rfl, fun w6 x6 => ?_⟩
    have y6 := y5.trans x6
    refine Run_condS (fun _ => rfl) (fun h => ?_) (fun h => ?_)
    · (repeat with_reducible first | refine jy ?_ | refine jw KL31 [11] TF31 fun _ => ?_)
      refine Run_ret ?_
      rw [if_neg (fun hs => by have := hall hs; rw [this] at h; cases h)] at hres
      simp [Rets, RetM, resV, fnd, oneOr, hres, y6]
    · have hr : Pl.oright o t.Offices 1024 f.Base.length = true := by simpa using h
      (repeat with_reducible first | refine jy ?_ | refine jw KL31 [11] TF31 fun _ => ?_)
      refine Run_lp ⟨k + 1, ?_, ⟨by omega, fun j hj hjk => ?_, x5.trans x6⟩, by omega⟩
      · simp [SubB, fnd, strike, has]
      · by_cases e : j = k
        · subst e; rw [hoo]; exact hr
        · exact hf j hj (by omega)
  · simp at h
    obtain rfl : k = l.length := by omega
    (repeat with_reducible first | refine jy ?_ | refine jw KL31 [11] TF31 fun _ => ?_)
    refine Run_ret ?_
    rw [if_pos (List.all_eq_true.2 fun x hx => by
      obtain ⟨j, hj, rfl⟩ := List.getElem_of_mem hx
      exact hf j hj hj)] at hres
    simp [Rets, RetM, resV, fnd, oneOr, hres, y5]
set_option maxHeartbeats 2000000 in
theorem rfFits (vl : Value) (t : TimeD) (f : TariffD) (u0 u1 u2 : Value) (o : OrderD) (g : Value) (r : RunD) (w : World) (hl : Sl w vl t.Lines) (hT : TarR w f u0 u1 u2) (hO : OrdR w o g) (hr : 0 ≤ r.Line ∧ r.Line < t.Lines.length) (hk : Tt.LOk (Pl.lineR t r) t.Offices) (hc : 0 ≤ o.Class ∧ o.Class < 8) (hcr : 1 ≤ o.Crowd ∧ o.Crowd ≤ 64) :
    Calls Tryz.prog 54 #[.agg (t.cs vl).toArray, .agg (f.cs u0 u1 u2).toArray, .agg (o.cs g).toArray, .agg r.cs.toArray] w fun e w' => e = .returned (.bool (Pl.fits t f o r)) ∧ Ext w w' := by
  have hlen := hl.len
  refine Calls_of_Run (args := [.agg (t.cs vl).toArray, .agg (f.cs u0 u1 u2).toArray, .agg (o.cs g).toArray, .agg r.cs.toArray]) (n := 101) (rs := [.tmp 8]) Tryz.func54 rfl rfl rfl (by simp) ?_
  (repeat with_reducible first | refine jy ?_ | refine jw KL54 [3, 11] TF54 fun _ => ?_)
  refine SemW_box fun pt w1 h1 => SemW_box fun pf w2 h2 => SemW_box fun po w3 h3 => SemW_box fun pr w4 h4 => ?_
  have x4 := h1.ext.trans (h2.ext.trans (h3.ext.trans h4.ext))
  have T : ∀ w', Ext w4 w' → AtN w' pt 0 (t.cs vl) := fun w' x => (h1.at_.ext (h2.ext.trans (h3.ext.trans (h4.ext.trans x)))).n
  have F : ∀ w', Ext w4 w' → AtN w' pf 0 (f.cs u0 u1 u2) := fun w' x => (h2.at_.ext (h3.ext.trans (h4.ext.trans x))).n
  have O : ∀ w', Ext w4 w' → AtN w' po 0 (o.cs g) := fun w' x => (h3.at_.ext (h4.ext.trans x)).n
  have R : ∀ w', Ext w4 w' → AtN w' pr 0 r.cs := fun w' x => (h4.at_.ext x).n
  simp only [TimeD.cs, TariffD.cs, OrderD.cs, RunD.cs, AtN, KS, Nat.reduceAdd, Nat.reduceMul, Nat.reduceEqDiff, ↓reduceIte, UT] at T F O R
  have hlt : r.Line.toNat < t.Lines.length := by omega
  have hlo : Pl.lineR t r = t.Lines[r.Line.toNat] := by unfold Pl.lineR; simp [List.getD_eq_getElem?_getD, hlt]
  obtain ⟨l0, l1, l2, l3, e1, e2, hR⟩ := (hl.ext x4).line hlt
  have hone := hR.one
  have hres : Pl.fits t f o r = (Pl.c0 (Pl.lineR t r) o && Pl.c1 (Pl.lineR t r) o && Pl.c2 o r && Pl.c3 f (Pl.lineR t r) o && Pl.c4 (Pl.lineR t r) o && Pl.c5 (Pl.lineR t r) o) := rfl
  rw [hlo] at hk hres
  generalize hxx : t.Lines[r.Line.toNat] = x at *
  have t4 := T w4 (Ext.refl _)
  have r4 := R w4 (Ext.refl _)
  simp only [LineD.cs, AtN, KS, Nat.reduceAdd, Nat.reduceMul, Nat.reduceEqDiff, ↓reduceIte, UT] at e1
  simp only [LineD.cs] at hone
  (repeat with_reducible first | refine jy ?_ | refine jw KL54 [3, 11] (aa TF54 (aa t4 (aa r4 (aa e1 (aa hl.s hl.len))))) fun _ => ?_)
  refine SemW_allocT ti82 fun px w5 h5 => ?_
  have b5 := h5.blk
  (repeat with_reducible first | refine jy ?_ | refine jw KL54 [3, 11] TF54 fun _ => ?_)
  refine SemW_setW (by rw [cells82]; decide) (by rw [cells82]; rfl) h5.row (by rw [cells82]; rfl) (by simpa [Value.cells] using hone) fun w6 r6 k6 z6 => ?_
  have r6 : Row w6 px 82 (x.cs l0 l1 l2 l3) := by simpa [Value.cells, LineD.cs] using r6
  have x6 : Ext w4 w6 := Keep.ext h5.ext k6 fun q hq => by omega
  have y6 := x4.trans x6
  have X : ∀ w', Ext w6 w' → AtN w' px 0 (x.cs l0 l1 l2 l3) := fun w' x => (r6.at_.ext x).n
  simp only [LineD.cs, AtN, KS, Nat.reduceAdd, Nat.reduceMul, Nat.reduceEqDiff, ↓reduceIte, UT] at X
  have hR6 := hR.ext x6
  have X6 := X w6 (Ext.refl _)
  have o6 := O w6 x6
  have rr6 := R w6 x6
  have hon := hk.o2
  have hon9 := hk.o9
  have hln := hk.l1
  have hrm := hk.m
  have hol := hR6.o.len
  have hll := hR6.l.len
  obtain ⟨a1, a2, a3⟩ := hR6.o.get (i := 0) (by omega)
  obtain ⟨b1, b2, b3⟩ := hR6.o.get (i := x.Offices.length - 1) (by omega)
  rw [add_zero] at a1 a2
  have n1 : ((x.Offices.length : Int) - 1).toNat = x.Offices.length - 1 := by omega
  have q0 : x.Offices[0]'(by omega) = x.Offices.getD 0 0 := by simp [List.getD_eq_getElem?_getD, show 0 < x.Offices.length by omega]
  have q1 : x.Offices[x.Offices.length - 1]'(by omega) = x.Offices.getD (x.Offices.length - 1) 0 := by simp [List.getD_eq_getElem?_getD, show x.Offices.length - 1 < x.Offices.length by omega]
  rw [q0] at a1
  rw [q1] at b1
  have hcl := hk.c
  obtain ⟨cn, hcn⟩ : ∃ n : Nat, x.Classes = n := ⟨x.Classes.toNat, by omega⟩
  obtain ⟨kn, hkn⟩ : ∃ n : Nat, o.Class = n := ⟨o.Class.toNat, by omega⟩
  have hc0 : Pl.c0 x o = (iand .i64 ((cn : Int).fdiv (2 ^ (min kn 64))) 1 == 1) := by unfold Pl.c0; rw [hcn, hkn, Int.toNat_natCast]
  (repeat with_reducible first | refine jy ?_ | refine jw KL54 [3, 11] (aa TF54 (aa X6 (aa o6 (aa rr6 (aa hR6.o.s (aa hR6.o.len (aa a1 (aa a2 (aa b1 (aa b2 n1)))))))))) fun _ => ?_)
  refine ⟨.bool (Pl.c0 x o), ?_, rfl, ?_⟩
  · rw [hcn, hkn, hc0]
    exact PC_pure call79 fun w7 x7 => rfBit cn kn (by omega) (by omega) w7
  refine ⟨fun _ => ⟨by omega, by omega⟩, fun _ => ⟨by omega, by omega⟩, fun w7 x7 => ?_⟩
  have hb : (!Pl.c0 x o || x.Offices.getD 0 0 != o.From || x.Offices.getD (x.Offices.length - 1) 0 != o.Dest || decide (r.At < o.After) || decide (o.By < r.Arrive) || decide (x.Room < o.Crowd + 1)) = !(Pl.c0 x o && Pl.c1 x o && Pl.c2 o r && Pl.c4 x o) := by
    generalize Pl.c0 x o = c
    rw [Bool.eq_iff_iff]
    simp only [Pl.c1, Pl.c2, Pl.c4, Bool.or_eq_true, Bool.not_eq_true', bne_iff_ne, ne_eq, decide_eq_true_eq, Bool.and_eq_false_iff, decide_eq_false_iff_not]
    constructor
    · rintro (((((h | h) | h) | h) | h) | h)
      · exact .inl (.inl (.inl h))
      · exact .inl (.inl (.inr (.inl h)))
      · exact .inl (.inl (.inr (.inr h)))
      · exact .inl (.inr (.inl (by omega)))
      · exact .inl (.inr (.inr (by omega)))
      · exact .inr (by omega)
    · rintro (((h | (h | h)) | (h | h)) | h)
      · exact .inl (.inl (.inl (.inl (.inl h))))
      · exact .inl (.inl (.inl (.inl (.inr h))))
      · exact .inl (.inl (.inl (.inr h)))
      · exact .inl (.inl (.inr (by omega)))
      · exact .inl (.inr (by omega))
      · exact .inr (by omega)
  have y7 := y6.trans x7
  have fal : (Pl.c0 x o && Pl.c1 x o && Pl.c2 o r && Pl.c4 x o) = false → Pl.fits t f o r = false := fun h => by
    rw [hres]
    revert h
    cases Pl.c0 x o <;> cases Pl.c1 x o <;> cases Pl.c2 o r <;> cases Pl.c4 x o <;> simp
  refine Run_condS (fun _ => rfl) (fun h => ?_) (fun h => ?_)
  · have h2 : (!(Pl.c0 x o && Pl.c1 x o && Pl.c2 o r && Pl.c4 x o)) = true := hb.symm.trans h
    (repeat with_reducible first | refine jy ?_ | refine jw KL54 [3, 11] TF54 fun _ => ?_)
    refine Run_ret ?_
    simp [Rets, RetM, resV, fnd, oneOr, fal (by simpa only [Bool.not_eq_true'] using h2), y7]
  have h2 : (!(Pl.c0 x o && Pl.c1 x o && Pl.c2 o r && Pl.c4 x o)) = false := hb.symm.trans h
  have hres2 : Pl.fits t f o r = (Pl.c3 f x o && Pl.c5 x o) := by
    rw [hres]
    simp only [Bool.not_eq_false', Bool.and_eq_true] at h2
    rw [h2.1.1.1, h2.1.1.2, h2.1.2, h2.2]; simp
  clear h h2 hb fal hres
  have f7 := F w7 (x6.trans x7)
  have o7 := O w7 (x6.trans x7)
  have X7 := X w7 x7
  (repeat with_reducible first | refine jy ?_ | refine jw KL54 [3, 11] (aa TF54 (aa f7 (aa o7 (aa X7 (aa hR6.l.s hR6.l.len))))) fun _ => ?_)
  refine CallW_pure call80 (rfPriceW f u0 u1 u2 o.Class x.Legs.length o.Crowd w7 (hT.ext y7)) fun w8 x8 => ?_
  have y8 := y7.trans x8
  have o8 := O w8 (x6.trans (x7.trans x8))
  (repeat with_reducible first | refine jy ?_ | refine jw KL54 [3, 11] (aa TF54 o8) fun _ => ?_)
  refine Run_condS (fun _ => rfl) (fun h => ?_) (fun h => ?_)
  · simp at h
    have : Pl.c3 f x o = false := by unfold Pl.c3; simp; omega
    (repeat with_reducible first | refine jy ?_ | refine jw KL54 [3, 11] TF54 fun _ => ?_)
    refine Run_ret ?_
    simp [Rets, RetM, resV, fnd, oneOr, hres2, this, y8]
  simp at h
  have h3 : Pl.c3 f x o = true := by unfold Pl.c3; simp; omega
  rw [h3, Bool.true_and] at hres2
  (repeat with_reducible first | refine jy ?_ | refine jw KL54 [3, 11] TF54 fun _ => ?_)
  refine Run_loopV [8, 13, 89, 100] (σ := Nat) (fun k => [(13, some (.int .i64 k)), (8, some (.bool false))]) (fun k w' => k ≤ x.Offices.length ∧ (∀ j (h : j < x.Offices.length), j < k → o.Against.contains x.Offices[j] = true) ∧ Ext w8 w') (fun k => x.Offices.length - k) 0 (by simp [SubB, fnd]) ⟨by omega, by simp, Ext.refl _⟩ ?_
  rintro k w9 ⟨hkk, hf, x9⟩
  have y9 := y8.trans x9
  have z9 := x7.trans (x8.trans x9)
  (repeat with_reducible first | refine jy ?_ | refine jw KL54 [3, 11] TF54 fun _ => ?_)
  refine Run_condS (fun _ => rfl) (fun h => ?_) (fun h => ?_)
  · simp at h
    have hkl := h
    obtain ⟨f1, f2, f3⟩ := (hR6.o.ext z9).get hkl
    have o9 := O w9 (x6.trans z9)
    have X9 := X w9 z9
    generalize hoo : x.Offices[k] = q at *
    (repeat with_reducible first | refine jy ?_ | refine jw KL54 [3, 11] (aa TF54 (aa o9 (aa X9 (aa hR6.o.s (aa hR6.o.len (aa f1 f2)))))) fun _ => ?_)
    refine ⟨.int .i64 (idx q o.Against 0), PC_pure call81 fun w10 x10 => rfIndex g o.Against q w10 (hO.g.ext (y9.trans x10)), rfl, fun w10 x10 => ?_⟩
    have y10 := y9.trans x10
    have him : decide (idx q o.Against 0 < 0) = !o.Against.contains q := by
      rw [← idx_mem (k := 0) (by omega), Bool.eq_iff_iff]; simp
    refine Run_condS (fun _ => rfl) (fun h => ?_) (fun h => ?_)
    · have h2 : (!o.Against.contains q) = true := him.symm.trans h
      (repeat with_reducible first | refine jy ?_ | refine jw KL54 [3, 11] TF54 fun _ => ?_)
      refine Run_ret ?_
      have : Pl.c5 x o = true := by
        unfold Pl.c5
        rw [List.any_eq_true]
        exact ⟨q, by rw [← hoo]; exact List.getElem_mem hkl, h2⟩
      simp [Rets, RetM, resV, fnd, oneOr, hres2, this, y10]
    · have h2 : (!o.Against.contains q) = false := him.symm.trans h
      (repeat with_reducible first | refine jy ?_ | refine jw KL54 [3, 11] TF54 fun _ => ?_)
      refine Run_lp ⟨k + 1, ?_, ⟨by omega, fun j hj hjk => ?_, x9.trans x10⟩, by omega⟩
      · simp [SubB, fnd, strike, has]
      · by_cases e : j = k
        · subst e; rw [hoo]; simpa using h2
        · exact hf j hj (by omega)
  · simp at h
    obtain rfl : k = x.Offices.length := by omega
    (repeat with_reducible first | refine jy ?_ | refine jw KL54 [3, 11] TF54 fun _ => ?_)
    refine Run_ret ?_
    have : Pl.c5 x o = false := by
      unfold Pl.c5
      rw [List.any_eq_false]
      intro y hy
      obtain ⟨j, hj, rfl⟩ := List.getElem_of_mem hy
      rw [hf j hj hj]; simp
    simp [Rets, RetM, resV, fnd, oneOr, hres2, this, y9]
end Go.Proofs.YtldjfebokojmfaaGreat
