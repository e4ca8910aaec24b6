/- Chapters 18, 21, 22: the references' Right, Price, Error, fits, Load. -/
import Derived.Test.YtoadfmgnpmcbfaaGreatW22e
namespace Go.Proofs.YtoadfmgnpmcbfaaGreat
open Go Go.Fk
set_option linter.unusedSimpArgs false
set_option linter.unusedVariables false
set_option maxRecDepth 100000

theorem rfExtra (f : TariffD) (u0 u1 u2 : Value) (c : Int) (w : World) (hT : TarR w f u0 u1 u2) :
    Calls Tryz.prog 140 #[.agg (f.cs u0 u1 u2).toArray, .int .i64 c] w fun e w' => e = .returned (.int .i64 (Tf.extra f c)) ∧ Ext w w' := by
  have hn := hT.t.small
  have hl := hT.t.len
  refine Calls_of_Run (args := [.agg (f.cs u0 u1 u2).toArray, .int .i64 c]) (n := 29) (rs := [.tmp 4]) Tryz.func140 rfl rfl rfl (by simp) ?_
  (repeat with_reducible first | refine js ?_ | refine ja ?_ | refine jw KL140 [] TF140 fun _ => ?_)
  refine SemW_box fun pf w1 h1 => ?_
  have x1 := h1.ext
  have F : ∀ w', Ext w1 w' → AtN w' pf 0 (f.cs u0 u1 u2) := fun w' x => (h1.at_.ext x).n
  simp only [TariffD.cs, AtN, KS, Nat.reduceAdd, Nat.reduceMul, Nat.reduceEqDiff, ↓reduceIte, UT] at F
  (repeat with_reducible first | refine js ?_ | refine ja ?_ | refine jw KL140 [] TF140 fun _ => ?_)
  refine Run_loopV [5, 6, 11, 21] (σ := Nat × Int) (fun s => [(6, some (.int .i64 s.1)), (5, some (.int .i64 s.2))]) (fun s w' => s.1 ≤ f.Tiers.length ∧ Tf.extra f c = Tf.extraF c (f.Tiers.drop s.1) s.2 ∧ Ext w1 w') (fun s => f.Tiers.length - s.1) (0, 0) (by simp [SubB, fnd]) ⟨by simp, by simp [Tf.extra], Ext.refl _⟩ ?_
  rintro ⟨k, a⟩ w2 ⟨hk, hf, x2⟩
  simp only at hk hf
  have f2 := F w2 x2
  (repeat with_reducible first | refine js ?_ | refine ja ?_ | refine jw KL140 [] (aa TF140 (aa f2 (aa hT.t.s hT.t.len))) fun _ => ?_)
  refine Run_condS (fun _ => rfl) (fun h => ?_) (fun h => ?_)
  · simp at h
    have hkl := h
    obtain ⟨g1, g2⟩ := (hT.t.ext (x1.trans x2)).tierD hkl
    rw [Tf.extraF_drop hkl] at hf
    generalize hxx : f.Tiers[k] = x at *
    simp only [TierD.cs, AtN, KS, Nat.reduceAdd, Nat.reduceMul, Nat.reduceEqDiff, ↓reduceIte, UT] at g1
    (repeat with_reducible first | refine js ?_ | refine ja ?_ | refine jw KL140 [] (aa TF140 (aa f2 (aa hT.t.s (aa hT.t.len g1)))) fun _ => ?_)
    refine Run_condS (fun _ => rfl) (fun h => ?_) (fun h => ?_)
    · simp at h
      rw [if_pos h] at hf
      (repeat with_reducible first | refine js ?_ | refine ja ?_ | refine jw KL140 [] (aa TF140 (aa f2 (aa hT.t.s (aa hT.t.len g1)))) fun _ => ?_)
      refine Run_lp ⟨(k + 1, x.Extra), ?_, ⟨by simp only; omega, hf, x2⟩, by simp only; omega⟩
      simp [SubB, fnd, strike, has]
    · simp at h
      rw [if_neg (by omega)] at hf
      (repeat with_reducible first | refine js ?_ | refine ja ?_ | refine jw KL140 [] TF140 fun _ => ?_)
      refine Run_lp ⟨(k + 1, a), ?_, ⟨by simp only; omega, hf, x2⟩, by simp only; omega⟩
      simp [SubB, fnd, strike, has]
  · simp at h
    obtain rfl : k = f.Tiers.length := by omega
    rw [List.drop_length] at hf
    (repeat with_reducible first | refine js ?_ | refine ja ?_ | refine jw KL140 [] TF140 fun _ => ?_)
    refine Run_ret ?_
    simp [Rets, RetM, resV, fnd, oneOr, hf, Tf.extraF]
    exact x1.trans x2
theorem rfWrong (f : TariffD) (u0 u1 u2 : Value) (c l k : Int) (w : World) (hT : TarR w f u0 u1 u2) :
    Calls Tryz.prog 139 #[.agg (f.cs u0 u1 u2).toArray, .int .i64 c, .int .i64 l, .int .i64 k] w fun e w' => e = .returned (.int .i64 (Tf.wrong f c l k)) ∧ Ext w w' := by
  have lb := hT.b.len
  refine Calls_of_Run (args := [.agg (f.cs u0 u1 u2).toArray, .int .i64 c, .int .i64 l, .int .i64 k]) (n := 37) (rs := [.tmp 8]) Tryz.func139 rfl rfl rfl (by simp) ?_
  (repeat with_reducible first | refine js ?_ | refine ja ?_ | refine jw KL139 [] TF139 fun _ => ?_)
  refine SemW_box fun pf w1 h1 => ?_
  have x1 := h1.ext
  have F : ∀ w', Ext w1 w' → AtN w' pf 0 (f.cs u0 u1 u2) := fun w' x => (h1.at_.ext x).n
  simp only [TariffD.cs, AtN, KS, Nat.reduceAdd, Nat.reduceMul, Nat.reduceEqDiff, ↓reduceIte, UT] at F
  have f1 := F w1 (Ext.refl _)
  (repeat with_reducible first | refine js ?_ | refine ja ?_ | refine jw KL139 [] (aa TF139 f1) fun _ => ?_)
  refine CallW_pure call162 (rfCheck21 f u0 u1 u2 w1 (hT.ext x1)) fun w2 x2 => ?_
  have y2 := x1.trans x2
  (repeat with_reducible first | refine js ?_ | refine ja ?_ | refine jw KL139 [] TF139 fun _ => ?_)
  refine Run_condS (fun _ => rfl) (fun h => ?_) (fun h => ?_)
  · have hc : Tf.chk f ≠ 0 := by simpa using h
    (repeat with_reducible first | refine js ?_ | refine ja ?_ | refine jw KL139 [] TF139 fun _ => ?_)
    refine Run_ret ?_
    have : Tf.wrong f c l k = 210 := by unfold Tf.wrong; rw [if_pos hc]
    simp [Rets, RetM, resV, fnd, oneOr, this, y2]
  have hc : Tf.chk f = 0 := by simpa using h
  have f2 := F w2 x2
  (repeat with_reducible first | refine js ?_ | refine ja ?_ | refine jw KL139 [] (aa TF139 (aa f2 (aa hT.b.s hT.b.len))) fun _ => ?_)
  refine Run_condS (fun _ => rfl) (fun h => ?_) (fun h => ?_)
  · (repeat with_reducible first | refine js ?_ | refine ja ?_ | refine jw KL139 [] TF139 fun _ => ?_)
    refine Run_ret ?_
    have : Tf.wrong f c l k = 1 := by
      unfold Tf.wrong
      rw [if_neg (by simp [hc]), if_pos]
      simp at h; omega
    simp [Rets, RetM, resV, fnd, oneOr, this, y2]
  · (repeat with_reducible first | refine js ?_ | refine ja ?_ | refine jw KL139 [] TF139 fun _ => ?_)
    refine Run_ret ?_
    have : Tf.wrong f c l k = 0 := by
      unfold Tf.wrong
      rw [if_neg (by simp [hc]), if_neg]
      simp at h; omega
    simp [Rets, RetM, resV, fnd, oneOr, this, y2]
theorem rfPriceW (f : TariffD) (u0 u1 u2 : Value) (c l k : Int) (w : World) (hT : TarR w f u0 u1 u2) :
    Calls Tryz.prog 92 #[.agg (f.cs u0 u1 u2).toArray, .int .i64 c, .int .i64 l, .int .i64 k] w fun e w' => e = .returned (.tuple #[.int .i64 (Tf.pri f c l k).1, .int .i64 (Tf.pri f c l k).2]) ∧ Ext w w' := by
  have lb := hT.b.len
  have ll := hT.l.len
  refine Calls_of_Run (args := [.agg (f.cs u0 u1 u2).toArray, .int .i64 c, .int .i64 l, .int .i64 k]) (n := 36) (rs := [.tmp 8, .tmp 9]) Tryz.func92 rfl rfl rfl (by simp) ?_
  (repeat with_reducible first | refine js ?_ | refine ja ?_ | refine jw KL92 [4] TF92 fun _ => ?_)
  refine SemW_box fun pf w1 h1 => ?_
  have x1 := h1.ext
  have F : ∀ w', Ext w1 w' → AtN w' pf 0 (f.cs u0 u1 u2) := fun w' x => (h1.at_.ext x).n
  simp only [TariffD.cs, AtN, KS, Nat.reduceAdd, Nat.reduceMul, Nat.reduceEqDiff, ↓reduceIte, UT] at F
  have f1 := F w1 (Ext.refl _)
  (repeat with_reducible first | refine js ?_ | refine ja ?_ | refine jw KL92 [4] (aa TF92 f1) fun _ => ?_)
  refine CallW_pure call139 (rfWrong f u0 u1 u2 c l k w1 (hT.ext x1)) fun w2 x2 => ?_
  have y2 := x1.trans x2
  (repeat with_reducible first | refine js ?_ | refine ja ?_ | refine jw KL92 [4] TF92 fun _ => ?_)
  refine Run_condS (fun _ => rfl) (fun h => ?_) (fun h => ?_)
  · have hw : Tf.wrong f c l k ≠ 0 := by simpa using h
    (repeat with_reducible first | refine js ?_ | refine ja ?_ | refine jw KL92 [4] TF92 fun _ => ?_)
    refine Run_ret ?_
    have : Tf.pri f c l k = (0, Tf.wrong f c l k) := by unfold Tf.pri; rw [if_pos hw]
    simp [Rets, RetM, resV, fnd, oneOr, this, y2]
  have hw : Tf.wrong f c l k = 0 := by simpa using h
  clear h
  have hin : Tf.chk f = 0 ∧ (0 ≤ c ∧ c < f.Base.length) ∧ 1 ≤ l ∧ l ≤ 8 := by
    have hw' := hw
    unfold Tf.wrong at hw'
    split at hw'
    · cases hw'
    · rename_i h1
      split at hw'
      · cases hw'
      · exact ⟨by simpa using h1, by omega, by omega, by omega⟩
  obtain ⟨hc, hcb, hl⟩ := hin
  have ok := Tf.chk_ok hc
  have hcb2 : c.toNat < f.Base.length := by omega
  have hcl2 : c.toNat < f.Leg.length := by have := ok.n; omega
  obtain ⟨a1, a2, a3⟩ := (hT.b.ext y2).get hcb2
  obtain ⟨b1, b2, b3⟩ := (hT.l.ext y2).get hcl2
  have ebase : f.Base[c.toNat] = Tf.base f c := by unfold Tf.base; simp [List.getD_eq_getElem?_getD, hcb2]
  have eleg : f.Leg[c.toNat] = Tf.leg f c := by unfold Tf.leg; simp [List.getD_eq_getElem?_getD, hcl2]
  have bbd := Tf.base_bd hc c
  have lbd := Tf.leg_bd hc c
  have xbd := Tf.extra_bd hc k
  rw [ebase] at a1
  rw [eleg] at b1
  have f2 := F w2 x2
  have nl := ok.n
  have hmul : 0 ≤ l * Tf.leg f c ∧ l * Tf.leg f c ≤ 8 * 1048576 := ⟨Int.mul_nonneg (by omega) (by omega), Int.mul_le_mul hl.2 lbd.2 lbd.1 (by omega)⟩
  have hres : Tf.pri f c l k = (Tf.base f c + l * Tf.leg f c + Tf.extra f k, 0) := by unfold Tf.pri; rw [if_neg (by simp [hw])]
  generalize hq : l * Tf.leg f c = q at *
  (repeat with_reducible first | refine js ?_ | refine ja ?_ | refine jw KL92 [4] (aa TF92 (aa f2 (aa hT.b.s (aa hT.b.len (aa hT.l.s (aa hT.l.len (aa a1 (aa a2 (aa b1 (aa b2 hq)))))))))) fun _ => ?_)
  refine ⟨.int .i64 (Tf.extra f k), PC_pure call140 fun w3 x3 => rfExtra f u0 u1 u2 k w3 (hT.ext (y2.trans x3)), rfl, fun w3 x3 => ?_⟩
  (repeat with_reducible first | refine js ?_ | refine ja ?_ | refine jw KL92 [4] TF92 fun _ => ?_)
  refine Run_ret ?_
  have e1 : IntKind.i64.wrap (Tf.base f c + q + Tf.extra f k) = Tf.base f c + q + Tf.extra f k := wrapI (by omega) (by omega)
  simp [Rets, RetM, resV, fnd, oneOr, hres, e1]
  exact y2.trans x3
theorem bit_fin : ∀ c : Fin 256, ∀ k : Fin 8, (iand .i64 (((c : Nat) : Int).fdiv (2 ^ (min (k : Nat) 64))) 1 == 1) = decide (((c : Nat) / 2 ^ (k : Nat)) % 2 = 1) := by decide +kernel
theorem rfBit (c k : Nat) (hc : c < 256) (hk : k < 8) (w : World) : Calls Tryz.prog 166 #[.int .i64 (c : Int), .int .i64 (k : Int)] w fun e w' => e = .returned (.bool (iand .i64 ((c : Int).fdiv (2 ^ (min k 64))) 1 == 1)) ∧ Ext w w' := by
  refine Calls_of_Run (args := [.int .i64 (c : Int), .int .i64 (k : Int)]) (n := 16) (rs := [.tmp 4]) Tryz.func166 rfl rfl rfl (by simp) ?_
  (repeat with_reducible first | refine js ?_ | refine ja ?_ | refine jw KL166 [] TF166 fun _ => ?_)
  refine Run_loopV [0, 5, 8] (σ := Nat) (fun j => [(5, some (.int .i64 j)), (0, some (.int .i64 ((c / 2 ^ j : Nat) : Int)))]) (fun j w' => j ≤ k ∧ Ext w w') (fun j => k - j) 0 (by simp [SubB, fnd]) ⟨by omega, Ext.refl _⟩ ?_
  rintro j w1 ⟨hj, x1⟩
  have hle : c / 2 ^ j ≤ c := Nat.div_le_self _ _
  (repeat with_reducible first | refine js ?_ | refine ja ?_ | refine jw KL166 [] TF166 fun _ => ?_)
  refine Run_condS (fun _ => rfl) (fun h => ?_) (fun h => ?_)
  · simp at h
    generalize hq : c / 2 ^ j = q at *
    (repeat with_reducible first | refine js ?_ | refine ja ?_ | refine jw KL166 [] TF166 fun _ => ?_)
    refine Run_lp ⟨j + 1, ?_, ⟨by omega, x1⟩, by omega⟩
    have e : c / 2 ^ (j + 1) = q / 2 := by rw [Nat.pow_succ, ← Nat.div_div_eq_div_mul, hq]
    rw [e]
    have e2 : ((q / 2 : Nat) : Int) = (q : Int) / 2 := by omega
    rw [e2]
    simp [SubB, fnd, strike, has]
  · simp at h
    obtain rfl : j = k := by omega
    have hb := bit_fin ⟨c, hc⟩ ⟨j, hk⟩
    simp only at hb
    generalize hq : c / 2 ^ j = q at *
    (repeat with_reducible first | refine js ?_ | refine ja ?_ | refine jw KL166 [] TF166 fun _ => ?_)
    refine Run_ret ?_
    simp only [Rets, RetM, resV, fnd, oneOr, ↓reduceIte]
    refine ⟨_, rfl, ?_, x1⟩
    rw [hb]
    congr 2
    rw [Bool.eq_iff_iff]; simp; omega
theorem rfLoad (vo vr : Value) (l : List OrderD) (of : List RunD) (r : RunD) (w : World) (ho : Sl w vo l) (hr : Sl w vr of) (hlen : of.length ≤ l.length) (hcr : ∀ o ∈ l, 1 ≤ o.Crowd ∧ o.Crowd ≤ 64) (h64 : l.length ≤ 1000000) (hI : RunI r) :
    Calls Tryz.prog 108 #[vo, vr, .agg r.cs.toArray] w fun e w' => e = .returned (.tuple #[.int .i64 (Pl.load l of r).n, .int .i64 (Pl.load l of r).c]) ∧ Ext w w' := by
  have hol := ho.len
  have hrl := hr.len
  refine Calls_of_Run (args := [vo, vr, .agg r.cs.toArray]) (n := 35) (rs := [.tmp 6, .tmp 7]) Tryz.func108 rfl rfl rfl (by simp) ?_
  (repeat with_reducible first | refine js ?_ | refine ja ?_ | refine jw KL108 [6] TF108 fun _ => ?_)
  refine SemW_box fun pr w1 h1 => ?_
  have x1 := h1.ext
  have R : ∀ w', Ext w1 w' → AtN w' pr 0 r.cs := fun w' x => (h1.at_.ext x).n
  simp only [RunD.cs, AtN, KS, Nat.reduceAdd, Nat.reduceMul, Nat.reduceEqDiff, ↓reduceIte, UT] at R
  (repeat with_reducible first | refine js ?_ | refine ja ?_ | refine jw KL108 [6] TF108 fun _ => ?_)
  refine Run_loopV [8, 9, 10, 14, 22] (σ := Nat) (fun k => [(10, some (.int .i64 k)), (8, some (.int .i64 (Pl.load l (of.take k) r).n)), (9, some (.int .i64 (Pl.load l (of.take k) r).c))]) (fun k w' => k ≤ of.length ∧ Ext w1 w') (fun k => of.length - k) 0 (by simp [SubB, fnd, Pl.load, Pl.loadF, Pl.LoadD.zero]) ⟨by omega, Ext.refl _⟩ ?_
  rintro k w2 ⟨hk, x2⟩
  have y2 := x1.trans x2
  (repeat with_reducible first | refine js ?_ | refine ja ?_ | refine jw KL108 [6] (aa TF108 (aa hr.s hr.len)) fun _ => ?_)
  refine Run_condS (fun _ => rfl) (fun h => ?_) (fun h => ?_)
  · simp at h
    have hkl := h
    have hko : k < l.length := by omega
    obtain ⟨q1, q2⟩ := (hr.ext y2).runD hkl
    obtain ⟨g, o1, o2, hO⟩ := (ho.ext y2).ord hko
    have hl2 : (of.take k).length = k := by simp; omega
    have htk : of.take (k + 1) = of.take k ++ [of[k]] := List.take_succ_eq_append_getElem hkl
    have hsn := Pl.load_snoc (l := l) (of := of.take k) (by omega) of[k] r
    have hbd := Pl.load_bd hcr (of.take k) r
    have hcro := hcr _ (List.getElem_mem hko)
    simp only [hl2] at hsn
    rw [← htk] at hsn
    generalize hqq : of[k] = s at *
    generalize hoo : l[k] = o at *
    generalize Pl.load l (of.take k) r = ld at *
    have r2 := R w2 x2
    simp only [RunD.cs, OrderD.cs, AtN, KS, Nat.reduceAdd, Nat.reduceMul, Nat.reduceEqDiff, ↓reduceIte, UT] at q1 o1
    have hfl : flatT Tryz.prog 54 = true := by kernel_rfl
    (repeat with_reducible first | refine js ?_ | refine ja ?_ | refine jw KL108 [6] (aa TF108 (aa hr.s (aa hr.len (aa q1 (aa r2 hfl))))) fun _ => ?_)
    intro w3 x3
    have y3 := y2.trans x3
    have o3 := (o2.ext x3).n
    simp only [OrderD.cs, AtN, KS, Nat.reduceAdd, Nat.reduceMul, Nat.reduceEqDiff, ↓reduceIte, UT] at o3
    refine Run_condS (fun _ => rfl) (fun h => ?_) (fun h => ?_)
    · have hsr : s = r := by
        cases s; cases r
        simp at h
        simp [h]
      rw [if_pos hsr] at hsn
      (repeat with_reducible first | refine js ?_ | refine ja ?_ | refine jw KL108 [6] (aa TF108 (aa ho.s (aa ho.len o3))) fun _ => ?_)
      refine Run_lp ⟨k + 1, ?_, ⟨by omega, x2.trans x3⟩, by omega⟩
      rw [hsn]
      simp only [Pl.LoadD.wth]
      simp [SubB, fnd, strike, has]
    · have hsr : ¬ s = r := by
        rintro rfl
        simp at h
      rw [if_neg hsr] at hsn
      (repeat with_reducible first | refine js ?_ | refine ja ?_ | refine jw KL108 [6] TF108 fun _ => ?_)
      refine Run_lp ⟨k + 1, ?_, ⟨by omega, x2.trans x3⟩, by omega⟩
      rw [hsn]
      simp [SubB, fnd, strike, has]
  · simp at h
    obtain rfl : k = of.length := by omega
    rw [List.take_length]
    (repeat with_reducible first | refine js ?_ | refine ja ?_ | refine jw KL108 [6] TF108 fun _ => ?_)
    refine Run_ret ?_
    simp [Rets, RetM, resV, fnd, oneOr]
    exact y2
theorem agF_iff {n : Int} : ∀ {l : List Int} {a : Int}, Pl.agF n a l = true ↔ ∀ k (h : k < l.length), (if k = 0 then a else l.getD (k - 1) 0) < l[k] ∧ l[k] < n
  | [], a => by simp [Pl.agF]
  | x :: r, a => by
    simp only [Pl.agF, Bool.and_eq_true, decide_eq_true_eq, agF_iff (l := r)]
    constructor
    · rintro ⟨h1, h2⟩ k hk
      cases k with
      | zero => simpa using h1
      | succ k =>
        have := h2 k (by simpa using hk)
        cases k with
        | zero => simpa using this
        | succ k => simpa using this
    · intro h
      have h0 := h 0 (by simp)
      refine ⟨by simpa using h0, fun k hk => ?_⟩
      have := h (k + 1) (by simpa using hk)
      cases k with
      | zero => simpa using this
      | succ k => simpa using this
def agP (n : Int) (l : List Int) (k : Nat) : Bool := decide (0 ≤ l.getD k 0) && decide (l.getD k 0 < n) && (decide (k = 0) || decide (l.getD (k - 1) 0 < l.getD k 0))
theorem agF_all (n : Int) (l : List Int) : Pl.agF n (-1) l = allN l.length (agP n l) := by
  rw [Bool.eq_iff_iff, agF_iff, allN_iff]
  have hg : ∀ {k}, (hk : k < l.length) → l.getD k 0 = l[k] := fun hk => by simp [List.getD_eq_getElem?_getD, hk]
  constructor
  · intro h k hk
    have hk1 := h k hk
    have h0 : 0 ≤ l[k] := by
      have key : ∀ j (hj : j < l.length), 0 ≤ l[j] := by
        intro j
        induction j with
        | zero => intro hj; have := h 0 hj; simp at this; omega
        | succ j ih =>
          intro hj
          have := h (j + 1) hj
          have := ih (by omega)
          simp only [Nat.add_sub_cancel, if_neg (show ¬ j + 1 = 0 by omega), hg (show j < l.length by omega)] at *
          omega
      exact key k hk
    unfold agP
    rw [hg hk]
    by_cases k0 : k = 0
    · subst k0; simp; exact ⟨h0, hk1.2⟩
    · rw [if_neg k0] at hk1
      simp [k0]
      refine ⟨⟨h0, hk1.2⟩, ?_⟩
      simpa using hk1.1
  · intro h k hk
    have := h k hk
    unfold agP at this
    rw [hg hk] at this
    simp only [Bool.and_eq_true, decide_eq_true_eq, Bool.or_eq_true] at this
    refine ⟨?_, this.1.2⟩
    split
    · omega
    · rcases this.2 with h1 | h1
      · omega
      · exact h1
end Go.Proofs.YtoadfmgnpmcbfaaGreat
