import Derived.Test.YtoadfmgnpmcbfaaGreatQnGc
import Derived.Test.YtoadfmgnpmcbfaaGreatQnW20x
import Derived.Test.YtoadfmgnpmcbfaaGreatQnGe
import Derived.Test.YtoadfmgnpmcbfaaGreatQnGb
namespace Go.Proofs.YtoadfmgnpmcbfaaGreat
open Go Go.Fk
set_option linter.unusedSimpArgs false
set_option linter.unusedVariables false
set_option maxRecDepth 100000
theorem rfExtra (f : TariffD) (u0 u1 u2 : Value) (c : Int) (w : World) (hT : TarR w f u0 u1 u2) :
    Calls Tryz.prog 140 #[.agg (f.cs u0 u1 u2).toArray, .int .i64 c] w fun e w' => e = .returned (.int .i64 (Tf.extra f c)) ∧ Ext w w' := by
  have hn := hT.t.small
  have hl := hT.t.len
  refine Calls_of_Run (args := [.agg (f.cs u0 u1 u2).toArray, .int .i64 c]) (n := 29) (rs := [.tmp 4]) Tryz.func140 rfl rfl rfl (by simp) ?_
  (repeat with_reducible first | refine js ?_ | refine ja ?_ | refine jw KL140 [] TF140 fun _ => ?_)
  refine SemW_box fun pf w1 h1 => ?_
  have x1 := h1.ext
  have F : ∀ w', Ext w1 w' → AtN w' pf 0 (f.cs u0 u1 u2) := fun w' x => (h1.at_.ext x).n
  simp only [TariffD.cs, AtN, KS, Nat.reduceAdd, Nat.reduceMul, Nat.reduceEqDiff, ↓reduceIte, UT] at F
  (repeat with_reducible first | refine js ?_ | refine ja ?_ | refine jw KL140 [] TF140 fun _ => ?_)
  refine Run_loopV [5, 6, 11, 21] (σ := Nat × Int) (fun s => [(6, some (.int .i64 s.1)), (5, some (.int .i64 s.2))]) (fun s w' => s.1 ≤ f.Tiers.length ∧ Tf.extra f c = Tf.extraF c (f.Tiers.drop s.1) s.2 ∧ Ext w1 w') (fun s => f.Tiers.length - s.1) (0, 0) (by simp [SubB, fnd]) ⟨by simp, by simp [Tf.extra], Ext.refl _⟩ ?_
  rintro ⟨k, a⟩ w2 ⟨hk, hf, x2⟩
  simp only at hk hf
  have f2 := F w2 x2
  (repeat with_reducible first | refine js ?_ | refine ja ?_ | refine jw KL140 [] (aa TF140 (aa f2 (aa hT.t.s hT.t.len))) fun _ => ?_)
  refine Run_condS (fun _ => rfl) (fun h => ?_) (fun h => ?_)
  · simp at h
    have hkl := h
    obtain ⟨g1, g2⟩ := (hT.t.ext (x1.trans x2)).tierD hkl
    rw [Tf.extraF_drop hkl] at hf
    generalize hxx : f.Tiers[k] = x at *
    simp only [TierD.cs, AtN, KS, Nat.reduceAdd, Nat.reduceMul, Nat.reduceEqDiff, ↓reduceIte, UT] at g1
    (repeat with_reducible first | refine js ?_ | refine ja ?_ | refine jw KL140 [] (aa TF140 (aa f2 (aa hT.t.s (aa hT.t.len g1)))) fun _ => ?_)
    refine Run_condS (fun _ => rfl) (fun h => ?_) (fun h => ?_)
    · simp at h
      rw [if_pos h] at hf
      (repeat with_reducible first | refine js ?_ | refine ja ?_ | refine jw KL140 [] (aa TF140 (aa f2 (aa hT.t.s (aa hT.t.len g1)))) fun _ => ?_)
      refine Run_lp ⟨(k + 1, x.Extra), ?_, ⟨by simp only; omega, hf, x2⟩, by simp only; omega⟩
      simp [SubB, fnd, strike, has]
    · simp at h
      rw [if_neg (by omega)] at hf
      (repeat with_reducible first | refine js ?_ | refine ja ?_ | refine jw KL140 [] TF140 fun _ => ?_)
      refine Run_lp ⟨(k + 1, a), ?_, ⟨by simp only; omega, hf, x2⟩, by simp only; omega⟩
      simp [SubB, fnd, strike, has]
  · simp at h
    obtain rfl : k = f.Tiers.length := by omega
    rw [List.drop_length] at hf
    (repeat with_reducible first | refine js ?_ | refine ja ?_ | refine jw KL140 [] TF140 fun _ => ?_)
    refine Run_ret ?_
    simp [Rets, RetM, resV, fnd, oneOr, hf, Tf.extraF]
    exact x1.trans x2
theorem rfWrong (f : TariffD) (u0 u1 u2 : Value) (c l k : Int) (w : World) (hT : TarR w f u0 u1 u2) :
    Calls Tryz.prog 139 #[.agg (f.cs u0 u1 u2).toArray, .int .i64 c, .int .i64 l, .int .i64 k] w fun e w' => e = .returned (.int .i64 (Tf.wrong f c l k)) ∧ Ext w w' := by
  have lb := hT.b.len
  refine Calls_of_Run (args := [.agg (f.cs u0 u1 u2).toArray, .int .i64 c, .int .i64 l, .int .i64 k]) (n := 37) (rs := [.tmp 8]) Tryz.func139 rfl rfl rfl (by simp) ?_
  (repeat with_reducible first | refine js ?_ | refine ja ?_ | refine jw KL139 [] TF139 fun _ => ?_)
  refine SemW_box fun pf w1 h1 => ?_
  have x1 := h1.ext
  have F : ∀ w', Ext w1 w' → AtN w' pf 0 (f.cs u0 u1 u2) := fun w' x => (h1.at_.ext x).n
  simp only [TariffD.cs, AtN, KS, Nat.reduceAdd, Nat.reduceMul, Nat.reduceEqDiff, ↓reduceIte, UT] at F
  have f1 := F w1 (Ext.refl _)
  (repeat with_reducible first | refine js ?_ | refine ja ?_ | refine jw KL139 [] (aa TF139 f1) fun _ => ?_)
  refine CallW_pure call162 (rfCheck21 f u0 u1 u2 w1 (hT.ext x1)) fun w2 x2 => ?_
  have y2 := x1.trans x2
  (repeat with_reducible first | refine js ?_ | refine ja ?_ | refine jw KL139 [] TF139 fun _ => ?_)
  refine Run_condS (fun _ => rfl) (fun h => ?_) (fun h => ?_)
  · have hc : Tf.chk f ≠ 0 := by simpa using h
    (repeat with_reducible first | refine js ?_ | refine ja ?_ | refine jw KL139 [] TF139 fun _ => ?_)
    refine Run_ret ?_
    have : Tf.wrong f c l k = 210 := by unfold Tf.wrong; rw [if_pos hc]
    simp [Rets, RetM, resV, fnd, oneOr, this, y2]
  have hc : Tf.chk f = 0 := by simpa using h
  have f2 := F w2 x2
  (repeat with_reducible first | refine js ?_ | refine ja ?_ | refine jw KL139 [] (aa TF139 (aa f2 (aa hT.b.s hT.b.len))) fun _ => ?_)
  refine Run_condS (fun _ => rfl) (fun h => ?_) (fun h => ?_)
  · (repeat with_reducible first | refine js ?_ | refine ja ?_ | refine jw KL139 [] TF139 fun _ => ?_)
    refine Run_ret ?_
    have : Tf.wrong f c l k = 1 := by
      unfold Tf.wrong
      rw [if_neg (by simp [hc]), if_pos]
      simp at h; omega
    simp [Rets, RetM, resV, fnd, oneOr, this, y2]
  · (repeat with_reducible first | refine js ?_ | refine ja ?_ | refine jw KL139 [] TF139 fun _ => ?_)
    refine Run_ret ?_
    have : Tf.wrong f c l k = 0 := by
      unfold Tf.wrong
      rw [if_neg (by simp [hc]), if_neg]
      simp at h; omega
    simp [Rets, RetM, resV, fnd, oneOr, this, y2]
theorem rfPriceW (f : TariffD) (u0 u1 u2 : Value) (c l k : Int) (w : World) (hT : TarR w f u0 u1 u2) :
    Calls Tryz.prog 92 #[.agg (f.cs u0 u1 u2).toArray, .int .i64 c, .int .i64 l, .int .i64 k] w fun e w' => e = .returned (.tuple #[.int .i64 (Tf.pri f c l k).1, .int .i64 (Tf.pri f c l k).2]) ∧ Ext w w' := by
  have lb := hT.b.len
  have ll := hT.l.len
  refine Calls_of_Run (args := [.agg (f.cs u0 u1 u2).toArray, .int .i64 c, .int .i64 l, .int .i64 k]) (n := 36) (rs := [.tmp 8, .tmp 9]) Tryz.func92 rfl rfl rfl (by simp) ?_
  (repeat with_reducible first | refine js ?_ | refine ja ?_ | refine jw KL92 [4] TF92 fun _ => ?_)
  refine SemW_box fun pf w1 h1 => ?_
  have x1 := h1.ext
  have F : ∀ w', Ext w1 w' → AtN w' pf 0 (f.cs u0 u1 u2) := fun w' x => (h1.at_.ext x).n
  simp only [TariffD.cs, AtN, KS, Nat.reduceAdd, Nat.reduceMul, Nat.reduceEqDiff, ↓reduceIte, UT] at F
  have f1 := F w1 (Ext.refl _)
  (repeat with_reducible first | refine js ?_ | refine ja ?_ | refine jw KL92 [4] (aa TF92 f1) fun _ => ?_)
  refine CallW_pure call139 (rfWrong f u0 u1 u2 c l k w1 (hT.ext x1)) fun w2 x2 => ?_
  have y2 := x1.trans x2
  (repeat with_reducible first | refine js ?_ | refine ja ?_ | refine jw KL92 [4] TF92 fun _ => ?_)
  refine Run_condS (fun _ => rfl) (fun h => ?_) (fun h => ?_)
  · have hw : Tf.wrong f c l k ≠ 0 := by simpa using h
    (repeat with_reducible first | refine js ?_ | refine ja ?_ | refine jw KL92 [4] TF92 fun _ => ?_)
    refine Run_ret ?_
    have : Tf.pri f c l k = (0, Tf.wrong f c l k) := by unfold Tf.pri; rw [if_pos hw]
    simp [Rets, RetM, resV, fnd, oneOr, this, y2]
  have hw : Tf.wrong f c l k = 0 := by simpa using h
  clear h
  have hin : Tf.chk f = 0 ∧ (0 ≤ c ∧ c < f.Base.length) ∧ 1 ≤ l ∧ l ≤ 8 := by
    have hw' := hw
    unfold Tf.wrong at hw'
    split at hw'
    · cases hw'
    · rename_i h1
      split at hw'
      · cases hw'
      · exact ⟨by simpa using h1, by omega, by omega, by omega⟩
  obtain ⟨hc, hcb, hl⟩ := hin
  have ok := Tf.chk_ok hc
  have hcb2 : c.toNat < f.Base.length := by omega
  have hcl2 : c.toNat < f.Leg.length := by have := ok.n; omega
  obtain ⟨a1, a2, a3⟩ := (hT.b.ext y2).get hcb2
  obtain ⟨b1, b2, b3⟩ := (hT.l.ext y2).get hcl2
  have ebase : f.Base[c.toNat] = Tf.base f c := by unfold Tf.base; simp [List.getD_eq_getElem?_getD, hcb2]
  have eleg : f.Leg[c.toNat] = Tf.leg f c := by unfold Tf.leg; simp [List.getD_eq_getElem?_getD, hcl2]
  have bbd := Tf.base_bd hc c
  have lbd := Tf.leg_bd hc c
  have xbd := Tf.extra_bd hc k
  rw [ebase] at a1
  rw [eleg] at b1
  have f2 := F w2 x2
  have nl := ok.n
  have hmul : 0 ≤ l * Tf.leg f c ∧ l * Tf.leg f c ≤ 8 * 1048576 := ⟨Int.mul_nonneg (by omega) (by omega), Int.mul_le_mul hl.2 lbd.2 lbd.1 (by omega)⟩
  have hres : Tf.pri f c l k = (Tf.base f c + l * Tf.leg f c + Tf.extra f k, 0) := by unfold Tf.pri; rw [if_neg (by simp [hw])]
  generalize hq : l * Tf.leg f c = q at *
  (repeat with_reducible first | refine js ?_ | refine ja ?_ | refine jw KL92 [4] (aa TF92 (aa f2 (aa hT.b.s (aa hT.b.len (aa hT.l.s (aa hT.l.len (aa a1 (aa a2 (aa b1 (aa b2 hq)))))))))) fun _ => ?_)
  refine ⟨.int .i64 (Tf.extra f k), PC_pure call140 fun w3 x3 => rfExtra f u0 u1 u2 k w3 (hT.ext (y2.trans x3)), rfl, fun w3 x3 => ?_⟩
  (repeat with_reducible first | refine js ?_ | refine ja ?_ | refine jw KL92 [4] TF92 fun _ => ?_)
  refine Run_ret ?_
  have e1 : IntKind.i64.wrap (Tf.base f c + q + Tf.extra f k) = Tf.base f c + q + Tf.extra f k := wrapI (by omega) (by omega)
  simp [Rets, RetM, resV, fnd, oneOr, hres, e1]
  exact y2.trans x3
theorem bit_fin : ∀ c : Fin 256, ∀ k : Fin 8, (iand .i64 (((c : Nat) : Int).fdiv (2 ^ (min (k : Nat) 64))) 1 == 1) = decide (((c : Nat) / 2 ^ (k : Nat)) % 2 = 1) := by decide +kernel
theorem rfBit (c k : Nat) (hc : c < 256) (hk : k < 8) (w : World) : Calls Tryz.prog 166 #[.int .i64 (c : Int), .int .i64 (k : Int)] w fun e w' => e = .returned (.bool (iand .i64 ((c : Int).fdiv (2 ^ (min k 64))) 1 == 1)) ∧ Ext w w' := by
  refine Calls_of_Run (args := [.int .i64 (c : Int), .int .i64 (k : Int)]) (n := 16) (rs := [.tmp 4]) Tryz.func166 rfl rfl rfl (by simp) ?_
  (repeat with_reducible first | refine js ?_ | refine ja ?_ | refine jw KL166 [] TF166 fun _ => ?_)
  refine Run_loopV [0, 5, 8] (σ := Nat) (fun j => [(5, some (.int .i64 j)), (0, some (.int .i64 ((c / 2 ^ j : Nat) : Int)))]) (fun j w' => j ≤ k ∧ Ext w w') (fun j => k - j) 0 (by simp [SubB, fnd]) ⟨by omega, Ext.refl _⟩ ?_
  rintro j w1 ⟨hj, x1⟩
  have hle : c / 2 ^ j ≤ c := Nat.div_le_self _ _
  (repeat with_reducible first | refine js ?_ | refine ja ?_ | refine jw KL166 [] TF166 fun _ => ?_)
  refine Run_condS (fun _ => rfl) (fun h => ?_) (fun h => ?_)
  · simp at h
    generalize hq : c / 2 ^ j = q at *
    (repeat with_reducible first | refine js ?_ | refine ja ?_ | refine jw KL166 [] TF166 fun _ => ?_)
    refine Run_lp ⟨j + 1, ?_, ⟨by omega, x1⟩, by omega⟩
    have e : c / 2 ^ (j + 1) = q / 2 := by rw [Nat.pow_succ, ← Nat.div_div_eq_div_mul, hq]
    rw [e]
    have e2 : ((q / 2 : Nat) : Int) = (q : Int) / 2 := by omega
    rw [e2]
    simp [SubB, fnd, strike, has]
  · simp at h
    obtain rfl : j = k := by omega
    have hb := bit_fin ⟨c, hc⟩ ⟨j, hk⟩
    simp only at hb
    generalize hq : c / 2 ^ j = q at *
    (repeat with_reducible first | refine js ?_ | refine ja ?_ | refine jw KL166 [] TF166 fun _ => ?_)
    refine Run_ret ?_
    simp only [Rets, RetM, resV, fnd, oneOr, ↓reduceIte]
    refine ⟨_, rfl, ?_, x1⟩
    rw [hb]
    congr 2
    rw [Bool.eq_iff_iff]; simp; omega
theorem rfLoad (vo vr : Value) (l : List OrderD) (of : List RunD) (r : RunD) (w : World) (ho : Sl w vo l) (hr : Sl w vr of) (hlen : of.length ≤ l.length) (hcr : ∀ o ∈ l, 1 ≤ o.Crowd ∧ o.Crowd ≤ 64) (h64 : l.length ≤ 1000000) (hI : RunI r) :
    Calls Tryz.prog 108 #[vo, vr, .agg r.cs.toArray] w fun e w' => e = .returned (.tuple #[.int .i64 (Pl.load l of r).n, .int .i64 (Pl.load l of r).c]) ∧ Ext w w' := by
  have hol := ho.len
  have hrl := hr.len
  refine Calls_of_Run (args := [vo, vr, .agg r.cs.toArray]) (n := 35) (rs := [.tmp 6, .tmp 7]) Tryz.func108 rfl rfl rfl (by simp) ?_
  (repeat with_reducible first | refine js ?_ | refine ja ?_ | refine jw KL108 [6] TF108 fun _ => ?_)
  refine SemW_box fun pr w1 h1 => ?_
  have x1 := h1.ext
  have R : ∀ w', Ext w1 w' → AtN w' pr 0 r.cs := fun w' x => (h1.at_.ext x).n
  simp only [RunD.cs, AtN, KS, Nat.reduceAdd, Nat.reduceMul, Nat.reduceEqDiff, ↓reduceIte, UT] at R
  (repeat with_reducible first | refine js ?_ | refine ja ?_ | refine jw KL108 [6] TF108 fun _ => ?_)
  refine Run_loopV [8, 9, 10, 14, 22] (σ := Nat) (fun k => [(10, some (.int .i64 k)), (8, some (.int .i64 (Pl.load l (of.take k) r).n)), (9, some (.int .i64 (Pl.load l (of.take k) r).c))]) (fun k w' => k ≤ of.length ∧ Ext w1 w') (fun k => of.length - k) 0 (by simp [SubB, fnd, Pl.load, Pl.loadF, Pl.LoadD.zero]) ⟨by omega, Ext.refl _⟩ ?_
  rintro k w2 ⟨hk, x2⟩
  have y2 := x1.trans x2
  (repeat with_reducible first | refine js ?_ | refine ja ?_ | refine jw KL108 [6] (aa TF108 (aa hr.s hr.len)) fun _ => ?_)
  refine Run_condS (fun _ => rfl) (fun h => ?_) (fun h => ?_)
  · simp at h
    have hkl := h
    have hko : k < l.length := by omega
    obtain ⟨q1, q2⟩ := (hr.ext y2).runD hkl
    obtain ⟨g, o1, o2, hO⟩ := (ho.ext y2).ord hko
    have hl2 : (of.take k).length = k := by simp; omega
    have htk : of.take (k + 1) = of.take k ++ [of[k]] := List.take_succ_eq_append_getElem hkl
    have hsn := Pl.load_snoc (l := l) (of := of.take k) (by omega) of[k] r
    have hbd := Pl.load_bd hcr (of.take k) r
    have hcro := hcr _ (List.getElem_mem hko)
    simp only [hl2] at hsn
    rw [← htk] at hsn
    generalize hqq : of[k] = s at *
    generalize hoo : l[k] = o at *
    generalize Pl.load l (of.take k) r = ld at *
    have r2 := R w2 x2
    simp only [RunD.cs, OrderD.cs, AtN, KS, Nat.reduceAdd, Nat.reduceMul, Nat.reduceEqDiff, ↓reduceIte, UT] at q1 o1
    have hfl : flatT Tryz.prog 54 = true := by kernel_rfl
    (repeat with_reducible first | refine js ?_ | refine ja ?_ | refine jw KL108 [6] (aa TF108 (aa hr.s (aa hr.len (aa q1 (aa r2 hfl))))) fun _ => ?_)
    intro w3 x3
    have y3 := y2.trans x3
    have o3 := (o2.ext x3).n
    simp only [OrderD.cs, AtN, KS, Nat.reduceAdd, Nat.reduceMul, Nat.reduceEqDiff, ↓reduceIte, UT] at o3
    refine Run_condS (fun _ => rfl) (fun h => ?_) (fun h => ?_)
    · have hsr : s = r := by
        cases s; cases r
        simp at h
        simp [h]
      rw [if_pos hsr] at hsn
      (repeat with_reducible first | refine js ?_ | refine ja ?_ | refine jw KL108 [6] (aa TF108 (aa ho.s (aa ho.len o3))) fun _ => ?_)
      refine Run_lp ⟨k + 1, ?_, ⟨by omega, x2.trans x3⟩, by omega⟩
      rw [hsn]
      simp only [Pl.LoadD.wth]
      simp [SubB, fnd, strike, has]
    · have hsr : ¬ s = r := by
        rintro rfl
        simp at h
      rw [if_neg hsr] at hsn
      (repeat with_reducible first | refine js ?_ | refine ja ?_ | refine jw KL108 [6] TF108 fun _ => ?_)
      refine Run_lp ⟨k + 1, ?_, ⟨by omega, x2.trans x3⟩, by omega⟩
      rw [hsn]
      simp [SubB, fnd, strike, has]
  · simp at h
    obtain rfl : k = of.length := by omega
    rw [List.take_length]
    (repeat with_reducible first | refine js ?_ | refine ja ?_ | refine jw KL108 [6] TF108 fun _ => ?_)
    refine Run_ret ?_
    simp [Rets, RetM, resV, fnd, oneOr]
    exact y2
theorem agF_iff {n : Int} : ∀ {l : List Int} {a : Int}, Pl.agF n a l = true ↔ ∀ k (h : k < l.length), (if k = 0 then a else l.getD (k - 1) 0) < l[k] ∧ l[k] < n
  | [], a => by simp [Pl.agF]
  | x :: r, a => by
    simp only [Pl.agF, Bool.and_eq_true, decide_eq_true_eq, agF_iff (l := r)]
    constructor
    · rintro ⟨h1, h2⟩ k hk
      cases k with
      | zero => simpa using h1
      | succ k =>
        have := h2 k (by simpa using hk)
        cases k with
        | zero => simpa using this
        | succ k => simpa using this
    · intro h
      have h0 := h 0 (by simp)
      refine ⟨by simpa using h0, fun k hk => ?_⟩
      have := h (k + 1) (by simpa using hk)
      cases k with
      | zero => simpa using this
      | succ k => simpa using this
def agP (n : Int) (l : List Int) (k : Nat) : Bool := decide (0 ≤ l.getD k 0) && decide (l.getD k 0 < n) && (decide (k = 0) || decide (l.getD (k - 1) 0 < l.getD k 0))
theorem agF_all (n : Int) (l : List Int) : Pl.agF n (-1) l = allN l.length (agP n l) := by
  rw [Bool.eq_iff_iff, agF_iff, allN_iff]
  have hg : ∀ {k}, (hk : k < l.length) → l.getD k 0 = l[k] := fun hk => by simp [List.getD_eq_getElem?_getD, hk]
  constructor
  · intro h k hk
    have hk1 := h k hk
    have h0 : 0 ≤ l[k] := by
      have key : ∀ j (hj : j < l.length), 0 ≤ l[j] := by
        intro j
        induction j with
        | zero => intro hj; have := h 0 hj; simp at this; omega
        | succ j ih =>
          intro hj
          have := h (j + 1) hj
          have := ih (by omega)
          simp only [Nat.add_sub_cancel, if_neg (show ¬ j + 1 = 0 by omega), hg (show j < l.length by omega)] at *
          omega
      exact key k hk
    unfold agP
    rw [hg hk]
    by_cases k0 : k = 0
    · subst k0; simp; exact ⟨h0, hk1.2⟩
    · rw [if_neg k0] at hk1
      simp [k0]
      refine ⟨⟨h0, hk1.2⟩, ?_⟩
      simpa using hk1.1
  · intro h k hk
    have := h k hk
    unfold agP at this
    rw [hg hk] at this
    simp only [Bool.and_eq_true, decide_eq_true_eq, Bool.or_eq_true] at this
    refine ⟨?_, this.1.2⟩
    split
    · omega
    · rcases this.2 with h1 | h1
      · omega
      · exact h1
set_option maxHeartbeats 2000000 in
theorem rfRight18 (o : OrderD) (v0 : Value) (n p c : Int) (w : World) (hO : OrdR w o v0) :
    Calls Tryz.prog 163 #[.agg (o.cs v0).toArray, .int .i64 n, .int .i64 p, .int .i64 c] w fun e w' => e = .returned (.bool (Pl.oright o n p c)) ∧ Ext w w' := by
  have hgl := hO.g.len
  have hgs := hO.g.small
  refine Calls_of_Run (args := [.agg (o.cs v0).toArray, .int .i64 n, .int .i64 p, .int .i64 c]) (n := 147) (rs := [.tmp 8]) Tryz.func163 rfl rfl rfl (by simp) ?_
  (repeat with_reducible first | refine js ?_ | refine ja ?_ | refine jw KL163 [8] TF163 fun _ => ?_)
  refine SemW_box fun po w1 h1 => ?_
  have x1 := h1.ext
  have O : ∀ w', Ext w1 w' → AtN w' po 0 (o.cs v0) := fun w' x => (h1.at_.ext x).n
  simp only [OrderD.cs, AtN, KS, Nat.reduceAdd, Nat.reduceMul, Nat.reduceEqDiff, ↓reduceIte, UT] at O
  have o1 := O w1 (Ext.refl _)
  (repeat with_reducible first | refine js ?_ | refine ja ?_ | refine jw KL163 [8] (aa TF163 o1) fun _ => ?_)
  refine Run_condS (fun _ => rfl) (fun h => ?_) (fun h => ?_)
  · (repeat with_reducible first | refine js ?_ | refine ja ?_ | refine jw KL163 [8] TF163 fun _ => ?_)
    refine Run_ret ?_
    have : Pl.oright o n p c = false := by
      have : Pl.oNum o n p c = false := by
        unfold Pl.oNum
        simp only [Bool.or_eq_true, decide_eq_true_eq, beq_iff_eq] at h
        simp only [decide_eq_false_iff_not]; omega
      simp [Pl.oright, this]
    simp [Rets, RetM, resV, fnd, oneOr, this, x1]
  simp only [Bool.or_eq_false_iff, decide_eq_false_iff_not, beq_eq_false_iff_ne, ne_eq] at h
  have hA := h
  clear h
  (repeat with_reducible first | refine js ?_ | refine ja ?_ | refine jw KL163 [8] (aa TF163 o1) fun _ => ?_)
  refine Run_condS (fun _ => rfl) (fun h => ?_) (fun h => ?_)
  · (repeat with_reducible first | refine js ?_ | refine ja ?_ | refine jw KL163 [8] TF163 fun _ => ?_)
    refine Run_ret ?_
    have : Pl.oright o n p c = false := by
      have : Pl.oNum o n p c = false := by
        unfold Pl.oNum
        simp only [Bool.or_eq_true, decide_eq_true_eq] at h
        simp only [decide_eq_false_iff_not]; omega
      simp [Pl.oright, this]
    simp [Rets, RetM, resV, fnd, oneOr, this, x1]
  simp only [Bool.or_eq_false_iff, decide_eq_false_iff_not] at h
  have hB := h
  clear h
  have hag := agF_all n o.Against
  (repeat with_reducible first | refine js ?_ | refine ja ?_ | refine jw KL163 [8] TF163 fun _ => ?_)
  refine Run_loopV [8, 9, 98, 133] (σ := Nat) (fun k => [(9, some (.int .i64 k)), (8, some (.bool false))]) (fun k w' => k ≤ o.Against.length ∧ (∀ j, j < k → agP n o.Against j = true) ∧ Ext w1 w') (fun k => o.Against.length - k) 0 (by simp [SubB, fnd]) ⟨by omega, by simp, Ext.refl _⟩ ?_
  rintro k w2 ⟨hk, hf, x2⟩
  have y2 := x1.trans x2
  have o2 := O w2 x2
  (repeat with_reducible first | refine js ?_ | refine ja ?_ | refine jw KL163 [8] (aa TF163 (aa o2 (aa hO.g.s hO.g.len))) fun _ => ?_)
  refine Run_condS (fun _ => rfl) (fun h => ?_) (fun h => ?_)
  · simp at h
    have hkl := h
    obtain ⟨f1, f2, f3⟩ := (hO.g.ext y2).get hkl
    have e1 : o.Against[k] = o.Against.getD k 0 := by simp [List.getD_eq_getElem?_getD, hkl]
    rw [e1] at f1
    have hbad : agP n o.Against k = false → Pl.oright o n p c = false := fun hh => by
      rw [Pl.oright, hag, allN_false hkl hh, Bool.and_false]
    by_cases k0 : k = 0
    · have e0 : decide (0 < (k : Int)) = false := by simp; omega
      have hp : (decide (o.Against.getD k 0 < 0) || decide (n ≤ o.Against.getD k 0)) = !agP n o.Against k := by
        rw [Bool.eq_iff_iff]; simp [agP, k0]
      (repeat with_reducible first | refine js ?_ | refine ja ?_ | refine jw KL163 [8] (aa TF163 (aa o2 (aa hO.g.s (aa hO.g.len (aa f1 (aa f2 (aa e0 KX))))))) fun _ => ?_)
      intro w3 x3
      have y3 := y2.trans x3
      refine Run_condS (fun _ => rfl) (fun h => ?_) (fun h => ?_)
      · have h2 : (!agP n o.Against k) = true := hp.symm.trans h
        (repeat with_reducible first | refine js ?_ | refine ja ?_ | refine jw KL163 [8] TF163 fun _ => ?_)
        refine Run_ret ?_
        simp [Rets, RetM, resV, fnd, oneOr, hbad (by simpa using h2), y3]
      · have h2 : (!agP n o.Against k) = false := hp.symm.trans h
        (repeat with_reducible first | refine js ?_ | refine ja ?_ | refine jw KL163 [8] TF163 fun _ => ?_)
        refine Run_lp ⟨k + 1, ?_, ⟨by omega, fun j hj => ?_, x2.trans x3⟩, by omega⟩
        · simp [SubB, fnd, strike, has]
        · by_cases e : j = k
          · rw [e]; simpa using h2
          · exact hf j (by omega)
    · have e0 : decide (0 < (k : Int)) = true := by simp; omega
      have e2 : ((k : Int) - 1).toNat = k - 1 := by omega
      obtain ⟨g1, g2, g3⟩ := (hO.g.ext y2).get (show k - 1 < o.Against.length by omega)
      have e3 : o.Against[k - 1]'(by omega) = o.Against.getD (k - 1) 0 := by simp [List.getD_eq_getElem?_getD, show k - 1 < o.Against.length by omega]
      rw [e3] at g1
      have hp : (decide (o.Against.getD k 0 < 0) || decide (n ≤ o.Against.getD k 0) || decide (o.Against.getD k 0 ≤ o.Against.getD (k - 1) 0)) = !agP n o.Against k := by
        rw [Bool.eq_iff_iff]
        simp only [agP, Bool.or_eq_true, decide_eq_true_eq, Bool.not_eq_true', Bool.and_eq_false_iff, decide_eq_false_iff_not, Bool.or_eq_false_iff]
        omega
      (repeat with_reducible first | refine js ?_ | refine ja ?_ | refine jw KL163 [8] (aa TF163 (aa o2 (aa hO.g.s (aa hO.g.len (aa f1 (aa f2 (aa g1 (aa g2 (aa e0 (aa e2 KX)))))))))) fun _ => ?_)
      intro w3 x3
      have y3 := y2.trans x3
      refine Run_condS (fun _ => rfl) (fun h => ?_) (fun h => ?_)
      · have h2 : (!agP n o.Against k) = true := hp.symm.trans h
        (repeat with_reducible first | refine js ?_ | refine ja ?_ | refine jw KL163 [8] TF163 fun _ => ?_)
        refine Run_ret ?_
        simp [Rets, RetM, resV, fnd, oneOr, hbad (by simpa using h2), y3]
      · have h2 : (!agP n o.Against k) = false := hp.symm.trans h
        (repeat with_reducible first | refine js ?_ | refine ja ?_ | refine jw KL163 [8] TF163 fun _ => ?_)
        refine Run_lp ⟨k + 1, ?_, ⟨by omega, fun j hj => ?_, x2.trans x3⟩, by omega⟩
        · simp [SubB, fnd, strike, has]
        · by_cases e : j = k
          · rw [e]; simpa using h2
          · exact hf j (by omega)
  · simp at h
    obtain rfl : k = o.Against.length := by omega
    (repeat with_reducible first | refine js ?_ | refine ja ?_ | refine jw KL163 [8] (aa TF163 o2) fun _ => ?_)
    refine Run_ret ?_
    simp only [Rets, RetM, resV, fnd, oneOr, ↓reduceIte]
    refine ⟨_, rfl, ?_, y2⟩
    congr 2
    rw [Pl.oright, hag, allN_true hf, Bool.and_true]
    unfold Pl.oNum
    rw [Bool.eq_iff_iff]
    simp only [Bool.or_eq_true, beq_iff_eq, decide_eq_true_eq]
    omega
theorem rfError22 (vl u0 u1 u2 vo : Value) (t : TimeD) (f : TariffD) (l : List OrderD) (w : World) (hl : Sl w vl t.Lines) (hT : TarR w f u0 u1 u2) (ho : Sl w vo l) :
    Calls Tryz.prog 104 #[.agg (t.cs vl).toArray, .agg (f.cs u0 u1 u2).toArray, vo] w fun e w' => e = .returned (.int .i64 (Pl.err t f l)) ∧ Ext w w' := by
  have hn := ho.small
  have hol := ho.len
  refine Calls_of_Run (args := [.agg (t.cs vl).toArray, .agg (f.cs u0 u1 u2).toArray, vo]) (n := 38) (rs := [.tmp 6]) Tryz.func104 rfl rfl rfl (by simp) ?_
  (repeat with_reducible first | refine js ?_ | refine ja ?_ | refine jw KL104 [11] TF104 fun _ => ?_)
  refine SemW_box fun pt w1 h1 => SemW_box fun pf w2 h2 => ?_
  have x2 := h1.ext.trans h2.ext
  have T : ∀ w', Ext w2 w' → AtN w' pt 0 (t.cs vl) := fun w' x => (h1.at_.ext (h2.ext.trans x)).n
  have F : ∀ w', Ext w2 w' → AtN w' pf 0 (f.cs u0 u1 u2) := fun w' x => (h2.at_.ext x).n
  simp only [TimeD.cs, TariffD.cs, AtN, KS, Nat.reduceAdd, Nat.reduceMul, Nat.reduceEqDiff, ↓reduceIte, UT] at T F
  have t2 := T w2 (Ext.refl _)
  (repeat with_reducible first | refine js ?_ | refine ja ?_ | refine jw KL104 [11] (aa TF104 t2) fun _ => ?_)
  refine chk20W rfl (hl.ext x2) fun w3 x3 => ?_
  have y3 := x2.trans x3
  have f3 := F w3 x3
  (repeat with_reducible first | refine js ?_ | refine ja ?_ | refine jw KL104 [11] TF104 fun _ => ?_)
  refine Run_cutV [7, 12] (σ := Unit) (fun _ => [(7, some (.int .i64 (if Tt.chk t ≠ 0 then Tt.chk t else Tf.chk f)))]) (fun _ w' => Ext w3 w') ?_ ?_
  · refine Run_condS (fun _ => rfl) (fun h => ?_) (fun h => ?_)
    · have hc : Tt.chk t = 0 := by simpa using h
      (repeat with_reducible first | refine js ?_ | refine ja ?_ | refine jw KL104 [11] (aa TF104 f3) fun _ => ?_)
      refine CallW_pure call162 (rfCheck21 f u0 u1 u2 w3 (hT.ext y3)) fun w4 x4 => ?_
      (repeat with_reducible first | refine js ?_ | refine ja ?_ | refine jw KL104 [11] TF104 fun _ => ?_)
      refine Run_lp ⟨(), ?_, x4⟩
      rw [if_neg (by simp [hc])]
      simp [SubB, fnd, strike, has]
    · have hc : Tt.chk t ≠ 0 := by simpa using h
      (repeat with_reducible first | refine js ?_ | refine ja ?_ | refine jw KL104 [11] TF104 fun _ => ?_)
      refine Run_lp ⟨(), ?_, Ext.refl _⟩
      rw [if_pos hc]
      simp [SubB, fnd, strike, has]
  rintro _ w4 x4
  have y4 := y3.trans x4
  (repeat with_reducible first | refine js ?_ | refine ja ?_ | refine jw KL104 [11] TF104 fun _ => ?_)
  refine Run_condS (fun _ => rfl) (fun h => ?_) (fun h => ?_)
  · (repeat with_reducible first | refine js ?_ | refine ja ?_ | refine jw KL104 [11] TF104 fun _ => ?_)
    refine Run_ret ?_
    have : Pl.err t f l = if Tt.chk t ≠ 0 then Tt.chk t else Tf.chk f := by
      unfold Pl.err
      by_cases hc : Tt.chk t = 0
      · rw [if_neg (show ¬ (Tt.chk t ≠ 0) by simp [hc]), if_neg (show ¬ (Tt.chk t ≠ 0) by simp [hc])]
        have hc2 : Tf.chk f ≠ 0 := by
          rw [if_neg (by simp [hc])] at h
          simpa using h
        rw [if_pos hc2]
      · rw [if_pos hc, if_pos hc]
    simp only [Rets, RetM, resV, fnd, oneOr, ↓reduceIte]
    exact ⟨_, rfl, by rw [this], y4⟩
  have hcc : Tt.chk t = 0 ∧ Tf.chk f = 0 := by
    by_cases hc : Tt.chk t = 0
    · rw [if_neg (by simp [hc])] at h
      exact ⟨hc, by simpa using h⟩
    · rw [if_pos hc] at h
      exact (hc (by simpa using h)).elim
  clear h
  have hres : Pl.err t f l = if 64 < l.length then 220 else if l.all (fun o => Pl.oright o t.Offices 1024 f.Base.length) then 0 else 220 := by
    unfold Pl.err; rw [if_neg (by simp [hcc.1]), if_neg (by simp [hcc.2])]
  (repeat with_reducible first | refine js ?_ | refine ja ?_ | refine jw KL104 [11] (aa TF104 (aa ho.s ho.len)) fun _ => ?_)
  refine Run_condS (fun _ => rfl) (fun h => ?_) (fun h => ?_)
  · simp at h
    (repeat with_reducible first | refine js ?_ | refine ja ?_ | refine jw KL104 [11] TF104 fun _ => ?_)
    refine Run_ret ?_
    rw [if_pos (by omega)] at hres
    simp [Rets, RetM, resV, fnd, oneOr, hres, y4]
  simp at h
  rw [if_neg (by omega)] at hres
  (repeat with_reducible first | refine js ?_ | refine ja ?_ | refine jw KL104 [11] TF104 fun _ => ?_)
  refine Run_loopV [6, 8, 24, 37] (σ := Nat) (fun k => [(8, some (.int .i64 k)), (6, some (.int .i64 0))]) (fun k w' => k ≤ l.length ∧ (∀ j (h : j < l.length), j < k → Pl.oright l[j] t.Offices 1024 f.Base.length = true) ∧ Ext w4 w') (fun k => l.length - k) 0 (by simp [SubB, fnd]) ⟨by omega, by simp, Ext.refl _⟩ ?_
  rintro k w5 ⟨hk, hf, x5⟩
  have y5 := y4.trans x5
  (repeat with_reducible first | refine js ?_ | refine ja ?_ | refine jw KL104 [11] (aa TF104 (aa ho.s ho.len)) fun _ => ?_)
  refine Run_condS (fun _ => rfl) (fun h => ?_) (fun h => ?_)
  · simp at h
    have hkl : k < l.length := by omega
    obtain ⟨g, o1, o2, hO⟩ := (ho.ext y5).ord hkl
    have t5 := T w5 (x3.trans (x4.trans x5))
    have f5 := F w5 (x3.trans (x4.trans x5))
    have hall : l.all (fun o => Pl.oright o t.Offices 1024 f.Base.length) = true → Pl.oright l[k] t.Offices 1024 f.Base.length = true := fun hs => List.all_eq_true.1 hs _ (List.getElem_mem hkl)
    generalize hoo : l[k] = o at *
    simp only [OrderD.cs, AtN, KS, Nat.reduceAdd, Nat.reduceMul, Nat.reduceEqDiff, ↓reduceIte, UT] at o1
    (repeat with_reducible first | refine js ?_ | refine ja ?_ | refine jw KL104 [11] (aa TF104 (aa ho.s (aa ho.len (aa o1 (aa t5 (aa f5 (aa hT.b.s hT.b.len))))))) fun _ => ?_)
    refine ⟨.bool (Pl.oright o t.Offices 1024 f.Base.length), PC_pure call163 fun w6 x6 => rfRight18 o g t.Offices 1024 f.Base.length w6 (hO.ext x6), rfl, fun w6 x6 => ?_⟩
    have y6 := y5.trans x6
    refine Run_condS (fun _ => rfl) (fun h => ?_) (fun h => ?_)
    · (repeat with_reducible first | refine js ?_ | refine ja ?_ | refine jw KL104 [11] TF104 fun _ => ?_)
      refine Run_ret ?_
      rw [if_neg (fun hs => by have := hall hs; rw [this] at h; cases h)] at hres
      simp [Rets, RetM, resV, fnd, oneOr, hres, y6]
    · have hr : Pl.oright o t.Offices 1024 f.Base.length = true := by simpa using h
      (repeat with_reducible first | refine js ?_ | refine ja ?_ | refine jw KL104 [11] TF104 fun _ => ?_)
      refine Run_lp ⟨k + 1, ?_, ⟨by omega, fun j hj hjk => ?_, x5.trans x6⟩, by omega⟩
      · simp [SubB, fnd, strike, has]
      · by_cases e : j = k
        · subst e; rw [hoo]; exact hr
        · exact hf j hj (by omega)
  · simp at h
    obtain rfl : k = l.length := by omega
    (repeat with_reducible first | refine js ?_ | refine ja ?_ | refine jw KL104 [11] TF104 fun _ => ?_)
    refine Run_ret ?_
    rw [if_pos (List.all_eq_true.2 fun x hx => by
      obtain ⟨j, hj, rfl⟩ := List.getElem_of_mem hx
      exact hf j hj hj)] at hres
    simp [Rets, RetM, resV, fnd, oneOr, hres, y5]
set_option maxHeartbeats 2000000 in
theorem rfFits (vl : Value) (t : TimeD) (f : TariffD) (u0 u1 u2 : Value) (o : OrderD) (g : Value) (r : RunD) (w : World) (hl : Sl w vl t.Lines) (hT : TarR w f u0 u1 u2) (hO : OrdR w o g) (hr : 0 ≤ r.Line ∧ r.Line < t.Lines.length) (hk : Tt.LOk (Pl.lineR t r) t.Offices) (hc : 0 ≤ o.Class ∧ o.Class < 8) (hcr : 1 ≤ o.Crowd ∧ o.Crowd ≤ 64) :
    Calls Tryz.prog 107 #[.agg (t.cs vl).toArray, .agg (f.cs u0 u1 u2).toArray, .agg (o.cs g).toArray, .agg r.cs.toArray] w fun e w' => e = .returned (.bool (Pl.fits t f o r)) ∧ Ext w w' := by
  have hlen := hl.len
  refine Calls_of_Run (args := [.agg (t.cs vl).toArray, .agg (f.cs u0 u1 u2).toArray, .agg (o.cs g).toArray, .agg r.cs.toArray]) (n := 101) (rs := [.tmp 8]) Tryz.func107 rfl rfl rfl (by simp) ?_
  (repeat with_reducible first | refine js ?_ | refine ja ?_ | refine jw KL107 [3, 11] TF107 fun _ => ?_)
  refine SemW_box fun pt w1 h1 => SemW_box fun pf w2 h2 => SemW_box fun po w3 h3 => SemW_box fun pr w4 h4 => ?_
  have x4 := h1.ext.trans (h2.ext.trans (h3.ext.trans h4.ext))
  have T : ∀ w', Ext w4 w' → AtN w' pt 0 (t.cs vl) := fun w' x => (h1.at_.ext (h2.ext.trans (h3.ext.trans (h4.ext.trans x)))).n
  have F : ∀ w', Ext w4 w' → AtN w' pf 0 (f.cs u0 u1 u2) := fun w' x => (h2.at_.ext (h3.ext.trans (h4.ext.trans x))).n
  have O : ∀ w', Ext w4 w' → AtN w' po 0 (o.cs g) := fun w' x => (h3.at_.ext (h4.ext.trans x)).n
  have R : ∀ w', Ext w4 w' → AtN w' pr 0 r.cs := fun w' x => (h4.at_.ext x).n
  simp only [TimeD.cs, TariffD.cs, OrderD.cs, RunD.cs, AtN, KS, Nat.reduceAdd, Nat.reduceMul, Nat.reduceEqDiff, ↓reduceIte, UT] at T F O R
  have hlt : r.Line.toNat < t.Lines.length := by omega
  have hlo : Pl.lineR t r = t.Lines[r.Line.toNat] := by unfold Pl.lineR; simp [List.getD_eq_getElem?_getD, hlt]
  obtain ⟨l0, l1, l2, l3, e1, e2, hR⟩ := (hl.ext x4).line hlt
  have hone := hR.one
  have hres : Pl.fits t f o r = (Pl.c0 (Pl.lineR t r) o && Pl.c1 (Pl.lineR t r) o && Pl.c2 o r && Pl.c3 f (Pl.lineR t r) o && Pl.c4 (Pl.lineR t r) o && Pl.c5 (Pl.lineR t r) o) := rfl
  rw [hlo] at hk hres
  generalize hxx : t.Lines[r.Line.toNat] = x at *
  have t4 := T w4 (Ext.refl _)
  have r4 := R w4 (Ext.refl _)
  simp only [LineD.cs, AtN, KS, Nat.reduceAdd, Nat.reduceMul, Nat.reduceEqDiff, ↓reduceIte, UT] at e1
  simp only [LineD.cs] at hone
  (repeat with_reducible first | refine js ?_ | refine ja ?_ | refine jw KL107 [3, 11] (aa TF107 (aa t4 (aa r4 (aa e1 (aa hl.s hl.len))))) fun _ => ?_)
  refine SemW_allocT ti52 fun px w5 h5 => ?_
  have b5 := h5.blk
  (repeat with_reducible first | refine js ?_ | refine ja ?_ | refine jw KL107 [3, 11] TF107 fun _ => ?_)
  refine SemW_setW (by rw [cells52]; decide) (by rw [cells52]; rfl) h5.row (by rw [cells52]; rfl) (by simpa [Value.cells] using hone) fun w6 r6 k6 z6 => ?_
  have r6 : Row w6 px 52 (x.cs l0 l1 l2 l3) := by simpa [Value.cells, LineD.cs] using r6
  have x6 : Ext w4 w6 := Keep.ext h5.ext k6 fun q hq => by omega
  have y6 := x4.trans x6
  have X : ∀ w', Ext w6 w' → AtN w' px 0 (x.cs l0 l1 l2 l3) := fun w' x => (r6.at_.ext x).n
  simp only [LineD.cs, AtN, KS, Nat.reduceAdd, Nat.reduceMul, Nat.reduceEqDiff, ↓reduceIte, UT] at X
  have hR6 := hR.ext x6
  have X6 := X w6 (Ext.refl _)
  have o6 := O w6 x6
  have rr6 := R w6 x6
  have hon := hk.o2
  have hon9 := hk.o9
  have hln := hk.l1
  have hrm := hk.m
  have hol := hR6.o.len
  have hll := hR6.l.len
  obtain ⟨a1, a2, a3⟩ := hR6.o.get (i := 0) (by omega)
  obtain ⟨b1, b2, b3⟩ := hR6.o.get (i := x.Offices.length - 1) (by omega)
  rw [add_zero] at a1 a2
  have n1 : ((x.Offices.length : Int) - 1).toNat = x.Offices.length - 1 := by omega
  have q0 : x.Offices[0]'(by omega) = x.Offices.getD 0 0 := by simp [List.getD_eq_getElem?_getD, show 0 < x.Offices.length by omega]
  have q1 : x.Offices[x.Offices.length - 1]'(by omega) = x.Offices.getD (x.Offices.length - 1) 0 := by simp [List.getD_eq_getElem?_getD, show x.Offices.length - 1 < x.Offices.length by omega]
  rw [q0] at a1
  rw [q1] at b1
  have hcl := hk.c
  obtain ⟨cn, hcn⟩ : ∃ n : Nat, x.Classes = n := ⟨x.Classes.toNat, by omega⟩
  obtain ⟨kn, hkn⟩ : ∃ n : Nat, o.Class = n := ⟨o.Class.toNat, by omega⟩
  have hc0 : Pl.c0 x o = (iand .i64 ((cn : Int).fdiv (2 ^ (min kn 64))) 1 == 1) := by unfold Pl.c0; rw [hcn, hkn, Int.toNat_natCast]
  (repeat with_reducible first | refine js ?_ | refine ja ?_ | refine jw KL107 [3, 11] (aa TF107 (aa X6 (aa o6 (aa rr6 (aa hR6.o.s (aa hR6.o.len (aa a1 (aa a2 (aa b1 (aa b2 n1)))))))))) fun _ => ?_)
  refine ⟨.bool (Pl.c0 x o), ?_, rfl, ?_⟩
  · rw [hcn, hkn, hc0]
    exact PC_pure call166 fun w7 x7 => rfBit cn kn (by omega) (by omega) w7
  refine ⟨fun _ => ⟨by omega, by omega⟩, fun _ => ⟨by omega, by omega⟩, fun w7 x7 => ?_⟩
  have hb : (!Pl.c0 x o || x.Offices.getD 0 0 != o.From || x.Offices.getD (x.Offices.length - 1) 0 != o.Dest || decide (r.At < o.After) || decide (o.By < r.Arrive) || decide (x.Room < o.Crowd + 1)) = !(Pl.c0 x o && Pl.c1 x o && Pl.c2 o r && Pl.c4 x o) := by
    generalize Pl.c0 x o = c
    rw [Bool.eq_iff_iff]
    simp only [Pl.c1, Pl.c2, Pl.c4, Bool.or_eq_true, Bool.not_eq_true', bne_iff_ne, ne_eq, decide_eq_true_eq, Bool.and_eq_false_iff, decide_eq_false_iff_not]
    constructor
    · rintro (((((h | h) | h) | h) | h) | h)
      · exact .inl (.inl (.inl h))
      · exact .inl (.inl (.inr (.inl h)))
      · exact .inl (.inl (.inr (.inr h)))
      · exact .inl (.inr (.inl (by omega)))
      · exact .inl (.inr (.inr (by omega)))
      · exact .inr (by omega)
    · rintro (((h | (h | h)) | (h | h)) | h)
      · exact .inl (.inl (.inl (.inl (.inl h))))
      · exact .inl (.inl (.inl (.inl (.inr h))))
      · exact .inl (.inl (.inl (.inr h)))
      · exact .inl (.inl (.inr (by omega)))
      · exact .inl (.inr (by omega))
      · exact .inr (by omega)
  have y7 := y6.trans x7
  have fal : (Pl.c0 x o && Pl.c1 x o && Pl.c2 o r && Pl.c4 x o) = false → Pl.fits t f o r = false := fun h => by
    rw [hres]
    revert h
    cases Pl.c0 x o <;> cases Pl.c1 x o <;> cases Pl.c2 o r <;> cases Pl.c4 x o <;> simp
  refine Run_condS (fun _ => rfl) (fun h => ?_) (fun h => ?_)
  · have h2 : (!(Pl.c0 x o && Pl.c1 x o && Pl.c2 o r && Pl.c4 x o)) = true := hb.symm.trans h
    (repeat with_reducible first | refine js ?_ | refine ja ?_ | refine jw KL107 [3, 11] TF107 fun _ => ?_)
    refine Run_ret ?_
    simp [Rets, RetM, resV, fnd, oneOr, fal (by simpa only [Bool.not_eq_true'] using h2), y7]
  have h2 : (!(Pl.c0 x o && Pl.c1 x o && Pl.c2 o r && Pl.c4 x o)) = false := hb.symm.trans h
  have hres2 : Pl.fits t f o r = (Pl.c3 f x o && Pl.c5 x o) := by
    rw [hres]
    simp only [Bool.not_eq_false', Bool.and_eq_true] at h2
    rw [h2.1.1.1, h2.1.1.2, h2.1.2, h2.2]; simp
  clear h h2 hb fal hres
  have f7 := F w7 (x6.trans x7)
  have o7 := O w7 (x6.trans x7)
  have X7 := X w7 x7
  (repeat with_reducible first | refine js ?_ | refine ja ?_ | refine jw KL107 [3, 11] (aa TF107 (aa f7 (aa o7 (aa X7 (aa hR6.l.s hR6.l.len))))) fun _ => ?_)
  refine CallW_pure call92 (rfPriceW f u0 u1 u2 o.Class x.Legs.length o.Crowd w7 (hT.ext y7)) fun w8 x8 => ?_
  have y8 := y7.trans x8
  have o8 := O w8 (x6.trans (x7.trans x8))
  (repeat with_reducible first | refine js ?_ | refine ja ?_ | refine jw KL107 [3, 11] (aa TF107 o8) fun _ => ?_)
  refine Run_condS (fun _ => rfl) (fun h => ?_) (fun h => ?_)
  · simp at h
    have : Pl.c3 f x o = false := by unfold Pl.c3; simp; omega
    (repeat with_reducible first | refine js ?_ | refine ja ?_ | refine jw KL107 [3, 11] TF107 fun _ => ?_)
    refine Run_ret ?_
    simp [Rets, RetM, resV, fnd, oneOr, hres2, this, y8]
  simp at h
  have h3 : Pl.c3 f x o = true := by unfold Pl.c3; simp; omega
  rw [h3, Bool.true_and] at hres2
  (repeat with_reducible first | refine js ?_ | refine ja ?_ | refine jw KL107 [3, 11] TF107 fun _ => ?_)
  refine Run_loopV [8, 13, 89, 100] (σ := Nat) (fun k => [(13, some (.int .i64 k)), (8, some (.bool false))]) (fun k w' => k ≤ x.Offices.length ∧ (∀ j (h : j < x.Offices.length), j < k → o.Against.contains x.Offices[j] = true) ∧ Ext w8 w') (fun k => x.Offices.length - k) 0 (by simp [SubB, fnd]) ⟨by omega, by simp, Ext.refl _⟩ ?_
  rintro k w9 ⟨hkk, hf, x9⟩
  have y9 := y8.trans x9
  have z9 := x7.trans (x8.trans x9)
  (repeat with_reducible first | refine js ?_ | refine ja ?_ | refine jw KL107 [3, 11] TF107 fun _ => ?_)
  refine Run_condS (fun _ => rfl) (fun h => ?_) (fun h => ?_)
  · simp at h
    have hkl := h
    obtain ⟨f1, f2, f3⟩ := (hR6.o.ext z9).get hkl
    have o9 := O w9 (x6.trans z9)
    have X9 := X w9 z9
    generalize hoo : x.Offices[k] = q at *
    (repeat with_reducible first | refine js ?_ | refine ja ?_ | refine jw KL107 [3, 11] (aa TF107 (aa o9 (aa X9 (aa hR6.o.s (aa hR6.o.len (aa f1 f2)))))) fun _ => ?_)
    refine ⟨.int .i64 (idx q o.Against 0), PC_pure call167 fun w10 x10 => rfIndex g o.Against q w10 (hO.g.ext (y9.trans x10)), rfl, fun w10 x10 => ?_⟩
    have y10 := y9.trans x10
    have him : decide (idx q o.Against 0 < 0) = !o.Against.contains q := by
      rw [← idx_mem (k := 0) (by omega), Bool.eq_iff_iff]; simp
    refine Run_condS (fun _ => rfl) (fun h => ?_) (fun h => ?_)
    · have h2 : (!o.Against.contains q) = true := him.symm.trans h
      (repeat with_reducible first | refine js ?_ | refine ja ?_ | refine jw KL107 [3, 11] TF107 fun _ => ?_)
      refine Run_ret ?_
      have : Pl.c5 x o = true := by
        unfold Pl.c5
        rw [List.any_eq_true]
        exact ⟨q, by rw [← hoo]; exact List.getElem_mem hkl, h2⟩
      simp [Rets, RetM, resV, fnd, oneOr, hres2, this, y10]
    · have h2 : (!o.Against.contains q) = false := him.symm.trans h
      (repeat with_reducible first | refine js ?_ | refine ja ?_ | refine jw KL107 [3, 11] TF107 fun _ => ?_)
      refine Run_lp ⟨k + 1, ?_, ⟨by omega, fun j hj hjk => ?_, x9.trans x10⟩, by omega⟩
      · simp [SubB, fnd, strike, has]
      · by_cases e : j = k
        · subst e; rw [hoo]; simpa using h2
        · exact hf j hj (by omega)
  · simp at h
    obtain rfl : k = x.Offices.length := by omega
    (repeat with_reducible first | refine js ?_ | refine ja ?_ | refine jw KL107 [3, 11] TF107 fun _ => ?_)
    refine Run_ret ?_
    have : Pl.c5 x o = false := by
      unfold Pl.c5
      rw [List.any_eq_false]
      intro y hy
      obtain ⟨j, hj, rfl⟩ := List.getElem_of_mem hy
      rw [hf j hj hj]; simp
    simp [Rets, RetM, resV, fnd, oneOr, hres2, this, y9]
theorem rferrW {vl u0 u1 u2 vo : Value} {t : TimeD} {f : TariffD} {l : List OrderD} {w : World} {K : Value → World → Prop} (hl : Sl w vl t.Lines) (hT : TarR w f u0 u1 u2) (ho : Sl w vo l) (hK : ∀ w', Ext w w' → K (.int .i64 (Pl.err t f l)) w') :
    CallW Tryz.prog (.func (.func 104) #[] #[]) [.agg #[.int .i64 t.Offices, vl], .agg #[u0, u1, u2], vo] w K := CallW_pure call104 (rfError22 vl u0 u1 u2 vo t f l w hl hT ho) hK
set_option maxHeartbeats 4000000 in
theorem rfCheckP (vl u0 u1 u2 vo v0 v1 v2 : Value) (t : TimeD) (f : TariffD) (l : List OrderD) (covers : Int) (p : PlanD) (w : World) (hl : Sl w vl t.Lines) (hT : TarR w f u0 u1 u2) (ho : Sl w vo l) (hP : PlanR w p v0 v1 v2) :
    Calls Tryz.prog 59 #[.agg (t.cs vl).toArray, .agg (f.cs u0 u1 u2).toArray, vo, .int .i64 covers, .agg (p.cs v0 v1 v2).toArray] w fun e w' => e = .returned (.tuple #[.bool (Pl.check t f l covers p).1, .int .i64 (Pl.check t f l covers p).2]) ∧ Ext w w' := by
  have hn := hP.r.small
  have hn1 := hP.o.small
  have hrl := hP.r.len
  have hol := ho.len
  refine Calls_of_Run (args := [.agg (t.cs vl).toArray, .agg (f.cs u0 u1 u2).toArray, vo, .int .i64 covers, .agg (p.cs v0 v1 v2).toArray]) (n := 189) (rs := [.tmp 10, .tmp 11]) Tryz.func59 rfl rfl rfl (by simp) ?_
  (repeat with_reducible first | refine js ?_ | refine ja ?_ | refine jw KL59 [9, 15, 23] TF59 fun _ => ?_)
  refine SemW_box fun pt w1 h1 => SemW_box fun pf w2 h2 => SemW_box fun pp w3 h3 => ?_
  have x3 := h1.ext.trans (h2.ext.trans h3.ext)
  have T : ∀ w', Ext w3 w' → AtN w' pt 0 (t.cs vl) := fun w' x => (h1.at_.ext (h2.ext.trans (h3.ext.trans x))).n
  have F : ∀ w', Ext w3 w' → AtN w' pf 0 (f.cs u0 u1 u2) := fun w' x => (h2.at_.ext (h3.ext.trans x)).n
  have P : ∀ w', Ext w3 w' → AtN w' pp 0 (p.cs v0 v1 v2) := fun w' x => (h3.at_.ext x).n
  simp only [TimeD.cs, TariffD.cs, PlanD.cs, AtN, KS, Nat.reduceAdd, Nat.reduceMul, Nat.reduceEqDiff, ↓reduceIte, UT] at T F P
  have t3 := T w3 (Ext.refl _)
  have f3 := F w3 (Ext.refl _)
  (repeat with_reducible first | refine js ?_ | refine ja ?_ | refine jw KL59 [9, 15, 23] (aa TF59 (aa t3 f3)) fun _ => ?_)
  refine rferrW (hl.ext x3) (hT.ext x3) (ho.ext x3) fun w4 x4 => ?_
  have y4 := x3.trans x4
  (repeat with_reducible first | refine js ?_ | refine ja ?_ | refine jw KL59 [9, 15, 23] TF59 fun _ => ?_)
  refine Run_condS (fun _ => rfl) (fun h => ?_) (fun h => ?_)
  · have hc : Pl.err t f l ≠ 0 := by simpa using h
    (repeat with_reducible first | refine js ?_ | refine ja ?_ | refine jw KL59 [9, 15, 23] TF59 fun _ => ?_)
    refine Run_ret ?_
    have : Pl.check t f l covers p = (false, Pl.err t f l) := by unfold Pl.check; rw [if_pos hc]
    simp [Rets, RetM, resV, fnd, oneOr, this, y4]
  have hc : Pl.err t f l = 0 := by simpa using h
  clear h
  have ok := Pl.err_ok hc
  have hn64 := ok.n
  have hf8 := (Tf.chk_ok ok.f).n8
  have hres : Pl.check t f l covers p = (Pl.good t f l covers p, 0) := by unfold Pl.check; rw [if_neg (by simp [hc])]
  have p4 := P w4 x4
  (repeat with_reducible first | refine js ?_ | refine ja ?_ | refine jw KL59 [9, 15, 23] (aa TF59 (aa p4 (aa hP.r.s (aa hP.r.len (aa hP.o.s (aa hP.o.len (aa hP.c.s (aa hP.c.len (aa ho.s ho.len))))))))) fun _ => ?_)
  refine Run_condS (fun _ => rfl) (fun h => ?_) (fun h => ?_)
  · (repeat with_reducible first | refine js ?_ | refine ja ?_ | refine jw KL59 [9, 15, 23] TF59 fun _ => ?_)
    refine Run_ret ?_
    have : Pl.good t f l covers p = false := by
      have : decide (p.Of.length = l.length ∧ p.Covers.length = p.Runs.length) = false := by
        simp only [Bool.or_eq_true, bne_iff_ne, ne_eq] at h
        simp; omega
      simp [Pl.good, this]
    simp [Rets, RetM, resV, fnd, oneOr, hres, this, y4]
  have hlen : p.Of.length = l.length ∧ p.Covers.length = p.Runs.length := by
    simp only [Bool.or_eq_false_iff, bne_eq_false_iff_eq] at h
    omega
  clear h
  have hg : Pl.good t f l covers p = (Pl.runsOk t p && Pl.ofsOk t f l p && Pl.covsOk t l p && decide (Pl.sum p.Covers ≤ covers)) := by
    unfold Pl.good; rw [decide_eq_true hlen, Bool.true_and]
  (repeat with_reducible first | refine js ?_ | refine ja ?_ | refine jw KL59 [9, 15, 23] (aa TF59 (aa p4 (aa hP.r.s hP.r.len))) fun _ => ?_)
  refine Run_loopV [10, 11, 13, 46, 75] (σ := Nat) (fun k => [(13, some (.int .i64 k)), (10, some (.bool false)), (11, some (.int .i64 0))]) (fun k w' => k ≤ p.Runs.length ∧ (∀ j, j < k → Pl.runP t p j = true) ∧ Ext w4 w') (fun k => p.Runs.length - k) 0 (by simp [SubB, fnd]) ⟨by omega, by simp, Ext.refl _⟩ ?_
  rintro k w5 ⟨hk, hf, x5⟩
  have y5 := y4.trans x5
  have p5 := P w5 (x4.trans x5)
  have t5 := T w5 (x4.trans x5)
  (repeat with_reducible first | refine js ?_ | refine ja ?_ | refine jw KL59 [9, 15, 23] (aa TF59 (aa p5 (aa hP.r.s hP.r.len))) fun _ => ?_)
  refine Run_condS (fun _ => rfl) (fun h => ?_) (fun h => ?_)
  · simp at h
    have hkl := h
    obtain ⟨q1, q2⟩ := (hP.r.ext y5).runD hkl
    have hgr : p.Runs.getD k default = p.Runs[k] := by simp [List.getD_eq_getElem?_getD, hkl]
    simp only [RunD.cs, AtN, KS, Nat.reduceAdd, Nat.reduceMul, Nat.reduceEqDiff, ↓reduceIte, UT] at q1
    by_cases k0 : k = 0
    · have e0 : decide (0 < (k : Int)) = false := by simp; omega
      (repeat with_reducible first | refine js ?_ | refine ja ?_ | refine jw KL59 [9, 15, 23] (aa TF59 (aa t5 (aa p5 (aa hP.r.s (aa hP.r.len (aa q1 (aa e0 KX))))))) fun _ => ?_)
      refine ⟨.bool (Tt.isRun t p.Runs[k]), PC_pure call105 fun w8 x8 => rfIs vl t _ w8 (hl.ext (y5.trans x8)) q2, rfl, undef, fun w8 x8 => ?_⟩
      have y8 := y5.trans x8
      have hpk : Pl.runP t p k = Tt.isRun t p.Runs[k] := by unfold Pl.runP; rw [hgr]; simp [k0]
      simp only [bOf_mk, Bool.or_false, Bool.false_and, Bool.and_false]
      refine Run_condS (fun _ => rfl) (fun h => ?_) (fun h => ?_)
      · (repeat with_reducible first | refine js ?_ | refine ja ?_ | refine jw KL59 [9, 15, 23] TF59 fun _ => ?_)
        refine Run_ret ?_
        have : Pl.runsOk t p = false := not_range hkl (by rw [hpk]; simpa using h)
        simp [Rets, RetM, resV, fnd, oneOr, hres, hg, this, y8]
      · (repeat with_reducible first | refine js ?_ | refine ja ?_ | refine jw KL59 [9, 15, 23] TF59 fun _ => ?_)
        refine Run_lp ⟨k + 1, ?_, ⟨by omega, fun j hj => ?_, x5.trans x8⟩, by omega⟩
        · simp [SubB, fnd, strike, has]
        · by_cases e : j = k
          · rw [e, hpk]; simpa using h
          · exact hf j (by omega)
    · have e0 : decide (0 < (k : Int)) = true := by simp; omega
      have e1 : ((k : Int) - 1).toNat = k - 1 := by omega
      obtain ⟨a1, a2⟩ := (hP.r.ext y5).runD (show k - 1 < p.Runs.length by omega)
      simp only [RunD.cs, AtN, KS, Nat.reduceAdd, Nat.reduceMul, Nat.reduceEqDiff, ↓reduceIte, UT] at a1
      have hgr1 : p.Runs.getD (k - 1) default = p.Runs[k - 1] := by simp [List.getD_eq_getElem?_getD, show k - 1 < p.Runs.length by omega]
      (repeat with_reducible first | refine js ?_ | refine ja ?_ | refine jw KL59 [9, 15, 23] (aa TF59 (aa t5 (aa p5 (aa hP.r.s (aa hP.r.len (aa q1 (aa e0 (aa e1 (aa a1 KX))))))))) fun _ => ?_)
      refine ⟨.bool (Tt.isRun t p.Runs[k]), PC_pure call105 fun w8 x8 => rfIs vl t _ w8 (hl.ext (y5.trans x8)) q2, rfl, (fun _ => ⟨by omega, by omega⟩), (fun _ => ⟨by omega, by omega⟩), .bool (Tt.before p.Runs[k - 1] p.Runs[k]), (fun _ => PC_pure call106 fun w8 x8 => rfBefore _ _ w8), (fun _ => rfl), fun w8 x8 => ?_⟩
      have y8 := y5.trans x8
      have hpk : (!Tt.isRun t p.Runs[k] || !Tt.before p.Runs[k - 1] p.Runs[k]) = !Pl.runP t p k := by
        unfold Pl.runP; rw [hgr, hgr1]; simp [k0]
      refine Run_condS (fun _ => rfl) (fun h => ?_) (fun h => ?_)
      · have h2 : (!Pl.runP t p k) = true := hpk.symm.trans h
        (repeat with_reducible first | refine js ?_ | refine ja ?_ | refine jw KL59 [9, 15, 23] TF59 fun _ => ?_)
        refine Run_ret ?_
        have : Pl.runsOk t p = false := not_range hkl (by simpa using h2)
        simp [Rets, RetM, resV, fnd, oneOr, hres, hg, this, y8]
      · have h2 : (!Pl.runP t p k) = false := hpk.symm.trans h
        (repeat with_reducible first | refine js ?_ | refine ja ?_ | refine jw KL59 [9, 15, 23] TF59 fun _ => ?_)
        refine Run_lp ⟨k + 1, ?_, ⟨by omega, fun j hj => ?_, x5.trans x8⟩, by omega⟩
        · simp [SubB, fnd, strike, has]
        · by_cases e : j = k
          · rw [e]; simpa using h2
          · exact hf j (by omega)
  simp at h
  obtain rfl : k = p.Runs.length := by omega
  have hro : Pl.runsOk t p = true := all_range hf
  rw [hro, Bool.true_and] at hg
  have hrun : ∀ i, i < p.Runs.length → 0 ≤ (p.Runs.getD i default).Line ∧ (p.Runs.getD i default).Line < t.Lines.length ∧ Tt.LOk (Pl.lineR t (p.Runs.getD i default)) t.Offices := fun i hi => by
    have := hf i hi
    simp only [Pl.runP, Bool.and_eq_true] at this
    exact isRunL this.1
  clear hf
  (repeat with_reducible first | refine js ?_ | refine ja ?_ | refine jw KL59 [9, 15, 23] TF59 fun _ => ?_)
  refine Run_loopV [10, 11, 14, 15, 79, 117] (σ := Nat × Value) (fun q => [(15, some (.int .i64 q.1)), (14, some q.2), (10, some (.bool false)), (11, some (.int .i64 0))]) (fun q w' => q.1 ≤ p.Of.length ∧ (∀ j, j < q.1 → Pl.ofP t f l p j = true) ∧ BufL (α := RunD) 54 w5 w' q.2 ((Pl.ofs p).take q.1)) (fun q => p.Of.length - q.1) (0, .slice none 0 0) (by simp [SubB, fnd]) ⟨by simp, by simp, by simpa using BufL.nil (Ext.refl _)⟩ ?_
  rintro ⟨k, vf⟩ w7 ⟨hk, hf, hB⟩
  simp only at hk hf hB
  have x7 := hB.ext0
  have y7 := y5.trans x7
  have hlk : ((Pl.ofs p).take k).length = k := by simp [Pl.ofs]; omega
  (repeat with_reducible first | refine js ?_ | refine ja ?_ | refine jw KL59 [9, 15, 23] (aa TF59 (aa ho.s ho.len)) fun _ => ?_)
  refine Run_condS (fun _ => rfl) (fun h => ?_) (fun h => ?_)
  · simp at h
    have hkl2 := h
    have hkl : k < p.Of.length := by omega
    obtain ⟨f1, f2, f3⟩ := (hP.o.ext y7).get hkl
    have hgo : p.Of.getD k 0 = p.Of[k] := by simp [List.getD_eq_getElem?_getD, hkl]
    have z7 := x4.trans (x5.trans x7)
    have t7 := T w7 z7
    have ff7 := F w7 z7
    have p7 := P w7 z7
    generalize hq : p.Of[k] = q at *
    by_cases hin : 0 ≤ q ∧ q < p.Runs.length
    · have e0 : decide (q < 0) = false := by simp; omega
      have e1 : decide ((p.Runs.length : Int) ≤ q) = false := by simp; omega
      obtain ⟨g, o1, o2, hO⟩ := (ho.ext y7).ord hkl2
      obtain ⟨r1, r2⟩ := (hP.r.ext y7).runD (show q.toNat < p.Runs.length by omega)
      have hgq : p.Runs.getD q.toNat default = p.Runs[q.toNat] := by simp [List.getD_eq_getElem?_getD, show q.toNat < p.Runs.length by omega]
      have hgl : l.getD k default = l[k] := by simp [List.getD_eq_getElem?_getD, hkl2]
      obtain ⟨hr1, hr2, hr3⟩ := hrun q.toNat (by omega)
      rw [hgq] at hr1 hr2 hr3
      have hor := ok.o _ (List.getElem_mem hkl2)
      simp only [Pl.oright, Pl.oNum, Bool.and_eq_true, decide_eq_true_eq] at hor
      have hcl := hor.1.2.2.2.1
      have hcr := hor.1.2.2.2.2.2.2.1
      clear hor
      have hpk : Pl.ofP t f l p k = Pl.fits t f l[k] p.Runs[q.toNat] := by
        unfold Pl.ofP; rw [hgo, hgl, hgq, decide_eq_true hin, Bool.true_and]
      have hofs : (Pl.ofs p).take (k + 1) = (Pl.ofs p).take k ++ [p.Runs[q.toNat]] := by
        have hkk : k < (Pl.ofs p).length := by simp [Pl.ofs]; omega
        rw [List.take_succ_eq_append_getElem hkk]
        congr 2
        have hgq' := hgq
        rw [List.getD_eq_getElem?_getD] at hgq'
        simpa [Pl.ofs, hq] using hgq'
      generalize hxx : p.Runs[q.toNat] = r at *
      generalize hoo : l[k] = o at *
      simp only [OrderD.cs, RunD.cs, AtN, KS, Nat.reduceAdd, Nat.reduceMul, Nat.reduceEqDiff, ↓reduceIte, UT] at o1 r1
      (repeat with_reducible first | refine js ?_ | refine ja ?_ | refine jw KL59 [9, 15, 23] (aa TF59 (aa t7 (aa ff7 (aa p7 (aa hP.o.s (aa hP.o.len (aa f1 (aa f2 (aa ho.s (aa ho.len (aa hP.r.s (aa hP.r.len (aa e0 (aa e1 (aa o1 (aa r1 KX)))))))))))))))) fun _ => ?_)
      refine ⟨.bool (Pl.fits t f o r), PC_pure call107 fun w8 x8 => rfFits vl t f u0 u1 u2 o g r w8 (hl.ext (y7.trans x8)) (hT.ext (y7.trans x8)) (hO.ext x8) ⟨hr1, hr2⟩ hr3 ⟨hcl.1, by omega⟩ hcr, rfl, fun w8 x8 => ?_⟩
      have y8 := y7.trans x8
      refine Run_condS (fun _ => rfl) (fun h => ?_) (fun h => ?_)
      · have hfit : Pl.fits t f o r = false := by simpa using h
        (repeat with_reducible first | refine js ?_ | refine ja ?_ | refine jw KL59 [9, 15, 23] TF59 fun _ => ?_)
        refine Run_ret ?_
        have : Pl.ofsOk t f l p = false := not_range hkl2 (by rw [hpk]; exact hfit)
        simp [Rets, RetM, resV, fnd, oneOr, hres, hg, this, y8]
      have hfit : Pl.fits t f o r = true := by simpa using h
      clear h
      have z8 := z7.trans x8
      let S : Nat → Prop := fun k => some k ≠ vf.ownBlock
      have hBo := hB.o
      have hS : ∀ q, q < w5.heap.size → S q := fun q hq e => by have := (hBo.own_lt e.symm).1; omega
      have s5 := y5.size
      have s4 := x4.size
      have s45 := x5.size
      have bP : pp.block < w5.heap.size := by have := h3.at_.blk; omega
      have bO : (slAt v1).block < w5.heap.size := by have := hP.o.blk (by decide) hkl; omega
      have bR : (slAt v0).block < w5.heap.size := by have := hP.r.blk (by decide) (show q.toNat < p.Runs.length by omega); omega
      (repeat with_reducible first | refine jq ?_ | refine jk ?_ | refine jc ?_ | refine jl ?_ | refine jb ?_ | refine jo ?_ | refine ji ?_ | refine jx rfl ?_)
      refine Run_eh S [11] [(2, [8, 9, 10, 11]), (4, [6, 7, 8, 9, 10, 11]), (7, [8, 9, 10, 11]), (9, [10, 11])] (id := 17) KL59 (.first 0 (.first 1 (.first 2 (.first 3 (.first 4 (.first 5 (.first 6 (.first 7 (.first 8 (.first 9 (.alt true 10 (.alt true 11 (.free (.first 12 .done)) .stop) .stop))))))))))) mixed (by kernel_rfl) (by kernel_rfl) fun w8' x8' _ => ?_
      have y8' := y8.trans x8'
      have p8 := P w8' (z8.trans x8')
      obtain ⟨f1', f2', _⟩ := (hP.o.ext y8').get hkl
      rw [hq] at f1'
      have r8 : AtN w8' ((slAt v0).add (q.toNat * 3)) 0 r.cs := by
        obtain ⟨c1, _⟩ := (hP.r.ext y8').runD (show q.toNat < p.Runs.length by omega)
        rw [hxx] at c1; exact c1
      simp only [RunD.cs, AtN, KS, Nat.reduceAdd, Nat.reduceMul, Nat.reduceEqDiff, ↓reduceIte, UT] at r8
      (try simp (maxSteps := 5000000) only [KS, Nat.reduceAdd, Nat.reduceMul, Nat.reduceEqDiff, ↓reduceIte, forall_const, Int.cast_ofNat_Int, Int.reduceToNat, List.take_succ_cons, List.take_zero, List.drop_succ_cons, List.drop_zero, TF59, KL59, eh, gres, qopS, putL, ung, p8, hP.o.s, hP.o.len, f1', f2', hP.r.s, hP.r.len, r8]); (try simp (disch := omega) only [wrapI, tmodI, tdivI])
      have hBo8 := (hBo.keep' (Keep.of_ext (S := fun _ => True) (x8.trans x8')) (fun _ _ _ => trivial) fun css h => h.any)
      have hbl8 : w5.heap.size ≤ w8'.heap.size := (x7.trans (x8.trans x8')).size
      refine ⟨hS _ bP, hS _ bP, ⟨by omega, by omega⟩, hS _ (by rw [blk_add]; exact bO), ⟨by omega, by omega⟩, hS _ (by rw [blk_add]; exact bR), Keep.refl _ _, ?_⟩
      refine SemW_append1G (α := RunD) (B := w5.heap.size) (X := .agg r.cs.toArray) (x := r) Tryz.underlying30 ti54 rfl (by decide) hBo8 (by omega) ⟨rfl, r2⟩ (by rw [hlk]; simp only [maxLen]; omega) (fun w' x => Keep.of_ext x) fun s v' w9 b9 k9 _ => ?_
      rw [← hofs] at b9
      have x9 : Ext w5 w9 := Keep.ext (x7.trans (x8.trans x8')) k9 hS
      (repeat with_reducible first | refine js ?_ | refine ja ?_ | refine jw KL59 [9, 15, 23] TF59 fun _ => ?_)
      refine Run_lp ⟨(k + 1, v'), ?_, ⟨by simp only; omega, fun j hj => ?_, ?_⟩, by simp only; omega⟩
      · simp [SubB, fnd, strike, has]
      · by_cases e : j = k
        · rw [e, hpk]; exact hfit
        · exact hf j (by simp only at hj; omega)
      · obtain ⟨css, c1, c2⟩ := b9.ex
        exact ⟨css, c1, ⟨c2, x9⟩⟩
    · have hbad : Pl.good t f l covers p = false := by
        have : Pl.ofsOk t f l p = false := not_range (show k < l.length by omega) (by
          unfold Pl.ofP; rw [hgo, decide_eq_false hin, Bool.false_and])
        rw [hg, this]; rfl
      by_cases e0 : q < 0
      · have e0 : decide (q < 0) = true := by simp; omega
        (repeat with_reducible first | refine js ?_ | refine ja ?_ | refine jw KL59 [9, 15, 23] (aa TF59 (aa p7 (aa hP.o.s (aa hP.o.len (aa f1 (aa f2 (aa e0 KX))))))) fun _ => ?_)
        refine ⟨undef, fun w8 x8 => ?_⟩
        refine Run_condS (fun _ => rfl) (fun _ => ?_) (fun h => by cases h)
        (repeat with_reducible first | refine js ?_ | refine ja ?_ | refine jw KL59 [9, 15, 23] TF59 fun _ => ?_)
        refine Run_ret ?_
        simp [Rets, RetM, resV, fnd, oneOr, hres, hbad]
        exact y7.trans x8
      · have e0' : decide (q < 0) = false := by simp; omega
        have e1 : decide ((p.Runs.length : Int) ≤ q) = true := by simp; omega
        (repeat with_reducible first | refine js ?_ | refine ja ?_ | refine jw KL59 [9, 15, 23] (aa TF59 (aa p7 (aa hP.o.s (aa hP.o.len (aa f1 (aa f2 (aa hP.r.s (aa hP.r.len (aa e0' (aa e1 KX)))))))))) fun _ => ?_)
        refine ⟨undef, fun w8 x8 => ?_⟩
        refine Run_condS (fun _ => rfl) (fun _ => ?_) (fun h => by cases h)
        (repeat with_reducible first | refine js ?_ | refine ja ?_ | refine jw KL59 [9, 15, 23] TF59 fun _ => ?_)
        refine Run_ret ?_
        simp [Rets, RetM, resV, fnd, oneOr, hres, hbad]
        exact y7.trans x8
  simp at h
  obtain rfl : k = p.Of.length := by omega
  have hfo : Pl.ofsOk t f l p = true := all_range fun j hj => hf j (by omega)
  rw [hfo, Bool.true_and] at hg
  have htk : (Pl.ofs p).take p.Of.length = Pl.ofs p := List.take_of_length_le (by simp [Pl.ofs])
  rw [htk] at hB
  clear hf htk
  have hofl : (Pl.ofs p).length = p.Of.length := by simp [Pl.ofs]
  have hvs := hB.sl (by rw [hofl]; omega)
  have hcro : ∀ x ∈ l, 1 ≤ x.Crowd ∧ x.Crowd ≤ 64 := fun x hx => by
    have := ok.o _ hx
    simp only [Pl.oright, Pl.oNum, Bool.and_eq_true, decide_eq_true_eq] at this
    exact this.1.2.2.2.2.2.2.1
  have hcrw : ∀ r, 0 ≤ (Pl.load l (Pl.ofs p) r).n ∧ (Pl.load l (Pl.ofs p) r).n ≤ 1000000000000000 ∧ 0 ≤ (Pl.load l (Pl.ofs p) r).c ∧ (Pl.load l (Pl.ofs p) r).c ≤ 65 := fun r => by
    have := Pl.load_bd (l := l) hcro (Pl.ofs p) r
    omega
  have z7 := x4.trans (x5.trans x7)
  have p7 := P w7 z7
  have hcl := hP.c.len
  (repeat with_reducible first | refine js ?_ | refine ja ?_ | refine jw KL59 [9, 15, 23] (aa TF59 (aa p7 (aa hP.r.s hP.r.len))) fun _ => ?_)
  refine Run_loopV [10, 11, 16, 17, 18, 19, 134, 178] (σ := Nat × Int × Int) (fun q => [(17, some (.int .i64 q.1)), (16, some (.int .i64 (Pl.sum (p.Covers.take q.1)))), (10, some (.bool false)), (11, some (.int .i64 0))]) (fun q w' => q.1 ≤ p.Runs.length ∧ (∀ j, j < q.1 → Pl.covP t l p j = true) ∧ (0 ≤ Pl.sum (p.Covers.take q.1) ∧ Pl.sum (p.Covers.take q.1) ≤ 65 * q.1) ∧ Ext w7 w') (fun q => p.Runs.length - q.1) (0, 0, 0) (by simp [SubB, fnd, Pl.sum]) ⟨by simp, by simp, by simp [Pl.sum], Ext.refl _⟩ ?_
  rintro ⟨k, _, _⟩ w8 ⟨hk, hf, hsm, x8⟩
  simp only at hk hf hsm
  have y8 := y7.trans x8
  have z8 := z7.trans x8
  have p8 := P w8 z8
  (repeat with_reducible first | refine js ?_ | refine ja ?_ | refine jw KL59 [9, 15, 23] (aa TF59 (aa p8 (aa hP.r.s hP.r.len))) fun _ => ?_)
  refine Run_condS (fun _ => rfl) (fun h => ?_) (fun h => ?_)
  · simp at h
    have hkl := h
    obtain ⟨r1, r2⟩ := (hP.r.ext y8).runD hkl
    have hgr : p.Runs.getD k default = p.Runs[k] := by simp [List.getD_eq_getElem?_getD, hkl]
    have hgc : p.Covers.getD k 0 = p.Covers[k]'(by omega) := by simp [List.getD_eq_getElem?_getD, show k < p.Covers.length by omega]
    have hsk := Pl.sum_take p.Covers k (by omega)
    obtain ⟨hr1, hr2, hr3⟩ := hrun k hkl
    rw [hgr] at hr1 hr2 hr3
    have hcov : Pl.covP t l p k = decide ((Pl.load l (Pl.ofs p) p.Runs[k]).n ≠ 0 ∧ p.Covers[k]'(by omega) = (Pl.load l (Pl.ofs p) p.Runs[k]).covers ∧ max (Pl.load l (Pl.ofs p) p.Runs[k]).n (Pl.load l (Pl.ofs p) p.Runs[k]).c ≤ (Pl.lineR t p.Runs[k]).Room) := by
      unfold Pl.covP; rw [hgr, hgc]
    have hbd := hcrw p.Runs[k]
    generalize hxx : p.Runs[k] = r at *
    generalize hcc : p.Covers[k]'(by omega) = cv at *
    simp only [RunD.cs, AtN, KS, Nat.reduceAdd, Nat.reduceMul, Nat.reduceEqDiff, ↓reduceIte, UT] at r1
    (repeat with_reducible first | refine js ?_ | refine ja ?_ | refine jw KL59 [9, 15, 23] (aa TF59 (aa p8 (aa hP.r.s (aa hP.r.len r1)))) fun _ => ?_)
    refine CallW_pure call108 (rfLoad vo vf l (Pl.ofs p) r w8 (ho.ext y8) (hvs.ext x8) (by omega) hcro (by omega) r2) fun w9 x9 => ?_
    generalize hld : Pl.load l (Pl.ofs p) r = ld at *
    (repeat with_reducible first | refine js ?_ | refine ja ?_ | refine jw KL59 [9, 15, 23] TF59 fun _ => ?_)
    have y9 := y8.trans x9
    have z9 := z8.trans x9
    have p9 := P w9 z9
    have t9 := T w9 z9
    obtain ⟨r1, _⟩ := (hP.r.ext y9).runD hkl
    obtain ⟨d1, d2, d3⟩ := (hP.c.ext y9).get (show k < p.Covers.length by omega)
    rw [hcc] at d1
    rw [hxx] at r1
    have hlt : r.Line.toNat < t.Lines.length := by omega
    have hlo : Pl.lineR t r = t.Lines[r.Line.toNat] := by unfold Pl.lineR; simp [List.getD_eq_getElem?_getD, hlt]
    obtain ⟨l0, l1, l2, l3, e1, e2, hR⟩ := (hl.ext y9).line hlt
    rw [← hlo] at e1 e2 hR
    generalize hln : Pl.lineR t r = x at *
    simp only [RunD.cs, LineD.cs, AtN, KS, Nat.reduceAdd, Nat.reduceMul, Nat.reduceEqDiff, ↓reduceIte, UT] at r1 e1
    by_cases n0 : ld.n = 0
    · have e0 : (ld.n == 0) = true := by simp [n0]
      (repeat with_reducible first | refine js ?_ | refine ja ?_ | refine jw KL59 [9, 15, 23] (aa TF59 (aa e0 KX)) fun _ => ?_)
      intro w10 x10
      have y10 := y9.trans x10
      refine Run_condS (fun _ => rfl) (fun _ => ?_) (fun h => by cases h)
      (repeat with_reducible first | refine js ?_ | refine ja ?_ | refine jw KL59 [9, 15, 23] TF59 fun _ => ?_)
      refine Run_ret ?_
      have : Pl.covsOk t l p = false := not_range hkl (by rw [hcov]; simp [n0])
      simp [Rets, RetM, resV, fnd, oneOr, hres, hg, this, y10]
    · have e0 : (ld.n == 0) = false := by simp [n0]
      (repeat with_reducible first | refine js ?_ | refine ja ?_ | refine jw KL59 [9, 15, 23] (aa TF59 (aa p9 (aa t9 (aa hP.c.s (aa hP.c.len (aa d1 (aa d2 (aa hP.r.s (aa hP.r.len (aa r1 (aa hl.s (aa hl.len (aa e1 (aa e0 KX)))))))))))))) fun _ => ?_)
      intro w13 x13
      have y13 := y9.trans x13
      have hcb : (cv != max 0 (ld.c - ld.n) || decide (x.Room < max ld.n ld.c)) = !Pl.covP t l p k := by
        rw [show max 0 (ld.c - ld.n) = ld.covers from rfl, hcov, Bool.eq_iff_iff]
        simp only [Bool.or_eq_true, bne_iff_ne, ne_eq, decide_eq_true_eq, Bool.not_eq_true', decide_eq_false_iff_not]
        constructor
        · intro h1 h2
          rcases h1 with h1 | h1
          · exact h1 h2.2.1
          · have := h2.2.2; omega
        · intro h1
          by_cases h2 : cv = ld.covers
          · right
            have : ¬ (max ld.n ld.c ≤ x.Room) := fun h3 => h1 ⟨n0, h2, h3⟩
            omega
          · exact .inl h2
      refine Run_condS (fun _ => rfl) (fun h => ?_) (fun h => ?_)
      · have h2 : (!Pl.covP t l p k) = true := hcb.symm.trans h
        (repeat with_reducible first | refine js ?_ | refine ja ?_ | refine jw KL59 [9, 15, 23] TF59 fun _ => ?_)
        refine Run_ret ?_
        have : Pl.covsOk t l p = false := not_range hkl (by simpa using h2)
        simp [Rets, RetM, resV, fnd, oneOr, hres, hg, this, y13]
      · have h2 : (!Pl.covP t l p k) = false := hcb.symm.trans h
        have h2 : Pl.covP t l p k = true := by simpa using h2
        have h3 : cv = ld.covers := by
          rw [hcov] at h2
          exact (of_decide_eq_true h2).2.1
        have hcv : 0 ≤ cv ∧ cv ≤ 65 := by rw [h3]; unfold Pl.LoadD.covers; omega
        have p13 := P w13 (z9.trans x13)
        have d1' : mem w13 ((slAt v2).add k) = .int .i64 cv := by rw [x13.mem d2, d1]
        have d2' := x13.has1 d2
        (repeat with_reducible first | refine js ?_ | refine ja ?_ | refine jw KL59 [9, 15, 23] (aa TF59 (aa p13 (aa hP.c.s (aa hP.c.len (aa d1' d2'))))) fun _ => ?_)
        refine Run_lp ⟨(k + 1, 0, 0), ?_, ⟨by simp only; omega, fun j hj => ?_, ?_, x8.trans (x9.trans x13)⟩, by simp only; omega⟩
        · simp only; rw [hsk]; simp [SubB, fnd, strike, has]
        · by_cases e : j = k
          · rw [e]; exact h2
          · exact hf j (by simp only at hj; omega)
        · simp only; rw [hsk]; omega
  · simp at h
    obtain rfl : k = p.Runs.length := by omega
    have hco : Pl.covsOk t l p = true := all_range hf
    have htk : p.Covers.take p.Runs.length = p.Covers := List.take_of_length_le (by omega)
    rw [hco, Bool.true_and] at hg
    rw [htk]
    (repeat with_reducible first | refine js ?_ | refine ja ?_ | refine jw KL59 [9, 15, 23] TF59 fun _ => ?_)
    refine Run_ret ?_
    simp [Rets, RetM, resV, fnd, oneOr, hres, hg]
    exact y8
end Go.Proofs.YtoadfmgnpmcbfaaGreat
