import Derived.Test.YtldjfebokojmfaaGreatRgW20x
import Derived.Test.YtldjfebokojmfaaGreatRgGp
namespace Go.Proofs.YtldjfebokojmfaaGreat
open Go Go.Fk
set_option linter.unusedSimpArgs false
set_option linter.unusedVariables false
set_option maxRecDepth 100000
def allN (n : Nat) (p : Nat → Bool) : Bool := (List.range n).all p
theorem allN_true {n : Nat} {p : Nat → Bool} (h : ∀ k, k < n → p k = true) : allN n p = true := by
  unfold allN; rw [List.all_eq_true]; intro k hk; exact h k (by simpa using hk)
theorem allN_false {n k : Nat} {p : Nat → Bool} (hk : k < n) (h : p k = false) : allN n p = false := by
  unfold allN; rw [List.all_eq_false]; exact ⟨k, by simpa using hk, by simp [h]⟩
theorem allN_iff {n : Nat} {p : Nat → Bool} : allN n p = true ↔ ∀ k, k < n → p k = true := by
  unfold allN; rw [List.all_eq_true]; simp
theorem tfPrice (i n : Int) (w : World) : Calls Tryz.prog 96 #[.int .i64 i, .int .i64 n] w fun e w' => e = .returned (.bool (Tf.price n)) ∧ Ext w w' := by
  refine Calls_of_Run (args := [.int .i64 i, .int .i64 n]) (n := 11) (rs := [.tmp 4]) Tryz.func96 rfl rfl rfl (by simp) ?_
  (repeat with_reducible first | refine jy ?_ | refine jw KL96 [] TF96 fun _ => ?_)
  refine Run_ret ?_
  simp [Rets, RetM, resV, fnd, oneOr, Ext.refl, Tf.price]
theorem tfAllI (fv v : Value) (l : List Int) (p : Nat → Bool) (w : World) (hx : Sl w v l) (hp : ∀ k (hk : k < l.length), Pred Tryz.prog fv [.int .i64 (k : Int), .int .i64 l[k]] w (p k)) :
    Calls Tryz.prog 98 #[fv, v] w fun e w' => e = .returned (.bool (allN l.length p)) ∧ Ext w w' := by
  have hn := hx.small
  refine Calls_of_Run (args := [fv, v]) (n := 20) (rs := [.tmp 4]) Tryz.func98 rfl rfl rfl (by simp) ?_
  (repeat with_reducible first | refine jy ?_ | refine jw KL98 [] (aa TF98 (aa hx.s hx.len)) fun _ => ?_)
  refine Run_loopV [4, 5, 6, 9, 10, 18] (σ := Nat) (fun k => [(9, some (.int .i64 k))]) (fun k w' => k ≤ l.length ∧ (∀ j, j < k → p j = true) ∧ Ext w w') (fun k => l.length - k) 0 (by simp [SubB, fnd]) ⟨by omega, by simp, Ext.refl _⟩ ?_
  rintro k w1 ⟨hk, hf, x1⟩
  (repeat with_reducible first | refine jy ?_ | refine jw KL98 [] TF98 fun _ => ?_)
  refine Run_condS (fun _ => rfl) (fun h => ?_) (fun h => ?_)
  · simp at h
    obtain ⟨f1, f2, f3⟩ := (hx.ext x1).get h
    (repeat with_reducible first | refine jy ?_ | refine jw KL98 [] (aa TF98 (aa hx.s (aa hx.len (aa f1 f2)))) fun _ => ?_)
    refine (hp k h w1 x1).mono fun v w2 ⟨hv, x2⟩ => ?_
    subst hv
    have hkl := h
    (repeat with_reducible first | refine jy ?_ | refine jw KL98 [] TF98 fun _ => ?_)
    refine Run_condS (fun _ => rfl) (fun h => ?_) (fun h => ?_)
    · (repeat with_reducible first | refine jy ?_ | refine jw KL98 [] TF98 fun _ => ?_)
      refine Run_ret ?_
      simp [Rets, RetM, resV, fnd, oneOr, allN_false hkl (by simpa using h)]
      exact x1.trans x2
    · have hpk : p k = true := by simpa using h
      (repeat with_reducible first | refine jy ?_ | refine jw KL98 [] TF98 fun _ => ?_)
      refine Run_lp ⟨k + 1, ?_, ⟨by omega, fun j hj => ?_, x1.trans x2⟩, by omega⟩
      · simp [SubB, fnd, strike, has]
      · by_cases e : j = k
        · subst e; exact hpk
        · exact hf j (by omega)
  · simp at h
    obtain rfl : k = l.length := by omega
    (repeat with_reducible first | refine jy ?_ | refine jw KL98 [] TF98 fun _ => ?_)
    refine Run_ret ?_
    simp [Rets, RetM, resV, fnd, oneOr, allN_true hf, x1]
theorem tfAllT (fv v : Value) (l : List TierD) (p : Nat → Bool) (w : World) (hx : Sl w v l) (hp : ∀ k (hk : k < l.length), Pred Tryz.prog fv [.int .i64 (k : Int), .agg l[k].cs.toArray] w (p k)) :
    Calls Tryz.prog 99 #[fv, v] w fun e w' => e = .returned (.bool (allN l.length p)) ∧ Ext w w' := by
  have hn := hx.small
  refine Calls_of_Run (args := [fv, v]) (n := 20) (rs := [.tmp 4]) Tryz.func99 rfl rfl rfl (by simp) ?_
  (repeat with_reducible first | refine jy ?_ | refine jw KL99 [] (aa TF99 (aa hx.s hx.len)) fun _ => ?_)
  refine Run_loopV [4, 5, 6, 9, 10, 18] (σ := Nat) (fun k => [(9, some (.int .i64 k))]) (fun k w' => k ≤ l.length ∧ (∀ j, j < k → p j = true) ∧ Ext w w') (fun k => l.length - k) 0 (by simp [SubB, fnd]) ⟨by omega, by simp, Ext.refl _⟩ ?_
  rintro k w1 ⟨hk, hf, x1⟩
  (repeat with_reducible first | refine jy ?_ | refine jw KL99 [] TF99 fun _ => ?_)
  refine Run_condS (fun _ => rfl) (fun h => ?_) (fun h => ?_)
  · simp at h
    have hkl := h
    obtain ⟨f1, f2⟩ := (hx.ext x1).tierD hkl
    simp only [TierD.cs, AtN, KS, Nat.reduceAdd, Nat.reduceMul, Nat.reduceEqDiff, ↓reduceIte, UT] at f1
    (repeat with_reducible first | refine jy ?_ | refine jw KL99 [] (aa TF99 (aa hx.s (aa hx.len f1))) fun _ => ?_)
    refine SemW_allocT ti126 fun px w2 h2 => ?_
    have b2 := h2.blk
    (repeat with_reducible first | refine jy ?_ | refine jw KL99 [] TF99 fun _ => ?_)
    refine SemW_setW (by rw [cells126]; decide) (by rw [cells126]; rfl) h2.row (by rw [cells126]; rfl) rfl fun w3 r3 k3 z3 => ?_
    have r3 : Row w3 px 126 l[k].cs := r3
    have x3 : Ext w1 w3 := Keep.ext h2.ext k3 fun q hq => by omega
    have q3 := r3.n
    simp only [TierD.cs, AtN, KS, Nat.reduceAdd, Nat.reduceMul, Nat.reduceEqDiff, ↓reduceIte, UT] at q3
    (repeat with_reducible first | refine jy ?_ | refine jw KL99 [] (aa TF99 q3) fun _ => ?_)
    refine (hp k hkl w3 (x1.trans x3)).mono fun v w4 ⟨hv, x4⟩ => ?_
    subst hv
    have y4 := x1.trans (x3.trans x4)
    (repeat with_reducible first | refine jy ?_ | refine jw KL99 [] TF99 fun _ => ?_)
    refine Run_condS (fun _ => rfl) (fun h => ?_) (fun h => ?_)
    · (repeat with_reducible first | refine jy ?_ | refine jw KL99 [] TF99 fun _ => ?_)
      refine Run_ret ?_
      simp [Rets, RetM, resV, fnd, oneOr, allN_false hkl (by simpa using h), y4]
    · have hpk : p k = true := by simpa using h
      (repeat with_reducible first | refine jy ?_ | refine jw KL99 [] TF99 fun _ => ?_)
      refine Run_lp ⟨k + 1, ?_, ⟨by omega, fun j hj => ?_, y4⟩, by omega⟩
      · simp [SubB, fnd, strike, has]
      · by_cases e : j = k
        · subst e; exact hpk
        · exact hf j (by omega)
  · simp at h
    obtain rfl : k = l.length := by omega
    (repeat with_reducible first | refine jy ?_ | refine jw KL99 [] TF99 fun _ => ?_)
    refine Run_ret ?_
    simp [Rets, RetM, resV, fnd, oneOr, allN_true hf, x1]
def tierP (l : List TierD) (k : Nat) : Bool := decide (Tf.bef l k < (l.getD k default).From) && Tf.price (l.getD k default).Extra
theorem tfTier (pf pp : Addr) (f : TariffD) (v0 v1 v2 : Value) (k : Nat) (hk : k < f.Tiers.length) (w : World) (hf : At w pf (f.cs v0 v1 v2)) (hp : At w pp [fnv 96]) (hT : TarR w f v0 v1 v2) :
    Calls Tryz.prog 97 #[.int .i64 (k : Int), .agg f.Tiers[k].cs.toArray, .pointer (some pf), .pointer (some pp)] w fun e w' => e = .returned (.bool (tierP f.Tiers k)) ∧ Ext w w' := by
  have hn := hT.t.small
  have hgk : f.Tiers.getD k default = f.Tiers[k] := by simp [List.getD_eq_getElem?_getD, hk]
  refine Calls_of_Run (args := [.int .i64 (k : Int), .agg f.Tiers[k].cs.toArray, .pointer (some pf), .pointer (some pp)]) (n := 28) (rs := [.tmp 6]) Tryz.func97 rfl rfl rfl (by simp) ?_
  (repeat with_reducible first | refine jy ?_ | refine jw KL97 [] TF97 fun _ => ?_)
  refine SemW_box fun px w1 hN => ?_
  have x1 := hN.ext
  have q1 := hN.at_.n
  have g1 := (hf.ext x1).n
  have p1 := (hp.ext x1).n
  simp only [TariffD.cs, TierD.cs, AtN, KS, Nat.reduceAdd, Nat.reduceMul, Nat.reduceEqDiff, ↓reduceIte, UT] at q1 g1 p1
  (repeat with_reducible first | refine jy ?_ | refine jw KL97 [] TF97 fun _ => ?_)
  refine Run_cutV [7, 9] (σ := Unit) (fun _ => [(7, some (.int .i64 (Tf.bef f.Tiers k)))]) (fun _ w' => w' = w1) ?_ ?_
  · refine Run_condS (fun _ => rfl) (fun h => ?_) (fun h => ?_)
    · simp at h
      obtain ⟨f1, f2⟩ := (hT.t.ext x1).tierD (show k - 1 < f.Tiers.length by omega)
      simp only [TierD.cs, AtN, KS, Nat.reduceAdd, Nat.reduceMul, Nat.reduceEqDiff, ↓reduceIte, UT] at f1
      have e1 : (((k : Int) - 1).toNat) = k - 1 := by omega
      (repeat with_reducible first | refine jy ?_ | refine jw KL97 [] (aa TF97 (aa g1 (aa hT.t.s (aa hT.t.len (aa e1 f1))))) fun _ => ?_)
      refine Run_lp ⟨(), ?_, rfl⟩
      have : Tf.bef f.Tiers k = f.Tiers[k - 1].From := by
        unfold Tf.bef; rw [if_neg (by omega)]; simp [List.getD_eq_getElem?_getD, show k - 1 < f.Tiers.length by omega]
      rw [this]
      simp [SubB, fnd, strike, has]
    · simp at h
      (repeat with_reducible first | refine jy ?_ | refine jw KL97 [] TF97 fun _ => ?_)
      refine Run_lp ⟨(), ?_, rfl⟩
      have : Tf.bef f.Tiers k = 0 := by unfold Tf.bef; rw [if_pos (by omega)]
      rw [this]
      simp [SubB, fnd, strike, has]
  · rintro _ w2 rfl
    (repeat with_reducible first | refine jy ?_ | refine jw KL97 [] (aa TF97 (aa q1 p1)) fun _ => ?_)
    refine .inr ⟨.bool (Tf.price f.Tiers[k].Extra), fun _ => PC_pure call96 fun w3 x3 => tfPrice _ _ w3, fun w3 x3 => ?_⟩
    unfold hush
    (repeat with_reducible first | refine jy ?_ | refine jw KL97 [] (aa TF97 (aa q1 p1)) fun _ => ?_)
    refine Run_ret ?_
    simp [Rets, RetM, resV, fnd, oneOr, tierP]
    exact ⟨by simp [hk], x1.trans x3⟩
theorem okT_eq (f : TariffD) : Tf.okT f = (decide (f.Base.length = f.Leg.length ∧ 1 ≤ f.Base.length ∧ f.Base.length ≤ 8 ∧ f.Tiers.length ≤ 16) && allN f.Base.length (fun k => Tf.price (f.Base.getD k 0)) && allN f.Leg.length (fun k => Tf.price (f.Leg.getD k 0)) && allN f.Tiers.length (tierP f.Tiers)) := by
  have hl : ∀ l : List Int, l.all Tf.price = allN l.length (fun k => Tf.price (l.getD k 0)) := fun l => by
    rw [Bool.eq_iff_iff, allN_iff, List.all_eq_true]
    constructor
    · intro h k hk
      have e : l.getD k 0 = l[k] := by simp [List.getD_eq_getElem?_getD, hk]
      rw [e]; exact h _ (List.getElem_mem hk)
    · intro h x hx
      obtain ⟨k, hk, rfl⟩ := List.getElem_of_mem hx
      have := h k hk
      have e : l.getD k 0 = l[k] := by simp [List.getD_eq_getElem?_getD, hk]
      rwa [e] at this
  have ht : Tf.tiersOk 0 f.Tiers = allN f.Tiers.length (tierP f.Tiers) := by
    rw [Bool.eq_iff_iff, allN_iff, Tf.tiers_at]
    constructor
    · intro h k hk
      have := h k hk
      simp [tierP, List.getD_eq_getElem?_getD, hk, this]
    · intro h k hk
      have := h k hk
      simpa [tierP, List.getD_eq_getElem?_getD, hk] using this
  unfold Tf.okT
  rw [hl, hl, ht]
theorem predPrice (w : World) (l : List Int) (k : Nat) (hk : k < l.length) : Pred Tryz.prog (fnv 96) [.int .i64 (k : Int), .int .i64 l[k]] w (Tf.price (l.getD k 0)) := by
  have e : l.getD k 0 = l[k] := by simp [List.getD_eq_getElem?_getD, hk]
  rw [e]; exact Pred_fn call96 (tfPrice _ _)
theorem tfCheck (f : TariffD) (v0 v1 v2 : Value) (w : World) (hT : TarR w f v0 v1 v2) :
    Calls Tryz.prog 63 #[.agg (f.cs v0 v1 v2).toArray] w fun e w' => e = .returned (.int .i64 (Tf.chk f)) ∧ Ext w w' := by
  have b0 := hT.b.small
  have b1 := hT.l.small
  have b2 := hT.t.small
  have l0 := hT.b.len
  have l1 := hT.l.len
  have l2 := hT.t.len
  refine Calls_of_Run (args := [.agg (f.cs v0 v1 v2).toArray]) (n := 50) (rs := [.tmp 2]) Tryz.func63 rfl rfl rfl (by simp) ?_
  (repeat with_reducible first | refine jy ?_ | refine jw KL63 [] TF63 fun _ => ?_)
  refine SemW_box fun p w1 hN => ?_
  have x1 := hN.ext
  have G : ∀ w', Ext w1 w' → AtN w' p 0 (f.cs v0 v1 v2) := fun w' x => (hN.at_.ext x).n
  simp only [TariffD.cs, AtN, KS, Nat.reduceAdd, Nat.reduceMul, Nat.reduceEqDiff, ↓reduceIte, UT] at G
  have g1 := G w1 (Ext.refl _)
  (repeat with_reducible first | refine jy ?_ | refine jw KL63 [] (aa TF63 (aa g1 (aa hT.b.s hT.b.len))) fun _ => ?_)
  refine SemW_var ti130 rfl rfl (by decide) rfl fun pp w2 h2 => ?_
  have x2 := h2.ext
  have P : ∀ w', Ext w2 w' → AtN w' pp 0 [fnv 96] := fun w' x => (h2.at_.ext x).n
  simp only [AtN, KS, Nat.reduceAdd, Nat.reduceMul, Nat.reduceEqDiff, ↓reduceIte, UT] at P
  have g2 := G w2 x2
  have p2 := P w2 (Ext.refl _)
  (repeat with_reducible first | refine jy ?_ | refine jw KL63 [] (aa TF63 (aa g2 (aa p2 (aa hT.l.s (aa hT.l.len (aa hT.t.s hT.t.len)))))) fun _ => ?_)
  refine .inr ⟨.bool (allN f.Base.length (fun k => Tf.price (f.Base.getD k 0))), fun _ => PC_pure call98 fun w3 x3 => tfAllI _ _ _ _ w3 (hT.b.ext (x1.trans (x2.trans x3))) (predPrice w3 f.Base), fun w3 x3 => ?_⟩
  unfold hush
  have g3 := G w3 (x2.trans x3)
  have p3 := P w3 x3
  (repeat with_reducible first | refine jy ?_ | refine jw KL63 [] (aa TF63 (aa g2 (aa p2 (aa g3 (aa p3 (aa hT.l.s (aa hT.l.len (aa hT.t.s hT.t.len)))))))) fun _ => ?_)
  refine .inr ⟨.bool (allN f.Leg.length (fun k => Tf.price (f.Leg.getD k 0))), fun _ => PC_pure call98 fun w4 x4 => tfAllI _ _ _ _ w4 (hT.l.ext (x1.trans (x2.trans (x3.trans x4)))) (predPrice w4 f.Leg), fun w4 x4 => ?_⟩
  unfold hush
  have x34 := x3.trans x4
  have g4 := G w4 (x2.trans x34)
  have p4 := P w4 x34
  (repeat with_reducible first | refine jy ?_ | refine jw KL63 [] (aa TF63 (aa g2 (aa p2 (aa g3 (aa p3 (aa g4 (aa p4 (aa hT.l.s (aa hT.l.len (aa hT.t.s hT.t.len)))))))))) fun _ => ?_)
  refine .inr ⟨.bool (allN f.Tiers.length (tierP f.Tiers)), fun _ => PC_pure call99 fun w5 x5 => tfAllT _ _ _ _ w5 (hT.t.ext (x1.trans (x2.trans (x34.trans x5)))) fun k hk w6 x6 => ?_, fun w5 x5 => ?_⟩
  · have x26 := x34.trans (x5.trans x6)
    exact CallW_cap (cap := [.pointer (some p), .pointer (some pp)]) call97 (tfTier p pp f v0 v1 v2 k hk w6 (hN.at_.ext (x2.trans x26)) (h2.at_.ext x26) (hT.ext (x1.trans (x2.trans x26)))) fun w7 x7 => ⟨rfl, x7⟩
  unfold hush
  have y5 := x1.trans (x2.trans (x34.trans x5))
  (repeat with_reducible first | refine jy ?_ | refine jw KL63 [] (aa TF63 (aa g2 (aa p2 (aa g3 (aa p3 (aa g4 (aa p4 (aa hT.l.s (aa hT.l.len (aa hT.t.s hT.t.len)))))))))) fun _ => ?_)
  have hk := okT_eq f
  refine Run_condS (fun _ => rfl) (fun h => ?_) (fun h => ?_)
  · (repeat with_reducible first | refine jy ?_ | refine jw KL63 [] TF63 fun _ => ?_)
    refine Run_ret ?_
    have : Tf.chk f = 210 := by
      unfold Tf.chk
      rw [if_neg]
      intro hh
      rw [hk] at hh
      simp only [Bool.and_eq_true, decide_eq_true_eq] at hh
      simp only [hh.1.1.2, hh.1.2, hh.2, Bool.not_true, Bool.or_false, Bool.or_eq_true, bne_iff_ne, ne_eq, decide_eq_true_eq] at h
      omega
    simp [Rets, RetM, resV, fnd, oneOr, this, y5]
  · (repeat with_reducible first | refine jy ?_ | refine jw KL63 [] TF63 fun _ => ?_)
    refine Run_ret ?_
    have : Tf.chk f = 0 := by
      unfold Tf.chk
      rw [if_pos]
      rw [hk]
      simp only [Bool.or_eq_false_iff, decide_eq_false_iff_not, Bool.not_eq_false'] at h
      simp at h
      simp only [Bool.and_eq_true, decide_eq_true_eq]
      exact ⟨⟨⟨by omega, h.1.1.2⟩, h.1.2⟩, h.2⟩
    simp [Rets, RetM, resV, fnd, oneOr, this, y5]
theorem rfPrice (n : Int) (w : World) : Calls Tryz.prog 76 #[.int .i64 n] w fun e w' => e = .returned (.bool (Tf.price n)) ∧ Ext w w' := by
  refine Calls_of_Run (args := [.int .i64 n]) (n := 9) (rs := [.tmp 2]) Tryz.func76 rfl rfl rfl (by simp) ?_
  (repeat with_reducible first | refine jy ?_ | refine jw KL76 [] TF76 fun _ => ?_)
  refine Run_ret ?_
  simp [Rets, RetM, resV, fnd, oneOr, Ext.refl, Tf.price]
theorem priW {n : Int} {w : World} {K : Value → World → Prop} (hK : ∀ w', Ext w w' → K (.bool (Tf.price n)) w') : CallW Tryz.prog (.func (.func 76) #[] #[]) [.int .i64 n] w K :=
  CallW_pure call76 (rfPrice n w) hK
set_option maxHeartbeats 1000000 in
theorem rfCheck21 (f : TariffD) (v0 v1 v2 : Value) (w : World) (hT : TarR w f v0 v1 v2) :
    Calls Tryz.prog 51 #[.agg (f.cs v0 v1 v2).toArray] w fun e w' => e = .returned (.int .i64 (Tf.chk f)) ∧ Ext w w' := by
  have b0 := hT.b.small
  have b1 := hT.l.small
  have b2 := hT.t.small
  have l0 := hT.b.len
  have l1 := hT.l.len
  have l2 := hT.t.len
  have hk := okT_eq f
  refine Calls_of_Run (args := [.agg (f.cs v0 v1 v2).toArray]) (n := 97) (rs := [.tmp 2]) Tryz.func51 rfl rfl rfl (by simp) ?_
  (repeat with_reducible first | refine jy ?_ | refine jw KL51 [11] TF51 fun _ => ?_)
  refine SemW_box fun p w1 hN => ?_
  have x1 := hN.ext
  have G : ∀ w', Ext w1 w' → AtN w' p 0 (f.cs v0 v1 v2) := fun w' x => (hN.at_.ext x).n
  simp only [TariffD.cs, AtN, KS, Nat.reduceAdd, Nat.reduceMul, Nat.reduceEqDiff, ↓reduceIte, UT] at G
  have g1 := G w1 (Ext.refl _)
  (repeat with_reducible first | refine jy ?_ | refine jw KL51 [11] (aa TF51 (aa g1 (aa hT.b.s (aa hT.b.len (aa hT.l.s (aa hT.l.len (aa hT.t.s hT.t.len))))))) fun _ => ?_)
  refine Run_condS (fun _ => rfl) (fun h => ?_) (fun h => ?_)
  · (repeat with_reducible first | refine jy ?_ | refine jw KL51 [11] TF51 fun _ => ?_)
    refine Run_ret ?_
    have : Tf.chk f = 210 := by
      unfold Tf.chk
      rw [if_neg]
      intro hh
      rw [hk] at hh
      simp only [Bool.and_eq_true, decide_eq_true_eq] at hh
      simp only [Bool.or_eq_true, bne_iff_ne, ne_eq, decide_eq_true_eq] at h
      omega
    simp [Rets, RetM, resV, fnd, oneOr, this, x1]
  simp only [Bool.or_eq_false_iff, decide_eq_false_iff_not, bne_eq_false_iff_eq] at h
  have hn : f.Base.length = f.Leg.length ∧ 1 ≤ f.Base.length ∧ f.Base.length ≤ 8 ∧ f.Tiers.length ≤ 16 := by omega
  have hres : Tf.okT f = (allN f.Base.length (fun k => Tf.price (f.Base.getD k 0)) && allN f.Leg.length (fun k => Tf.price (f.Leg.getD k 0)) && allN f.Tiers.length (tierP f.Tiers)) := by rw [hk, decide_eq_true hn, Bool.true_and]
  (repeat with_reducible first | refine jy ?_ | refine jw KL51 [11] TF51 fun _ => ?_)
  refine Run_loopV [2, 3, 34, 52] (σ := Nat) (fun k => [(3, some (.int .i64 k)), (2, some (.int .i64 0))]) (fun k w' => k ≤ f.Base.length ∧ (∀ j, j < k → Tf.price (f.Base.getD j 0) = true ∧ Tf.price (f.Leg.getD j 0) = true) ∧ Ext w1 w') (fun k => f.Base.length - k) 0 (by simp [SubB, fnd]) ⟨by omega, by simp, Ext.refl _⟩ ?_
  rintro k w3 ⟨hkk, hf, x3⟩
  have y3 := x1.trans x3
  have g3 := G w3 x3
  (repeat with_reducible first | refine jy ?_ | refine jw KL51 [11] (aa TF51 (aa g3 (aa hT.b.s hT.b.len))) fun _ => ?_)
  refine Run_condS (fun _ => rfl) (fun h => ?_) (fun h => ?_)
  · simp at h
    have hkl := h
    obtain ⟨f1, f2, f3⟩ := (hT.b.ext y3).get hkl
    have e1 : f.Base[k] = f.Base.getD k 0 := by simp [List.getD_eq_getElem?_getD, hkl]
    rw [e1] at f1
    (repeat with_reducible first | refine jy ?_ | refine jw KL51 [11] (aa TF51 (aa g3 (aa hT.b.s (aa hT.b.len (aa f1 f2))))) fun _ => ?_)
    refine priW fun w4 x4 => ?_
    have y4 := y3.trans x4
    have g4 := G w4 (x3.trans x4)
    obtain ⟨q1, q2, q3⟩ := (hT.l.ext y4).get (show k < f.Leg.length by omega)
    have e2 : f.Leg[k]'(by omega) = f.Leg.getD k 0 := by simp [List.getD_eq_getElem?_getD, show k < f.Leg.length by omega]
    rw [e2] at q1
    (repeat with_reducible first | refine jy ?_ | refine jw KL51 [11] (aa TF51 (aa g4 (aa hT.l.s (aa hT.l.len (aa q1 q2))))) fun _ => ?_)
    refine .inr ⟨.bool (Tf.price (f.Leg.getD k 0)), fun _ => PC_pure call76 fun w5 x5 => rfPrice _ w5, fun w5 x5 => ?_⟩
    unfold hush
    have y5 := y4.trans x5
    (repeat with_reducible first | refine jy ?_ | refine jw KL51 [11] (aa TF51 (aa g4 (aa hT.l.s (aa hT.l.len (aa q1 q2))))) fun _ => ?_)
    refine Run_condS (fun _ => rfl) (fun h => ?_) (fun h => ?_)
    · (repeat with_reducible first | refine jy ?_ | refine jw KL51 [11] TF51 fun _ => ?_)
      refine Run_ret ?_
      have : Tf.chk f = 210 := by
        unfold Tf.chk
        rw [if_neg]
        intro hh
        rw [hres] at hh
        simp only [Bool.and_eq_true] at hh
        rw [allN_iff.1 hh.1.1 k hkl, allN_iff.1 hh.1.2 k (by omega)] at h
        cases h
      simp [Rets, RetM, resV, fnd, oneOr, this, y5]
    · simp at h
      (repeat with_reducible first | refine jy ?_ | refine jw KL51 [11] TF51 fun _ => ?_)
      refine Run_lp ⟨k + 1, ?_, ⟨by omega, fun j hj => ?_, x3.trans (x4.trans x5)⟩, by omega⟩
      · simp [SubB, fnd, strike, has]
      · by_cases e : j = k
        · subst e; simpa using h
        · exact hf j (by omega)
  simp at h
  obtain rfl : k = f.Base.length := by omega
  have ha : allN f.Base.length (fun k => Tf.price (f.Base.getD k 0)) = true := allN_iff.2 fun j hj => (hf j hj).1
  have hb : allN f.Leg.length (fun k => Tf.price (f.Leg.getD k 0)) = true := allN_iff.2 fun j hj => (hf j (by omega)).2
  rw [ha, hb, Bool.true_and, Bool.true_and] at hres
  (repeat with_reducible first | refine jy ?_ | refine jw KL51 [11] TF51 fun _ => ?_)
  refine Run_loopV [2, 4, 57, 96] (σ := Nat) (fun k => [(4, some (.int .i64 k)), (2, some (.int .i64 0))]) (fun k w' => k ≤ f.Tiers.length ∧ (∀ j, j < k → tierP f.Tiers j = true) ∧ Ext w1 w') (fun k => f.Tiers.length - k) 0 (by simp [SubB, fnd]) ⟨by omega, by simp, x3⟩ ?_
  rintro k w4 ⟨hkk, hf, x4⟩
  have y4 := x1.trans x4
  have g4 := G w4 x4
  (repeat with_reducible first | refine jy ?_ | refine jw KL51 [11] (aa TF51 (aa g4 (aa hT.t.s hT.t.len))) fun _ => ?_)
  refine Run_condS (fun _ => rfl) (fun h => ?_) (fun h => ?_)
  · simp at h
    have hkl := h
    obtain ⟨f1, f2⟩ := (hT.t.ext y4).tierD hkl
    have hgk : f.Tiers.getD k default = f.Tiers[k] := by simp [List.getD_eq_getElem?_getD, hkl]
    simp only [TierD.cs, AtN, KS, Nat.reduceAdd, Nat.reduceMul, Nat.reduceEqDiff, ↓reduceIte, UT] at f1
    have hbef : Tf.bef f.Tiers k = if h : 0 < k then (f.Tiers[k - 1]'(by omega)).From else 0 := by
      unfold Tf.bef
      by_cases k0 : k = 0
      · rw [if_pos k0, dif_neg (by omega)]
      · rw [if_neg k0, dif_pos (by omega)]; simp [List.getD_eq_getElem?_getD, show k - 1 < f.Tiers.length by omega]
    have htp : ∀ j, j < k → 1 ≤ (f.Tiers.getD j default).From := by
      intro j
      induction j with
      | zero =>
        intro hj
        have := hf 0 hj
        simp only [tierP, Bool.and_eq_true, decide_eq_true_eq, Tf.bef, if_pos] at this; omega
      | succ j ih =>
        intro hj
        have := hf (j + 1) hj
        have := ih (by omega)
        simp only [tierP, Bool.and_eq_true, decide_eq_true_eq, Tf.bef, Nat.add_sub_cancel, if_neg (show ¬ j + 1 = 0 by omega)] at *; omega
    by_cases k0 : k = 0
    · subst k0
      rw [dif_neg (by omega)] at hbef
      simp only [Nat.zero_mul, add_zero, Nat.zero_add] at f1
      have e0 : decide ((0 : Int) < 0) = false := by decide
      (repeat with_reducible first | refine jy ?_ | refine jw KL51 [11] (aa TF51 (aa g4 (aa hT.t.s (aa hT.t.len (aa f1 (aa e0 (aa @Nat.zero_mul KX))))))) fun _ => ?_)
      refine ⟨.bool (Tf.price f.Tiers[0].Extra), fun _ => PC_pure call76 fun w5 x5 => rfPrice _ w5, fun _ => rfl, fun w5 x5 => ?_⟩
      have hb : (decide (f.Tiers[0].From < 1) || !bOf (Value.bool (Tf.price f.Tiers[0].Extra))) = !tierP f.Tiers 0 := by
        simp only [tierP, hbef, hgk, bOf_mk]
        by_cases hh : f.Tiers[0].From < 1
        · rw [decide_eq_true hh, decide_eq_false (by omega)]; simp
        · rw [decide_eq_false hh, decide_eq_true (by omega)]; simp
      rw [hb]
      have y5 := y4.trans x5
      refine Run_condS (fun _ => rfl) (fun h => ?_) (fun h => ?_)
      · (repeat with_reducible first | refine jy ?_ | refine jw KL51 [11] TF51 fun _ => ?_)
        refine Run_ret ?_
        have : Tf.chk f = 210 := by
          unfold Tf.chk
          rw [if_neg]
          intro hh
          rw [hres] at hh
          rw [allN_iff.1 hh _ hkl] at h; cases h
        simp [Rets, RetM, resV, fnd, oneOr, this, y5]
      · have hpk : tierP f.Tiers 0 = true := by simpa using h
        (repeat with_reducible first | refine jy ?_ | refine jw KL51 [11] TF51 fun _ => ?_)
        refine Run_lp ⟨0 + 1, ?_, ⟨by omega, fun j hj => ?_, x4.trans x5⟩, by omega⟩
        · simp [SubB, fnd, strike, has]
        · by_cases e : j = 0
          · rw [e]; exact hpk
          · exact hf j (by omega)
    · rw [dif_pos (by omega)] at hbef
      obtain ⟨q1, q2⟩ := (hT.t.ext y4).tierD (show k - 1 < f.Tiers.length by omega)
      simp only [TierD.cs, AtN, KS, Nat.reduceAdd, Nat.reduceMul, Nat.reduceEqDiff, ↓reduceIte, UT] at q1
      have e0 : decide (0 < (k : Int)) = true := by simp; omega
      have e1 : ((k : Int) - 1).toNat = k - 1 := by omega
      (repeat with_reducible first | refine jy ?_ | refine jw KL51 [11] (aa TF51 (aa g4 (aa hT.t.s (aa hT.t.len (aa f1 (aa q1 (aa e0 (aa e1 KX)))))))) fun _ => ?_)
      refine ⟨.bool (Tf.price f.Tiers[k].Extra), fun _ => PC_pure call76 fun w5 x5 => rfPrice _ w5, fun _ => rfl, fun w5 x5 => ?_⟩
      have h1k := htp (k - 1) (by omega)
      have hgk1 : f.Tiers.getD (k - 1) default = f.Tiers[k - 1] := by simp [List.getD_eq_getElem?_getD, show k - 1 < f.Tiers.length by omega]
      rw [hgk1] at h1k
      have hb : (decide (f.Tiers[k].From < 1) || decide (f.Tiers[k].From ≤ f.Tiers[k - 1].From) || !bOf (Value.bool (Tf.price f.Tiers[k].Extra))) = !tierP f.Tiers k := by
        have e : decide (f.Tiers[k - 1].From < f.Tiers[k].From) = !(decide (f.Tiers[k].From < 1) || decide (f.Tiers[k].From ≤ f.Tiers[k - 1].From)) := by rw [Bool.eq_iff_iff]; simp; omega
        simp only [tierP, hbef, hgk, bOf_mk, e]; simp
      rw [hb]
      have y5 := y4.trans x5
      refine Run_condS (fun _ => rfl) (fun h => ?_) (fun h => ?_)
      · (repeat with_reducible first | refine jy ?_ | refine jw KL51 [11] TF51 fun _ => ?_)
        refine Run_ret ?_
        have : Tf.chk f = 210 := by
          unfold Tf.chk
          rw [if_neg]
          intro hh
          rw [hres] at hh
          rw [allN_iff.1 hh _ hkl] at h; cases h
        simp [Rets, RetM, resV, fnd, oneOr, this, y5]
      · have hpk : tierP f.Tiers k = true := by simpa using h
        (repeat with_reducible first | refine jy ?_ | refine jw KL51 [11] TF51 fun _ => ?_)
        refine Run_lp ⟨k + 1, ?_, ⟨by omega, fun j hj => ?_, x4.trans x5⟩, by omega⟩
        · simp [SubB, fnd, strike, has]
        · by_cases e : j = k
          · rw [e]; exact hpk
          · exact hf j (by omega)
  · simp at h
    obtain rfl : k = f.Tiers.length := by omega
    (repeat with_reducible first | refine jy ?_ | refine jw KL51 [11] TF51 fun _ => ?_)
    refine Run_ret ?_
    have : Tf.chk f = 0 := by
      unfold Tf.chk
      rw [if_pos]
      rw [hres]; exact allN_iff.2 hf
    simp [Rets, RetM, resV, fnd, oneOr, this, y4]
end Go.Proofs.YtldjfebokojmfaaGreat
