import Derived.Test.YtbfhenoiienghaaGreatRdR23
import Derived.Test.YtbfhenoiienghaaGreatRdW22u
import Derived.Test.YtbfhenoiienghaaGreatRdW20u
namespace Go.Fk
open Go
def Rf.Roomy (p : RefusalD) : Prop := ∀ n, Rf.roomF n p = true
theorem Rf.roomy {p : RefusalD} (h : ∀ i (h : i < p.kids.length), Rf.Roomy p.kids[i]) (h2 : p.o ≠ -1 ∨ p.why ≠ 2) : Rf.Roomy p := fun n => by
  cases n with
  | zero => rfl
  | succ n =>
    rw [Rf.roomF, Bool.and_eq_true]
    refine ⟨List.all_eq_true.2 fun x hx => ?_, by simpa using h2⟩
    obtain ⟨i, hi, rfl⟩ := List.getElem_of_mem hx
    exact h i hi n
theorem Rf.roomy_kid {p : RefusalD} (h : Rf.Roomy p) (i : Nat) (hi : i < p.kids.length) : Rf.Roomy p.kids[i] := fun n => by
  have := h (n + 1)
  rw [Rf.roomF, Bool.and_eq_true] at this
  exact List.all_eq_true.1 this.1 _ (List.getElem_mem hi)
theorem Rf.roomy_own {p : RefusalD} (h : Rf.Roomy p) : p.o ≠ -1 ∨ p.why ≠ 2 := by
  have := h 1
  rw [Rf.roomF, Bool.and_eq_true] at this
  simpa using this.2
end Go.Fk
namespace Go.Proofs.YtbfhenoiienghaaGreat
open Go Go.Fk
set_option linter.unusedSimpArgs false
set_option linter.unusedVariables false
set_option maxRecDepth 100000
theorem rgSameInts (va vb : Value) (l m : List Int) (w : World) (hx : Sl w va l) (hy : Sl w vb m) : Calls Tryz.prog 34 #[va, vb] w fun e w' => e = .returned (.bool (decide (l = m))) ∧ Ext w w' := by
  refine Calls_of_Run (args := [va, vb]) (n := 8) (rs := [.tmp 4]) Tryz.func34 rfl rfl rfl (by simp) ?_
  (repeat with_reducible first | refine js ?_ | refine ja ?_ | refine jw KL34 [] TF34 fun _ => ?_)
  refine CallW_pure call21 (rfSameInts20 va vb l m w hx hy) fun w1 x1 => ?_
  (repeat with_reducible first | refine js ?_ | refine ja ?_ | refine jw KL34 [] TF34 fun _ => ?_)
  refine Run_ret ?_
  simp only [Rets, RetM, resV, fnd, oneOr, ↓reduceIte, KS, Nat.reduceAdd, Nat.reduceMul, Nat.reduceEqDiff, ↓reduceIte, UT]
  exact ⟨_, rfl, rfl, x1⟩
set_option maxHeartbeats 2000000 in
theorem rgSame : ∀ (n : Nat) (x : RefusalD) (va vb : Value) (w : World), SizeOf.sizeOf x ≤ n → Sl w va x.kids → Sl w vb x.kids → Calls Tryz.prog 35 #[.agg (x.cs va).toArray, .agg (x.cs vb).toArray] w fun e w' => e = .returned (.bool true) ∧ Ext w w' := by
  intro n
  induction n with
  | zero =>
    intro x va vb w hn
    cases x; simp only [RefusalD.mk.sizeOf_spec] at hn; omega
  | succ n ih =>
    intro x va vb w hn ha hb
    have has := ha.s
    have hal := ha.len
    have hbs := hb.s
    have hbl := hb.len
    refine Calls_of_Run (args := [.agg (x.cs va).toArray, .agg (x.cs vb).toArray]) (n := 53) (rs := [.tmp 4]) Tryz.func35 rfl rfl rfl (by simp) ?_
    (repeat with_reducible first | refine js ?_ | refine ja ?_ | refine jw KL35 [6] TF35 fun _ => ?_)
    refine SemW_box fun pa w1 h1 => SemW_box fun pb w2 h2 => ?_
    have y2 := h1.ext.trans h2.ext
    have A : ∀ w', Ext w2 w' → AtN w' pa 0 (x.cs va) := fun w' x => (h1.at_.ext (h2.ext.trans x)).n
    have B : ∀ w', Ext w2 w' → AtN w' pb 0 (x.cs vb) := fun w' x => (h2.at_.ext x).n
    simp only [RefusalD.cs, AtN, KS, Nat.reduceAdd, Nat.reduceMul, Nat.reduceEqDiff, ↓reduceIte, UT] at A B
    have a2 := A w2 (Ext.refl _)
    have b2 := B w2 (Ext.refl _)
    (repeat with_reducible first | refine js ?_ | refine ja ?_ | refine jw KL35 [6] (aa TF35 (aa a2 (aa b2 (aa has (aa hal (aa hbs (aa hbl KX))))))) fun _ => ?_)
    refine ⟨by kernel_rfl, ?_⟩
    refine Run_condS (fun _ => rfl) (fun h => by simp at h) (fun _ => ?_)
    (repeat with_reducible first | refine js ?_ | refine ja ?_ | refine jw KL35 [6] TF35 fun _ => ?_)
    refine Run_loopV [4, 5, 38, 52] (σ := Nat) (fun i => [(5, some (.int .i64 i)), (4, some (.bool false))]) (fun i w' => i ≤ x.kids.length ∧ Ext w2 w') (fun i => x.kids.length - i) 0 (by simp [SubB, fnd]) ⟨by omega, Ext.refl _⟩ ?_
    rintro i w3 ⟨hi, x3⟩
    have a3 := A w3 x3
    have hbig := ha.big
    (repeat with_reducible first | refine js ?_ | refine ja ?_ | refine jw KL35 [6] (aa TF35 (aa a3 (aa has hal))) fun _ => ?_)
    refine Run_condS (fun _ => rfl) (fun h => ?_) (fun h => ?_)
    · simp at h
      have hik : i < x.kids.length := by omega
      have hikc : (i : Int) < x.kids.length := by omega
      clear h
      have b3 := B w3 x3
      obtain ⟨u1, c1, c2⟩ := (ha.ext (y2.trans x3)).refusal hik
      obtain ⟨u2, d1, d2⟩ := (hb.ext (y2.trans x3)).refusal hik
      obtain ⟨u1', hc1, _, _, _, k1⟩ := c2.op
      obtain ⟨u2', hc2, _, _, _, k2⟩ := d2.op
      have e1 : u1 = u1' := by simpa [RefusalD.cs] using hc1
      have e2 : u2 = u2' := by simpa [RefusalD.cs] using hc2
      subst e1 e2
      have hlt := kid_lt hik
      generalize x.kids[i] = y at *
      simp only [RefusalD.cs, AtN, KS, Nat.reduceAdd, Nat.reduceMul, Nat.reduceEqDiff, ↓reduceIte, UT] at c1 d1
      (repeat with_reducible first | refine js ?_ | refine ja ?_ | refine jw KL35 [6] (aa TF35 (aa a3 (aa b3 (aa c1 (aa d1 (aa has (aa hal (aa hbs hbl)))))))) fun _ => ?_)
      refine ⟨.bool true, PC_pure call35 fun w4 x4 => ih y u1 u2 w4 (by omega) (k1.ext x4) (k2.ext x4), by simp [IsB], fun w4 x4 => ?_⟩
      refine Run_condS (fun _ => rfl) (fun h => by cases h) (fun _ => ?_)
      (repeat with_reducible first | refine js ?_ | refine ja ?_ | refine jw KL35 [6] TF35 fun _ => ?_)
      exact Run_lp ⟨i + 1, by simp [SubB, fnd, strike, has], ⟨by omega, x3.trans x4⟩, by omega⟩
    simp at h
    obtain rfl : i = x.kids.length := by omega
    (repeat with_reducible first | refine js ?_ | refine ja ?_ | refine jw KL35 [6] TF35 fun _ => ?_)
    refine Run_ret ?_
    simp only [Rets, RetM, resV, fnd, oneOr, ↓reduceIte, KS, Nat.reduceAdd, Nat.reduceMul, Nat.reduceEqDiff, ↓reduceIte, UT]
    exact ⟨_, rfl, rfl, y2.trans x3⟩
set_option maxHeartbeats 2000000 in
theorem rgRoom : ∀ (n : Nat) (x : RefusalD) (va : Value) (w : World), SizeOf.sizeOf x ≤ n → Sl w va x.kids → Calls Tryz.prog 42 #[.agg (x.cs va).toArray] w fun e w' => ∃ b : Bool, e = .returned (.bool b) ∧ Ext w w' ∧ (b = true ↔ Rf.Roomy x) := by
  intro n
  induction n with
  | zero =>
    intro x va w hn
    cases x; simp only [RefusalD.mk.sizeOf_spec] at hn; omega
  | succ n ih =>
    intro x va w hn ha
    have has := ha.s
    have hal := ha.len
    refine Calls_of_Run (args := [.agg (x.cs va).toArray]) (n := 26) (rs := [.tmp 2]) Tryz.func42 rfl rfl rfl (by simp) ?_
    (repeat with_reducible first | refine js ?_ | refine ja ?_ | refine jw KL42 [] TF42 fun _ => ?_)
    refine SemW_box fun pa w2 h2 => ?_
    have y2 := h2.ext
    have A : ∀ w', Ext w2 w' → AtN w' pa 0 (x.cs va) := fun w' x => (h2.at_.ext x).n
    simp only [RefusalD.cs, AtN, KS, Nat.reduceAdd, Nat.reduceMul, Nat.reduceEqDiff, ↓reduceIte, UT] at A
    (repeat with_reducible first | refine js ?_ | refine ja ?_ | refine jw KL42 [] TF42 fun _ => ?_)
    refine Run_loopV [2, 3, 8, 17] (σ := Nat) (fun i => [(3, some (.int .i64 i)), (2, some (.bool false))]) (fun i w' => i ≤ x.kids.length ∧ Ext w2 w' ∧ ∀ j (h : j < x.kids.length), j < i → Rf.Roomy x.kids[j]) (fun i => x.kids.length - i) 0 (by simp [SubB, fnd]) ⟨by omega, Ext.refl _, fun j h h0 => by omega⟩ ?_
    rintro i w3 ⟨hi, x3, hR⟩
    have a3 := A w3 x3
    have hbig := ha.big
    (repeat with_reducible first | refine js ?_ | refine ja ?_ | refine jw KL42 [] (aa TF42 (aa a3 (aa has hal))) fun _ => ?_)
    refine Run_condS (fun _ => rfl) (fun h => ?_) (fun h => ?_)
    · simp at h
      have hik : i < x.kids.length := by omega
      have hikc : (i : Int) < x.kids.length := by omega
      clear h
      obtain ⟨u1, c1, c2⟩ := (ha.ext (y2.trans x3)).refusal hik
      obtain ⟨u1', hc1, _, _, _, k1⟩ := c2.op
      have e1 : u1 = u1' := by simpa [RefusalD.cs] using hc1
      subst e1
      have hlt := kid_lt hik
      have hR2 : Rf.Roomy x.kids[i] → ∀ j (h : j < x.kids.length), j < i + 1 → Rf.Roomy x.kids[j] := fun hh j h hj => by
        by_cases e : j = i
        · subst e; exact hh
        · exact hR j h (by omega)
      have hRn : Rf.Roomy x → Rf.Roomy x.kids[i] := fun h => Rf.roomy_kid h i hik
      generalize x.kids[i] = y at *
      simp only [RefusalD.cs, AtN, KS, Nat.reduceAdd, Nat.reduceMul, Nat.reduceEqDiff, ↓reduceIte, UT] at c1
      (repeat with_reducible first | refine js ?_ | refine ja ?_ | refine jw KL42 [] (aa TF42 (aa a3 (aa c1 (aa has hal)))) fun _ => ?_)
      refine CallW_gen call42 (ih y u1 w3 (by omega) k1) fun e w4 ⟨b, he, x4, hb⟩ => ⟨_, he, ?_⟩
      cases b with
      | true =>
        (repeat with_reducible first | refine js ?_ | refine ja ?_ | refine jw KL42 [] (aa TF42 KX) fun _ => ?_)
        refine Run_condS (fun _ => rfl) (fun h => by cases h) (fun _ => ?_)
        (repeat with_reducible first | refine js ?_ | refine ja ?_ | refine jw KL42 [] TF42 fun _ => ?_)
        exact Run_lp ⟨i + 1, by simp [SubB, fnd, strike, has], ⟨by omega, x3.trans x4, hR2 (hb.1 rfl)⟩, by omega⟩
      | false =>
        (repeat with_reducible first | refine js ?_ | refine ja ?_ | refine jw KL42 [] (aa TF42 KX) fun _ => ?_)
        refine Run_condS (fun _ => rfl) (fun _ => ?_) (fun h => by cases h)
        (repeat with_reducible first | refine js ?_ | refine ja ?_ | refine jw KL42 [] TF42 fun _ => ?_)
        refine Run_ret ?_
        simp only [Rets, RetM, resV, fnd, oneOr, ↓reduceIte, KS, Nat.reduceAdd, Nat.reduceMul, Nat.reduceEqDiff, ↓reduceIte, UT]
        exact ⟨_, rfl, _, rfl, y2.trans (x3.trans x4), (fun h => by cases h), fun h => hb.2 (hRn h)⟩
    simp at h
    obtain rfl : i = x.kids.length := by omega
    have a4 := A w3 x3
    (repeat with_reducible first | refine js ?_ | refine ja ?_ | refine jw KL42 [] (aa TF42 (aa a4 KX)) fun _ => ?_)
    refine Run_ret ?_
    simp only [Rets, RetM, resV, fnd, oneOr, ↓reduceIte, KS, Nat.reduceAdd, Nat.reduceMul, Nat.reduceEqDiff, ↓reduceIte, UT]
    exact ⟨_, rfl, _, rfl, y2.trans x3, fun h => Rf.roomy (fun j hj => hR j hj hj) (by simpa using h), fun h => by simpa using Rf.roomy_own h⟩
set_option maxHeartbeats 2000000 in
theorem rgSize : ∀ (n : Nat) (x : RefusalD) (va : Value) (m : Int) (w : World), SizeOf.sizeOf x ≤ n → 1 ≤ m ∧ m ≤ 100000 → Sl w va x.kids → Calls Tryz.prog 75 #[.agg (x.cs va).toArray, .int .i64 m] w fun e w' => ∃ k : Int, e = .returned (.int .i64 k) ∧ Ext w w' ∧ 1 ≤ k ∧ k ≤ m := by
  intro n
  induction n with
  | zero =>
    intro x va m w hn
    cases x; simp only [RefusalD.mk.sizeOf_spec] at hn; omega
  | succ n ih =>
    intro x va m w hn hm ha
    have has := ha.s
    have hal := ha.len
    refine Calls_of_Run (args := [.agg (x.cs va).toArray, .int .i64 m]) (n := 31) (rs := [.tmp 4]) Tryz.func75 rfl rfl rfl (by simp) ?_
    (repeat with_reducible first | refine js ?_ | refine ja ?_ | refine jw KL75 [] TF75 fun _ => ?_)
    refine SemW_box fun pa w2 h2 => ?_
    have y2 := h2.ext
    have A : ∀ w', Ext w2 w' → AtN w' pa 0 (x.cs va) := fun w' x => (h2.at_.ext x).n
    simp only [RefusalD.cs, AtN, KS, Nat.reduceAdd, Nat.reduceMul, Nat.reduceEqDiff, ↓reduceIte, UT] at A
    (repeat with_reducible first | refine js ?_ | refine ja ?_ | refine jw KL75 [] TF75 fun _ => ?_)
    refine Run_loopV [5, 6, 16] (σ := Nat × Int) (fun i => [(6, some (.int .i64 i.1)), (5, some (.int .i64 i.2))]) (fun i w' => i.1 ≤ x.kids.length ∧ Ext w2 w' ∧ 1 ≤ i.2 ∧ i.2 ≤ m) (fun i => x.kids.length - i.1) (0, 1) (by simp [SubB, fnd]) ⟨by simp, Ext.refl _, by simp, by simp; omega⟩ ?_
    rintro ⟨i, k⟩ w3 ⟨hi, x3, hk1, hk2⟩
    simp only at hi x3 hk1 hk2
    have a3 := A w3 x3
    have hbig := ha.big
    (repeat with_reducible first | refine js ?_ | refine ja ?_ | refine jw KL75 [] (aa TF75 (aa a3 (aa has hal))) fun _ => ?_)
    refine Run_condS (fun _ => rfl) (fun h => ?_) (fun h => ?_)
    · simp at h
      have hik : i < x.kids.length := by omega
      have hikc : (i : Int) < x.kids.length := by omega
      have hkm : k < m := by omega
      clear h
      obtain ⟨u1, c1, c2⟩ := (ha.ext (y2.trans x3)).refusal hik
      obtain ⟨u1', hc1, _, _, _, k1⟩ := c2.op
      have e1 : u1 = u1' := by simpa [RefusalD.cs] using hc1
      subst e1
      have hlt := kid_lt hik
      generalize x.kids[i] = y at *
      simp only [RefusalD.cs, AtN, KS, Nat.reduceAdd, Nat.reduceMul, Nat.reduceEqDiff, ↓reduceIte, UT] at c1
      (repeat with_reducible first | refine js ?_ | refine ja ?_ | refine jw KL75 [] (aa TF75 (aa a3 (aa c1 (aa has hal)))) fun _ => ?_)
      refine CallW_gen call75 (ih y u1 (m - k) w3 (by omega) (by omega) k1) fun e w4 ⟨k2, he, x4, g1, g2⟩ => ⟨_, he, ?_⟩
      (repeat with_reducible first | refine js ?_ | refine ja ?_ | refine jw KL75 [] TF75 fun _ => ?_)
      exact Run_lp ⟨(i + 1, k + k2), by simp [SubB, fnd, strike, has], ⟨by show i + 1 ≤ x.kids.length; omega, x3.trans x4, by show 1 ≤ k + k2; omega, by show k + k2 ≤ m; omega⟩, by show x.kids.length - (i + 1) < x.kids.length - i; omega⟩
    (repeat with_reducible first | refine js ?_ | refine ja ?_ | refine jw KL75 [] TF75 fun _ => ?_)
    refine Run_ret ?_
    simp only [Rets, RetM, resV, fnd, oneOr, ↓reduceIte, KS, Nat.reduceAdd, Nat.reduceMul, Nat.reduceEqDiff, ↓reduceIte, UT]
    exact ⟨_, rfl, _, rfl, y2.trans x3, hk1, hk2⟩
theorem rgFewProof (x : RefusalD) (va : Value) (w : World) (ha : Sl w va x.kids) : Calls Tryz.prog 36 #[.agg (x.cs va).toArray] w fun e w' => ∃ b : Bool, e = .returned (.bool b) ∧ Ext w w' := by
  refine Calls_of_Run (args := [.agg (x.cs va).toArray]) (n := 6) (rs := [.tmp 2]) Tryz.func36 rfl rfl rfl (by simp) ?_
  (repeat with_reducible first | refine js ?_ | refine ja ?_ | refine jw KL36 [] TF36 fun _ => ?_)
  refine SemW_box fun pa w2 h2 => ?_
  have a2 := h2.at_.n
  simp only [RefusalD.cs, AtN, KS, Nat.reduceAdd, Nat.reduceMul, Nat.reduceEqDiff, ↓reduceIte, UT] at a2
  (repeat with_reducible first | refine js ?_ | refine ja ?_ | refine jw KL36 [] (aa TF36 a2) fun _ => ?_)
  refine CallW_gen call75 (rgSize (SizeOf.sizeOf x) x va 5001 w2 (Nat.le_refl _) (by decide) (ha.ext h2.ext)) fun e w4 ⟨k2, he, x4, g1, g2⟩ => ⟨_, he, ?_⟩
  (repeat with_reducible first | refine js ?_ | refine ja ?_ | refine jw KL36 [] TF36 fun _ => ?_)
  refine Run_ret ?_
  simp only [Rets, RetM, resV, fnd, oneOr, ↓reduceIte, KS, Nat.reduceAdd, Nat.reduceMul, Nat.reduceEqDiff, ↓reduceIte, UT]
  exact ⟨_, rfl, _, rfl, h2.ext.trans x4⟩
theorem rgFew (vl u0 u1 u2 vo : Value) (t : TimeD) (f : TariffD) (l : List OrderD) (w : World) (hl : Sl w vl t.Lines) (hT : TarR w f u0 u1 u2) (ho : Sl w vo l) :
    Calls Tryz.prog 31 #[.agg (t.cs vl).toArray, .agg (f.cs u0 u1 u2).toArray, vo] w fun e w' => ∃ b : Bool, e = .returned (.bool b) ∧ Ext w w' ∧ (b = true → l.length ≤ 4) := by
  have hos := ho.s
  have hol := ho.len
  refine Calls_of_Run (args := [.agg (t.cs vl).toArray, .agg (f.cs u0 u1 u2).toArray, vo]) (n := 16) (rs := [.tmp 6]) Tryz.func31 rfl rfl rfl (by simp) ?_
  (repeat with_reducible first | refine js ?_ | refine ja ?_ | refine jw KL31 [] TF31 fun _ => ?_)
  refine SemW_box fun pt w1 h1 => SemW_box fun pf w2 h2 => ?_
  have y2 := h1.ext.trans h2.ext
  have T := (h1.at_.ext h2.ext).n
  have F := h2.at_.n
  simp only [TimeD.cs, TariffD.cs, AtN, KS, Nat.reduceAdd, Nat.reduceMul, Nat.reduceEqDiff, ↓reduceIte, UT] at T F
  (repeat with_reducible first | refine js ?_ | refine ja ?_ | refine jw KL31 [] (aa TF31 (aa hos (aa hol (aa T F)))) fun _ => ?_)
  by_cases h4 : l.length ≤ 4
  · have e4 : decide ((l.length : Int) ≤ 4) = true := decide_eq_true (by omega)
    refine .inl (.inl ⟨e4, CallW_gen call44 (rfFew22 vl u0 u1 u2 vo t f l w2 (hl.ext y2) (hT.ext y2) (ho.ext y2)) fun e w4 ⟨b, he, x4⟩ => ⟨_, he, ?_⟩⟩)
    unfold hush
    (repeat with_reducible first | refine js ?_ | refine ja ?_ | refine jw KL31 [] (aa TF31 (aa hos (aa hol (aa T (aa F (aa e4 KX)))))) fun _ => ?_)
    refine Run_ret ?_
    simp only [Rets, RetM, resV, fnd, oneOr, ↓reduceIte, KS, Nat.reduceAdd, Nat.reduceMul, Nat.reduceEqDiff, ↓reduceIte, UT]
    exact ⟨_, rfl, _, rfl, y2.trans x4, fun _ => h4⟩
  · have e4 : decide ((l.length : Int) ≤ 4) = false := decide_eq_false (by omega)
    refine .inl (.inr ⟨e4, ?_⟩)
    unfold hush
    (repeat with_reducible first | refine js ?_ | refine ja ?_ | refine jw KL31 [] (aa TF31 (aa hos (aa hol (aa T (aa F (aa e4 KX)))))) fun _ => ?_)
    refine Run_ret ?_
    simp only [Rets, RetM, resV, fnd, oneOr, ↓reduceIte, KS, Nat.reduceAdd, Nat.reduceMul, Nat.reduceEqDiff, ↓reduceIte, UT]
    exact ⟨_, rfl, _, rfl, y2, fun h => by cases h⟩
end Go.Proofs.YtbfhenoiienghaaGreat
