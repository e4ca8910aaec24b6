import Derived.Test.YtldjfebokojmfaaGreatRgW22d
namespace Go.Proofs.YtldjfebokojmfaaGreat
open Go Go.Fk
set_option linter.unusedSimpArgs false
set_option linter.unusedVariables false
set_option maxRecDepth 100000
theorem idxOrd (vs fv : Value) (xs : List OrderD) (p : Nat → Bool) (w : World) (hs : Sl w vs xs) (hp : ∀ k (hk : k < xs.length) (g : Value) (w1 : World), Ext w w1 → OrdR w1 xs[k] g → CallW Tryz.prog fv [.agg (xs[k].cs g).toArray] w1 fun v w2 => v = .bool (p k) ∧ Ext w1 w2) :
    Calls Tryz.prog 104 #[vs, fv] w fun e w' => ∃ r, e = .returned (.int .i64 r) ∧ Ext w w' ∧ decide (0 ≤ r) = anyN xs.length p := by
  have hn := hs.small
  refine Calls_of_Run (args := [vs, fv]) (n := 19) (rs := [.tmp 4]) Tryz.func104 rfl rfl rfl (by simp) ?_
  (repeat with_reducible first | refine jy ?_ | refine jw KL104 [] (aa TF104 (aa hs.s hs.len)) fun _ => ?_)
  refine Run_loopV [4, 5, 8, 9, 16] (σ := Nat) (fun k => [(8, some (.int .i64 k))]) (fun k w' => k ≤ xs.length ∧ (∀ j, j < k → p j = false) ∧ Ext w w') (fun k => xs.length - k) 0 (by simp [SubB, fnd]) ⟨by omega, by simp, Ext.refl _⟩ ?_
  rintro k w1 ⟨hk, hf, x1⟩
  (repeat with_reducible first | refine jy ?_ | refine jw KL104 [] TF104 fun _ => ?_)
  refine Run_condS (fun _ => rfl) (fun h => ?_) (fun h => ?_)
  · simp at h
    obtain ⟨g, f1, f2, hO⟩ := (hs.ext x1).ord h
    have hpk := hp k h g w1 x1 hO
    generalize hxx : xs[k] = o at *
    simp only [OrderD.cs, AtN, KS, Nat.reduceAdd, Nat.reduceMul, Nat.reduceEqDiff, ↓reduceIte, UT] at f1
    (repeat with_reducible first | refine jy ?_ | refine jw KL104 [] (aa TF104 (aa hs.s (aa hs.len f1))) fun _ => ?_)
    refine hpk.mono fun v w2 ⟨hv, x2⟩ => ?_
    subst hv
    have hkl := h
    (repeat with_reducible first | refine jy ?_ | refine jw KL104 [] TF104 fun _ => ?_)
    refine Run_condS (fun _ => rfl) (fun h => ?_) (fun h => ?_)
    · (repeat with_reducible first | refine jy ?_ | refine jw KL104 [] TF104 fun _ => ?_)
      refine Run_ret ?_
      simp [Rets, RetM, resV, fnd, oneOr, anyN_true hkl (by assumption : p k = true)]
      exact x1.trans x2
    · have hpk := h
      (repeat with_reducible first | refine jy ?_ | refine jw KL104 [] TF104 fun _ => ?_)
      refine Run_lp ⟨k + 1, ?_, ⟨by omega, fun j hj => ?_, x1.trans x2⟩, by omega⟩
      · simp [SubB, fnd, strike, has]
      · by_cases e : j = k
        · subst e; exact hpk
        · exact hf j (by omega)
  · simp at h
    obtain rfl : k = xs.length := by omega
    (repeat with_reducible first | refine jy ?_ | refine jw KL104 [] TF104 fun _ => ?_)
    refine Run_ret ?_
    simp [Rets, RetM, resV, fnd, oneOr, anyN_false hf, x1]
theorem hasOrd (vs fv : Value) (xs : List OrderD) (p : Nat → Bool) (w : World) (hs : Sl w vs xs) (hp : ∀ k (hk : k < xs.length) (g : Value) (w1 : World), Ext w w1 → OrdR w1 xs[k] g → CallW Tryz.prog fv [.agg (xs[k].cs g).toArray] w1 fun v w2 => v = .bool (p k) ∧ Ext w1 w2) :
    Calls Tryz.prog 66 #[vs, fv] w fun e w' => e = .returned (.bool (anyN xs.length p)) ∧ Ext w w' := by
  refine Calls_of_Run (args := [vs, fv]) (n := 9) (rs := [.tmp 4]) Tryz.func66 rfl rfl rfl (by simp) ?_
  (repeat with_reducible first | refine jy ?_ | refine jw KL66 [] TF66 fun _ => ?_)
  refine CallW_gen call104 (idxOrd vs fv xs p w hs hp) fun e w1 ⟨r, he, x1, hr⟩ => ⟨_, he, ?_⟩
  (repeat with_reducible first | refine jy ?_ | refine jw KL66 [] TF66 fun _ => ?_)
  refine Run_ret ?_
  simp [Rets, RetM, resV, fnd, oneOr, x1]
  simpa using hr
theorem anyN_gen {α : Type} [Inhabited α] (l : List α) (q : α → Bool) : anyN l.length (fun k => q (l.getD k default)) = l.any q := by
  rw [Bool.eq_iff_iff]
  simp only [anyN, List.any_eq_true, List.mem_range]
  constructor
  · rintro ⟨k, hk, h⟩
    have e : l.getD k default = l[k] := by simp [List.getD_eq_getElem?_getD, hk]
    rw [e] at h
    exact ⟨_, List.getElem_mem hk, h⟩
  · rintro ⟨x, hx, h⟩
    obtain ⟨k, hk, rfl⟩ := List.getElem_of_mem hx
    exact ⟨k, hk, by simpa [List.getD_eq_getElem?_getD, hk] using h⟩
theorem plCheck1 (o : OrderD) (g : Value) (pt pf : Addr) (vl : Value) (t : TimeD) (f : TariffD) (u0 u1 u2 : Value) (w : World) (hO : OrdR w o g) (ht : At w pt (t.cs vl)) (hf : At w pf (f.cs u0 u1 u2)) (hT : TarR w f u0 u1 u2) :
    Calls Tryz.prog 64 #[.agg (o.cs g).toArray, .pointer (some pt), .pointer (some pf)] w fun e w' => e = .returned (.bool (!Pl.oright o t.Offices 1024 f.Base.length)) ∧ Ext w w' := by
  refine Calls_of_Run (args := [.agg (o.cs g).toArray, .pointer (some pt), .pointer (some pf)]) (n := 13) (rs := [.tmp 4]) Tryz.func64 rfl rfl rfl (by simp) ?_
  (repeat with_reducible first | refine jy ?_ | refine jw KL64 [] TF64 fun _ => ?_)
  refine SemW_box fun po w1 h1 => ?_
  have x1 := h1.ext
  have o1 := h1.at_.n
  have t1 := (ht.ext x1).n
  have f1 := (hf.ext x1).n
  simp only [OrderD.cs, TimeD.cs, TariffD.cs, AtN, KS, Nat.reduceAdd, Nat.reduceMul, Nat.reduceEqDiff, ↓reduceIte, UT] at o1 t1 f1
  (repeat with_reducible first | refine jy ?_ | refine jw KL64 [] (aa TF64 (aa o1 (aa t1 (aa f1 (aa hT.b.s hT.b.len))))) fun _ => ?_)
  refine CallW_pure call65 (ordRight o g t.Offices 1024 f.Base.length w1 (hO.ext x1)) fun w2 x2 => ?_
  (repeat with_reducible first | refine jy ?_ | refine jw KL64 [] TF64 fun _ => ?_)
  refine Run_ret ?_
  simp [Rets, RetM, resV, fnd, oneOr]
  exact x1.trans x2
theorem plCheck (vl u0 u1 u2 vo : Value) (t : TimeD) (f : TariffD) (l : List OrderD) (w : World) (hl : Sl w vl t.Lines) (hT : TarR w f u0 u1 u2) (ho : Sl w vo l) :
    Calls Tryz.prog 35 #[.agg (t.cs vl).toArray, .agg (f.cs u0 u1 u2).toArray, vo] w fun e w' => e = .returned (.int .i64 (Pl.err t f l)) ∧ Ext w w' := by
  have hn := ho.small
  have hol := ho.len
  refine Calls_of_Run (args := [.agg (t.cs vl).toArray, .agg (f.cs u0 u1 u2).toArray, vo]) (n := 29) (rs := [.tmp 6]) Tryz.func35 rfl rfl rfl (by simp) ?_
  (repeat with_reducible first | refine jy ?_ | refine jw KL35 [] TF35 fun _ => ?_)
  refine SemW_box fun pt w1 h1 => SemW_box fun pf w2 h2 => ?_
  have x2 := h1.ext.trans h2.ext
  have T : ∀ w', Ext w2 w' → AtN w' pt 0 (t.cs vl) := fun w' x => (h1.at_.ext (h2.ext.trans x)).n
  have F : ∀ w', Ext w2 w' → AtN w' pf 0 (f.cs u0 u1 u2) := fun w' x => (h2.at_.ext x).n
  have aT := h1.at_.ext h2.ext
  have aF := h2.at_
  simp only [TimeD.cs, TariffD.cs, AtN, KS, Nat.reduceAdd, Nat.reduceMul, Nat.reduceEqDiff, ↓reduceIte, UT] at T F
  have t2 := T w2 (Ext.refl _)
  (repeat with_reducible first | refine jy ?_ | refine jw KL35 [] (aa TF35 t2) fun _ => ?_)
  refine chkW rfl (hl.ext x2) fun w3 x3 => ?_
  have y3 := x2.trans x3
  (repeat with_reducible first | refine jy ?_ | refine jw KL35 [] TF35 fun _ => ?_)
  refine Run_condS (fun _ => rfl) (fun h => ?_) (fun h => ?_)
  · have hc : Tt.chk t ≠ 0 := by simpa using h
    (repeat with_reducible first | refine jy ?_ | refine jw KL35 [] TF35 fun _ => ?_)
    refine Run_ret ?_
    have : Pl.err t f l = Tt.chk t := by unfold Pl.err; rw [if_pos hc]
    simp [Rets, RetM, resV, fnd, oneOr, this, y3]
  have hc : Tt.chk t = 0 := by simpa using h
  clear h
  have f3 := F w3 x3
  (repeat with_reducible first | refine jy ?_ | refine jw KL35 [] (aa TF35 f3) fun _ => ?_)
  refine CallW_pure call63 (tfCheck f u0 u1 u2 w3 (hT.ext y3)) fun w4 x4 => ?_
  have y4 := y3.trans x4
  (repeat with_reducible first | refine jy ?_ | refine jw KL35 [] TF35 fun _ => ?_)
  refine Run_condS (fun _ => rfl) (fun h => ?_) (fun h => ?_)
  · have hc2 : Tf.chk f ≠ 0 := by simpa using h
    (repeat with_reducible first | refine jy ?_ | refine jw KL35 [] TF35 fun _ => ?_)
    refine Run_ret ?_
    have : Pl.err t f l = Tf.chk f := by unfold Pl.err; rw [if_neg (by simp [hc]), if_pos hc2]
    simp [Rets, RetM, resV, fnd, oneOr, this, y4]
  have hc2 : Tf.chk f = 0 := by simpa using h
  clear h
  have hres : Pl.err t f l = if 64 < l.length then 220 else if l.all (fun o => Pl.oright o t.Offices 1024 f.Base.length) then 0 else 220 := by
    unfold Pl.err; rw [if_neg (by simp [hc]), if_neg (by simp [hc2])]
  (repeat with_reducible first | refine jy ?_ | refine jw KL35 [] (aa TF35 (aa ho.s ho.len)) fun _ => ?_)
  have hall : anyN l.length (fun k => !Pl.oright (l.getD k default) t.Offices 1024 f.Base.length) = !l.all (fun o => Pl.oright o t.Offices 1024 f.Base.length) := by
    rw [anyN_gen l (fun o => !Pl.oright o t.Offices 1024 f.Base.length), Bool.eq_iff_iff]; simp
  refine .inr ⟨.bool (anyN l.length fun k => !Pl.oright (l.getD k default) t.Offices 1024 f.Base.length), fun _ => PC_pure call66 fun w5 x5 => ?_, fun w5 x5 => ?_⟩
  · refine hasOrd vo _ l (fun k => !Pl.oright (l.getD k default) t.Offices 1024 f.Base.length) w5 (ho.ext (y4.trans x5)) fun k hk g w6 x6 hO => ?_
    have e : l.getD k default = l[k] := by simp [List.getD_eq_getElem?_getD, hk]
    rw [e]
    have z6 := x3.trans (x4.trans (x5.trans x6))
    exact CallW_cap (cap := [.pointer (some pt), .pointer (some pf)]) call64 (plCheck1 l[k] g pt pf vl t f u0 u1 u2 w6 hO (aT.ext z6) (aF.ext z6) (hT.ext (x2.trans z6))) fun w7 x7 => ⟨rfl, x7⟩
  unfold hush
  rw [hall]
  (repeat with_reducible first | refine jy ?_ | refine jw KL35 [] (aa TF35 KX) fun _ => ?_)
  have y5 := y4.trans x5
  refine Run_condS (fun _ => rfl) (fun h => ?_) (fun h => ?_)
  · (repeat with_reducible first | refine jy ?_ | refine jw KL35 [] TF35 fun _ => ?_)
    refine Run_ret ?_
    have : Pl.err t f l = 220 := by
      rw [hres]
      split
      · rfl
      · rename_i h64
        rw [if_neg]
        intro ha
        rw [ha] at h
        simp at h; omega
    simp [Rets, RetM, resV, fnd, oneOr, this, y5]
  · (repeat with_reducible first | refine jy ?_ | refine jw KL35 [] TF35 fun _ => ?_)
    refine Run_ret ?_
    have : Pl.err t f l = 0 := by
      rw [hres]
      simp only [Bool.or_eq_false_iff, decide_eq_false_iff_not, Bool.not_eq_false'] at h
      rw [if_neg (by omega), if_pos h.2]
    simp [Rets, RetM, resV, fnd, oneOr, this, y5]
theorem plerrW {vl u0 u1 u2 vo : Value} {t : TimeD} {f : TariffD} {l : List OrderD} {w : World} {K : Value → World → Prop} (hl : Sl w vl t.Lines) (hT : TarR w f u0 u1 u2) (ho : Sl w vo l) (hK : ∀ w', Ext w w' → K (.int .i64 (Pl.err t f l)) w') :
    CallW Tryz.prog (.func (.func 35) #[] #[]) [.agg #[.int .i64 t.Offices, vl], .agg #[u0, u1, u2], vo] w K := CallW_pure call35 (plCheck vl u0 u1 u2 vo t f l w hl hT ho) hK
def cmp3 (a b : Int) : Int := if a < b then -1 else if b < a then 1 else 0
theorem isNaN (a : Int) (w : World) : Calls Tryz.prog 113 #[.int .i64 a] w fun e w' => e = .returned (.bool false) ∧ Ext w w' := by
  refine Calls_of_Run (args := [.int .i64 a]) (n := 6) (rs := [.tmp 2]) Tryz.func113 rfl rfl rfl (by simp) ?_
  (repeat with_reducible first | refine jy ?_ | refine jw KL113 [] TF113 fun _ => ?_)
  refine Run_ret ?_
  simp [Rets, RetM, resV, fnd, oneOr, Ext.refl]
theorem cmpCompare (a b : Int) (w : World) : Calls Tryz.prog 84 #[.int .i64 a, .int .i64 b] w fun e w' => e = .returned (.int .i64 (cmp3 a b)) ∧ Ext w w' := by
  refine Calls_of_Run (args := [.int .i64 a, .int .i64 b]) (n := 20) (rs := [.tmp 4]) Tryz.func84 rfl rfl rfl (by simp) ?_
  (repeat with_reducible first | refine jy ?_ | refine jw KL84 [] TF84 fun _ => ?_)
  refine CallW_pure call113 (isNaN a w) fun w1 x1 => ?_
  (repeat with_reducible first | refine jy ?_ | refine jw KL84 [] TF84 fun _ => ?_)
  refine CallW_pure call113 (isNaN b w1) fun w2 x2 => ?_
  (repeat with_reducible first | refine jy ?_ | refine jw KL84 [] TF84 fun _ => ?_)
  refine Run_condS (fun _ => rfl) (fun h => by cases h) (fun _ => ?_)
  (repeat with_reducible first | refine jy ?_ | refine jw KL84 [] TF84 fun _ => ?_)
  refine Run_condS (fun _ => rfl) (fun h => by cases h) (fun _ => ?_)
  (repeat with_reducible first | refine jy ?_ | refine jw KL84 [] TF84 fun _ => ?_)
  have y2 := x1.trans x2
  refine Run_condS (fun _ => rfl) (fun h => ?_) (fun h => ?_)
  · simp at h
    (repeat with_reducible first | refine jy ?_ | refine jw KL84 [] TF84 fun _ => ?_)
    refine Run_ret ?_
    have : cmp3 a b = -1 := by unfold cmp3; rw [if_pos h]
    simp [Rets, RetM, resV, fnd, oneOr, this, y2]
  simp at h
  (repeat with_reducible first | refine jy ?_ | refine jw KL84 [] TF84 fun _ => ?_)
  refine Run_condS (fun _ => rfl) (fun h2 => ?_) (fun h2 => ?_)
  · simp at h2
    (repeat with_reducible first | refine jy ?_ | refine jw KL84 [] TF84 fun _ => ?_)
    refine Run_ret ?_
    have : cmp3 a b = 1 := by unfold cmp3; rw [if_neg (by omega), if_pos h2]
    simp [Rets, RetM, resV, fnd, oneOr, this, y2]
  · simp at h2
    (repeat with_reducible first | refine jy ?_ | refine jw KL84 [] TF84 fun _ => ?_)
    refine Run_ret ?_
    have : cmp3 a b = 0 := by unfold cmp3; rw [if_neg (by omega), if_neg (by omega)]
    simp [Rets, RetM, resV, fnd, oneOr, this, y2]
def orF : List Int → Int
  | [] => 0
  | x :: r => if x ≠ 0 then x else orF r
theorem orF_drop {l : List Int} {k : Nat} (h : k < l.length) : orF (l.drop k) = if l[k] ≠ 0 then l[k] else orF (l.drop (k + 1)) := by
  rw [List.drop_eq_getElem_cons h]; rfl
theorem cmpOr (v : Value) (l : List Int) (w : World) (hx : Sl w v l) : Calls Tryz.prog 83 #[v] w fun e w' => e = .returned (.int .i64 (orF l)) ∧ Ext w w' := by
  have hn := hx.small
  refine Calls_of_Run (args := [v]) (n := 18) (rs := [.tmp 2]) Tryz.func83 rfl rfl rfl (by simp) ?_
  (repeat with_reducible first | refine jy ?_ | refine jw KL83 [] (aa TF83 (aa hx.s hx.len)) fun _ => ?_)
  refine Run_loopV [2, 5, 8, 9, 14] (σ := Nat) (fun k => [(8, some (.int .i64 k))]) (fun k w' => k ≤ l.length ∧ orF l = orF (l.drop k) ∧ Ext w w') (fun k => l.length - k) 0 (by simp [SubB, fnd]) ⟨by omega, by simp, Ext.refl _⟩ ?_
  rintro k w1 ⟨hk, hf, x1⟩
  (repeat with_reducible first | refine jy ?_ | refine jw KL83 [] TF83 fun _ => ?_)
  refine Run_condS (fun _ => rfl) (fun h => ?_) (fun h => ?_)
  · simp at h
    have hkl := h
    obtain ⟨f1, f2, f3⟩ := (hx.ext x1).get h
    rw [orF_drop h] at hf
    (repeat with_reducible first | refine jy ?_ | refine jw KL83 [] (aa TF83 (aa hx.s (aa hx.len (aa f1 f2)))) fun _ => ?_)
    refine Run_condS (fun _ => rfl) (fun h => ?_) (fun h => ?_)
    · (repeat with_reducible first | refine jy ?_ | refine jw KL83 [] TF83 fun _ => ?_)
      refine Run_ret ?_
      rw [if_pos (by simpa using h)] at hf
      simp [Rets, RetM, resV, fnd, oneOr, hf, x1]
    · rw [if_neg (by simpa using h)] at hf
      (repeat with_reducible first | refine jy ?_ | refine jw KL83 [] TF83 fun _ => ?_)
      refine Run_lp ⟨k + 1, ?_, ⟨by omega, hf, x1⟩, by omega⟩
      simp [SubB, fnd, strike, has]
  · simp at h
    obtain rfl : k = l.length := by omega
    rw [List.drop_length] at hf
    (repeat with_reducible first | refine jy ?_ | refine jw KL83 [] TF83 fun _ => ?_)
    refine Run_ret ?_
    simp [Rets, RetM, resV, fnd, oneOr, hf, orF, x1]
def cmpR (a b : RunD) : Int := orF [cmp3 a.At b.At, cmp3 a.Line b.Line]
theorem cmpR_before (a b : RunD) : decide (0 ≤ cmpR a b) = !Tt.before a b := by
  rw [Bool.eq_iff_iff]
  simp only [decide_eq_true_eq, Bool.not_eq_true', Tt.before, decide_eq_false_iff_not]
  simp only [cmpR, orF, cmp3]
  by_cases h1 : a.At < b.At
  · simp [h1]
  · by_cases h2 : b.At < a.At
    · simp [h1, h2]; omega
    · by_cases h3 : a.Line < b.Line
      · simp [h1, h2, h3]; omega
      · by_cases h4 : b.Line < a.Line
        · simp [h1, h2, h3, h4]
        · simp [h1, h2, h3, h4]
theorem cmp3_in (a b : Int) : -1 ≤ cmp3 a b ∧ cmp3 a b ≤ 1 := by unfold cmp3; split <;> (try split) <;> omega
theorem plCompare (a b : RunD) (w : World) : Calls Tryz.prog 56 #[.agg a.cs.toArray, .agg b.cs.toArray] w fun e w' => e = .returned (.int .i64 (cmpR a b)) ∧ Ext w w' := by
  refine Calls_of_Run (args := [.agg a.cs.toArray, .agg b.cs.toArray]) (n := 17) (rs := [.tmp 4]) Tryz.func56 rfl rfl rfl (by simp) ?_
  (repeat with_reducible first | refine jy ?_ | (refine jT (id := 1) KL56 9 mixed (by kernel_rfl) (by kernel_rfl) (by kernel_rfl) fun _ => ?_; refine jw KL56 [] TF56 fun _ => ?_) | refine jw KL56 [] TF56 fun _ => ?_)
  refine SemW_box fun pa w1 h1 => SemW_box fun pb w2 h2 => ?_
  have x2 := h1.ext.trans h2.ext
  have A : ∀ w', Ext w2 w' → AtN w' pa 0 a.cs := fun w' x => (h1.at_.ext (h2.ext.trans x)).n
  have B : ∀ w', Ext w2 w' → AtN w' pb 0 b.cs := fun w' x => (h2.at_.ext x).n
  simp only [RunD.cs, AtN, KS, Nat.reduceAdd, Nat.reduceMul, Nat.reduceEqDiff, ↓reduceIte, UT] at A B
  (repeat with_reducible refine js ?_)
  refine Run_ec (id := 1) KL56 (.first 0 (.first 1 (.first 2 (.first 3 (.first 5 (.first 6 (.first 7 (.first 8 (.alt 4 (.alt 9 (.alt 10 (.alt 11 (.first 12 .done) .stop) .stop) .stop) .stop))))))))) mixed (by kernel_rfl) (by kernel_rfl) fun w3 x3 _ => ?_
  have a3 := A w3 x3
  have b3 := B w3 x3
  (try simp (maxSteps := 5000000) only [KS, Nat.reduceAdd, Nat.reduceMul, Nat.reduceEqDiff, ↓reduceIte, forall_const, Int.cast_ofNat_Int, Int.reduceToNat, List.take_succ_cons, List.take_zero, List.drop_succ_cons, List.drop_zero, TF56, KL56, ec, a3, b3]); (try simp (disch := omega) only [wrapI, tmodI, tdivI])
  refine ⟨Ext.refl _, CallW_pure call84 (cmpCompare _ _ w3) fun w4 x4 => ⟨x4, ?_⟩⟩
  refine CallW_pure call84 (cmpCompare _ _ w4) fun w5 x5 => ⟨x4.trans x5, ?_⟩
  refine intsL [cmp3 a.At b.At, cmp3 a.Line b.Line] rfl rfl (by have := cmp3_in a.At b.At; have := cmp3_in a.Line b.Line; simp [I64]; omega) (by decide) fun v w6 s6 x6 => ⟨x4.trans (x5.trans x6), ?_⟩
  refine CallW_pure call83 (cmpOr v _ w6 s6) fun w7 x7 => ⟨x4.trans (x5.trans (x6.trans x7)), ?_⟩
  (repeat with_reducible first | refine jy ?_ | (refine jT (id := 1) KL56 9 mixed (by kernel_rfl) (by kernel_rfl) (by kernel_rfl) fun _ => ?_; refine jw KL56 [] TF56 fun _ => ?_) | refine jw KL56 [] TF56 fun _ => ?_)
  refine Run_ret ?_
  simp [Rets, RetM, resV, fnd, oneOr, cmpR]
  exact x2.trans (x3.trans (x4.trans (x5.trans (x6.trans x7))))
def ldv (x : Pl.LoadD) : Value := .agg #[.int .i64 x.n, .int .i64 x.c]
theorem ldWith (x : Pl.LoadD) (o : OrderD) (g : Value) (w : World) (hn : 0 ≤ x.n ∧ x.n ≤ 1000000000000000) (hc : 1 ≤ o.Crowd ∧ o.Crowd ≤ 64) :
    Calls Tryz.prog 37 #[ldv x, .agg (o.cs g).toArray] w fun e w' => e = .returned (ldv (x.wth o)) ∧ Ext w w' := by
  unfold ldv
  refine Calls_of_Run (args := [.agg #[.int .i64 x.n, .int .i64 x.c], .agg (o.cs g).toArray]) (n := 15) (rs := [.cell 4 92]) Tryz.func37 rfl rfl rfl (by simp) ?_
  (repeat with_reducible first | refine jy ?_ | refine jw KL37 [] TF37 fun _ => ?_)
  refine SemW_box fun px w1 h1 => SemW_box fun po w2 h2 => SemW_allocT ti92 fun pr w3 h3 => ?_
  have b3 := h3.blk
  have z1 := h1.size
  have z2 := h2.size
  have x3 := h1.ext.trans (h2.ext.trans h3.ext)
  have g1 := (h1.at_.ext (h2.ext.trans h3.ext)).n
  have g2 := (h2.at_.ext h3.ext).n
  simp only [OrderD.cs, AtN, KS, Nat.reduceAdd, Nat.reduceMul, Nat.reduceEqDiff, ↓reduceIte, UT] at g1 g2
  (repeat with_reducible first | refine jy ?_ | refine jw KL37 [] (aa TF37 (aa g1 g2)) fun _ => ?_)
  refine ⟨ldv (x.wth o), fun _ => by kernel_rfl, ?_⟩
  refine SemW_setW (by rw [cells92]; decide) (by rw [cells92]; rfl) h3.row (by rw [cells92]; rfl) rfl fun w4 r4 k4 z4 => ?_
  have e4 := loadVar_at (P := Tryz.prog) (t := 92) (by kernel_rfl) (by rw [cells92]; decide) (by rw [cells92]; rfl) r4.at_
  (repeat with_reducible first | refine jy ?_ | refine jw KL37 [] TF37 fun _ => ?_)
  refine Run_ret ?_
  simp only [Rets, RetM, resV]
  refine ⟨pr, _, rfl, e4, ?_⟩
  simp only [oneOr]
  exact ⟨rfl, Keep.ext x3 k4 fun q hq => by omega⟩
theorem ldCovers (x : Pl.LoadD) (w : World) (hn : 0 ≤ x.n ∧ x.n ≤ 1000000000000000) (hc : 0 ≤ x.c ∧ x.c ≤ 65) : Calls Tryz.prog 38 #[ldv x] w fun e w' => e = .returned (.int .i64 x.covers) ∧ Ext w w' := by
  unfold ldv
  refine Calls_of_Run (args := [.agg #[.int .i64 x.n, .int .i64 x.c]]) (n := 9) (rs := [.tmp 2]) Tryz.func38 rfl rfl rfl (by simp) ?_
  (repeat with_reducible first | refine jy ?_ | refine jw KL38 [] TF38 fun _ => ?_)
  refine SemW_box fun px w1 h1 => ?_
  have g1 := h1.at_.n
  simp only [AtN, KS, Nat.reduceAdd, Nat.reduceMul, Nat.reduceEqDiff, ↓reduceIte, UT] at g1
  (repeat with_reducible first | refine jy ?_ | refine jw KL38 [] (aa TF38 g1) fun _ => ?_)
  refine Run_ret ?_
  simp [Rets, RetM, resV, fnd, oneOr, h1.ext, Pl.LoadD.covers]
end Go.Proofs.YtldjfebokojmfaaGreat
