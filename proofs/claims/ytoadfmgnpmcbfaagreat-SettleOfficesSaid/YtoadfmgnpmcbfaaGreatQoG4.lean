import Derived.Test.YtoadfmgnpmcbfaaGreatQoW20x
import Derived.Test.YtoadfmgnpmcbfaaGreatQoG1
import Derived.Test.YtoadfmgnpmcbfaaGreatQoGp
import Derived.Test.YtoadfmgnpmcbfaaGreatQoGe
/- Chapter 40: least, formed. -/
namespace Go.Proofs.YtoadfmgnpmcbfaaGreat
open Go Go.Fk
set_option linter.unusedSimpArgs false
set_option linter.unusedVariables false
set_option maxRecDepth 100000
def optI : Option Int → Int | none => 0 | some x => x
theorem fdLeast (fv v : Value) (l : List Int) (ok : Nat → Bool) (w : World) (hx : Sl w v l) (hp : ∀ k (hk : k < l.length), Pred Tryz.prog fv [.int .i64 (k : Int)] w (ok k)) :
    Calls Tryz.prog 175 #[v, fv] w fun e w' => e = .returned (.tuple #[.int .i64 (optI (Fd.least ok l)), .bool (Fd.least ok l).isSome]) ∧ Ext w w' := by
  have hn := hx.small
  refine Calls_of_Run (args := [v, fv]) (n := 31) (rs := [.tmp 4, .tmp 5]) Tryz.func175 rfl rfl rfl (by simp) ?_
  (repeat with_reducible first | refine js ?_ | refine ja ?_ | refine jw KL175 [] (aa TF175 (aa hx.s hx.len)) fun _ => ?_)
  refine Run_loopV [4, 5, 6, 7, 10, 11, 26] (σ := Nat × Option Int) (fun s => [(10, some (.int .i64 s.1)), (4, some (.int .i64 (optI s.2))), (5, some (.bool s.2.isSome))]) (fun s w' => s.1 ≤ l.length ∧ Fd.least ok l = Fd.leastF ok s.1 (l.drop s.1) s.2 ∧ Ext w w') (fun s => l.length - s.1) (0, none) (by simp [SubB, fnd, optI]) ⟨by simp, by simp [Fd.least], Ext.refl _⟩ ?_
  rintro ⟨k, a⟩ w1 ⟨hk, hf, x1⟩
  simp only at hk hf
  (repeat with_reducible first | refine js ?_ | refine ja ?_ | refine jw KL175 [] TF175 fun _ => ?_)
  refine Run_condS (fun _ => rfl) (fun h => ?_) (fun h => ?_)
  · simp at h
    have hkl := h
    obtain ⟨f1, f2, f3⟩ := (hx.ext x1).get h
    rw [Fd.leastF_drop hkl] at hf
    (repeat with_reducible first | refine js ?_ | refine ja ?_ | refine jw KL175 [] (aa TF175 (aa hx.s (aa hx.len (aa f1 f2)))) fun _ => ?_)
    refine (hp k h w1 x1).mono fun u w2 ⟨hu, x2⟩ => ?_
    subst hu
    have y2 := x1.trans x2
    have hb : Fd.better a l[k] = (!a.isSome || decide (l[k] < optI a)) := by cases a <;> simp [Fd.better] <;> rfl
    (repeat with_reducible first | refine js ?_ | refine ja ?_ | refine jw KL175 [] TF175 fun _ => ?_)
    rw [show ((ok k && (!a.isSome || decide (l[k] < optI a)))) = (ok k && Fd.better a l[k]) by rw [hb]]
    refine Run_condS (fun _ => rfl) (fun h => ?_) (fun h => ?_)
    · (repeat with_reducible first | refine js ?_ | refine ja ?_ | refine jw KL175 [] TF175 fun _ => ?_)
      rw [if_pos h] at hf
      refine Run_lp ⟨(k + 1, some l[k]), ?_, ⟨by simp only; omega, hf, y2⟩, by simp only; omega⟩
      simp [SubB, fnd, strike, has, optI]
    · (repeat with_reducible first | refine js ?_ | refine ja ?_ | refine jw KL175 [] TF175 fun _ => ?_)
      rw [if_neg (by simp [h])] at hf
      refine Run_lp ⟨(k + 1, a), ?_, ⟨by simp only; omega, hf, y2⟩, by simp only; omega⟩
      simp [SubB, fnd, strike, has]
  · simp at h
    obtain rfl : k = l.length := by omega
    rw [List.drop_length] at hf
    (repeat with_reducible first | refine js ?_ | refine ja ?_ | refine jw KL175 [] TF175 fun _ => ?_)
    refine Run_ret ?_
    simp [Rets, RetM, resV, fnd, oneOr, hf, Fd.leastF, x1]
theorem fdBit (i : Nat) (c : Int) (p : Addr) (w : World) (hp : At w p [.int .i64 c]) : Calls Tryz.prog 176 #[.int .i64 (i : Int), .pointer (some p)] w fun e w' => e = .returned (.bool (Fd.bit c i)) ∧ Ext w w' := by
  have g1 := hp.n
  simp only [AtN, add_zero] at g1
  refine Calls_of_Run (args := [.int .i64 (i : Int), .pointer (some p)]) (n := 9) (rs := [.tmp 3]) Tryz.func176 rfl rfl rfl (by simp) ?_
  (repeat with_reducible first | refine js ?_ | refine ja ?_ | refine jw KL176 [] (aa TF176 (aa g1.1 g1.2.1)) fun _ => ?_)
  refine Run_ret ?_
  simp [Rets, RetM, resV, fnd, oneOr, Ext.refl, Fd.bit]
  first | done | rfl
/-! formed -/
theorem idxRun (vs fv : Value) (xs : List RunD) (p : Nat → Bool) (w : World) (hs : Sl w vs xs) (hp : ∀ k (hk : k < xs.length), Pred Tryz.prog fv [.agg xs[k].cs.toArray] w (p k)) :
    Calls Tryz.prog 202 #[vs, fv] w fun e w' => ∃ r, e = .returned (.int .i64 r) ∧ Ext w w' ∧ decide (0 ≤ r) = anyN xs.length p := by
  have hn := hs.small
  refine Calls_of_Run (args := [vs, fv]) (n := 19) (rs := [.tmp 4]) Tryz.func202 rfl rfl rfl (by simp) ?_
  (repeat with_reducible first | refine js ?_ | refine ja ?_ | refine jw KL202 [] (aa TF202 (aa hs.s hs.len)) fun _ => ?_)
  refine Run_loopV [4, 5, 8, 9, 16] (σ := Nat) (fun k => [(8, some (.int .i64 k))]) (fun k w' => k ≤ xs.length ∧ (∀ j, j < k → p j = false) ∧ Ext w w') (fun k => xs.length - k) 0 (by simp [SubB, fnd]) ⟨by omega, by simp, Ext.refl _⟩ ?_
  rintro k w1 ⟨hk, hf, x1⟩
  (repeat with_reducible first | refine js ?_ | refine ja ?_ | refine jw KL202 [] TF202 fun _ => ?_)
  refine Run_condS (fun _ => rfl) (fun h => ?_) (fun h => ?_)
  · simp at h
    obtain ⟨f1, f2⟩ := (hs.ext x1).runD h
    simp only [RunD.cs, AtN, KS, Nat.reduceAdd, Nat.reduceMul, Nat.reduceEqDiff, ↓reduceIte, UT] at f1
    (repeat with_reducible first | refine js ?_ | refine ja ?_ | refine jw KL202 [] (aa TF202 (aa hs.s (aa hs.len f1))) fun _ => ?_)
    refine (hp k h w1 x1).mono fun v w2 ⟨hv, x2⟩ => ?_
    subst hv
    have hkl := h
    (repeat with_reducible first | refine js ?_ | refine ja ?_ | refine jw KL202 [] TF202 fun _ => ?_)
    refine Run_condS (fun _ => rfl) (fun h => ?_) (fun h => ?_)
    · (repeat with_reducible first | refine js ?_ | refine ja ?_ | refine jw KL202 [] TF202 fun _ => ?_)
      refine Run_ret ?_
      simp [Rets, RetM, resV, fnd, oneOr, anyN_true hkl (by assumption : p k = true)]
      exact x1.trans x2
    · have hpk := h
      (repeat with_reducible first | refine js ?_ | refine ja ?_ | refine jw KL202 [] TF202 fun _ => ?_)
      refine Run_lp ⟨k + 1, ?_, ⟨by omega, fun j hj => ?_, x1.trans x2⟩, by omega⟩
      · simp [SubB, fnd, strike, has]
      · by_cases e : j = k
        · subst e; exact hpk
        · exact hf j (by omega)
  · simp at h
    obtain rfl : k = xs.length := by omega
    (repeat with_reducible first | refine js ?_ | refine ja ?_ | refine jw KL202 [] TF202 fun _ => ?_)
    refine Run_ret ?_
    simp [Rets, RetM, resV, fnd, oneOr, anyN_false hf, x1]
theorem hasRun (vs fv : Value) (xs : List RunD) (p : Nat → Bool) (w : World) (hs : Sl w vs xs) (hp : ∀ k (hk : k < xs.length), Pred Tryz.prog fv [.agg xs[k].cs.toArray] w (p k)) :
    Calls Tryz.prog 193 #[vs, fv] w fun e w' => e = .returned (.bool (anyN xs.length p)) ∧ Ext w w' := by
  refine Calls_of_Run (args := [vs, fv]) (n := 9) (rs := [.tmp 4]) Tryz.func193 rfl rfl rfl (by simp) ?_
  (repeat with_reducible first | refine js ?_ | refine ja ?_ | refine jw KL193 [] TF193 fun _ => ?_)
  refine CallW_gen call202 (idxRun vs fv xs p w hs hp) fun e w1 ⟨r, he, x1, hr⟩ => ⟨_, he, ?_⟩
  (repeat with_reducible first | refine js ?_ | refine ja ?_ | refine jw KL193 [] TF193 fun _ => ?_)
  refine Run_ret ?_
  simp [Rets, RetM, resV, fnd, oneOr, x1]
  simpa using hr
/-- where a plan lies that closures see -/
structure PlanP (w : World) (q : Addr) (p : PlanD) (v0 v1 v2 : Value) : Prop where
  at_ : At w q (p.cs v0 v1 v2)
  r : PlanR w p v0 v1 v2
theorem PlanP.ext {w w' : World} {q : Addr} {p : PlanD} {v0 v1 v2 : Value} (h : PlanP w q p v0 v1 v2) (hx : Ext w w') : PlanP w' q p v0 v1 v2 := ⟨h.at_.ext hx, h.r.ext hx⟩
theorem fdF1 (q : Addr) (p : PlanD) (v0 v1 v2 : Value) (w : World) (h : PlanP w q p v0 v1 v2) :
    Calls Tryz.prog 191 #[.pointer (some q)] w fun e w' => e = .returned (.bool (decide (p.Covers.length = p.Runs.length))) ∧ Ext w w' := by
  have g := h.at_.n
  simp only [PlanD.cs, AtN, KS, Nat.reduceAdd, Nat.reduceMul, Nat.reduceEqDiff, ↓reduceIte, UT] at g
  refine Calls_of_Run (args := [.pointer (some q)]) (n := 9) (rs := [.tmp 1]) Tryz.func191 rfl rfl rfl (by simp) ?_
  (repeat with_reducible first | refine js ?_ | refine ja ?_ | refine jw KL191 [] (aa TF191 (aa g (aa h.r.c.s (aa h.r.c.len (aa h.r.r.s h.r.r.len))))) fun _ => ?_)
  refine Run_ret ?_
  simp [Rets, RetM, resV, fnd, oneOr, Ext.refl]
  rw [Bool.eq_iff_iff]; simp; omega
theorem fdF21 (r : RunD) (pt : Addr) (t : TimeD) (vl : Value) (w : World) (hat : At w pt (t.cs vl)) (hl : Sl w vl t.Lines) (hr : RunI r) :
    Calls Tryz.prog 194 #[.agg r.cs.toArray, .pointer (some pt)] w fun e w' => e = .returned (.bool (!Tt.isRun t r)) ∧ Ext w w' := by
  refine Calls_of_Run (args := [.agg r.cs.toArray, .pointer (some pt)]) (n := 8) (rs := [.tmp 3]) Tryz.func194 rfl rfl rfl (by simp) ?_
  (repeat with_reducible first | refine js ?_ | refine ja ?_ | refine jw KL194 [] TF194 fun _ => ?_)
  refine SemW_box fun q w1 hN => ?_
  have x1 := hN.ext
  have g := (hat.ext x1).n
  have q1 := hN.at_.n
  simp only [TimeD.cs, RunD.cs, AtN, KS, Nat.reduceAdd, Nat.reduceMul, Nat.reduceEqDiff, ↓reduceIte, UT] at g q1
  (repeat with_reducible first | refine js ?_ | refine ja ?_ | refine jw KL194 [] (aa TF194 (aa g q1)) fun _ => ?_)
  refine CallW_pure call54 (ttIs vl t r w1 (hl.ext x1) hr) fun w2 x2 => ?_
  (repeat with_reducible first | refine js ?_ | refine ja ?_ | refine jw KL194 [] TF194 fun _ => ?_)
  refine Run_ret ?_
  simp [Rets, RetM, resV, fnd, oneOr]
  exact x1.trans x2
theorem runI {w : World} {v : Value} {xs : List RunD} (h : Sl w v xs) {k : Nat} (hk : k < xs.length) : RunI xs[k] := (h.runD hk).2
theorem fdF2 (q pt : Addr) (p : PlanD) (t : TimeD) (v0 v1 v2 vl : Value) (w : World) (h : PlanP w q p v0 v1 v2) (hat : At w pt (t.cs vl)) (hl : Sl w vl t.Lines) :
    Calls Tryz.prog 192 #[.pointer (some q), .pointer (some pt)] w fun e w' => e = .returned (.bool (p.Runs.all (Tt.isRun t))) ∧ Ext w w' := by
  have g := h.at_.n
  simp only [PlanD.cs, AtN, KS, Nat.reduceAdd, Nat.reduceMul, Nat.reduceEqDiff, ↓reduceIte, UT] at g
  refine Calls_of_Run (args := [.pointer (some q), .pointer (some pt)]) (n := 8) (rs := [.tmp 2]) Tryz.func192 rfl rfl rfl (by simp) ?_
  (repeat with_reducible first | refine js ?_ | refine ja ?_ | refine jw KL192 [] (aa TF192 g) fun _ => ?_)
  refine CallW_pure call193 (hasRun v0 _ p.Runs (fun k => !Tt.isRun t (p.Runs.getD k default)) w h.r.r fun k hk w1 x1 => ?_) fun w2 x2 => ?_
  · have e : p.Runs.getD k default = p.Runs[k] := by simp [List.getD_eq_getElem?_getD, hk]
    rw [e]
    exact CallW_cap (cap := [.pointer (some pt)]) call194 (fdF21 _ pt t vl w1 (hat.ext x1) (hl.ext x1) (runI h.r.r hk)) fun w3 x3 => ⟨rfl, x3⟩
  (repeat with_reducible first | refine js ?_ | refine ja ?_ | refine jw KL192 [] TF192 fun _ => ?_)
  refine Run_ret ?_
  simp only [Rets, RetM, resV, fnd, oneOr, ↓reduceIte]
  refine ⟨_, rfl, ?_, x2⟩
  congr 2
  rw [Bool.eq_iff_iff]
  simp only [anyN, Bool.not_eq_true', List.any_eq_false, List.mem_range, List.all_eq_true, Bool.not_eq_true, Bool.not_eq_false']
  constructor
  · intro hh r hr
    obtain ⟨k, hk, rfl⟩ := List.getElem_of_mem hr
    have := hh k hk
    simpa [List.getD_eq_getElem?_getD, hk] using this
  · intro hh k hk
    have e : p.Runs.getD k default = p.Runs[k] := by simp [List.getD_eq_getElem?_getD, hk]
    rw [e]; simp [hh _ (List.getElem_mem hk)]
theorem fdF41 (n : Int) (w : World) : Calls Tryz.prog 197 #[.int .i64 n] w fun e w' => e = .returned (.bool (!Fd.covOk n)) ∧ Ext w w' := by
  refine Calls_of_Run (args := [.int .i64 n]) (n := 9) (rs := [.tmp 2]) Tryz.func197 rfl rfl rfl (by simp) ?_
  (repeat with_reducible first | refine js ?_ | refine ja ?_ | refine jw KL197 [] TF197 fun _ => ?_)
  refine Run_ret ?_
  simp [Rets, RetM, resV, fnd, oneOr, Ext.refl, Fd.covOk]
  rw [Bool.eq_iff_iff]; simp
theorem fdF4 (q : Addr) (p : PlanD) (v0 v1 v2 : Value) (w : World) (h : PlanP w q p v0 v1 v2) :
    Calls Tryz.prog 196 #[.pointer (some q)] w fun e w' => e = .returned (.bool (p.Covers.all Fd.covOk)) ∧ Ext w w' := by
  have g := h.at_.n
  simp only [PlanD.cs, AtN, KS, Nat.reduceAdd, Nat.reduceMul, Nat.reduceEqDiff, ↓reduceIte, UT] at g
  refine Calls_of_Run (args := [.pointer (some q)]) (n := 6) (rs := [.tmp 1]) Tryz.func196 rfl rfl rfl (by simp) ?_
  (repeat with_reducible first | refine js ?_ | refine ja ?_ | refine jw KL196 [] (aa TF196 g) fun _ => ?_)
  refine CallW_pure call126 (hasNot h.r.c call197 fdF41) fun w2 x2 => ?_
  (repeat with_reducible first | refine js ?_ | refine ja ?_ | refine jw KL196 [] TF196 fun _ => ?_)
  refine Run_ret ?_
  simp [Rets, RetM, resV, fnd, oneOr, x2]
theorem ord_iff {l : List RunD} : Fd.ordOk l = true ↔ ∀ k, 1 ≤ k → k < l.length → Tt.before (l.getD (k - 1) default) (l.getD k default) = true := by
  unfold Fd.ordOk
  rw [List.all_eq_true]
  constructor
  · intro h k h1 h2
    have := h (k - 1) (by simp; omega)
    rwa [show k - 1 + 1 = k by omega] at this
  · intro h k hk
    simp at hk
    have := h (k + 1) (by omega) (by omega)
    rwa [show k + 1 - 1 = k by omega] at this
theorem fdF3 (q : Addr) (p : PlanD) (v0 v1 v2 : Value) (w : World) (h : PlanP w q p v0 v1 v2) :
    Calls Tryz.prog 195 #[.pointer (some q)] w fun e w' => e = .returned (.bool (Fd.ordOk p.Runs)) ∧ Ext w w' := by
  have hn := h.r.r.small
  have hlen := h.r.r.len
  have G : ∀ w', Ext w w' → AtN w' q 0 (p.cs v0 v1 v2) := fun w' x => (h.at_.ext x).n
  simp only [PlanD.cs, AtN, KS, Nat.reduceAdd, Nat.reduceMul, Nat.reduceEqDiff, ↓reduceIte, UT] at G
  refine Calls_of_Run (args := [.pointer (some q)]) (n := 42) (rs := [.tmp 1]) Tryz.func195 rfl rfl rfl (by simp) ?_
  (repeat with_reducible first | refine js ?_ | refine ja ?_ | refine jw KL195 [] TF195 fun _ => ?_)
  refine Run_loopV [1, 2, 3, 4, 9, 41] (σ := Nat) (fun k => [(2, some (.int .i64 k))]) (fun k w' => 1 ≤ k ∧ (∀ j, 1 ≤ j → j < k → j < p.Runs.length → Tt.before (p.Runs.getD (j - 1) default) (p.Runs.getD j default) = true) ∧ Ext w w') (fun k => p.Runs.length + 1 - k) 1 (by simp [SubB, fnd]) ⟨by omega, fun j h1 h2 => by omega, Ext.refl _⟩ ?_
  rintro k w1 ⟨hk, hf, x1⟩
  have g1 := G w1 x1
  (repeat with_reducible first | refine js ?_ | refine ja ?_ | refine jw KL195 [] (aa TF195 (aa g1 (aa h.r.r.s h.r.r.len))) fun _ => ?_)
  have hR := h.r
  refine Run_condS (fun _ => rfl) (fun h => ?_) (fun h => ?_)
  · simp at h
    have hkl := h
    obtain ⟨f1, _⟩ := (hR.r.ext x1).runD hkl
    obtain ⟨e1, _⟩ := (hR.r.ext x1).runD (show k - 1 < p.Runs.length by omega)
    have ha : p.Runs.getD (k - 1) default = p.Runs[k - 1] := by simp [List.getD_eq_getElem?_getD, show k - 1 < p.Runs.length by omega]
    have hb : p.Runs.getD k default = p.Runs[k] := by simp [List.getD_eq_getElem?_getD, hkl]
    simp only [RunD.cs, AtN, KS, Nat.reduceAdd, Nat.reduceMul, Nat.reduceEqDiff, ↓reduceIte, UT] at f1 e1
    have ek : ((k : Int) - 1).toNat = k - 1 := by omega
    (repeat with_reducible first | refine jq ?_ | refine jk ?_ | refine jc ?_ | refine jl ?_ | refine jb ?_ | refine jo ?_ | refine ji ?_ | refine jx rfl ?_)
    refine Run_ec (id := 4) KL195 (.first 0 (.first 1 (.first 2 (.first 3 (.first 4 (.first 5 (.first 6 (.first 7 (.first 8 (.first 9 (.first 10 (.alt 11 (.alt 12 (.alt 13 (.alt 14 .done .stop) .stop) .stop) (.alt 12 (.alt 11 (.alt 13 (.alt 14 .done .stop) .stop) .stop) .stop))))))))))))) mixed (by kernel_rfl) (by kernel_rfl) fun w2 x2 _ => ?_
    have g2 := G w2 (x1.trans x2)
    obtain ⟨f1, _⟩ := (hR.r.ext (x1.trans x2)).runD hkl
    obtain ⟨e1, _⟩ := (hR.r.ext (x1.trans x2)).runD (show k - 1 < p.Runs.length by omega)
    simp only [RunD.cs, AtN, KS, Nat.reduceAdd, Nat.reduceMul, Nat.reduceEqDiff, ↓reduceIte, UT] at f1 e1
    (try simp (maxSteps := 5000000) only [KS, Nat.reduceAdd, Nat.reduceMul, Nat.reduceEqDiff, ↓reduceIte, forall_const, Int.cast_ofNat_Int, Int.reduceToNat, List.take_succ_cons, List.take_zero, List.drop_succ_cons, List.drop_zero, TF195, KL195, ec, g2, f1, e1, ek, hR.r.s, hR.r.len]); (try simp (disch := omega) only [wrapI, tmodI, tdivI])
    (try simp (maxSteps := 5000000) only [KS, Nat.reduceAdd, Nat.reduceMul, Nat.reduceEqDiff, ↓reduceIte, forall_const, Int.cast_ofNat_Int, Int.reduceToNat, List.take_succ_cons, List.take_zero, List.drop_succ_cons, List.drop_zero, TF195, KL195, ec, g2, f1, e1, ek, hR.r.s, hR.r.len]); (try simp (disch := omega) only [wrapI, tmodI, tdivI])
    repeat' (first | with_reducible refine And.intro ?_ ?_ | omega | exact Ext.refl _)
    · refine SemW_allocT ti54 fun p3 w3 h3 => ⟨h3.ext, SemW_allocT ti54 fun p4 w4 h4 => ⟨h3.ext.trans h4.ext, ?_⟩⟩
      have b3 := h3.blk
      have b4 := h4.blk
      have z3 := h3.size
      have z4 := h4.size
      refine SemW_setW (by rw [cells54]; decide) (by rw [cells54]; rfl) (h3.row.ext h4.ext) (by rw [cells54]; rfl) rfl fun w5 r5 k5 z5 => ?_
      have x5 : Ext w2 w5 := Keep.ext (h3.ext.trans h4.ext) k5 fun q hq => by omega
      refine ⟨x5, SemW_setW (by rw [cells54]; decide) (by rw [cells54]; rfl) ((h4.row.ext (Ext.refl _)).keep k5 (by omega)) (by rw [cells54]; rfl) rfl fun w6 r6 k6 z6 => ?_⟩
      have x6 : Ext w2 w6 := Keep.ext x5 k6 fun q hq => by omega
      refine ⟨x6, ?_⟩
      have ra : Row w6 p3 54 p.Runs[k - 1].cs := r5.keep k6 (by omega)
      have rb : Row w6 p4 54 p.Runs[k].cs := r6
      have y6 := x1.trans (x2.trans x6)
      have qa := ra.n
      have qb := rb.n
      simp only [RunD.cs, AtN, KS, Nat.reduceAdd, Nat.reduceMul, Nat.reduceEqDiff, ↓reduceIte, UT] at qa qb
      (repeat with_reducible first | refine js ?_ | refine ja ?_ | refine jw KL195 [] (aa TF195 (aa qa qb)) fun _ => ?_)
      refine Run_condS (fun _ => rfl) (fun h => ?_) (fun h => ?_)
      · (repeat with_reducible first | refine js ?_ | refine ja ?_ | refine jw KL195 [] TF195 fun _ => ?_)
        refine Run_ret ?_
        have : Fd.ordOk p.Runs = false := by
          cases ho : Fd.ordOk p.Runs with
          | false => rfl
          | true =>
            have := ord_iff.1 ho k hk hkl
            rw [ha, hb] at this
            simp [Tt.before] at this
            simp at h
            omega
        simp [Rets, RetM, resV, fnd, oneOr, this, y6]
      · have hbe : Tt.before p.Runs[k - 1] p.Runs[k] = true := by
          simp at h
          simp [Tt.before]; omega
        (repeat with_reducible first | refine js ?_ | refine ja ?_ | refine jw KL195 [] TF195 fun _ => ?_)
        refine Run_lp ⟨k + 1, ?_, ⟨by omega, fun j hj1 hj2 hj3 => ?_, y6⟩, by omega⟩
        · simp [SubB, fnd, strike, has]
        · by_cases e : j = k
          · subst e; rw [ha, hb]; exact hbe
          · exact hf j hj1 (by omega) hj3
    · refine SemW_allocT ti54 fun p3 w3 h3 => ⟨h3.ext, SemW_allocT ti54 fun p4 w4 h4 => ⟨h3.ext.trans h4.ext, ?_⟩⟩
      have b3 := h3.blk
      have b4 := h4.blk
      have z3 := h3.size
      have z4 := h4.size
      refine SemW_setW (by rw [cells54]; decide) (by rw [cells54]; rfl) (h4.row.ext (Ext.refl _)) (by rw [cells54]; rfl) rfl fun w5 r5 k5 z5 => ?_
      have x5 : Ext w2 w5 := Keep.ext (h3.ext.trans h4.ext) k5 fun q hq => by omega
      refine ⟨x5, SemW_setW (by rw [cells54]; decide) (by rw [cells54]; rfl) ((h3.row.ext h4.ext).keep k5 (by omega)) (by rw [cells54]; rfl) rfl fun w6 r6 k6 z6 => ?_⟩
      have x6 : Ext w2 w6 := Keep.ext x5 k6 fun q hq => by omega
      refine ⟨x6, ?_⟩
      have ra : Row w6 p4 54 p.Runs[k - 1].cs := r5.keep k6 (by omega)
      have rb : Row w6 p3 54 p.Runs[k].cs := r6
      have y6 := x1.trans (x2.trans x6)
      have qa := ra.n
      have qb := rb.n
      simp only [RunD.cs, AtN, KS, Nat.reduceAdd, Nat.reduceMul, Nat.reduceEqDiff, ↓reduceIte, UT] at qa qb
      (repeat with_reducible first | refine js ?_ | refine ja ?_ | refine jw KL195 [] (aa TF195 (aa qa qb)) fun _ => ?_)
      refine Run_condS (fun _ => rfl) (fun h => ?_) (fun h => ?_)
      · (repeat with_reducible first | refine js ?_ | refine ja ?_ | refine jw KL195 [] TF195 fun _ => ?_)
        refine Run_ret ?_
        have : Fd.ordOk p.Runs = false := by
          cases ho : Fd.ordOk p.Runs with
          | false => rfl
          | true =>
            have := ord_iff.1 ho k hk hkl
            rw [ha, hb] at this
            simp [Tt.before] at this
            simp at h
            omega
        simp [Rets, RetM, resV, fnd, oneOr, this, y6]
      · have hbe : Tt.before p.Runs[k - 1] p.Runs[k] = true := by
          simp at h
          simp [Tt.before]; omega
        (repeat with_reducible first | refine js ?_ | refine ja ?_ | refine jw KL195 [] TF195 fun _ => ?_)
        refine Run_lp ⟨k + 1, ?_, ⟨by omega, fun j hj1 hj2 hj3 => ?_, y6⟩, by omega⟩
        · simp [SubB, fnd, strike, has]
        · by_cases e : j = k
          · subst e; rw [ha, hb]; exact hbe
          · exact hf j hj1 (by omega) hj3
  · simp at h
    (repeat with_reducible first | refine js ?_ | refine ja ?_ | refine jw KL195 [] TF195 fun _ => ?_)
    refine Run_ret ?_
    have : Fd.ordOk p.Runs = true := ord_iff.2 fun j h1 h2 => hf j h1 (by omega) h2
    simp [Rets, RetM, resV, fnd, oneOr, this, x1]
end Go.Proofs.YtoadfmgnpmcbfaaGreat
/- Chapter 40: formed, Cost. -/
namespace Go.Proofs.YtoadfmgnpmcbfaaGreat
open Go Go.Fk
set_option linter.unusedSimpArgs false
set_option linter.unusedVariables false
set_option maxRecDepth 100000
theorem fdFormed (vl v0 v1 v2 : Value) (t : TimeD) (p : PlanD) (w : World) (hl : Sl w vl t.Lines) (hP : PlanR w p v0 v1 v2) :
    Calls Tryz.prog 174 #[.agg (t.cs vl).toArray, .agg (p.cs v0 v1 v2).toArray] w fun e w' => e = .returned (.bool (Fd.formed t p)) ∧ Ext w w' := by
  refine Calls_of_Run (args := [.agg (t.cs vl).toArray, .agg (p.cs v0 v1 v2).toArray]) (n := 21) (rs := [.tmp 4]) Tryz.func174 rfl rfl rfl (by simp) ?_
  (repeat with_reducible first | refine js ?_ | refine ja ?_ | refine jw KL174 [] TF174 fun _ => ?_)
  refine SemW_box fun pt w1 hN => SemW_box fun q w2 hQ => ?_
  have x2 := hN.ext.trans hQ.ext
  have at1 : ∀ w', Ext w2 w' → At w' pt (t.cs vl) := fun w' x => hN.at_.ext (hQ.ext.trans x)
  have at2 : ∀ w', Ext w2 w' → PlanP w' q p v0 v1 v2 := fun w' x => ⟨hQ.at_.ext x, hP.ext (x2.trans x)⟩
  (repeat with_reducible first | refine js ?_ | refine ja ?_ | refine jw KL174 [] TF174 fun _ => ?_)
  let F (k : FuncId) (c : Array Value) : Value := .func (.func k) #[] c
  refine SemW_buildSlice (vs := [F 191 #[.pointer (some q)], F 192 #[.pointer (some q), .pointer (some pt)], F 195 #[.pointer (some q)], F 196 #[.pointer (some q)]]) Tryz.underlying90 ti33 rfl rfl rfl (by simp [Value.cells, F]) (by simp) fun ph w3 hB => ?_
  have x3 := hB.ext
  (repeat with_reducible first | refine js ?_ | refine ja ?_ | refine jw KL174 [] TF174 fun _ => ?_)
  let P : Nat → Bool := fun k => match k with | 0 => decide (p.Covers.length = p.Runs.length) | 1 => p.Runs.all (Tt.isRun t) | 2 => Fd.ordOk p.Runs | _ => p.Covers.all Fd.covOk
  refine Run_loopV [4, 6, 13, 14, 19] (σ := Nat) (fun k => [(13, some (.int .i64 k))]) (fun k w' => k ≤ 4 ∧ (∀ j, j < k → P j = true) ∧ Ext w3 w') (fun k => 4 - k) 0 (by simp [SubB, fnd]) ⟨by omega, by simp, Ext.refl _⟩ ?_
  rintro k w4 ⟨hk, hf, x4⟩
  have y4 := x2.trans (x3.trans x4)
  (repeat with_reducible first | refine js ?_ | refine ja ?_ | refine jw KL174 [] TF174 fun _ => ?_)
  refine Run_condS (fun _ => rfl) (fun h => ?_) (fun h => ?_)
  · simp at h
    have hPf : P k = false → Fd.formed t p = false := by
      have : k = 0 ∨ k = 1 ∨ k = 2 ∨ k = 3 := by omega
      rcases this with rfl | rfl | rfl | rfl <;> intro hp <;> simp only [P] at hp <;> simp only [Fd.formed, hp, Bool.false_and, Bool.and_false]
    have hC : ∃ g c, (mem w4 (ph.add k) = F g c ∧ has1 w4 (ph.add k)) ∧ (∀ K : Value → World → Prop, (∀ w', Ext w4 w' → K (.bool (P k)) w') → CallW Tryz.prog (F g c) [] w4 K) := by
      have g3 := (hB.at_.ext x4).n
      simp only [AtN, KS, Nat.reduceAdd, Nat.reduceMul, Nat.reduceEqDiff, ↓reduceIte, UT, F, List.flatMap_cons, List.flatMap_nil, Value.cells, List.toList_toArray, List.append_nil, List.cons_append, List.nil_append] at g3
      have p4 := at2 w4 (x3.trans x4)
      have : k = 0 ∨ k = 1 ∨ k = 2 ∨ k = 3 := by omega
      rcases this with rfl | rfl | rfl | rfl
      · exact ⟨191, #[.pointer (some q)], ⟨by rw [add_zero]; exact g3.2.1, by rw [add_zero]; exact g3.1⟩, fun K hK => CallW_cap (cap := [_]) (args := []) call191 (fdF1 q p v0 v1 v2 w4 p4) hK⟩
      · exact ⟨192, #[.pointer (some q), .pointer (some pt)], ⟨g3.2.2.2.1, g3.2.2.1⟩, fun K hK => CallW_cap (cap := [_, _]) (args := []) call192 (fdF2 q pt p t v0 v1 v2 vl w4 p4 (at1 w4 (x3.trans x4)) (hl.ext y4)) hK⟩
      · exact ⟨195, #[.pointer (some q)], ⟨g3.2.2.2.2.2.1, g3.2.2.2.2.1⟩, fun K hK => CallW_cap (cap := [_]) (args := []) call195 (fdF3 q p v0 v1 v2 w4 p4) hK⟩
      · exact ⟨196, #[.pointer (some q)], ⟨g3.2.2.2.2.2.2.2, g3.2.2.2.2.2.2.1⟩, fun K hK => CallW_cap (cap := [_]) (args := []) call196 (fdF4 q p v0 v1 v2 w4 p4) hK⟩
    obtain ⟨g, c, ⟨m1, m2⟩, hC⟩ := hC
    (repeat with_reducible first | refine js ?_ | refine ja ?_ | refine jw KL174 [] (aa TF174 (aa m1 m2)) fun _ => ?_)
    refine hC _ fun w5 x5 => ?_
    (repeat with_reducible first | refine js ?_ | refine ja ?_ | refine jw KL174 [] TF174 fun _ => ?_)
    refine Run_condS (fun _ => rfl) (fun h => ?_) (fun h => ?_)
    · (repeat with_reducible first | refine js ?_ | refine ja ?_ | refine jw KL174 [] TF174 fun _ => ?_)
      refine Run_ret ?_
      simp [Rets, RetM, resV, fnd, oneOr, hPf (by simpa using h)]
      exact y4.trans x5
    · have hpk : P k = true := by simpa using h
      (repeat with_reducible first | refine js ?_ | refine ja ?_ | refine jw KL174 [] TF174 fun _ => ?_)
      refine Run_lp ⟨k + 1, ?_, ⟨by omega, fun j hj => ?_, x4.trans x5⟩, by omega⟩
      · simp [SubB, fnd, strike, has]
      · by_cases e : j = k
        · subst e; exact hpk
        · exact hf j (by omega)
  · simp at h
    obtain rfl : k = 4 := by omega
    (repeat with_reducible first | refine js ?_ | refine ja ?_ | refine jw KL174 [] TF174 fun _ => ?_)
    refine Run_ret ?_
    have e0 := hf 0 (by omega)
    have e1 := hf 1 (by omega)
    have e2 := hf 2 (by omega)
    have e3 := hf 3 (by omega)
    simp only [P] at e0 e1 e2 e3
    have : Fd.formed t p = true := by simp only [Fd.formed, e0, e1, e2, e3]; rfl
    simp [Rets, RetM, resV, fnd, oneOr, this, y4]
/-- the facts of a plan that is formed -/
theorem formed_ok {t : TimeD} {p : PlanD} (h : Fd.formed t p = true) : p.Covers.length = p.Runs.length ∧ (∀ r ∈ p.Runs, Tt.isRun t r = true) ∧ Fd.ordOk p.Runs = true ∧ ∀ n ∈ p.Covers, 0 ≤ n ∧ n ≤ 64 := by
  simp only [Fd.formed, Bool.and_eq_true, decide_eq_true_eq, List.all_eq_true, Fd.covOk] at h
  exact ⟨h.1.1.1, h.1.1.2, h.1.2, h.2⟩
theorem isRun_line {t : TimeD} {r : RunD} (h : Tt.isRun t r = true) : Tt.chk t = 0 ∧ 0 ≤ r.Line ∧ r.Line < t.Lines.length ∧ 0 ≤ r.At ∧ r.At < 2097152 := by
  simp only [Tt.isRun, Tt.isR, Bool.and_eq_true, decide_eq_true_eq] at h
  exact ⟨h.1, h.2.1⟩
def CostRet (w : World) (r : Int × Int) (e : Ending) (w' : World) : Prop := e = .returned (.tuple #[.int .i64 r.1, .int .i64 r.2]) ∧ Ext w w'
/-- a line of a run, where it lies -/
theorem fdCost (vl v0 v1 v2 u0 u1 u2 : Value) (t : TimeD) (f : TariffD) (p : PlanD) (run : Int) (w : World) (hl : Sl w vl t.Lines) (hT : TarR w f u0 u1 u2) (hP : PlanR w p v0 v1 v2) :
    Calls Tryz.prog 129 #[.agg (t.cs vl).toArray, .agg (f.cs u0 u1 u2).toArray, .agg (p.cs v0 v1 v2).toArray, .int .i64 run] w (CostRet w (Fd.cost t f p run)) := by
  have hlen := hl.len
  have rlen := hP.r.len
  have clen := hP.c.len
  refine Calls_of_Run (args := [.agg (t.cs vl).toArray, .agg (f.cs u0 u1 u2).toArray, .agg (p.cs v0 v1 v2).toArray, .int .i64 run]) (n := 63) (rs := [.tmp 8, .tmp 9]) Tryz.func129 rfl rfl rfl (by simp) ?_
  (repeat with_reducible first | refine js ?_ | refine ja ?_ | refine jw KL129 [] TF129 fun _ => ?_)
  refine SemW_box fun pt w1 h1 => SemW_box fun pf w2 h2 => SemW_box fun pp w3 h3 => ?_
  have x3 := h1.ext.trans (h2.ext.trans h3.ext)
  have T : ∀ w', Ext w3 w' → AtN w' pt 0 (t.cs vl) := fun w' x => (h1.at_.ext (h2.ext.trans (h3.ext.trans x))).n
  have F : ∀ w', Ext w3 w' → AtN w' pf 0 (f.cs u0 u1 u2) := fun w' x => (h2.at_.ext (h3.ext.trans x)).n
  have P : ∀ w', Ext w3 w' → AtN w' pp 0 (p.cs v0 v1 v2) := fun w' x => (h3.at_.ext x).n
  simp only [TimeD.cs, TariffD.cs, PlanD.cs, AtN, KS, Nat.reduceAdd, Nat.reduceMul, Nat.reduceEqDiff, ↓reduceIte, UT] at T F P
  have t3 := T w3 (Ext.refl _)
  (repeat with_reducible first | refine js ?_ | refine ja ?_ | refine jw KL129 [] (aa TF129 t3) fun _ => ?_)
  refine chkW rfl (hl.ext x3) fun w4 x4 => ?_
  have y4 := x3.trans x4
  (repeat with_reducible first | refine js ?_ | refine ja ?_ | refine jw KL129 [] TF129 fun _ => ?_)
  refine Run_condS (fun _ => rfl) (fun h => ?_) (fun h => ?_)
  · simp at h
    (repeat with_reducible first | refine js ?_ | refine ja ?_ | refine jw KL129 [] TF129 fun _ => ?_)
    refine Run_ret ?_
    simp [Rets, RetM, resV, fnd, oneOr, CostRet, Fd.cost, h, y4]
  simp at h
  have hc := h
  have f4 := F w4 x4
  (repeat with_reducible first | refine js ?_ | refine ja ?_ | refine jw KL129 [] (aa TF129 f4) fun _ => ?_)
  refine CallW_pure call60 (tfCheck f u0 u1 u2 w4 (hT.ext y4)) fun w5 x5 => ?_
  have y5 := y4.trans x5
  (repeat with_reducible first | refine js ?_ | refine ja ?_ | refine jw KL129 [] TF129 fun _ => ?_)
  refine Run_condS (fun _ => rfl) (fun h => ?_) (fun h => ?_)
  · simp at h
    (repeat with_reducible first | refine js ?_ | refine ja ?_ | refine jw KL129 [] TF129 fun _ => ?_)
    refine Run_ret ?_
    simp [Rets, RetM, resV, fnd, oneOr, CostRet, Fd.cost, hc, h, y5]
  simp at h
  have hfc := h
  have t5 := T w5 (x4.trans x5)
  have p5 := P w5 (x4.trans x5)
  (repeat with_reducible first | refine js ?_ | refine ja ?_ | refine jw KL129 [] (aa TF129 (aa t5 p5)) fun _ => ?_)
  refine CallW_pure call174 (fdFormed vl v0 v1 v2 t p w5 (hl.ext y5) (hP.ext y5)) fun w6 x6 => ?_
  have y6 := y5.trans x6
  (repeat with_reducible first | refine js ?_ | refine ja ?_ | refine jw KL129 [] TF129 fun _ => ?_)
  refine Run_condS (fun _ => rfl) (fun h => ?_) (fun h => ?_)
  · simp at h
    (repeat with_reducible first | refine js ?_ | refine ja ?_ | refine jw KL129 [] TF129 fun _ => ?_)
    refine Run_ret ?_
    simp [Rets, RetM, resV, fnd, oneOr, CostRet, Fd.cost, hc, hfc, h, y6]
  simp at h
  have hfm := h
  obtain ⟨c1, c2, c3, c4⟩ := formed_ok hfm
  have x36 := x4.trans (x5.trans x6)
  have t6 := T w6 x36
  have p6 := P w6 x36
  have f6 := F w6 x36
  (repeat with_reducible first | refine js ?_ | refine ja ?_ | refine jw KL129 [] (aa TF129 (aa p6 (aa hP.r.s hP.r.len))) fun _ => ?_)
  refine Run_condS (fun _ => rfl) (fun h => ?_) (fun h => ?_)
  · simp at h
    (repeat with_reducible first | refine js ?_ | refine ja ?_ | refine jw KL129 [] TF129 fun _ => ?_)
    refine Run_ret ?_
    have : Fd.cost t f p run = (0, 1) := by
      unfold Fd.cost
      rw [if_neg (by simp [hc]), if_neg (by simp [hfc]), if_neg (by simp [hfm]), if_pos (by omega)]
    simp [Rets, RetM, resV, fnd, oneOr, CostRet, this, y6]
  simp at h
  have hrn : run.toNat < p.Runs.length := by omega
  have hg : p.Runs.getD run.toNat default = p.Runs[run.toNat] := by simp [List.getD_eq_getElem?_getD, hrn]
  have hrun := isRun_line (c2 _ (List.getElem_mem hrn))
  have Q : ∀ w', Ext w w' → AtN w' ((slAt v0).add (run.toNat * 3)) 0 p.Runs[run.toNat].cs := fun w' x => ((hP.r.ext x).runD hrn).1
  have hgc : p.Covers.getD run.toNat 0 = p.Covers[run.toNat] := by simp [List.getD_eq_getElem?_getD, show run.toNat < p.Covers.length by omega]
  have hcv := c4 _ (List.getElem_mem (show run.toNat < p.Covers.length by omega))
  have hln : p.Runs[run.toNat].Line.toNat < t.Lines.length := by omega
  have hlo : Fd.lineOf t p run = t.Lines[p.Runs[run.toNat].Line.toNat] := by
    unfold Fd.lineOf; rw [hg]; simp [List.getD_eq_getElem?_getD, hln]
  obtain ⟨l0, l1, l2, l3, e1, e2, hR⟩ := (hl.ext y6).line hln
  have hres : Fd.cost t f p run = match Fd.least (Fd.bit (Fd.lineOf t p run).Classes) f.Leg with
      | none => (0, 210)
      | some x => (x * p.Covers.getD run.toNat 0, 0) := by
    unfold Fd.cost
    rw [if_neg (by simp [hc]), if_neg (by simp [hfc]), if_neg (by simp [hfm]), if_neg (by omega)]
    rfl
  rw [hlo, hgc] at hres
  generalize hxx : t.Lines[p.Runs[run.toNat].Line.toNat] = x at *
  generalize hrr : p.Runs[run.toNat] = r at *
  simp only [RunD.cs, AtN, KS, Nat.reduceAdd, Nat.reduceMul, Nat.reduceEqDiff, ↓reduceIte, UT] at Q
  (repeat with_reducible first | refine jq ?_ | refine jk ?_ | refine jc ?_ | refine jl ?_ | refine jb ?_ | refine jo ?_ | refine ji ?_ | refine jx rfl ?_)
  refine Run_ec (id := 11) KL129 (.first 0 (.first 1 (.first 2 (.first 3 (.first 4 (.first 5 (.first 6 (.first 7 (.first 8 (.first 9 (.first 10 (.alt 11 (.alt 12 .done .stop) .stop)))))))))))) mixed (by kernel_rfl) (by kernel_rfl) fun w7 x7 _ => ?_
  have t7 := T w7 (x36.trans x7)
  have p7 := P w7 (x36.trans x7)
  have q7 := Q w7 (y6.trans x7)
  have e7 := (e2.ext x7).n
  simp only [LineD.cs, AtN, KS, Nat.reduceAdd, Nat.reduceMul, Nat.reduceEqDiff, ↓reduceIte, UT] at e7
  (try simp (maxSteps := 5000000) only [KS, Nat.reduceAdd, Nat.reduceMul, Nat.reduceEqDiff, ↓reduceIte, forall_const, Int.cast_ofNat_Int, Int.reduceToNat, List.take_succ_cons, List.take_zero, List.drop_succ_cons, List.drop_zero, TF129, KL129, ec, t7, p7, hP.r.s, hP.r.len, hl.s, hl.len, q7, e7]); (try simp (disch := omega) only [wrapI, tmodI, tdivI])
  (try simp (maxSteps := 5000000) only [KS, Nat.reduceAdd, Nat.reduceMul, Nat.reduceEqDiff, ↓reduceIte, forall_const, Int.cast_ofNat_Int, Int.reduceToNat, List.take_succ_cons, List.take_zero, List.drop_succ_cons, List.drop_zero, TF129, KL129, ec, t7, p7, hP.r.s, hP.r.len, hl.s, hl.len, q7, e7]); (try simp (disch := omega) only [wrapI, tmodI, tdivI])
  refine ⟨by omega, by omega, Ext.refl _, SemW_allocT ti3 fun pc w8 h8 => ⟨h8.ext, ?_⟩⟩
  have b8 := h8.blk
  refine SemW_set1 cells3 h8.row rfl rfl fun w9 r9 k9 z9 => ?_
  have x9 : Ext w7 w9 := Keep.ext h8.ext k9 fun q hq => by omega
  refine ⟨x9, ?_⟩
  have x69 := x7.trans x9
  have y9 := y6.trans x69
  have f9 := F w9 (x36.trans x69)
  have p9 := P w9 (x36.trans x69)
  have ok := Tf.chk_ok hfc
  (repeat with_reducible first | refine js ?_ | refine ja ?_ | refine jw KL129 [] (aa TF129 f9) fun _ => ?_)
  refine CallW_pure call175 (fdLeast _ u1 f.Leg (Fd.bit x.Classes) w9 (hT.l.ext y9) fun k hk w10 x10 => CallW_cap (cap := [.pointer (some pc)]) call176 (fdBit k x.Classes pc w10 (r9.at_.ext x10)) fun w11 x11 => ⟨rfl, x11⟩) fun w10 x10 => ?_
  have y10 := y9.trans x10
  cases hle : Fd.least (Fd.bit x.Classes) f.Leg with
  | none =>
    rw [hle] at hres
    (repeat with_reducible first | refine js ?_ | refine ja ?_ | refine jw KL129 [] TF129 fun _ => ?_)
    refine Run_condS (fun _ => rfl) (fun _ => ?_) (fun h => by cases h)
    (repeat with_reducible first | refine js ?_ | refine ja ?_ | refine jw KL129 [] TF129 fun _ => ?_)
    refine Run_ret ?_
    simp [Rets, RetM, resV, fnd, oneOr, CostRet, hres, y10]
  | some m =>
    rw [hle] at hres
    have hm := ok.l _ (Fd.least_mem hle)
    have p10 := P w10 (x36.trans (x69.trans x10))
    obtain ⟨g1, g2, g3⟩ := (hP.c.ext y10).get (show run.toNat < p.Covers.length by omega)
    (repeat with_reducible first | refine js ?_ | refine ja ?_ | refine jw KL129 [] TF129 fun _ => ?_)
    refine Run_condS (fun _ => rfl) (fun h => by cases h) (fun _ => ?_)
    have hmul : 0 ≤ m * p.Covers[run.toNat] ∧ m * p.Covers[run.toNat] ≤ 1048576 * 64 := by
      constructor
      · exact Int.mul_nonneg hm.1 hcv.1
      · exact Int.mul_le_mul hm.2 hcv.2 hcv.1 (by omega)
    generalize hcc : p.Covers[run.toNat] = c at *
    simp only [optI]
    generalize hmm : m * c = mc at *
    (repeat with_reducible first | refine js ?_ | refine ja ?_ | refine jw KL129 [] (aa TF129 (aa p10 (aa hP.c.s (aa hP.c.len (aa g1 (aa g2 hmm)))))) fun _ => ?_)
    refine Run_ret ?_
    simp [Rets, RetM, resV, fnd, oneOr, CostRet, hres, y10, hmm]
end Go.Proofs.YtoadfmgnpmcbfaaGreat
