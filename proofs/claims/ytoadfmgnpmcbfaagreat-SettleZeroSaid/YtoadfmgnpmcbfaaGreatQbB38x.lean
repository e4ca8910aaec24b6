import Derived.Test.YtoadfmgnpmcbfaaGreatQbFacts
import Derived.Test.YtoadfmgnpmcbfaaGreatQbGp
/- B38a, B38b, B38c, B38d, B38e, joined. -/
/- Books (chapter 38), for other seats: what must hold for a move; Check; the reference's Check. -/
namespace Go.Proofs.YtoadfmgnpmcbfaaGreat
open Go Go.Fk
set_option linter.unusedSimpArgs false
set_option linter.unusedVariables false
set_option maxRecDepth 100000
/-- values as they are -/
structure Raw where
  v : Value
instance : Enc Raw where
  n := 1
  rep _ cs x := cs = [x.v]
  len _ _ _ h := by rw [h]; rfl
  ext _ _ _ _ _ h := h
theorem slRaw {w : World} {v : Value} {xs : List Raw} (h : Sl w v xs) {i : Nat} (hi : i < xs.length) : mem w ((slAt v).add i) = xs[i].v ∧ has1 w ((slAt v).add i) := by
  obtain ⟨cs, rfl, ha⟩ := h.at_ i hi
  have h1 := ha.mem (j := 0) (by simp)
  have h2 := ha.has (j := 0) (by simp)
  rw [add_zero, show i * Enc.n Raw = i from Nat.mul_one i] at h1 h2
  exact ⟨h1, h2⟩
/-- a function that answers a bool and leaves what was -/
def Pred (P : Program) (f : Value) (args : List Value) (w : World) (b : Bool) : Prop := ∀ w1, Ext w w1 → CallW P f args w1 fun v w2 => v = .bool b ∧ Ext w1 w2
def anyN (n : Nat) (p : Nat → Bool) : Bool := (List.range n).any p
theorem anyN_false {n : Nat} {p : Nat → Bool} (h : ∀ k, k < n → p k = false) : anyN n p = false := by
  unfold anyN; rw [List.any_eq_false]; intro k hk; rw [h k (by simpa using hk)]; simp
theorem anyN_true {n k : Nat} {p : Nat → Bool} (hk : k < n) (h : p k = true) : anyN n p = true := by
  unfold anyN; rw [List.any_eq_true]; exact ⟨k, by simpa using hk, h⟩
theorem bkBetween (n a b : Int) (w : World) : Calls Tryz.prog 125 #[.int .i64 n, .int .i64 a, .int .i64 b] w fun e w' => e = .returned (.bool (decide (a ≤ n ∧ n ≤ b))) ∧ Ext w w' := by
  refine Calls_of_Run (args := [.int .i64 n, .int .i64 a, .int .i64 b]) (n := 15) (rs := [.tmp 6]) Tryz.func125 rfl rfl rfl (by simp) ?_
  (repeat with_reducible first | refine js ?_ | refine ja ?_ | refine jw KL125 [] TF125 fun _ => ?_)
  refine Run_ret ?_
  simp [Rets, RetM, resV, fnd, oneOr, Ext.refl]
section
variable (m : MoveD)
def cond1 : Bool := decide (0 ≤ m.From ∧ m.From ≤ 114) && decide (0 ≤ m.To ∧ m.To ≤ 114)
def cond2 : Bool := m.From != m.To
def cond3 : Bool := decide (0 ≤ m.Amount ∧ m.Amount ≤ 1099511627776)
def cond4 : Bool := decide (1 ≤ m.Why ∧ m.Why ≤ 9)
def cond5 : Bool := decide (-1 ≤ m.Run ∧ m.Run ≤ 1999)
end
theorem bkC1 (m : MoveD) (w : World) : Calls Tryz.prog 133 #[.agg m.cs.toArray] w fun e w' => e = .returned (.bool (cond1 m)) ∧ Ext w w' := by
  refine Calls_of_Run (args := [.agg m.cs.toArray]) (n := 11) (rs := [.tmp 2]) Tryz.func133 rfl rfl rfl (by simp) ?_
  (repeat with_reducible first | refine js ?_ | refine ja ?_ | refine jw KL133 [] TF133 fun _ => ?_)
  refine SemW_box fun p w1 hN => ?_
  have g1 := hN.at_.n
  simp only [MoveD.cs, AtN, KS, Nat.reduceAdd, Nat.reduceMul, Nat.reduceEqDiff, ↓reduceIte, UT] at g1
  (repeat with_reducible first | refine js ?_ | refine ja ?_ | refine jw KL133 [] (aa TF133 g1) fun _ => ?_)
  refine CallW_pure call125 (bkBetween _ _ _ w1) fun w2 x2 => ?_
  have g2 := (hN.at_.ext x2).n
  simp only [MoveD.cs, AtN, KS, Nat.reduceAdd, Nat.reduceMul, Nat.reduceEqDiff, ↓reduceIte, UT] at g2
  (repeat with_reducible first | refine js ?_ | refine ja ?_ | refine jw KL133 [] (aa TF133 g2) fun _ => ?_)
  refine .inr ⟨.bool (decide (0 ≤ m.To ∧ m.To ≤ 114)), fun _ => PC_pure call125 fun w3 x3 => bkBetween _ _ _ w3, fun w3 x3 => ?_⟩
  unfold hush
  (repeat with_reducible first | refine js ?_ | refine ja ?_ | refine jw KL133 [] TF133 fun _ => ?_)
  refine Run_ret ?_
  simp [Rets, RetM, resV, fnd, oneOr, cond1]
  exact hN.ext.trans (x2.trans x3)
theorem bkC2 (m : MoveD) (w : World) : Calls Tryz.prog 134 #[.agg m.cs.toArray] w fun e w' => e = .returned (.bool (cond2 m)) ∧ Ext w w' := by
  refine Calls_of_Run (args := [.agg m.cs.toArray]) (n := 8) (rs := [.tmp 2]) Tryz.func134 rfl rfl rfl (by simp) ?_
  (repeat with_reducible first | refine js ?_ | refine ja ?_ | refine jw KL134 [] TF134 fun _ => ?_)
  refine SemW_box fun p w1 hN => ?_
  have g1 := hN.at_.n
  simp only [MoveD.cs, AtN, KS, Nat.reduceAdd, Nat.reduceMul, Nat.reduceEqDiff, ↓reduceIte, UT] at g1
  (repeat with_reducible first | refine js ?_ | refine ja ?_ | refine jw KL134 [] (aa TF134 g1) fun _ => ?_)
  refine Run_ret ?_
  simp [Rets, RetM, resV, fnd, oneOr, cond2]
  exact hN.ext
theorem bkC3 (m : MoveD) (w : World) : Calls Tryz.prog 135 #[.agg m.cs.toArray] w fun e w' => e = .returned (.bool (cond3 m)) ∧ Ext w w' := by
  refine Calls_of_Run (args := [.agg m.cs.toArray]) (n := 6) (rs := [.tmp 2]) Tryz.func135 rfl rfl rfl (by simp) ?_
  (repeat with_reducible first | refine js ?_ | refine ja ?_ | refine jw KL135 [] TF135 fun _ => ?_)
  refine SemW_box fun p w1 hN => ?_
  have g1 := hN.at_.n
  simp only [MoveD.cs, AtN, KS, Nat.reduceAdd, Nat.reduceMul, Nat.reduceEqDiff, ↓reduceIte, UT] at g1
  (repeat with_reducible first | refine js ?_ | refine ja ?_ | refine jw KL135 [] (aa TF135 g1) fun _ => ?_)
  refine CallW_pure call125 (bkBetween _ _ _ w1) fun w2 x2 => ?_
  (repeat with_reducible first | refine js ?_ | refine ja ?_ | refine jw KL135 [] TF135 fun _ => ?_)
  refine Run_ret ?_
  simp [Rets, RetM, resV, fnd, oneOr, cond3]
  exact hN.ext.trans x2
theorem bkC4 (m : MoveD) (w : World) : Calls Tryz.prog 136 #[.agg m.cs.toArray] w fun e w' => e = .returned (.bool (cond4 m)) ∧ Ext w w' := by
  refine Calls_of_Run (args := [.agg m.cs.toArray]) (n := 6) (rs := [.tmp 2]) Tryz.func136 rfl rfl rfl (by simp) ?_
  (repeat with_reducible first | refine js ?_ | refine ja ?_ | refine jw KL136 [] TF136 fun _ => ?_)
  refine SemW_box fun p w1 hN => ?_
  have g1 := hN.at_.n
  simp only [MoveD.cs, AtN, KS, Nat.reduceAdd, Nat.reduceMul, Nat.reduceEqDiff, ↓reduceIte, UT] at g1
  (repeat with_reducible first | refine js ?_ | refine ja ?_ | refine jw KL136 [] (aa TF136 g1) fun _ => ?_)
  refine CallW_pure call125 (bkBetween _ _ _ w1) fun w2 x2 => ?_
  (repeat with_reducible first | refine js ?_ | refine ja ?_ | refine jw KL136 [] TF136 fun _ => ?_)
  refine Run_ret ?_
  simp [Rets, RetM, resV, fnd, oneOr, cond4]
  exact hN.ext.trans x2
theorem bkC5 (m : MoveD) (w : World) : Calls Tryz.prog 137 #[.agg m.cs.toArray] w fun e w' => e = .returned (.bool (cond5 m)) ∧ Ext w w' := by
  refine Calls_of_Run (args := [.agg m.cs.toArray]) (n := 6) (rs := [.tmp 2]) Tryz.func137 rfl rfl rfl (by simp) ?_
  (repeat with_reducible first | refine js ?_ | refine ja ?_ | refine jw KL137 [] TF137 fun _ => ?_)
  refine SemW_box fun p w1 hN => ?_
  have g1 := hN.at_.n
  simp only [MoveD.cs, AtN, KS, Nat.reduceAdd, Nat.reduceMul, Nat.reduceEqDiff, ↓reduceIte, UT] at g1
  (repeat with_reducible first | refine js ?_ | refine ja ?_ | refine jw KL137 [] (aa TF137 g1) fun _ => ?_)
  refine CallW_pure call125 (bkBetween _ _ _ w1) fun w2 x2 => ?_
  (repeat with_reducible first | refine js ?_ | refine ja ?_ | refine jw KL137 [] TF137 fun _ => ?_)
  refine Run_ret ?_
  simp [Rets, RetM, resV, fnd, oneOr, cond5]
  exact hN.ext.trans x2
abbrev fnv (k : Nat) : Value := .func (.func k) #[] #[]
def conds : List Raw := [⟨fnv 133⟩, ⟨fnv 134⟩, ⟨fnv 135⟩, ⟨fnv 136⟩, ⟨fnv 137⟩]
theorem bkConds (w : World) : Calls Tryz.prog 89 #[] w fun e w' => ∃ v, e = .returned v ∧ Ext w w' ∧ Sl w' v conds := by
  refine Calls_of_Run (args := []) (n := 2) (rs := [.tmp 0]) Tryz.func89 rfl rfl rfl (by simp) ?_
  (repeat with_reducible first | refine js ?_ | refine ja ?_ | refine jw KL89 [] TF89 fun _ => ?_)
  refine SemW_buildSlice (vs := conds.map Raw.v) Tryz.underlying141 ti125 rfl rfl rfl (by simp [conds, Value.cells]) (by decide) fun p w1 hN => ?_
  (repeat with_reducible first | refine js ?_ | refine ja ?_ | refine jw KL89 [] TF89 fun _ => ?_)
  refine Run_ret ?_
  simp [Rets, RetM, resV, fnd, oneOr]
  exact ⟨hN.ext, Sl.flat (xs := conds) hN (fun i hi => by
    have : i = 0 ∨ i = 1 ∨ i = 2 ∨ i = 3 ∨ i = 4 := by simp [conds] at hi; omega
    rcases this with rfl | rfl | rfl | rfl | rfl <;> rfl) (by decide)⟩
theorem idxRaw (vs fv : Value) (xs : List Raw) (p : Nat → Bool) (w : World) (hs : Sl w vs xs) (hp : ∀ k (hk : k < xs.length), Pred Tryz.prog fv [xs[k].v] w (p k)) :
    Calls Tryz.prog 138 #[vs, fv] w fun e w' => ∃ r, e = .returned (.int .i64 r) ∧ Ext w w' ∧ decide (0 ≤ r) = anyN xs.length p := by
  have hn := hs.small
  refine Calls_of_Run (args := [vs, fv]) (n := 19) (rs := [.tmp 4]) Tryz.func138 rfl rfl rfl (by simp) ?_
  (repeat with_reducible first | refine js ?_ | refine ja ?_ | refine jw KL138 [] (aa TF138 (aa hs.s hs.len)) fun _ => ?_)
  refine Run_loopV [4, 5, 8, 9, 16] (σ := Nat) (fun k => [(8, some (.int .i64 k))]) (fun k w' => k ≤ xs.length ∧ (∀ j, j < k → p j = false) ∧ Ext w w') (fun k => xs.length - k) 0 (by simp [SubB, fnd]) ⟨by omega, by simp, Ext.refl _⟩ ?_
  rintro k w1 ⟨hk, hf, x1⟩
  (repeat with_reducible first | refine js ?_ | refine ja ?_ | refine jw KL138 [] TF138 fun _ => ?_)
  refine Run_condS (fun _ => rfl) (fun h => ?_) (fun h => ?_)
  · simp at h
    obtain ⟨f1, f2⟩ := slRaw (hs.ext x1) h
    (repeat with_reducible first | refine js ?_ | refine ja ?_ | refine jw KL138 [] (aa TF138 (aa hs.s (aa hs.len (aa f1 f2)))) fun _ => ?_)
    refine (hp k h w1 x1).mono fun v w2 ⟨hv, x2⟩ => ?_
    subst hv
    (repeat with_reducible first | refine js ?_ | refine ja ?_ | refine jw KL138 [] TF138 fun _ => ?_)
    refine Run_condS (fun _ => rfl) (fun h => ?_) (fun h => ?_)
    · (repeat with_reducible first | refine js ?_ | refine ja ?_ | refine jw KL138 [] TF138 fun _ => ?_)
      refine Run_ret ?_
      simp [Rets, RetM, resV, fnd, oneOr, anyN_true (by assumption) (by assumption : p k = true)]
      exact x1.trans x2
    · (repeat with_reducible first | refine js ?_ | refine ja ?_ | refine jw KL138 [] TF138 fun _ => ?_)
      refine Run_lp ⟨k + 1, ?_, ⟨by omega, fun j hj => ?_, x1.trans x2⟩, by omega⟩
      · simp [SubB, fnd, strike, has]
      · by_cases e : j = k
        · subst e; assumption
        · exact hf j (by omega)
  · simp at h
    obtain rfl : k = xs.length := by omega
    (repeat with_reducible first | refine js ?_ | refine ja ?_ | refine jw KL138 [] TF138 fun _ => ?_)
    refine Run_ret ?_
    simp [Rets, RetM, resV, fnd, oneOr, anyN_false hf, x1]
theorem hasRaw (vs fv : Value) (xs : List Raw) (p : Nat → Bool) (w : World) (hs : Sl w vs xs) (hp : ∀ k (hk : k < xs.length), Pred Tryz.prog fv [xs[k].v] w (p k)) :
    Calls Tryz.prog 90 #[vs, fv] w fun e w' => e = .returned (.bool (anyN xs.length p)) ∧ Ext w w' := by
  refine Calls_of_Run (args := [vs, fv]) (n := 9) (rs := [.tmp 4]) Tryz.func90 rfl rfl rfl (by simp) ?_
  (repeat with_reducible first | refine js ?_ | refine ja ?_ | refine jw KL90 [] TF90 fun _ => ?_)
  refine CallW_gen call138 (idxRaw vs fv xs p w hs hp) fun e w1 ⟨r, he, x1, hr⟩ => ⟨_, he, ?_⟩
  (repeat with_reducible first | refine js ?_ | refine ja ?_ | refine jw KL90 [] TF90 fun _ => ?_)
  refine Run_ret ?_
  simp [Rets, RetM, resV, fnd, oneOr, x1]
  simpa using hr
end Go.Proofs.YtoadfmgnpmcbfaaGreat
/- Books (chapter 38), for other seats: the two Checks; Start. -/
namespace Go.Proofs.YtoadfmgnpmcbfaaGreat
open Go Go.Fk
set_option linter.unusedSimpArgs false
set_option linter.unusedVariables false
set_option maxRecDepth 100000
theorem Pred_fn {g : FuncId} {args : List Value} {w : World} {b : Bool} (hc : callable Tryz.prog g = true) (h : ∀ w, Calls Tryz.prog g args.toArray w fun e w' => e = .returned (.bool b) ∧ Ext w w') : Pred Tryz.prog (fnv g) args w b :=
  fun w1 _ => CallW_pure hc (h w1) fun w2 x2 => ⟨rfl, x2⟩
/-- a function that has captured values -/
theorem CallW_cap {g : FuncId} {args cap : List Value} {w : World} {K : Value → World → Prop} {v : Value} (hc : callable Tryz.prog g = true) (h : Calls Tryz.prog g (args ++ cap).toArray w fun e w' => e = .returned v ∧ Ext w w') (hK : ∀ w', Ext w w' → K v w') :
    CallW Tryz.prog (.func (.func g) #[] cap.toArray) args w K := by
  refine ⟨hc, ?_⟩
  have e : (#[] ++ args.toArray ++ cap.toArray : Array Value) = (args ++ cap).toArray := by simp
  rw [e]
  exact h.mono fun e w' ⟨he, hw⟩ => ⟨v, he, hK w' hw⟩
def condN (m : MoveD) : Nat → Bool
  | 0 => cond1 m
  | 1 => cond2 m
  | 2 => cond3 m
  | 3 => cond4 m
  | _ => cond5 m
theorem mOk_eq (m : MoveD) (i : Int) : Bk.mOk m i = (decide (m.No = i) && !anyN 5 (fun k => !condN m k)) := by
  have : anyN 5 (fun k => !condN m k) = (!cond1 m || (!cond2 m || (!cond3 m || (!cond4 m || !cond5 m)))) := by simp [anyN, List.range, List.range.loop, condN]
  rw [this, Bool.eq_iff_iff]
  simp [Bk.mOk, cond1, cond2, cond3, cond4, cond5]
  omega
theorem predC (m : MoveD) (w : World) (k : Nat) (hk : k < conds.length) : Pred Tryz.prog conds[k].v [.agg m.cs.toArray] w (condN m k) := by
  have : k = 0 ∨ k = 1 ∨ k = 2 ∨ k = 3 ∨ k = 4 := by simp [conds] at hk; omega
  rcases this with rfl | rfl | rfl | rfl | rfl
  · exact Pred_fn call133 (bkC1 m)
  · exact Pred_fn call134 (bkC2 m)
  · exact Pred_fn call135 (bkC3 m)
  · exact Pred_fn call136 (bkC4 m)
  · exact Pred_fn call137 (bkC5 m)
theorem bkCheck1 (fv : Value) (b : Bool) (p : Addr) (m : MoveD) (w : World) (ha : At w p m.cs) (hp : Pred Tryz.prog fv [.agg m.cs.toArray] w b) :
    Calls Tryz.prog 91 #[fv, .pointer (some p)] w fun e w' => e = .returned (.bool (!b)) ∧ Ext w w' := by
  have g1 := ha.n
  simp only [MoveD.cs, AtN, KS, Nat.reduceAdd, Nat.reduceMul, Nat.reduceEqDiff, ↓reduceIte, UT] at g1
  refine Calls_of_Run (args := [fv, .pointer (some p)]) (n := 8) (rs := [.tmp 3]) Tryz.func91 rfl rfl rfl (by simp) ?_
  (repeat with_reducible first | refine js ?_ | refine ja ?_ | refine jw KL91 [] (aa TF91 g1) fun _ => ?_)
  refine (hp w (Ext.refl w)).mono fun v w1 ⟨hv, x1⟩ => ?_
  subst hv
  (repeat with_reducible first | refine js ?_ | refine ja ?_ | refine jw KL91 [] TF91 fun _ => ?_)
  refine Run_ret ?_
  simp [Rets, RetM, resV, fnd, oneOr, x1]
theorem bkCheck (va : Value) (l : List MoveD) (w : World) (hx : Sl w va l) :
    Calls Tryz.prog 39 #[va] w fun e w' => e = .returned (.int .i64 (Bk.chk l)) ∧ Ext w w' := by
  refine Calls_of_Run (args := [va]) (n := 27) (rs := [.tmp 2]) Tryz.func39 rfl rfl rfl (by simp) ?_
  (repeat with_reducible first | refine js ?_ | refine ja ?_ | refine jw KL39 [] (aa TF39 (aa hx.s hx.len)) fun _ => ?_)
  refine Run_condS (fun _ => rfl) (fun h => ?_) (fun h => ?_)
  · (repeat with_reducible first | refine js ?_ | refine ja ?_ | refine jw KL39 [] TF39 fun _ => ?_)
    refine Run_ret ?_
    simp at h
    simp [Rets, RetM, resV, fnd, oneOr, Ext.refl, Bk.chk]
    omega
  · simp at h
    have hc : Bk.chk l = if Bk.allOk 0 l then 0 else 380 := by unfold Bk.chk; rw [if_neg (by omega)]
    (repeat with_reducible first | refine js ?_ | refine ja ?_ | refine jw KL39 [] TF39 fun _ => ?_)
    refine CallW_gen call89 (bkConds _) fun e w1 ⟨vc, he, x1, sc⟩ => ⟨_, he, ?_⟩
    (repeat with_reducible first | refine js ?_ | refine ja ?_ | refine jw KL39 [] (aa TF39 (aa hx.s hx.len)) fun _ => ?_)
    refine Run_loopV [2, 4, 5, 12, 13, 25] (σ := Nat) (fun k => [(12, some (.int .i64 k))]) (fun k w' => k ≤ l.length ∧ Bk.allOk 0 l = Bk.allOk k (l.drop k) ∧ Ext w1 w') (fun k => l.length - k) 0 (by simp [SubB, fnd]) ⟨by omega, by simp, Ext.refl _⟩ ?_
    rintro k w2 ⟨hk, ht, x2⟩
    have y2 := x1.trans x2
    (repeat with_reducible first | refine js ?_ | refine ja ?_ | refine jw KL39 [] TF39 fun _ => ?_)
    refine Run_condS (fun _ => rfl) (fun h => ?_) (fun h => ?_)
    · simp at h
      obtain ⟨f1, f2⟩ := (hx.ext y2).moveD h
      rw [Bk.allOk_drop (by assumption), mOk_eq] at ht
      generalize hm : l[k] = m at *
      simp only [MoveD.cs, AtN, KS, Nat.reduceAdd, Nat.reduceMul, Nat.reduceEqDiff, ↓reduceIte, UT] at f1
      (repeat with_reducible first | refine js ?_ | refine ja ?_ | refine jw KL39 [] (aa TF39 (aa hx.s (aa hx.len f1))) fun _ => ?_)
      refine SemW_var ti70 rfl rfl (by decide) rfl fun p w3 hN => ?_
      have g1 := hN.at_.n
      simp only [AtN, KS, Nat.reduceAdd, Nat.reduceMul, Nat.reduceEqDiff, ↓reduceIte, UT] at g1
      have y3 := y2.trans hN.ext
      (repeat with_reducible first | refine js ?_ | refine ja ?_ | refine jw KL39 [] (aa TF39 g1) fun _ => ?_)
      refine .inr ⟨.bool (anyN 5 fun k => !condN m k), fun _ => PC_pure call90 fun w4 x4 => ?_, fun w4 x4 => ?_⟩
      · refine hasRaw vc _ conds (fun k => !condN m k) w4 (sc.ext (x2.trans (hN.ext.trans x4))) fun j hj w5 x5 => ?_
        refine CallW_cap (cap := [.pointer (some p)]) call91 (bkCheck1 _ (condN m j) p m w5 (hN.at_.ext (x4.trans x5)) (predC m w5 j hj)) fun w6 x6 => ⟨rfl, x6⟩
      unfold hush
      (repeat with_reducible first | refine js ?_ | refine ja ?_ | refine jw KL39 [] (aa TF39 g1) fun _ => ?_)
      refine Run_condS (fun _ => rfl) (fun h => ?_) (fun h => ?_)
      · (repeat with_reducible first | refine js ?_ | refine ja ?_ | refine jw KL39 [] TF39 fun _ => ?_)
        refine Run_ret ?_
        have : Bk.chk l = 380 := by
          rw [hc, ht]
          simp at h
          rcases h with h | h
          · simp [h]
          · simp [h]
        simp [Rets, RetM, resV, fnd, oneOr, this]
        exact y3.trans x4
      · (repeat with_reducible first | refine js ?_ | refine ja ?_ | refine jw KL39 [] TF39 fun _ => ?_)
        refine Run_lp ⟨k + 1, ?_, ⟨by omega, ?_, x2.trans (hN.ext.trans x4)⟩, by omega⟩
        · simp [SubB, fnd, strike, has]
        · rw [ht]
          simp at h
          simp [h]
    · simp at h
      obtain rfl : k = l.length := by omega
      (repeat with_reducible first | refine js ?_ | refine ja ?_ | refine jw KL39 [] TF39 fun _ => ?_)
      refine Run_ret ?_
      have : Bk.chk l = 0 := by rw [hc, ht]; simp [Bk.allOk]
      simp [Rets, RetM, resV, fnd, oneOr, this]
      exact y2
end Go.Proofs.YtoadfmgnpmcbfaaGreat
/- Books (chapter 38), for other seats: open, paid, the function that yields balances. -/
namespace Go.Proofs.YtoadfmgnpmcbfaaGreat
open Go Go.Fk
set_option linter.unusedSimpArgs false
set_option linter.unusedVariables false
set_option maxRecDepth 100000
theorem idxInt (vs fv : Value) (xs : List Int) (p : Nat → Bool) (w : World) (hs : Sl w vs xs) (hp : ∀ k (hk : k < xs.length), Pred Tryz.prog fv [.int .i64 xs[k]] w (p k)) :
    Calls Tryz.prog 173 #[vs, fv] w fun e w' => ∃ r, e = .returned (.int .i64 r) ∧ Ext w w' ∧ decide (0 ≤ r) = anyN xs.length p := by
  have hn := hs.small
  refine Calls_of_Run (args := [vs, fv]) (n := 19) (rs := [.tmp 4]) Tryz.func173 rfl rfl rfl (by simp) ?_
  (repeat with_reducible first | refine js ?_ | refine ja ?_ | refine jw KL173 [] (aa TF173 (aa hs.s hs.len)) fun _ => ?_)
  refine Run_loopV [4, 5, 8, 9, 16] (σ := Nat) (fun k => [(8, some (.int .i64 k))]) (fun k w' => k ≤ xs.length ∧ (∀ j, j < k → p j = false) ∧ Ext w w') (fun k => xs.length - k) 0 (by simp [SubB, fnd]) ⟨by omega, by simp, Ext.refl _⟩ ?_
  rintro k w1 ⟨hk, hf, x1⟩
  (repeat with_reducible first | refine js ?_ | refine ja ?_ | refine jw KL173 [] TF173 fun _ => ?_)
  refine Run_condS (fun _ => rfl) (fun h => ?_) (fun h => ?_)
  · simp at h
    obtain ⟨f1, f2, f3⟩ := (hs.ext x1).get h
    (repeat with_reducible first | refine js ?_ | refine ja ?_ | refine jw KL173 [] (aa TF173 (aa hs.s (aa hs.len (aa f1 f2)))) fun _ => ?_)
    refine (hp k h w1 x1).mono fun v w2 ⟨hv, x2⟩ => ?_
    subst hv
    (repeat with_reducible first | refine js ?_ | refine ja ?_ | refine jw KL173 [] TF173 fun _ => ?_)
    refine Run_condS (fun _ => rfl) (fun h => ?_) (fun h => ?_)
    · (repeat with_reducible first | refine js ?_ | refine ja ?_ | refine jw KL173 [] TF173 fun _ => ?_)
      refine Run_ret ?_
      simp [Rets, RetM, resV, fnd, oneOr, anyN_true (by assumption) (by assumption : p k = true)]
      exact x1.trans x2
    · (repeat with_reducible first | refine js ?_ | refine ja ?_ | refine jw KL173 [] TF173 fun _ => ?_)
      refine Run_lp ⟨k + 1, ?_, ⟨by omega, fun j hj => ?_, x1.trans x2⟩, by omega⟩
      · simp [SubB, fnd, strike, has]
      · by_cases e : j = k
        · subst e; assumption
        · exact hf j (by omega)
  · simp at h
    obtain rfl : k = xs.length := by omega
    (repeat with_reducible first | refine js ?_ | refine ja ?_ | refine jw KL173 [] TF173 fun _ => ?_)
    refine Run_ret ?_
    simp [Rets, RetM, resV, fnd, oneOr, anyN_false hf, x1]
theorem hasInt (vs fv : Value) (xs : List Int) (p : Nat → Bool) (w : World) (hs : Sl w vs xs) (hp : ∀ k (hk : k < xs.length), Pred Tryz.prog fv [.int .i64 xs[k]] w (p k)) :
    Calls Tryz.prog 126 #[vs, fv] w fun e w' => e = .returned (.bool (anyN xs.length p)) ∧ Ext w w' := by
  refine Calls_of_Run (args := [vs, fv]) (n := 9) (rs := [.tmp 4]) Tryz.func126 rfl rfl rfl (by simp) ?_
  (repeat with_reducible first | refine js ?_ | refine ja ?_ | refine jw KL126 [] TF126 fun _ => ?_)
  refine CallW_gen call173 (idxInt vs fv xs p w hs hp) fun e w1 ⟨r, he, x1, hr⟩ => ⟨_, he, ?_⟩
  (repeat with_reducible first | refine js ?_ | refine ja ?_ | refine jw KL126 [] TF126 fun _ => ?_)
  refine Run_ret ?_
  simp [Rets, RetM, resV, fnd, oneOr, x1]
  simpa using hr
theorem anyN_list {xs : List Int} {q : Int → Bool} {p : Nat → Bool} (h : ∀ k (hk : k < xs.length), p k = q xs[k]) : anyN xs.length p = xs.any q := by
  rw [Bool.eq_iff_iff]
  simp only [anyN, List.any_eq_true, List.mem_range]
  constructor
  · rintro ⟨k, hk, hp⟩; exact ⟨xs[k], List.getElem_mem hk, by rw [← h k hk]; exact hp⟩
  · rintro ⟨x, hx, hq⟩
    obtain ⟨k, hk, rfl⟩ := List.getElem_of_mem hx
    exact ⟨k, hk, by rw [h k hk]; exact hq⟩
theorem bkOpen1 (n : Int) (w : World) : Calls Tryz.prog 124 #[.int .i64 n] w fun e w' => e = .returned (.bool (!decide (0 ≤ n ∧ n ≤ 1125899906842624))) ∧ Ext w w' := by
  refine Calls_of_Run (args := [.int .i64 n]) (n := 6) (rs := [.tmp 2]) Tryz.func124 rfl rfl rfl (by simp) ?_
  (repeat with_reducible first | refine js ?_ | refine ja ?_ | refine jw KL124 [] TF124 fun _ => ?_)
  refine CallW_pure call125 (bkBetween _ _ _ w) fun w1 x1 => ?_
  (repeat with_reducible first | refine js ?_ | refine ja ?_ | refine jw KL124 [] TF124 fun _ => ?_)
  refine Run_ret ?_
  simp [Rets, RetM, resV, fnd, oneOr, x1]
def zeros : List Int := List.replicate 115 0
theorem c45 : Tryz.prog.cellsOf 119 ≠ 0 := by rw [cells119]; decide
theorem m45 : manyCell Tryz.prog 119 = true := by kernel_rfl
theorem one_ints (l : List Int) : (ints l).all Value.oneCell' = true := by
  induction l with
  | nil => rfl
  | cons x l ih => simp [Value.oneCell']
theorem bkOpen (va vb : Value) (s : List Int) (l : List MoveD) (w : World) (hx : Sl w va s) (hy : Sl w vb l) :
    Calls Tryz.prog 70 #[va, vb] w fun e w' => ∃ b : List Int, e = .returned (.tuple #[.agg (ints b).toArray, .int .i64 (Bk.wrong s l)]) ∧ b.length = 115 ∧ (Bk.wrong s l = 0 → b = s) ∧ Ext w w' := by
  refine Calls_of_Run (args := [va, vb]) (n := 27) (rs := [.cell 4 119, .tmp 5]) Tryz.func70 rfl rfl rfl (by simp) ?_
  (repeat with_reducible first | refine js ?_ | refine ja ?_ | refine jw KL70 [] TF70 fun _ => ?_)
  refine SemW_allocT ti119 fun p w1 hN => ?_
  have r1 : Row w1 p 119 (ints zeros) := by
    have := hN.row
    simpa [zeros, Value.cells] using this
  have x1 := hN.ext
  have b1 := hN.blk
  (repeat with_reducible first | refine js ?_ | refine ja ?_ | refine jw KL70 [] TF70 fun _ => ?_)
  refine CallW_pure call39 (bkCheck vb l w1 (hy.ext x1)) fun w2 x2 => ?_
  have r2 := r1.ext x2
  have y2 := x1.trans x2
  have hz : zeros.length = 115 := by simp [zeros]
  obtain ⟨g1, g2⟩ := at_memA r2.at_ (n := 115) (by simpa using hz)
  (repeat with_reducible first | refine js ?_ | refine ja ?_ | refine jw KL70 [] TF70 fun _ => ?_)
  have fin : ∀ (e : Int) (w3 : World) (b : List Int), e = Bk.wrong s l → b.length = 115 → (e = 0 → b = s) → Ext w w3 → Row w3 p 119 (ints b) →
      ∀ L ds, fnd L 4 = some (.pointer (some p)) → fnd L 5 = some (.int .i64 e) → ds = [] → Rets Tryz.prog [.cell 4 119, .tmp 5] (fun v w' => ∃ b : List Int, Ending.returned v = .returned (.tuple #[.agg (ints b).toArray, .int .i64 (Bk.wrong s l)]) ∧ b.length = 115 ∧ (Bk.wrong s l = 0 → b = s) ∧ Ext w w') .ret ds L w3 := by
    rintro e w3 b rfl h1 h2 x3 r3 L ds hL1 hL2 rfl
    simp only [Rets, RetM, resV]
    exact ⟨p, _, hL1, loadVar_at m45 c45 (by rw [cells119, ints_len, h1]) r3.at_, _, hL2, b, rfl, h1, h2, x3⟩
  refine Run_condS (fun _ => rfl) (fun h => ?_) (fun h => ?_)
  · simp at h
    (repeat with_reducible first | refine js ?_ | refine ja ?_ | refine jw KL70 [] (aa TF70 (aa g1 g2)) fun _ => ?_)
    refine SemW_setW c45 (by simp [Value.cells, hz, cells119]) r2 (by simp [hz, cells119]) (by simpa [Value.cells] using one_ints zeros) fun w3 r3 k3 s3 => ?_
    (repeat with_reducible first | refine js ?_ | refine ja ?_ | refine jw KL70 [] TF70 fun _ => ?_)
    refine Run_ret (fin (Bk.chk l) w3 zeros (by unfold Bk.wrong; rw [if_pos h]) hz (fun e => (h e).elim) (Keep.ext y2 k3 fun k hk => by omega) (by simpa [Value.cells] using r3) _ [] rfl rfl rfl)
  · simp at h
    (repeat with_reducible first | refine js ?_ | refine ja ?_ | refine jw KL70 [] (aa TF70 (aa hx.s hx.len)) fun _ => ?_)
    refine .inr ⟨.bool (s.any fun n => !decide (0 ≤ n ∧ n ≤ 1125899906842624)), fun _ => PC_pure call126 fun w3 x3 => ?_, fun w3 x3 => ?_⟩
    · have := hasInt va (fnv 124) s (fun k => !decide (0 ≤ s.getD k 0 ∧ s.getD k 0 ≤ 1125899906842624)) w3 (hx.ext (y2.trans x3)) fun k hk => by
        have e : s.getD k 0 = s[k] := by simp [List.getD_eq_getElem?_getD, hk]
        rw [e]
        exact Pred_fn call124 (bkOpen1 s[k])
      rwa [anyN_list (q := fun n => !decide (0 ≤ n ∧ n ≤ 1125899906842624)) fun k hk => by simp [List.getD_eq_getElem?_getD, hk]] at this
    unfold hush
    have r3 := r2.ext x3
    have y3 := y2.trans x3
    obtain ⟨g3, g4⟩ := at_memA r3.at_ (n := 115) (by simpa using hz)
    (repeat with_reducible first | refine js ?_ | refine ja ?_ | refine jw KL70 [] (aa TF70 (aa hx.s hx.len)) fun _ => ?_)
    have hst : Bk.startOk s = !(decide ((s.length : Int) ≠ 115) || s.any fun n => !decide (0 ≤ n ∧ n ≤ 1125899906842624)) := by
      rw [Bool.eq_iff_iff]
      simp [Bk.startOk]
      omega
    refine Run_condS (fun _ => rfl) (fun h => ?_) (fun h => ?_)
    · (repeat with_reducible first | refine js ?_ | refine ja ?_ | refine jw KL70 [] (aa TF70 (aa g3 g4)) fun _ => ?_)
      refine SemW_setW c45 (by simp [Value.cells, hz, cells119]) r3 (by simp [hz, cells119]) (by simpa [Value.cells] using one_ints zeros) fun w4 r4 k4 s4 => ?_
      (repeat with_reducible first | refine js ?_ | refine ja ?_ | refine jw KL70 [] TF70 fun _ => ?_)
      have hf : Bk.startOk s = false := by
        rw [hst]; simp at h ⊢; intro e
        rcases h with h | h
        · exact (h e).elim
        · exact h
      refine Run_ret (fin 1 w4 zeros (by unfold Bk.wrong; rw [if_neg (by omega), hf]; rfl) hz (fun e => by cases e) (Keep.ext y3 k4 fun k hk => by omega) (by simpa [Value.cells] using r4) _ [] rfl rfl rfl)
    · have hf : Bk.startOk s = true := by rw [hst]; simp at h ⊢; exact h
      have h115 : s.length = 115 := by simp only [Bk.startOk, Bool.and_eq_true, decide_eq_true_eq] at hf; exact hf.1
      have hat : At w3 (slAt va) (ints s) := by
        obtain ⟨css, hc, ha⟩ := (hx.ext y3).cells
        have : ∀ (css : List (List Value)) (s : List Int), Cs w3 css s → css.flatten = ints s := by
          intro css
          induction css with
          | nil => intro s hc; have := hc.len; simp at this; have := List.eq_nil_of_length_eq_zero this.symm; subst this; rfl
          | cons c css ih =>
            intro s hc
            cases s with
            | nil => have := hc.len; simp at this
            | cons x s =>
              have h0 := hc.rep 0 (by simp) (by simp)
              simp only [List.getElem_cons_zero] at h0
              rw [List.flatten_cons, h0.1, ih s hc.tail]; rfl
        rwa [this css s hc] at ha
      (repeat with_reducible first | refine js ?_ | refine ja ?_ | refine jw KL70 [] TF70 fun _ => ?_)
      refine SemW_copyW (n := 115) (cs := ints s) (vs := ints zeros) Tryz.underlying25 ti3 r3 hx.s (by rw [hx.len, h115]) (by simp [hz]) (fun _ => hat) (by simp [h115]) (one_ints s) fun v w4 r4 k4 s4 => ?_
      obtain ⟨g5, g6⟩ := at_memA r4.at_ (n := 115) (by simpa using h115)
      (repeat with_reducible first | refine js ?_ | refine ja ?_ | refine jw KL70 [] (aa TF70 (aa g5 g6)) fun _ => ?_)
      refine SemW_setW c45 (by simp [Value.cells, h115, cells119]) r4 (by simp [h115, cells119]) (by simpa [Value.cells] using one_ints s) fun w5 r5 k5 s5 => ?_
      (repeat with_reducible first | refine js ?_ | refine ja ?_ | refine jw KL70 [] TF70 fun _ => ?_)
      refine Run_ret (fin 0 w5 s (by unfold Bk.wrong; rw [if_neg (by omega), hf]; rfl) h115 (fun _ => rfl) (Keep.ext (Keep.ext y3 k4 fun k hk => by omega) k5 fun k hk => by omega) (by simpa [Value.cells] using r5) _ [] rfl rfl rfl)
end Go.Proofs.YtoadfmgnpmcbfaaGreat
/- Books (chapter 38), for other seats: paid; the function that yields balances. -/
namespace Go.Proofs.YtoadfmgnpmcbfaaGreat
open Go Go.Fk
set_option linter.unusedSimpArgs false
set_option linter.unusedVariables false
set_option maxRecDepth 100000
theorem lo_get {b : List Int} {k : Int} (h0 : 0 ≤ k) (h : k.toNat < b.length) : b[k.toNat] = Bk.lo b k := by simp [Bk.lo, List.getD_eq_getElem?_getD, h]
theorem bkPaid (p : Addr) (b : List Int) (m : MoveD) (w : World) (ha : At w p (ints b)) (hb : b.length = 115) (h0 : 0 ≤ m.From) (h1 : m.From ≤ 114) :
    Calls Tryz.prog 72 #[.pointer (some p), .agg m.cs.toArray] w fun e w' => e = .returned (.bool (Bk.paid b m)) ∧ Ext w w' := by
  refine Calls_of_Run (args := [.pointer (some p), .agg m.cs.toArray]) (n := 17) (rs := [.tmp 4]) Tryz.func72 rfl rfl rfl (by simp) ?_
  (repeat with_reducible first | refine js ?_ | refine ja ?_ | refine jw KL72 [1] TF72 fun _ => ?_)
  refine SemW_box fun q w1 hN => ?_
  have g1 := hN.at_.n
  simp only [MoveD.cs, AtN, KS, Nat.reduceAdd, Nat.reduceMul, Nat.reduceEqDiff, ↓reduceIte, UT] at g1
  obtain ⟨g2, g3⟩ := at_int (ha.ext hN.ext) (i := m.From.toNat) (by omega)
  rw [lo_get h0 (by omega)] at g3
  (repeat with_reducible first | refine js ?_ | refine ja ?_ | refine jw KL72 [1] (aa TF72 (aa g1 (aa g2 g3))) fun _ => ?_)
  intro w2 x2
  (repeat with_reducible first | refine js ?_ | refine ja ?_ | refine jw KL72 [1] TF72 fun _ => ?_)
  refine Run_ret ?_
  simp [Rets, RetM, resV, fnd, oneOr]
  refine ⟨?_, hN.ext.trans x2⟩
  rw [Bool.eq_iff_iff]; simp [Bk.paid]
/-- the function that steps makes -/
theorem bkSteps (b : List Int) (vl : Value) (w : World) (hb : b.length = 115) (hl : vl.cells = #[vl]) :
    Calls Tryz.prog 71 #[.agg (ints b).toArray, vl] w fun e w' => ∃ pl pb, e = .returned (.func (.func 127) #[] #[.pointer (some pl), .pointer (some pb)]) ∧ Row w' pl 35 [vl] ∧ Row w' pb 119 (ints b) ∧ Ext w w' ∧ w.heap.size ≤ pl.block ∧ w.heap.size ≤ pb.block ∧ pl.block ≠ pb.block := by
  refine Calls_of_Run (args := [.agg (ints b).toArray, vl]) (n := 6) (rs := [.tmp 4]) Tryz.func71 rfl rfl rfl (by simp) ?_
  (repeat with_reducible first | refine js ?_ | refine ja ?_ | refine jw KL71 [] TF71 fun _ => ?_)
  refine SemW_box fun p1 w1 h1 => SemW_box fun p2 w2 h2 => ?_
  (repeat with_reducible first | refine js ?_ | refine ja ?_ | refine jw KL71 [] TF71 fun _ => ?_)
  refine Run_ret ?_
  simp [Rets, RetM, resV, fnd, oneOr]
  have b1 := h1.blk
  have b2 := h2.blk
  have s1 := h1.size
  rw [hl] at h2
  refine ⟨p2, p1, ⟨rfl, rfl⟩, h2.row, ?_, h1.ext.trans h2.ext, by omega, by omega, by omega⟩
  have := h1.row.ext h2.ext
  simpa [Value.cells] using this
def items (s : List Int) (l : List MoveD) : List (List Value) := (List.range l.length).map fun (k : Nat) => [.int .i64 (k : Int), .agg (ints (Bk.after s (l.take (k + 1)))).toArray]
theorem items_len (s : List Int) (l : List MoveD) : (items s l).length = l.length := by simp [items]
theorem items_get {s : List Int} {l : List MoveD} {k : Nat} (h : k < (items s l).length) : (items s l)[k] = [.int .i64 (k : Int), .agg (ints (Bk.after s (l.take (k + 1)))).toArray] := by simp [items]
structure SI (W : World) (pl pb : Addr) (vl : Value) (b : List Int) (J : World → Prop) (w : World) : Prop where
  j : J w
  e : Ext W w
  l : At w pl [vl]
  b : Row w pb 119 (ints b)
theorem stepsIter (W : World) (pl pb : Addr) (vl : Value) (s : List Int) (l : List MoveD) (hx : Sl W vl l) (hs : Bk.startOk s = true) (hl : Bk.allOk 0 l = true) (h4 : l.length ≤ 4096) (kp : Nat → Prop) (hkb : kp pb.block) (hkl : kp pl.block) (hkW : ∀ k, k < W.heap.size → kp k)
    (yv : Value) (J : Nat → World → Prop) (Jx : World → Prop) (w : World) (hc : Cons Tryz.prog yv (items s l) (fun b => b = pb.block) kp J Jx) (hW : Ext W w) (hpl : Row w pl 35 [vl]) (hpb : Row w pb 119 (ints s)) (hlb : pl.block ≠ pb.block) (hWb : W.heap.size ≤ pb.block) (h0 : J 0 w) :
    Calls Tryz.prog 127 #[yv, .pointer (some pl), .pointer (some pb)] w fun e w' => e = .returned (.tuple #[]) ∧ (Jx w' ∨ J (items s l).length w') := by
  have hn := hx.small
  have q1 := hpl.n
  simp only [AtN, add_zero] at q1
  refine Calls_of_Run (args := [yv, .pointer (some pl), .pointer (some pb)]) (n := 35) (rs := []) Tryz.func127 rfl rfl rfl (by simp) ?_
  (repeat with_reducible first | refine js ?_ | refine ja ?_ | (refine jT (id := 3) KL127 6 mixed (by kernel_rfl) (by kernel_rfl) (by kernel_rfl) fun _ => ?_; refine jw KL127 [] (aa TF127 (aa q1.1 (aa q1.2.1 (aa hx.s hx.len)))) fun _ => ?_) | (refine jT (id := 4) KL127 6 mixed (by kernel_rfl) (by kernel_rfl) (by kernel_rfl) fun _ => ?_; refine jw KL127 [] (aa TF127 (aa q1.1 (aa q1.2.1 (aa hx.s hx.len)))) fun _ => ?_) | refine jw KL127 [] (aa TF127 (aa q1.1 (aa q1.2.1 (aa hx.s hx.len)))) fun _ => ?_)
  refine Run_loopV [4, 5, 8, 9, 33] (σ := Nat) (fun k => [(8, some (.int .i64 k))]) (fun k w' => k ≤ l.length ∧ SI W pl pb vl (Bk.after s (l.take k)) (J k) w') (fun k => l.length - k) 0 (by simp [SubB, fnd]) ⟨by omega, h0, hW, hpl.at_, hpb⟩ ?_
  rintro k w1 ⟨hk, hS⟩
  obtain ⟨hlim, hblen⟩ := Bk.lim_after hs hl k hk
  (repeat with_reducible first | refine js ?_ | refine ja ?_ | (refine jT (id := 3) KL127 6 mixed (by kernel_rfl) (by kernel_rfl) (by kernel_rfl) fun _ => ?_; refine jw KL127 [] TF127 fun _ => ?_) | (refine jT (id := 4) KL127 6 mixed (by kernel_rfl) (by kernel_rfl) (by kernel_rfl) fun _ => ?_; refine jw KL127 [] TF127 fun _ => ?_) | refine jw KL127 [] TF127 fun _ => ?_)
  refine Run_condS (fun _ => rfl) (fun h => ?_) (fun h => ?_)
  · simp at h
    have hkl' := h
    obtain ⟨f1, f2⟩ := (hx.ext hS.e).moveD h
    have hm := Bk.allOk_get h hl
    have hlim2 := Bk.lim_after hs hl (k + 1) (by omega)
    have haft := Bk.after_take h s
    generalize l[k] = m at *
    generalize hB : Bk.after s (l.take k) = b at *
    have hm' := hm
    simp only [Bk.mOk, decide_eq_true_eq] at hm'
    simp only [MoveD.cs, AtN, KS, Nat.reduceAdd, Nat.reduceMul, Nat.reduceEqDiff, ↓reduceIte, UT] at f1
    (repeat with_reducible first | refine js ?_ | refine ja ?_ | (refine jT (id := 3) KL127 6 mixed (by kernel_rfl) (by kernel_rfl) (by kernel_rfl) fun _ => ?_; refine jw KL127 [] (aa TF127 (aa hx.s (aa hx.len f1))) fun _ => ?_) | (refine jT (id := 4) KL127 6 mixed (by kernel_rfl) (by kernel_rfl) (by kernel_rfl) fun _ => ?_; refine jw KL127 [] (aa TF127 (aa hx.s (aa hx.len f1))) fun _ => ?_) | refine jw KL127 [] (aa TF127 (aa hx.s (aa hx.len f1))) fun _ => ?_)
    refine SemW_var ti70 rfl rfl (by decide) rfl fun p w2 hN => ?_
    have g1 := hN.at_.n
    simp only [AtN, KS, Nat.reduceAdd, Nat.reduceMul, Nat.reduceEqDiff, ↓reduceIte, UT] at g1
    have r2 := hS.b.ext hN.ext
    have n1 := hN.blk
    have n2 := hS.b.lt
    obtain ⟨d1, d2⟩ := at_int r2.at_ (i := m.From.toNat) (by omega)
    rw [lo_get (by omega) (by omega)] at d2
    have l1 := hlim m.From (by omega)
    have hkk : (1099511627776 * (k : Int)) ≤ 1099511627776 * 4096 := by omega
    (repeat with_reducible first | refine js ?_ | refine ja ?_ | (refine jT (id := 3) KL127 6 mixed (by kernel_rfl) (by kernel_rfl) (by kernel_rfl) fun _ => ?_; refine jw KL127 [] (aa TF127 (aa g1 (aa d1 d2))) fun _ => ?_) | (refine jT (id := 4) KL127 6 mixed (by kernel_rfl) (by kernel_rfl) (by kernel_rfl) fun _ => ?_; refine jw KL127 [] (aa TF127 (aa g1 (aa d1 d2))) fun _ => ?_) | refine jw KL127 [] (aa TF127 (aa g1 (aa d1 d2))) fun _ => ?_)
    intro w3 x3
    refine ⟨by omega, ?_⟩
    refine SemW_setAt cells3 (r2.ext x3) (by simp; omega) rfl rfl fun w4 r4 k4 s4 => ?_
    rw [ints_set] at r4
    have g4 := hN.at_.ext x3
    have g4' := (g4.keep k4 (by omega)).n
    simp only [AtN, KS, Nat.reduceAdd, Nat.reduceMul, Nat.reduceEqDiff, ↓reduceIte, UT] at g4'
    have hb1 : (b.set m.From.toNat (Bk.lo b m.From - m.Amount)).length = 115 := by simpa using hblen
    obtain ⟨d3, d4⟩ := at_int r4.at_ (i := m.To.toNat) (by omega)
    rw [lo_get (by omega) (by omega)] at d4
    have e2 : Bk.lo (b.set m.From.toNat (Bk.lo b m.From - m.Amount)) m.To = Bk.lo b m.To := by
      rw [Bk.lo_set (by omega) (by omega), if_neg (by omega)]
    rw [e2] at d4
    have l2 := hlim m.To (by omega)
    (repeat with_reducible first | refine js ?_ | refine ja ?_ | (refine jT (id := 3) KL127 6 mixed (by kernel_rfl) (by kernel_rfl) (by kernel_rfl) fun _ => ?_; refine jw KL127 [] (aa TF127 (aa g4' (aa d3 d4))) fun _ => ?_) | (refine jT (id := 4) KL127 6 mixed (by kernel_rfl) (by kernel_rfl) (by kernel_rfl) fun _ => ?_; refine jw KL127 [] (aa TF127 (aa g4' (aa d3 d4))) fun _ => ?_) | refine jw KL127 [] (aa TF127 (aa g4' (aa d3 d4))) fun _ => ?_)
    intro w5 x5
    refine ⟨by omega, ?_⟩
    refine SemW_setAt cells3 (r4.ext x5) (by simp; omega) rfl rfl fun w6 r6 k6 s6 => ?_
    rw [ints_set] at r6
    have e3 : ((b.set m.From.toNat (Bk.lo b m.From - m.Amount)).set m.To.toNat (Bk.lo b m.To + m.Amount)) = Bk.after s (l.take (k + 1)) := by rw [haft]; simp only [Bk.step, e2]
    rw [e3] at r6
    have n3 := x3.size
    have n5 := x5.size
    have kk : Keep (fun q => q ≠ pb.block) w1 w6 :=
      (Keep.of_ext (hN.ext.trans x3)).trans ((k4.trans (Keep.of_ext x5)).trans k6)
    have hS6 : J k w6 := hc.step _ _ _ hS.j (kk.mono fun q _ hq e => hq e)
    have hE6 : Ext W w6 := Keep.ext hS.e kk fun q hq => by omega
    have hl6 : At w6 pl [vl] := hS.l.keep kk hlb
    obtain ⟨d5, d6⟩ := at_memA r6.at_ (n := 115) (by simpa using hlim2.2)
    (repeat with_reducible first | refine js ?_ | refine ja ?_ | (refine jT (id := 3) KL127 6 mixed (by kernel_rfl) (by kernel_rfl) (by kernel_rfl) fun _ => ?_; refine jw KL127 [] (aa TF127 (aa d5 d6)) fun _ => ?_) | (refine jT (id := 4) KL127 6 mixed (by kernel_rfl) (by kernel_rfl) (by kernel_rfl) fun _ => ?_; refine jw KL127 [] (aa TF127 (aa d5 d6)) fun _ => ?_) | refine jw KL127 [] (aa TF127 (aa d5 d6)) fun _ => ?_)
    have hki : k < (items s l).length := by rw [items_len]; exact hkl'
    have hy := hc.yield k w6 hki hS6
    rw [items_get hki] at hy
    refine hy.mono fun v w7 ⟨b', hv, k7, hj⟩ => ?_
    subst hv
    cases b' with
    | true =>
      simp only [if_true] at hj
      (repeat with_reducible first | refine js ?_ | refine ja ?_ | (refine jT (id := 3) KL127 6 mixed (by kernel_rfl) (by kernel_rfl) (by kernel_rfl) fun _ => ?_; refine jw KL127 [] TF127 fun _ => ?_) | (refine jT (id := 4) KL127 6 mixed (by kernel_rfl) (by kernel_rfl) (by kernel_rfl) fun _ => ?_; refine jw KL127 [] TF127 fun _ => ?_) | refine jw KL127 [] TF127 fun _ => ?_)
      refine Run_condS (fun _ => rfl) (fun h => by cases h) (fun _ => ?_)
      (repeat with_reducible first | refine js ?_ | refine ja ?_ | (refine jT (id := 3) KL127 6 mixed (by kernel_rfl) (by kernel_rfl) (by kernel_rfl) fun _ => ?_; refine jw KL127 [] TF127 fun _ => ?_) | (refine jT (id := 4) KL127 6 mixed (by kernel_rfl) (by kernel_rfl) (by kernel_rfl) fun _ => ?_; refine jw KL127 [] TF127 fun _ => ?_) | refine jw KL127 [] TF127 fun _ => ?_)
      refine Run_lp ⟨k + 1, ?_, ⟨by omega, hj, Keep.ext hE6 k7 hkW, hl6.keep k7 hkl, r6.keep k7 hkb⟩, by omega⟩
      simp [SubB, fnd, strike, has]
    | false =>
      simp only [Bool.false_eq_true, if_false] at hj
      (repeat with_reducible first | refine js ?_ | refine ja ?_ | (refine jT (id := 3) KL127 6 mixed (by kernel_rfl) (by kernel_rfl) (by kernel_rfl) fun _ => ?_; refine jw KL127 [] TF127 fun _ => ?_) | (refine jT (id := 4) KL127 6 mixed (by kernel_rfl) (by kernel_rfl) (by kernel_rfl) fun _ => ?_; refine jw KL127 [] TF127 fun _ => ?_) | refine jw KL127 [] TF127 fun _ => ?_)
      refine Run_condS (fun _ => rfl) (fun _ => ?_) (fun h => by cases h)
      (repeat with_reducible first | refine js ?_ | refine ja ?_ | (refine jT (id := 3) KL127 6 mixed (by kernel_rfl) (by kernel_rfl) (by kernel_rfl) fun _ => ?_; refine jw KL127 [] TF127 fun _ => ?_) | (refine jT (id := 4) KL127 6 mixed (by kernel_rfl) (by kernel_rfl) (by kernel_rfl) fun _ => ?_; refine jw KL127 [] TF127 fun _ => ?_) | refine jw KL127 [] TF127 fun _ => ?_)
      refine Run_ret ?_
      simp only [Rets, RetM, resV, oneOr]
      exact ⟨trivial, .inl hj⟩
  · simp at h
    obtain rfl : k = l.length := by omega
    (repeat with_reducible first | refine js ?_ | refine ja ?_ | (refine jT (id := 3) KL127 6 mixed (by kernel_rfl) (by kernel_rfl) (by kernel_rfl) fun _ => ?_; refine jw KL127 [] TF127 fun _ => ?_) | (refine jT (id := 4) KL127 6 mixed (by kernel_rfl) (by kernel_rfl) (by kernel_rfl) fun _ => ?_; refine jw KL127 [] TF127 fun _ => ?_) | refine jw KL127 [] TF127 fun _ => ?_)
    refine Run_nil ?_
    simp only [Rets, RetM, resV, oneOr]
    exact ⟨trivial, .inr (by rw [items_len]; exact hS.j)⟩
end Go.Proofs.YtoadfmgnpmcbfaaGreat
/- Books (chapter 38), for other seats: Balances and First. -/
namespace Go.Proofs.YtoadfmgnpmcbfaaGreat
open Go Go.Fk
set_option linter.unusedSimpArgs false
set_option linter.unusedVariables false
set_option maxRecDepth 100000
theorem bkClone (v : Value) (xs : List Int) (w : World) (hx : Sl w v xs) (hb : xs.length ≤ 1000000) :
    Calls Tryz.prog 73 #[v] w fun e w' => ∃ v', e = .returned v' ∧ Ext w w' ∧ Sl w' v' xs ∧ (xs ≠ [] → w.heap.size ≤ (slAt v').block) := by
  refine Calls_of_Run (args := [v]) (n := 8) (rs := [.tmp 2]) Tryz.func73 rfl rfl rfl (by simp) ?_
  (repeat with_reducible first | refine js ?_ | refine ja ?_ | refine jw KL73 [] (aa TF73 hx.s) fun _ => ?_)
  refine Run_condS (fun _ => rfl) (fun h => ?_) (fun h => ?_)
  · rcases hx.s.ex with rfl | ⟨a, n, c, rfl⟩
    · have : xs = [] := List.eq_nil_of_length_eq_zero (by have := hx.len; simpa using this.symm)
      subst this
      (repeat with_reducible first | refine js ?_ | refine ja ?_ | refine jw KL73 [] TF73 fun _ => ?_)
      refine Run_ret ?_
      simp [Rets, RetM, resV, fnd, oneOr, Ext.refl, Sl.nil]
    · cases h
  · (repeat with_reducible first | refine js ?_ | refine ja ?_ | refine jw KL73 [] TF73 fun _ => ?_)
    refine SemW_buildF (α := Int) (W := w) Tryz.underlying25 ti3 rfl (by decide) (Ext.refl _) [] [] rfl rfl (Cs.nil _) (by decide) fun p w1 b1 _ x1 => ?_
    refine SemW_appendF (α := Int) Tryz.underlying25 ti3 rfl (by decide) b1 (hx.ext x1) (by simp [maxLen]; omega) fun v2 w2 b2 _ x2 => ?_
    (repeat with_reducible first | refine js ?_ | refine ja ?_ | refine jw KL73 [] TF73 fun _ => ?_)
    refine Run_ret ?_
    simp [Rets, RetM, resV, fnd, oneOr]
    simp only [List.nil_append] at b2
    exact ⟨x2, b2.sl (by omega), fun h => (b2.blk (by decide) h).1⟩
theorem bad_prefix {s : List Int} {l : List MoveD} : ∀ (l : List MoveD) (b : List Int) (i : Nat), (∀ k (h : k < l.length), Bk.paid (Bk.after b (l.take (k + 1))) l[k] = true) → Bk.bad b i l = none
  | [], b, i, _ => rfl
  | m :: r, b, i, h => by
    unfold Bk.bad
    have h0 := h 0 (by simp)
    simp [Bk.after] at h0
    rw [if_pos h0]
    exact bad_prefix (s := s) (l := l) r (Bk.step b m) (i + 1) fun k hk => by
      have := h (k + 1) (by simpa using hk)
      simpa [Bk.after] using this
theorem bad_at : ∀ (l : List MoveD) (b : List Int) (i k : Nat) (hk : k < l.length), (∀ j (h : j < l.length), j < k → Bk.paid (Bk.after b (l.take (j + 1))) l[j] = true) → Bk.paid (Bk.after b (l.take (k + 1))) l[k] = false → Bk.bad b i l = some (i + k)
  | m :: r, b, i, 0, hk, _, hp => by
    unfold Bk.bad
    simp [Bk.after] at hp
    rw [if_neg (by simp [hp])]; rfl
  | m :: r, b, i, k + 1, hk, h, hp => by
    unfold Bk.bad
    have h0 := h 0 (by simp) (by omega)
    simp [Bk.after] at h0
    rw [if_pos h0, bad_at r (Bk.step b m) (i + 1) k (by simpa using hk) (fun j hj hjk => by
      have := h (j + 1) (by simpa using hj) (by omega)
      simpa [Bk.after] using this) (by simpa [Bk.after] using hp)]
    congr 1; omega
/-- where Balances keeps its things -/
structure BS (w : World) (pl pb pe pa : Addr) (vl : Value) (e : Int) (la : List Int) (w' : World) : Prop where
  ext : Ext w w'
  l : Row w' pl 35 [vl]
  b : Row w' pb 25 [.slice none 0 0]
  e : Row w' pe 36 [.int .i64 e]
  a : Row w' pa 119 (ints la)
theorem BS.keep {w w1 w2 : World} {pl pb pe pa : Addr} {vl : Value} {e : Int} {la : List Int} {S : Nat → Prop} (h : BS w pl pb pe pa vl e la w1) (hk : Keep S w1 w2) (hw : ∀ k, k < w.heap.size → S k) (h1 : S pl.block) (h2 : S pb.block) (h3 : S pe.block) (h4 : S pa.block) : BS w pl pb pe pa vl e la w2 :=
  ⟨Keep.ext h.ext hk hw, h.l.keep hk h1, h.b.keep hk h2, h.e.keep hk h3, h.a.keep hk h4⟩
def BalRet (w : World) (r : List Int × Int) (e : Ending) (w' : World) : Prop := ∃ v, e = .returned (.tuple #[v, .int .i64 r.2]) ∧ Ext w w' ∧ Sl w' v r.1
theorem rowInts {w : World} {p : Addr} {t : TypeId} {xs : List Int} (h : Row w p t (ints xs)) (hI : ∀ x ∈ xs, I64 x) (hb : xs.length ≤ 140737488355328) : Sl w (.slice (some p) xs.length xs.length) xs := by
  have e : ∀ xs : List Int, ints xs = (xs.map fun x => [Value.int .i64 x]).flatten := fun xs => by
    induction xs with
    | nil => rfl
    | cons x xs ih => simpa using ih
  rw [e xs] at h
  exact h.sl ⟨by simp, fun i h1 h2 => by simpa using ⟨rfl, hI _ (List.getElem_mem h2)⟩⟩ hb
theorem row1 {w : World} {p : Addr} {t : TypeId} {v : Value} (h : Row w p t [v]) : mem w p = v ∧ has1 w p := by
  have := h.n
  simp only [AtN, add_zero] at this
  exact ⟨this.2.1, this.1⟩
theorem moveAt {va : Value} {l : List MoveD} {w : World} (h : Sl w va l) {i : Nat} (hi : i < l.length) : AtN w ((slAt va).add (i * 6)) 0 l[i].cs := (h.moveD hi).1
theorem bkBalances (va vb : Value) (s : List Int) (l : List MoveD) (w : World) (hx : Sl w va s) (hy : Sl w vb l) :
    Calls Tryz.prog 33 #[va, vb] w (BalRet w (Bk.balances s l)) := by
  have hn := hy.small
  refine Calls_of_Run (args := [va, vb]) (n := 32) (rs := [.cell 4 25, .cell 5 36]) Tryz.func33 rfl rfl rfl (by simp) ?_
  (repeat with_reducible first | refine js ?_ | refine ja ?_ | refine jw KL33 [] TF33 fun _ => ?_)
  refine SemW_box fun pl w1 h1 => SemW_allocT ti25 fun pb w2 h2 => SemW_allocT ti36 fun pe w3 h3 => ?_
  have b1 := h1.blk
  have b2 := h2.blk
  have b3 := h3.blk
  have z1 := h1.size
  have z2 := h2.size
  have z3 := h3.size
  have x3 := h1.ext.trans (h2.ext.trans h3.ext)
  rw [isS_cells hy.s] at h1
  have rl := h1.row.ext (h2.ext.trans h3.ext)
  have rb := h2.row.ext h3.ext
  have re := h3.row
  simp only [KS, Nat.reduceAdd, Nat.reduceMul, Nat.reduceEqDiff, ↓reduceIte, UT] at rb re
  obtain ⟨q1, q2⟩ := row1 rl
  (repeat with_reducible first | refine js ?_ | refine ja ?_ | refine jw KL33 [] (aa TF33 (aa q1 q2)) fun _ => ?_)
  refine CallW_gen call70 (bkOpen va vb s l w3 (hx.ext x3) (hy.ext x3)) fun e w4 ⟨b, he, hb, hbs, x4⟩ => ⟨_, he, ?_⟩
  (repeat with_reducible first | refine js ?_ | refine ja ?_ | refine jw KL33 [] TF33 fun _ => ?_)
  refine SemW_var ti119 rfl (by simp [Value.cells, hb]) (by decide) (by simpa [Value.cells] using one_ints b) fun pa w5 h5 => ?_
  have b5 := h5.blk
  have z4 := x4.size
  have z5 := h5.size
  have x45 := x4.trans h5.ext
  (repeat with_reducible first | refine js ?_ | refine ja ?_ | refine jw KL33 [] TF33 fun _ => ?_)
  refine SemW_set1 cells36 (re.ext x45) rfl rfl fun w6 r6 k6 s6 => ?_
  simp only [KS, Nat.reduceAdd, Nat.reduceMul, Nat.reduceEqDiff, ↓reduceIte, UT] at r6
  have hS6 : BS w pl pb pe pa vb (Bk.wrong s l) b w6 := by
    refine ⟨Keep.ext (x3.trans x45) k6 fun k hk => by omega, (rl.ext x45).keep k6 (by omega), (rb.ext x45).keep k6 (by omega), r6, ?_⟩
    have := h5.row.keep k6 (by omega)
    simpa [Value.cells] using this
  obtain ⟨q3, q4⟩ := row1 hS6.e
  have fin : ∀ (v : Value) (ec : Int) (ms : List Int) (w' : World) (L : FL) (ds : List DF), Bk.balances s l = (ms, ec) → Ext w w' → Row w' pb 25 [v] → Row w' pe 36 [.int .i64 ec] → Sl w' v ms → fnd L 4 = some (.pointer (some pb)) → fnd L 5 = some (.pointer (some pe)) → (ds = [] ∨ ∃ d : Nat, ds = [DF.m d] ∧ w'.heap[d]? = some (.deferred (some [])) ∧ w.heap.size ≤ d ∧ d ≠ pb.block ∧ d ≠ pe.block ∧ True) → 
      (∀ (d : Nat) w'', ds = [DF.m d] → Keep (fun b => b ≠ d) w' w'' → Sl w'' v ms) → Rets Tryz.prog [.cell 4 25, .cell 5 36] (fun v w' => BalRet w (Bk.balances s l) (.returned v) w') .ret ds L w' := by
    intro v ec ms w' L ds hm hx' hb' he' hs' hL1 hL2 hds hsk
    rw [hm]
    simp only [Rets]
    rcases hds with rfl | ⟨d, rfl, hd, d1, d2, d3, _⟩
    · simp only [RetM, resV]
      exact ⟨pb, _, hL1, loadVar_row rfl hb', pe, _, hL2, loadVar_row rfl he', v, rfl, hx', hs'⟩
    · refine RetM_one hd fun w'' hk _ => ?_
      simp only [resV]
      exact ⟨pb, _, hL1, loadVar_row rfl (hb'.keep hk (by omega)), pe, _, hL2, loadVar_row rfl (he'.keep hk (by omega)), v, rfl, Keep.ext hx' hk fun k hk => by omega, hsk d w'' rfl hk⟩
  (repeat with_reducible first | refine js ?_ | refine ja ?_ | refine jw KL33 [] (aa TF33 (aa q3 q4)) fun _ => ?_)
  refine Run_condS (fun _ => rfl) (fun h => ?_) (fun h => ?_)
  · simp at h
    (repeat with_reducible first | refine js ?_ | refine ja ?_ | refine jw KL33 [] TF33 fun _ => ?_)
    refine Run_ep (id := 3) [0, 1, 3, 4, 5, 6, 7, 8, 16, 20, 21, 22, 28] (.alt 0 (.alt 1 (.alt 2 .done .stop) .stop) (.alt 1 (.alt 0 (.alt 2 .done .stop) .stop) .stop)) mixed (by kernel_rfl) (by kernel_rfl) fun w7 x7 _ => ?_
    have hS7 := hS6.keep (Keep.of_ext (S := fun _ => True) x7) (fun _ _ => trivial) trivial trivial trivial trivial
    obtain ⟨q5, q6⟩ := row1 hS7.e
    have hm : Bk.balances s l = ([], Bk.wrong s l) := by unfold Bk.balances; rw [if_pos h]
    have done_ : ∀ w', BS w pl pb pe pa vb (Bk.wrong s l) b w' → ∀ L, fnd L 4 = some (.pointer (some pb)) → fnd L 5 = some (.pointer (some pe)) → Rets Tryz.prog [.cell 4 25, .cell 5 36] (fun v w' => BalRet w (Bk.balances s l) (.returned v) w') .ret [] L w' :=
      fun w' hS L h1 h2 => fin _ _ _ w' L [] hm hS.ext hS.b hS.e (Sl.nil _) h1 h2 (.inl rfl) (fun d _ e => by cases e)
    (try simp (maxSteps := 5000000) only [KS, Nat.reduceAdd, Nat.reduceMul, Nat.reduceEqDiff, ↓reduceIte, forall_const, Int.cast_ofNat_Int, Int.reduceToNat, List.take_succ_cons, List.take_zero, List.drop_succ_cons, List.drop_zero, TF33, KL33, q5, q6]); (try simp (disch := omega) only [wrapI, tmodI, tdivI])
    refine ⟨?_, ?_⟩
    · refine SemW_set1 cells25 hS7.b rfl rfl fun w8 r8 k8 s8 => ?_
      have hS8 : BS w pl pb pe pa vb (Bk.wrong s l) b w8 := ⟨Keep.ext hS7.ext k8 fun k hk => by omega, hS7.l.keep k8 (by omega), r8, hS7.e.keep k8 (by omega), hS7.a.keep k8 (by omega)⟩
      refine SemW_set1 cells36 hS8.e rfl rfl fun w9 r9 k9 s9 => ?_
      have hS9 : BS w pl pb pe pa vb (Bk.wrong s l) b w9 := ⟨Keep.ext hS8.ext k9 fun k hk => by omega, hS8.l.keep k9 (by omega), hS8.b.keep k9 (by omega), r9, hS8.a.keep k9 (by omega)⟩
      (repeat with_reducible first | refine js ?_ | refine ja ?_ | refine jw KL33 [] TF33 fun _ => ?_)
      exact Run_ret (done_ w9 hS9 _ rfl rfl)
    · refine SemW_set1 cells25 hS7.b rfl rfl fun w8 r8 k8 s8 => ?_
      have hS8 : BS w pl pb pe pa vb (Bk.wrong s l) b w8 := ⟨Keep.ext hS7.ext k8 fun k hk => by omega, hS7.l.keep k8 (by omega), r8, hS7.e.keep k8 (by omega), hS7.a.keep k8 (by omega)⟩
      obtain ⟨q7, q8⟩ := row1 hS8.e
      refine ⟨q8, ?_⟩
      rw [q7]
      refine SemW_set1 cells36 hS8.e rfl rfl fun w9 r9 k9 s9 => ?_
      have hS9 : BS w pl pb pe pa vb (Bk.wrong s l) b w9 := ⟨Keep.ext hS8.ext k9 fun k hk => by omega, hS8.l.keep k9 (by omega), hS8.b.keep k9 (by omega), r9, hS8.a.keep k9 (by omega)⟩
      (repeat with_reducible first | refine js ?_ | refine ja ?_ | refine jw KL33 [] TF33 fun _ => ?_)
      exact Run_ret (done_ w9 hS9 _ rfl rfl)
  · simp at h
    have hw0 := h
    obtain rfl := hbs hw0
    rw [hw0] at hS6
    have hck : Bk.chk l = 0 := by
      unfold Bk.wrong at hw0
      split at hw0
      · exact hw0
      · rename_i hh; simpa using hh
    have hs : Bk.startOk b = true := by
      unfold Bk.wrong at hw0
      rw [if_neg (by simp [hck])] at hw0
      split at hw0
      · assumption
      · cases hw0
    have h4 : l.length ≤ 4096 ∧ Bk.allOk 0 l = true := by
      unfold Bk.chk at hck
      split at hck
      · cases hck
      · split at hck
        · exact ⟨by omega, by assumption⟩
        · cases hck
    obtain ⟨d5, d6⟩ := at_memA hS6.a.at_ (n := 115) (by simpa using hb)
    obtain ⟨q5, q6⟩ := row1 hS6.l
    (repeat with_reducible first | refine js ?_ | refine ja ?_ | refine jw KL33 [] (aa TF33 (aa d5 (aa d6 (aa q5 q6)))) fun _ => ?_)
    refine CallW_gen call71 (bkSteps b vb w6 hb (isS_cells hy.s)) fun e w7 ⟨ql, qb, he, rl', rb', x7, n1, n2, n3⟩ => ⟨_, he, ?_⟩
    have hS7 := hS6.keep (Keep.of_ext (S := fun _ => True) x7) (fun _ _ => trivial) trivial trivial trivial trivial
    have z6 : w6.heap.size = w5.heap.size := s6
    have z7 := x7.size
    have nl := rl'.lt
    have nb := rb'.lt
    (repeat with_reducible first | refine js ?_ | refine ja ?_ | refine jw KL33 [] TF33 fun _ => ?_)
    refine Run_iter [21, 22] (fun _ => rfl) call127 (by simp) (items b l) (fun x hx => by simp [items] at hx; obtain ⟨_, _, rfl⟩ := hx; rfl) (fun k => k = qb.block) (fun k => k < w.heap.size ∨ k = qb.block ∨ k = ql.block) (fun k hk => .inr (.inl hk)) (fun k hk => by omega)
      (fun j w' => BS w pl pb pe pa vb 0 (Bk.after b (l.take j)) w' ∧ ∀ i (h : i < l.length), i < j → Bk.paid (Bk.after b (l.take (i + 1))) l[i] = true)
      (fun e w' => e = none ∧ (∃ la, BS w pl pb pe pa vb 381 la w') ∧ ∃ k, Bk.bad b 0 l = some k)
      (fun yv J Jx w1 hc hx1 h0 => by
        have := stepsIter w ql qb vb b l hy hs h4.2 h4.1 (fun k => k < w.heap.size ∨ k = qb.block ∨ k = ql.block) (.inr (.inl rfl)) (.inr (.inr rfl)) (fun k hk => .inl hk) yv J Jx w1 hc (hS7.ext.trans hx1) (rl'.ext hx1) (rb'.ext hx1) n3 (by omega) h0
        simpa using this)
      (fun w1 hx1 _ => ⟨hS7.keep (Keep.of_ext (S := fun _ => True) hx1) (fun _ _ => trivial) trivial trivial trivial trivial, fun i h hi => by omega⟩)
      (fun j w1 w2 ⟨hS, hp⟩ hk => ⟨hS.keep hk (fun k hk => by omega) (by omega) (by omega) (by omega) (by omega), hp⟩)
      (fun e w1 w2 ⟨he, ⟨la, hS⟩, hb'⟩ hk => ⟨he, ⟨la, hS.keep hk (fun k hk => by omega) (by omega) (by omega) (by omega) (by omega)⟩, hb'⟩) ?_ ?_ ?_
    · intro j hj w8 ⟨hS8, hp⟩ z8
      rw [items_get hj]
      rw [items_len] at hj
      simp only [zipL]
      have hlim := Bk.lim_after hs h4.2 (j + 1) (by omega)
      have hmv := Bk.allOk_get hj h4.2
      simp only [Bk.mOk, decide_eq_true_eq] at hmv
      (repeat with_reducible first | refine js ?_ | refine ja ?_ | refine jw KL33 [] TF33 fun _ => ?_)
      refine SemW_var ti119 rfl (by simp [Value.cells, hlim.2]) (by decide) (by simpa [Value.cells] using one_ints _) fun pn w9 h9 => ?_
      have b9 := h9.blk
      have z9 := h9.size
      have r9 : Row w9 pn 119 (ints (Bk.after b (l.take (j + 1)))) := by simpa [Value.cells] using h9.row
      have hS9 := hS8.keep (Keep.of_ext (S := fun _ => True) h9.ext) (fun _ _ => trivial) trivial trivial trivial trivial
      (repeat with_reducible first | refine js ?_ | refine ja ?_ | refine jw KL33 [] TF33 fun _ => ?_)
      refine Run_lp ⟨Keep.of_ext h9.ext, fun w10 k10 z10 => ?_⟩
      have hS10 := hS9.keep k10 (fun k hk => by omega) (by omega) (by omega) (by omega) (by omega)
      have r10 := r9.keep k10 (by omega)
      obtain ⟨q7, q8⟩ := row1 hS10.l
      have f1 := moveAt (hy.ext hS10.ext) hj
      simp only [MoveD.cs, AtN, KS, Nat.reduceAdd, Nat.reduceMul, Nat.reduceEqDiff, ↓reduceIte, UT] at f1
      (repeat with_reducible first | refine js ?_ | refine ja ?_ | refine jw KL33 [] (aa TF33 (aa q7 (aa q8 (aa hy.s (aa hy.len f1))))) fun _ => ?_)
      refine CallW_pure call72 (bkPaid pn _ l[j] w10 r10.at_ hlim.2 (by omega) (by omega)) fun w11 x11 => ?_
      have hS11 := hS10.keep (Keep.of_ext (S := fun _ => True) x11) (fun _ _ => trivial) trivial trivial trivial trivial
      have r11 := r10.ext x11
      have z11 := x11.size
      (repeat with_reducible first | refine js ?_ | refine ja ?_ | refine jw KL33 [] TF33 fun _ => ?_)
      refine Run_condS (fun _ => rfl) (fun h => ?_) (fun h => ?_)
      · simp at h
        (repeat with_reducible first | refine js ?_ | refine ja ?_ | refine jw KL33 [] TF33 fun _ => ?_)
        refine SemW_set1 cells25 hS11.b rfl rfl fun w12 r12 k12 s12 => ?_
        have hS12 : BS w pl pb pe pa vb 0 (Bk.after b (l.take j)) w12 := ⟨Keep.ext hS11.ext k12 fun k hk => by omega, hS11.l.keep k12 (by omega), r12, hS11.e.keep k12 (by omega), hS11.a.keep k12 (by omega)⟩
        (repeat with_reducible first | refine js ?_ | refine ja ?_ | refine jw KL33 [] TF33 fun _ => ?_)
        refine SemW_set1 cells36 hS12.e rfl rfl fun w13 r13 k13 s13 => ?_
        have hS13 : BS w pl pb pe pa vb 381 (Bk.after b (l.take j)) w13 := ⟨Keep.ext hS12.ext k13 fun k hk => by omega, hS12.l.keep k13 (by omega), hS12.b.keep k13 (by omega), r13, hS12.a.keep k13 (by omega)⟩
        (repeat with_reducible first | refine js ?_ | refine ja ?_ | refine jw KL33 [] TF33 fun _ => ?_)
        refine Run_ret ⟨((Keep.of_ext x11).trans (k12.mono fun k _ hk => by omega)).trans (k13.mono fun k _ hk => by omega), rfl, ⟨_, hS13⟩, _, bad_at l b 0 j hj (fun i hi hij => hp i hi hij) h⟩
      · simp at h
        obtain ⟨d7, d8⟩ := at_memA r11.at_ (n := 115) (by simpa using hlim.2)
        (repeat with_reducible first | refine js ?_ | refine ja ?_ | refine jw KL33 [] (aa TF33 (aa d7 d8)) fun _ => ?_)
        refine SemW_setW c45 (by simp [Value.cells, hlim.2, cells119]) hS11.a (by rw [ints_len, (Bk.lim_after hs h4.2 j (by omega)).2, cells119]) (by simpa [Value.cells] using one_ints _) fun w12 r12 k12 s12 => ?_
        have hS12 : BS w pl pb pe pa vb 0 (Bk.after b (l.take (j + 1))) w12 := ⟨Keep.ext hS11.ext k12 fun k hk => by omega, hS11.l.keep k12 (by omega), hS11.b.keep k12 (by omega), hS11.e.keep k12 (by omega), by simpa [Value.cells] using r12⟩
        (repeat with_reducible first | refine js ?_ | refine ja ?_ | refine jw KL33 [] TF33 fun _ => ?_)
        refine Run_nil ⟨(Keep.of_ext x11).trans (k12.mono fun k _ hk => by omega), hS12, fun i hi hij => ?_⟩
        by_cases e : i = j
        · subst e; exact h
        · exact hp i hi (by omega)
    · intro w8 ⟨hS8, hp⟩ hd
      rw [items_len, List.take_length] at hS8
      rw [items_len] at hp
      have hlim := Bk.lim_after hs h4.2 l.length (by omega)
      rw [List.take_length] at hlim
      have hI : ∀ x ∈ Bk.after b l, I64 x := fun x hx => by
        obtain ⟨k, hk, rfl⟩ := List.getElem_of_mem hx
        have := hlim.1 k (by omega)
        have e : Bk.lo (Bk.after b l) k = (Bk.after b l)[k] := by simp [Bk.lo, List.getD_eq_getElem?_getD, hk]
        rw [e] at this
        unfold I64; omega
      have sl8 : Sl w8 (.slice (some pa) 115 115) (Bk.after b l) := by
        have := rowInts hS8.a hI (by omega)
        rwa [hlim.2] at this
      (repeat with_reducible first | refine js ?_ | refine ja ?_ | refine jw KL33 [] TF33 fun _ => ?_)
      refine CallW_gen call73 (bkClone _ _ w8 sl8 (by omega)) fun e w9 ⟨v, he, x9, s9, hv⟩ => ⟨_, he, ?_⟩
      have hS9 := hS8.keep (Keep.of_ext (S := fun _ => True) x9) (fun _ _ => trivial) trivial trivial trivial trivial
      have hz8 : w7.heap.size < w8.heap.size := (Array.getElem?_eq_some_iff.1 hd).1
      have hd9 := (x9.block _ hz8).trans hd
      have hv := hv (fun e => by have := hlim.2; rw [e] at this; cases this)
      have u1 := hS8.b.lt
      have u2 := hS8.e.lt
      (repeat with_reducible first | refine js ?_ | refine ja ?_ | refine jw KL33 [] TF33 fun _ => ?_)
      refine SemW_set1 cells25 hS9.b (isS_one s9.s).1 (isS_one s9.s).2 fun w10 r10 k10 z10 => ?_
      rw [isS_cells s9.s] at r10
      refine SemW_set1 cells36 (hS9.e.keep k10 (by omega)) rfl rfl fun w11 r11 k11 z11 => ?_
      simp only [KS, Nat.reduceAdd, Nat.reduceMul, Nat.reduceEqDiff, ↓reduceIte, UT] at r11
      (repeat with_reducible first | refine js ?_ | refine ja ?_ | refine jw KL33 [] TF33 fun _ => ?_)
      have hm : Bk.balances b l = (Bk.after b l, 0) := by
        unfold Bk.balances
        rw [if_neg (by simp [hw0]), bad_prefix (s := b) (l := l) l b 0 fun k hk => hp k hk hk]
      refine Run_ret (fin v 0 (Bk.after b l) w11 _ [w7.heap.size] hm (Keep.ext (Keep.ext hS9.ext k10 fun k hk => by omega) k11 fun k hk => by omega) (r10.keep k11 (by omega)) r11 ((s9.keepF k10 fun _ => by omega).keepF k11 fun _ => by omega) rfl rfl (.inr ⟨_, rfl, ?_, by omega, by omega, by omega, trivial⟩) fun d w'' hdd hk => ?_)
      · rw [k11.block _ (by have := x9.size; omega) (by omega), k10.block _ (by have := x9.size; omega) (by omega)]; exact hd9
      · have hdd := DF.m.inj (List.cons.inj hdd).1
        exact ((s9.keepF k10 fun _ => by omega).keepF k11 fun _ => by omega).keepF hk fun _ => by omega
    · rintro e w8 ⟨rfl, ⟨la, hS8⟩, k, hk⟩ hd
      unfold xcode
      have hm : Bk.balances b l = ([], 381) := by
        unfold Bk.balances
        rw [if_neg (by simp [hw0]), hk]
      exact Run_ret (fin _ 381 [] w8 _ [w7.heap.size] hm hS8.ext hS8.b hS8.e (Sl.nil _) rfl rfl (.inr ⟨_, rfl, hd, by omega, by omega, by omega, trivial⟩) fun _ _ _ _ => Sl.nil _)
end Go.Proofs.YtoadfmgnpmcbfaaGreat
