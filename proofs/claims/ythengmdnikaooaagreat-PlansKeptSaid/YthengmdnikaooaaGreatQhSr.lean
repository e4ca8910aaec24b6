import Derived.Test.YthengmdnikaooaaGreatQhW20x
import Derived.Test.YthengmdnikaooaaGreatQhGs
import Derived.Test.YthengmdnikaooaaGreatQhGb
import Derived.Shelf.SlSortCmp.InsertionK
set_option linter.unusedSimpArgs false
set_option linter.unusedVariables false
set_option maxRecDepth 100000
namespace Go.Fk
open Go
section
variable {P : Program} {r : Option Nat} {n : Nat} {ds : List DF} {k : List Td} {L : FL} {w : World} {Q : Exit → List DF → FL → World → Prop}
theorem Run_tailC {C : World → Prop} {id : Nat} {l : List Oper} (vs : List Nat) (m : Nat) (hC : ∀ w', C w' → Ext w w') (hd : C w.drew)
    (hm : P.follows .mixedOrders = true) (hB : Region.lexTailB .any l.toArray m = true) (hs1 : stat n l (l.take m) [] = true) (hs2 : stat n l (l.drop m) [] = true)
    (h : ∀ t0, qg P C l w t0 (l.take m) [] L fun L1 => ∀ w1, C w1 → ∀ t1, eg P l t1 (l.drop m) [] L1 w1 fun L' w' => Run P r n ds k (prune vs L') w' Q) : Run P r n ds (.code (.region id l.toArray true) :: k) L w Q := fun a ha => by
  refine wpIn_region_tail (C := C) m hm hB hd ?_
  have := qg_sound (P := P) (C := C) (w := w) hC (l.take m) [] [] L a (Inv.start ha) hs1 (h _)
  have mono : ∀ (l' : List Oper) (a : Act), wpQuiet P l.toArray C (fun a' => ∃ L', Fr n ds L' a' ∧ ∀ w1, C w1 → ∀ t1, eg P l t1 (l.drop m) [] L' w1 fun L' w' => Run P r n ds k (prune vs L') w' Q) l' a →
      wpQuiet P l.toArray C (fun a' => ∀ w', C w' → wpListIn (fw r) 0 P l.toArray (after P r n k (QA n Q)) (l.drop m) a' w') l' a := by
    intro l'
    induction l' with
    | nil =>
      intro a h w' hw'
      obtain ⟨L', hL, hK⟩ := h
      have h1 := eg_sound (r := r) (l.drop m) [] [] L' a w' (Inv.start hL) hs2 (hK w' hw' _)
      exact wpListIn_mono (fun e a w hq => by cases e <;> first | exact hq.elim | (obtain ⟨L', hL, hK⟩ := hq; exact hK a hL.prune)) _ _ _ h1
    | cons o l' ih =>
      intro a h
      unfold wpQuiet at h ⊢
      split at h
      · rename_i hw; rw [if_pos hw]; exact Oper.quiet_mono (fun a => ih a) h
      · rename_i hw; rw [if_neg hw]; exact ih _ h
  exact mono _ _ this
end
def cmpI (x y : Int) : Int := if x < y then -1 else if y < x then 1 else 0
def cmpR (a b : RunD) : Int := if cmpI a.At b.At ≠ 0 then cmpI a.At b.At else cmpI a.Line b.Line
theorem cmpI_cases (x y : Int) : (x < y ∧ cmpI x y = -1) ∨ (x = y ∧ cmpI x y = 0) ∨ (y < x ∧ cmpI x y = 1) := by
  unfold cmpI
  by_cases h : x < y
  · rw [if_pos h]; exact .inl ⟨h, rfl⟩
  · rw [if_neg h]
    by_cases h2 : y < x
    · rw [if_pos h2]; exact .inr (.inr ⟨h2, rfl⟩)
    · rw [if_neg h2]; exact .inr (.inl ⟨by omega, rfl⟩)
theorem ltOf_before (a b : RunD) : Go.Proofs.ltOf cmpR a b = Tt.before a b := by
  unfold Go.Proofs.ltOf cmpR
  rw [Bool.eq_iff_iff, Tt.before_iff]
  simp only [decide_eq_true_eq]
  rcases cmpI_cases a.At b.At with ⟨h, e⟩ | ⟨h, e⟩ | ⟨h, e⟩ <;> rw [e]
  · simp; omega
  · simp only [ne_eq, not_true_eq_false, if_false]
    rcases cmpI_cases a.Line b.Line with ⟨h2, e2⟩ | ⟨h2, e2⟩ | ⟨h2, e2⟩ <;> rw [e2] <;> simp <;> omega
  · simp; omega
theorem not_before {a b : RunD} : Tt.before a b = false ↔ b.At < a.At ∨ a.At = b.At ∧ b.Line ≤ a.Line := by
  rw [← Bool.not_eq_true, Tt.before_iff]; omega
theorem before_swo : Sort.SWO (Go.Proofs.ltOf cmpR) where
  irrefl x := by rw [ltOf_before, not_before]; omega
  trans x y z h1 h2 := by rw [ltOf_before] at *; exact Tt.before_trans h1 h2
  ntrans x y z h1 h2 := by rw [ltOf_before, not_before] at *; omega
end Go.Fk
namespace Go.Proofs.YthengmdnikaooaaGreat
open Go Go.Fk
theorem cmIsNaN (x : Int) (w : World) : Calls Tryz.prog 119 #[.int .i64 x] w fun e w' => e = .returned (.bool false) ∧ w' = w := by
  refine Calls_of_Run (args := [.int .i64 x]) (n := 6) (rs := [.tmp 2]) Tryz.func119 rfl rfl rfl (by simp) ?_
  (repeat with_reducible first | refine js ?_ | refine ja ?_ | refine jw KL119 [] TF119 fun _ => ?_)
  refine Run_ret ?_
  simp [Rets, RetM, resV, fnd, oneOr]
theorem cmCompare (x y : Int) (w : World) : Calls Tryz.prog 78 #[.int .i64 x, .int .i64 y] w fun e w' => e = .returned (.int .i64 (cmpI x y)) ∧ w' = w := by
  refine Calls_of_Run (args := [.int .i64 x, .int .i64 y]) (n := 20) (rs := [.tmp 4]) Tryz.func78 rfl rfl rfl (by simp) ?_
  (repeat with_reducible first | refine js ?_ | refine ja ?_ | refine jw KL78 [] TF78 fun _ => ?_)
  refine CallW_gen call119 (cmIsNaN x w) fun e w' ⟨he, hw⟩ => ⟨_, he, ?_⟩
  subst hw
  (repeat with_reducible first | refine js ?_ | refine ja ?_ | refine jw KL78 [] TF78 fun _ => ?_)
  refine CallW_gen call119 (cmIsNaN y w') fun e w' ⟨he, hw⟩ => ⟨_, he, ?_⟩
  subst hw
  (repeat with_reducible first | refine js ?_ | refine ja ?_ | refine jw KL78 [] TF78 fun _ => ?_)
  refine Run_condS (fun _ => rfl) (fun h => by simp at h) (fun _ => ?_)
  (repeat with_reducible first | refine js ?_ | refine ja ?_ | refine jw KL78 [] TF78 fun _ => ?_)
  refine Run_condS (fun _ => rfl) (fun h => by simp at h) (fun _ => ?_)
  (repeat with_reducible first | refine js ?_ | refine ja ?_ | refine jw KL78 [] TF78 fun _ => ?_)
  refine Run_condS (fun _ => rfl) (fun h => ?_) (fun h => ?_)
  · simp at h
    (repeat with_reducible first | refine js ?_ | refine ja ?_ | refine jw KL78 [] TF78 fun _ => ?_)
    refine Run_ret ?_
    simp [Rets, RetM, resV, fnd, oneOr, cmpI, h]
  simp at h
  (repeat with_reducible first | refine js ?_ | refine ja ?_ | refine jw KL78 [] TF78 fun _ => ?_)
  refine Run_condS (fun _ => rfl) (fun h => ?_) (fun h => ?_)
  · have h1 := h
    simp at h1
    (repeat with_reducible first | refine js ?_ | refine ja ?_ | refine jw KL78 [] TF78 fun _ => ?_)
    refine Run_ret ?_
    simp [Rets, RetM, resV, fnd, oneOr, cmpI, h1]
    omega
  · have h1 := h
    simp at h1
    (repeat with_reducible first | refine js ?_ | refine ja ?_ | refine jw KL78 [] TF78 fun _ => ?_)
    refine Run_ret ?_
    simp [Rets, RetM, resV, fnd, oneOr, cmpI]
    omega
theorem cmOr (p : Addr) (a b : Int) (w : World) (h : At w p [.int .i64 a, .int .i64 b]) : Calls Tryz.prog 77 #[.slice (some p) 2 2] w fun e w' => e = .returned (.int .i64 (if a ≠ 0 then a else b)) ∧ w' = w := by
  have g := h.n
  simp only [AtN, KS, Nat.reduceAdd, Nat.reduceMul, Nat.reduceEqDiff, ↓reduceIte, UT] at g
  refine Calls_of_Run (args := [.slice (some p) 2 2]) (n := 18) (rs := [.tmp 2]) Tryz.func77 rfl rfl rfl (by simp) ?_
  (repeat with_reducible first | refine js ?_ | refine ja ?_ | refine jw KL77 [] TF77 fun _ => ?_)
  refine Run_loopV [2, 5, 8, 9, 14] (σ := Nat) (fun k => [(8, some (.int .i64 k))]) (fun k w' => k ≤ 2 ∧ w' = w ∧ (1 ≤ k → a = 0) ∧ (2 ≤ k → b = 0)) (fun k => 2 - k) 0 (by simp [SubB, fnd]) ⟨by omega, rfl, by omega, by omega⟩ ?_
  rintro k w1 ⟨hk, rfl, hA, hB⟩
  (repeat with_reducible first | refine js ?_ | refine ja ?_ | refine jw KL77 [] TF77 fun _ => ?_)
  refine Run_condS (fun _ => rfl) (fun h => ?_) (fun h => ?_)
  · simp at h
    have hk2 : k = 0 ∨ k = 1 := by omega
    rcases hk2 with rfl | rfl
    · (repeat with_reducible first | refine js ?_ | refine ja ?_ | refine jw KL77 [] (aa TF77 g) fun _ => ?_)
      refine Run_condS (fun _ => rfl) (fun h => ?_) (fun h => ?_)
      · simp at h
        (repeat with_reducible first | refine js ?_ | refine ja ?_ | refine jw KL77 [] TF77 fun _ => ?_)
        refine Run_ret ?_
        simp [Rets, RetM, resV, fnd, oneOr, h]
      · simp at h
        (repeat with_reducible first | refine js ?_ | refine ja ?_ | refine jw KL77 [] TF77 fun _ => ?_)
        refine Run_lp ⟨1, ?_, ⟨by omega, rfl, fun _ => h, by omega⟩, by omega⟩
        simp [SubB, fnd, strike, has]
    · have ha := hA (by omega)
      (repeat with_reducible first | refine js ?_ | refine ja ?_ | refine jw KL77 [] (aa TF77 g) fun _ => ?_)
      refine Run_condS (fun _ => rfl) (fun h => ?_) (fun h => ?_)
      · simp at h
        (repeat with_reducible first | refine js ?_ | refine ja ?_ | refine jw KL77 [] TF77 fun _ => ?_)
        refine Run_ret ?_
        simp [Rets, RetM, resV, fnd, oneOr, ha]
      · simp at h
        (repeat with_reducible first | refine js ?_ | refine ja ?_ | refine jw KL77 [] TF77 fun _ => ?_)
        refine Run_lp ⟨2, ?_, ⟨by omega, rfl, fun _ => ha, fun _ => h⟩, by omega⟩
        simp [SubB, fnd, strike, has]
  · simp at h
    obtain rfl : k = 2 := by omega
    have ha := hA (by omega)
    have hb := hB (by omega)
    (repeat with_reducible first | refine js ?_ | refine ja ?_ | refine jw KL77 [] TF77 fun _ => ?_)
    refine Run_ret ?_
    simp [Rets, RetM, resV, fnd, oneOr, ha, hb]
theorem PC_same {C : World → Prop} {g : FuncId} {args : List Value} {v : Value} (hc : callable Tryz.prog g = true) (h : ∀ w, Calls Tryz.prog g args.toArray w fun e w' => e = .returned v ∧ w' = w) : PC Tryz.prog C (.func (.func g) #[] #[]) args v := by
  refine ⟨hc, fun w1 hw1 => ?_⟩
  simp only [Array.empty_append, Array.append_empty]
  exact (h w1).mono fun e w' ⟨he, hw⟩ => ⟨he, hw ▸ hw1⟩
theorem drewN_ext (w : World) (q : Nat) : Ext w (w.drewN q) := ⟨rfl, rfl, rfl, Nat.le_refl _, fun _ _ => rfl⟩
theorem ttCmp (a b : RunD) (w : World) : Calls Tryz.prog 76 #[.agg a.cs.toArray, .agg b.cs.toArray] w fun e w' => e = .returned (.int .i64 (cmpR a b)) ∧ ∃ q os', w' = Sort.grow (w.drewN q) os' := by
  refine Calls_of_Run (args := [.agg a.cs.toArray, .agg b.cs.toArray]) (n := 17) (rs := [.tmp 4]) Tryz.func76 rfl rfl rfl (by simp) ?_
  (repeat with_reducible first | refine js ?_ | refine ja ?_ | (refine jT (id := 1) KL76 9 mixed (by kernel_rfl) (by kernel_rfl) (by kernel_rfl) fun _ => ?_; refine jw KL76 [] TF76 fun _ => ?_) | refine jw KL76 [] TF76 fun _ => ?_)
  refine SemW_box fun p w1 hN => SemW_box fun q w2 hQ => ?_
  have g1 := (hN.at_.ext hQ.ext).n
  have g2 := hQ.at_.n
  simp only [RunD.cs, AtN, KS, Nat.reduceAdd, Nat.reduceMul, Nat.reduceEqDiff, ↓reduceIte, UT] at g1 g2
  (repeat with_reducible first | refine jq ?_ | refine jk ?_ | refine jc ?_ | refine jl ?_ | refine jb ?_ | refine jo ?_ | refine ji ?_ | refine jx rfl ?_)
  refine Run_tailC (C := fun w' => ∃ q, w' = w2.drewN q) (id := 1) KL76 10 (fun w' ⟨q, h⟩ => h ▸ drewN_ext w2 q) ⟨1, rfl⟩ mixed (by kernel_rfl) (by kernel_rfl) (by kernel_rfl) fun _ => ?_
  (try simp (maxSteps := 5000000) only [KS, Nat.reduceAdd, Nat.reduceMul, Nat.reduceEqDiff, ↓reduceIte, forall_const, Int.cast_ofNat_Int, Int.reduceToNat, List.take_succ_cons, List.take_zero, List.drop_succ_cons, List.drop_zero, TF76, KL76, g1, g2]); (try simp (disch := omega) only [wrapI, tmodI, tdivI])
  refine ⟨_, PC_same call78 (cmCompare _ _), ?_⟩
  refine ⟨_, PC_same call78 (cmCompare _ _), ?_⟩
  rintro w3 ⟨m, rfl⟩
  refine SemW_buildSlice (vs := [.int .i64 (cmpI a.At b.At), .int .i64 (cmpI a.Line b.Line)]) Tryz.underlying25 ti3 rfl rfl rfl (by simp [Value.cells]) (by simp) fun ph w3 hB => ?_
  have hA : At w3 ph [.int .i64 (cmpI a.At b.At), .int .i64 (cmpI a.Line b.Line)] := by simpa [Value.cells] using hB.at_
  refine CallW_gen call77 (cmOr ph _ _ w3 hA) fun e w' ⟨he, hw⟩ => ⟨_, he, ?_⟩
  subst hw
  refine Run_ret ?_
  simp only [Rets, RetM, resV, fnd, oneOr, ↓reduceIte]
  refine ⟨_, rfl, rfl, ?_⟩
  rw [hB.w, hQ.w, hN.w, Sort.alloc_eq_grow, Sort.alloc_eq_grow, Sort.alloc_eq_grow, Sort.grow_grow]
  exact ⟨m, _, Sort.grow_grow (w.drewN m) _ _⟩
end Go.Proofs.YthengmdnikaooaaGreat
