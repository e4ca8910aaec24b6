/- Chapter 20: lines and Check. -/
import Derived.Test.YtcncbmdkifdggaaB38c
import Derived.Test.YtcncbmdkifdggaaD19h
import Derived.Test.YtcncbmdkifdggaaP20
import Derived.Test.YtcncbmdkifdggaaBufO
namespace Go.Proofs.Ytcncbmdkifdggaa
open Go Go.Fk
set_option linter.unusedSimpArgs false
set_option linter.unusedVariables false
set_option maxRecDepth 100000

theorem ttBetween (n a b : Int) (w : World) : Calls Try.prog 41 #[.int .i64 n, .int .i64 a, .int .i64 b] w fun e w' => e = .returned (.bool (decide (a ≤ n ∧ n ≤ b))) ∧ Ext w w' := by
  refine Calls_of_Run (args := [.int .i64 n, .int .i64 a, .int .i64 b]) (n := 15) (rs := [.tmp 6]) Try.func41 rfl rfl rfl (by simp) ?_
  (repeat first | with_reducible first | refine jq ?_ | refine jk ?_ | refine jc ?_ | refine jl ?_ | refine jb ?_ | refine jo ?_ | refine ji ?_ | refine jx rfl ?_ | refine And.intro (by first | assumption | omega | (intros; omega)) ?_ | ((first | refine jR KL41 (by kernel_rfl) fun _ => ?_ | skip); simp only [KS, Nat.reduceAdd, Nat.reduceMul, Nat.reduceEqDiff, ↓reduceIte, forall_const, Int.cast_ofNat_Int, Int.reduceToNat, TF41, KL41]; (try simp (disch := omega) only [wrapI, tmodI, tdivI]); (fail_if_success (with_reducible show False))))
  refine Run_ret ?_
  simp [Rets, RetM, resV, fnd, oneOr, Ext.refl]
theorem betW {n a b : Int} {w : World} {K : Value → World → Prop} (hK : ∀ w', Ext w w' → K (.bool (decide (a ≤ n ∧ n ≤ b))) w') : CallW Try.prog (.func (.func 41) #[] #[]) [.int .i64 n, .int .i64 a, .int .i64 b] w K :=
  CallW_pure call41 (ttBetween n a b w) hK
/-- the cells of a line with its number of offices -/
abbrev lcs (x : LineD) (v0 v1 v2 v3 : Value) (n : Int) : List Value := [v0, v1, .int .i64 x.Classes, .int .i64 x.Room, v2, v3, .int .i64 n]
theorem ttSized (x : LineD) (v0 v1 v2 v3 : Value) (n : Int) (w : World) (h : LineR w x v0 v1 v2 v3) :
    Calls Try.prog 74 #[.agg (lcs x v0 v1 v2 v3 n).toArray] w fun e w' => e = .returned (.bool (Tt.sized x)) ∧ Ext w w' := by
  have b0 := h.o.small
  have b1 := h.l.small
  refine Calls_of_Run (args := [.agg (lcs x v0 v1 v2 v3 n).toArray]) (n := 20) (rs := [.tmp 2]) Try.func74 rfl rfl rfl (by simp) ?_
  (repeat first | with_reducible first | refine jq ?_ | refine jk ?_ | refine jc ?_ | refine jl ?_ | refine jb ?_ | refine jo ?_ | refine ji ?_ | refine jx rfl ?_ | refine And.intro (by first | assumption | omega | (intros; omega)) ?_ | ((first | refine jR KL74 (by kernel_rfl) fun _ => ?_ | skip); simp only [KS, Nat.reduceAdd, Nat.reduceMul, Nat.reduceEqDiff, ↓reduceIte, forall_const, Int.cast_ofNat_Int, Int.reduceToNat, TF74, KL74]; (try simp (disch := omega) only [wrapI, tmodI, tdivI]); (fail_if_success (with_reducible show False))))
  refine SemW_box fun p w1 hN => ?_
  have g1 := hN.at_.n
  simp only [AtN, KS, Nat.reduceAdd, Nat.reduceMul, Nat.reduceEqDiff, ↓reduceIte, UT] at g1
  (repeat first | with_reducible first | refine jq ?_ | refine jk ?_ | refine jc ?_ | refine jl ?_ | refine jb ?_ | refine jo ?_ | refine ji ?_ | refine jx rfl ?_ | refine And.intro (by first | assumption | omega | (intros; omega)) ?_ | ((first | refine jR KL74 (by kernel_rfl) fun _ => ?_ | skip); simp only [KS, Nat.reduceAdd, Nat.reduceMul, Nat.reduceEqDiff, ↓reduceIte, forall_const, Int.cast_ofNat_Int, Int.reduceToNat, TF74, KL74, g1, h.o.s, h.o.len]; (try simp (disch := omega) only [wrapI, tmodI, tdivI]); (fail_if_success (with_reducible show False))))
  refine betW fun w2 x2 => ?_
  have g2 := (hN.at_.ext x2).n
  simp only [AtN, KS, Nat.reduceAdd, Nat.reduceMul, Nat.reduceEqDiff, ↓reduceIte, UT] at g2
  (repeat first | with_reducible first | refine jq ?_ | refine jk ?_ | refine jc ?_ | refine jl ?_ | refine jb ?_ | refine jo ?_ | refine ji ?_ | refine jx rfl ?_ | refine And.intro (by first | assumption | omega | (intros; omega)) ?_ | ((first | refine jR KL74 (by kernel_rfl) fun _ => ?_ | skip); simp only [KS, Nat.reduceAdd, Nat.reduceMul, Nat.reduceEqDiff, ↓reduceIte, forall_const, Int.cast_ofNat_Int, Int.reduceToNat, TF74, KL74, g2, h.o.s, h.o.len, h.l.s, h.l.len]; (try simp (disch := omega) only [wrapI, tmodI, tdivI]); (fail_if_success (with_reducible show False))))
  refine Run_ret ?_
  simp [Rets, RetM, resV, fnd, oneOr]
  refine ⟨?_, hN.ext.trans x2⟩
  rw [Bool.eq_iff_iff]; simp [Tt.sized]; omega
theorem ttNumbers (x : LineD) (v0 v1 v2 v3 : Value) (n : Int) (w : World) :
    Calls Try.prog 75 #[.agg (lcs x v0 v1 v2 v3 n).toArray] w fun e w' => e = .returned (.bool (Tt.numbers x)) ∧ Ext w w' := by
  refine Calls_of_Run (args := [.agg (lcs x v0 v1 v2 v3 n).toArray]) (n := 13) (rs := [.tmp 2]) Try.func75 rfl rfl rfl (by simp) ?_
  (repeat first | with_reducible first | refine jq ?_ | refine jk ?_ | refine jc ?_ | refine jl ?_ | refine jb ?_ | refine jo ?_ | refine ji ?_ | refine jx rfl ?_ | refine And.intro (by first | assumption | omega | (intros; omega)) ?_ | ((first | refine jR KL75 (by kernel_rfl) fun _ => ?_ | skip); simp only [KS, Nat.reduceAdd, Nat.reduceMul, Nat.reduceEqDiff, ↓reduceIte, forall_const, Int.cast_ofNat_Int, Int.reduceToNat, TF75, KL75]; (try simp (disch := omega) only [wrapI, tmodI, tdivI]); (fail_if_success (with_reducible show False))))
  refine SemW_box fun p w1 hN => ?_
  have g1 := hN.at_.n
  simp only [AtN, KS, Nat.reduceAdd, Nat.reduceMul, Nat.reduceEqDiff, ↓reduceIte, UT] at g1
  (repeat first | with_reducible first | refine jq ?_ | refine jk ?_ | refine jc ?_ | refine jl ?_ | refine jb ?_ | refine jo ?_ | refine ji ?_ | refine jx rfl ?_ | refine And.intro (by first | assumption | omega | (intros; omega)) ?_ | ((first | refine jR KL75 (by kernel_rfl) fun _ => ?_ | skip); simp only [KS, Nat.reduceAdd, Nat.reduceMul, Nat.reduceEqDiff, ↓reduceIte, forall_const, Int.cast_ofNat_Int, Int.reduceToNat, TF75, KL75, g1]; (try simp (disch := omega) only [wrapI, tmodI, tdivI]); (fail_if_success (with_reducible show False))))
  refine betW fun w2 x2 => ?_
  have g2 := (hN.at_.ext x2).n
  simp only [AtN, KS, Nat.reduceAdd, Nat.reduceMul, Nat.reduceEqDiff, ↓reduceIte, UT] at g2
  (repeat first | with_reducible first | refine jq ?_ | refine jk ?_ | refine jc ?_ | refine jl ?_ | refine jb ?_ | refine jo ?_ | refine ji ?_ | refine jx rfl ?_ | refine And.intro (by first | assumption | omega | (intros; omega)) ?_ | ((first | refine jR KL75 (by kernel_rfl) fun _ => ?_ | skip); simp only [KS, Nat.reduceAdd, Nat.reduceMul, Nat.reduceEqDiff, ↓reduceIte, forall_const, Int.cast_ofNat_Int, Int.reduceToNat, TF75, KL75, g2]; (try simp (disch := omega) only [wrapI, tmodI, tdivI]); (fail_if_success (with_reducible show False))))
  refine .inr ⟨.bool (decide (1 ≤ x.Room ∧ x.Room ≤ 64)), fun _ => PC_pure call41 fun w3 x3 => ttBetween _ _ _ w3, fun w3 x3 => ?_⟩
  unfold hush
  (repeat first | with_reducible first | refine jq ?_ | refine jk ?_ | refine jc ?_ | refine jl ?_ | refine jb ?_ | refine jo ?_ | refine ji ?_ | refine jx rfl ?_ | refine And.intro (by first | assumption | omega | (intros; omega)) ?_ | ((first | refine jR KL75 (by kernel_rfl) fun _ => ?_ | skip); simp only [KS, Nat.reduceAdd, Nat.reduceMul, Nat.reduceEqDiff, ↓reduceIte, forall_const, Int.cast_ofNat_Int, Int.reduceToNat, TF75, KL75, g2]; (try simp (disch := omega) only [wrapI, tmodI, tdivI]); (fail_if_success (with_reducible show False))))
  refine Run_ret ?_
  simp [Rets, RetM, resV, fnd, oneOr]
  refine ⟨?_, hN.ext.trans (x2.trans x3)⟩
  rw [Bool.eq_iff_iff]; simp [Tt.numbers]; omega
theorem ttLegs1 (n : Int) (w : World) : Calls Try.prog 85 #[.int .i64 n] w fun e w' => e = .returned (.bool (!Tt.legOk n)) ∧ Ext w w' := by
  refine Calls_of_Run (args := [.int .i64 n]) (n := 6) (rs := [.tmp 2]) Try.func85 rfl rfl rfl (by simp) ?_
  (repeat first | with_reducible first | refine jq ?_ | refine jk ?_ | refine jc ?_ | refine jl ?_ | refine jb ?_ | refine jo ?_ | refine ji ?_ | refine jx rfl ?_ | refine And.intro (by first | assumption | omega | (intros; omega)) ?_ | ((first | refine jR KL85 (by kernel_rfl) fun _ => ?_ | skip); simp only [KS, Nat.reduceAdd, Nat.reduceMul, Nat.reduceEqDiff, ↓reduceIte, forall_const, Int.cast_ofNat_Int, Int.reduceToNat, TF85, KL85]; (try simp (disch := omega) only [wrapI, tmodI, tdivI]); (fail_if_success (with_reducible show False))))
  refine betW fun w2 x2 => ?_
  (repeat first | with_reducible first | refine jq ?_ | refine jk ?_ | refine jc ?_ | refine jl ?_ | refine jb ?_ | refine jo ?_ | refine ji ?_ | refine jx rfl ?_ | refine And.intro (by first | assumption | omega | (intros; omega)) ?_ | ((first | refine jR KL85 (by kernel_rfl) fun _ => ?_ | skip); simp only [KS, Nat.reduceAdd, Nat.reduceMul, Nat.reduceEqDiff, ↓reduceIte, forall_const, Int.cast_ofNat_Int, Int.reduceToNat, TF85, KL85]; (try simp (disch := omega) only [wrapI, tmodI, tdivI]); (fail_if_success (with_reducible show False))))
  refine Run_ret ?_
  simp [Rets, RetM, resV, fnd, oneOr, x2, Tt.legOk]
theorem any_not (xs : List Int) (q : Int → Bool) : (xs.any fun n => !q n) = !xs.all q := by
  induction xs with
  | nil => rfl
  | cons x xs ih => simp [List.any_cons, List.all_cons, ih]
/-- 'ContainsFunc' of what must not be -/
theorem hasNot {vs : Value} {xs : List Int} {q : Int → Bool} {g : FuncId} {w : World} (hs : Sl w vs xs) (hc : callable Try.prog g = true) (hq : ∀ n w, Calls Try.prog g #[.int .i64 n] w fun e w' => e = .returned (.bool (!q n)) ∧ Ext w w') :
    Calls Try.prog 55 #[vs, fnv g] w fun e w' => e = .returned (.bool (!xs.all q)) ∧ Ext w w' := by
  have hh := hasInt vs (fnv g) xs (fun k => !q (xs.getD k 0)) w hs fun k hk => by
    have e : xs.getD k 0 = xs[k] := by simp [List.getD_eq_getElem?_getD, hk]
    rw [e]; exact Pred_fn hc (hq xs[k])
  rwa [anyN_list (q := fun n => !q n) fun k hk => by simp [List.getD_eq_getElem?_getD, hk], any_not] at hh
theorem ttLegs (x : LineD) (v0 v1 v2 v3 : Value) (n : Int) (w : World) (h : LineR w x v0 v1 v2 v3) :
    Calls Try.prog 77 #[.agg (lcs x v0 v1 v2 v3 n).toArray] w fun e w' => e = .returned (.bool (Tt.legs x)) ∧ Ext w w' := by
  refine Calls_of_Run (args := [.agg (lcs x v0 v1 v2 v3 n).toArray]) (n := 8) (rs := [.tmp 2]) Try.func77 rfl rfl rfl (by simp) ?_
  (repeat first | with_reducible first | refine jq ?_ | refine jk ?_ | refine jc ?_ | refine jl ?_ | refine jb ?_ | refine jo ?_ | refine ji ?_ | refine jx rfl ?_ | refine And.intro (by first | assumption | omega | (intros; omega)) ?_ | ((first | refine jR KL77 (by kernel_rfl) fun _ => ?_ | skip); simp only [KS, Nat.reduceAdd, Nat.reduceMul, Nat.reduceEqDiff, ↓reduceIte, forall_const, Int.cast_ofNat_Int, Int.reduceToNat, TF77, KL77]; (try simp (disch := omega) only [wrapI, tmodI, tdivI]); (fail_if_success (with_reducible show False))))
  refine SemW_box fun p w1 hN => ?_
  have g1 := hN.at_.n
  simp only [AtN, KS, Nat.reduceAdd, Nat.reduceMul, Nat.reduceEqDiff, ↓reduceIte, UT] at g1
  (repeat first | with_reducible first | refine jq ?_ | refine jk ?_ | refine jc ?_ | refine jl ?_ | refine jb ?_ | refine jo ?_ | refine ji ?_ | refine jx rfl ?_ | refine And.intro (by first | assumption | omega | (intros; omega)) ?_ | ((first | refine jR KL77 (by kernel_rfl) fun _ => ?_ | skip); simp only [KS, Nat.reduceAdd, Nat.reduceMul, Nat.reduceEqDiff, ↓reduceIte, forall_const, Int.cast_ofNat_Int, Int.reduceToNat, TF77, KL77, g1]; (try simp (disch := omega) only [wrapI, tmodI, tdivI]); (fail_if_success (with_reducible show False))))
  refine CallW_pure call55 (hasNot (h.l.ext hN.ext) call85 ttLegs1) fun w2 x2 => ?_
  (repeat first | with_reducible first | refine jq ?_ | refine jk ?_ | refine jc ?_ | refine jl ?_ | refine jb ?_ | refine jo ?_ | refine ji ?_ | refine jx rfl ?_ | refine And.intro (by first | assumption | omega | (intros; omega)) ?_ | ((first | refine jR KL77 (by kernel_rfl) fun _ => ?_ | skip); simp only [KS, Nat.reduceAdd, Nat.reduceMul, Nat.reduceEqDiff, ↓reduceIte, forall_const, Int.cast_ofNat_Int, Int.reduceToNat, TF77, KL77]; (try simp (disch := omega) only [wrapI, tmodI, tdivI]); (fail_if_success (with_reducible show False))))
  refine Run_ret ?_
  simp [Rets, RetM, resV, fnd, oneOr, Tt.legs]
  exact hN.ext.trans x2
theorem bools_set (l : List Bool) (i : Nat) (x : Bool) : (Tt.bools l).set i (.bool x) = Tt.bools (l.set i x) := by simp [List.map_set]
theorem at_bool {w : World} {a : Addr} {l : List Bool} (h : At w a (Tt.bools l)) {i : Nat} (hi : i < l.length) : has1 w (a.add i) ∧ mem w (a.add i) = .bool l[i] := by
  have h1 := h.has (j := i) (by simpa using hi)
  have h2 := h.mem (j := i) (by simpa using hi)
  exact ⟨h1, by rw [h2]; simp⟩
theorem makeBools {n : Nat} {w : World} {K : Value → World → Prop} (hn : n ≤ 1000000) (hK : ∀ p w', p.block = w.heap.size → Row w' p 4 (Tt.bools (List.replicate n false)) → Ext w w' → K (.slice (some p) n n) w') :
    SemW Try.prog (Instr.makeSlice 115 (.int .i64 (n : Int)) (.int .i64 (n : Int))) w K := by
  refine SemW_make (n := n) Try.underlying115 ti4 (by omega) (by omega) (by unfold maxLen; omega) fun p w1 cs hcs hN hz => ?_
  have e := hz rfl rfl
  subst e
  refine hK p w1 hN.blk ?_ hN.ext
  have e2 : (Value.bool false).cells[0]! = Value.bool false := rfl
  have := hN.row
  rw [e2] at this
  simpa [Tt.bools] using this
theorem ttStops (x : LineD) (v0 v1 v2 v3 : Value) (n : Int) (w : World) (hR : LineR w x v0 v1 v2 v3) (h0 : 0 ≤ n) (h24 : n ≤ 24) :
    Calls Try.prog 76 #[.agg (lcs x v0 v1 v2 v3 n).toArray] w fun e w' => e = .returned (.bool (Tt.stops x n)) ∧ Ext w w' := by
  have b0 := hR.o.small
  have hlen := hR.o.len
  refine Calls_of_Run (args := [.agg (lcs x v0 v1 v2 v3 n).toArray]) (n := 33) (rs := [.tmp 2]) Try.func76 rfl rfl rfl (by simp) ?_
  (repeat first | with_reducible first | refine jq ?_ | refine jk ?_ | refine jc ?_ | refine jl ?_ | refine jb ?_ | refine jo ?_ | refine ji ?_ | refine jx rfl ?_ | refine And.intro (by first | assumption | omega | (intros; omega)) ?_ | ((first | refine jR KL76 (by kernel_rfl) fun _ => ?_ | skip); simp only [KS, Nat.reduceAdd, Nat.reduceMul, Nat.reduceEqDiff, ↓reduceIte, forall_const, Int.cast_ofNat_Int, Int.reduceToNat, TF76, KL76]; (try simp (disch := omega) only [wrapI, tmodI, tdivI]); (fail_if_success (with_reducible show False))))
  refine SemW_box fun p w1 hN => ?_
  have x1 := hN.ext
  have g1 := hN.at_.n
  simp only [AtN, KS, Nat.reduceAdd, Nat.reduceMul, Nat.reduceEqDiff, ↓reduceIte, UT] at g1
  have hnn : (Value.int .i64 n) = .int .i64 (n.toNat : Int) := by congr 1; omega
  (repeat first | with_reducible first | refine jq ?_ | refine jk ?_ | refine jc ?_ | refine jl ?_ | refine jb ?_ | refine jo ?_ | refine ji ?_ | refine jx rfl ?_ | refine And.intro (by first | assumption | omega | (intros; omega)) ?_ | ((first | refine jR KL76 (by kernel_rfl) fun _ => ?_ | skip); simp only [KS, Nat.reduceAdd, Nat.reduceMul, Nat.reduceEqDiff, ↓reduceIte, forall_const, Int.cast_ofNat_Int, Int.reduceToNat, TF76, KL76, g1]; (try simp (disch := omega) only [wrapI, tmodI, tdivI]); (fail_if_success (with_reducible show False))))
  rw [hnn]
  refine makeBools (by omega) fun ps w2 c2 r2 x2 => ?_
  rw [← Tt.seen_nil] at r2
  have g2 := (hN.at_.ext x2).n
  simp only [AtN, KS, Nat.reduceAdd, Nat.reduceMul, Nat.reduceEqDiff, ↓reduceIte, UT] at g2
  (repeat first | with_reducible first | refine jq ?_ | refine jk ?_ | refine jc ?_ | refine jl ?_ | refine jb ?_ | refine jo ?_ | refine ji ?_ | refine jx rfl ?_ | refine And.intro (by first | assumption | omega | (intros; omega)) ?_ | ((first | refine jR KL76 (by kernel_rfl) fun _ => ?_ | skip); simp only [KS, Nat.reduceAdd, Nat.reduceMul, Nat.reduceEqDiff, ↓reduceIte, forall_const, Int.cast_ofNat_Int, Int.reduceToNat, TF76, KL76, g2, hR.o.s, hR.o.len]; (try simp (disch := omega) only [wrapI, tmodI, tdivI]); (fail_if_success (with_reducible show False))))
  refine Run_loopV [2, 5, 13, 14, 28] (σ := Nat) (fun k => [(13, some (.int .i64 k))]) (fun k w' => k ≤ x.Offices.length ∧ (∀ j (h : j < x.Offices.length), j < k → (0 ≤ x.Offices[j] ∧ x.Offices[j] < n) ∧ (x.Offices.take j).contains x.Offices[j] = false) ∧ Row w' ps 4 (Tt.bools (Tt.seen n.toNat (x.Offices.take k))) ∧ Ext w1 w') (fun k => x.Offices.length - k) 0 (by simp [SubB, fnd]) ⟨by omega, by simp, by simpa using r2, x2⟩ ?_
  rintro k w3 ⟨hk, hf, r3, x3⟩
  have y3 := x1.trans x3
  (repeat first | with_reducible first | refine jq ?_ | refine jk ?_ | refine jc ?_ | refine jl ?_ | refine jb ?_ | refine jo ?_ | refine ji ?_ | refine jx rfl ?_ | refine And.intro (by first | assumption | omega | (intros; omega)) ?_ | ((first | refine jR KL76 (by kernel_rfl) fun _ => ?_ | skip); simp only [KS, Nat.reduceAdd, Nat.reduceMul, Nat.reduceEqDiff, ↓reduceIte, forall_const, Int.cast_ofNat_Int, Int.reduceToNat, TF76, KL76]; (try simp (disch := omega) only [wrapI, tmodI, tdivI]); (fail_if_success (with_reducible show False))))
  refine Run_condS (fun _ => rfl) (fun h => ?_) (fun h => ?_)
  · simp at h
    have hkl := h
    obtain ⟨f1, f2, f3⟩ := (hR.o.ext y3).get hkl
    have g3 := (hN.at_.ext x3).n
    simp only [AtN, KS, Nat.reduceAdd, Nat.reduceMul, Nat.reduceEqDiff, ↓reduceIte, UT] at g3
    have z2 := x2.size
    have z3 := x3.size
    have hst : Tt.stops x n = true → (0 ≤ x.Offices[k] ∧ x.Offices[k] < n) ∧ (x.Offices.take k).contains x.Offices[k] = false := fun hs => Tt.stops_take.1 hs k hkl
    have htk : x.Offices.take (k + 1) = x.Offices.take k ++ [x.Offices[k]] := List.take_succ_eq_append_getElem hkl
    generalize hgo : x.Offices[k] = o at *
    (repeat first | with_reducible first | refine jq ?_ | refine jk ?_ | refine jc ?_ | refine jl ?_ | refine jb ?_ | refine jo ?_ | refine ji ?_ | refine jx rfl ?_ | refine And.intro (by first | assumption | omega | (intros; omega)) ?_ | ((first | refine jR KL76 (by kernel_rfl) fun _ => ?_ | skip); simp only [KS, Nat.reduceAdd, Nat.reduceMul, Nat.reduceEqDiff, ↓reduceIte, forall_const, Int.cast_ofNat_Int, Int.reduceToNat, TF76, KL76, hR.o.s, hR.o.len, f1, f2, g3]; (try simp (disch := omega) only [wrapI, tmodI, tdivI]); (fail_if_success (with_reducible show False))))
    refine betW fun w4 x4 => ?_
    have g4 := (hN.at_.ext (x3.trans x4)).n
    simp only [AtN, KS, Nat.reduceAdd, Nat.reduceMul, Nat.reduceEqDiff, ↓reduceIte, UT] at g4
    have r4 := r3.ext x4
    by_cases hin : 0 ≤ o ∧ o < n
    · have hd : decide (0 ≤ o ∧ o ≤ n - 1) = true := by simp; omega
      obtain ⟨d1, d2⟩ := at_bool r4.at_ (i := o.toNat) (by rw [Tt.seen_len]; omega)
      rw [Tt.seen_get] at d2
      have hot : ((o.toNat : Nat) : Int) = o := by omega
      rw [hot] at d2
      (repeat first | with_reducible first | refine jq ?_ | refine jk ?_ | refine jc ?_ | refine jl ?_ | refine jb ?_ | refine jo ?_ | refine ji ?_ | refine jx rfl ?_ | refine And.intro (by first | assumption | omega | (intros; omega)) ?_ | ((first | refine jR KL76 (by kernel_rfl) fun _ => ?_ | skip); simp only [KS, Nat.reduceAdd, Nat.reduceMul, Nat.reduceEqDiff, ↓reduceIte, forall_const, Int.cast_ofNat_Int, Int.reduceToNat, TF76, KL76, g4, hd, d1, d2, pk_true, pk_false, false_or, or_false, false_imp_iff, true_imp_iff, not_true_eq_false, not_false_eq_true, Bool.true_or, Bool.false_or, Bool.or_true, Bool.or_false, Bool.true_and, Bool.false_and, Bool.and_true, Bool.and_false]; (try simp (disch := omega) only [wrapI, tmodI, tdivI]); (fail_if_success (with_reducible show False))))
      refine Run_condS (fun _ => rfl) (fun h => ?_) (fun h => ?_)
      · (repeat first | with_reducible first | refine jq ?_ | refine jk ?_ | refine jc ?_ | refine jl ?_ | refine jb ?_ | refine jo ?_ | refine ji ?_ | refine jx rfl ?_ | refine And.intro (by first | assumption | omega | (intros; omega)) ?_ | ((first | refine jR KL76 (by kernel_rfl) fun _ => ?_ | skip); simp only [KS, Nat.reduceAdd, Nat.reduceMul, Nat.reduceEqDiff, ↓reduceIte, forall_const, Int.cast_ofNat_Int, Int.reduceToNat, TF76, KL76]; (try simp (disch := omega) only [wrapI, tmodI, tdivI]); (fail_if_success (with_reducible show False))))
        refine Run_ret ?_
        have : Tt.stops x n = false := by
          cases hs : Tt.stops x n with
          | false => rfl
          | true => rw [(hst hs).2] at h; cases h
        simp [Rets, RetM, resV, fnd, oneOr, this]
        exact y3.trans x4
      · (repeat first | with_reducible first | refine jq ?_ | refine jk ?_ | refine jc ?_ | refine jl ?_ | refine jb ?_ | refine jo ?_ | refine ji ?_ | refine jx rfl ?_ | refine And.intro (by first | assumption | omega | (intros; omega)) ?_ | ((first | refine jR KL76 (by kernel_rfl) fun _ => ?_ | skip); simp only [KS, Nat.reduceAdd, Nat.reduceMul, Nat.reduceEqDiff, ↓reduceIte, forall_const, Int.cast_ofNat_Int, Int.reduceToNat, TF76, KL76]; (try simp (disch := omega) only [wrapI, tmodI, tdivI]); (fail_if_success (with_reducible show False))))
        refine SemW_setAt cells4 r4 (by simp [Tt.seen_len]; omega) rfl rfl fun w5 r5 k5 z5 => ?_
        rw [bools_set, Tt.seen_set (by omega), hot, ← htk] at r5
        (repeat first | with_reducible first | refine jq ?_ | refine jk ?_ | refine jc ?_ | refine jl ?_ | refine jb ?_ | refine jo ?_ | refine ji ?_ | refine jx rfl ?_ | refine And.intro (by first | assumption | omega | (intros; omega)) ?_ | ((first | refine jR KL76 (by kernel_rfl) fun _ => ?_ | skip); simp only [KS, Nat.reduceAdd, Nat.reduceMul, Nat.reduceEqDiff, ↓reduceIte, forall_const, Int.cast_ofNat_Int, Int.reduceToNat, TF76, KL76]; (try simp (disch := omega) only [wrapI, tmodI, tdivI]); (fail_if_success (with_reducible show False))))
        refine Run_lp ⟨k + 1, ?_, ⟨by omega, fun j hj hjk => ?_, r5, Keep.ext (x3.trans x4) k5 fun q hq => by omega⟩, by omega⟩
        · simp [SubB, fnd, strike, has]
        · by_cases e : j = k
          · subst e; rw [hgo]; exact ⟨hin, h⟩
          · exact hf j hj (by omega)
    · have hd : decide (0 ≤ o ∧ o ≤ n - 1) = false := by simp; omega
      (repeat first | with_reducible first | refine jq ?_ | refine jk ?_ | refine jc ?_ | refine jl ?_ | refine jb ?_ | refine jo ?_ | refine ji ?_ | refine jx rfl ?_ | refine And.intro (by first | assumption | omega | (intros; omega)) ?_ | ((first | refine jR KL76 (by kernel_rfl) fun _ => ?_ | skip); simp only [KS, Nat.reduceAdd, Nat.reduceMul, Nat.reduceEqDiff, ↓reduceIte, forall_const, Int.cast_ofNat_Int, Int.reduceToNat, TF76, KL76, g4, hd, pk_true, pk_false, false_or, or_false, false_imp_iff, true_imp_iff, not_true_eq_false, not_false_eq_true, Bool.true_or, Bool.false_or, Bool.or_true, Bool.or_false, Bool.true_and, Bool.false_and, Bool.and_true, Bool.and_false]; (try simp (disch := omega) only [wrapI, tmodI, tdivI]); (fail_if_success (with_reducible show False))))
      refine Run_condS (fun _ => rfl) (fun _ => ?_) (fun h => by simp at h)
      (repeat first | with_reducible first | refine jq ?_ | refine jk ?_ | refine jc ?_ | refine jl ?_ | refine jb ?_ | refine jo ?_ | refine ji ?_ | refine jx rfl ?_ | refine And.intro (by first | assumption | omega | (intros; omega)) ?_ | ((first | refine jR KL76 (by kernel_rfl) fun _ => ?_ | skip); simp only [KS, Nat.reduceAdd, Nat.reduceMul, Nat.reduceEqDiff, ↓reduceIte, forall_const, Int.cast_ofNat_Int, Int.reduceToNat, TF76, KL76]; (try simp (disch := omega) only [wrapI, tmodI, tdivI]); (fail_if_success (with_reducible show False))))
      refine Run_ret ?_
      have : Tt.stops x n = false := by
        cases hs : Tt.stops x n with
        | false => rfl
        | true => exact (hin (hst hs).1).elim
      simp [Rets, RetM, resV, fnd, oneOr, this]
      exact y3.trans x4
  · simp at h
    obtain rfl : k = x.Offices.length := by omega
    (repeat first | with_reducible first | refine jq ?_ | refine jk ?_ | refine jc ?_ | refine jl ?_ | refine jb ?_ | refine jo ?_ | refine ji ?_ | refine jx rfl ?_ | refine And.intro (by first | assumption | omega | (intros; omega)) ?_ | ((first | refine jR KL76 (by kernel_rfl) fun _ => ?_ | skip); simp only [KS, Nat.reduceAdd, Nat.reduceMul, Nat.reduceEqDiff, ↓reduceIte, forall_const, Int.cast_ofNat_Int, Int.reduceToNat, TF76, KL76]; (try simp (disch := omega) only [wrapI, tmodI, tdivI]); (fail_if_success (with_reducible show False))))
    refine Run_ret ?_
    have : Tt.stops x n = true := Tt.stops_take.2 fun j hj => hf j hj hj
    simp [Rets, RetM, resV, fnd, oneOr, this]
    exact y3
/-- a function whose first arguments are bound -/
theorem CallW_fst {g : FuncId} {fi args : List Value} {w : World} {K : Value → World → Prop} {v : Value} (hc : callable Try.prog g = true) (h : Calls Try.prog g (fi ++ args).toArray w fun e w' => e = .returned v ∧ Ext w w') (hK : ∀ w', Ext w w' → K v w') :
    CallW Try.prog (.func (.func g) fi.toArray #[]) args w K := by
  refine ⟨hc, ?_⟩
  have e : (fi.toArray ++ args.toArray ++ #[] : Array Value) = (fi ++ args).toArray := by simp
  rw [e]
  exact h.mono fun e w' ⟨he, hw⟩ => ⟨v, he, hK w' hw⟩
theorem ttRight (x : LineD) (v0 v1 v2 v3 : Value) (n : Int) (w : World) (hR : LineR w x v0 v1 v2 v3) (h0 : 0 ≤ n) (h24 : n ≤ 24) :
    Calls Try.prog 42 #[.agg (lcs x v0 v1 v2 v3 n).toArray] w fun e w' => e = .returned (.bool (Tt.right x n)) ∧ Ext w w' := by
  refine Calls_of_Run (args := [.agg (lcs x v0 v1 v2 v3 n).toArray]) (n := 23) (rs := [.tmp 2]) Try.func42 rfl rfl rfl (by simp) ?_
  (repeat first | with_reducible first | refine jq ?_ | refine jk ?_ | refine jc ?_ | refine jl ?_ | refine jb ?_ | refine jo ?_ | refine ji ?_ | refine jx rfl ?_ | refine And.intro (by first | assumption | omega | (intros; omega)) ?_ | ((first | refine jR KL42 (by kernel_rfl) fun _ => ?_ | skip); simp only [KS, Nat.reduceAdd, Nat.reduceMul, Nat.reduceEqDiff, ↓reduceIte, forall_const, Int.cast_ofNat_Int, Int.reduceToNat, TF42, KL42]; (try simp (disch := omega) only [wrapI, tmodI, tdivI]); (fail_if_success (with_reducible show False))))
  refine SemW_box fun p w1 hN => ?_
  have x1 := hN.ext
  have g1 := hN.at_.n
  simp only [AtN, KS, Nat.reduceAdd, Nat.reduceMul, Nat.reduceEqDiff, ↓reduceIte, UT] at g1
  (repeat first | with_reducible first | refine jq ?_ | refine jk ?_ | refine jc ?_ | refine jl ?_ | refine jb ?_ | refine jo ?_ | refine ji ?_ | refine jx rfl ?_ | refine And.intro (by first | assumption | omega | (intros; omega)) ?_ | ((first | refine jR KL42 (by kernel_rfl) fun _ => ?_ | skip); simp only [KS, Nat.reduceAdd, Nat.reduceMul, Nat.reduceEqDiff, ↓reduceIte, forall_const, Int.cast_ofNat_Int, Int.reduceToNat, TF42, KL42, g1]; (try simp (disch := omega) only [wrapI, tmodI, tdivI]); (fail_if_success (with_reducible show False))))
  let F (k : FuncId) : Value := .func (.func k) #[.agg (lcs x v0 v1 v2 v3 n).toArray] #[]
  refine SemW_buildSlice (vs := [F 74, F 75, F 76, F 77]) Try.underlying99 ti32 rfl rfl rfl (by simp [Value.cells, F]) (by simp) fun ph w2 hB => ?_
  have x2 := hB.ext
  have g2 := hB.at_.n
  simp only [AtN, KS, Nat.reduceAdd, Nat.reduceMul, Nat.reduceEqDiff, ↓reduceIte, UT, F, List.flatMap_cons, List.flatMap_nil, Value.cells, List.toList_toArray, List.append_nil, List.cons_append, List.nil_append] at g2
  (repeat first | with_reducible first | refine jq ?_ | refine jk ?_ | refine jc ?_ | refine jl ?_ | refine jb ?_ | refine jo ?_ | refine ji ?_ | refine jx rfl ?_ | refine And.intro (by first | assumption | omega | (intros; omega)) ?_ | ((first | refine jR KL42 (by kernel_rfl) fun _ => ?_ | skip); simp only [KS, Nat.reduceAdd, Nat.reduceMul, Nat.reduceEqDiff, ↓reduceIte, forall_const, Int.cast_ofNat_Int, Int.reduceToNat, TF42, KL42]; (try simp (disch := omega) only [wrapI, tmodI, tdivI]); (fail_if_success (with_reducible show False))))
  let P : Nat → Bool := fun k => match k with | 0 => Tt.sized x | 1 => Tt.numbers x | 2 => Tt.stops x n | _ => Tt.legs x
  refine Run_loopV [2, 4, 15, 16, 21] (σ := Nat) (fun k => [(15, some (.int .i64 k))]) (fun k w' => k ≤ 4 ∧ (∀ j, j < k → P j = true) ∧ Ext w2 w') (fun k => 4 - k) 0 (by simp [SubB, fnd]) ⟨by omega, by simp, Ext.refl _⟩ ?_
  rintro k w3 ⟨hk, hf, x3⟩
  have y3 := x1.trans (x2.trans x3)
  (repeat first | with_reducible first | refine jq ?_ | refine jk ?_ | refine jc ?_ | refine jl ?_ | refine jb ?_ | refine jo ?_ | refine ji ?_ | refine jx rfl ?_ | refine And.intro (by first | assumption | omega | (intros; omega)) ?_ | ((first | refine jR KL42 (by kernel_rfl) fun _ => ?_ | skip); simp only [KS, Nat.reduceAdd, Nat.reduceMul, Nat.reduceEqDiff, ↓reduceIte, forall_const, Int.cast_ofNat_Int, Int.reduceToNat, TF42, KL42]; (try simp (disch := omega) only [wrapI, tmodI, tdivI]); (fail_if_success (with_reducible show False))))
  refine Run_condS (fun _ => rfl) (fun h => ?_) (fun h => ?_)
  · simp at h
    have hP : P k = false → Tt.right x n = false := by
      have : k = 0 ∨ k = 1 ∨ k = 2 ∨ k = 3 := by omega
      rcases this with rfl | rfl | rfl | rfl <;> intro hp <;> simp only [P] at hp <;> simp [Tt.right, hp]
    have hC : ∃ g, (mem w3 (ph.add k) = F g ∧ has1 w3 (ph.add k)) ∧ (∀ K : Value → World → Prop, (∀ w', Ext w3 w' → K (.bool (P k)) w') → CallW Try.prog (F g) [] w3 K) := by
      have g3 := (hB.at_.ext x3).n
      simp only [AtN, KS, Nat.reduceAdd, Nat.reduceMul, Nat.reduceEqDiff, ↓reduceIte, UT, F, List.flatMap_cons, List.flatMap_nil, Value.cells, List.toList_toArray, List.append_nil, List.cons_append, List.nil_append] at g3
      have : k = 0 ∨ k = 1 ∨ k = 2 ∨ k = 3 := by omega
      rcases this with rfl | rfl | rfl | rfl
      · exact ⟨74, ⟨by rw [add_zero]; exact g3.2.1, by rw [add_zero]; exact g3.1⟩, fun K hK => CallW_fst (fi := [_]) call74 (ttSized x v0 v1 v2 v3 n w3 (hR.ext y3)) hK⟩
      · exact ⟨75, ⟨g3.2.2.2.1, g3.2.2.1⟩, fun K hK => CallW_fst (fi := [_]) call75 (ttNumbers x v0 v1 v2 v3 n w3) hK⟩
      · exact ⟨76, ⟨g3.2.2.2.2.2.1, g3.2.2.2.2.1⟩, fun K hK => CallW_fst (fi := [_]) call76 (ttStops x v0 v1 v2 v3 n w3 (hR.ext y3) h0 h24) hK⟩
      · exact ⟨77, ⟨g3.2.2.2.2.2.2.2, g3.2.2.2.2.2.2.1⟩, fun K hK => CallW_fst (fi := [_]) call77 (ttLegs x v0 v1 v2 v3 n w3 (hR.ext y3)) hK⟩
    obtain ⟨g, ⟨m1, m2⟩, hC⟩ := hC
    (repeat first | with_reducible first | refine jq ?_ | refine jk ?_ | refine jc ?_ | refine jl ?_ | refine jb ?_ | refine jo ?_ | refine ji ?_ | refine jx rfl ?_ | refine And.intro (by first | assumption | omega | (intros; omega)) ?_ | ((first | refine jR KL42 (by kernel_rfl) fun _ => ?_ | skip); simp only [KS, Nat.reduceAdd, Nat.reduceMul, Nat.reduceEqDiff, ↓reduceIte, forall_const, Int.cast_ofNat_Int, Int.reduceToNat, TF42, KL42, m1, m2]; (try simp (disch := omega) only [wrapI, tmodI, tdivI]); (fail_if_success (with_reducible show False))))
    refine hC _ fun w4 x4 => ?_
    (repeat first | with_reducible first | refine jq ?_ | refine jk ?_ | refine jc ?_ | refine jl ?_ | refine jb ?_ | refine jo ?_ | refine ji ?_ | refine jx rfl ?_ | refine And.intro (by first | assumption | omega | (intros; omega)) ?_ | ((first | refine jR KL42 (by kernel_rfl) fun _ => ?_ | skip); simp only [KS, Nat.reduceAdd, Nat.reduceMul, Nat.reduceEqDiff, ↓reduceIte, forall_const, Int.cast_ofNat_Int, Int.reduceToNat, TF42, KL42]; (try simp (disch := omega) only [wrapI, tmodI, tdivI]); (fail_if_success (with_reducible show False))))
    refine Run_condS (fun _ => rfl) (fun h => ?_) (fun h => ?_)
    · (repeat first | with_reducible first | refine jq ?_ | refine jk ?_ | refine jc ?_ | refine jl ?_ | refine jb ?_ | refine jo ?_ | refine ji ?_ | refine jx rfl ?_ | refine And.intro (by first | assumption | omega | (intros; omega)) ?_ | ((first | refine jR KL42 (by kernel_rfl) fun _ => ?_ | skip); simp only [KS, Nat.reduceAdd, Nat.reduceMul, Nat.reduceEqDiff, ↓reduceIte, forall_const, Int.cast_ofNat_Int, Int.reduceToNat, TF42, KL42]; (try simp (disch := omega) only [wrapI, tmodI, tdivI]); (fail_if_success (with_reducible show False))))
      refine Run_ret ?_
      simp [Rets, RetM, resV, fnd, oneOr, hP (by simpa using h)]
      exact y3.trans x4
    · (repeat first | with_reducible first | refine jq ?_ | refine jk ?_ | refine jc ?_ | refine jl ?_ | refine jb ?_ | refine jo ?_ | refine ji ?_ | refine jx rfl ?_ | refine And.intro (by first | assumption | omega | (intros; omega)) ?_ | ((first | refine jR KL42 (by kernel_rfl) fun _ => ?_ | skip); simp only [KS, Nat.reduceAdd, Nat.reduceMul, Nat.reduceEqDiff, ↓reduceIte, forall_const, Int.cast_ofNat_Int, Int.reduceToNat, TF42, KL42]; (try simp (disch := omega) only [wrapI, tmodI, tdivI]); (fail_if_success (with_reducible show False))))
      refine Run_lp ⟨k + 1, ?_, ⟨by omega, fun j hj => ?_, x3.trans x4⟩, by omega⟩
      · simp [SubB, fnd, strike, has]
      · by_cases e : j = k
        · subst e; simpa using h
        · exact hf j (by omega)
  · simp at h
    obtain rfl : k = 4 := by omega
    (repeat first | with_reducible first | refine jq ?_ | refine jk ?_ | refine jc ?_ | refine jl ?_ | refine jb ?_ | refine jo ?_ | refine ji ?_ | refine jx rfl ?_ | refine And.intro (by first | assumption | omega | (intros; omega)) ?_ | ((first | refine jR KL42 (by kernel_rfl) fun _ => ?_ | skip); simp only [KS, Nat.reduceAdd, Nat.reduceMul, Nat.reduceEqDiff, ↓reduceIte, forall_const, Int.cast_ofNat_Int, Int.reduceToNat, TF42, KL42]; (try simp (disch := omega) only [wrapI, tmodI, tdivI]); (fail_if_success (with_reducible show False))))
    refine Run_ret ?_
    have e0 := hf 0 (by omega)
    have e1 := hf 1 (by omega)
    have e2 := hf 2 (by omega)
    have e3 := hf 3 (by omega)
    simp only [P] at e0 e1 e2 e3
    simp [Rets, RetM, resV, fnd, oneOr, Tt.right, e0, e1, e2, e3]
    exact y3
end Go.Proofs.Ytcncbmdkifdggaa
