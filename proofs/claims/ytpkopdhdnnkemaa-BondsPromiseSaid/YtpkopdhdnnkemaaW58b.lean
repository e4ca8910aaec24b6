/- Chapter 58: amounts, the closures, numbered. -/
import Derived.Test.YtpkopdhdnnkemaaW58a
import Derived.Test.YtpkopdhdnnkemaaBufO
import Derived.Test.YtpkopdhdnnkemaaP58
namespace Go.Proofs.Ytpkopdhdnnkemaa
open Go Go.Fk
set_option linter.unusedSimpArgs false
set_option linter.unusedVariables false
set_option maxRecDepth 100000

theorem bdAmounts1 (n : Int) (w : World) : Calls Try.prog 35 #[.int .i64 n] w fun e w' => e = .returned (.bool (!Bd.am n)) ∧ Ext w w' := by
  refine Calls_of_Run (args := [.int .i64 n]) (n := 9) (rs := [.tmp 2]) Try.func35 rfl rfl rfl (by simp) ?_
  (repeat first | with_reducible first | refine jq ?_ | refine jk ?_ | refine jc ?_ | refine jl ?_ | refine jb ?_ | refine jo ?_ | refine ji ?_ | refine jx rfl ?_ | refine And.intro (by first | assumption | omega | (intros; omega)) ?_ | ((first | refine jR KL35 (by kernel_rfl) fun _ => ?_ | skip); simp only [KS, Nat.reduceAdd, Nat.reduceMul, Nat.reduceEqDiff, ↓reduceIte, forall_const, Int.cast_ofNat_Int, Int.reduceToNat, TF35, KL35]; (try simp (disch := omega) only [wrapI, tmodI, tdivI]); (fail_if_success (with_reducible show False))))
  refine Run_ret ?_
  simp [Rets, RetM, resV, fnd, oneOr, Ext.refl, Bd.am]
  rw [Bool.eq_iff_iff]; simp
theorem any_not (xs : List Int) (q : Int → Bool) : (xs.any fun n => !q n) = !xs.all q := by
  induction xs with
  | nil => rfl
  | cons x xs ih => simp [List.any_cons, List.all_cons, ih]
theorem bdAmounts (v : Value) (xs : List Int) (w : World) (hx : Sl w v xs) : Calls Try.prog 18 #[v] w fun e w' => e = .returned (.bool (xs.all Bd.am)) ∧ Ext w w' := by
  have hh := hasInt v (fnv 35) xs (fun k => !Bd.am (xs.getD k 0)) w hx fun k hk => by
    have e : xs.getD k 0 = xs[k] := by simp [List.getD_eq_getElem?_getD, hk]
    rw [e]; exact Pred_fn call35 (bdAmounts1 xs[k])
  rw [anyN_list (q := fun n => !Bd.am n) fun k hk => by simp [List.getD_eq_getElem?_getD, hk]] at hh
  refine Calls_of_Run (args := [v]) (n := 6) (rs := [.tmp 2]) Try.func18 rfl rfl rfl (by simp) ?_
  (repeat first | with_reducible first | refine jq ?_ | refine jk ?_ | refine jc ?_ | refine jl ?_ | refine jb ?_ | refine jo ?_ | refine ji ?_ | refine jx rfl ?_ | refine And.intro (by first | assumption | omega | (intros; omega)) ?_ | ((first | refine jR KL18 (by kernel_rfl) fun _ => ?_ | skip); simp only [KS, Nat.reduceAdd, Nat.reduceMul, Nat.reduceEqDiff, ↓reduceIte, forall_const, Int.cast_ofNat_Int, Int.reduceToNat, TF18, KL18]; (try simp (disch := omega) only [wrapI, tmodI, tdivI]); (fail_if_success (with_reducible show False))))
  refine CallW_pure call34 hh fun w1 x1 => ?_
  (repeat first | with_reducible first | refine jq ?_ | refine jk ?_ | refine jc ?_ | refine jl ?_ | refine jb ?_ | refine jo ?_ | refine ji ?_ | refine jx rfl ?_ | refine And.intro (by first | assumption | omega | (intros; omega)) ?_ | ((first | refine jR KL18 (by kernel_rfl) fun _ => ?_ | skip); simp only [KS, Nat.reduceAdd, Nat.reduceMul, Nat.reduceEqDiff, ↓reduceIte, forall_const, Int.cast_ofNat_Int, Int.reduceToNat, TF18, KL18]; (try simp (disch := omega) only [wrapI, tmodI, tdivI]); (fail_if_success (with_reducible show False))))
  refine Run_ret ?_
  simp [Rets, RetM, resV, fnd, oneOr, x1]
  exact any_not xs _
theorem c36 : Try.prog.cellsOf 36 ≠ 0 := by rw [cells36]; decide
theorem m36 : manyCell Try.prog 36 = true := by kernel_rfl
theorem bdDep1 (n x a : Int) (p : Addr) (w : World) (hp : At w p [.int .i64 a]) (h0 : 0 ≤ n) (h1 : n ≤ 24) :
    Calls Try.prog 21 #[.int .i64 n, .int .i64 x, .pointer (some p)] w fun e w' => e = .returned (.agg (Bd.depM a n x).cs.toArray) ∧ Ext w w' := by
  refine Calls_of_Run (args := [.int .i64 n, .int .i64 x, .pointer (some p)]) (n := 10) (rs := [.cell 5 36]) Try.func21 rfl rfl rfl (by simp) ?_
  (repeat first | with_reducible first | refine jq ?_ | refine jk ?_ | refine jc ?_ | refine jl ?_ | refine jb ?_ | refine jo ?_ | refine ji ?_ | refine jx rfl ?_ | refine And.intro (by first | assumption | omega | (intros; omega)) ?_ | ((first | refine jR KL21 (by kernel_rfl) fun _ => ?_ | skip); simp only [KS, Nat.reduceAdd, Nat.reduceMul, Nat.reduceEqDiff, ↓reduceIte, forall_const, Int.cast_ofNat_Int, Int.reduceToNat, TF21, KL21]; (try simp (disch := omega) only [wrapI, tmodI, tdivI]); (fail_if_success (with_reducible show False))))
  refine SemW_allocT ti36 fun q w1 hN => ?_
  have g1 := (hp.ext hN.ext).n
  simp only [AtN, add_zero] at g1
  (repeat first | with_reducible first | refine jq ?_ | refine jk ?_ | refine jc ?_ | refine jl ?_ | refine jb ?_ | refine jo ?_ | refine ji ?_ | refine jx rfl ?_ | refine And.intro (by first | assumption | omega | (intros; omega)) ?_ | ((first | refine jR KL21 (by kernel_rfl) fun _ => ?_ | skip); simp only [KS, Nat.reduceAdd, Nat.reduceMul, Nat.reduceEqDiff, ↓reduceIte, forall_const, Int.cast_ofNat_Int, Int.reduceToNat, TF21, KL21, g1.1, g1.2.1]; (try simp (disch := omega) only [wrapI, tmodI, tdivI]); (fail_if_success (with_reducible show False))))
  refine ⟨.agg (Bd.depM a n x).cs.toArray, fun w' => by kernel_rfl, ?_⟩
  refine SemW_setW c36 (by rw [cells36]; rfl) hN.row (by rw [cells36]; rfl) rfl fun w2 r2 k2 s2 => ?_
  (repeat first | with_reducible first | refine jq ?_ | refine jk ?_ | refine jc ?_ | refine jl ?_ | refine jb ?_ | refine jo ?_ | refine ji ?_ | refine jx rfl ?_ | refine And.intro (by first | assumption | omega | (intros; omega)) ?_ | ((first | refine jR KL21 (by kernel_rfl) fun _ => ?_ | skip); simp only [KS, Nat.reduceAdd, Nat.reduceMul, Nat.reduceEqDiff, ↓reduceIte, forall_const, Int.cast_ofNat_Int, Int.reduceToNat, TF21, KL21]; (try simp (disch := omega) only [wrapI, tmodI, tdivI]); (fail_if_success (with_reducible show False))))
  refine Run_ret ?_
  have hb := hN.blk
  simp only [Rets, RetM, resV]
  refine ⟨q, _, rfl, loadVar_at m36 c36 (by rw [cells36]; rfl) r2.at_, ?_⟩
  simp only [oneOr]
  exact ⟨rfl, Keep.ext hN.ext k2 fun k hk => by omega⟩
theorem bdFree1 (n a : Int) (w : World) (h0 : 0 ≤ n) (h1 : n ≤ 24) :
    Calls Try.prog 23 #[.int .i64 n, .int .i64 a] w fun e w' => e = .returned (.agg (Bd.freeM n a).cs.toArray) ∧ Ext w w' := by
  refine Calls_of_Run (args := [.int .i64 n, .int .i64 a]) (n := 9) (rs := [.cell 4 36]) Try.func23 rfl rfl rfl (by simp) ?_
  (repeat first | with_reducible first | refine jq ?_ | refine jk ?_ | refine jc ?_ | refine jl ?_ | refine jb ?_ | refine jo ?_ | refine ji ?_ | refine jx rfl ?_ | refine And.intro (by first | assumption | omega | (intros; omega)) ?_ | ((first | refine jR KL23 (by kernel_rfl) fun _ => ?_ | skip); simp only [KS, Nat.reduceAdd, Nat.reduceMul, Nat.reduceEqDiff, ↓reduceIte, forall_const, Int.cast_ofNat_Int, Int.reduceToNat, TF23, KL23]; (try simp (disch := omega) only [wrapI, tmodI, tdivI]); (fail_if_success (with_reducible show False))))
  refine SemW_allocT ti36 fun q w1 hN => ?_
  (repeat first | with_reducible first | refine jq ?_ | refine jk ?_ | refine jc ?_ | refine jl ?_ | refine jb ?_ | refine jo ?_ | refine ji ?_ | refine jx rfl ?_ | refine And.intro (by first | assumption | omega | (intros; omega)) ?_ | ((first | refine jR KL23 (by kernel_rfl) fun _ => ?_ | skip); simp only [KS, Nat.reduceAdd, Nat.reduceMul, Nat.reduceEqDiff, ↓reduceIte, forall_const, Int.cast_ofNat_Int, Int.reduceToNat, TF23, KL23]; (try simp (disch := omega) only [wrapI, tmodI, tdivI]); (fail_if_success (with_reducible show False))))
  refine ⟨.agg (Bd.freeM n a).cs.toArray, fun w' => by kernel_rfl, ?_⟩
  refine SemW_setW c36 (by rw [cells36]; rfl) hN.row (by rw [cells36]; rfl) rfl fun w2 r2 k2 s2 => ?_
  (repeat first | with_reducible first | refine jq ?_ | refine jk ?_ | refine jc ?_ | refine jl ?_ | refine jb ?_ | refine jo ?_ | refine ji ?_ | refine jx rfl ?_ | refine And.intro (by first | assumption | omega | (intros; omega)) ?_ | ((first | refine jR KL23 (by kernel_rfl) fun _ => ?_ | skip); simp only [KS, Nat.reduceAdd, Nat.reduceMul, Nat.reduceEqDiff, ↓reduceIte, forall_const, Int.cast_ofNat_Int, Int.reduceToNat, TF23, KL23]; (try simp (disch := omega) only [wrapI, tmodI, tdivI]); (fail_if_success (with_reducible show False))))
  refine Run_ret ?_
  have hb := hN.blk
  simp only [Rets, RetM, resV]
  refine ⟨q, _, rfl, loadVar_at m36 c36 (by rw [cells36]; rfl) r2.at_, ?_⟩
  simp only [oneOr]
  exact ⟨rfl, Keep.ext hN.ext k2 fun k hk => by omega⟩
theorem bdPay1 (n a o s : Int) (p1 p2 : Addr) (w : World) (hp1 : At w p1 [.int .i64 o]) (hp2 : At w p2 [.int .i64 s]) (h0 : 0 ≤ o) (h1 : o ≤ 24) (h2 : 0 ≤ s) (h3 : s ≤ 64) :
    Calls Try.prog 25 #[.int .i64 n, .int .i64 a, .pointer (some p1), .pointer (some p2)] w fun e w' => e = .returned (.agg (Bd.payM o s n a).cs.toArray) ∧ Ext w w' := by
  refine Calls_of_Run (args := [.int .i64 n, .int .i64 a, .pointer (some p1), .pointer (some p2)]) (n := 13) (rs := [.cell 6 36]) Try.func25 rfl rfl rfl (by simp) ?_
  (repeat first | with_reducible first | refine jq ?_ | refine jk ?_ | refine jc ?_ | refine jl ?_ | refine jb ?_ | refine jo ?_ | refine ji ?_ | refine jx rfl ?_ | refine And.intro (by first | assumption | omega | (intros; omega)) ?_ | ((first | refine jR KL25 (by kernel_rfl) fun _ => ?_ | skip); simp only [KS, Nat.reduceAdd, Nat.reduceMul, Nat.reduceEqDiff, ↓reduceIte, forall_const, Int.cast_ofNat_Int, Int.reduceToNat, TF25, KL25]; (try simp (disch := omega) only [wrapI, tmodI, tdivI]); (fail_if_success (with_reducible show False))))
  refine SemW_allocT ti36 fun q w1 hN => ?_
  have g1 := (hp1.ext hN.ext).n
  have g2 := (hp2.ext hN.ext).n
  simp only [AtN, add_zero] at g1 g2
  (repeat first | with_reducible first | refine jq ?_ | refine jk ?_ | refine jc ?_ | refine jl ?_ | refine jb ?_ | refine jo ?_ | refine ji ?_ | refine jx rfl ?_ | refine And.intro (by first | assumption | omega | (intros; omega)) ?_ | ((first | refine jR KL25 (by kernel_rfl) fun _ => ?_ | skip); simp only [KS, Nat.reduceAdd, Nat.reduceMul, Nat.reduceEqDiff, ↓reduceIte, forall_const, Int.cast_ofNat_Int, Int.reduceToNat, TF25, KL25, g1.1, g1.2.1, g2.1, g2.2.1]; (try simp (disch := omega) only [wrapI, tmodI, tdivI]); (fail_if_success (with_reducible show False))))
  refine ⟨.agg (Bd.payM o s n a).cs.toArray, fun w' => by kernel_rfl, ?_⟩
  refine SemW_setW c36 (by rw [cells36]; rfl) hN.row (by rw [cells36]; rfl) rfl fun w2 r2 k2 s2 => ?_
  (repeat first | with_reducible first | refine jq ?_ | refine jk ?_ | refine jc ?_ | refine jl ?_ | refine jb ?_ | refine jo ?_ | refine ji ?_ | refine jx rfl ?_ | refine And.intro (by first | assumption | omega | (intros; omega)) ?_ | ((first | refine jR KL25 (by kernel_rfl) fun _ => ?_ | skip); simp only [KS, Nat.reduceAdd, Nat.reduceMul, Nat.reduceEqDiff, ↓reduceIte, forall_const, Int.cast_ofNat_Int, Int.reduceToNat, TF25, KL25]; (try simp (disch := omega) only [wrapI, tmodI, tdivI]); (fail_if_success (with_reducible show False))))
  refine Run_ret ?_
  have hb := hN.blk
  simp only [Rets, RetM, resV]
  refine ⟨q, _, rfl, loadVar_at m36 c36 (by rw [cells36]; rfl) r2.at_, ?_⟩
  simp only [oneOr]
  exact ⟨rfl, Keep.ext hN.ext k2 fun k hk => by omega⟩

/-- a function that makes a move of an element and its number -/
def OfP (P : Program) (f : Value) (F : Int → Int → MoveD) (xs : List Int) (w : World) : Prop :=
  ∀ k (hk : k < xs.length) w1, Ext w w1 → CallW P f [.int .i64 (k : Int), .int .i64 xs[k]] w1 fun v w2 => v = .agg (F k xs[k]).cs.toArray ∧ Ext w1 w2
def MI (m : MoveD) : Prop := I64 m.No ∧ I64 m.From ∧ I64 m.To ∧ I64 m.Amount ∧ I64 m.Why ∧ I64 m.Run

/-- where numbered keeps its things -/
structure NS (w : World) (B : Nat) (po pm : Addr) (fv : Value) (ms : List MoveD) (w' : World) : Prop where
  ext : Ext w w'
  o : At w' po [fv]
  m : ∃ vm, Row w' pm 24 [vm] ∧ BufO (α := MoveD) 36 B w' vm ms
theorem NS.keep {w w1 w2 : World} {B : Nat} {po pm : Addr} {fv : Value} {ms : List MoveD} {S : Nat → Prop} (h : NS w B po pm fv ms w1) (hk : Keep S w1 w2) (hw : ∀ k, k < w.heap.size → S k) (h1 : S po.block) (h2 : S pm.block) (h3 : ∀ g, B ≤ g → g < w1.heap.size → S g) : NS w B po pm fv ms w2 := by
  obtain ⟨vm, hr, hb⟩ := h.m
  exact ⟨Keep.ext h.ext hk hw, h.o.keep hk h1, vm, hr.keep hk h2, hb.keep hk h3⟩
theorem NS.lt {w w1 : World} {B : Nat} {po pm : Addr} {fv : Value} {ms : List MoveD} (h : NS w B po pm fv ms w1) : pm.block < w1.heap.size := by
  obtain ⟨vm, hr, hb⟩ := h.m
  exact hr.lt

abbrev fIt (ps : Addr) : Value := .func (.func 36) #[] #[.pointer (some ps)]
theorem bdNum (ps : Addr) (v : Value) (xs : List Int) (fv : Value) (F : Int → Int → MoveD) (w : World) (hx : Sl w v xs) (hps : Row w ps 22 [v]) (hof : OfP Try.prog fv F xs w) (hF : ∀ k (hk : k < xs.length), MI (F k xs[k])) (hn : xs.length ≤ 1000) (hfv : fv.cells = #[fv]) (hf1 : fv.oneCell' = true) :
    Calls Try.prog 20 #[fIt ps, fv] w fun e w' => ∃ v', e = .returned v' ∧ Ext w w' ∧ BufO (α := MoveD) 36 w.heap.size w' v' (Bd.mk F xs) := by
  refine Calls_of_Run (args := [fIt ps, fv]) (n := 24) (rs := [.cell 4 24]) Try.func20 rfl rfl rfl (by simp) ?_
  (repeat first | with_reducible first | refine jq ?_ | refine jk ?_ | refine jc ?_ | refine jl ?_ | refine jb ?_ | refine jo ?_ | refine ji ?_ | refine jx rfl ?_ | refine And.intro (by first | assumption | omega | (intros; omega)) ?_ | ((first | refine jR KL20 (by kernel_rfl) fun _ => ?_ | skip); simp only [KS, Nat.reduceAdd, Nat.reduceMul, Nat.reduceEqDiff, ↓reduceIte, forall_const, Int.cast_ofNat_Int, Int.reduceToNat, TF20, KL20]; (try simp (disch := omega) only [wrapI, tmodI, tdivI]); (fail_if_success (with_reducible show False))))
  refine SemW_box fun po w1 h1 => SemW_allocT ti24 fun pm w2 h2 => ?_
  have b1 := h1.blk
  have b2 := h2.blk
  have z1 := h1.size
  have z2 := h2.size
  have x2 := h1.ext.trans h2.ext
  rw [hfv] at h1
  have hS2 : NS w (w2.heap.size + 2) po pm fv ((Bd.mk F xs).take 0) w2 := ⟨x2, h1.at_.ext h2.ext, _, h2.row, by rw [List.take_zero]; exact BufO.nil⟩
  have pl := hps.lt
  (repeat first | with_reducible first | refine jq ?_ | refine jk ?_ | refine jc ?_ | refine jl ?_ | refine jb ?_ | refine jo ?_ | refine ji ?_ | refine jx rfl ?_ | refine And.intro (by first | assumption | omega | (intros; omega)) ?_ | ((first | refine jR KL20 (by kernel_rfl) fun _ => ?_ | skip); simp only [KS, Nat.reduceAdd, Nat.reduceMul, Nat.reduceEqDiff, ↓reduceIte, forall_const, Int.cast_ofNat_Int, Int.reduceToNat, TF20, KL20]; (try simp (disch := omega) only [wrapI, tmodI, tdivI]); (fail_if_success (with_reducible show False))))
  refine Run_iter [9, 10] (fun _ => rfl) call36 (by simp) (pairs xs) (fun x hx => by simp [pairs] at hx; obtain ⟨_, _, rfl⟩ := hx; rfl) (fun _ => False) (fun k => k < w.heap.size) (fun k hk => hk.elim) (fun k hk => by omega)
    (fun j w' => NS w (w2.heap.size + 2) po pm fv ((Bd.mk F xs).take j) w')
    (fun e w' => False)
    (fun yv J Jx w1 hc hx1 h0 => by
      have := allIter w ps v xs hx (fun k => k < w.heap.size) pl (fun k hk => hk) yv J Jx w1 hc (x2.trans hx1) (hps.ext (x2.trans hx1)) h0
      simpa using this)
    (fun w1 hx1 _ => hS2.keep (Keep.of_ext (S := fun _ => True) hx1) (fun _ _ => trivial) trivial trivial fun _ _ _ => trivial)
    (fun j u1 u2 hS hk => hS.keep hk (fun k hk => ⟨id, by omega, by omega⟩) ⟨id, by omega, by omega⟩ ⟨id, by omega, by omega⟩ (fun g hg _ => ⟨id, by omega, by omega⟩))
    (fun e u1 u2 he hk => he.elim) ?_ ?_ ?_
  · intro j hj w8 hS8 z8
    rw [pairs_len] at hj
    rw [pairs_get _ hj]
    simp only [zipL]
    (repeat first | with_reducible first | refine jq ?_ | refine jk ?_ | refine jc ?_ | refine jl ?_ | refine jb ?_ | refine jo ?_ | refine ji ?_ | refine jx rfl ?_ | refine And.intro (by first | assumption | omega | (intros; omega)) ?_ | ((first | refine jR KL20 (by kernel_rfl) fun _ => ?_ | skip); simp only [KS, Nat.reduceAdd, Nat.reduceMul, Nat.reduceEqDiff, ↓reduceIte, forall_const, Int.cast_ofNat_Int, Int.reduceToNat, TF20, KL20]; (try simp (disch := omega) only [wrapI, tmodI, tdivI]); (fail_if_success (with_reducible show False))))
    refine Run_lp ⟨Keep.refl _ _, fun w10 k10 z10 => ?_⟩
    have hS10 := hS8.keep k10 (fun k hk => by omega) (by omega) (by omega) (fun g hg _ => by omega)
    have q1 := hS10.o.n
    simp only [AtN, add_zero] at q1
    (repeat first | with_reducible first | refine jq ?_ | refine jk ?_ | refine jc ?_ | refine jl ?_ | refine jb ?_ | refine jo ?_ | refine ji ?_ | refine jx rfl ?_ | refine And.intro (by first | assumption | omega | (intros; omega)) ?_ | ((first | refine jR KL20 (by kernel_rfl) fun _ => ?_ | skip); simp only [KS, Nat.reduceAdd, Nat.reduceMul, Nat.reduceEqDiff, ↓reduceIte, forall_const, Int.cast_ofNat_Int, Int.reduceToNat, TF20, KL20, q1.1, q1.2.1]; (try simp (disch := omega) only [wrapI, tmodI, tdivI]); (fail_if_success (with_reducible show False))))
    refine (hof j hj w10 hS10.ext).mono fun u w11 ⟨hu, x11⟩ => ?_
    subst hu
    have hS11 := hS10.keep (Keep.of_ext (S := fun _ => True) x11) (fun _ _ => trivial) trivial trivial fun _ _ _ => trivial
    refine SemW_var ti36 rfl (by simp [Value.cells, MoveD.cs]) (by decide) rfl fun py w12 h12 => ?_
    have b12 := h12.blk
    have z11 := x11.size
    have z12 := h12.size
    have hS12 := hS11.keep (Keep.of_ext (S := fun _ => True) h12.ext) (fun _ _ => trivial) trivial trivial fun _ _ _ => trivial
    have lt12 := hS11.lt
    obtain ⟨vm, rm, bm⟩ := hS12.m
    obtain ⟨m1, m2⟩ := row1 rm
    obtain ⟨m3, m4⟩ := bm.isS
    have r12 : Row w12 py 36 (F j xs[j]).cs := by simpa [Value.cells] using h12.row
    rw [show ((Bd.mk F xs).take j).length = j by simp [Bd.mk_len]; omega] at m4
    (repeat first | with_reducible first | refine jq ?_ | refine jk ?_ | refine jc ?_ | refine jl ?_ | refine jb ?_ | refine jo ?_ | refine ji ?_ | refine jx rfl ?_ | refine And.intro (by first | assumption | omega | (intros; omega)) ?_ | ((first | refine jR KL20 (by kernel_rfl) fun _ => ?_ | skip); simp only [KS, Nat.reduceAdd, Nat.reduceMul, Nat.reduceEqDiff, ↓reduceIte, forall_const, Int.cast_ofNat_Int, Int.reduceToNat, TF20, KL20, m1, m2, m3, m4]; (try simp (disch := omega) only [wrapI, tmodI, tdivI]); (fail_if_success (with_reducible show False))))
    refine SemW_set0 cells3 r12 (by simp [MoveD.cs]) rfl rfl fun w13 r13 k13 s13 => ?_
    refine SemW_setAt cells3 r13 (by simp [MoveD.cs]) rfl rfl fun w14 r14 k14 s14 => ?_
    have r14 : Row w14 py 36 (Bd.numb j (F j xs[j])).cs := r14
    have kk : Keep (fun k => k ≠ py.block) w11 w14 := (Keep.of_ext h12.ext).trans (k13.trans k14)
    have hS14 := hS11.keep kk (fun k hk => by omega) (by omega) (by omega) (fun g hg _ => by omega)
    obtain ⟨vm, rm, bm⟩ := hS14.m
    obtain ⟨m1, m2⟩ := row1 rm
    have n1 := r14.n
    simp only [MoveD.cs, AtN, KS, Nat.reduceAdd, Nat.reduceMul, Nat.reduceEqDiff, ↓reduceIte, UT] at n1
    (repeat first | with_reducible first | refine jq ?_ | refine jk ?_ | refine jc ?_ | refine jl ?_ | refine jb ?_ | refine jo ?_ | refine ji ?_ | refine jx rfl ?_ | refine And.intro (by first | assumption | omega | (intros; omega)) ?_ | ((first | refine jR KL20 (by kernel_rfl) fun _ => ?_ | skip); simp only [KS, Nat.reduceAdd, Nat.reduceMul, Nat.reduceEqDiff, ↓reduceIte, forall_const, Int.cast_ofNat_Int, Int.reduceToNat, TF20, KL20, m1, m2, n1]; (try simp (disch := omega) only [wrapI, tmodI, tdivI]); (fail_if_success (with_reducible show False))))
    refine SemW_append1FO (α := MoveD) (X := .agg (Bd.numb j (F j xs[j])).cs.toArray) (x := Bd.numb j (F j xs[j])) Try.underlying24 ti36 rfl (by decide) bm (by omega) ⟨rfl, ?_⟩ (by simp [maxLen, Bd.mk_len]; omega) fun s v' w15 b15 k15 => ?_
    · have := hF j hj
      unfold MI at this
      exact ⟨by simp [Bd.numb, I64]; omega, this.2.1, this.2.2.1, this.2.2.2.1, this.2.2.2.2.1, by simp [Bd.numb, I64]⟩
    rw [← Bd.mk_take hj] at b15
    have k15 := bm.below k15
    (repeat first | with_reducible first | refine jq ?_ | refine jk ?_ | refine jc ?_ | refine jl ?_ | refine jb ?_ | refine jo ?_ | refine ji ?_ | refine jx rfl ?_ | refine And.intro (by first | assumption | omega | (intros; omega)) ?_ | ((first | refine jR KL20 (by kernel_rfl) fun _ => ?_ | skip); simp only [KS, Nat.reduceAdd, Nat.reduceMul, Nat.reduceEqDiff, ↓reduceIte, forall_const, Int.cast_ofNat_Int, Int.reduceToNat, TF20, KL20]; (try simp (disch := omega) only [wrapI, tmodI, tdivI]); (fail_if_success (with_reducible show False))))
    refine SemW_set1 cells24 (rm.keep k15 (by omega)) (isS_one b15.isS.1).1 (isS_one b15.isS.1).2 fun w16 r16 k16 s16 => ?_
    rw [isS_cells b15.isS.1] at r16
    (repeat first | with_reducible first | refine jq ?_ | refine jk ?_ | refine jc ?_ | refine jl ?_ | refine jb ?_ | refine jo ?_ | refine ji ?_ | refine jx rfl ?_ | refine And.intro (by first | assumption | omega | (intros; omega)) ?_ | ((first | refine jR KL20 (by kernel_rfl) fun _ => ?_ | skip); simp only [KS, Nat.reduceAdd, Nat.reduceMul, Nat.reduceEqDiff, ↓reduceIte, forall_const, Int.cast_ofNat_Int, Int.reduceToNat, TF20, KL20]; (try simp (disch := omega) only [wrapI, tmodI, tdivI]); (fail_if_success (with_reducible show False))))
    have hS14 := hS14
    have z15 := k15.size
    have e16 : Ext w w16 := Keep.ext (Keep.ext hS14.ext k15 fun k hk => by omega) k16 fun k hk => by omega
    have kb : Keep (fun k => k < w2.heap.size + 2 ∧ k ≠ pm.block) w10 w16 := (Keep.of_ext x11).trans ((kk.mono fun k _ hk => by omega).trans ((k15.mono fun k _ hk => by omega).trans (k16.mono fun k _ hk => by omega)))
    refine Run_nil ⟨kb.mono fun k _ hk' => by omega, e16, ((hS14.o.keep k15 (by omega)).keep k16 (by omega)), v', r16, b15.keep k16 (fun g hg _ => by omega)⟩
  · intro w8 hS8 hd
    rw [pairs_len, List.take_of_length_le (by rw [Bd.mk_len]; omega)] at hS8
    obtain ⟨vm, rm, bm⟩ := hS8.m
    obtain ⟨m1, m2⟩ := row1 rm
    have sl := bm.sl (by rw [Bd.mk_len]; omega)
    (repeat first | with_reducible first | refine jq ?_ | refine jk ?_ | refine jc ?_ | refine jl ?_ | refine jb ?_ | refine jo ?_ | refine ji ?_ | refine jx rfl ?_ | refine And.intro (by first | assumption | omega | (intros; omega)) ?_ | ((first | refine jR KL20 (by kernel_rfl) fun _ => ?_ | skip); simp only [KS, Nat.reduceAdd, Nat.reduceMul, Nat.reduceEqDiff, ↓reduceIte, forall_const, Int.cast_ofNat_Int, Int.reduceToNat, TF20, KL20, m1, m2]; (try simp (disch := omega) only [wrapI, tmodI, tdivI]); (fail_if_success (with_reducible show False))))
    refine SemW_set1 cells24 rm (isS_one sl.s).1 (isS_one sl.s).2 fun w9 r9 k9 s9 => ?_
    rw [isS_cells sl.s] at r9
    (repeat first | with_reducible first | refine jq ?_ | refine jk ?_ | refine jc ?_ | refine jl ?_ | refine jb ?_ | refine jo ?_ | refine ji ?_ | refine jx rfl ?_ | refine And.intro (by first | assumption | omega | (intros; omega)) ?_ | ((first | refine jR KL20 (by kernel_rfl) fun _ => ?_ | skip); simp only [KS, Nat.reduceAdd, Nat.reduceMul, Nat.reduceEqDiff, ↓reduceIte, forall_const, Int.cast_ofNat_Int, Int.reduceToNat, TF20, KL20]; (try simp (disch := omega) only [wrapI, tmodI, tdivI]); (fail_if_success (with_reducible show False))))
    refine Run_ret (RetM_one (d := w2.heap.size) ?_ fun w10 k10 _ => ?_)
    · rw [k9.block _ (Array.getElem?_eq_some_iff.1 hd).1 (by omega)]; exact hd
    have bm10 := (bm.keep k9 (fun g hg _ => by omega)).keep k10 (fun g hg _ => by omega)
    simp only [resV]
    exact ⟨pm, _, rfl, loadVar_row rfl (r9.keep k10 (by omega)), vm, rfl, Keep.ext (Keep.ext hS8.ext k9 fun k hk => by omega) k10 fun k hk => by omega, bm10.mono (by omega)⟩
  · intro e w8 he hd
    exact he.elim
end Go.Proofs.Ytpkopdhdnnkemaa
