/- Chapter 40: covers, Collect, Cover, Share. -/
import Derived.Test.YtcncbmdkifdggaaW40b
import Derived.Test.YtcncbmdkifdggaaB38e
namespace Go.Proofs.Ytcncbmdkifdggaa
open Go Go.Fk
set_option linter.unusedSimpArgs false
set_option linter.unusedVariables false
set_option maxRecDepth 100000

theorem c45m : Try.prog.cellsOf 45 ≠ 0 := by rw [cells45]; decide
def MI (m : MoveD) : Prop := I64 m.No ∧ I64 m.From ∧ I64 m.To ∧ I64 m.Amount ∧ I64 m.Why ∧ I64 m.Run
abbrev fCov (p1 p2 p3 : Addr) : Value := .func (.func 63) #[] #[.pointer (some p1), .pointer (some p2), .pointer (some p3)]
theorem fdCovers (v : Value) (n run : Int) (w : World) (hv : v.cells = #[v]) :
    Calls Try.prog 32 #[v, .int .i64 n, .int .i64 run] w fun e w' => ∃ p1 p2 p3, e = .returned (fCov p1 p2 p3) ∧ Ext w w' ∧ At w' p1 [v] ∧ At w' p2 [.int .i64 n] ∧ At w' p3 [.int .i64 run] := by
  refine Calls_of_Run (args := [v, .int .i64 n, .int .i64 run]) (n := 8) (rs := [.tmp 6]) Try.func32 rfl rfl rfl (by simp) ?_
  (repeat first | with_reducible first | refine jq ?_ | refine jk ?_ | refine jc ?_ | refine jl ?_ | refine jb ?_ | refine jo ?_ | refine ji ?_ | refine jx rfl ?_ | refine And.intro (by first | assumption | omega | (intros; omega)) ?_ | ((first | refine jR KL32 (by kernel_rfl) fun _ => ?_ | skip); simp only [KS, Nat.reduceAdd, Nat.reduceMul, Nat.reduceEqDiff, ↓reduceIte, forall_const, Int.cast_ofNat_Int, Int.reduceToNat, TF32, KL32]; (try simp (disch := omega) only [wrapI, tmodI, tdivI]); (fail_if_success (with_reducible show False))))
  refine SemW_box fun p1 w1 h1 => SemW_box fun p2 w2 h2 => SemW_box fun p3 w3 h3 => ?_
  (repeat first | with_reducible first | refine jq ?_ | refine jk ?_ | refine jc ?_ | refine jl ?_ | refine jb ?_ | refine jo ?_ | refine ji ?_ | refine jx rfl ?_ | refine And.intro (by first | assumption | omega | (intros; omega)) ?_ | ((first | refine jR KL32 (by kernel_rfl) fun _ => ?_ | skip); simp only [KS, Nat.reduceAdd, Nat.reduceMul, Nat.reduceEqDiff, ↓reduceIte, forall_const, Int.cast_ofNat_Int, Int.reduceToNat, TF32, KL32]; (try simp (disch := omega) only [wrapI, tmodI, tdivI]); (fail_if_success (with_reducible show False))))
  refine Run_ret ?_
  simp only [Rets, RetM, resV, fnd, oneOr, ↓reduceIte]
  rw [hv] at h1
  exact ⟨_, rfl, p1, p2, p3, rfl, h1.ext.trans (h2.ext.trans h3.ext), h1.at_.ext (h2.ext.trans h3.ext), h2.at_.ext h3.ext, h3.at_⟩
def mvItems (l : List MoveD) : List (List Value) := l.map fun m => [.agg m.cs.toArray]
theorem mvItems_len (l : List MoveD) : (mvItems l).length = l.length := by simp [mvItems]
theorem mvItems_get {l : List MoveD} {k : Nat} (h : k < (mvItems l).length) (h' : k < l.length) : (mvItems l)[k] = [.agg l[k].cs.toArray] := by simp [mvItems]
/-- a function that yields moves -/
def IterM (P : Program) (f : FuncId) (cap : Array Value) (items : List MoveD) (w : World) : Prop :=
  ∀ (kp : Nat → Prop) (yv : Value) (J : Nat → World → Prop) (Jx : World → Prop) (w1 : World), (∀ k, k < w.heap.size → kp k) → Cons P yv (mvItems items) (fun _ => False) kp J Jx → Ext w w1 → J 0 w1 →
    Calls P f (#[] ++ #[yv] ++ cap) w1 fun e w' => e = .returned (.tuple #[]) ∧ (Jx w' ∨ J (mvItems items).length w')
theorem covIter (p1 p2 p3 : Addr) (v : Value) (l : List Int) (n run : Int) (W : World) (hx : Sl W v l) (a1 : At W p1 [v]) (a2 : At W p2 [.int .i64 n]) (a3 : At W p3 [.int .i64 run]) (hb : ∀ o ∈ l, 0 ≤ o ∧ o ≤ 24) :
    IterM Try.prog 63 #[.pointer (some p1), .pointer (some p2), .pointer (some p3)] (Fd.covs n run l) W := by
  intro kp yv J Jx w hkp hc hW h0
  have hn := hx.small
  have R1 : ∀ w', Ext W w' → AtN w' p1 0 [v] := fun w' x => (a1.ext x).n
  have R2 : ∀ w', Ext W w' → AtN w' p2 0 [.int .i64 n] := fun w' x => (a2.ext x).n
  have R3 : ∀ w', Ext W w' → AtN w' p3 0 [.int .i64 run] := fun w' x => (a3.ext x).n
  simp only [AtN, add_zero] at R1 R2 R3
  have q1 := R1 w hW
  have e : (#[] ++ #[yv] ++ #[.pointer (some p1), .pointer (some p2), .pointer (some p3)] : Array Value) = [yv, .pointer (some p1), .pointer (some p2), .pointer (some p3)].toArray := rfl
  rw [e]
  refine Calls_of_Run (args := [yv, .pointer (some p1), .pointer (some p2), .pointer (some p3)]) (n := 24) (rs := []) Try.func63 rfl rfl rfl (by simp) ?_
  (repeat first | with_reducible first | refine jq ?_ | refine jk ?_ | refine jc ?_ | refine jl ?_ | refine jb ?_ | refine jo ?_ | refine ji ?_ | refine jx rfl ?_ | refine And.intro (by first | assumption | omega | (intros; omega)) ?_ | ((first | refine jR KL63 (by kernel_rfl) fun _ => ?_ | skip); simp only [KS, Nat.reduceAdd, Nat.reduceMul, Nat.reduceEqDiff, ↓reduceIte, forall_const, Int.cast_ofNat_Int, Int.reduceToNat, TF63, KL63, q1.1, q1.2.1, hx.s, hx.len]; (try simp (disch := omega) only [wrapI, tmodI, tdivI]); (fail_if_success (with_reducible show False))))
  refine Run_loopV [5, 6, 9, 10, 22] (σ := Nat) (fun k => [(9, some (.int .i64 k))]) (fun k w' => k ≤ l.length ∧ J k w' ∧ Ext W w') (fun k => l.length - k) 0 (by simp [SubB, fnd]) ⟨by omega, h0, hW⟩ ?_
  rintro k w1 ⟨hk, hJ, hE⟩
  (repeat first | with_reducible first | refine jq ?_ | refine jk ?_ | refine jc ?_ | refine jl ?_ | refine jb ?_ | refine jo ?_ | refine ji ?_ | refine jx rfl ?_ | refine And.intro (by first | assumption | omega | (intros; omega)) ?_ | ((first | refine jR KL63 (by kernel_rfl) fun _ => ?_ | skip); simp only [KS, Nat.reduceAdd, Nat.reduceMul, Nat.reduceEqDiff, ↓reduceIte, forall_const, Int.cast_ofNat_Int, Int.reduceToNat, TF63, KL63]; (try simp (disch := omega) only [wrapI, tmodI, tdivI]); (fail_if_success (with_reducible show False))))
  refine Run_condS (fun _ => rfl) (fun h => ?_) (fun h => ?_)
  · simp at h
    have hkl := h
    obtain ⟨f1, f2, f3⟩ := (hx.ext hE).get h
    have hbo := hb _ (List.getElem_mem hkl)
    have q2 := R2 w1 hE
    have q3 := R3 w1 hE
    (repeat first | with_reducible first | refine jq ?_ | refine jk ?_ | refine jc ?_ | refine jl ?_ | refine jb ?_ | refine jo ?_ | refine ji ?_ | refine jx rfl ?_ | refine And.intro (by first | assumption | omega | (intros; omega)) ?_ | ((first | refine jR KL63 (by kernel_rfl) fun _ => ?_ | skip); simp only [KS, Nat.reduceAdd, Nat.reduceMul, Nat.reduceEqDiff, ↓reduceIte, forall_const, Int.cast_ofNat_Int, Int.reduceToNat, TF63, KL63, hx.s, hx.len, f1, f2, q2.1, q2.2.1, q3.1, q3.2.1]; (try simp (disch := omega) only [wrapI, tmodI, tdivI]); (fail_if_success (with_reducible show False))))
    refine ⟨.agg (Fd.covM n run k l[k]).cs.toArray, fun w' => by kernel_rfl, ?_⟩
    have hki : k < (mvItems (Fd.covs n run l)).length := by rw [mvItems_len, Fd.covs_len]; exact hkl
    have hy := hc.yield k w1 hki hJ
    rw [mvItems_get hki (by rw [Fd.covs_len]; exact hkl), Fd.covs_get _ hkl] at hy
    refine hy.mono fun u w7 ⟨b', hv, k7, hj⟩ => ?_
    subst hv
    have hE7 : Ext W w7 := Keep.ext hE k7 hkp
    cases b' with
    | true =>
      simp only [if_true] at hj
      (repeat first | with_reducible first | refine jq ?_ | refine jk ?_ | refine jc ?_ | refine jl ?_ | refine jb ?_ | refine jo ?_ | refine ji ?_ | refine jx rfl ?_ | refine And.intro (by first | assumption | omega | (intros; omega)) ?_ | ((first | refine jR KL63 (by kernel_rfl) fun _ => ?_ | skip); simp only [KS, Nat.reduceAdd, Nat.reduceMul, Nat.reduceEqDiff, ↓reduceIte, forall_const, Int.cast_ofNat_Int, Int.reduceToNat, TF63, KL63]; (try simp (disch := omega) only [wrapI, tmodI, tdivI]); (fail_if_success (with_reducible show False))))
      refine Run_condS (fun _ => rfl) (fun h => by cases h) (fun _ => ?_)
      (repeat first | with_reducible first | refine jq ?_ | refine jk ?_ | refine jc ?_ | refine jl ?_ | refine jb ?_ | refine jo ?_ | refine ji ?_ | refine jx rfl ?_ | refine And.intro (by first | assumption | omega | (intros; omega)) ?_ | ((first | refine jR KL63 (by kernel_rfl) fun _ => ?_ | skip); simp only [KS, Nat.reduceAdd, Nat.reduceMul, Nat.reduceEqDiff, ↓reduceIte, forall_const, Int.cast_ofNat_Int, Int.reduceToNat, TF63, KL63]; (try simp (disch := omega) only [wrapI, tmodI, tdivI]); (fail_if_success (with_reducible show False))))
      refine Run_lp ⟨k + 1, ?_, ⟨by omega, hj, hE7⟩, by omega⟩
      simp [SubB, fnd, strike, has]
    | false =>
      simp only [Bool.false_eq_true, if_false] at hj
      (repeat first | with_reducible first | refine jq ?_ | refine jk ?_ | refine jc ?_ | refine jl ?_ | refine jb ?_ | refine jo ?_ | refine ji ?_ | refine jx rfl ?_ | refine And.intro (by first | assumption | omega | (intros; omega)) ?_ | ((first | refine jR KL63 (by kernel_rfl) fun _ => ?_ | skip); simp only [KS, Nat.reduceAdd, Nat.reduceMul, Nat.reduceEqDiff, ↓reduceIte, forall_const, Int.cast_ofNat_Int, Int.reduceToNat, TF63, KL63]; (try simp (disch := omega) only [wrapI, tmodI, tdivI]); (fail_if_success (with_reducible show False))))
      refine Run_condS (fun _ => rfl) (fun _ => ?_) (fun h => by cases h)
      (repeat first | with_reducible first | refine jq ?_ | refine jk ?_ | refine jc ?_ | refine jl ?_ | refine jb ?_ | refine jo ?_ | refine ji ?_ | refine jx rfl ?_ | refine And.intro (by first | assumption | omega | (intros; omega)) ?_ | ((first | refine jR KL63 (by kernel_rfl) fun _ => ?_ | skip); simp only [KS, Nat.reduceAdd, Nat.reduceMul, Nat.reduceEqDiff, ↓reduceIte, forall_const, Int.cast_ofNat_Int, Int.reduceToNat, TF63, KL63]; (try simp (disch := omega) only [wrapI, tmodI, tdivI]); (fail_if_success (with_reducible show False))))
      refine Run_ret ?_
      simp only [Rets, RetM, resV, oneOr]
      exact ⟨trivial, .inl hj⟩
  · simp at h
    obtain rfl : k = l.length := by omega
    (repeat first | with_reducible first | refine jq ?_ | refine jk ?_ | refine jc ?_ | refine jl ?_ | refine jb ?_ | refine jo ?_ | refine ji ?_ | refine jx rfl ?_ | refine And.intro (by first | assumption | omega | (intros; omega)) ?_ | ((first | refine jR KL63 (by kernel_rfl) fun _ => ?_ | skip); simp only [KS, Nat.reduceAdd, Nat.reduceMul, Nat.reduceEqDiff, ↓reduceIte, forall_const, Int.cast_ofNat_Int, Int.reduceToNat, TF63, KL63]; (try simp (disch := omega) only [wrapI, tmodI, tdivI]); (fail_if_success (with_reducible show False))))
    refine Run_nil ?_
    simp only [Rets, RetM, resV, oneOr]
    exact ⟨trivial, .inr (by rw [mvItems_len, Fd.covs_len]; exact hJ)⟩
/-- where AppendSeq keeps its list -/
structure AS (w : World) (B : Nat) (ps : Addr) (ms : List MoveD) (w' : World) : Prop where
  ext : Ext w w'
  m : ∃ vm, Row w' ps 37 [vm] ∧ BufO (α := MoveD) 45 B w' vm ms
theorem AS.keep {w w1 w2 : World} {B : Nat} {ps : Addr} {ms : List MoveD} {S : Nat → Prop} (h : AS w B ps ms w1) (hk : Keep S w1 w2) (hw : ∀ k, k < w.heap.size → S k) (h2 : S ps.block) (h3 : ∀ g, B ≤ g → g < w1.heap.size → S g) : AS w B ps ms w2 := by
  obtain ⟨vm, hr, hb⟩ := h.m
  exact ⟨Keep.ext h.ext hk hw, vm, hr.keep hk h2, hb.keep hk h3⟩
theorem AS.lt {w w1 : World} {B : Nat} {ps : Addr} {ms : List MoveD} (h : AS w B ps ms w1) : ps.block < w1.heap.size := by
  obtain ⟨vm, hr, hb⟩ := h.m
  exact hr.lt
theorem slAppendSeq (f : FuncId) (cap : Array Value) (items : List MoveD) (w : World) (hc : callable Try.prog f = true) (hit : IterM Try.prog f cap items w) (hI : ∀ m ∈ items, MI m) (hn : items.length ≤ 100000) :
    Calls Try.prog 62 #[.slice none 0 0, .func (.func f) #[] cap] w fun e w' => ∃ v', e = .returned v' ∧ Ext w w' ∧ BufO (α := MoveD) 45 w.heap.size w' v' items := by
  refine Calls_of_Run (args := [.slice none 0 0, .func (.func f) #[] cap]) (n := 13) (rs := [.tmp 4]) Try.func62 rfl rfl rfl (by simp) ?_
  (repeat first | with_reducible first | refine jq ?_ | refine jk ?_ | refine jc ?_ | refine jl ?_ | refine jb ?_ | refine jo ?_ | refine ji ?_ | refine jx rfl ?_ | refine And.intro (by first | assumption | omega | (intros; omega)) ?_ | ((first | refine jR KL62 (by kernel_rfl) fun _ => ?_ | skip); simp only [KS, Nat.reduceAdd, Nat.reduceMul, Nat.reduceEqDiff, ↓reduceIte, forall_const, Int.cast_ofNat_Int, Int.reduceToNat, TF62, KL62]; (try simp (disch := omega) only [wrapI, tmodI, tdivI]); (fail_if_success (with_reducible show False))))
  refine SemW_box fun ps w2 h2 => ?_
  have b2 := h2.blk
  have z2 := h2.size
  have x2 := h2.ext
  have hS2 : AS w (w2.heap.size + 2) ps (items.take 0) w2 := ⟨x2, _, h2.row, by rw [List.take_zero]; exact BufO.nil⟩
  (repeat first | with_reducible first | refine jq ?_ | refine jk ?_ | refine jc ?_ | refine jl ?_ | refine jb ?_ | refine jo ?_ | refine ji ?_ | refine jx rfl ?_ | refine And.intro (by first | assumption | omega | (intros; omega)) ?_ | ((first | refine jR KL62 (by kernel_rfl) fun _ => ?_ | skip); simp only [KS, Nat.reduceAdd, Nat.reduceMul, Nat.reduceEqDiff, ↓reduceIte, forall_const, Int.cast_ofNat_Int, Int.reduceToNat, TF62, KL62]; (try simp (disch := omega) only [wrapI, tmodI, tdivI]); (fail_if_success (with_reducible show False))))
  refine Run_iter [7] (fun _ => rfl) hc (by simp) (mvItems items) (fun x hx => by simp [mvItems] at hx; obtain ⟨_, _, rfl⟩ := hx; rfl) (fun _ => False) (fun k => k < w.heap.size) (fun k hk => hk.elim) (fun k hk => by omega)
    (fun j w' => AS w (w2.heap.size + 2) ps (items.take j) w')
    (fun e w' => False)
    (fun yv J Jx w1 hcs hx1 h0 => hit (fun k => k < w.heap.size) yv J Jx w1 (fun k hk => hk) hcs (x2.trans hx1) h0)
    (fun w1 hx1 _ => hS2.keep (Keep.of_ext (S := fun _ => True) hx1) (fun _ _ => trivial) trivial fun _ _ _ => trivial)
    (fun j u1 u2 hS hk => hS.keep hk (fun k hk => ⟨id, by omega, by omega⟩) ⟨id, by omega, by omega⟩ (fun g hg _ => ⟨id, by omega, by omega⟩))
    (fun e u1 u2 he hk => he.elim) ?_ ?_ ?_
  · intro j hj w8 hS8 z8
    rw [mvItems_len] at hj
    rw [mvItems_get _ hj]
    simp only [zipL]
    have hmI := hI _ (List.getElem_mem hj)
    (repeat first | with_reducible first | refine jq ?_ | refine jk ?_ | refine jc ?_ | refine jl ?_ | refine jb ?_ | refine jo ?_ | refine ji ?_ | refine jx rfl ?_ | refine And.intro (by first | assumption | omega | (intros; omega)) ?_ | ((first | refine jR KL62 (by kernel_rfl) fun _ => ?_ | skip); simp only [KS, Nat.reduceAdd, Nat.reduceMul, Nat.reduceEqDiff, ↓reduceIte, forall_const, Int.cast_ofNat_Int, Int.reduceToNat, TF62, KL62]; (try simp (disch := omega) only [wrapI, tmodI, tdivI]); (fail_if_success (with_reducible show False))))
    refine SemW_var ti45 rfl (by simp [Value.cells, MoveD.cs]) (by decide) rfl fun pv w9 h9 => ?_
    have b9 := h9.blk
    have z9 := h9.size
    have r9 : Row w9 pv 45 items[j].cs := by simpa [Value.cells] using h9.row
    have hS9 := hS8.keep (Keep.of_ext (S := fun _ => True) h9.ext) (fun _ _ => trivial) trivial fun _ _ _ => trivial
    have lt8 := hS8.lt
    (repeat first | with_reducible first | refine jq ?_ | refine jk ?_ | refine jc ?_ | refine jl ?_ | refine jb ?_ | refine jo ?_ | refine ji ?_ | refine jx rfl ?_ | refine And.intro (by first | assumption | omega | (intros; omega)) ?_ | ((first | refine jR KL62 (by kernel_rfl) fun _ => ?_ | skip); simp only [KS, Nat.reduceAdd, Nat.reduceMul, Nat.reduceEqDiff, ↓reduceIte, forall_const, Int.cast_ofNat_Int, Int.reduceToNat, TF62, KL62]; (try simp (disch := omega) only [wrapI, tmodI, tdivI]); (fail_if_success (with_reducible show False))))
    refine Run_lp ⟨Keep.of_ext h9.ext, fun w10 k10 z10 => ?_⟩
    have hS10 := hS9.keep k10 (fun k hk => by omega) (by omega) (fun g hg _ => by omega)
    have r10 := r9.keep k10 (by omega)
    obtain ⟨vm, rm, bm⟩ := hS10.m
    obtain ⟨m1, m2⟩ := row1 rm
    have n1 := r10.n
    simp only [MoveD.cs, AtN, KS, Nat.reduceAdd, Nat.reduceMul, Nat.reduceEqDiff, ↓reduceIte, UT] at n1
    (repeat first | with_reducible first | refine jq ?_ | refine jk ?_ | refine jc ?_ | refine jl ?_ | refine jb ?_ | refine jo ?_ | refine ji ?_ | refine jx rfl ?_ | refine And.intro (by first | assumption | omega | (intros; omega)) ?_ | ((first | refine jR KL62 (by kernel_rfl) fun _ => ?_ | skip); simp only [KS, Nat.reduceAdd, Nat.reduceMul, Nat.reduceEqDiff, ↓reduceIte, forall_const, Int.cast_ofNat_Int, Int.reduceToNat, TF62, KL62, m1, m2, n1]; (try simp (disch := omega) only [wrapI, tmodI, tdivI]); (fail_if_success (with_reducible show False))))
    refine SemW_append1FO (α := MoveD) (X := .agg items[j].cs.toArray) (x := items[j]) Try.underlying37 ti45 rfl (by decide) bm (by omega) ⟨rfl, hmI⟩ (by simp [maxLen]; omega) fun s v' w15 b15 k15 => ?_
    have k15 := bm.below k15
    rw [← List.take_succ_eq_append_getElem hj] at b15
    (repeat first | with_reducible first | refine jq ?_ | refine jk ?_ | refine jc ?_ | refine jl ?_ | refine jb ?_ | refine jo ?_ | refine ji ?_ | refine jx rfl ?_ | refine And.intro (by first | assumption | omega | (intros; omega)) ?_ | ((first | refine jR KL62 (by kernel_rfl) fun _ => ?_ | skip); simp only [KS, Nat.reduceAdd, Nat.reduceMul, Nat.reduceEqDiff, ↓reduceIte, forall_const, Int.cast_ofNat_Int, Int.reduceToNat, TF62, KL62]; (try simp (disch := omega) only [wrapI, tmodI, tdivI]); (fail_if_success (with_reducible show False))))
    refine SemW_set1 cells37 (rm.keep k15 (by omega)) (isS_one b15.isS.1).1 (isS_one b15.isS.1).2 fun w16 r16 k16 s16 => ?_
    rw [isS_cells b15.isS.1] at r16
    (repeat first | with_reducible first | refine jq ?_ | refine jk ?_ | refine jc ?_ | refine jl ?_ | refine jb ?_ | refine jo ?_ | refine ji ?_ | refine jx rfl ?_ | refine And.intro (by first | assumption | omega | (intros; omega)) ?_ | ((first | refine jR KL62 (by kernel_rfl) fun _ => ?_ | skip); simp only [KS, Nat.reduceAdd, Nat.reduceMul, Nat.reduceEqDiff, ↓reduceIte, forall_const, Int.cast_ofNat_Int, Int.reduceToNat, TF62, KL62]; (try simp (disch := omega) only [wrapI, tmodI, tdivI]); (fail_if_success (with_reducible show False))))
    have z15 := k15.size
    have e16 : Ext w w16 := Keep.ext (Keep.ext hS10.ext k15 fun k hk => by omega) k16 fun k hk => by omega
    have kb : Keep (fun k => k < w2.heap.size + 2 ∧ k ≠ ps.block) w10 w16 := (k15.mono fun k _ hk => by omega).trans (k16.mono fun k _ hk => by omega)
    refine Run_nil ⟨kb.mono fun k _ hk' => by omega, e16, v', r16, b15.keep k16 (fun g hg _ => by omega)⟩
  · intro w8 hS8 hd
    rw [mvItems_len, List.take_length] at hS8
    obtain ⟨vm, rm, bm⟩ := hS8.m
    obtain ⟨m1, m2⟩ := row1 rm
    (repeat first | with_reducible first | refine jq ?_ | refine jk ?_ | refine jc ?_ | refine jl ?_ | refine jb ?_ | refine jo ?_ | refine ji ?_ | refine jx rfl ?_ | refine And.intro (by first | assumption | omega | (intros; omega)) ?_ | ((first | refine jR KL62 (by kernel_rfl) fun _ => ?_ | skip); simp only [KS, Nat.reduceAdd, Nat.reduceMul, Nat.reduceEqDiff, ↓reduceIte, forall_const, Int.cast_ofNat_Int, Int.reduceToNat, TF62, KL62, m1, m2]; (try simp (disch := omega) only [wrapI, tmodI, tdivI]); (fail_if_success (with_reducible show False))))
    refine Run_ret (RetM_one (d := w2.heap.size) hd fun w10 k10 _ => ?_)
    simp only [resV]
    exact ⟨vm, rfl, vm, rfl, Keep.ext hS8.ext k10 fun k hk => by omega, (bm.keep k10 (fun g hg _ => by omega)).mono (by omega)⟩
  · intro e w8 he hd
    exact he.elim
theorem slCollect (f : FuncId) (cap : Array Value) (items : List MoveD) (w : World) (hc : callable Try.prog f = true) (hit : IterM Try.prog f cap items w) (hI : ∀ m ∈ items, MI m) (hn : items.length ≤ 100000) :
    Calls Try.prog 31 #[.func (.func f) #[] cap] w fun e w' => ∃ v', e = .returned v' ∧ Ext w w' ∧ BufO (α := MoveD) 45 w.heap.size w' v' items := by
  refine Calls_of_Run (args := [.func (.func f) #[] cap]) (n := 5) (rs := [.tmp 2]) Try.func31 rfl rfl rfl (by simp) ?_
  (repeat first | with_reducible first | refine jq ?_ | refine jk ?_ | refine jc ?_ | refine jl ?_ | refine jb ?_ | refine jo ?_ | refine ji ?_ | refine jx rfl ?_ | refine And.intro (by first | assumption | omega | (intros; omega)) ?_ | ((first | refine jR KL31 (by kernel_rfl) fun _ => ?_ | skip); simp only [KS, Nat.reduceAdd, Nat.reduceMul, Nat.reduceEqDiff, ↓reduceIte, forall_const, Int.cast_ofNat_Int, Int.reduceToNat, TF31, KL31]; (try simp (disch := omega) only [wrapI, tmodI, tdivI]); (fail_if_success (with_reducible show False))))
  refine CallW_gen call62 (slAppendSeq f cap items w hc hit hI hn) fun e w1 ⟨v, he, x1, b1⟩ => ⟨_, he, ?_⟩
  (repeat first | with_reducible first | refine jq ?_ | refine jk ?_ | refine jc ?_ | refine jl ?_ | refine jb ?_ | refine jo ?_ | refine ji ?_ | refine jx rfl ?_ | refine And.intro (by first | assumption | omega | (intros; omega)) ?_ | ((first | refine jR KL31 (by kernel_rfl) fun _ => ?_ | skip); simp only [KS, Nat.reduceAdd, Nat.reduceMul, Nat.reduceEqDiff, ↓reduceIte, forall_const, Int.cast_ofNat_Int, Int.reduceToNat, TF31, KL31]; (try simp (disch := omega) only [wrapI, tmodI, tdivI]); (fail_if_success (with_reducible show False))))
  refine Run_ret ?_
  simp [Rets, RetM, resV, fnd, oneOr]
  exact ⟨x1, b1⟩
end Go.Proofs.Ytcncbmdkifdggaa
