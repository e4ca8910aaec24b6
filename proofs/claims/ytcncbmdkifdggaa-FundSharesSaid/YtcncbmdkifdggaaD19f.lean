/- Chapter 19: Same; the program's least time of a list; departures makes a function. -/
import Derived.Test.YtcncbmdkifdggaaD19e
namespace Go.Proofs.Ytcncbmdkifdggaa
open Go Go.Fk
set_option linter.unusedSimpArgs false
set_option linter.unusedVariables false
set_option maxRecDepth 100000

theorem Sl.drop_eq {xs ys : List Int} {k : Nat} (hx : k < xs.length) (hy : k < ys.length) : (xs.drop k = ys.drop k ↔ xs[k] = ys[k] ∧ xs.drop (k + 1) = ys.drop (k + 1)) := by
  rw [List.drop_eq_getElem_cons hx, List.drop_eq_getElem_cons hy, List.cons.injEq]

def minL (xs : List Int) : Int := xs.foldl min 2097152
theorem minL_take {xs : List Int} {k : Nat} (h : k < xs.length) : minL (xs.take (k + 1)) = min (minL (xs.take k)) xs[k] := by
  unfold minL
  rw [List.take_succ_eq_append_getElem h, List.foldl_append]; rfl
theorem minL_nil : minL [] = 2097152 := rfl
theorem calFirst (va : Value) (xs : List Int) (w : World) (hx : Sl w va xs) :
    Calls Try.prog 92 #[va] w fun e w' => e = .returned (.int .i64 (minL xs)) ∧ Ext w w' := by
  have nx := hx.small
  refine Calls_of_Run (args := [va]) (n := 17) (rs := [.tmp 2]) Try.func92 rfl rfl rfl (by simp) ?_
  (repeat first | with_reducible refine Run_seq ?_ | with_reducible refine Run_skip ?_ | with_reducible refine Run_scope ?_ | with_reducible refine Run_label ?_ | with_reducible refine Run_sc ?_ | with_reducible refine Run_block ?_ | with_reducible refine Run_blk ?_ | with_reducible refine Run_exit rfl ?_ | (refine Run_region (by kernel_rfl) fun _ => ?_; simp only [KS, Nat.reduceAdd, Nat.reduceMul, Nat.reduceEqDiff, ↓reduceIte, UT, hx.s, hx.len]) | (refine Run_drawn mixed (by kernel_rfl) (by kernel_rfl) fun _ => ?_; simp only [KS, Nat.reduceAdd, Nat.reduceMul, Nat.reduceEqDiff, ↓reduceIte, UT, hx.s, hx.len]) | refine And.intro (by first | assumption | omega | (intros; omega)) ?_)
  refine Run_loop (σ := Nat) (fun k => [(6, some va), (7, some (.int .i64 xs.length)), (3, some (.int .i64 (minL (xs.take k)))), (8, some (.int .i64 k))]) (fun k w' => k ≤ xs.length ∧ Ext w w') (fun k => xs.length - k) 0 (by simp [SubB, fnd, minL_nil]) ⟨by omega, Ext.refl w⟩ ?_
  rintro k w2 ⟨hk, hw2⟩
  (repeat first | with_reducible refine Run_seq ?_ | with_reducible refine Run_skip ?_ | with_reducible refine Run_scope ?_ | with_reducible refine Run_label ?_ | with_reducible refine Run_sc ?_ | with_reducible refine Run_block ?_ | with_reducible refine Run_blk ?_ | with_reducible refine Run_exit rfl ?_ | (refine Run_region (by kernel_rfl) fun _ => ?_; simp only [KS, Nat.reduceAdd, Nat.reduceMul, Nat.reduceEqDiff, ↓reduceIte, UT]) | (refine Run_drawn mixed (by kernel_rfl) (by kernel_rfl) fun _ => ?_; simp only [KS, Nat.reduceAdd, Nat.reduceMul, Nat.reduceEqDiff, ↓reduceIte, UT]) | refine And.intro (by first | assumption | omega | (intros; omega)) ?_)
  refine Run_cond (fun _ => rfl) (fun h2 => ?_) (fun h2 => ?_)
  · simp at h2
    obtain ⟨f1, f2, f3⟩ := (hx.ext hw2).get h2
    (repeat first | with_reducible refine Run_seq ?_ | with_reducible refine Run_skip ?_ | with_reducible refine Run_scope ?_ | with_reducible refine Run_label ?_ | with_reducible refine Run_sc ?_ | with_reducible refine Run_block ?_ | with_reducible refine Run_blk ?_ | with_reducible refine Run_exit rfl ?_ | (refine Run_region (by kernel_rfl) fun _ => ?_; simp only [KS, Nat.reduceAdd, Nat.reduceMul, Nat.reduceEqDiff, ↓reduceIte, UT, hx.s, hx.len, f1, f2]) | (refine Run_drawn mixed (by kernel_rfl) (by kernel_rfl) fun _ => ?_; simp only [KS, Nat.reduceAdd, Nat.reduceMul, Nat.reduceEqDiff, ↓reduceIte, UT, hx.s, hx.len, f1, f2]) | refine And.intro (by first | assumption | omega | (intros; omega)) ?_)
    refine Run_lp ⟨k + 1, ?_, ⟨by omega, hw2⟩, by omega⟩
    simp [SubB, fnd, wrap_in (x := (k : Int) + 1) (by omega) (by omega), minL_take h2]
  · simp at h2
    obtain rfl : k = xs.length := by omega
    (repeat first | with_reducible refine Run_seq ?_ | with_reducible refine Run_skip ?_ | with_reducible refine Run_scope ?_ | with_reducible refine Run_label ?_ | with_reducible refine Run_sc ?_ | with_reducible refine Run_block ?_ | with_reducible refine Run_blk ?_ | with_reducible refine Run_exit rfl ?_ | (refine Run_region (by kernel_rfl) fun _ => ?_; simp only [KS, Nat.reduceAdd, Nat.reduceMul, Nat.reduceEqDiff, ↓reduceIte, UT]) | (refine Run_drawn mixed (by kernel_rfl) (by kernel_rfl) fun _ => ?_; simp only [KS, Nat.reduceAdd, Nat.reduceMul, Nat.reduceEqDiff, ↓reduceIte, UT]) | refine And.intro (by first | assumption | omega | (intros; omega)) ?_)
    rw [List.take_length]
    (repeat first | with_reducible refine Run_seq ?_ | with_reducible refine Run_skip ?_ | with_reducible refine Run_scope ?_ | with_reducible refine Run_label ?_ | with_reducible refine Run_sc ?_ | with_reducible refine Run_block ?_ | with_reducible refine Run_blk ?_ | with_reducible refine Run_exit rfl ?_ | (refine Run_region (by kernel_rfl) fun _ => ?_; simp only [KS, Nat.reduceAdd, Nat.reduceMul, Nat.reduceEqDiff, ↓reduceIte, UT]) | (refine Run_drawn mixed (by kernel_rfl) (by kernel_rfl) fun _ => ?_; simp only [KS, Nat.reduceAdd, Nat.reduceMul, Nat.reduceEqDiff, ↓reduceIte, UT]) | refine And.intro (by first | assumption | omega | (intros; omega)) ?_)
    refine Run_ret ?_
    simp [Rets, RetM, resV, fnd, oneOr, hw2]

/-- the function that departures makes, and its boxes -/
structure Dep (w0 : World) (va vb : Value) (a : Int) (pr po pa : Addr) (w' : World) : Prop where
  r : Row w' pr 52 [va]
  o : Row w' po 53 [vb]
  a : Row w' pa 3 [.int .i64 a]
  ext : Ext w0 w'
  nr : w0.heap.size ≤ pr.block
  no : w0.heap.size ≤ po.block
  na : w0.heap.size ≤ pa.block
  ra : pr.block ≠ pa.block
  oa : po.block ≠ pa.block

theorem calDepartures (va vb : Value) (a : Int) (w : World) (ha : va.cells = #[va]) (hb : vb.cells = #[vb]) :
    Calls Try.prog 88 #[va, vb, .int .i64 a] w fun e w' => ∃ pr po pa, e = .returned (.func (.func 90) #[] #[.pointer (some pr), .pointer (some pa), .pointer (some po)]) ∧ Dep w va vb a pr po pa w' := by
  refine Calls_of_Run (args := [va, vb, .int .i64 a]) (n := 8) (rs := [.tmp 6]) Try.func88 rfl rfl rfl (by simp) ?_
  (repeat first | with_reducible refine Run_seq ?_ | with_reducible refine Run_skip ?_ | with_reducible refine Run_scope ?_ | with_reducible refine Run_label ?_ | with_reducible refine Run_sc ?_ | with_reducible refine Run_block ?_ | with_reducible refine Run_blk ?_ | with_reducible refine Run_exit rfl ?_ | (refine Run_region (by kernel_rfl) fun _ => ?_; simp only [KS, Nat.reduceAdd, Nat.reduceMul, Nat.reduceEqDiff, ↓reduceIte, UT]) | (refine Run_drawn mixed (by kernel_rfl) (by kernel_rfl) fun _ => ?_; simp only [KS, Nat.reduceAdd, Nat.reduceMul, Nat.reduceEqDiff, ↓reduceIte, UT]) | refine And.intro (by first | assumption | omega | (intros; omega)) ?_)
  refine SemW_box fun p1 w1 h1 => SemW_box fun p2 w2 h2 => SemW_box fun p3 w3 h3 => ?_
  try simp only [KS, Nat.reduceAdd, Nat.reduceMul, Nat.reduceEqDiff, ↓reduceIte, UT]
  (repeat first | with_reducible refine Run_seq ?_ | with_reducible refine Run_skip ?_ | with_reducible refine Run_scope ?_ | with_reducible refine Run_label ?_ | with_reducible refine Run_sc ?_ | with_reducible refine Run_block ?_ | with_reducible refine Run_blk ?_ | with_reducible refine Run_exit rfl ?_ | (refine Run_region (by kernel_rfl) fun _ => ?_; simp only [KS, Nat.reduceAdd, Nat.reduceMul, Nat.reduceEqDiff, ↓reduceIte, UT]) | (refine Run_drawn mixed (by kernel_rfl) (by kernel_rfl) fun _ => ?_; simp only [KS, Nat.reduceAdd, Nat.reduceMul, Nat.reduceEqDiff, ↓reduceIte, UT]) | refine And.intro (by first | assumption | omega | (intros; omega)) ?_)
  refine Run_ret ?_
  simp [Rets, RetM, resV, fnd, oneOr]
  rw [ha] at h1
  rw [hb] at h2
  have b1 := h1.blk
  have b2 := h2.blk
  have b3 := h3.blk
  have s1 := h1.size
  have s2 := h2.size
  refine ⟨_, _, _, ⟨rfl, rfl, rfl⟩, ?_⟩
  exact ⟨h1.row.ext (h2.ext.trans h3.ext), h2.row.ext h3.ext, h3.row, h1.ext.trans (h2.ext.trans h3.ext), by omega, by omega, by omega, by omega, by omega⟩
end Go.Proofs.Ytcncbmdkifdggaa
