import Derived.Test.YtbfhenoiienghaaGreatRbGt
import Derived.Test.YtbfhenoiienghaaGreatRbW22j
import Derived.Test.YtbfhenoiienghaaGreatRbW20u
import Derived.Test.YtbfhenoiienghaaGreatRbGs
namespace Go.Proofs.YtbfhenoiienghaaGreat
open Go Go.Fk
set_option linter.unusedSimpArgs false
set_option linter.unusedVariables false
set_option maxRecDepth 100000
theorem rfSame22 (p q : PlanD) (v0 v1 v2 u0 u1 u2 : Value) (w : World) (hP : PlanR w p v0 v1 v2) (hQ : PlanR w q u0 u1 u2) :
    Calls Tryz.prog 18 #[.agg (p.cs v0 v1 v2).toArray, .agg (q.cs u0 u1 u2).toArray] w fun e w' => e = .returned (.bool (decide (p = q))) ∧ Ext w w' := by
  refine Calls_of_Run (args := [.agg (p.cs v0 v1 v2).toArray, .agg (q.cs u0 u1 u2).toArray]) (n := 24) (rs := [.tmp 4]) Tryz.func18 rfl rfl rfl (by simp) ?_
  (repeat with_reducible first | refine js ?_ | refine ja ?_ | refine jw KL18 [] TF18 fun _ => ?_)
  refine SemW_box fun pp w1 h1 => SemW_box fun pq w2 h2 => ?_
  have x2 := h1.ext.trans h2.ext
  have P : ∀ w', Ext w2 w' → AtN w' pp 0 (p.cs v0 v1 v2) := fun w' x => (h1.at_.ext (h2.ext.trans x)).n
  have Q : ∀ w', Ext w2 w' → AtN w' pq 0 (q.cs u0 u1 u2) := fun w' x => (h2.at_.ext x).n
  simp only [PlanD.cs, AtN, KS, Nat.reduceAdd, Nat.reduceMul, Nat.reduceEqDiff, ↓reduceIte, UT] at P Q
  have p2 := P w2 (Ext.refl _)
  have q2 := Q w2 (Ext.refl _)
  (repeat with_reducible first | refine js ?_ | refine ja ?_ | refine jw KL18 [] (aa TF18 (aa p2 (aa q2 KX))) fun _ => ?_)
  refine CallW_pure call52 (rfSame20 v0 u0 p.Runs q.Runs w2 (hP.r.ext x2) (hQ.r.ext x2)) fun w3 x3 => ?_
  have y3 := x2.trans x3
  have p3 := P w3 x3
  have q3 := Q w3 x3
  (repeat with_reducible first | refine js ?_ | refine ja ?_ | refine jw KL18 [] (aa TF18 (aa p3 (aa q3 KX))) fun _ => ?_)
  refine .inr ⟨.bool (decide (p.Of = q.Of)), fun _ => PC_pure call21 fun w4 x4 => rfSameInts20 v1 u1 p.Of q.Of w4 (hP.o.ext (y3.trans x4)) (hQ.o.ext (y3.trans x4)), fun w4 x4 => ?_⟩
  unfold hush
  have y4 := y3.trans x4
  have p4 := P w4 (x3.trans x4)
  have q4 := Q w4 (x3.trans x4)
  (repeat with_reducible first | refine js ?_ | refine ja ?_ | refine jw KL18 [] (aa TF18 (aa p4 (aa q4 KX))) fun _ => ?_)
  refine .inr ⟨.bool (decide (p.Covers = q.Covers)), fun _ => PC_pure call21 fun w5 x5 => rfSameInts20 v2 u2 p.Covers q.Covers w5 (hP.c.ext (y4.trans x5)) (hQ.c.ext (y4.trans x5)), fun w5 x5 => ?_⟩
  unfold hush
  (repeat with_reducible first | refine js ?_ | refine ja ?_ | refine jw KL18 [] (aa TF18 KX) fun _ => ?_)
  refine Run_ret ?_
  simp only [Rets, RetM, resV, fnd, oneOr, ↓reduceIte]
  refine ⟨_, rfl, ?_, y4.trans x5⟩
  congr 2
  rw [Bool.eq_iff_iff]
  cases p; cases q
  simp [and_assoc]
theorem rfOf (p : PlanD) (v0 v1 v2 : Value) (w : World) (hP : PlanR w p v0 v1 v2) (hin : ∀ k ∈ p.Of, 0 ≤ k ∧ k < p.Runs.length) (hn : p.Of.length ≤ 1000000) :
    Calls Tryz.prog 28 #[.agg (p.cs v0 v1 v2).toArray] w fun e w' => ∃ v, e = .returned v ∧ Ext w w' ∧ Sl w' v (Pl.ofs p) := by
  have s0 := hP.r.s
  have l0 := hP.r.len
  have s1 := hP.o.s
  have l1 := hP.o.len
  refine Calls_of_Run (args := [.agg (p.cs v0 v1 v2).toArray]) (n := 25) (rs := [.tmp 2]) Tryz.func28 rfl rfl rfl (by simp) ?_
  (repeat with_reducible first | refine js ?_ | refine ja ?_ | refine jw KL28 [] TF28 fun _ => ?_)
  refine SemW_box fun pp w1 h1 => ?_
  have x1 := h1.ext
  have P : ∀ w', Ext w1 w' → AtN w' pp 0 (p.cs v0 v1 v2) := fun w' x => (h1.at_.ext x).n
  simp only [PlanD.cs, AtN, KS, Nat.reduceAdd, Nat.reduceMul, Nat.reduceEqDiff, ↓reduceIte, UT] at P
  (repeat with_reducible first | refine js ?_ | refine ja ?_ | refine jw KL28 [] TF28 fun _ => ?_)
  refine Run_loopV [3, 4, 9] (σ := Nat × Value) (fun q => [(4, some (.int .i64 q.1)), (3, some q.2)]) (fun q w' => q.1 ≤ p.Of.length ∧ BufL (α := RunD) 50 w1 w' q.2 ((Pl.ofs p).take q.1)) (fun q => p.Of.length - q.1) (0, .slice none 0 0) (by simp [SubB, fnd]) ⟨by simp, BufL.nil (Ext.refl _)⟩ ?_
  rintro ⟨q, vb⟩ w2 ⟨hq, B2⟩
  simp only at hq B2
  have x2 := B2.ext0
  have p2 := P w2 x2
  (repeat with_reducible first | refine js ?_ | refine ja ?_ | refine jw KL28 [] (aa TF28 (aa p2 (aa s1 l1))) fun _ => ?_)
  refine Run_condS (fun _ => rfl) (fun h => ?_) (fun h => ?_)
  · simp at h
    have hql : q < p.Of.length := by omega
    have hqc : (q : Int) < p.Of.length := by omega
    clear h
    obtain ⟨f1, f2, f3⟩ := (hP.o.ext (x1.trans x2)).get hql
    have hkin := hin _ (List.getElem_mem hql)
    have htk : (Pl.ofs p).take (q + 1) = (Pl.ofs p).take q ++ [p.Runs.getD p.Of[q].toNat default] := by
      rw [List.take_add_one]; congr 1
      simp [Pl.ofs, hql]
    have hlq : ((Pl.ofs p).take q).length = q := by rw [List.length_take]; simp [Pl.ofs]; omega
    generalize (Pl.ofs p).take q = ys at *
    generalize hk8 : p.Of[q] = k at *
    have hkl : k.toNat < p.Runs.length := by omega
    obtain ⟨r1, r2⟩ := (hP.r.ext (x1.trans x2)).runD hkl
    rw [List.getD_eq_getElem?_getD, List.getElem?_eq_getElem hkl, Option.getD_some] at htk
    have hR8 : ∀ w', Ext w2 w' → AtN w' ((slAt v0).add (k.toNat * 3)) 0 p.Runs[k.toNat].cs := fun w' x => (((hP.r.ext (x1.trans x2)).ext x).runD hkl).1
    generalize p.Runs[k.toNat] = r at *
    let S : Nat → Prop := fun k => some k ≠ vb.ownBlock
    have hBo := B2.o
    have hS : ∀ q, q < w1.heap.size → S q := fun q hq e => by have := (hBo.own_lt e.symm).1; omega
    have z1 := x1.size
    have bP : pp.block < w1.heap.size := h1.at_.blk
    have bO : (slAt v1).block < w1.heap.size := by have := hP.o.blk (by decide) hql; omega
    have bR : (slAt v0).block < w1.heap.size := by have := hP.r.blk (by decide) hkl; omega
    (repeat with_reducible first | refine jq ?_ | refine jk ?_ | refine jc ?_ | refine jl ?_ | refine jb ?_ | refine jo ?_ | refine ji ?_ | refine jx rfl ?_)
    refine Run_eh S [11] [(2, [8, 9, 10, 11]), (4, [6, 7, 8, 9, 10, 11]), (7, [8, 9, 10, 11]), (9, [10, 11])] (id := 5) KL28 (.first 0 (.first 1 (.first 2 (.first 3 (.first 4 (.first 5 (.first 6 (.first 7 (.first 8 (.first 9 (.alt true 10 (.alt true 11 (.free (.first 12 .done)) .stop) .stop))))))))))) mixed (by kernel_rfl) (by kernel_rfl) fun w3 x3 _ => ?_
    have p3 := P w3 (x2.trans x3)
    have r8 := hR8 w3 x3
    obtain ⟨f3, f4, _⟩ := (hP.o.ext (x1.trans (x2.trans x3))).get hql
    rw [hk8] at f3
    simp only [RunD.cs, AtN, KS, Nat.reduceAdd, Nat.reduceMul, Nat.reduceEqDiff, ↓reduceIte, UT] at r8
    (try simp (maxSteps := 5000000) only [KS, Nat.reduceAdd, Nat.reduceMul, Nat.reduceEqDiff, ↓reduceIte, forall_const, Int.cast_ofNat_Int, Int.reduceToNat, List.take_succ_cons, List.take_zero, List.drop_succ_cons, List.drop_zero, TF28, KL28, eh, gres, qopS, putL, ung, p3, s0, l0, s1, l1, f3, f4, r8]); (try simp (disch := omega) only [wrapI, tmodI, tdivI])
    have hbl8 : w1.heap.size ≤ w3.heap.size := (x2.trans x3).size
    refine ⟨hS _ bP, hS _ bP, ⟨by omega, by omega⟩, hS _ (by rw [blk_add]; exact bO), ⟨by omega, by omega⟩, hS _ (by rw [blk_add]; exact bR), Keep.refl _ _, ?_⟩
    refine SemW_append1G (α := RunD) (B := w1.heap.size) (X := .agg r.cs.toArray) (x := r) Tryz.underlying30 ti50 rfl (by decide) (hBo.keep' (Keep.of_ext (S := fun _ => True) x3) (fun _ _ _ => trivial) fun css h => h.any) (by omega) ⟨rfl, r2⟩ (by rw [hlq]; simp only [maxLen]; omega) (fun w' x => Keep.of_ext x) fun s v' w9 b9 k9 _ => ?_
    rw [← htk] at b9
    have x9 : Ext w1 w9 := Keep.ext (x2.trans x3) k9 hS
    (repeat with_reducible first | refine js ?_ | refine ja ?_ | refine jw KL28 [] TF28 fun _ => ?_)
    refine Run_lp ⟨(q + 1, v'), by simp [SubB, fnd, strike, has], ⟨by show q + 1 ≤ p.Of.length; omega, ?_⟩, by show p.Of.length - (q + 1) < p.Of.length - q; omega⟩
    obtain ⟨css, c1, c2⟩ := b9.ex
    exact ⟨css, c1, ⟨c2, x9⟩⟩
  · simp at h
    obtain rfl : q = p.Of.length := by omega
    rw [List.take_of_length_le (by simp [Pl.ofs])] at B2
    (repeat with_reducible first | refine js ?_ | refine ja ?_ | refine jw KL28 [] TF28 fun _ => ?_)
    refine Run_ret ?_
    simp [Rets, RetM, resV, fnd, oneOr]
    exact ⟨x1.trans x2, B2.sl (by simp [Pl.ofs]; omega)⟩
theorem lessL_drop {a b : List RunD} {k : Nat} (h : k < a.length) (h' : k < b.length) : Pl.lessL (a.drop k) (b.drop k) = if a[k] = b[k] then Pl.lessL (a.drop (k + 1)) (b.drop (k + 1)) else Tt.before a[k] b[k] := by
  rw [List.drop_eq_getElem_cons h, List.drop_eq_getElem_cons h']; rfl
theorem rfLess (va vb : Value) (a b : List RunD) (w : World) (ha : Sl w va a) (hb : Sl w vb b) (hn : a.length ≤ b.length) (hs : a.length ≤ 140737488355328) :
    Calls Tryz.prog 27 #[va, vb] w fun e w' => e = .returned (.bool (Pl.lessL a b)) ∧ Ext w w' := by
  have sa := ha.s
  have la := ha.len
  have sb := hb.s
  have lb := hb.len
  refine Calls_of_Run (args := [va, vb]) (n := 30) (rs := [.tmp 4]) Tryz.func27 rfl rfl rfl (by simp) ?_
  (repeat with_reducible first | refine js ?_ | refine ja ?_ | refine jw KL27 [4, 5] TF27 fun _ => ?_)
  refine Run_loopV [4, 5, 9, 20] (σ := Nat) (fun q => [(5, some (.int .i64 q)), (4, some (.bool false))]) (fun q w' => q ≤ a.length ∧ Pl.lessL (a.drop q) (b.drop q) = Pl.lessL a b ∧ Ext w w') (fun q => a.length - q) 0 (by simp [SubB, fnd]) ⟨by omega, rfl, Ext.refl _⟩ ?_
  rintro q w1 ⟨hq, hf, x1⟩
  (repeat with_reducible first | refine js ?_ | refine ja ?_ | refine jw KL27 [4, 5] (aa TF27 (aa sa la)) fun _ => ?_)
  refine Run_condS (fun _ => rfl) (fun h => ?_) (fun h => ?_)
  · simp at h
    have hql : q < a.length := by omega
    have hqc : (q : Int) < a.length := by omega
    clear h
    obtain ⟨r1, r2⟩ := (ha.ext x1).runD hql
    obtain ⟨q1, q2⟩ := (hb.ext x1).runD (show q < b.length by omega)
    have A := fun w' (x : Ext w1 w') => (((ha.ext x1).ext x).runD hql).1
    have B := fun w' (x : Ext w1 w') => (((hb.ext x1).ext x).runD (show q < b.length by omega)).1
    have hqb : (q : Int) < b.length := by omega
    rw [lessL_drop hql (by omega)] at hf
    generalize a[q] = r at *
    generalize b[q] = s at *
    simp only [RunD.cs, AtN, KS, Nat.reduceAdd, Nat.reduceMul, Nat.reduceEqDiff, ↓reduceIte, UT] at r1 q1 A B
    (repeat with_reducible first | refine js ?_ | refine ja ?_ | refine jw KL27 [4, 5] (aa TF27 (aa sa (aa la (aa sb (aa lb (aa r1 q1)))))) fun _ => ?_)
    refine ⟨by kernel_rfl, fun w2 x2 => ?_⟩
    have r2 := A w2 x2
    have q2 := B w2 x2
    refine Run_condS (fun _ => rfl) (fun h => ?_) (fun h => ?_)
    · have he : r ≠ s := by
        rintro rfl; simp at h
      rw [if_neg he] at hf
      clear h
      (repeat with_reducible first | refine js ?_ | refine ja ?_ | refine jw KL27 [4, 5] (aa TF27 (aa sa (aa la (aa sb (aa lb (aa r2 q2)))))) fun _ => ?_)
      refine ⟨.bool (Tt.before r s), PC_pure call62 fun w3 x3 => rfBefore r s w3, fun w3 x3 => ?_⟩
      refine Run_ret ?_
      simp [Rets, RetM, resV, fnd, oneOr, ← hf]
      exact x1.trans (x2.trans x3)
    · have he : r = s := by
        cases r; cases s; simp at h; simp [h]
      rw [if_pos he] at hf
      clear h
      (repeat with_reducible first | refine js ?_ | refine ja ?_ | refine jw KL27 [4, 5] TF27 fun _ => ?_)
      exact Run_lp ⟨q + 1, by simp [SubB, fnd, strike, has], ⟨by omega, hf, x1.trans x2⟩, by omega⟩
  · simp at h
    obtain rfl : q = a.length := by omega
    rw [List.drop_length] at hf
    (repeat with_reducible first | refine js ?_ | refine ja ?_ | refine jw KL27 [4, 5] TF27 fun _ => ?_)
    refine Run_ret ?_
    simp [Rets, RetM, resV, fnd, oneOr, ← hf, Pl.lessL, x1]
end Go.Proofs.YtbfhenoiienghaaGreat
