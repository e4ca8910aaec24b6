import Derived.Test.YtoadfmgnpmcbfaaGreatQoW39m
import Derived.Test.YtoadfmgnpmcbfaaGreatQoGp
import Derived.Test.YtoadfmgnpmcbfaaGreatQoGa
import Derived.Test.YtoadfmgnpmcbfaaGreatQoGe
/- Chapter 39: the orders of a run. -/
namespace Go.Proofs.YtoadfmgnpmcbfaaGreat
open Go Go.Fk
set_option linter.unusedSimpArgs false
set_option linter.unusedVariables false
set_option maxRecDepth 100000
abbrev fOf (p1 p2 p3 : Addr) : Value := .func (.func 93) #[] #[.pointer (some p1), .pointer (some p2), .pointer (some p3)]
theorem esOf (vo v0 v1 v2 : Value) (p : PlanD) (run : Int) (w : World) (hv : vo.cells = #[vo]) :
    Calls Tryz.prog 51 #[vo, .agg (p.cs v0 v1 v2).toArray, .int .i64 run] w fun e w' => ∃ p1 p2 p3, e = .returned (fOf p1 p2 p3) ∧ Ext w w' ∧ At w' p1 [vo] ∧ At w' p2 (p.cs v0 v1 v2) ∧ At w' p3 [.int .i64 run] ∧ w.heap.size ≤ p1.block ∧ w.heap.size ≤ p2.block ∧ w.heap.size ≤ p3.block := by
  refine Calls_of_Run (args := [vo, .agg (p.cs v0 v1 v2).toArray, .int .i64 run]) (n := 8) (rs := [.tmp 6]) Tryz.func51 rfl rfl rfl (by simp) ?_
  (repeat with_reducible first | refine js ?_ | refine ja ?_ | refine jw KL51 [] TF51 fun _ => ?_)
  refine SemW_box fun p1 w1 h1 => SemW_box fun p2 w2 h2 => SemW_box fun p3 w3 h3 => ?_
  (repeat with_reducible first | refine js ?_ | refine ja ?_ | refine jw KL51 [] TF51 fun _ => ?_)
  refine Run_ret ?_
  simp only [Rets, RetM, resV, fnd, oneOr, ↓reduceIte]
  rw [hv] at h1
  have b1 := h1.blk
  have b2 := h2.blk
  have b3 := h3.blk
  have s1 := h1.size
  have s2 := h2.size
  exact ⟨_, rfl, p1, p2, p3, rfl, h1.ext.trans (h2.ext.trans h3.ext), h1.at_.ext (h2.ext.trans h3.ext), h2.at_.ext h3.ext, h3.at_, by omega, by omega, by omega⟩
/-- the orders of a run -/
def ofL (p : PlanD) (run : Int) : Nat → List Nat
  | 0 => []
  | k + 1 => ofL p run k ++ if p.Of.getD k 0 = run then [k] else []
theorem ofL_len (p : PlanD) (run : Int) : ∀ n, (ofL p run n).length ≤ n
  | 0 => by simp [ofL]
  | n + 1 => by
    have := ofL_len p run n
    simp only [ofL, List.length_append]; split <;> simp <;> omega
theorem ofL_pre (p : PlanD) (run : Int) {k n : Nat} (h : k ≤ n) : ofL p run k <+: ofL p run n := by
  induction n with
  | zero => have : k = 0 := by omega
            subst this; exact List.prefix_refl _
  | succ n ih =>
    by_cases e : k = n + 1
    · subst e; exact List.prefix_refl _
    · exact (ih (by omega)).trans (List.prefix_append _ _)
theorem ofL_get {p : PlanD} {run : Int} {k n : Nat} (h : k < n) (hr : p.Of.getD k 0 = run) : ∃ hj : (ofL p run k).length < (ofL p run n).length, (ofL p run n)[(ofL p run k).length] = k := by
  obtain ⟨r, hp⟩ := ofL_pre p run (show k + 1 ≤ n from h)
  have e : ofL p run (k + 1) = ofL p run k ++ [k] := by simp only [ofL]; rw [if_pos hr]
  rw [e] at hp
  rw [← hp]
  refine ⟨by simp, ?_⟩
  simp
theorem ofL_mem {p : PlanD} {run : Int} : ∀ {n k : Nat}, k ∈ ofL p run n → k < n ∧ p.Of.getD k 0 = run
  | 0, k, h => by simp [ofL] at h
  | n + 1, k, h => by
    simp only [ofL, List.mem_append] at h
    rcases h with h | h
    · have := ofL_mem h; exact ⟨by omega, this.2⟩
    · split at h
      · rename_i hr; simp at h; subst h; exact ⟨by omega, hr⟩
      · simp at h
def ofItem (l : List OrderD) (gv : Nat → Value) (k : Nat) : List Value := [.int .i64 k, .agg ((l.getD k default).cs (gv k)).toArray]
def ofItems (l : List OrderD) (gv : Nat → Value) (p : PlanD) (run : Int) : List (List Value) := (ofL p run l.length).map (ofItem l gv)
/-- where the iterator's things lie -/
structure OfS (W : World) (p1 p2 p3 : Addr) (vo v0 v1 v2 : Value) (p : PlanD) (run : Int) (w : World) : Prop where
  e : Ext W w
  a1 : At w p1 [vo]
  a2 : At w p2 (p.cs v0 v1 v2)
  a3 : At w p3 [.int .i64 run]
theorem OfS.ext {W : World} {p1 p2 p3 : Addr} {vo v0 v1 v2 : Value} {p : PlanD} {run : Int} {w w' : World} (h : OfS W p1 p2 p3 vo v0 v1 v2 p run w) (x : Ext w w') : OfS W p1 p2 p3 vo v0 v1 v2 p run w' := ⟨h.e.trans x, h.a1.ext x, h.a2.ext x, h.a3.ext x⟩
theorem OfS.keep {W : World} {p1 p2 p3 : Addr} {vo v0 v1 v2 : Value} {p : PlanD} {run : Int} {w w' : World} {S : Nat → Prop} (h : OfS W p1 p2 p3 vo v0 v1 v2 p run w) (k : Keep S w w') (h0 : ∀ q, q < W.heap.size → S q) (h1 : S p1.block) (h2 : S p2.block) (h3 : S p3.block) : OfS W p1 p2 p3 vo v0 v1 v2 p run w' :=
  ⟨Keep.ext h.e k h0, h.a1.keep k h1, h.a2.keep k h2, h.a3.keep k h3⟩
set_option maxHeartbeats 1000000 in
theorem ofIter (p1 p2 p3 : Addr) (vo v0 v1 v2 : Value) (l : List OrderD) (gv : Nat → Value) (p : PlanD) (run : Int) (W : World) (ho : Sl W vo l) (hP : PlanR W p v0 v1 v2) (hn : p.Of.length = l.length)
    (hg : ∀ k (h : k < l.length), At W ((slAt vo).add (k * 11)) (l[k].cs (gv k)) ∧ OrdR W l[k] (gv k))
    (kp : Nat → Prop) (yv : Value) (J : Nat → World → Prop) (Jx : World → Prop) (w : World) (hkp : ∀ k, k < W.heap.size → kp k) (k1 : kp p1.block) (k2 : kp p2.block) (k3 : kp p3.block) (hc : Cons Tryz.prog yv (ofItems l gv p run) (fun _ => False) kp J Jx) (hW : OfS W p1 p2 p3 vo v0 v1 v2 p run w) (h0 : J 0 w) :
    Calls Tryz.prog 93 (#[] ++ #[yv] ++ #[.pointer (some p1), .pointer (some p2), .pointer (some p3)]) w fun e w' => e = .returned (.tuple #[]) ∧ (Jx w' ∨ J (ofItems l gv p run).length w') := by
  have hnl := ho.small
  have R1 : ∀ w', OfS W p1 p2 p3 vo v0 v1 v2 p run w' → AtN w' p1 0 [vo] := fun w' x => x.a1.n
  have R2 : ∀ w', OfS W p1 p2 p3 vo v0 v1 v2 p run w' → AtN w' p2 0 (p.cs v0 v1 v2) := fun w' x => x.a2.n
  have R3 : ∀ w', OfS W p1 p2 p3 vo v0 v1 v2 p run w' → AtN w' p3 0 [.int .i64 run] := fun w' x => x.a3.n
  simp only [PlanD.cs, AtN, KS, Nat.reduceAdd, Nat.reduceMul, Nat.reduceEqDiff, ↓reduceIte, UT] at R1 R2 R3
  have q1 := R1 w hW
  have e : (#[] ++ #[yv] ++ #[.pointer (some p1), .pointer (some p2), .pointer (some p3)] : Array Value) = [yv, .pointer (some p1), .pointer (some p2), .pointer (some p3)].toArray := rfl
  rw [e]
  refine Calls_of_Run (args := [yv, .pointer (some p1), .pointer (some p2), .pointer (some p3)]) (n := 29) (rs := []) Tryz.func93 rfl rfl rfl (by simp) ?_
  (repeat with_reducible first | refine js ?_ | refine ja ?_ | refine jw KL93 [3] (aa TF93 (aa q1.1 (aa q1.2 (aa ho.s ho.len)))) fun _ => ?_)
  refine Run_loopV [5, 6, 9, 10, 27] (σ := Nat) (fun k => [(9, some (.int .i64 k))]) (fun k w' => k ≤ l.length ∧ J (ofL p run k).length w' ∧ OfS W p1 p2 p3 vo v0 v1 v2 p run w') (fun k => l.length - k) 0 (by simp [SubB, fnd]) ⟨by omega, h0, hW⟩ ?_
  rintro k w1 ⟨hk, hJ, hE⟩
  (repeat with_reducible first | refine js ?_ | refine ja ?_ | refine jw KL93 [3] TF93 fun _ => ?_)
  refine Run_condS (fun _ => rfl) (fun h => ?_) (fun h => ?_)
  · simp at h
    have hkl := h
    obtain ⟨o2, hO⟩ := hg k hkl
    have o1 := (o2.ext hE.e).n
    have hgd : l.getD k default = l[k] := by simp [List.getD_eq_getElem?_getD, hkl]
    have hone := hO.one
    generalize hgg : gv k = g at *
    generalize hoo : l[k] = o at *
    simp only [OrderD.cs, AtN, KS, Nat.reduceAdd, Nat.reduceMul, Nat.reduceEqDiff, ↓reduceIte, UT] at o1
    simp only [OrderD.cs] at hone
    (repeat with_reducible first | refine js ?_ | refine ja ?_ | refine jw KL93 [3] (aa TF93 (aa ho.s (aa ho.len o1))) fun _ => ?_)
    refine SemW_allocT ti58 fun po w2 h2 => ?_
    have b2 := h2.blk
    (repeat with_reducible first | refine js ?_ | refine ja ?_ | refine jw KL93 [3] TF93 fun _ => ?_)
    refine SemW_setW (by rw [cells58]; decide) (by rw [cells58]; rfl) h2.row (by rw [cells58]; rfl) (by simpa [Value.cells] using hone) fun w3 r3 kk3 z3 => ?_
    have r3 : Row w3 po 58 (o.cs g) := by simpa [Value.cells, OrderD.cs] using r3
    have x3 : Ext w1 w3 := Keep.ext h2.ext kk3 fun q hq => by omega
    have y3 := hE.ext x3
    have hJ3 := hc.step _ w1 w3 hJ (Keep.of_ext x3)
    have hkp' : k < p.Of.length := by omega
    let S : Nat → Prop := fun _ => True
    (repeat with_reducible first | refine jq ?_ | refine jk ?_ | refine jc ?_ | refine jl ?_ | refine jb ?_ | refine jo ?_ | refine ji ?_ | refine jx rfl ?_)
    refine Run_eh S [11] [(1, [3, 4, 6, 7, 11]), (4, [6, 7, 11]), (5, [6, 7, 11]), (10, [11])] (id := 3) KL93 (.first 0 (.first 1 (.first 2 (.first 3 (.first 4 (.first 5 (.first 6 (.first 7 (.first 8 (.first 9 (.first 10 (.alt true 11 (.first 12 (.free (.alt 13 .done .stop))) .stop)))))))))))) mixed (by kernel_rfl) (by kernel_rfl) fun w4 x4 _ => ?_
    have y4 := y3.ext x4
    have q2 := R2 w4 y4
    have q3 := R3 w4 y4
    obtain ⟨d1, d2, d3⟩ := (hP.o.ext y4.e).get hkp'
    have g4 := (r3.at_.ext x4).n
    simp only [OrderD.cs, AtN, KS, Nat.reduceAdd, Nat.reduceMul, Nat.reduceEqDiff, ↓reduceIte, UT] at g4
    by_cases hrun : p.Of[k] = run
    · have e0 : (p.Of[k] == run) = true := by simp [hrun]
      (try simp (maxSteps := 5000000) only [KS, Nat.reduceAdd, Nat.reduceMul, Nat.reduceEqDiff, ↓reduceIte, forall_const, Int.cast_ofNat_Int, Int.reduceToNat, List.take_succ_cons, List.take_zero, List.drop_succ_cons, List.drop_zero, TF93, KL93, eh, gres, qopS, putL, ung, q2, q3, d1, d2, hP.o.s, hP.o.len, g4, e0, beq_self_eq_true]); (try simp (disch := omega) only [wrapI, tmodI, tdivI])
      refine ⟨trivial, by omega, trivial, trivial, trivial, Keep.refl _ _, ?_⟩
      have hJ4 := hc.step _ w3 w4 hJ3 (Keep.of_ext x4)
      have hgo : p.Of.getD k 0 = run := by rw [List.getD_eq_getElem?_getD, List.getElem?_eq_getElem hkp']; exact hrun
      obtain ⟨hj, hje⟩ := ofL_get hkl hgo
      have hji : (ofL p run k).length < (ofItems l gv p run).length := by simpa [ofItems] using hj
      have hit : (ofItems l gv p run)[(ofL p run k).length] = [.int .i64 k, .agg (o.cs g).toArray] := by
        simp only [ofItems, List.getElem_map, hje, ofItem, hgd, hgg, hoo]
      have hs1 : (ofL p run (k + 1)).length = (ofL p run k).length + 1 := by simp only [ofL]; rw [if_pos hgo]; simp
      have hy := hc.yield _ w4 hji hJ4
      rw [hit] at hy
      refine hy.mono fun v w5 ⟨b, hb, k5, hj⟩ => ?_
      subst hb
      have y5 := y4.keep k5 hkp k1 k2 k3
      refine ⟨rfl, ?_⟩
      cases b with
      | true =>
        simp only [if_true] at hj
        simp only [bOf_mk, Bool.not_true, Bool.and_false]
        refine Run_condS (fun _ => rfl) (fun h => by cases h) (fun _ => ?_)
        (repeat with_reducible first | refine js ?_ | refine ja ?_ | refine jw KL93 [3] TF93 fun _ => ?_)
        refine Run_lp ⟨k + 1, ?_, ⟨by omega, by rw [hs1]; exact hj, y5⟩, by omega⟩
        simp [SubB, fnd, strike, has]
      | false =>
        simp only [Bool.false_eq_true, if_false] at hj
        simp only [bOf_mk, Bool.not_false, Bool.and_true]
        refine Run_condS (fun _ => rfl) (fun _ => ?_) (fun h => by cases h)
        (repeat with_reducible first | refine js ?_ | refine ja ?_ | refine jw KL93 [3] TF93 fun _ => ?_)
        refine Run_ret ?_
        simp only [Rets, RetM, resV, oneOr]
        exact ⟨trivial, .inl hj⟩
    · have e0 : (p.Of[k] == run) = false := by simp [hrun]
      (try simp (maxSteps := 5000000) only [KS, Nat.reduceAdd, Nat.reduceMul, Nat.reduceEqDiff, ↓reduceIte, forall_const, Int.cast_ofNat_Int, Int.reduceToNat, List.take_succ_cons, List.take_zero, List.drop_succ_cons, List.drop_zero, TF93, KL93, eh, gres, qopS, putL, ung, q2, q3, d1, d2, hP.o.s, hP.o.len, g4, e0, beq_self_eq_true]); (try simp (disch := omega) only [wrapI, tmodI, tdivI])
      simp only [show (false == true) = false by rfl, Bool.false_eq_true, if_false, pk_false]
      refine ⟨trivial, by omega, trivial, trivial, Keep.refl _ _, ?_⟩
      have hJ4 := hc.step _ w3 w4 hJ3 (Keep.of_ext x4)
      have hgo : p.Of.getD k 0 ≠ run := by rw [List.getD_eq_getElem?_getD, List.getElem?_eq_getElem hkp']; exact hrun
      refine Run_condS (fun _ => rfl) (fun h => by cases h) (fun _ => ?_)
      (repeat with_reducible first | refine js ?_ | refine ja ?_ | refine jw KL93 [3] TF93 fun _ => ?_)
      have hs1 : (ofL p run (k + 1)).length = (ofL p run k).length := by simp only [ofL]; rw [if_neg hgo]; simp
      refine Run_lp ⟨k + 1, ?_, ⟨by omega, by rw [hs1]; exact hJ4, y4⟩, by omega⟩
      simp [SubB, fnd, strike, has]
  · simp at h
    obtain rfl : k = l.length := by omega
    (repeat with_reducible first | refine js ?_ | refine ja ?_ | refine jw KL93 [3] TF93 fun _ => ?_)
    refine Run_nil ?_
    simp only [Rets, RetM, resV, oneOr]
    exact ⟨trivial, .inr (by simpa [ofItems] using hJ)⟩
end Go.Proofs.YtoadfmgnpmcbfaaGreat
