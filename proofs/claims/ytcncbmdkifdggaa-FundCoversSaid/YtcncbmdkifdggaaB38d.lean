/- Books (chapter 38), for other seats: paid; the function that yields balances. -/
import Derived.Test.YtcncbmdkifdggaaB38c
namespace Go.Proofs.Ytcncbmdkifdggaa
open Go Go.Fk
set_option linter.unusedSimpArgs false
set_option linter.unusedVariables false
set_option maxRecDepth 100000

theorem lo_get {b : List Int} {k : Int} (h0 : 0 ≤ k) (h : k.toNat < b.length) : b[k.toNat] = Bk.lo b k := by simp [Bk.lo, List.getD_eq_getElem?_getD, h]
theorem bkPaid (p : Addr) (b : List Int) (m : MoveD) (w : World) (ha : At w p (ints b)) (hb : b.length = 115) (h0 : 0 ≤ m.From) (h1 : m.From ≤ 114) :
    Calls Try.prog 35 #[.pointer (some p), .agg m.cs.toArray] w fun e w' => e = .returned (.bool (Bk.paid b m)) ∧ Ext w w' := by
  refine Calls_of_Run (args := [.pointer (some p), .agg m.cs.toArray]) (n := 17) (rs := [.tmp 4]) Try.func35 rfl rfl rfl (by simp) ?_
  (repeat first | with_reducible first | refine jq ?_ | refine jk ?_ | refine jc ?_ | refine jl ?_ | refine jb ?_ | refine jo ?_ | refine ji ?_ | refine jx rfl ?_ | refine And.intro (by first | assumption | omega | (intros; omega)) ?_ | ((first | refine jR KL35 (by kernel_rfl) fun _ => ?_ | refine jD (id := 1) KL35 mixed (by kernel_rfl) (by kernel_rfl) fun _ => ?_ | skip); simp only [KS, Nat.reduceAdd, Nat.reduceMul, Nat.reduceEqDiff, ↓reduceIte, forall_const, Int.cast_ofNat_Int, Int.reduceToNat, TF35, KL35]; (try simp (disch := omega) only [wrapI, tmodI, tdivI]); (fail_if_success (with_reducible show False))))
  refine SemW_box fun q w1 hN => ?_
  have g1 := hN.at_.n
  simp only [MoveD.cs, AtN, KS, Nat.reduceAdd, Nat.reduceMul, Nat.reduceEqDiff, ↓reduceIte, UT] at g1
  obtain ⟨g2, g3⟩ := at_int (ha.ext hN.ext) (i := m.From.toNat) (by omega)
  rw [lo_get h0 (by omega)] at g3
  (repeat first | with_reducible first | refine jq ?_ | refine jk ?_ | refine jc ?_ | refine jl ?_ | refine jb ?_ | refine jo ?_ | refine ji ?_ | refine jx rfl ?_ | refine And.intro (by first | assumption | omega | (intros; omega)) ?_ | ((first | refine jR KL35 (by kernel_rfl) fun _ => ?_ | refine jD (id := 1) KL35 mixed (by kernel_rfl) (by kernel_rfl) fun _ => ?_ | skip); simp only [KS, Nat.reduceAdd, Nat.reduceMul, Nat.reduceEqDiff, ↓reduceIte, forall_const, Int.cast_ofNat_Int, Int.reduceToNat, TF35, KL35, g1, g2, g3]; (try simp (disch := omega) only [wrapI, tmodI, tdivI]); (fail_if_success (with_reducible show False))))
  intro w2 x2
  (repeat first | with_reducible first | refine jq ?_ | refine jk ?_ | refine jc ?_ | refine jl ?_ | refine jb ?_ | refine jo ?_ | refine ji ?_ | refine jx rfl ?_ | refine And.intro (by first | assumption | omega | (intros; omega)) ?_ | ((first | refine jR KL35 (by kernel_rfl) fun _ => ?_ | refine jD (id := 1) KL35 mixed (by kernel_rfl) (by kernel_rfl) fun _ => ?_ | skip); simp only [KS, Nat.reduceAdd, Nat.reduceMul, Nat.reduceEqDiff, ↓reduceIte, forall_const, Int.cast_ofNat_Int, Int.reduceToNat, TF35, KL35]; (try simp (disch := omega) only [wrapI, tmodI, tdivI]); (fail_if_success (with_reducible show False))))
  refine Run_ret ?_
  simp [Rets, RetM, resV, fnd, oneOr]
  refine ⟨?_, hN.ext.trans x2⟩
  rw [Bool.eq_iff_iff]; simp [Bk.paid]

/-- the function that steps makes -/
theorem bkSteps (b : List Int) (vl : Value) (w : World) (hb : b.length = 115) (hl : vl.cells = #[vl]) :
    Calls Try.prog 34 #[.agg (ints b).toArray, vl] w fun e w' => ∃ pl pb, e = .returned (.func (.func 66) #[] #[.pointer (some pl), .pointer (some pb)]) ∧ Row w' pl 37 [vl] ∧ Row w' pb 71 (ints b) ∧ Ext w w' ∧ w.heap.size ≤ pl.block ∧ w.heap.size ≤ pb.block ∧ pl.block ≠ pb.block := by
  refine Calls_of_Run (args := [.agg (ints b).toArray, vl]) (n := 6) (rs := [.tmp 4]) Try.func34 rfl rfl rfl (by simp) ?_
  (repeat first | with_reducible first | refine jq ?_ | refine jk ?_ | refine jc ?_ | refine jl ?_ | refine jb ?_ | refine jo ?_ | refine ji ?_ | refine jx rfl ?_ | refine And.intro (by first | assumption | omega | (intros; omega)) ?_ | ((first | refine jR KL34 (by kernel_rfl) fun _ => ?_ | skip); simp only [KS, Nat.reduceAdd, Nat.reduceMul, Nat.reduceEqDiff, ↓reduceIte, forall_const, Int.cast_ofNat_Int, Int.reduceToNat, TF34, KL34]; (try simp (disch := omega) only [wrapI, tmodI, tdivI]); (fail_if_success (with_reducible show False))))
  refine SemW_box fun p1 w1 h1 => SemW_box fun p2 w2 h2 => ?_
  (repeat first | with_reducible first | refine jq ?_ | refine jk ?_ | refine jc ?_ | refine jl ?_ | refine jb ?_ | refine jo ?_ | refine ji ?_ | refine jx rfl ?_ | refine And.intro (by first | assumption | omega | (intros; omega)) ?_ | ((first | refine jR KL34 (by kernel_rfl) fun _ => ?_ | skip); simp only [KS, Nat.reduceAdd, Nat.reduceMul, Nat.reduceEqDiff, ↓reduceIte, forall_const, Int.cast_ofNat_Int, Int.reduceToNat, TF34, KL34]; (try simp (disch := omega) only [wrapI, tmodI, tdivI]); (fail_if_success (with_reducible show False))))
  refine Run_ret ?_
  simp [Rets, RetM, resV, fnd, oneOr]
  have b1 := h1.blk
  have b2 := h2.blk
  have s1 := h1.size
  rw [hl] at h2
  refine ⟨p2, p1, ⟨rfl, rfl⟩, h2.row, ?_, h1.ext.trans h2.ext, by omega, by omega, by omega⟩
  have := h1.row.ext h2.ext
  simpa [Value.cells] using this

def items (s : List Int) (l : List MoveD) : List (List Value) := (List.range l.length).map fun (k : Nat) => [.int .i64 (k : Int), .agg (ints (Bk.after s (l.take (k + 1)))).toArray]
theorem items_len (s : List Int) (l : List MoveD) : (items s l).length = l.length := by simp [items]
theorem items_get {s : List Int} {l : List MoveD} {k : Nat} (h : k < (items s l).length) : (items s l)[k] = [.int .i64 (k : Int), .agg (ints (Bk.after s (l.take (k + 1)))).toArray] := by simp [items]

theorem setLo {b : List Int} (hb : b.length = 115) {k : Int} (x : Int) : (ints b).set k.toNat (.int .i64 x) = ints (b.set k.toNat x) := ints_set b _ x

structure SI (W : World) (pl pb : Addr) (vl : Value) (b : List Int) (J : World → Prop) (w : World) : Prop where
  j : J w
  e : Ext W w
  l : At w pl [vl]
  b : Row w pb 71 (ints b)

theorem stepsIter (W : World) (pl pb : Addr) (vl : Value) (s : List Int) (l : List MoveD) (hx : Sl W vl l) (hs : Bk.startOk s = true) (hl : Bk.allOk 0 l = true) (h4 : l.length ≤ 4096) (kp : Nat → Prop) (hkb : kp pb.block) (hkl : kp pl.block) (hkW : ∀ k, k < W.heap.size → kp k)
    (yv : Value) (J : Nat → World → Prop) (Jx : World → Prop) (w : World) (hc : Cons Try.prog yv (items s l) (fun b => b = pb.block) kp J Jx) (hW : Ext W w) (hpl : Row w pl 37 [vl]) (hpb : Row w pb 71 (ints s)) (hlb : pl.block ≠ pb.block) (hWb : W.heap.size ≤ pb.block) (h0 : J 0 w) :
    Calls Try.prog 66 #[yv, .pointer (some pl), .pointer (some pb)] w fun e w' => e = .returned (.tuple #[]) ∧ (Jx w' ∨ J (items s l).length w') := by
  have hn := hx.small
  have q1 := hpl.n
  simp only [AtN, add_zero] at q1
  refine Calls_of_Run (args := [yv, .pointer (some pl), .pointer (some pb)]) (n := 35) (rs := []) Try.func66 rfl rfl rfl (by simp) ?_
  (repeat first | with_reducible first | refine jq ?_ | refine jk ?_ | refine jc ?_ | refine jl ?_ | refine jb ?_ | refine jo ?_ | refine ji ?_ | refine jx rfl ?_ | refine And.intro (by first | assumption | omega | (intros; omega)) ?_ | ((first | refine jR KL66 (by kernel_rfl) fun _ => ?_ | refine jT (id := 3) KL66 6 mixed (by kernel_rfl) (by kernel_rfl) (by kernel_rfl) fun _ => ?_ | refine jT (id := 4) KL66 6 mixed (by kernel_rfl) (by kernel_rfl) (by kernel_rfl) fun _ => ?_ | skip); simp only [KS, Nat.reduceAdd, Nat.reduceMul, Nat.reduceEqDiff, ↓reduceIte, forall_const, Int.cast_ofNat_Int, Int.reduceToNat, TF66, KL66, List.take_succ_cons, List.take_zero, List.drop_succ_cons, List.drop_zero, q1.1, q1.2.1, hx.s, hx.len]; (try simp (disch := omega) only [wrapI, tmodI, tdivI]); (fail_if_success (with_reducible show False))))
  refine Run_loopV [4, 5, 8, 9, 33] (σ := Nat) (fun k => [(8, some (.int .i64 k))]) (fun k w' => k ≤ l.length ∧ SI W pl pb vl (Bk.after s (l.take k)) (J k) w') (fun k => l.length - k) 0 (by simp [SubB, fnd]) ⟨by omega, h0, hW, hpl.at_, hpb⟩ ?_
  rintro k w1 ⟨hk, hS⟩
  obtain ⟨hlim, hblen⟩ := Bk.lim_after hs hl k hk
  (repeat first | with_reducible first | refine jq ?_ | refine jk ?_ | refine jc ?_ | refine jl ?_ | refine jb ?_ | refine jo ?_ | refine ji ?_ | refine jx rfl ?_ | refine And.intro (by first | assumption | omega | (intros; omega)) ?_ | ((first | refine jR KL66 (by kernel_rfl) fun _ => ?_ | refine jT (id := 3) KL66 6 mixed (by kernel_rfl) (by kernel_rfl) (by kernel_rfl) fun _ => ?_ | refine jT (id := 4) KL66 6 mixed (by kernel_rfl) (by kernel_rfl) (by kernel_rfl) fun _ => ?_ | skip); simp only [KS, Nat.reduceAdd, Nat.reduceMul, Nat.reduceEqDiff, ↓reduceIte, forall_const, Int.cast_ofNat_Int, Int.reduceToNat, TF66, KL66, List.take_succ_cons, List.take_zero, List.drop_succ_cons, List.drop_zero]; (try simp (disch := omega) only [wrapI, tmodI, tdivI]); (fail_if_success (with_reducible show False))))
  refine Run_condS (fun _ => rfl) (fun h => ?_) (fun h => ?_)
  · simp at h
    have hkl' := h
    obtain ⟨f1, f2⟩ := (hx.ext hS.e).moveD h
    have hm := Bk.allOk_get h hl
    have hlim2 := Bk.lim_after hs hl (k + 1) (by omega)
    have haft := Bk.after_take h s
    generalize l[k] = m at *
    generalize hB : Bk.after s (l.take k) = b at *
    have hm' := hm
    simp only [Bk.mOk, decide_eq_true_eq] at hm'
    simp only [MoveD.cs, AtN, KS, Nat.reduceAdd, Nat.reduceMul, Nat.reduceEqDiff, ↓reduceIte, UT] at f1
    (repeat first | with_reducible first | refine jq ?_ | refine jk ?_ | refine jc ?_ | refine jl ?_ | refine jb ?_ | refine jo ?_ | refine ji ?_ | refine jx rfl ?_ | refine And.intro (by first | assumption | omega | (intros; omega)) ?_ | ((first | refine jR KL66 (by kernel_rfl) fun _ => ?_ | refine jT (id := 3) KL66 6 mixed (by kernel_rfl) (by kernel_rfl) (by kernel_rfl) fun _ => ?_ | refine jT (id := 4) KL66 6 mixed (by kernel_rfl) (by kernel_rfl) (by kernel_rfl) fun _ => ?_ | skip); simp only [KS, Nat.reduceAdd, Nat.reduceMul, Nat.reduceEqDiff, ↓reduceIte, forall_const, Int.cast_ofNat_Int, Int.reduceToNat, TF66, KL66, List.take_succ_cons, List.take_zero, List.drop_succ_cons, List.drop_zero, hx.s, hx.len, f1]; (try simp (disch := omega) only [wrapI, tmodI, tdivI]); (fail_if_success (with_reducible show False))))
    refine SemW_var ti45 rfl rfl (by decide) rfl fun p w2 hN => ?_
    have g1 := hN.at_.n
    simp only [AtN, KS, Nat.reduceAdd, Nat.reduceMul, Nat.reduceEqDiff, ↓reduceIte, UT] at g1
    have r2 := hS.b.ext hN.ext
    have n1 := hN.blk
    have n2 := hS.b.lt
    obtain ⟨d1, d2⟩ := at_int r2.at_ (i := m.From.toNat) (by omega)
    rw [lo_get (by omega) (by omega)] at d2
    have l1 := hlim m.From (by omega)
    have hkk : (1099511627776 * (k : Int)) ≤ 1099511627776 * 4096 := by omega
    (repeat first | with_reducible first | refine jq ?_ | refine jk ?_ | refine jc ?_ | refine jl ?_ | refine jb ?_ | refine jo ?_ | refine ji ?_ | refine jx rfl ?_ | refine And.intro (by first | assumption | omega | (intros; omega)) ?_ | ((first | refine jR KL66 (by kernel_rfl) fun _ => ?_ | refine jT (id := 3) KL66 6 mixed (by kernel_rfl) (by kernel_rfl) (by kernel_rfl) fun _ => ?_ | refine jT (id := 4) KL66 6 mixed (by kernel_rfl) (by kernel_rfl) (by kernel_rfl) fun _ => ?_ | skip); simp only [KS, Nat.reduceAdd, Nat.reduceMul, Nat.reduceEqDiff, ↓reduceIte, forall_const, Int.cast_ofNat_Int, Int.reduceToNat, TF66, KL66, List.take_succ_cons, List.take_zero, List.drop_succ_cons, List.drop_zero, g1, d1, d2]; (try simp (disch := omega) only [wrapI, tmodI, tdivI]); (fail_if_success (with_reducible show False))))
    intro w3 x3
    refine ⟨by omega, ?_⟩
    refine SemW_setAt cells3 (r2.ext x3) (by simp; omega) rfl rfl fun w4 r4 k4 s4 => ?_
    rw [ints_set] at r4
    have g4 := hN.at_.ext x3
    have g4' := (g4.keep k4 (by omega)).n
    simp only [AtN, KS, Nat.reduceAdd, Nat.reduceMul, Nat.reduceEqDiff, ↓reduceIte, UT] at g4'
    have hb1 : (b.set m.From.toNat (Bk.lo b m.From - m.Amount)).length = 115 := by simpa using hblen
    obtain ⟨d3, d4⟩ := at_int r4.at_ (i := m.To.toNat) (by omega)
    rw [lo_get (by omega) (by omega)] at d4
    have e2 : Bk.lo (b.set m.From.toNat (Bk.lo b m.From - m.Amount)) m.To = Bk.lo b m.To := by
      rw [Bk.lo_set (by omega) (by omega), if_neg (by omega)]
    rw [e2] at d4
    have l2 := hlim m.To (by omega)
    (repeat first | with_reducible first | refine jq ?_ | refine jk ?_ | refine jc ?_ | refine jl ?_ | refine jb ?_ | refine jo ?_ | refine ji ?_ | refine jx rfl ?_ | refine And.intro (by first | assumption | omega | (intros; omega)) ?_ | ((first | refine jR KL66 (by kernel_rfl) fun _ => ?_ | refine jT (id := 3) KL66 6 mixed (by kernel_rfl) (by kernel_rfl) (by kernel_rfl) fun _ => ?_ | refine jT (id := 4) KL66 6 mixed (by kernel_rfl) (by kernel_rfl) (by kernel_rfl) fun _ => ?_ | skip); simp only [KS, Nat.reduceAdd, Nat.reduceMul, Nat.reduceEqDiff, ↓reduceIte, forall_const, Int.cast_ofNat_Int, Int.reduceToNat, TF66, KL66, List.take_succ_cons, List.take_zero, List.drop_succ_cons, List.drop_zero, g4', d3, d4]; (try simp (disch := omega) only [wrapI, tmodI, tdivI]); (fail_if_success (with_reducible show False))))
    intro w5 x5
    refine ⟨by omega, ?_⟩
    refine SemW_setAt cells3 (r4.ext x5) (by simp; omega) rfl rfl fun w6 r6 k6 s6 => ?_
    rw [ints_set] at r6
    have e3 : ((b.set m.From.toNat (Bk.lo b m.From - m.Amount)).set m.To.toNat (Bk.lo b m.To + m.Amount)) = Bk.after s (l.take (k + 1)) := by rw [haft]; simp only [Bk.step, e2]
    rw [e3] at r6
    have n3 := x3.size
    have n5 := x5.size
    have kk : Keep (fun q => q ≠ pb.block) w1 w6 :=
      (Keep.of_ext (hN.ext.trans x3)).trans ((k4.trans (Keep.of_ext x5)).trans k6)
    have hS6 : J k w6 := hc.step _ _ _ hS.j (kk.mono fun q _ hq e => hq e)
    have hE6 : Ext W w6 := Keep.ext hS.e kk fun q hq => by omega
    have hl6 : At w6 pl [vl] := hS.l.keep kk hlb
    obtain ⟨d5, d6⟩ := at_memA r6.at_ (n := 115) (by simpa using hlim2.2)
    (repeat first | with_reducible first | refine jq ?_ | refine jk ?_ | refine jc ?_ | refine jl ?_ | refine jb ?_ | refine jo ?_ | refine ji ?_ | refine jx rfl ?_ | refine And.intro (by first | assumption | omega | (intros; omega)) ?_ | ((first | refine jR KL66 (by kernel_rfl) fun _ => ?_ | refine jT (id := 3) KL66 6 mixed (by kernel_rfl) (by kernel_rfl) (by kernel_rfl) fun _ => ?_ | refine jT (id := 4) KL66 6 mixed (by kernel_rfl) (by kernel_rfl) (by kernel_rfl) fun _ => ?_ | skip); simp only [KS, Nat.reduceAdd, Nat.reduceMul, Nat.reduceEqDiff, ↓reduceIte, forall_const, Int.cast_ofNat_Int, Int.reduceToNat, TF66, KL66, List.take_succ_cons, List.take_zero, List.drop_succ_cons, List.drop_zero, d5, d6]; (try simp (disch := omega) only [wrapI, tmodI, tdivI]); (fail_if_success (with_reducible show False))))
    have hki : k < (items s l).length := by rw [items_len]; exact hkl'
    have hy := hc.yield k w6 hki hS6
    rw [items_get hki] at hy
    refine hy.mono fun v w7 ⟨b', hv, k7, hj⟩ => ?_
    subst hv
    cases b' with
    | true =>
      simp only [if_true] at hj
      (repeat first | with_reducible first | refine jq ?_ | refine jk ?_ | refine jc ?_ | refine jl ?_ | refine jb ?_ | refine jo ?_ | refine ji ?_ | refine jx rfl ?_ | refine And.intro (by first | assumption | omega | (intros; omega)) ?_ | ((first | refine jR KL66 (by kernel_rfl) fun _ => ?_ | refine jT (id := 3) KL66 6 mixed (by kernel_rfl) (by kernel_rfl) (by kernel_rfl) fun _ => ?_ | refine jT (id := 4) KL66 6 mixed (by kernel_rfl) (by kernel_rfl) (by kernel_rfl) fun _ => ?_ | skip); simp only [KS, Nat.reduceAdd, Nat.reduceMul, Nat.reduceEqDiff, ↓reduceIte, forall_const, Int.cast_ofNat_Int, Int.reduceToNat, TF66, KL66, List.take_succ_cons, List.take_zero, List.drop_succ_cons, List.drop_zero]; (try simp (disch := omega) only [wrapI, tmodI, tdivI]); (fail_if_success (with_reducible show False))))
      refine Run_condS (fun _ => rfl) (fun h => by cases h) (fun _ => ?_)
      (repeat first | with_reducible first | refine jq ?_ | refine jk ?_ | refine jc ?_ | refine jl ?_ | refine jb ?_ | refine jo ?_ | refine ji ?_ | refine jx rfl ?_ | refine And.intro (by first | assumption | omega | (intros; omega)) ?_ | ((first | refine jR KL66 (by kernel_rfl) fun _ => ?_ | refine jT (id := 3) KL66 6 mixed (by kernel_rfl) (by kernel_rfl) (by kernel_rfl) fun _ => ?_ | refine jT (id := 4) KL66 6 mixed (by kernel_rfl) (by kernel_rfl) (by kernel_rfl) fun _ => ?_ | skip); simp only [KS, Nat.reduceAdd, Nat.reduceMul, Nat.reduceEqDiff, ↓reduceIte, forall_const, Int.cast_ofNat_Int, Int.reduceToNat, TF66, KL66, List.take_succ_cons, List.take_zero, List.drop_succ_cons, List.drop_zero]; (try simp (disch := omega) only [wrapI, tmodI, tdivI]); (fail_if_success (with_reducible show False))))
      refine Run_lp ⟨k + 1, ?_, ⟨by omega, hj, Keep.ext hE6 k7 hkW, hl6.keep k7 hkl, r6.keep k7 hkb⟩, by omega⟩
      simp [SubB, fnd, strike, has]
    | false =>
      simp only [Bool.false_eq_true, if_false] at hj
      (repeat first | with_reducible first | refine jq ?_ | refine jk ?_ | refine jc ?_ | refine jl ?_ | refine jb ?_ | refine jo ?_ | refine ji ?_ | refine jx rfl ?_ | refine And.intro (by first | assumption | omega | (intros; omega)) ?_ | ((first | refine jR KL66 (by kernel_rfl) fun _ => ?_ | refine jT (id := 3) KL66 6 mixed (by kernel_rfl) (by kernel_rfl) (by kernel_rfl) fun _ => ?_ | refine jT (id := 4) KL66 6 mixed (by kernel_rfl) (by kernel_rfl) (by kernel_rfl) fun _ => ?_ | skip); simp only [KS, Nat.reduceAdd, Nat.reduceMul, Nat.reduceEqDiff, ↓reduceIte, forall_const, Int.cast_ofNat_Int, Int.reduceToNat, TF66, KL66, List.take_succ_cons, List.take_zero, List.drop_succ_cons, List.drop_zero]; (try simp (disch := omega) only [wrapI, tmodI, tdivI]); (fail_if_success (with_reducible show False))))
      refine Run_condS (fun _ => rfl) (fun _ => ?_) (fun h => by cases h)
      (repeat first | with_reducible first | refine jq ?_ | refine jk ?_ | refine jc ?_ | refine jl ?_ | refine jb ?_ | refine jo ?_ | refine ji ?_ | refine jx rfl ?_ | refine And.intro (by first | assumption | omega | (intros; omega)) ?_ | ((first | refine jR KL66 (by kernel_rfl) fun _ => ?_ | refine jT (id := 3) KL66 6 mixed (by kernel_rfl) (by kernel_rfl) (by kernel_rfl) fun _ => ?_ | refine jT (id := 4) KL66 6 mixed (by kernel_rfl) (by kernel_rfl) (by kernel_rfl) fun _ => ?_ | skip); simp only [KS, Nat.reduceAdd, Nat.reduceMul, Nat.reduceEqDiff, ↓reduceIte, forall_const, Int.cast_ofNat_Int, Int.reduceToNat, TF66, KL66, List.take_succ_cons, List.take_zero, List.drop_succ_cons, List.drop_zero]; (try simp (disch := omega) only [wrapI, tmodI, tdivI]); (fail_if_success (with_reducible show False))))
      refine Run_ret ?_
      simp only [Rets, RetM, resV, oneOr]
      exact ⟨trivial, .inl hj⟩
  · simp at h
    obtain rfl : k = l.length := by omega
    (repeat first | with_reducible first | refine jq ?_ | refine jk ?_ | refine jc ?_ | refine jl ?_ | refine jb ?_ | refine jo ?_ | refine ji ?_ | refine jx rfl ?_ | refine And.intro (by first | assumption | omega | (intros; omega)) ?_ | ((first | refine jR KL66 (by kernel_rfl) fun _ => ?_ | refine jT (id := 3) KL66 6 mixed (by kernel_rfl) (by kernel_rfl) (by kernel_rfl) fun _ => ?_ | refine jT (id := 4) KL66 6 mixed (by kernel_rfl) (by kernel_rfl) (by kernel_rfl) fun _ => ?_ | skip); simp only [KS, Nat.reduceAdd, Nat.reduceMul, Nat.reduceEqDiff, ↓reduceIte, forall_const, Int.cast_ofNat_Int, Int.reduceToNat, TF66, KL66, List.take_succ_cons, List.take_zero, List.drop_succ_cons, List.drop_zero]; (try simp (disch := omega) only [wrapI, tmodI, tdivI]); (fail_if_success (with_reducible show False))))
    refine Run_nil ?_
    simp only [Rets, RetM, resV, oneOr]
    exact ⟨trivial, .inr (by rw [items_len]; exact hS.j)⟩
end Go.Proofs.Ytcncbmdkifdggaa
