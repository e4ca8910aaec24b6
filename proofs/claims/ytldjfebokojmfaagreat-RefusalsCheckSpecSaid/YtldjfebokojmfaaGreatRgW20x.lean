import Derived.Test.YtldjfebokojmfaaGreatRgB38x
import Derived.Test.YtldjfebokojmfaaGreatRgD19x
import Derived.Test.YtldjfebokojmfaaGreatRgGp
import Derived.Test.YtldjfebokojmfaaGreatRgGb
namespace Go.Proofs.YtldjfebokojmfaaGreat
open Go Go.Fk
set_option linter.unusedSimpArgs false
set_option linter.unusedVariables false
set_option maxRecDepth 100000
theorem ttBetween (n a b : Int) (w : World) : Calls Tryz.prog 93 #[.int .i64 n, .int .i64 a, .int .i64 b] w fun e w' => e = .returned (.bool (decide (a ≤ n ∧ n ≤ b))) ∧ Ext w w' := by
  refine Calls_of_Run (args := [.int .i64 n, .int .i64 a, .int .i64 b]) (n := 15) (rs := [.tmp 6]) Tryz.func93 rfl rfl rfl (by simp) ?_
  (repeat with_reducible first | refine jy ?_ | refine jw KL93 [] TF93 fun _ => ?_)
  refine Run_ret ?_
  simp [Rets, RetM, resV, fnd, oneOr, Ext.refl]
theorem betW {n a b : Int} {w : World} {K : Value → World → Prop} (hK : ∀ w', Ext w w' → K (.bool (decide (a ≤ n ∧ n ≤ b))) w') : CallW Tryz.prog (.func (.func 93) #[] #[]) [.int .i64 n, .int .i64 a, .int .i64 b] w K :=
  CallW_pure call93 (ttBetween n a b w) hK
abbrev lcs (x : LineD) (v0 v1 v2 v3 : Value) (n : Int) : List Value := [v0, v1, .int .i64 x.Classes, .int .i64 x.Room, v2, v3, .int .i64 n]
theorem ttSized (x : LineD) (v0 v1 v2 v3 : Value) (n : Int) (w : World) (h : LineR w x v0 v1 v2 v3) :
    Calls Tryz.prog 127 #[.agg (lcs x v0 v1 v2 v3 n).toArray] w fun e w' => e = .returned (.bool (Tt.sized x)) ∧ Ext w w' := by
  have b0 := h.o.small
  have b1 := h.l.small
  refine Calls_of_Run (args := [.agg (lcs x v0 v1 v2 v3 n).toArray]) (n := 20) (rs := [.tmp 2]) Tryz.func127 rfl rfl rfl (by simp) ?_
  (repeat with_reducible first | refine jy ?_ | refine jw KL127 [] TF127 fun _ => ?_)
  refine SemW_box fun p w1 hN => ?_
  have g1 := hN.at_.n
  simp only [AtN, KS, Nat.reduceAdd, Nat.reduceMul, Nat.reduceEqDiff, ↓reduceIte, UT] at g1
  (repeat with_reducible first | refine jy ?_ | refine jw KL127 [] (aa TF127 (aa g1 (aa h.o.s h.o.len))) fun _ => ?_)
  refine betW fun w2 x2 => ?_
  have g2 := (hN.at_.ext x2).n
  simp only [AtN, KS, Nat.reduceAdd, Nat.reduceMul, Nat.reduceEqDiff, ↓reduceIte, UT] at g2
  (repeat with_reducible first | refine jy ?_ | refine jw KL127 [] (aa TF127 (aa g2 (aa h.o.s (aa h.o.len (aa h.l.s h.l.len))))) fun _ => ?_)
  refine Run_ret ?_
  simp [Rets, RetM, resV, fnd, oneOr]
  refine ⟨?_, hN.ext.trans x2⟩
  rw [Bool.eq_iff_iff]; simp [Tt.sized]; omega
theorem ttNumbers (x : LineD) (v0 v1 v2 v3 : Value) (n : Int) (w : World) :
    Calls Tryz.prog 128 #[.agg (lcs x v0 v1 v2 v3 n).toArray] w fun e w' => e = .returned (.bool (Tt.numbers x)) ∧ Ext w w' := by
  refine Calls_of_Run (args := [.agg (lcs x v0 v1 v2 v3 n).toArray]) (n := 13) (rs := [.tmp 2]) Tryz.func128 rfl rfl rfl (by simp) ?_
  (repeat with_reducible first | refine jy ?_ | refine jw KL128 [] TF128 fun _ => ?_)
  refine SemW_box fun p w1 hN => ?_
  have g1 := hN.at_.n
  simp only [AtN, KS, Nat.reduceAdd, Nat.reduceMul, Nat.reduceEqDiff, ↓reduceIte, UT] at g1
  (repeat with_reducible first | refine jy ?_ | refine jw KL128 [] (aa TF128 g1) fun _ => ?_)
  refine betW fun w2 x2 => ?_
  have g2 := (hN.at_.ext x2).n
  simp only [AtN, KS, Nat.reduceAdd, Nat.reduceMul, Nat.reduceEqDiff, ↓reduceIte, UT] at g2
  (repeat with_reducible first | refine jy ?_ | refine jw KL128 [] (aa TF128 g2) fun _ => ?_)
  refine .inr ⟨.bool (decide (1 ≤ x.Room ∧ x.Room ≤ 64)), fun _ => PC_pure call93 fun w3 x3 => ttBetween _ _ _ w3, fun w3 x3 => ?_⟩
  unfold hush
  (repeat with_reducible first | refine jy ?_ | refine jw KL128 [] (aa TF128 g2) fun _ => ?_)
  refine Run_ret ?_
  simp [Rets, RetM, resV, fnd, oneOr]
  refine ⟨?_, hN.ext.trans (x2.trans x3)⟩
  rw [Bool.eq_iff_iff]; simp [Tt.numbers]; omega
theorem ttLegs1 (n : Int) (w : World) : Calls Tryz.prog 151 #[.int .i64 n] w fun e w' => e = .returned (.bool (!Tt.legOk n)) ∧ Ext w w' := by
  refine Calls_of_Run (args := [.int .i64 n]) (n := 6) (rs := [.tmp 2]) Tryz.func151 rfl rfl rfl (by simp) ?_
  (repeat with_reducible first | refine jy ?_ | refine jw KL151 [] TF151 fun _ => ?_)
  refine betW fun w2 x2 => ?_
  (repeat with_reducible first | refine jy ?_ | refine jw KL151 [] TF151 fun _ => ?_)
  refine Run_ret ?_
  simp [Rets, RetM, resV, fnd, oneOr, x2, Tt.legOk]
theorem any_not (xs : List Int) (q : Int → Bool) : (xs.any fun n => !q n) = !xs.all q := by
  induction xs with
  | nil => rfl
  | cons x xs ih => simp [List.any_cons, List.all_cons, ih]
theorem hasNot {vs : Value} {xs : List Int} {q : Int → Bool} {g : FuncId} {w : World} (hs : Sl w vs xs) (hc : callable Tryz.prog g = true) (hq : ∀ n w, Calls Tryz.prog g #[.int .i64 n] w fun e w' => e = .returned (.bool (!q n)) ∧ Ext w w') :
    Calls Tryz.prog 122 #[vs, fnv g] w fun e w' => e = .returned (.bool (!xs.all q)) ∧ Ext w w' := by
  have hh := hasInt vs (fnv g) xs (fun k => !q (xs.getD k 0)) w hs fun k hk => by
    have e : xs.getD k 0 = xs[k] := by simp [List.getD_eq_getElem?_getD, hk]
    rw [e]; exact Pred_fn hc (hq xs[k])
  rwa [anyN_list (q := fun n => !q n) fun k hk => by simp [List.getD_eq_getElem?_getD, hk], any_not] at hh
theorem ttLegs (x : LineD) (v0 v1 v2 v3 : Value) (n : Int) (w : World) (h : LineR w x v0 v1 v2 v3) :
    Calls Tryz.prog 130 #[.agg (lcs x v0 v1 v2 v3 n).toArray] w fun e w' => e = .returned (.bool (Tt.legs x)) ∧ Ext w w' := by
  refine Calls_of_Run (args := [.agg (lcs x v0 v1 v2 v3 n).toArray]) (n := 8) (rs := [.tmp 2]) Tryz.func130 rfl rfl rfl (by simp) ?_
  (repeat with_reducible first | refine jy ?_ | refine jw KL130 [] TF130 fun _ => ?_)
  refine SemW_box fun p w1 hN => ?_
  have g1 := hN.at_.n
  simp only [AtN, KS, Nat.reduceAdd, Nat.reduceMul, Nat.reduceEqDiff, ↓reduceIte, UT] at g1
  (repeat with_reducible first | refine jy ?_ | refine jw KL130 [] (aa TF130 g1) fun _ => ?_)
  refine CallW_pure call122 (hasNot (h.l.ext hN.ext) call151 ttLegs1) fun w2 x2 => ?_
  (repeat with_reducible first | refine jy ?_ | refine jw KL130 [] TF130 fun _ => ?_)
  refine Run_ret ?_
  simp [Rets, RetM, resV, fnd, oneOr, Tt.legs]
  exact hN.ext.trans x2
theorem bools_set (l : List Bool) (i : Nat) (x : Bool) : (Tt.bools l).set i (.bool x) = Tt.bools (l.set i x) := by simp [List.map_set]
theorem at_bool {w : World} {a : Addr} {l : List Bool} (h : At w a (Tt.bools l)) {i : Nat} (hi : i < l.length) : has1 w (a.add i) ∧ mem w (a.add i) = .bool l[i] := by
  have h1 := h.has (j := i) (by simpa using hi)
  have h2 := h.mem (j := i) (by simpa using hi)
  exact ⟨h1, by rw [h2]; simp⟩
theorem makeBools {n : Nat} {w : World} {K : Value → World → Prop} (hn : n ≤ 1000000) (hK : ∀ p w', p.block = w.heap.size → Row w' p 4 (Tt.bools (List.replicate n false)) → Ext w w' → K (.slice (some p) n n) w') :
    SemW Tryz.prog (Instr.makeSlice 191 (.int .i64 (n : Int)) (.int .i64 (n : Int))) w K := by
  refine SemW_make (n := n) Tryz.underlying191 ti4 (by omega) (by omega) (by unfold maxLen; omega) fun p w1 cs hcs hN hz => ?_
  have e := hz rfl rfl
  subst e
  refine hK p w1 hN.blk ?_ hN.ext
  have e2 : (Value.bool false).cells[0]! = Value.bool false := rfl
  have := hN.row
  rw [e2] at this
  simpa [Tt.bools] using this
theorem ttStops (x : LineD) (v0 v1 v2 v3 : Value) (n : Int) (w : World) (hR : LineR w x v0 v1 v2 v3) (h0 : 0 ≤ n) (h24 : n ≤ 24) :
    Calls Tryz.prog 129 #[.agg (lcs x v0 v1 v2 v3 n).toArray] w fun e w' => e = .returned (.bool (Tt.stops x n)) ∧ Ext w w' := by
  have b0 := hR.o.small
  have hlen := hR.o.len
  refine Calls_of_Run (args := [.agg (lcs x v0 v1 v2 v3 n).toArray]) (n := 33) (rs := [.tmp 2]) Tryz.func129 rfl rfl rfl (by simp) ?_
  (repeat with_reducible first | refine jy ?_ | refine jw KL129 [] TF129 fun _ => ?_)
  refine SemW_box fun p w1 hN => ?_
  have x1 := hN.ext
  have g1 := hN.at_.n
  simp only [AtN, KS, Nat.reduceAdd, Nat.reduceMul, Nat.reduceEqDiff, ↓reduceIte, UT] at g1
  have hnn : (Value.int .i64 n) = .int .i64 (n.toNat : Int) := by congr 1; omega
  (repeat with_reducible first | refine jy ?_ | refine jw KL129 [] (aa TF129 g1) fun _ => ?_)
  rw [hnn]
  refine makeBools (by omega) fun ps w2 c2 r2 x2 => ?_
  rw [← Tt.seen_nil] at r2
  have g2 := (hN.at_.ext x2).n
  simp only [AtN, KS, Nat.reduceAdd, Nat.reduceMul, Nat.reduceEqDiff, ↓reduceIte, UT] at g2
  (repeat with_reducible first | refine jy ?_ | refine jw KL129 [] (aa TF129 (aa g2 (aa hR.o.s hR.o.len))) fun _ => ?_)
  refine Run_loopV [2, 5, 13, 14, 28] (σ := Nat) (fun k => [(13, some (.int .i64 k))]) (fun k w' => k ≤ x.Offices.length ∧ (∀ j (h : j < x.Offices.length), j < k → (0 ≤ x.Offices[j] ∧ x.Offices[j] < n) ∧ (x.Offices.take j).contains x.Offices[j] = false) ∧ Row w' ps 4 (Tt.bools (Tt.seen n.toNat (x.Offices.take k))) ∧ Ext w1 w') (fun k => x.Offices.length - k) 0 (by simp [SubB, fnd]) ⟨by omega, by simp, by simpa using r2, x2⟩ ?_
  rintro k w3 ⟨hk, hf, r3, x3⟩
  have y3 := x1.trans x3
  (repeat with_reducible first | refine jy ?_ | refine jw KL129 [] TF129 fun _ => ?_)
  refine Run_condS (fun _ => rfl) (fun h => ?_) (fun h => ?_)
  · simp at h
    have hkl := h
    obtain ⟨f1, f2, f3⟩ := (hR.o.ext y3).get hkl
    have g3 := (hN.at_.ext x3).n
    simp only [AtN, KS, Nat.reduceAdd, Nat.reduceMul, Nat.reduceEqDiff, ↓reduceIte, UT] at g3
    have z2 := x2.size
    have z3 := x3.size
    have hst : Tt.stops x n = true → (0 ≤ x.Offices[k] ∧ x.Offices[k] < n) ∧ (x.Offices.take k).contains x.Offices[k] = false := fun hs => Tt.stops_take.1 hs k hkl
    have htk : x.Offices.take (k + 1) = x.Offices.take k ++ [x.Offices[k]] := List.take_succ_eq_append_getElem hkl
    generalize hgo : x.Offices[k] = o at *
    (repeat with_reducible first | refine jy ?_ | refine jw KL129 [] (aa TF129 (aa hR.o.s (aa hR.o.len (aa f1 (aa f2 g3))))) fun _ => ?_)
    refine betW fun w4 x4 => ?_
    have g4 := (hN.at_.ext (x3.trans x4)).n
    simp only [AtN, KS, Nat.reduceAdd, Nat.reduceMul, Nat.reduceEqDiff, ↓reduceIte, UT] at g4
    have r4 := r3.ext x4
    by_cases hin : 0 ≤ o ∧ o < n
    · have hd : decide (0 ≤ o ∧ o ≤ n - 1) = true := by simp; omega
      obtain ⟨d1, d2⟩ := at_bool r4.at_ (i := o.toNat) (by rw [Tt.seen_len]; omega)
      rw [Tt.seen_get] at d2
      have hot : ((o.toNat : Nat) : Int) = o := by omega
      rw [hot] at d2
      (repeat with_reducible first | refine jy ?_ | refine jw KL129 [] (aa TF129 (aa g4 (aa hd (aa d1 (aa d2 KX))))) fun _ => ?_)
      refine Run_condS (fun _ => rfl) (fun h => ?_) (fun h => ?_)
      · (repeat with_reducible first | refine jy ?_ | refine jw KL129 [] TF129 fun _ => ?_)
        refine Run_ret ?_
        have : Tt.stops x n = false := by
          cases hs : Tt.stops x n with
          | false => rfl
          | true => rw [(hst hs).2] at h; cases h
        simp [Rets, RetM, resV, fnd, oneOr, this]
        exact y3.trans x4
      · (repeat with_reducible first | refine jy ?_ | refine jw KL129 [] TF129 fun _ => ?_)
        refine SemW_setAt cells4 r4 (by simp [Tt.seen_len]; omega) rfl rfl fun w5 r5 k5 z5 => ?_
        rw [bools_set, Tt.seen_set (by omega), hot, ← htk] at r5
        (repeat with_reducible first | refine jy ?_ | refine jw KL129 [] TF129 fun _ => ?_)
        refine Run_lp ⟨k + 1, ?_, ⟨by omega, fun j hj hjk => ?_, r5, Keep.ext (x3.trans x4) k5 fun q hq => by omega⟩, by omega⟩
        · simp [SubB, fnd, strike, has]
        · by_cases e : j = k
          · subst e; rw [hgo]; exact ⟨hin, h⟩
          · exact hf j hj (by omega)
    · have hd : decide (0 ≤ o ∧ o ≤ n - 1) = false := by simp; omega
      (repeat with_reducible first | refine jy ?_ | refine jw KL129 [] (aa TF129 (aa g4 (aa hd KX))) fun _ => ?_)
      refine Run_condS (fun _ => rfl) (fun _ => ?_) (fun h => by simp at h)
      (repeat with_reducible first | refine jy ?_ | refine jw KL129 [] TF129 fun _ => ?_)
      refine Run_ret ?_
      have : Tt.stops x n = false := by
        cases hs : Tt.stops x n with
        | false => rfl
        | true => exact (hin (hst hs).1).elim
      simp [Rets, RetM, resV, fnd, oneOr, this]
      exact y3.trans x4
  · simp at h
    obtain rfl : k = x.Offices.length := by omega
    (repeat with_reducible first | refine jy ?_ | refine jw KL129 [] TF129 fun _ => ?_)
    refine Run_ret ?_
    have : Tt.stops x n = true := Tt.stops_take.2 fun j hj => hf j hj hj
    simp [Rets, RetM, resV, fnd, oneOr, this]
    exact y3
theorem CallW_fst {g : FuncId} {fi args : List Value} {w : World} {K : Value → World → Prop} {v : Value} (hc : callable Tryz.prog g = true) (h : Calls Tryz.prog g (fi ++ args).toArray w fun e w' => e = .returned v ∧ Ext w w') (hK : ∀ w', Ext w w' → K v w') :
    CallW Tryz.prog (.func (.func g) fi.toArray #[]) args w K := by
  refine ⟨hc, ?_⟩
  have e : (fi.toArray ++ args.toArray ++ #[] : Array Value) = (fi ++ args).toArray := by simp
  rw [e]
  exact h.mono fun e w' ⟨he, hw⟩ => ⟨v, he, hK w' hw⟩
theorem ttRight (x : LineD) (v0 v1 v2 v3 : Value) (n : Int) (w : World) (hR : LineR w x v0 v1 v2 v3) (h0 : 0 ≤ n) (h24 : n ≤ 24) :
    Calls Tryz.prog 94 #[.agg (lcs x v0 v1 v2 v3 n).toArray] w fun e w' => e = .returned (.bool (Tt.right x n)) ∧ Ext w w' := by
  refine Calls_of_Run (args := [.agg (lcs x v0 v1 v2 v3 n).toArray]) (n := 23) (rs := [.tmp 2]) Tryz.func94 rfl rfl rfl (by simp) ?_
  (repeat with_reducible first | refine jy ?_ | refine jw KL94 [] TF94 fun _ => ?_)
  refine SemW_box fun p w1 hN => ?_
  have x1 := hN.ext
  have g1 := hN.at_.n
  simp only [AtN, KS, Nat.reduceAdd, Nat.reduceMul, Nat.reduceEqDiff, ↓reduceIte, UT] at g1
  (repeat with_reducible first | refine jy ?_ | refine jw KL94 [] (aa TF94 g1) fun _ => ?_)
  let F (k : FuncId) : Value := .func (.func k) #[.agg (lcs x v0 v1 v2 v3 n).toArray] #[]
  refine SemW_buildSlice (vs := [F 127, F 128, F 129, F 130]) Tryz.underlying155 ti30 rfl rfl rfl (by simp [Value.cells, F]) (by simp) fun ph w2 hB => ?_
  have x2 := hB.ext
  have g2 := hB.at_.n
  simp only [AtN, KS, Nat.reduceAdd, Nat.reduceMul, Nat.reduceEqDiff, ↓reduceIte, UT, F, List.flatMap_cons, List.flatMap_nil, Value.cells, List.toList_toArray, List.append_nil, List.cons_append, List.nil_append] at g2
  (repeat with_reducible first | refine jy ?_ | refine jw KL94 [] TF94 fun _ => ?_)
  let P : Nat → Bool := fun k => match k with | 0 => Tt.sized x | 1 => Tt.numbers x | 2 => Tt.stops x n | _ => Tt.legs x
  refine Run_loopV [2, 4, 15, 16, 21] (σ := Nat) (fun k => [(15, some (.int .i64 k))]) (fun k w' => k ≤ 4 ∧ (∀ j, j < k → P j = true) ∧ Ext w2 w') (fun k => 4 - k) 0 (by simp [SubB, fnd]) ⟨by omega, by simp, Ext.refl _⟩ ?_
  rintro k w3 ⟨hk, hf, x3⟩
  have y3 := x1.trans (x2.trans x3)
  (repeat with_reducible first | refine jy ?_ | refine jw KL94 [] TF94 fun _ => ?_)
  refine Run_condS (fun _ => rfl) (fun h => ?_) (fun h => ?_)
  · simp at h
    have hP : P k = false → Tt.right x n = false := by
      have : k = 0 ∨ k = 1 ∨ k = 2 ∨ k = 3 := by omega
      rcases this with rfl | rfl | rfl | rfl <;> intro hp <;> simp only [P] at hp <;> simp [Tt.right, hp]
    have hC : ∃ g, (mem w3 (ph.add k) = F g ∧ has1 w3 (ph.add k)) ∧ (∀ K : Value → World → Prop, (∀ w', Ext w3 w' → K (.bool (P k)) w') → CallW Tryz.prog (F g) [] w3 K) := by
      have g3 := (hB.at_.ext x3).n
      simp only [AtN, KS, Nat.reduceAdd, Nat.reduceMul, Nat.reduceEqDiff, ↓reduceIte, UT, F, List.flatMap_cons, List.flatMap_nil, Value.cells, List.toList_toArray, List.append_nil, List.cons_append, List.nil_append] at g3
      have : k = 0 ∨ k = 1 ∨ k = 2 ∨ k = 3 := by omega
      rcases this with rfl | rfl | rfl | rfl
      · exact ⟨127, ⟨by rw [add_zero]; exact g3.2.1, by rw [add_zero]; exact g3.1⟩, fun K hK => CallW_fst (fi := [_]) call127 (ttSized x v0 v1 v2 v3 n w3 (hR.ext y3)) hK⟩
      · exact ⟨128, ⟨g3.2.2.2.1, g3.2.2.1⟩, fun K hK => CallW_fst (fi := [_]) call128 (ttNumbers x v0 v1 v2 v3 n w3) hK⟩
      · exact ⟨129, ⟨g3.2.2.2.2.2.1, g3.2.2.2.2.1⟩, fun K hK => CallW_fst (fi := [_]) call129 (ttStops x v0 v1 v2 v3 n w3 (hR.ext y3) h0 h24) hK⟩
      · exact ⟨130, ⟨g3.2.2.2.2.2.2.2, g3.2.2.2.2.2.2.1⟩, fun K hK => CallW_fst (fi := [_]) call130 (ttLegs x v0 v1 v2 v3 n w3 (hR.ext y3)) hK⟩
    obtain ⟨g, ⟨m1, m2⟩, hC⟩ := hC
    (repeat with_reducible first | refine jy ?_ | refine jw KL94 [] (aa TF94 (aa m1 m2)) fun _ => ?_)
    refine hC _ fun w4 x4 => ?_
    (repeat with_reducible first | refine jy ?_ | refine jw KL94 [] TF94 fun _ => ?_)
    refine Run_condS (fun _ => rfl) (fun h => ?_) (fun h => ?_)
    · (repeat with_reducible first | refine jy ?_ | refine jw KL94 [] TF94 fun _ => ?_)
      refine Run_ret ?_
      simp [Rets, RetM, resV, fnd, oneOr, hP (by simpa using h)]
      exact y3.trans x4
    · (repeat with_reducible first | refine jy ?_ | refine jw KL94 [] TF94 fun _ => ?_)
      refine Run_lp ⟨k + 1, ?_, ⟨by omega, fun j hj => ?_, x3.trans x4⟩, by omega⟩
      · simp [SubB, fnd, strike, has]
      · by_cases e : j = k
        · subst e; simpa using h
        · exact hf j (by omega)
  · simp at h
    obtain rfl : k = 4 := by omega
    (repeat with_reducible first | refine jy ?_ | refine jw KL94 [] TF94 fun _ => ?_)
    refine Run_ret ?_
    have e0 := hf 0 (by omega)
    have e1 := hf 1 (by omega)
    have e2 := hf 2 (by omega)
    have e3 := hf 3 (by omega)
    simp only [P] at e0 e1 e2 e3
    simp [Rets, RetM, resV, fnd, oneOr, Tt.right, e0, e1, e2, e3]
    exact y3
theorem ttCheck (vl : Value) (t : TimeD) (w : World) (hl : Sl w vl t.Lines) :
    Calls Tryz.prog 62 #[.agg (t.cs vl).toArray] w fun e w' => e = .returned (.int .i64 (Tt.chk t)) ∧ Ext w w' := by
  have hn := hl.small
  have hlen := hl.len
  refine Calls_of_Run (args := [.agg (t.cs vl).toArray]) (n := 45) (rs := [.tmp 2]) Tryz.func62 rfl rfl rfl (by simp) ?_
  (repeat with_reducible first | refine jy ?_ | refine jw KL62 [] TF62 fun _ => ?_)
  refine SemW_box fun p w1 hN => ?_
  have x1 := hN.ext
  have G : ∀ w', Ext w1 w' → AtN w' p 0 (t.cs vl) := fun w' x => (hN.at_.ext x).n
  simp only [TimeD.cs, AtN, KS, Nat.reduceAdd, Nat.reduceMul, Nat.reduceEqDiff, ↓reduceIte, UT] at G
  have g1 := G w1 (Ext.refl _)
  (repeat with_reducible first | refine jy ?_ | refine jw KL62 [] (aa TF62 (aa g1 (aa hl.s hl.len))) fun _ => ?_)
  refine Run_condS (fun _ => rfl) (fun h => ?_) (fun h => ?_)
  · simp at h
    (repeat with_reducible first | refine jy ?_ | refine jw KL62 [] TF62 fun _ => ?_)
    refine Run_ret ?_
    have : Tt.chk t = 2 := by unfold Tt.chk; rw [if_pos (by omega)]
    simp [Rets, RetM, resV, fnd, oneOr, this, x1]
  simp at h
  (repeat with_reducible first | refine jy ?_ | refine jw KL62 [] (aa TF62 g1) fun _ => ?_)
  refine betW fun w2 x2 => ?_
  have y2 := x1.trans x2
  (repeat with_reducible first | refine jy ?_ | refine jw KL62 [] TF62 fun _ => ?_)
  refine Run_condS (fun _ => rfl) (fun h => ?_) (fun h => ?_)
  · simp at h
    (repeat with_reducible first | refine jy ?_ | refine jw KL62 [] TF62 fun _ => ?_)
    refine Run_ret ?_
    have : Tt.chk t = 200 := by unfold Tt.chk; rw [if_neg (by omega), if_pos (by omega)]
    simp [Rets, RetM, resV, fnd, oneOr, this, y2]
  simp at h
  have hchk : Tt.chk t = if t.Lines.all (Tt.right · t.Offices) then Tt.calL t.Lines else 200 := by unfold Tt.chk; rw [if_neg (by omega), if_neg (by omega)]
  have ho := h
  have g2 := G w2 x2
  (repeat with_reducible first | refine jy ?_ | refine jw KL62 [] (aa TF62 (aa g2 (aa hl.s hl.len))) fun _ => ?_)
  refine Run_loopV [2, 4, 18, 19, 27] (σ := Nat) (fun k => [(18, some (.int .i64 k)), (2, some (.int .i64 0))]) (fun k w' => k ≤ t.Lines.length ∧ (∀ j (h : j < t.Lines.length), j < k → Tt.right t.Lines[j] t.Offices = true) ∧ Ext w2 w') (fun k => t.Lines.length - k) 0 (by simp [SubB, fnd]) ⟨by omega, by simp, Ext.refl _⟩ ?_
  rintro k w3 ⟨hk, hf, x3⟩
  have y3 := y2.trans x3
  (repeat with_reducible first | refine jy ?_ | refine jw KL62 [] TF62 fun _ => ?_)
  refine Run_condS (fun _ => rfl) (fun h => ?_) (fun h => ?_)
  · simp at h
    have hkl := h
    obtain ⟨v0, v1, v2, v3, f1, f2, hR⟩ := (hl.ext y3).line hkl
    simp only [LineD.cs, AtN, KS, Nat.reduceAdd, Nat.reduceMul, Nat.reduceEqDiff, ↓reduceIte, UT] at f1
    have hone := hR.one
    simp only [LineD.cs] at hone
    have hgo : t.Lines.all (Tt.right · t.Offices) = true → Tt.right t.Lines[k] t.Offices = true := fun hs => List.all_eq_true.1 hs _ (List.getElem_mem hkl)
    generalize hxx : t.Lines[k] = x at *
    (repeat with_reducible first | refine jy ?_ | refine jw KL62 [] (aa TF62 (aa hl.s (aa hl.len f1))) fun _ => ?_)
    refine SemW_var ti82 rfl rfl (by decide) (by simpa [Value.cells] using hone) fun px w4 h4 => ?_
    have q4 := h4.at_.n
    have g4 := G w4 (x2.trans (x3.trans h4.ext))
    simp only [AtN, KS, Nat.reduceAdd, Nat.reduceMul, Nat.reduceEqDiff, ↓reduceIte, UT] at q4
    (repeat with_reducible first | refine jy ?_ | refine jw KL62 [] (aa TF62 (aa q4 g4)) fun _ => ?_)
    refine ⟨.agg (lcs x v0 v1 v2 v3 t.Offices).toArray, fun w' => by kernel_rfl, ?_⟩
    refine CallW_pure call94 (ttRight x v0 v1 v2 v3 t.Offices w4 (hR.ext h4.ext) ho.1 ho.2) fun w5 x5 => ?_
    have y5 := y3.trans (h4.ext.trans x5)
    (repeat with_reducible first | refine jy ?_ | refine jw KL62 [] TF62 fun _ => ?_)
    refine Run_condS (fun _ => rfl) (fun h => ?_) (fun h => ?_)
    · (repeat with_reducible first | refine jy ?_ | refine jw KL62 [] TF62 fun _ => ?_)
      refine Run_ret ?_
      have : Tt.chk t = 200 := by
        rw [hchk, if_neg]
        intro hs; rw [hgo hs] at h; cases h
      simp [Rets, RetM, resV, fnd, oneOr, this, y5]
    · have hr5 : Tt.right x t.Offices = true := by simpa using h
      (repeat with_reducible first | refine jy ?_ | refine jw KL62 [] TF62 fun _ => ?_)
      refine Run_lp ⟨k + 1, ?_, ⟨by omega, fun j hj hjk => ?_, x3.trans (h4.ext.trans x5)⟩, by omega⟩
      · simp [SubB, fnd, strike, has]
      · by_cases e : j = k
        · subst e; rw [hxx]; exact hr5
        · exact hf j hj (by omega)
  simp at h
  obtain rfl : k = t.Lines.length := by omega
  have hall : t.Lines.all (Tt.right · t.Offices) = true := List.all_eq_true.2 fun x hx => by
    obtain ⟨j, hj, rfl⟩ := List.getElem_of_mem hx
    exact hf j hj hj
  rw [if_pos hall] at hchk
  have g3 := G w3 (x2.trans x3)
  (repeat with_reducible first | refine jy ?_ | refine jw KL62 [] (aa TF62 (aa g3 (aa hl.s hl.len))) fun _ => ?_)
  refine Run_loopV [2, 6, 32, 33, 42] (σ := Nat × Int) (fun s => [(32, some (.int .i64 s.1)), (2, some (.int .i64 s.2))]) (fun s w' => s.1 ≤ t.Lines.length ∧ Tt.calL t.Lines = Tt.calL (t.Lines.drop s.1) ∧ Ext w2 w') (fun s => t.Lines.length - s.1) (0, 0) (by simp [SubB, fnd]) ⟨by simp, by simp, x3⟩ ?_
  rintro ⟨k, ec⟩ w4 ⟨hk, hf, x4⟩
  simp only at hk hf
  have y4 := y2.trans x4
  (repeat with_reducible first | refine jy ?_ | refine jw KL62 [] TF62 fun _ => ?_)
  refine Run_condS (fun _ => rfl) (fun h => ?_) (fun h => ?_)
  · simp at h
    have hkl := h
    obtain ⟨v0, v1, v2, v3, f1, f2, hR⟩ := (hl.ext y4).line hkl
    simp only [LineD.cs, AtN, KS, Nat.reduceAdd, Nat.reduceMul, Nat.reduceEqDiff, ↓reduceIte, UT] at f1
    have hone := hR.one
    simp only [LineD.cs] at hone
    rw [Tt.calL_drop hkl] at hf
    generalize hxx : t.Lines[k] = x at *
    (repeat with_reducible first | refine jy ?_ | refine jw KL62 [] (aa TF62 (aa hl.s (aa hl.len f1))) fun _ => ?_)
    refine SemW_var ti82 rfl rfl (by decide) (by simpa [Value.cells] using hone) fun px w5 h5 => ?_
    have q5 := h5.at_.n
    simp only [AtN, KS, Nat.reduceAdd, Nat.reduceMul, Nat.reduceEqDiff, ↓reduceIte, UT] at q5
    (repeat with_reducible first | refine jy ?_ | refine jw KL62 [] (aa TF62 q5) fun _ => ?_)
    refine CallW_pure call95 (calCheck v2 v3 x.Rules x.Off w5 (hR.r.ext h5.ext) (hR.g.ext h5.ext)) fun w6 x6 => ?_
    have y6 := y4.trans (h5.ext.trans x6)
    (repeat with_reducible first | refine jy ?_ | refine jw KL62 [] TF62 fun _ => ?_)
    refine Run_condS (fun _ => rfl) (fun h => ?_) (fun h => ?_)
    · simp at h
      (repeat with_reducible first | refine jy ?_ | refine jw KL62 [] TF62 fun _ => ?_)
      refine Run_ret ?_
      rw [if_pos h] at hf
      simp [Rets, RetM, resV, fnd, oneOr, hchk, hf, y6]
    · simp at h
      rw [if_neg (by simp [h])] at hf
      (repeat with_reducible first | refine jy ?_ | refine jw KL62 [] TF62 fun _ => ?_)
      refine Run_lp ⟨(k + 1, Cal.chk x.Rules x.Off), ?_, ⟨by simp only; omega, hf, x4.trans (h5.ext.trans x6)⟩, by simp only; omega⟩
      simp [SubB, fnd, strike, has]
  simp at h
  obtain rfl : k = t.Lines.length := by omega
  (repeat with_reducible first | refine jy ?_ | refine jw KL62 [] TF62 fun _ => ?_)
  refine Run_ret ?_
  rw [List.drop_length] at hf
  simp [Rets, RetM, resV, fnd, oneOr, hchk, hf, Tt.calL, y4]
def sumsL (a : Int) (l : List Int) (k : Nat) : List Int := (List.range (k + 1)).map fun i => a + Tt.sm (l.take i)
theorem sumsL_len (a : Int) (l : List Int) (k : Nat) : (sumsL a l k).length = k + 1 := by simp [sumsL]
theorem sumsL_succ (a : Int) (l : List Int) (k : Nat) : sumsL a l (k + 1) = sumsL a l k ++ [a + Tt.sm (l.take (k + 1))] := by
  simp [sumsL, List.range_succ]
theorem ttSums (v : Value) (l : List Int) (a : Int) (w : World) (hx : Sl w v l) (hb : l.length ≤ 1000) (hI : ∀ i, i ≤ l.length → I64 (a + Tt.sm (l.take i))) :
    Calls Tryz.prog 143 #[.int .i64 a, v] w fun e w' => ∃ v', e = .returned v' ∧ Ext w w' ∧ BufL (α := Int) 3 w w' v' (sumsL a l l.length) := by
  have h0 := hI 0 (by omega)
  simp only [List.take_zero, Tt.sm, Int.add_zero] at h0
  refine Calls_of_Run (args := [.int .i64 a, v]) (n := 25) (rs := [.tmp 4]) Tryz.func143 rfl rfl rfl (by simp) ?_
  (repeat with_reducible first | refine jy ?_ | refine jw KL143 [] TF143 fun _ => ?_)
  refine SemW_buildF (α := Int) (W := w) Tryz.underlying25 ti3 rfl (by decide) (Ext.refl _) [.int .i64 a] [a] rfl rfl (Cs.one ⟨rfl, h0⟩) (by simp [Enc.n]) fun p w1 b1 s1 x1 => ?_
  (repeat with_reducible first | refine jy ?_ | refine jw KL143 [] (aa TF143 (aa hx.s hx.len)) fun _ => ?_)
  refine Run_loopV [0, 5, 7, 12, 13] (σ := Nat × Value) (fun s => [(12, some (.int .i64 s.1)), (5, some s.2), (0, some (.int .i64 (a + Tt.sm (l.take s.1))))]) (fun s w' => s.1 ≤ l.length ∧ BufL (α := Int) 3 w w' s.2 (sumsL a l s.1)) (fun s => l.length - s.1) (0, .slice (some p) 1 1) (by simp [SubB, fnd, Tt.sm]) ⟨by simp, by simpa [sumsL, Tt.sm, List.range, List.range.loop] using b1⟩ ?_
  rintro ⟨k, vo⟩ w2 ⟨hk, b2⟩
  simp only at hk b2
  (repeat with_reducible first | refine jy ?_ | refine jw KL143 [] TF143 fun _ => ?_)
  refine Run_condS (fun _ => rfl) (fun h => ?_) (fun h => ?_)
  · simp at h
    have hkl : k < l.length := by omega
    obtain ⟨f1, f2, f3⟩ := (hx.ext b2.ext0).get hkl
    have hI1 := hI (k + 1) hkl
    rw [Tt.sm_take l k hkl] at hI1
    unfold I64 at hI1
    (repeat with_reducible first | refine jy ?_ | refine jw KL143 [] (aa TF143 (aa hx.s (aa hx.len (aa f1 f2)))) fun _ => ?_)
    have e1 : a + Tt.sm (l.take k) + l[k] = a + Tt.sm (l.take (k + 1)) := by rw [Tt.sm_take l k hkl]; omega
    rw [e1]
    refine SemW_append1F (α := Int) (X := .int .i64 (a + Tt.sm (l.take (k + 1)))) (x := a + Tt.sm (l.take (k + 1))) Tryz.underlying25 ti3 rfl (by decide) b2 ⟨rfl, hI (k + 1) hkl⟩ (by simp [maxLen, sumsL_len]; omega) fun s v' w3 b3 _ x3 _ => ?_
    rw [← sumsL_succ] at b3
    (repeat with_reducible first | refine jy ?_ | refine jw KL143 [] TF143 fun _ => ?_)
    refine Run_lp ⟨(k + 1, v'), ?_, ⟨by simp only; omega, b3⟩, by simp only; omega⟩
    simp [SubB, fnd, strike, has]
  · simp at h
    obtain rfl : k = l.length := by omega
    (repeat with_reducible first | refine jy ?_ | refine jw KL143 [] TF143 fun _ => ?_)
    refine Run_ret ?_
    simp [Rets, RetM, resV, fnd, oneOr]
    exact ⟨b2.ext0, b2⟩
theorem ttArrival (x : LineD) (v0 v1 v2 v3 : Value) (a : Int) (w : World) (hR : LineR w x v0 v1 v2 v3) (n : Int) (hx : Tt.LOk x n) (h0 : 0 ≤ a) (h1 : a ≤ 2097152) :
    Calls Tryz.prog 112 #[.agg (x.cs v0 v1 v2 v3).toArray, .int .i64 a] w fun e w' => e = .returned (.int .i64 (a + Tt.leng x)) ∧ Ext w w' := by
  have hl9 : x.Legs.length ≤ 8 := by have := hx.l1; have := hx.o9; omega
  have hbd := Tt.sm_bd hx.l
  refine Calls_of_Run (args := [.agg (x.cs v0 v1 v2 v3).toArray, .int .i64 a]) (n := 16) (rs := [.tmp 4]) Tryz.func112 rfl rfl rfl (by simp) ?_
  (repeat with_reducible first | refine jy ?_ | refine jw KL112 [] TF112 fun _ => ?_)
  refine SemW_box fun p w1 hN => ?_
  have g1 := hN.at_.n
  simp only [LineD.cs, AtN, KS, Nat.reduceAdd, Nat.reduceMul, Nat.reduceEqDiff, ↓reduceIte, UT] at g1
  (repeat with_reducible first | refine jy ?_ | refine jw KL112 [] (aa TF112 g1) fun _ => ?_)
  refine CallW_gen call143 (ttSums v1 x.Legs a w1 (hR.l.ext hN.ext) (by omega) (fun i hi => by have := hbd i hi; unfold I64; omega)) fun e w2 ⟨v', he, x2, b2⟩ => ⟨_, he, ?_⟩
  have s2 := b2.sl (by rw [sumsL_len]; omega)
  have hl2 := s2.len
  rw [sumsL_len] at hl2
  obtain ⟨f1, f2, f3⟩ := s2.get (i := x.Legs.length) (by rw [sumsL_len]; omega)
  have e1 : (sumsL a x.Legs x.Legs.length)[x.Legs.length]'(by rw [sumsL_len]; omega) = a + Tt.leng x := by simp [sumsL, Tt.leng]
  rw [e1] at f1
  have e2 : (((x.Legs.length + 1 : Nat) : Int) - 1).toNat = x.Legs.length := by omega
  (repeat with_reducible first | refine jy ?_ | refine jw KL112 [] (aa TF112 (aa s2.s (aa hl2 (aa f1 (aa f2 e2))))) fun _ => ?_)
  refine Run_ret ?_
  simp [Rets, RetM, resV, fnd, oneOr]
  exact hN.ext.trans x2
theorem deps_one (rules : List Rule) (off : List Gap) (a : Int) : Cal.deps rules off a (a + 1) = if Cal.departs rules off a = true then [a] else [] := by
  unfold Cal.deps
  rw [show (a + 1 - a).toNat = 1 by omega]
  simp [Cal.depsN]
theorem moments_one {rules : List Rule} {off : List Gap} {a : Int} (hc : Cal.chk rules off = 0) (h0 : 0 ≤ a) (h1 : a < 2097152) : Cal.moments rules off a (a + 1) = (if Cal.departs rules off a = true then [a] else [], 0) := by
  unfold Cal.moments
  rw [if_neg (by simp [hc]), if_neg (by omega), deps_one]
  by_cases h : Cal.departs rules off a = true
  · rw [if_pos h, if_neg (by simp)]
  · rw [if_neg h, if_neg (by simp)]
def RunI (r : RunD) : Prop := I64 r.Line ∧ I64 r.At ∧ I64 r.Arrive
theorem ttis (vl : Value) (t : TimeD) (r : RunD) (w : World) (hl : Sl w vl t.Lines) (ht : Tt.Ok t) (hr : RunI r) :
    Calls Tryz.prog 82 #[.agg (t.cs vl).toArray, .agg r.cs.toArray] w fun e w' => e = .returned (.bool (Tt.isR t r)) ∧ Ext w w' := by
  have hn := ht.n
  have hlen := hl.len
  refine Calls_of_Run (args := [.agg (t.cs vl).toArray, .agg r.cs.toArray]) (n := 62) (rs := [.tmp 4]) Tryz.func82 rfl rfl rfl (by simp) ?_
  (repeat with_reducible first | refine jy ?_ | refine jw KL82 [5] TF82 fun _ => ?_)
  refine SemW_box fun p w1 hN => SemW_box fun q w2 hQ => ?_
  have x2 := hN.ext.trans hQ.ext
  have G : ∀ w', Ext w2 w' → AtN w' p 0 (t.cs vl) := fun w' x => (hN.at_.ext (hQ.ext.trans x)).n
  have G' : ∀ w', Ext w2 w' → AtN w' q 0 r.cs := fun w' x => (hQ.at_.ext x).n
  simp only [TimeD.cs, RunD.cs, AtN, KS, Nat.reduceAdd, Nat.reduceMul, Nat.reduceEqDiff, ↓reduceIte, UT] at G G'
  have g2 := G w2 (Ext.refl _)
  have k2 := G' w2 (Ext.refl _)
  (repeat with_reducible first | refine jy ?_ | refine jw KL82 [5] (aa TF82 (aa g2 (aa k2 (aa hl.s hl.len)))) fun _ => ?_)
  refine betW fun w3 x3 => ?_
  have k3 := G' w3 x3
  (repeat with_reducible first | refine jy ?_ | refine jw KL82 [5] (aa TF82 k3) fun _ => ?_)
  refine .inr ⟨.bool (decide (0 ≤ r.At ∧ r.At ≤ 2097151)), fun _ => PC_pure call93 fun w4 x4 => ttBetween _ _ _ w4, fun w4 x4 => ?_⟩
  unfold hush
  have x24 := x3.trans x4
  have y4 := x2.trans x24
  (repeat with_reducible first | refine jy ?_ | refine jw KL82 [5] (aa TF82 k3) fun _ => ?_)
  refine Run_condS (fun _ => rfl) (fun h => ?_) (fun h => ?_)
  · (repeat with_reducible first | refine jy ?_ | refine jw KL82 [5] TF82 fun _ => ?_)
    refine Run_ret ?_
    have : Tt.isR t r = false := by
      unfold Tt.isR
      rw [Bool.and_eq_false_iff]; left
      simp at h ⊢; omega
    simp [Rets, RetM, resV, fnd, oneOr, this, y4]
  · simp at h
    have hlt : r.Line.toNat < t.Lines.length := by omega
    obtain ⟨v0, v1, v2, v3, f1, f2, hR⟩ := (hl.ext y4).line hlt
    simp only [LineD.cs, AtN, KS, Nat.reduceAdd, Nat.reduceMul, Nat.reduceEqDiff, ↓reduceIte, UT] at f1
    have hone := hR.one
    simp only [LineD.cs] at hone
    have hgd : t.Lines.getD r.Line.toNat default = t.Lines[r.Line.toNat] := by simp [List.getD_eq_getElem?_getD, hlt]
    have hxo := Tt.right_ok (ht.r _ (List.getElem_mem hlt))
    have hxc := ht.c _ (List.getElem_mem hlt)
    have g4 := G w4 x24
    have k4 := G' w4 x24
    have hres : Tt.isR t r = (Cal.departs (t.Lines.getD r.Line.toNat default).Rules (t.Lines.getD r.Line.toNat default).Off r.At && decide (r.Arrive = r.At + Tt.leng (t.Lines.getD r.Line.toNat default) ∧ r.Arrive < 2097152)) := by
      unfold Tt.isR
      rw [show decide (0 ≤ r.Line ∧ r.Line < t.Lines.length ∧ 0 ≤ r.At ∧ r.At < 2097152) = true by simp; omega]; rfl
    rw [hgd] at hres
    generalize hxx : t.Lines[r.Line.toNat] = x at *
    (repeat with_reducible first | refine jy ?_ | refine jw KL82 [5] (aa TF82 (aa g4 (aa k4 (aa hl.s (aa hl.len f1))))) fun _ => ?_)
    refine SemW_var ti82 rfl rfl (by decide) (by simpa [Value.cells] using hone) fun px w5 h5 => ?_
    have q5 := h5.at_.n
    simp only [AtN, KS, Nat.reduceAdd, Nat.reduceMul, Nat.reduceEqDiff, ↓reduceIte, UT] at q5
    have k5 := G' w5 (x24.trans h5.ext)
    (repeat with_reducible first | refine jy ?_ | refine jw KL82 [5] (aa TF82 (aa q5 k5)) fun _ => ?_)
    refine CallW_gen call88 (calMoments v2 v3 x.Rules x.Off r.At (r.At + 1) w5 (hR.r.ext h5.ext) (hR.g.ext h5.ext)) fun e w6 ⟨vm, he, x6, s6⟩ => ⟨_, he, ?_⟩
    rw [moments_one hxc (by omega) (by omega)] at s6 ⊢
    simp only at s6
    have y6 := y4.trans (h5.ext.trans x6)
    have q6 := (h5.at_.ext x6).n
    simp only [AtN, KS, Nat.reduceAdd, Nat.reduceMul, Nat.reduceEqDiff, ↓reduceIte, UT] at q6
    have k6 := G' w6 (x24.trans (h5.ext.trans x6))
    have hbd := Tt.sm_bd hxo.l x.Legs.length (Nat.le_refl _)
    rw [List.take_length] at hbd
    by_cases hd : Cal.departs x.Rules x.Off r.At = true
    · rw [if_pos hd] at s6
      rw [hd, Bool.true_and] at hres
      (repeat with_reducible first | refine jy ?_ | refine jw KL82 [5] (aa TF82 (aa k6 (aa q6 (aa s6.s (aa s6.len (aa @List.length_cons.{0} (aa @List.length_nil.{0} (aa @beq_self_eq_true.{0} KX)))))))) fun _ => ?_)
      refine ⟨.int .i64 (r.At + Tt.leng x), PC_pure call112 fun w7 x7 => ttArrival x v0 v1 v2 v3 r.At w7 (hR.ext (h5.ext.trans (x6.trans x7))) t.Offices hxo (by omega) (by omega), rfl, fun w7 x7 => ?_⟩
      refine Run_ret ?_
      simp only [Rets, RetM, resV, fnd, oneOr, ↓reduceIte]
      refine ⟨_, rfl, ?_, y6.trans x7⟩
      rw [hres]
      congr 2
      rw [Bool.eq_iff_iff]; simp
    · rw [if_neg hd] at s6
      simp only [Bool.not_eq_true] at hd
      rw [hd, Bool.false_and] at hres
      (repeat with_reducible first | refine jy ?_ | refine jw KL82 [5] (aa TF82 (aa k6 (aa q6 (aa s6.s (aa s6.len (aa @List.length_nil.{0} (aa @beq_self_eq_true.{0} KX))))))) fun _ => ?_)
      have e01 : ((0 : Int) == 1) = false := by decide
      refine ⟨.int .i64 0, (fun h => by cases h), (fun h => by cases h), fun w7 x7 => ?_⟩
      refine Run_ret ?_
      simp only [Rets, RetM, resV, fnd, oneOr, ↓reduceIte, e01]
      refine ⟨_, rfl, ?_, y6.trans x7⟩
      rw [hres]; rfl
theorem chkW {vl : Value} {t : TimeD} {w : World} {e : Int} {K : Value → World → Prop} (h : Tt.chk t = e) (hl : Sl w vl t.Lines) (hK : ∀ w', Ext w w' → K (.int .i64 e) w') : CallW Tryz.prog (.func (.func 62) #[] #[]) [.agg #[.int .i64 t.Offices, vl]] w K := by
  subst h; exact CallW_pure call62 (ttCheck vl t w hl) hK
theorem ttIs (vl : Value) (t : TimeD) (r : RunD) (w : World) (hl : Sl w vl t.Lines) (hr : RunI r) :
    Calls Tryz.prog 55 #[.agg (t.cs vl).toArray, .agg r.cs.toArray] w fun e w' => e = .returned (.bool (Tt.isRun t r)) ∧ Ext w w' := by
  refine Calls_of_Run (args := [.agg (t.cs vl).toArray, .agg r.cs.toArray]) (n := 13) (rs := [.tmp 4]) Tryz.func55 rfl rfl rfl (by simp) ?_
  (repeat with_reducible first | refine jy ?_ | refine jw KL55 [] TF55 fun _ => ?_)
  refine SemW_box fun p w1 hN => SemW_box fun q w2 hQ => ?_
  have x2 := hN.ext.trans hQ.ext
  have G : ∀ w', Ext w2 w' → AtN w' p 0 (t.cs vl) := fun w' x => (hN.at_.ext (hQ.ext.trans x)).n
  have G' : ∀ w', Ext w2 w' → AtN w' q 0 r.cs := fun w' x => (hQ.at_.ext x).n
  simp only [TimeD.cs, RunD.cs, AtN, KS, Nat.reduceAdd, Nat.reduceMul, Nat.reduceEqDiff, ↓reduceIte, UT] at G G'
  have g2 := G w2 (Ext.refl _)
  (repeat with_reducible first | refine jy ?_ | refine jw KL55 [] (aa TF55 g2) fun _ => ?_)
  refine chkW rfl (hl.ext x2) fun w3 x3 => ?_
  have g3 := G w3 x3
  have k3 := G' w3 x3
  (repeat with_reducible first | refine jy ?_ | refine jw KL55 [] (aa TF55 (aa g3 k3)) fun _ => ?_)
  by_cases hc : Tt.chk t = 0
  · have hb : (Tt.chk t == 0) = true := by simp [hc]
    refine .inr ⟨.bool (Tt.isR t r), fun _ => PC_pure call82 fun w4 x4 => ttis vl t r w4 (hl.ext (x2.trans (x3.trans x4))) (Tt.chk_ok hc) hr, fun w4 x4 => ?_⟩
    unfold hush
    (repeat with_reducible first | refine jy ?_ | refine jw KL55 [] (aa TF55 (aa hb KX)) fun _ => ?_)
    refine Run_ret ?_
    simp [Rets, RetM, resV, fnd, oneOr, Tt.isRun, hc]
    exact x2.trans (x3.trans x4)
  · have hb : (Tt.chk t == 0) = false := by simp [hc]
    refine .inr ⟨undef, (fun h => absurd h (by simp [hb])), fun w4 x4 => ?_⟩
    unfold hush
    (repeat with_reducible first | refine jy ?_ | refine jw KL55 [] (aa TF55 (aa hb KX)) fun _ => ?_)
    refine Run_ret ?_
    simp [Rets, RetM, resV, fnd, oneOr, Tt.isRun, hc]
    exact x2.trans (x3.trans x4)
def idx (n : Int) : List Int → Int → Int
  | [], _ => -1
  | x :: r, k => if x = n then k else idx n r (k + 1)
theorem idx_drop {n : Int} {xs : List Int} {k : Nat} (h : k < xs.length) : idx n (xs.drop k) k = if xs[k] = n then (k : Int) else idx n (xs.drop (k + 1)) (k + 1 : Nat) := by
  rw [List.drop_eq_getElem_cons h]; simp [idx]
theorem idx_mem {n : Int} : ∀ {xs : List Int} {k : Int}, 0 ≤ k → decide (0 ≤ idx n xs k) = xs.contains n
  | [], k, _ => by simp [idx]
  | x :: r, k, h => by
    unfold idx
    split
    · rename_i e; subst e; simp; exact h
    · rename_i e
      rw [idx_mem (by omega), Bool.eq_iff_iff]
      simp; intro e2; exact (e e2.symm).elim
theorem rfIndex (v : Value) (xs : List Int) (n : Int) (w : World) (hx : Sl w v xs) : Calls Tryz.prog 81 #[v, .int .i64 n] w fun e w' => e = .returned (.int .i64 (idx n xs 0)) ∧ Ext w w' := by
  have hn := hx.small
  refine Calls_of_Run (args := [v, .int .i64 n]) (n := 19) (rs := [.tmp 4]) Tryz.func81 rfl rfl rfl (by simp) ?_
  (repeat with_reducible first | refine jy ?_ | refine jw KL81 [] TF81 fun _ => ?_)
  refine Run_loopV [4, 5, 9, 17] (σ := Nat) (fun k => [(5, some (.int .i64 k))]) (fun k w' => k ≤ xs.length ∧ idx n xs 0 = idx n (xs.drop k) k ∧ Ext w w') (fun k => xs.length - k) 0 (by simp [SubB, fnd]) ⟨by omega, by simp, Ext.refl _⟩ ?_
  rintro k w1 ⟨hk, hf, x1⟩
  (repeat with_reducible first | refine jy ?_ | refine jw KL81 [] (aa TF81 (aa hx.s hx.len)) fun _ => ?_)
  refine Run_condS (fun _ => rfl) (fun h => ?_) (fun h => ?_)
  · simp at h
    have hkl := h
    obtain ⟨f1, f2, f3⟩ := (hx.ext x1).get hkl
    rw [idx_drop hkl] at hf
    (repeat with_reducible first | refine jy ?_ | refine jw KL81 [] (aa TF81 (aa hx.s (aa hx.len (aa f1 f2)))) fun _ => ?_)
    refine Run_condS (fun _ => rfl) (fun h => ?_) (fun h => ?_)
    · (repeat with_reducible first | refine jy ?_ | refine jw KL81 [] TF81 fun _ => ?_)
      refine Run_ret ?_
      rw [if_pos (of_decide_eq_true h)] at hf
      simp [Rets, RetM, resV, fnd, oneOr, hf, x1]
    · rw [if_neg (of_decide_eq_false h)] at hf
      (repeat with_reducible first | refine jy ?_ | refine jw KL81 [] TF81 fun _ => ?_)
      refine Run_lp ⟨k + 1, ?_, ⟨by omega, hf, x1⟩, by omega⟩
      simp [SubB, fnd, strike, has]
  · simp at h
    obtain rfl : k = xs.length := by omega
    rw [List.drop_length] at hf
    (repeat with_reducible first | refine jy ?_ | refine jw KL81 [] TF81 fun _ => ?_)
    refine Run_ret ?_
    simp [Rets, RetM, resV, fnd, oneOr, hf, idx, x1]
theorem rfRight (x : LineD) (v0 v1 v2 v3 : Value) (n : Int) (w : World) (hR : LineR w x v0 v1 v2 v3) :
    Calls Tryz.prog 74 #[.agg (x.cs v0 v1 v2 v3).toArray, .int .i64 n] w fun e w' => e = .returned (.bool (Tt.right x n)) ∧ Ext w w' := by
  have b0 := hR.o.small
  have b1 := hR.l.small
  have c0 := hR.o.cap
  have l0 := hR.o.len
  have l1 := hR.l.len
  refine Calls_of_Run (args := [.agg (x.cs v0 v1 v2 v3).toArray, .int .i64 n]) (n := 98) (rs := [.tmp 4]) Tryz.func74 rfl rfl rfl (by simp) ?_
  (repeat with_reducible first | refine jy ?_ | refine jw KL74 [7] TF74 fun _ => ?_)
  refine SemW_box fun p w1 hN => ?_
  have x1 := hN.ext
  have G : ∀ w', Ext w1 w' → AtN w' p 0 (x.cs v0 v1 v2 v3) := fun w' x => (hN.at_.ext x).n
  simp only [LineD.cs, AtN, KS, Nat.reduceAdd, Nat.reduceMul, Nat.reduceEqDiff, ↓reduceIte, UT] at G
  have g1 := G w1 (Ext.refl _)
  (repeat with_reducible first | refine jy ?_ | refine jw KL74 [7] (aa TF74 (aa g1 (aa hR.o.s (aa hR.o.len (aa hR.l.s hR.l.len))))) fun _ => ?_)
  refine Run_condS (fun _ => rfl) (fun h => ?_) (fun h => ?_)
  · (repeat with_reducible first | refine jy ?_ | refine jw KL74 [7] TF74 fun _ => ?_)
    refine Run_ret ?_
    have : Tt.right x n = false := by
      have : (Tt.sized x && Tt.numbers x) = false := by
        simp only [Tt.sized, Tt.numbers]
        simp at h ⊢
        omega
      simp [Tt.right, this]
    simp [Rets, RetM, resV, fnd, oneOr, this, x1]
  have hsn : Tt.sized x = true ∧ Tt.numbers x = true := by
    simp only [Tt.sized, Tt.numbers]
    simp at h ⊢
    omega
  have hres : Tt.right x n = (Tt.stops x n && Tt.legs x) := by simp [Tt.right, hsn.1, hsn.2]
  have hsz : 2 ≤ x.Offices.length ∧ x.Offices.length ≤ 9 ∧ x.Legs.length + 1 = x.Offices.length := by have := hsn.1; simp only [Tt.sized, decide_eq_true_eq] at this; exact this
  (repeat with_reducible first | refine jy ?_ | refine jw KL74 [7] TF74 fun _ => ?_)
  refine Run_loopV [4, 6, 47, 77] (σ := Nat) (fun k => [(6, some (.int .i64 k))]) (fun k w' => k ≤ x.Offices.length ∧ (∀ j (h : j < x.Offices.length), j < k → (0 ≤ x.Offices[j] ∧ x.Offices[j] < n) ∧ (x.Offices.take j).contains x.Offices[j] = false) ∧ Ext w1 w') (fun k => x.Offices.length - k) 0 (by simp [SubB, fnd]) ⟨by omega, by simp, Ext.refl _⟩ ?_
  rintro k w3 ⟨hk, hf, x3⟩
  have y3 := x1.trans x3
  (repeat with_reducible first | refine jy ?_ | refine jw KL74 [7] TF74 fun _ => ?_)
  refine Run_condS (fun _ => rfl) (fun h => ?_) (fun h => ?_)
  · simp at h
    have hkl := h
    obtain ⟨f1, f2, f3⟩ := (hR.o.ext y3).get hkl
    have hst : Tt.stops x n = true → (0 ≤ x.Offices[k] ∧ x.Offices[k] < n) ∧ (x.Offices.take k).contains x.Offices[k] = false := fun hs => Tt.stops_take.1 hs k hkl
    have hsub := fun w' (y : Ext w w') => (hR.o.ext y).sub (l := 0) (r := k) (m := slCap v0) (by omega) (by omega) (by omega) (Nat.le_refl _)
    simp only [List.drop_zero] at hsub
    generalize hgo : x.Offices[k] = o at *
    have g3 := G w3 x3
    (repeat with_reducible first | refine jy ?_ | refine jw KL74 [7] (aa TF74 (aa g3 (aa hR.o.s (aa hR.o.len (aa f1 f2))))) fun _ => ?_)
    refine ⟨.int .i64 (idx o (x.Offices.take k) 0), fun _ => PC_pure call81 fun w4 x4 => rfIndex _ _ _ w4 (hsub w4 (y3.trans x4)), fun _ => rfl, fun w4 x4 => ?_⟩
    have him : decide (0 ≤ iOf (Value.int .i64 (idx o (x.Offices.take k) 0))) = (x.Offices.take k).contains o := idx_mem (by omega)
    rw [him]
    refine Run_condS (fun _ => rfl) (fun h => ?_) (fun h => ?_)
    · (repeat with_reducible first | refine jy ?_ | refine jw KL74 [7] TF74 fun _ => ?_)
      refine Run_ret ?_
      have : Tt.stops x n = false := by
        cases hs : Tt.stops x n with
        | false => rfl
        | true =>
          have := hst hs
          simp only [this.2, Bool.or_false, Bool.or_eq_true, decide_eq_true_eq] at h; omega
      simp [Rets, RetM, resV, fnd, oneOr, hres, this]
      exact y3.trans x4
    · (repeat with_reducible first | refine jy ?_ | refine jw KL74 [7] TF74 fun _ => ?_)
      simp only [Bool.or_eq_false_iff, decide_eq_false_iff_not] at h
      have ha : 0 ≤ o ∧ o < n := by omega
      have hb := h.2
      refine Run_lp ⟨k + 1, ?_, ⟨by omega, fun j hj hjk => ?_, x3.trans x4⟩, by omega⟩
      · simp [SubB, fnd, strike, has]
      · by_cases e : j = k
        · subst e; rw [hgo]; exact ⟨ha, hb⟩
        · exact hf j hj (by omega)
  simp at h
  obtain rfl : k = x.Offices.length := by omega
  have hst : Tt.stops x n = true := Tt.stops_take.2 fun j hj => hf j hj hj
  rw [hst, Bool.true_and] at hres
  (repeat with_reducible first | refine jy ?_ | refine jw KL74 [7] TF74 fun _ => ?_)
  refine Run_loopV [4, 7, 81, 97] (σ := Nat) (fun k => [(7, some (.int .i64 k))]) (fun k w' => k ≤ x.Legs.length ∧ (∀ j (h : j < x.Legs.length), j < k → Tt.legOk x.Legs[j] = true) ∧ Ext w1 w') (fun k => x.Legs.length - k) 0 (by simp [SubB, fnd]) ⟨by omega, by simp, x3⟩ ?_
  rintro k w5 ⟨hk, hg, x5⟩
  have y5 := x1.trans x5
  (repeat with_reducible first | refine jy ?_ | refine jw KL74 [7] TF74 fun _ => ?_)
  refine Run_condS (fun _ => rfl) (fun h => ?_) (fun h => ?_)
  · simp at h
    have hkl : k < x.Legs.length := by omega
    obtain ⟨f1, f2, f3⟩ := (hR.l.ext y5).get hkl
    have hst : Tt.legs x = true → Tt.legOk x.Legs[k] = true := fun hs => List.all_eq_true.1 hs _ (List.getElem_mem hkl)
    generalize hgo : x.Legs[k] = o at *
    have g5 := G w5 x5
    (repeat with_reducible first | refine jy ?_ | refine jw KL74 [7] (aa TF74 (aa g5 (aa hR.l.s (aa hR.l.len (aa f1 f2))))) fun _ => ?_)
    refine Run_condS (fun _ => rfl) (fun h => ?_) (fun h => ?_)
    · (repeat with_reducible first | refine jy ?_ | refine jw KL74 [7] TF74 fun _ => ?_)
      refine Run_ret ?_
      have : Tt.legs x = false := by
        cases hs : Tt.legs x with
        | false => rfl
        | true =>
          have := hst hs
          simp only [Tt.legOk, decide_eq_true_eq] at this
          simp at h; omega
      simp [Rets, RetM, resV, fnd, oneOr, hres, this, y5]
    · (repeat with_reducible first | refine jy ?_ | refine jw KL74 [7] TF74 fun _ => ?_)
      have hb : Tt.legOk o = true := by simp [Tt.legOk]; simp at h; omega
      refine Run_lp ⟨k + 1, ?_, ⟨by omega, fun j hj hjk => ?_, x5⟩, by omega⟩
      · simp [SubB, fnd, strike, has]
      · by_cases e : j = k
        · subst e; rw [hgo]; exact hb
        · exact hg j hj (by omega)
  simp at h
  (repeat with_reducible first | refine jy ?_ | refine jw KL74 [7] TF74 fun _ => ?_)
  refine Run_ret ?_
  have : Tt.legs x = true := List.all_eq_true.2 fun y hy => by
    obtain ⟨j, hj, rfl⟩ := List.getElem_of_mem hy
    exact hg j hj (by omega)
  simp [Rets, RetM, resV, fnd, oneOr, hres, this, y5]
theorem rfCheck20 (vl : Value) (t : TimeD) (w : World) (hl : Sl w vl t.Lines) :
    Calls Tryz.prog 50 #[.agg (t.cs vl).toArray] w fun e w' => e = .returned (.int .i64 (Tt.chk t)) ∧ Ext w w' := by
  have hn := hl.small
  have hlen := hl.len
  refine Calls_of_Run (args := [.agg (t.cs vl).toArray]) (n := 57) (rs := [.tmp 2]) Tryz.func50 rfl rfl rfl (by simp) ?_
  (repeat with_reducible first | refine jy ?_ | refine jw KL50 [8, 13] TF50 fun _ => ?_)
  refine SemW_box fun p w1 hN => ?_
  have x1 := hN.ext
  have G : ∀ w', Ext w1 w' → AtN w' p 0 (t.cs vl) := fun w' x => (hN.at_.ext x).n
  simp only [TimeD.cs, AtN, KS, Nat.reduceAdd, Nat.reduceMul, Nat.reduceEqDiff, ↓reduceIte, UT] at G
  have g1 := G w1 (Ext.refl _)
  (repeat with_reducible first | refine jy ?_ | refine jw KL50 [8, 13] (aa TF50 (aa g1 (aa hl.s hl.len))) fun _ => ?_)
  refine Run_condS (fun _ => rfl) (fun h => ?_) (fun h => ?_)
  · simp at h
    (repeat with_reducible first | refine jy ?_ | refine jw KL50 [8, 13] TF50 fun _ => ?_)
    refine Run_ret ?_
    have : Tt.chk t = 2 := by unfold Tt.chk; rw [if_pos (by omega)]
    simp [Rets, RetM, resV, fnd, oneOr, this, x1]
  simp at h
  (repeat with_reducible first | refine jy ?_ | refine jw KL50 [8, 13] (aa TF50 g1) fun _ => ?_)
  refine Run_condS (fun _ => rfl) (fun h => ?_) (fun h => ?_)
  · simp at h
    (repeat with_reducible first | refine jy ?_ | refine jw KL50 [8, 13] TF50 fun _ => ?_)
    refine Run_ret ?_
    have : Tt.chk t = 200 := by unfold Tt.chk; rw [if_neg (by omega), if_pos (by omega)]
    simp [Rets, RetM, resV, fnd, oneOr, this, x1]
  simp at h
  have hchk : Tt.chk t = if t.Lines.all (Tt.right · t.Offices) then Tt.calL t.Lines else 200 := by unfold Tt.chk; rw [if_neg (by omega), if_neg (by omega)]
  (repeat with_reducible first | refine jy ?_ | refine jw KL50 [8, 13] TF50 fun _ => ?_)
  refine Run_loopV [2, 3, 22, 33] (σ := Nat) (fun k => [(3, some (.int .i64 k)), (2, some (.int .i64 0))]) (fun k w' => k ≤ t.Lines.length ∧ (∀ j (h : j < t.Lines.length), j < k → Tt.right t.Lines[j] t.Offices = true) ∧ Ext w1 w') (fun k => t.Lines.length - k) 0 (by simp [SubB, fnd]) ⟨by omega, by simp, Ext.refl _⟩ ?_
  rintro k w3 ⟨hk, hf, x3⟩
  have y3 := x1.trans x3
  have g3 := G w3 x3
  (repeat with_reducible first | refine jy ?_ | refine jw KL50 [8, 13] (aa TF50 (aa g3 (aa hl.s hl.len))) fun _ => ?_)
  refine Run_condS (fun _ => rfl) (fun h => ?_) (fun h => ?_)
  · simp at h
    have hkl := h
    obtain ⟨v0, v1, v2, v3, f1, f2, hR⟩ := (hl.ext y3).line hkl
    simp only [LineD.cs, AtN, KS, Nat.reduceAdd, Nat.reduceMul, Nat.reduceEqDiff, ↓reduceIte, UT] at f1
    have hgo : t.Lines.all (Tt.right · t.Offices) = true → Tt.right t.Lines[k] t.Offices = true := fun hs => List.all_eq_true.1 hs _ (List.getElem_mem hkl)
    generalize hxx : t.Lines[k] = x at *
    (repeat with_reducible first | refine jy ?_ | refine jw KL50 [8, 13] (aa TF50 (aa hl.s (aa hl.len (aa f1 g3)))) fun _ => ?_)
    refine ⟨.bool (Tt.right x t.Offices), PC_pure call74 fun w4 x4 => rfRight x v0 v1 v2 v3 t.Offices w4 (hR.ext x4), rfl, fun w4 x4 => ?_⟩
    have y4 := y3.trans x4
    refine Run_condS (fun _ => rfl) (fun h => ?_) (fun h => ?_)
    · (repeat with_reducible first | refine jy ?_ | refine jw KL50 [8, 13] TF50 fun _ => ?_)
      refine Run_ret ?_
      have : Tt.chk t = 200 := by
        rw [hchk, if_neg]
        intro hs; simp [hgo hs] at h
      simp [Rets, RetM, resV, fnd, oneOr, this, y4]
    · have hr5 : Tt.right x t.Offices = true := by simpa using h
      (repeat with_reducible first | refine jy ?_ | refine jw KL50 [8, 13] TF50 fun _ => ?_)
      refine Run_lp ⟨k + 1, ?_, ⟨by omega, fun j hj hjk => ?_, x3.trans x4⟩, by omega⟩
      · simp [SubB, fnd, strike, has]
      · by_cases e : j = k
        · subst e; rw [hxx]; exact hr5
        · exact hf j hj (by omega)
  simp at h
  obtain rfl : k = t.Lines.length := by omega
  have hall : t.Lines.all (Tt.right · t.Offices) = true := List.all_eq_true.2 fun x hx => by
    obtain ⟨j, hj, rfl⟩ := List.getElem_of_mem hx
    exact hf j hj hj
  rw [if_pos hall] at hchk
  (repeat with_reducible first | refine jy ?_ | refine jw KL50 [8, 13] TF50 fun _ => ?_)
  refine Run_loopV [2, 4, 5, 38, 55] (σ := Nat) (fun k => [(4, some (.int .i64 k)), (2, some (.int .i64 0))]) (fun k w' => k ≤ t.Lines.length ∧ Tt.calL t.Lines = Tt.calL (t.Lines.drop k) ∧ Ext w1 w') (fun k => t.Lines.length - k) 0 (by simp [SubB, fnd]) ⟨by omega, by simp, x3⟩ ?_
  rintro k w4 ⟨hk, hf, x4⟩
  have y4 := x1.trans x4
  have g4 := G w4 x4
  (repeat with_reducible first | refine jy ?_ | refine jw KL50 [8, 13] (aa TF50 (aa g4 (aa hl.s hl.len))) fun _ => ?_)
  refine Run_condS (fun _ => rfl) (fun h => ?_) (fun h => ?_)
  · simp at h
    have hkl := h
    obtain ⟨v0, v1, v2, v3, f1, f2, hR⟩ := (hl.ext y4).line hkl
    simp only [LineD.cs, AtN, KS, Nat.reduceAdd, Nat.reduceMul, Nat.reduceEqDiff, ↓reduceIte, UT] at f1
    rw [Tt.calL_drop hkl] at hf
    generalize hxx : t.Lines[k] = x at *
    (repeat with_reducible first | refine jy ?_ | refine jw KL50 [8, 13] (aa TF50 (aa hl.s (aa hl.len (aa f1 g4)))) fun _ => ?_)
    refine ⟨.int .i64 (Cal.chk x.Rules x.Off), PC_pure call75 fun w5 x5 => refCheck v2 v3 x.Rules x.Off w5 (hR.r.ext x5) (hR.g.ext x5), fun w5 x5 => ?_⟩
    have y5 := y4.trans x5
    (repeat with_reducible first | refine jy ?_ | refine jw KL50 [8, 13] TF50 fun _ => ?_)
    refine Run_condS (fun _ => rfl) (fun h => ?_) (fun h => ?_)
    · simp at h
      (repeat with_reducible first | refine jy ?_ | refine jw KL50 [8, 13] TF50 fun _ => ?_)
      refine Run_ret ?_
      rw [if_pos h] at hf
      simp [Rets, RetM, resV, fnd, oneOr, hchk, hf, y5]
    · simp at h
      rw [if_neg (by simp [h])] at hf
      (repeat with_reducible first | refine jy ?_ | refine jw KL50 [8, 13] TF50 fun _ => ?_)
      refine Run_lp ⟨k + 1, ?_, ⟨by omega, hf, x4.trans x5⟩, by omega⟩
      simp [SubB, fnd, strike, has]
  simp at h
  obtain rfl : k = t.Lines.length := by omega
  (repeat with_reducible first | refine jy ?_ | refine jw KL50 [8, 13] TF50 fun _ => ?_)
  refine Run_ret ?_
  rw [List.drop_length] at hf
  simp [Rets, RetM, resV, fnd, oneOr, hchk, hf, Tt.calL, y4]
theorem rfLength (x : LineD) (v0 v1 v2 v3 : Value) (w : World) (hR : LineR w x v0 v1 v2 v3) (n : Int) (hx : Tt.LOk x n) :
    Calls Tryz.prog 78 #[.agg (x.cs v0 v1 v2 v3).toArray] w fun e w' => e = .returned (.int .i64 (Tt.leng x)) ∧ Ext w w' := by
  have hl9 : x.Legs.length ≤ 8 := by have := hx.l1; have := hx.o9; omega
  have hbd := Tt.sm_bd hx.l
  have hln := hR.l.len
  refine Calls_of_Run (args := [.agg (x.cs v0 v1 v2 v3).toArray]) (n := 20) (rs := [.tmp 2]) Tryz.func78 rfl rfl rfl (by simp) ?_
  (repeat with_reducible first | refine jy ?_ | refine jw KL78 [] TF78 fun _ => ?_)
  refine SemW_box fun p w1 hN => ?_
  have x1 := hN.ext
  have G : ∀ w', Ext w1 w' → AtN w' p 0 (x.cs v0 v1 v2 v3) := fun w' x => (hN.at_.ext x).n
  simp only [LineD.cs, AtN, KS, Nat.reduceAdd, Nat.reduceMul, Nat.reduceEqDiff, ↓reduceIte, UT] at G
  (repeat with_reducible first | refine jy ?_ | refine jw KL78 [] TF78 fun _ => ?_)
  refine Run_loopV [3, 4, 9] (σ := Nat) (fun k => [(4, some (.int .i64 k)), (3, some (.int .i64 (Tt.sm (x.Legs.take k))))]) (fun k w' => k ≤ x.Legs.length ∧ Ext w1 w') (fun k => x.Legs.length - k) 0 (by simp [SubB, fnd, Tt.sm]) ⟨by omega, Ext.refl _⟩ ?_
  rintro k w3 ⟨hk, x3⟩
  have y3 := x1.trans x3
  have g3 := G w3 x3
  (repeat with_reducible first | refine jy ?_ | refine jw KL78 [] (aa TF78 (aa g3 (aa hR.l.s hR.l.len))) fun _ => ?_)
  refine Run_condS (fun _ => rfl) (fun h => ?_) (fun h => ?_)
  · simp at h
    obtain ⟨f1, f2, f3⟩ := (hR.l.ext y3).get h
    have b1 := hbd k (by omega)
    have b2 := hbd (k + 1) (by omega)
    have e1 := Tt.sm_take x.Legs k h
    (repeat with_reducible first | refine jy ?_ | refine jw KL78 [] (aa TF78 (aa g3 (aa hR.l.s (aa hR.l.len (aa f1 f2))))) fun _ => ?_)
    refine Run_lp ⟨k + 1, ?_, ⟨by omega, x3⟩, by omega⟩
    rw [e1]
    simp [SubB, fnd, strike, has]
  · simp at h
    obtain rfl : k = x.Legs.length := by omega
    rw [List.take_length]
    (repeat with_reducible first | refine jy ?_ | refine jw KL78 [] TF78 fun _ => ?_)
    refine Run_ret ?_
    simp [Rets, RetM, resV, fnd, oneOr, y3, Tt.leng]
theorem rfBefore (a b : RunD) (w : World) : Calls Tryz.prog 108 #[.agg a.cs.toArray, .agg b.cs.toArray] w fun e w' => e = .returned (.bool (Tt.before a b)) ∧ Ext w w' := by
  refine Calls_of_Run (args := [.agg a.cs.toArray, .agg b.cs.toArray]) (n := 24) (rs := [.tmp 4]) Tryz.func108 rfl rfl rfl (by simp) ?_
  (repeat with_reducible first | refine jy ?_ | refine jw KL108 [] TF108 fun _ => ?_)
  refine SemW_box fun p w1 hN => SemW_box fun q w2 hQ => ?_
  have g1 := (hN.at_.ext hQ.ext).n
  have g2 := hQ.at_.n
  simp only [RunD.cs, AtN, KS, Nat.reduceAdd, Nat.reduceMul, Nat.reduceEqDiff, ↓reduceIte, UT] at g1 g2
  (repeat with_reducible first | refine jy ?_ | refine jw KL108 [] (aa TF108 (aa g1 g2)) fun _ => ?_)
  refine Run_ret ?_
  simp [Rets, RetM, resV, fnd, oneOr]
  refine ⟨?_, hN.ext.trans hQ.ext⟩
  rw [Bool.eq_iff_iff]; simp [Tt.before]
theorem chk20W {vl : Value} {t : TimeD} {w : World} {e : Int} {K : Value → World → Prop} (h : Tt.chk t = e) (hl : Sl w vl t.Lines) (hK : ∀ w', Ext w w' → K (.int .i64 e) w') : CallW Tryz.prog (.func (.func 50) #[] #[]) [.agg #[.int .i64 t.Offices, vl]] w K := by
  subst h; exact CallW_pure call50 (rfCheck20 vl t w hl) hK
theorem momW {va vb : Value} {rules : List Rule} {off : List Gap} {a b : Int} {w : World} {K : Value → World → Prop} (hx : Sl w va rules) (hy : Sl w vb off) (hK : ∀ v w', Ext w w' → Sl w' v (Cal.moments rules off a b).1 → K (.tuple #[v, .int .i64 (Cal.moments rules off a b).2]) w') :
    CallW Tryz.prog (.func (.func 77) #[] #[]) [va, vb, .int .i64 a, .int .i64 b] w K :=
  CallW_gen call77 (refMoments va vb rules off a b w hx hy) fun e w' ⟨v, he, x, hs⟩ => ⟨_, he, hK v w' x hs⟩
end Go.Proofs.YtldjfebokojmfaaGreat
