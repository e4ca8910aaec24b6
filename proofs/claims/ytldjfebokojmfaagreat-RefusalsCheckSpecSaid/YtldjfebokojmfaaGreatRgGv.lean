import Derived.Test.YtldjfebokojmfaaGreatRgW20x
import Derived.Test.YtldjfebokojmfaaGreatRgGs
import Derived.Test.YtldjfebokojmfaaGreatRgGb
import Derived.Shelf.SlSortCmp.InsertionK
import Derived.Test.YtldjfebokojmfaaGreatRgFk
import Derived.Test.YtldjfebokojmfaaGreatProg
import Derived.Shelf.SlLaysF0
import Derived.Shelf.SlSortCmp.NoneTotal
set_option linter.unusedSimpArgs false
set_option linter.unusedVariables false
set_option maxRecDepth 100000
namespace Go.Fk
open Go
section
variable {P : Program} {r : Option Nat} {n : Nat} {ds : List DF} {k : List Td} {L : FL} {w : World} {Q : Exit → List DF → FL → World → Prop}
theorem Run_tailC {C : World → Prop} {id : Nat} {l : List Oper} (vs : List Nat) (m : Nat) (hC : ∀ w', C w' → Ext w w') (hd : C w.drew)
    (hm : P.follows .mixedOrders = true) (hB : Region.lexTailB .any l.toArray m = true) (hs1 : stat n l (l.take m) [] = true) (hs2 : stat n l (l.drop m) [] = true)
    (h : ∀ t0, qg P C l w t0 (l.take m) [] L fun L1 => ∀ w1, C w1 → ∀ t1, eg P l t1 (l.drop m) [] L1 w1 fun L' w' => Run P r n ds k (prune vs L') w' Q) : Run P r n ds (.code (.region id l.toArray true) :: k) L w Q := fun a ha => by
  refine wpIn_region_tail (C := C) m hm hB hd ?_
  have := qg_sound (P := P) (C := C) (w := w) hC (l.take m) [] [] L a (Inv.start ha) hs1 (h _)
  have mono : ∀ (l' : List Oper) (a : Act), wpQuiet P l.toArray C (fun a' => ∃ L', Fr n ds L' a' ∧ ∀ w1, C w1 → ∀ t1, eg P l t1 (l.drop m) [] L' w1 fun L' w' => Run P r n ds k (prune vs L') w' Q) l' a →
      wpQuiet P l.toArray C (fun a' => ∀ w', C w' → wpListIn (fw r) 0 P l.toArray (after P r n k (QA n Q)) (l.drop m) a' w') l' a := by
    intro l'
    induction l' with
    | nil =>
      intro a h w' hw'
      obtain ⟨L', hL, hK⟩ := h
      have h1 := eg_sound (r := r) (l.drop m) [] [] L' a w' (Inv.start hL) hs2 (hK w' hw' _)
      exact wpListIn_mono (fun e a w hq => by cases e <;> first | exact hq.elim | (obtain ⟨L', hL, hK⟩ := hq; exact hK a hL.prune)) _ _ _ h1
    | cons o l' ih =>
      intro a h
      unfold wpQuiet at h ⊢
      split at h
      · rename_i hw; rw [if_pos hw]; exact Oper.quiet_mono (fun a => ih a) h
      · rename_i hw; rw [if_neg hw]; exact ih _ h
  exact mono _ _ this
end
def cmpI (x y : Int) : Int := if x < y then -1 else if y < x then 1 else 0
def cmpR (a b : RunD) : Int := if cmpI a.At b.At ≠ 0 then cmpI a.At b.At else cmpI a.Line b.Line
theorem cmpI_cases (x y : Int) : (x < y ∧ cmpI x y = -1) ∨ (x = y ∧ cmpI x y = 0) ∨ (y < x ∧ cmpI x y = 1) := by
  unfold cmpI
  by_cases h : x < y
  · rw [if_pos h]; exact .inl ⟨h, rfl⟩
  · rw [if_neg h]
    by_cases h2 : y < x
    · rw [if_pos h2]; exact .inr (.inr ⟨h2, rfl⟩)
    · rw [if_neg h2]; exact .inr (.inl ⟨by omega, rfl⟩)
theorem ltOf_before (a b : RunD) : Go.Proofs.ltOf cmpR a b = Tt.before a b := by
  unfold Go.Proofs.ltOf cmpR
  rw [Bool.eq_iff_iff, Tt.before_iff]
  simp only [decide_eq_true_eq]
  rcases cmpI_cases a.At b.At with ⟨h, e⟩ | ⟨h, e⟩ | ⟨h, e⟩ <;> rw [e]
  · simp; omega
  · simp only [ne_eq, not_true_eq_false, if_false]
    rcases cmpI_cases a.Line b.Line with ⟨h2, e2⟩ | ⟨h2, e2⟩ | ⟨h2, e2⟩ <;> rw [e2] <;> simp <;> omega
  · simp; omega
theorem not_before {a b : RunD} : Tt.before a b = false ↔ b.At < a.At ∨ a.At = b.At ∧ b.Line ≤ a.Line := by
  rw [← Bool.not_eq_true, Tt.before_iff]; omega
theorem before_swo : Sort.SWO (Go.Proofs.ltOf cmpR) where
  irrefl x := by rw [ltOf_before, not_before]; omega
  trans x y z h1 h2 := by rw [ltOf_before] at *; exact Tt.before_trans h1 h2
  ntrans x y z h1 h2 := by rw [ltOf_before, not_before] at *; omega
end Go.Fk
namespace Go.Proofs.YtldjfebokojmfaaGreat
open Go Go.Fk
theorem cmIsNaN (x : Int) (w : World) : Calls Tryz.prog 113 #[.int .i64 x] w fun e w' => e = .returned (.bool false) ∧ w' = w := by
  refine Calls_of_Run (args := [.int .i64 x]) (n := 6) (rs := [.tmp 2]) Tryz.func113 rfl rfl rfl (by simp) ?_
  (repeat with_reducible first | refine jy ?_ | refine jw KL113 [] TF113 fun _ => ?_)
  refine Run_ret ?_
  simp [Rets, RetM, resV, fnd, oneOr]
theorem cmCompare (x y : Int) (w : World) : Calls Tryz.prog 84 #[.int .i64 x, .int .i64 y] w fun e w' => e = .returned (.int .i64 (cmpI x y)) ∧ w' = w := by
  refine Calls_of_Run (args := [.int .i64 x, .int .i64 y]) (n := 20) (rs := [.tmp 4]) Tryz.func84 rfl rfl rfl (by simp) ?_
  (repeat with_reducible first | refine jy ?_ | refine jw KL84 [] TF84 fun _ => ?_)
  refine CallW_gen call113 (cmIsNaN x w) fun e w' ⟨he, hw⟩ => ⟨_, he, ?_⟩
  subst hw
  (repeat with_reducible first | refine jy ?_ | refine jw KL84 [] TF84 fun _ => ?_)
  refine CallW_gen call113 (cmIsNaN y w') fun e w' ⟨he, hw⟩ => ⟨_, he, ?_⟩
  subst hw
  (repeat with_reducible first | refine jy ?_ | refine jw KL84 [] TF84 fun _ => ?_)
  refine Run_condS (fun _ => rfl) (fun h => by simp at h) (fun _ => ?_)
  (repeat with_reducible first | refine jy ?_ | refine jw KL84 [] TF84 fun _ => ?_)
  refine Run_condS (fun _ => rfl) (fun h => by simp at h) (fun _ => ?_)
  (repeat with_reducible first | refine jy ?_ | refine jw KL84 [] TF84 fun _ => ?_)
  refine Run_condS (fun _ => rfl) (fun h => ?_) (fun h => ?_)
  · simp at h
    (repeat with_reducible first | refine jy ?_ | refine jw KL84 [] TF84 fun _ => ?_)
    refine Run_ret ?_
    simp [Rets, RetM, resV, fnd, oneOr, cmpI, h]
  simp at h
  (repeat with_reducible first | refine jy ?_ | refine jw KL84 [] TF84 fun _ => ?_)
  refine Run_condS (fun _ => rfl) (fun h => ?_) (fun h => ?_)
  · have h1 := h
    simp at h1
    (repeat with_reducible first | refine jy ?_ | refine jw KL84 [] TF84 fun _ => ?_)
    refine Run_ret ?_
    simp [Rets, RetM, resV, fnd, oneOr, cmpI, h1]
    omega
  · have h1 := h
    simp at h1
    (repeat with_reducible first | refine jy ?_ | refine jw KL84 [] TF84 fun _ => ?_)
    refine Run_ret ?_
    simp [Rets, RetM, resV, fnd, oneOr, cmpI]
    omega
theorem cmOr (p : Addr) (a b : Int) (w : World) (h : At w p [.int .i64 a, .int .i64 b]) : Calls Tryz.prog 83 #[.slice (some p) 2 2] w fun e w' => e = .returned (.int .i64 (if a ≠ 0 then a else b)) ∧ w' = w := by
  have g := h.n
  simp only [AtN, KS, Nat.reduceAdd, Nat.reduceMul, Nat.reduceEqDiff, ↓reduceIte, UT] at g
  refine Calls_of_Run (args := [.slice (some p) 2 2]) (n := 18) (rs := [.tmp 2]) Tryz.func83 rfl rfl rfl (by simp) ?_
  (repeat with_reducible first | refine jy ?_ | refine jw KL83 [] TF83 fun _ => ?_)
  refine Run_loopV [2, 5, 8, 9, 14] (σ := Nat) (fun k => [(8, some (.int .i64 k))]) (fun k w' => k ≤ 2 ∧ w' = w ∧ (1 ≤ k → a = 0) ∧ (2 ≤ k → b = 0)) (fun k => 2 - k) 0 (by simp [SubB, fnd]) ⟨by omega, rfl, by omega, by omega⟩ ?_
  rintro k w1 ⟨hk, rfl, hA, hB⟩
  (repeat with_reducible first | refine jy ?_ | refine jw KL83 [] TF83 fun _ => ?_)
  refine Run_condS (fun _ => rfl) (fun h => ?_) (fun h => ?_)
  · simp at h
    have hk2 : k = 0 ∨ k = 1 := by omega
    rcases hk2 with rfl | rfl
    · (repeat with_reducible first | refine jy ?_ | refine jw KL83 [] (aa TF83 g) fun _ => ?_)
      refine Run_condS (fun _ => rfl) (fun h => ?_) (fun h => ?_)
      · simp at h
        (repeat with_reducible first | refine jy ?_ | refine jw KL83 [] TF83 fun _ => ?_)
        refine Run_ret ?_
        simp [Rets, RetM, resV, fnd, oneOr, h]
      · simp at h
        (repeat with_reducible first | refine jy ?_ | refine jw KL83 [] TF83 fun _ => ?_)
        refine Run_lp ⟨1, ?_, ⟨by omega, rfl, fun _ => h, by omega⟩, by omega⟩
        simp [SubB, fnd, strike, has]
    · have ha := hA (by omega)
      (repeat with_reducible first | refine jy ?_ | refine jw KL83 [] (aa TF83 g) fun _ => ?_)
      refine Run_condS (fun _ => rfl) (fun h => ?_) (fun h => ?_)
      · simp at h
        (repeat with_reducible first | refine jy ?_ | refine jw KL83 [] TF83 fun _ => ?_)
        refine Run_ret ?_
        simp [Rets, RetM, resV, fnd, oneOr, ha]
      · simp at h
        (repeat with_reducible first | refine jy ?_ | refine jw KL83 [] TF83 fun _ => ?_)
        refine Run_lp ⟨2, ?_, ⟨by omega, rfl, fun _ => ha, fun _ => h⟩, by omega⟩
        simp [SubB, fnd, strike, has]
  · simp at h
    obtain rfl : k = 2 := by omega
    have ha := hA (by omega)
    have hb := hB (by omega)
    (repeat with_reducible first | refine jy ?_ | refine jw KL83 [] TF83 fun _ => ?_)
    refine Run_ret ?_
    simp [Rets, RetM, resV, fnd, oneOr, ha, hb]
theorem PC_same {C : World → Prop} {g : FuncId} {args : List Value} {v : Value} (hc : callable Tryz.prog g = true) (h : ∀ w, Calls Tryz.prog g args.toArray w fun e w' => e = .returned v ∧ w' = w) : PC Tryz.prog C (.func (.func g) #[] #[]) args v := by
  refine ⟨hc, fun w1 hw1 => ?_⟩
  simp only [Array.empty_append, Array.append_empty]
  exact (h w1).mono fun e w' ⟨he, hw⟩ => ⟨he, hw ▸ hw1⟩
theorem drewN_ext (w : World) (q : Nat) : Ext w (w.drewN q) := ⟨rfl, rfl, rfl, Nat.le_refl _, fun _ _ => rfl⟩
theorem ttCmp (a b : RunD) (w : World) : Calls Tryz.prog 91 #[.agg a.cs.toArray, .agg b.cs.toArray] w fun e w' => e = .returned (.int .i64 (cmpR a b)) ∧ ∃ q os', w' = Sort.grow (w.drewN q) os' := by
  refine Calls_of_Run (args := [.agg a.cs.toArray, .agg b.cs.toArray]) (n := 17) (rs := [.tmp 4]) Tryz.func91 rfl rfl rfl (by simp) ?_
  (repeat with_reducible first | refine jy ?_ | (refine jT (id := 1) KL91 9 mixed (by kernel_rfl) (by kernel_rfl) (by kernel_rfl) fun _ => ?_; refine jw KL91 [] TF91 fun _ => ?_) | refine jw KL91 [] TF91 fun _ => ?_)
  refine SemW_box fun p w1 hN => SemW_box fun q w2 hQ => ?_
  have g1 := (hN.at_.ext hQ.ext).n
  have g2 := hQ.at_.n
  simp only [RunD.cs, AtN, KS, Nat.reduceAdd, Nat.reduceMul, Nat.reduceEqDiff, ↓reduceIte, UT] at g1 g2
  (repeat with_reducible refine js ?_)
  refine Run_tailC (C := fun w' => ∃ q, w' = w2.drewN q) (id := 1) KL91 10 (fun w' ⟨q, h⟩ => h ▸ drewN_ext w2 q) ⟨1, rfl⟩ mixed (by kernel_rfl) (by kernel_rfl) (by kernel_rfl) fun _ => ?_
  (try simp (maxSteps := 5000000) only [KS, Nat.reduceAdd, Nat.reduceMul, Nat.reduceEqDiff, ↓reduceIte, forall_const, Int.cast_ofNat_Int, Int.reduceToNat, List.take_succ_cons, List.take_zero, List.drop_succ_cons, List.drop_zero, TF91, KL91, g1, g2]); (try simp (disch := omega) only [wrapI, tmodI, tdivI])
  refine ⟨_, PC_same call84 (cmCompare _ _), ?_⟩
  refine ⟨_, PC_same call84 (cmCompare _ _), ?_⟩
  rintro w3 ⟨m, rfl⟩
  refine SemW_buildSlice (vs := [.int .i64 (cmpI a.At b.At), .int .i64 (cmpI a.Line b.Line)]) Tryz.underlying25 ti3 rfl rfl rfl (by simp [Value.cells]) (by simp) fun ph w3 hB => ?_
  have hA : At w3 ph [.int .i64 (cmpI a.At b.At), .int .i64 (cmpI a.Line b.Line)] := by simpa [Value.cells] using hB.at_
  refine CallW_gen call83 (cmOr ph _ _ w3 hA) fun e w' ⟨he, hw⟩ => ⟨_, he, ?_⟩
  subst hw
  refine Run_ret ?_
  simp only [Rets, RetM, resV, fnd, oneOr, ↓reduceIte]
  refine ⟨_, rfl, rfl, ?_⟩
  rw [hB.w, hQ.w, hN.w, Sort.alloc_eq_grow, Sort.alloc_eq_grow, Sort.alloc_eq_grow, Sort.grow_grow]
  exact ⟨m, _, Sort.grow_grow (w.drewN m) _ _⟩
end Go.Proofs.YtldjfebokojmfaaGreat
namespace Go.Proofs.YtldjfebokojmfaaGreat
open Go.Shelf
def sortRun_ren : Go.Shelf.Ren := ⟨fun | 6 => 67 | 15 => 106 | 14 => 105 | 28 => 139 | 29 => 140 | 20 => 131 | 21 => 132 | 22 => 133 | 23 => 134 | 24 => 135 | 25 => 136 | 26 => 137 | 27 => 138 | 46 => 152 | 47 => 153 | 48 => 154 | 49 => 155 | 50 => 156 | 57 => 159 | n => n, fun | 22 => 59 | 24 => 34 | 25 => 113 | 3 => 3 | 39 => 159 | 0 => 0 | 53 => 182 | 55 => 184 | 4 => 4 | 46 => 175 | 45 => 174 | 50 => 179 | 5 => 5 | 9 => 9 | 66 => 192 | 70 => 196 | 76 => 199 | 77 => 105 | n => n, fun | n => n⟩
theorem sortRun : Go.Proofs.SlLaysF0.n6 Tryz.prog sortRun_ren := {
  mixed := by kernel_rfl
  f6 := ⟨Tryz.f67.name, by decide, Tryz.func67.trans (congrArg some (by kernel_rfl))⟩
  f14 := ⟨Tryz.f105.name, by decide, Tryz.func105.trans (congrArg some (by kernel_rfl))⟩
  f15 := Tryz.func106.trans (congrArg some (by kernel_rfl))
  f20 := ⟨Tryz.f131.name, by decide, Tryz.func131.trans (congrArg some (by kernel_rfl))⟩
  f21 := ⟨Tryz.f132.name, by decide, Tryz.func132.trans (congrArg some (by kernel_rfl))⟩
  f22 := ⟨Tryz.f133.name, by decide, Tryz.func133.trans (congrArg some (by kernel_rfl))⟩
  f23 := ⟨Tryz.f134.name, by decide, Tryz.func134.trans (congrArg some (by kernel_rfl))⟩
  f24 := ⟨Tryz.f135.name, by decide, Tryz.func135.trans (congrArg some (by kernel_rfl))⟩
  f25 := ⟨Tryz.f136.name, by decide, Tryz.func136.trans (congrArg some (by kernel_rfl))⟩
  f26 := ⟨Tryz.f137.name, by decide, Tryz.func137.trans (congrArg some (by kernel_rfl))⟩
  f27 := ⟨Tryz.f138.name, by decide, Tryz.func138.trans (congrArg some (by kernel_rfl))⟩
  f28 := Tryz.func139.trans (congrArg some (by kernel_rfl))
  f29 := Tryz.func140.trans (congrArg some (by kernel_rfl))
  f46 := ⟨Tryz.f152.name, by decide, Tryz.func152.trans (congrArg some (by kernel_rfl))⟩
  f47 := Tryz.func153.trans (congrArg some (by kernel_rfl))
  f48 := Tryz.func154.trans (congrArg some (by kernel_rfl))
  f49 := ⟨Tryz.f155.name, by decide, Tryz.func155.trans (congrArg some (by kernel_rfl))⟩
  f50 := ⟨Tryz.f156.name, by decide, Tryz.func156.trans (congrArg some (by kernel_rfl))⟩
  f57 := ⟨Tryz.f159.name, by decide, Tryz.func159.trans (congrArg some (by kernel_rfl))⟩
  t0 := Tryz.underlying0
  a0 := Tryz.isAgg0
  z0 := Tryz.sizeOf0
  v0 := Tryz.zeroValue0
  t3 := Tryz.underlying3
  a3 := Tryz.isAgg3
  z3 := Tryz.sizeOf3
  v3 := Tryz.zeroValue3
  t4 := Tryz.underlying4
  a4 := Tryz.isAgg4
  z4 := Tryz.sizeOf4
  v4 := Tryz.zeroValue4
  t5 := Tryz.underlying5
  a5 := Tryz.isAgg5
  z5 := Tryz.sizeOf5
  v5 := Tryz.zeroValue5
  t9 := Tryz.underlying9
  a9 := Tryz.isAgg9
  z9 := Tryz.sizeOf9
  v9 := Tryz.zeroValue9
  t22 := Tryz.underlying59
  a22 := Tryz.isAgg59
  z22 := Tryz.sizeOf59
  v22 := Tryz.zeroValue59
  t25 := Tryz.underlying113
  a25 := Tryz.isAgg113
  z25 := Tryz.sizeOf113
  v25 := Tryz.zeroValue113
  t39 := Tryz.underlying159
  a39 := Tryz.isAgg159
  z39 := Tryz.sizeOf159
  v39 := Tryz.zeroValue159
  t45 := Tryz.underlying174
  a45 := Tryz.isAgg174
  z45 := Tryz.sizeOf174
  v45 := Tryz.zeroValue174
  t46 := Tryz.underlying175
  a46 := Tryz.isAgg175
  z46 := Tryz.sizeOf175
  v46 := Tryz.zeroValue175
  t50 := Tryz.underlying179
  a50 := Tryz.isAgg179
  z50 := Tryz.sizeOf179
  v50 := Tryz.zeroValue179
  t53 := Tryz.underlying182
  a53 := Tryz.isAgg182
  z53 := Tryz.sizeOf182
  v53 := Tryz.zeroValue182
  t55 := Tryz.underlying184
  a55 := Tryz.isAgg184
  z55 := Tryz.sizeOf184
  v55 := Tryz.zeroValue184
  t66 := Tryz.underlying192
  a66 := Tryz.isAgg192
  z66 := Tryz.sizeOf192
  v66 := Tryz.zeroValue192
  t70 := Tryz.underlying196
  a70 := Tryz.isAgg196
  z70 := Tryz.sizeOf196
  v70 := Tryz.zeroValue196
  t76 := Tryz.underlying199
  a76 := Tryz.isAgg199
  z76 := Tryz.sizeOf199
  v76 := Tryz.zeroValue199
  t77 := Tryz.underlying105
  a77 := Tryz.isAgg105
  z77 := Tryz.sizeOf105
  v77 := Tryz.zeroValue105 }
end Go.Proofs.YtldjfebokojmfaaGreat
set_option linter.unusedSimpArgs false
set_option linter.unusedVariables false
set_option maxRecDepth 100000
namespace Go.Fk
open Go
section
variable {α : Type} [Inhabited α] {enc : α → List Value} {k : Nat}
omit [Inhabited α] in
theorem flat_len (hk : ∀ x, (enc x).length = k) : ∀ l : List α, (l.flatMap enc).length = l.length * k
  | [] => by simp
  | x :: l => by rw [List.flatMap_cons, List.length_append, hk, flat_len hk l, List.length_cons, Nat.add_mul]; omega
theorem flat_get (hk : ∀ x, (enc x).length = k) : ∀ (l : List α) (t : Nat), t < l.length * k → (l.flatMap enc)[t]! = (enc l[t / k]!)[t % k]!
  | [], t, h => by simp at h
  | x :: l, t, h => by
    have k0 : 0 < k := by rcases Nat.eq_zero_or_pos k with e | e; · subst e; simp at h
                          · exact e
    rw [List.flatMap_cons]
    by_cases ht : t < k
    · rw [Nat.div_eq_of_lt ht, Nat.mod_eq_of_lt ht]
      simp only [List.getElem!_eq_getElem?_getD, List.getElem?_cons_zero, Option.getD_some]
      rw [List.getElem?_append_left (by rw [hk]; exact ht)]
    · obtain ⟨s, rfl⟩ : ∃ s, t = s + k := ⟨t - k, by omega⟩
      have hs : s < l.length * k := by rw [List.length_cons, Nat.add_mul] at h; omega
      rw [Nat.add_div_right _ k0, Nat.add_mod_right]
      have := flat_get hk l s hs
      simp only [List.getElem!_eq_getElem?_getD] at this ⊢
      rw [List.getElem?_append_right (by rw [hk]; omega), hk, Nat.add_sub_cancel, this]
      simp
theorem flatK_list (hk : ∀ x, (enc x).length = k) (l : List α) : Sort.flatK enc k l.toArray = (l.flatMap enc).toArray := by
  refine Sort.ext_get! (by simp [flat_len hk]) fun t ht => ?_
  have ht : t < l.length * k := by simpa using ht
  rw [Sort.get_flatK enc k _ t (by simpa using ht)]
  have := flat_get hk l t ht
  simpa using this.symm
theorem holdsK_row (hk : ∀ x, (enc x).length = k) {w : World} {g : Nat} {cur : Array Value} {e : TypeId} (hg : w.heap[g]? = some (.cells cur e (0, 0))) {l : List α} (h : cur.toList.take (l.length * k) = l.flatMap enc) : Sort.HoldsK enc k w g 0 l.toArray := by
  unfold Sort.HoldsK
  rw [flatK_list hk]
  intro j hj
  have hj : j < (l.flatMap enc).length := by simpa using hj
  have hj2 := hj
  rw [flat_len hk] at hj2
  have e1 : cur[j]? = some (l.flatMap enc)[j] := by
    rw [← List.getElem?_eq_getElem hj, ← h, List.getElem?_take, if_pos hj2]
    simp
  refine ⟨?_, ?_⟩
  · simp only [World.cell?, hg, Nat.zero_add, Option.isSome_none, Bool.false_eq_true, if_false, e1]
    simp [List.getElem!_eq_getElem?_getD, List.getElem?_eq_getElem hj]
  · simp [World.frozen?, hg]
theorem sorted_row (hk : ∀ x, (enc x).length = k) {w : World} {g : Nat} {cur : Array Value} {e : TypeId} (hg : w.heap[g]? = some (.cells cur e (0, 0))) {l : List α} (h : l.length * k ≤ cur.size) (n : Nat) (os : Array Obj) :
    (∃ cur' : Array Value, (Go.Proofs.sortWorldK enc k w g 0 n l.toArray os).heap[g]? = some (.cells cur' e (0, 0)) ∧ cur'.size = cur.size ∧ cur'.toList.take (l.length * k) = l.flatMap enc) ∧ Keep (fun b => b ≠ g) w (Go.Proofs.sortWorldK enc k w g 0 n l.toArray os) := by
  have hlt : g < w.heap.size := (Array.getElem?_eq_some_iff.1 hg).1
  have hh : ∀ b, b < w.heap.size → (Go.Proofs.sortWorldK enc k w g 0 n l.toArray os).heap[b]? = if g = b then w.heap[b]?.map (Sort.onCells (Sort.putCells id 0 (Sort.flatK enc k l.toArray))) else w.heap[b]? := fun b hb => by
    unfold Go.Proofs.sortWorldK Sort.putRowK Sort.putRow Sort.mapBlock Sort.grow Sort.ahead
    simp only [Array.getElem?_append, Array.size_modify, hb, if_true, Array.getElem?_modify]
  refine ⟨⟨Sort.putCells id 0 (Sort.flatK enc k l.toArray) cur, ?_, by simp [Sort.putCells], ?_⟩, ⟨rfl, rfl, rfl, ?_, fun b hb hne => ?_⟩⟩
  · rw [hh g hlt, if_pos rfl, hg]; rfl
  · rw [flatK_list hk]
    refine List.ext_getElem (by simp [Sort.putCells, flat_len hk]; omega) fun j h1 h2 => ?_
    rw [flat_len hk] at h2
    have h3 : j < (l.flatMap enc).length := by rw [flat_len hk]; exact h2
    simp only [List.getElem_take, Array.getElem_toList, Sort.putCells, Array.getElem_mapIdx, Nat.zero_le, true_and, Nat.zero_add, List.size_toArray, Nat.sub_zero, id]
    rw [if_pos h3]
    simp [List.getElem!_eq_getElem?_getD, List.getElem?_eq_getElem h3]
  · unfold Go.Proofs.sortWorldK Sort.putRowK
    simp
  · rw [hh b hb, if_neg (Ne.symm hne)]
theorem Cs.runs {w : World} : ∀ {css : List (List Value)} {xs : List RunD}, Cs w css xs → css.flatten = xs.flatMap RunD.cs ∧ ∀ x ∈ xs, ∀ w', Enc.rep w' x.cs x
  | [], [], _ => ⟨rfl, fun x hx => by cases hx⟩
  | [], _ :: _, h => by have := h.len; simp at this
  | _ :: _, [], h => by have := h.len; simp at this
  | c :: css, x :: xs, h => by
    have h0 := h.rep 0 (by simp) (by simp)
    simp only [List.getElem_cons_zero] at h0
    obtain ⟨rfl, h1⟩ := h0
    obtain ⟨e, hr⟩ := h.tail.runs
    refine ⟨by rw [List.flatten_cons, List.flatMap_cons, e], fun y hy w' => ?_⟩
    rcases List.mem_cons.1 hy with rfl | hy
    · exact ⟨rfl, h1⟩
    · exact hr y hy w'
theorem Cs.ofRuns {w : World} : ∀ {xs : List RunD}, (∀ x ∈ xs, Enc.rep w x.cs x) → Cs w (xs.map RunD.cs) xs
  | [], _ => Cs.nil _
  | x :: xs, h => ⟨by simp, fun i h1 h2 => by rw [List.getElem_map]; exact h _ (List.getElem_mem h2)⟩
end
end Go.Fk
namespace Go.Proofs.YtldjfebokojmfaaGreat
open Go Go.Fk
theorem cmpRunLays (blk off size : Nat) (w : World) : Go.Proofs.CmpLays Tryz.prog 91 #[] RunD.cs 3 cmpR blk off size w := fun m os dk _ x y => ttCmp x y _
theorem sortRuns {v : Value} {l : List RunD} {w : World} {B : Nat} (hb : BufO (α := RunD) 34 B w v l) (hn : l.length ≤ 100000) (ha : l.Pairwise Tt.Apart) :
    Calls Tryz.prog 67 #[v, .func (.func 91) #[] #[]] w fun e w' => e = .returned (.tuple #[]) ∧ BufO (α := RunD) 34 B w' v (Tt.sortR l) ∧ Keep (fun k => some k ≠ v.ownBlock) w w' := by
  by_cases h0 : l = []
  · subst h0
    have hv : ∃ p cap, v = .slice p 0 cap := by
      obtain ⟨css, hc, hl, hv⟩ := hb.ex
      rcases hv with ⟨rfl, _⟩ | ⟨g, cap, cur, rfl, _⟩
      · exact ⟨_, _, rfl⟩
      · exact ⟨_, _, rfl⟩
    obtain ⟨p, cap, rfl⟩ := hv
    refine (AnyF.slices_SortFunc_none sortRun p cap _ w).mono fun e w' ⟨he, hw⟩ => ?_
    subst hw
    exact ⟨he, hb, Keep.refl _ _⟩
  obtain ⟨css, hc, hl, hv⟩ := hb.ex
  obtain ⟨e1, hr⟩ := hc.runs
  rcases hv with ⟨rfl, h0'⟩ | ⟨g, cap, cur, rfl, hbs, hg, h1, h2, h3, h4⟩
  · exact (h0 (List.eq_nil_of_length_eq_zero h0')).elim
  rw [e1] at h4
  have hlt : g < w.heap.size := (Array.getElem?_eq_some_iff.1 hg).1
  have eg : ∀ args w, (callFunc 91 args).run Tryz.prog w = .ok (.enter 91 args) w := enters_of Tryz.func91 (by kernel_rfl) rfl
  have hk : ∀ x : RunD, x.cs.length = 3 := fun _ => rfl
  refine (AnyQ.slices_SortFunc sortRun 3 Tryz.isAgg34 Tryz.sizeOf34 RunD.cs hk (fun x v hv => by simp [RunD.cs] at hv; rcases hv with rfl | rfl | rfl <;> rfl) cmpR before_swo 91 #[] g 0 cap l.toArray w eg (cmpRunLays _ _ _ _) (holdsK_row hk hg h4) hlt (by simp; omega)).mono fun e w' ⟨he, d', n, os, hp, hs, hw⟩ => ?_
  obtain ⟨l', rfl⟩ : ∃ l' : List RunD, d' = l'.toArray := ⟨d'.toList, by simp⟩
  have hsz : l'.length = l.length := by simpa using hp.1
  have hpm : l'.Perm l := by
    have := hp.2.2
    simp at this
    rwa [List.take_of_length_le (Nat.le_of_eq hsz)] at this
  have hap : l'.Pairwise Tt.Apart := (hpm.symm.pairwise_iff (fun h => Tt.apart_symm h)).1 ha
  have hsrt : Tt.Srt l' := by
    refine List.pairwise_iff_getElem.2 fun i j hi hj hij => ?_
    refine Tt.apart_or (List.pairwise_iff_getElem.1 hap i j hi hj hij) ?_
    have := hs i j (Nat.zero_le _) hij (by simpa [hsz] using hj)
    rw [ltOf_before] at this
    simpa [List.getElem!_eq_getElem?_getD, List.getElem?_eq_getElem hi, List.getElem?_eq_getElem hj] using this
  have hse := Tt.sortR_eq hpm hsrt ha
  obtain ⟨⟨cur', q1, q2, q3⟩, q4⟩ := sorted_row hk hg (l := l') (by rw [h3, hsz]; exact Nat.mul_le_mul_right 3 h1) n os
  rw [← hw] at q1 q4
  refine ⟨he, ⟨l'.map RunD.cs, ?_, ?_, .inr ⟨g, cap, cur', by rw [← hse, hsz], hbs, q1, by rw [← hse, hsz]; exact h1, h2, by rw [q2]; exact h3, ?_⟩⟩, q4.mono fun k _ hk e => hk (by rw [e]; rfl)⟩
  · rw [← hse]
    exact Cs.ofRuns fun x hx => hr x (hpm.mem_iff.1 hx) _
  · rw [← hse, ← List.flatMap_def, flat_len hk]; rfl
  · rw [← hse, ← List.flatMap_def]; exact q3
end Go.Proofs.YtldjfebokojmfaaGreat
