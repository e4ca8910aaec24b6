import Derived.Test.YtldjfebokojmfaaGreatRgW20x
import Derived.Test.YtldjfebokojmfaaGreatRgGs
import Derived.Test.YtldjfebokojmfaaGreatRgGb
import Derived.Test.YtldjfebokojmfaaGreatRgGe
import Derived.Maps.AppendAt
set_option linter.unusedSimpArgs false
set_option linter.unusedVariables false
set_option maxRecDepth 100000
namespace Go.Fk
open Go
theorem SemW_append1P {α : Type} [Enc α] [Flat α] {P : Program} {e : TypeId} {B : Nat} {w : World} {v : Value} {xs : List α} {t ty : TypeId} {z X : Value} {bytes : Nat} (ht : P.underlying t = some (.slice e)) (hT : TI P e z (Enc.n α) bytes) (hzs : z.cells.size = Enc.n α) (hsz : 0 < Enc.n α ∧ Enc.n α ≤ 16777216) {x : α} (hB : BufO e B w v xs) (hbase : B ≤ w.heap.size)
    (hx : Enc.rep w X.cells.toList x) (hb : xs.length + 1 ≤ maxLen ∧ (xs.length + 1) * bytes ≤ 140737488355328) {K : Value → Value → World → Prop}
    (hK : ∀ s v' w', BufO e B w' v' (xs ++ [x]) → Keep (fun k => some k ≠ v.ownBlock) w w' → (v'.ownBlock = v.ownBlock ∨ ∃ g, v'.ownBlock = some g ∧ w.heap.size ≤ g) → K s v' w') :
    SemW P (Instr.buildSlice t 1 #[(0, X)]) w fun s w1 => SemW P (Builtin.append_ #[t, t] ty #[v, s]) w1 (K s) := by
  obtain ⟨css, hc, ho⟩ := hB.ex
  have hX : X.cells.size = Enc.n α := by simpa using Enc.len _ _ _ hx
  have h1 := Flat.one _ _ _ hx
  refine SemW_buildSlice (vs := [X]) ht hT hzs (by simp) rfl (by simpa using hX) (by simpa using hsz.2) fun p w1 hN => ?_
  have hB1 : w1.ownsRow B e (Enc.n α) v xs.length css.flatten := by rw [hN.w]; exact ho.alloc _
  have hat := hN.at_
  simp only [List.flatMap_cons, List.flatMap_nil, List.append_nil] at hat
  obtain ⟨i, hi, hz, hs, hbb⟩ := info_parts hT.h
  have hnw : ∀ j u, X.cells.toList[j]? = some u → w1.cell? (p.add j) = some u := hat
  have z1 := hN.size
  obtain ⟨v', w', hr, ho', hg, hnil, hw⟩ := run_append_own_at (P := P) w1 B t ty e i z (Enc.n α) bytes ht hi hz hs hbb hzs hsz.1 v xs.length css.flatten hB1 p 1 1 X.cells.toList (by simp [hX]) hnw (List.all_eq_true.1 h1) hb.1 hb.2 (by omega)
  refine SemW.of_run hr (hK _ v' w' ⟨css ++ [X.cells.toList], hc.any.append (Cs.one (Flat.any _ _ _ _ hx)), by simpa using ho'⟩ (grown_keepO (grownBy_trans (by rw [hN.w]; exact World.grownBy_alloc _ _ _) hg)) ?_)
  rcases hw with h | h
  · exact .inl h
  · exact .inr ⟨_, h, by omega⟩
end Go.Fk
namespace Go.Proofs.YtldjfebokojmfaaGreat
open Go Go.Fk
theorem c34r : Tryz.prog.cellsOf 34 ≠ 0 := by rw [cells34]; decide
def rItems (l : List RunD) : List (List Value) := l.map fun m => [.agg m.cs.toArray]
theorem rItems_len (l : List RunD) : (rItems l).length = l.length := by simp [rItems]
theorem rItems_get {l : List RunD} {k : Nat} (h : k < (rItems l).length) (h' : k < l.length) : (rItems l)[k] = [.agg l[k].cs.toArray] := by simp [rItems]
def IterR (P : Program) (f : FuncId) (cap : Array Value) (items : List RunD) (w : World) (S : Nat → Prop) : Prop :=
  ∀ (kp : Nat → Prop) (yv : Value) (J : Nat → World → Prop) (Jx : World → Prop) (w1 : World), (∀ k, k < w.heap.size → S k → kp k) → Cons P yv (rItems items) (fun _ => False) kp J Jx → Keep S w w1 → J 0 w1 →
    Calls P f (#[] ++ #[yv] ++ cap) w1 fun e w' => e = .returned (.tuple #[]) ∧ (Jx w' ∨ J (rItems items).length w')
abbrev fRun (pm pn px : Addr) : Value := .func (.func 126) #[] #[.pointer (some pm), .pointer (some pn), .pointer (some px)]
theorem ttRunsF (no : Int) (x : LineD) (v0 v1 v2 v3 vm : Value) (w : World) (hm : vm.cells = #[vm]) :
    Calls Tryz.prog 90 #[.int .i64 no, .agg (x.cs v0 v1 v2 v3).toArray, vm] w fun e w' => ∃ pm pn px, e = .returned (fRun pm pn px) ∧ Ext w w' ∧ At w' pm [vm] ∧ At w' pn [.int .i64 no] ∧ At w' px (x.cs v0 v1 v2 v3) ∧ w.heap.size ≤ pm.block ∧ w.heap.size ≤ pn.block ∧ w.heap.size ≤ px.block := by
  refine Calls_of_Run (args := [.int .i64 no, .agg (x.cs v0 v1 v2 v3).toArray, vm]) (n := 8) (rs := [.tmp 6]) Tryz.func90 rfl rfl rfl (by simp) ?_
  (repeat with_reducible first | refine jy ?_ | refine jw KL90 [] TF90 fun _ => ?_)
  refine SemW_box fun p1 w1 h1 => SemW_box fun p2 w2 h2 => SemW_box fun p3 w3 h3 => ?_
  (repeat with_reducible first | refine jy ?_ | refine jw KL90 [] TF90 fun _ => ?_)
  refine Run_ret ?_
  simp only [Rets, RetM, resV, fnd, oneOr, ↓reduceIte]
  rw [hm] at h3
  have b1 := h1.blk
  have b2 := h2.blk
  have b3 := h3.blk
  have z1 := h1.size
  have z2 := h2.size
  exact ⟨_, rfl, p3, p1, p2, rfl, h1.ext.trans (h2.ext.trans h3.ext), h3.at_, h1.at_.ext (h2.ext.trans h3.ext), h2.at_.ext h3.ext, by omega, by omega, by omega⟩
structure RnS (W0 : World) (pm pn px : Addr) (vm : Value) (no : Int) (x : LineD) (v0 v1 v2 v3 : Value) (l : List Int) (w : World) : Prop where
  ext : Ext W0 w
  m : At w pm [vm]
  n : At w pn [.int .i64 no]
  x : At w px (x.cs v0 v1 v2 v3)
  sl : Sl w vm l
theorem RnS.keep {W0 w w' : World} {pm pn px : Addr} {vm : Value} {no : Int} {x : LineD} {v0 v1 v2 v3 : Value} {l : List Int} {S : Nat → Prop} (h : RnS W0 pm pn px vm no x v0 v1 v2 v3 l w) (k : Keep S w w') (h0 : ∀ k, k < W0.heap.size → S k) (h1 : S pm.block) (h2 : S pn.block) (h3 : S px.block) (h4 : l ≠ [] → S (slAt vm).block) :
    RnS W0 pm pn px vm no x v0 v1 v2 v3 l w' := ⟨Keep.ext h.ext k h0, h.m.keep k h1, h.n.keep k h2, h.x.keep k h3, h.sl.keepF k h4⟩
theorem runsL_take {i : Nat} {x : LineD} {l : List Int} {k : Nat} (h : k < l.length) : Tt.runsL i x (l.take (k + 1)) = Tt.runsL i x (l.take k) ++ (if l[k] + Tt.leng x < 2097152 then [⟨i, l[k], l[k] + Tt.leng x⟩] else []) := by
  unfold Tt.runsL
  rw [List.take_succ_eq_append_getElem h, List.filterMap_append]
  congr 1
  simp only [List.filterMap_cons, List.filterMap_nil, Tt.runAt]
  split <;> rename_i h1 <;> split at h1 <;> simp_all
theorem runsL_get {i : Nat} {x : LineD} {l : List Int} {k : Nat} (h : k < l.length) (hlt : l[k] + Tt.leng x < 2097152) : ∃ h : (Tt.runsL i x (l.take k)).length < (Tt.runsL i x l).length, (Tt.runsL i x l)[(Tt.runsL i x (l.take k)).length] = ⟨i, l[k], l[k] + Tt.leng x⟩ := by
  have e1 := runsL_take (i := i) (x := x) h
  rw [if_pos hlt] at e1
  have e2 : Tt.runsL i x l = (Tt.runsL i x (l.take k) ++ [⟨i, l[k], l[k] + Tt.leng x⟩]) ++ Tt.runsL i x (l.drop (k + 1)) := by
    rw [← e1]; unfold Tt.runsL; rw [← List.filterMap_append, List.take_append_drop]
  have hl : (Tt.runsL i x (l.take k)).length < (Tt.runsL i x l).length := by rw [e2]; simp
  refine ⟨hl, ?_⟩
  simp only [e2, List.append_assoc]
  rw [List.getElem_append_right (Nat.le_refl _)]
  simp
theorem runIter (W0 : World) (pm pn px : Addr) (vm : Value) (i : Nat) (x : LineD) (v0 v1 v2 v3 : Value) (l : List Int) (n : Int) (W : World) (S : Nat → Prop) (hR : LineR W0 x v0 v1 v2 v3) (hx : Tt.LOk x n) (hl : ∀ a ∈ l, 0 ≤ a ∧ a ≤ 2097152) (hb : l.length ≤ 100000)
    (hS : RnS W0 pm pn px vm i x v0 v1 v2 v3 l W) (h0 : ∀ k, k < W0.heap.size → S k) (h1 : S pm.block) (h2 : S pn.block) (h3 : S px.block) (h4 : l ≠ [] → S (slAt vm).block) :
    IterR Tryz.prog 126 #[.pointer (some pm), .pointer (some pn), .pointer (some px)] (Tt.runsL i x l) W S := by
  intro kp yv J Jx w hkp hc hW hJ0
  have hS1 := hS.keep hW h0 h1 h2 h3 h4
  have hW0 := hS.ext.size
  have k0 : ∀ k, k < W0.heap.size → kp k := fun k hk => hkp k (by omega) (h0 k hk)
  have k1 : kp pm.block := hkp _ hS.m.blk h1
  have k2 : kp pn.block := hkp _ hS.n.blk h2
  have k3 : kp px.block := hkp _ hS.x.blk h3
  have k4 : l ≠ [] → kp (slAt vm).block := fun hne => hkp _ (hS.sl.blk (by decide) (i := 0) (List.length_pos_iff.2 hne)) (h4 hne)
  have q1 := hS1.m.n
  simp only [AtN, add_zero] at q1
  have e : (#[] ++ #[yv] ++ #[.pointer (some pm), .pointer (some pn), .pointer (some px)] : Array Value) = [yv, .pointer (some pm), .pointer (some pn), .pointer (some px)].toArray := rfl
  rw [e]
  refine Calls_of_Run (args := [yv, .pointer (some pm), .pointer (some pn), .pointer (some px)]) (n := 30) (rs := []) Tryz.func126 rfl rfl rfl (by simp) ?_
  (repeat with_reducible first | refine jy ?_ | refine jw KL126 [] (aa TF126 (aa q1.1 (aa q1.2.1 (aa hS.sl.s hS.sl.len)))) fun _ => ?_)
  refine Run_loopV [6, 7, 10, 11, 28] (σ := Nat) (fun k => [(10, some (.int .i64 k))]) (fun k w' => k ≤ l.length ∧ J (Tt.runsL i x (l.take k)).length w' ∧ RnS W0 pm pn px vm i x v0 v1 v2 v3 l w') (fun k => l.length - k) 0 (by simp [SubB, fnd]) ⟨by omega, hJ0, hS1⟩ ?_
  rintro k w1 ⟨hk, hJ, hS2⟩
  (repeat with_reducible first | refine jy ?_ | refine jw KL126 [] TF126 fun _ => ?_)
  refine Run_condS (fun _ => rfl) (fun h => ?_) (fun h => ?_)
  · simp at h
    have hkl := h
    obtain ⟨f1, f2, f3⟩ := hS2.sl.get hkl
    have hbo := hl _ (List.getElem_mem hkl)
    (repeat with_reducible first | refine jy ?_ | refine jw KL126 [] (aa TF126 (aa hS.sl.s (aa hS.sl.len (aa f1 f2)))) fun _ => ?_)
    have y1 := hS2.ext
    have hleng : 0 ≤ Tt.leng x ∧ Tt.leng x ≤ 800000 := by
      have hbd := Tt.sm_bd hx.l x.Legs.length (Nat.le_refl _)
      rw [List.take_length] at hbd
      have hl9 : x.Legs.length ≤ 8 := by have := hx.l1; have := hx.o9; omega
      unfold Tt.leng; omega
    (repeat with_reducible refine js ?_)
    refine Run_cutV [7] (σ := Addr) (fun p => [(7, some (.pointer (some p)))]) (fun p w' => Ext w1 w' ∧ At w' p [.int .i64 i, .int .i64 l[k], .int .i64 (l[k] + Tt.leng x)]) ?_ ?_
    · refine Run_ec (id := 3) KL126 (.first 0 (.first 1 (.first 2 (.first 3 (.alt 4 (.alt 5 (.alt 6 (.alt 7 .done .stop) .stop) (.alt 6 (.alt 5 (.alt 7 .done .stop) .stop) .stop)) (.alt 6 (.alt 4 (.alt 5 (.alt 7 .done .stop) .stop) .stop) .stop)))))) mixed (by kernel_rfl) (by kernel_rfl) fun w3 x3 _ => ?_
      have g3 := (hS2.n.ext x3).n
      have g4 := (hS2.x.ext x3).n
      simp only [LineD.cs, AtN, KS, Nat.reduceAdd, Nat.reduceMul, Nat.reduceEqDiff, ↓reduceIte, UT] at g3 g4
      have hA : ∀ {w' : World} {K : Value → World → Prop}, Ext w3 w' → (∀ w'', Ext w' w'' → Ext w3 w'' → K (.int .i64 (l[k] + Tt.leng x)) w'') → CallW Tryz.prog (.func (.func 112) #[] #[]) [.agg #[v0, v1, .int .i64 x.Classes, .int .i64 x.Room, v2, v3], .int .i64 l[k]] w' K := fun hx' hK =>
        CallW_pure call112 (ttArrival x v0 v1 v2 v3 l[k] _ (hR.ext (y1.trans (x3.trans hx'))) n hx hbo.1 hbo.2) fun w'' x'' => hK w'' x'' (hx'.trans x'')
      have hB : ∀ {w' : World} {K : Value → World → Prop}, Ext w3 w' → (∀ p w'', Row w'' p 34 [.int .i64 0, .int .i64 0, .int .i64 0] → w3.heap.size ≤ p.block → Ext w3 w'' → K (.pointer (some p)) w'') → SemW Tryz.prog (Instr.alloc 34 true (.tuple #[])) w' K := fun {w'} {K} hx' hK =>
        SemW_allocT ti34 fun p w'' hN => hK p w'' hN.row (by have := hN.blk; have := hx'.size; omega) (hx'.trans hN.ext)
      have hC : ∀ {u w' : World} {p : Addr} {K : Unit → World → Prop}, Row u p 34 [.int .i64 0, .int .i64 0, .int .i64 0] → Ext u w' → w3.heap.size ≤ p.block → Ext w3 w' → (∀ w'', Ext w3 w'' → Row w'' p 34 [.int .i64 i, .int .i64 l[k], .int .i64 (l[k] + Tt.leng x)] → K () w'') → SemW Tryz.prog (Instr.storeAt 34 (.pointer (some p)) (.agg #[.int .i64 i, .int .i64 l[k], .int .i64 (l[k] + Tt.leng x)])) w' K := fun {u w' p K} hr hu hp hx' hK =>
        SemW_setW c34r (by rw [cells34]; rfl) (hr.ext hu) (by rw [cells34]; rfl) rfl fun w'' r'' k'' _ => hK w'' (Keep.ext hx' k'' fun q hq => by show q ≠ p.block; omega) r''
      (try simp (maxSteps := 5000000) only [KS, Nat.reduceAdd, Nat.reduceMul, Nat.reduceEqDiff, ↓reduceIte, forall_const, Int.cast_ofNat_Int, Int.reduceToNat, List.take_succ_cons, List.take_zero, List.drop_succ_cons, List.drop_zero, TF126, KL126, ec, g3, g4]); (try simp (disch := omega) only [wrapI, tmodI, tdivI])
      all_goals repeat' (first | with_reducible exact Ext.refl _ | with_reducible assumption | with_reducible refine And.intro ?_ ?_ | (with_reducible refine hA (by first | exact Ext.refl _ | assumption) fun wA xA yA => ?_) | (with_reducible refine hB (by first | exact Ext.refl _ | assumption) fun pB wB rB bB yB => ?_) | (with_reducible refine hC (by assumption) (by first | exact Ext.refl _ | assumption) (by assumption) (by first | exact Ext.refl _ | assumption) fun wC yC rC => ?_) | (with_reducible refine Exists.intro (.agg #[.int .i64 i, .int .i64 l[k], .int .i64 (l[k] + Tt.leng x)]) (And.intro (fun _ => by kernel_rfl) ?_)))
      all_goals
        refine Run_lp ⟨pB, ?_, x3.trans (by assumption), Row.at_ (by assumption)⟩
        simp [SubB, fnd, strike, has]
    rintro pr w3 ⟨x3, hat⟩
    have hS3 := hS2.keep (Keep.of_ext (S := fun _ => True) x3) (fun _ _ => trivial) trivial trivial trivial fun _ => trivial
    have hJ3 := hc.step _ _ _ hJ (Keep.of_ext x3)
    have g3 := hat.n
    simp only [AtN, KS, Nat.reduceAdd, Nat.reduceMul, Nat.reduceEqDiff, ↓reduceIte, UT] at g3
    by_cases hlt : l[k] + Tt.leng x < 2097152
    · have hd : decide (l[k] + Tt.leng x < 2097152) = true := by simpa using hlt
      obtain ⟨hki, hget⟩ := runsL_get (i := i) (x := x) hkl hlt
      (repeat with_reducible first | refine jy ?_ | refine jw KL126 [] (aa TF126 (aa g3 (aa hd KX))) fun _ => ?_)
      refine .inl ?_
      have hy := hc.yield _ w3 (by rw [rItems_len]; exact hki) hJ3
      rw [rItems_get _ hki, hget] at hy
      refine hy.mono fun u w7 ⟨b', hv, k7, hj⟩ => ?_
      subst hv
      unfold hush
      have hS7 := hS3.keep k7 k0 k1 k2 k3 k4
      have hnx : (Tt.runsL i x (l.take (k + 1))).length = (Tt.runsL i x (l.take k)).length + 1 := by rw [runsL_take hkl, if_pos hlt]; simp
      cases b' with
      | true =>
        simp only [if_true] at hj
        (repeat with_reducible first | refine jy ?_ | refine jw KL126 [] (aa TF126 (aa g3 (aa hd KX))) fun _ => ?_)
        refine Run_condS (fun _ => rfl) (fun h => by cases h) (fun _ => ?_)
        (repeat with_reducible first | refine jy ?_ | refine jw KL126 [] TF126 fun _ => ?_)
        refine Run_lp ⟨k + 1, ?_, ⟨by omega, by rw [hnx]; exact hj, hS7⟩, by omega⟩
        simp [SubB, fnd, strike, has]
      | false =>
        simp only [Bool.false_eq_true, if_false] at hj
        (repeat with_reducible first | refine jy ?_ | refine jw KL126 [] (aa TF126 (aa g3 (aa hd KX))) fun _ => ?_)
        refine Run_condS (fun _ => rfl) (fun _ => ?_) (fun h => by cases h)
        (repeat with_reducible first | refine jy ?_ | refine jw KL126 [] TF126 fun _ => ?_)
        refine Run_ret ?_
        simp only [Rets, RetM, resV, oneOr]
        exact ⟨trivial, .inl hj⟩
    · have hd : decide (l[k] + Tt.leng x < 2097152) = false := by simpa using hlt
      have hnx : (Tt.runsL i x (l.take (k + 1))).length = (Tt.runsL i x (l.take k)).length := by rw [runsL_take hkl, if_neg hlt]; simp
      (repeat with_reducible first | refine jy ?_ | refine jw KL126 [] (aa TF126 (aa g3 (aa hd KX))) fun _ => ?_)
      refine .inl ?_
      unfold hush
      (repeat with_reducible first | refine jy ?_ | refine jw KL126 [] (aa TF126 (aa g3 (aa hd KX))) fun _ => ?_)
      refine Run_condS (fun _ => rfl) (fun h => by cases h) (fun _ => ?_)
      (repeat with_reducible first | refine jy ?_ | refine jw KL126 [] TF126 fun _ => ?_)
      refine Run_lp ⟨k + 1, ?_, ⟨by omega, by rw [hnx]; exact hJ3, hS3⟩, by omega⟩
      simp [SubB, fnd, strike, has]
  · simp at h
    obtain rfl : k = l.length := by omega
    (repeat with_reducible first | refine jy ?_ | refine jw KL126 [] TF126 fun _ => ?_)
    refine Run_nil ?_
    simp only [Rets, RetM, resV, oneOr]
    exact ⟨trivial, .inr (by rw [rItems_len]; rw [List.take_length] at hJ; exact hJ)⟩
end Go.Proofs.YtldjfebokojmfaaGreat
