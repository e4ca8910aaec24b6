import Derived.Test.YtoadfmgnpmcbfaaGreatQnG2
import Derived.Test.YtoadfmgnpmcbfaaGreatQnB38x
import Derived.Test.YtoadfmgnpmcbfaaGreatQnW20x
import Derived.Test.YtoadfmgnpmcbfaaGreatQnGe
namespace Go.Proofs.YtoadfmgnpmcbfaaGreat
open Go Go.Fk
set_option linter.unusedSimpArgs false
set_option linter.unusedVariables false
set_option maxRecDepth 100000
theorem sm_in {l : List Int} (h : ∀ x ∈ l, -4194304 ≤ x ∧ x ≤ 4194304) : ∀ i, i ≤ l.length → -4194304 * (i : Int) ≤ Tt.sm (l.take i) ∧ Tt.sm (l.take i) ≤ 4194304 * i := by
  intro i
  induction i with
  | zero => intro _; simp [Tt.sm]
  | succ i ih =>
    intro hi
    rw [Tt.sm_take l i hi]
    have := ih (by omega)
    have := h _ (List.getElem_mem hi)
    omega
theorem tfSum (v : Value) (l : List Int) (w : World) (hx : Sl w v l) (hl : l.length ≤ 1000) (hb : ∀ x ∈ l, -4194304 ≤ x ∧ x ≤ 4194304) :
    Calls Tryz.prog 62 #[v] w fun e w' => e = .returned (.int .i64 (Tt.sm l)) ∧ Ext w w' := by
  refine Calls_of_Run (args := [v]) (n := 16) (rs := [.tmp 2]) Tryz.func62 rfl rfl rfl (by simp) ?_
  (repeat with_reducible first | refine js ?_ | refine ja ?_ | refine jw KL62 [] (aa TF62 (aa hx.s hx.len)) fun _ => ?_)
  refine Run_loopV [2, 4, 7, 8] (σ := Nat) (fun k => [(7, some (.int .i64 k)), (2, some (.int .i64 (Tt.sm (l.take k))))]) (fun k w' => k ≤ l.length ∧ Ext w w') (fun k => l.length - k) 0 (by simp [SubB, fnd, Tt.sm]) ⟨by omega, Ext.refl _⟩ ?_
  rintro k w1 ⟨hk, x1⟩
  (repeat with_reducible first | refine js ?_ | refine ja ?_ | refine jw KL62 [] TF62 fun _ => ?_)
  refine Run_condS (fun _ => rfl) (fun h => ?_) (fun h => ?_)
  · simp at h
    obtain ⟨f1, f2, f3⟩ := (hx.ext x1).get h
    have b1 := sm_in hb k (by omega)
    have b2 := sm_in hb (k + 1) h
    have e1 := Tt.sm_take l k h
    (repeat with_reducible first | refine js ?_ | refine ja ?_ | refine jw KL62 [] (aa TF62 (aa hx.s (aa hx.len (aa f1 f2)))) fun _ => ?_)
    refine Run_lp ⟨k + 1, ?_, ⟨by omega, x1⟩, by omega⟩
    rw [e1]
    simp [SubB, fnd, strike, has]
  · simp at h
    obtain rfl : k = l.length := by omega
    (repeat with_reducible first | refine js ?_ | refine ja ?_ | refine jw KL62 [] TF62 fun _ => ?_)
    refine Run_ret ?_
    simp [Rets, RetM, resV, fnd, oneOr, x1]
theorem sumW {v : Value} {l : List Int} {n : Int} {w : World} {K : Value → World → Prop} (hn : Tt.sm l = n) (hx : Sl w v l) (hl : l.length ≤ 1000) (hb : ∀ x ∈ l, -4194304 ≤ x ∧ x ≤ 4194304) (hK : ∀ w', Ext w w' → K (.int .i64 n) w') : CallW Tryz.prog (.func (.func 62) #[] #[]) [v] w K := by
  subst hn; exact CallW_pure call62 (tfSum v l w hx hl hb) hK
theorem extra_back {c : Int} {l : List TierD} (k : Nat) (hk : k ≤ l.length) (h : ∀ j (h : j < l.length), k ≤ j → ¬ l[j].From ≤ c) : Tf.extraF c l 0 = Tf.extraF c (l.take k) 0 := by
  have e : l = l.take k ++ l.drop k := (List.take_append_drop k l).symm
  have h1 := Tf.extraF_append c (l.take k) (l.drop k) 0
  rw [← e] at h1
  rw [h1]
  generalize Tf.extraF c (l.take k) 0 = a
  have : ∀ (m : List TierD), (∀ x ∈ m, ¬ x.From ≤ c) → Tf.extraF c m a = a := by
    intro m
    induction m with
    | nil => intro _; rfl
    | cons x m ih => intro hm; simp only [Tf.extraF]; rw [if_neg (hm x (List.mem_cons_self ..)), ih fun y hy => hm y (List.mem_cons_of_mem _ hy)]
  refine this _ fun x hx => ?_
  obtain ⟨j, hj, rfl⟩ := List.getElem_of_mem hx
  rw [List.getElem_drop]
  simp at hj
  exact h (k + j) (by omega) (by omega)
theorem extra_hit {c : Int} {l : List TierD} (k : Nat) (hk : k < l.length) (h : ∀ j (h : j < l.length), k < j → ¬ l[j].From ≤ c) (hc : l[k].From ≤ c) : Tf.extraF c l 0 = l[k].Extra := by
  rw [extra_back (k + 1) hk h, List.take_succ_eq_append_getElem hk, Tf.extraF_append]
  simp [Tf.extraF, hc]
theorem tfBack (v : Value) (w : World) (hv : v.cells = #[v]) : Calls Tryz.prog 114 #[v] w fun e w' => ∃ p, e = .returned (.func (.func 170) #[] #[.pointer (some p)]) ∧ Ext w w' ∧ Row w' p 26 [v] ∧ p.block = w.heap.size := by
  refine Calls_of_Run (args := [v]) (n := 4) (rs := [.tmp 2]) Tryz.func114 rfl rfl rfl (by simp) ?_
  (repeat with_reducible first | refine js ?_ | refine ja ?_ | refine jw KL114 [] TF114 fun _ => ?_)
  refine SemW_box fun p w1 h1 => ?_
  (repeat with_reducible first | refine js ?_ | refine ja ?_ | refine jw KL114 [] TF114 fun _ => ?_)
  refine Run_ret ?_
  simp only [Rets, RetM, resV, fnd, oneOr, ↓reduceIte]
  rw [hv] at h1
  exact ⟨_, rfl, p, rfl, h1.ext, h1.row, h1.blk⟩
def backI (l : List TierD) : List (List Value) := (List.range l.length).map fun j => [.int .i64 ((l.length - 1 - j : Nat) : Int), .agg (l.getD (l.length - 1 - j) default).cs.toArray]
theorem backI_len (l : List TierD) : (backI l).length = l.length := by simp [backI]
theorem backI_get {l : List TierD} {j : Nat} (hj : j < (backI l).length) (h : l.length - 1 - j < l.length) : (backI l)[j] = [.int .i64 ((l.length - 1 - j : Nat) : Int), .agg l[l.length - 1 - j].cs.toArray] := by
  simp [backI, List.getD_eq_getElem?_getD, h]
theorem backIter (p : Addr) (v : Value) (l : List TierD) (W : World) (hx : Sl W v l) (kp : Nat → Prop) (yv : Value) (J : Nat → World → Prop) (Jx : World → Prop) (w : World) (hkp : ∀ k, k < W.heap.size → kp k) (hp : kp p.block)
    (hc : Cons Tryz.prog yv (backI l) (fun _ => False) kp J Jx) (hW : Ext W w) (r1 : Row w p 26 [v]) (h0 : J 0 w) :
    Calls Tryz.prog 170 (#[] ++ #[yv] ++ #[.pointer (some p)]) w fun e w' => e = .returned (.tuple #[]) ∧ (Jx w' ∨ J (backI l).length w') := by
  have hn := hx.small
  have hxl := hx.len
  obtain ⟨q1, q2⟩ := row1 r1
  have e : (#[] ++ #[yv] ++ #[.pointer (some p)] : Array Value) = [yv, .pointer (some p)].toArray := rfl
  rw [e]
  refine Calls_of_Run (args := [yv, .pointer (some p)]) (n := 19) (rs := []) Tryz.func170 rfl rfl rfl (by simp) ?_
  (repeat with_reducible first | refine js ?_ | refine ja ?_ | refine jw KL170 [] (aa TF170 (aa q1 (aa q2 (aa hx.s hx.len)))) fun _ => ?_)
  refine Run_loopV [3, 8, 18] (σ := Nat) (fun k => [(3, some (.int .i64 ((l.length : Int) - 1 - k)))]) (fun k w' => k ≤ l.length ∧ J k w' ∧ Ext W w' ∧ Row w' p 26 [v]) (fun k => l.length - k) 0 (by simp [SubB, fnd]) ⟨by omega, h0, hW, r1⟩ ?_
  rintro k w1 ⟨hk, hJ, hE, hR⟩
  (repeat with_reducible first | refine js ?_ | refine ja ?_ | refine jw KL170 [] TF170 fun _ => ?_)
  refine Run_condS (fun _ => rfl) (fun h => ?_) (fun h => ?_)
  · simp at h
    have hkl : l.length - 1 - k < l.length := by omega
    have e1 : ((l.length : Int) - 1 - k).toNat = l.length - 1 - k := by omega
    obtain ⟨f1, f2⟩ := (hx.ext hE).tierD hkl
    simp only [TierD.cs, AtN, KS, Nat.reduceAdd, Nat.reduceMul, Nat.reduceEqDiff, ↓reduceIte, UT] at f1
    obtain ⟨q3, q4⟩ := row1 hR
    (repeat with_reducible first | refine js ?_ | refine ja ?_ | refine jw KL170 [] (aa TF170 (aa hx.s (aa hx.len (aa e1 (aa f1 (aa q3 q4)))))) fun _ => ?_)
    have hki : k < (backI l).length := by rw [backI_len]; omega
    have hy := hc.yield k w1 hki hJ
    rw [backI_get hki hkl, show ((l.length - 1 - k : Nat) : Int) = (l.length : Int) - 1 - k by omega] at hy
    refine hy.mono fun u w7 ⟨b', hv, k7, hj⟩ => ?_
    subst hv
    have hE7 : Ext W w7 := Keep.ext hE k7 hkp
    have hR7 := hR.keep k7 hp
    cases b' with
    | true =>
      simp only [if_true] at hj
      (repeat with_reducible first | refine js ?_ | refine ja ?_ | refine jw KL170 [] TF170 fun _ => ?_)
      refine Run_condS (fun _ => rfl) (fun h => by cases h) (fun _ => ?_)
      (repeat with_reducible first | refine js ?_ | refine ja ?_ | refine jw KL170 [] TF170 fun _ => ?_)
      refine Run_lp ⟨k + 1, ?_, ⟨by omega, hj, hE7, hR7⟩, by omega⟩
      have e2 : (l.length : Int) - 1 - k - 1 = (l.length : Int) - 1 - (k + 1 : Nat) := by omega
      rw [← e2]
      simp [SubB, fnd, strike, has]
    | false =>
      simp only [Bool.false_eq_true, if_false] at hj
      (repeat with_reducible first | refine js ?_ | refine ja ?_ | refine jw KL170 [] TF170 fun _ => ?_)
      refine Run_condS (fun _ => rfl) (fun _ => ?_) (fun h => by cases h)
      (repeat with_reducible first | refine js ?_ | refine ja ?_ | refine jw KL170 [] TF170 fun _ => ?_)
      refine Run_ret ?_
      simp only [Rets, RetM, resV, oneOr]
      exact ⟨trivial, .inl hj⟩
  · simp at h
    obtain rfl : k = l.length := by omega
    (repeat with_reducible first | refine js ?_ | refine ja ?_ | refine jw KL170 [] TF170 fun _ => ?_)
    refine Run_nil ?_
    simp only [Rets, RetM, resV, oneOr]
    exact ⟨trivial, .inr (by rw [backI_len]; exact hJ)⟩
theorem tfExtra (f : TariffD) (u0 u1 u2 : Value) (c : Int) (w : World) (hT : TarR w f u0 u1 u2) :
    Calls Tryz.prog 63 #[.agg (f.cs u0 u1 u2).toArray, .int .i64 c] w fun e w' => e = .returned (.int .i64 (Tf.extra f c)) ∧ Ext w w' := by
  refine Calls_of_Run (args := [.agg (f.cs u0 u1 u2).toArray, .int .i64 c]) (n := 18) (rs := [.cell 4 3]) Tryz.func63 rfl rfl rfl (by simp) ?_
  (repeat with_reducible first | refine js ?_ | refine ja ?_ | refine jw KL63 [] TF63 fun _ => ?_)
  refine SemW_box fun pf w1 h1 => SemW_box fun pc w2 h2 => SemW_allocT ti3 fun pr w3 h3 => ?_
  have x3 := h1.ext.trans (h2.ext.trans h3.ext)
  have b2 := h2.blk
  have b3 := h3.blk
  have z1 := h1.size
  have z2 := h2.size
  have z3 := h3.size
  have f3 := (h1.at_.ext (h2.ext.trans h3.ext)).n
  simp only [TariffD.cs, AtN, KS, Nat.reduceAdd, Nat.reduceMul, Nat.reduceEqDiff, ↓reduceIte, UT] at f3
  have rc := h2.row.ext h3.ext
  have rr := h3.row
  simp only [KS, Nat.reduceAdd, Nat.reduceMul, Nat.reduceEqDiff, ↓reduceIte, UT] at rr rc
  (repeat with_reducible first | refine js ?_ | refine ja ?_ | refine jw KL63 [] (aa TF63 f3) fun _ => ?_)
  refine CallW_gen call114 (tfBack u2 w3 (isS_cells hT.t.s)) fun e w4 ⟨p, he, x4, r4, b4⟩ => ⟨_, he, ?_⟩
  have z4 := x4.size
  have lp := r4.lt
  (repeat with_reducible first | refine js ?_ | refine ja ?_ | refine jw KL63 [] TF63 fun _ => ?_)
  refine Run_iter [10, 11] (fun _ => rfl) call170 (by simp) (backI f.Tiers) (fun x hx => by simp [backI] at hx; obtain ⟨_, _, rfl⟩ := hx; rfl) (fun _ => False) (fun k => k < w.heap.size ∨ k = p.block) (fun k hk => hk.elim) (fun k hk => by omega)
    (fun j w' => Ext w w' ∧ Row w' pr 3 [.int .i64 0] ∧ Row w' pc 3 [.int .i64 c] ∧ ∀ i (h : i < f.Tiers.length), f.Tiers.length - j ≤ i → ¬ f.Tiers[i].From ≤ c)
    (fun e w' => e = none ∧ Ext w w' ∧ Row w' pr 3 [.int .i64 (Tf.extra f c)])
    (fun yv J Jx w5 hc hx5 h0 => backIter p u2 f.Tiers w hT.t _ yv J Jx w5 (fun k hk => .inl hk) (.inr rfl) hc (x3.trans (x4.trans hx5)) (r4.ext hx5) h0)
    (fun w5 hx5 _ => ⟨x3.trans (x4.trans hx5), rr.ext (x4.trans hx5), rc.ext (x4.trans hx5), fun i h hi => by omega⟩)
    (fun j w5 w6 ⟨a1, a2, a3, a4⟩ hk => ⟨Keep.ext a1 hk fun k hk => ⟨fun h => h, by omega, by omega⟩, a2.keep hk ⟨fun h => h, by omega, by omega⟩, a3.keep hk ⟨fun h => h, by omega, by omega⟩, a4⟩)
    (fun e w5 w6 ⟨he, a1, a2⟩ hk => ⟨he, Keep.ext a1 hk fun k hk => ⟨fun h => h, by omega, by omega⟩, a2.keep hk ⟨fun h => h, by omega, by omega⟩⟩) ?_ ?_ ?_
  · intro j hj w8 ⟨a1, a2, a3, a4⟩ z8
    have hj' := hj
    rw [backI_len] at hj'
    have hjl : f.Tiers.length - 1 - j < f.Tiers.length := by omega
    rw [backI_get hj hjl]
    simp only [zipL]
    have hbk := extra_back (c := c) (l := f.Tiers) (f.Tiers.length - j) (by omega) fun i hi h => a4 i hi h
    generalize hxx : f.Tiers[f.Tiers.length - 1 - j] = x at *
    (repeat with_reducible first | refine js ?_ | refine ja ?_ | refine jw KL63 [] TF63 fun _ => ?_)
    refine SemW_allocT ti166 fun px w9 h9 => ?_
    have b9 := h9.blk
    (repeat with_reducible first | refine js ?_ | refine ja ?_ | refine jw KL63 [] TF63 fun _ => ?_)
    refine SemW_setW (by rw [cells166]; decide) (by rw [cells166]; rfl) h9.row (by rw [cells166]; rfl) rfl fun w10 r10 k10 s10 => ?_
    have r10 : Row w10 px 166 x.cs := r10
    have x10 : Ext w8 w10 := Keep.ext h9.ext k10 fun q hq => by omega
    (repeat with_reducible first | refine js ?_ | refine ja ?_ | refine jw KL63 [] TF63 fun _ => ?_)
    refine Run_lp ⟨Keep.of_ext x10, fun w11 k11 z11 => ?_⟩
    have r11 := r10.keep k11 (by omega)
    have c11 := (a3.ext x10).keep k11 (by omega)
    have p11 := (a2.ext x10).keep k11 (by omega)
    have e11 : Ext w w11 := Keep.ext (a1.trans x10) k11 fun q hq => by omega
    obtain ⟨q1, q2⟩ := row1 c11
    have g11 := r11.n
    simp only [TierD.cs, AtN, KS, Nat.reduceAdd, Nat.reduceMul, Nat.reduceEqDiff, ↓reduceIte, UT] at g11
    (repeat with_reducible first | refine js ?_ | refine ja ?_ | refine jw KL63 [] (aa TF63 (aa q1 (aa q2 g11))) fun _ => ?_)
    refine Run_condS (fun _ => rfl) (fun h => ?_) (fun h => ?_)
    · simp at h
      (repeat with_reducible first | refine js ?_ | refine ja ?_ | refine jw KL63 [] (aa TF63 g11) fun _ => ?_)
      refine SemW_set1 cells3 p11 rfl rfl fun w12 r12 k12 s12 => ?_
      have : x.Extra = Tf.extra f c := by
        have := extra_hit (c := c) (l := f.Tiers) (f.Tiers.length - 1 - j) hjl (fun i hi h => a4 i hi (by omega)) (by rw [hxx]; exact h)
        rw [hxx] at this; exact this.symm
      simp only [KS, Nat.reduceAdd, Nat.reduceMul, Nat.reduceEqDiff, ↓reduceIte, UT, this] at r12
      (repeat with_reducible first | refine js ?_ | refine ja ?_ | refine jw KL63 [] TF63 fun _ => ?_)
      exact Run_ret ⟨k12.mono fun k _ hk => by omega, rfl, Keep.ext e11 k12 fun k hk => by omega, r12⟩
    · simp at h
      (repeat with_reducible first | refine js ?_ | refine ja ?_ | refine jw KL63 [] TF63 fun _ => ?_)
      refine Run_nil ⟨Keep.refl _ _, e11, p11, c11, fun i hi hij => ?_⟩
      by_cases e : i = f.Tiers.length - 1 - j
      · subst e; rw [hxx]; omega
      · exact a4 i hi (by omega)
  · intro w8 ⟨a1, a2, a3, a4⟩ hd
    rw [backI_len] at a4
    (repeat with_reducible first | refine js ?_ | refine ja ?_ | refine jw KL63 [] TF63 fun _ => ?_)
    refine SemW_set1 cells3 a2 rfl rfl fun w9 r9 k9 s9 => ?_
    have hz8 : w4.heap.size < w8.heap.size := (Array.getElem?_eq_some_iff.1 hd).1
    have he0 : Tf.extra f c = 0 := by
      have := extra_back (c := c) (l := f.Tiers) 0 (by omega) fun i hi h => a4 i hi (by omega)
      simpa [Tf.extra, Tf.extraF] using this
    simp only [KS, Nat.reduceAdd, Nat.reduceMul, Nat.reduceEqDiff, ↓reduceIte, UT] at r9
    (repeat with_reducible first | refine js ?_ | refine ja ?_ | refine jw KL63 [] TF63 fun _ => ?_)
    refine Run_ret ?_
    simp only [Rets]
    refine RetM_one ((k9.block _ hz8 (by omega)).trans hd) fun w10 k10 _ => ?_
    simp only [resV]
    refine ⟨pr, _, rfl, loadVar_row rfl (r9.keep k10 (by omega)), ?_⟩
    simp only [oneOr]
    exact ⟨by rw [he0], Keep.ext (Keep.ext a1 k9 fun k hk => by omega) k10 fun k hk => by omega⟩
  · rintro e w8 ⟨rfl, a1, a2⟩ hd
    unfold xcode
    have hz8 : w4.heap.size < w8.heap.size := (Array.getElem?_eq_some_iff.1 hd).1
    refine Run_ret ?_
    simp only [Rets]
    refine RetM_one hd fun w10 k10 _ => ?_
    simp only [resV]
    refine ⟨pr, _, rfl, loadVar_row rfl (a2.keep k10 (by omega)), ?_⟩
    simp only [oneOr]
    exact ⟨trivial, Keep.ext a1 k10 fun k hk => by omega⟩
theorem intsL {w : World} {K : Value → World → Prop} (xs : List Int) {parts : Array (Nat × Value)} {n : Nat} (hp : parts.toList = (xs.map fun x => (Value.int .i64 x)).zipIdx.map fun p => (p.2, p.1)) (hn : n = xs.length) (hx : ∀ x ∈ xs, I64 x) (hs : n ≤ 1000)
    (hK : ∀ v w', Sl w' v xs → Ext w w' → K v w') : SemW Tryz.prog (Instr.buildSlice 25 n parts) w K :=
  SemW_lit (α := Int) Tryz.underlying25 ti3 rfl (by decide) (xs.map fun x => (Value.int .i64 x)) xs hp (by simpa using hn) (Cs.ints xs hx) (by show n * 1 ≤ _; omega) hK
theorem bufOld {α : Type} [Enc α] {e : TypeId} {W0 W w : World} {v : Value} {xs : List α} (h : BufL e W w v xs) (hx : Ext W0 W) : BufL e W0 w v xs := by
  obtain ⟨css, hc, hb⟩ := h.ex
  refine ⟨css, hc, ⟨?_, hx.trans hb.ext⟩⟩
  have h1 := hb.own
  have := hx.size
  refine ⟨h1.1, ?_⟩
  rcases h1.2 with h2 | ⟨g, cap, cur, h3, h4, h5⟩
  · exact .inl h2
  · exact .inr ⟨g, cap, cur, h3, by omega, h5⟩
def shares (f : TariffD) (c l k : Int) : List Int × Int × Int := if Tf.wrong f c l k ≠ 0 then ([], 0, Tf.wrong f c l k) else (List.replicate l.toNat (Tf.leg f c), Tf.base f c + Tf.extra f k, 0)
def ShaRet (w : World) (r : List Int × Int × Int) (e : Ending) (w' : World) : Prop := ∃ v, e = .returned (.tuple #[v, .int .i64 r.2.1, .int .i64 r.2.2]) ∧ BufL (α := Int) 3 w w' v r.1
theorem tfShares (f : TariffD) (u0 u1 u2 : Value) (c l k : Int) (w : World) (hT : TarR w f u0 u1 u2) :
    Calls Tryz.prog 26 #[.agg (f.cs u0 u1 u2).toArray, .int .i64 c, .int .i64 l, .int .i64 k] w (ShaRet w (shares f c l k)) := by
  have lb := hT.b.len
  have sb := hT.b.small
  refine Calls_of_Run (args := [.agg (f.cs u0 u1 u2).toArray, .int .i64 c, .int .i64 l, .int .i64 k]) (n := 58) (rs := [.tmp 8, .tmp 9, .tmp 10]) Tryz.func26 rfl rfl rfl (by simp) ?_
  (repeat with_reducible first | refine js ?_ | refine ja ?_ | refine jw KL26 [] TF26 fun _ => ?_)
  refine SemW_box fun pf w1 h1 => ?_
  have x1 := h1.ext
  have F : ∀ w', Ext w1 w' → AtN w' pf 0 (f.cs u0 u1 u2) := fun w' x => (h1.at_.ext x).n
  simp only [TariffD.cs, AtN, KS, Nat.reduceAdd, Nat.reduceMul, Nat.reduceEqDiff, ↓reduceIte, UT] at F
  have f1 := F w1 (Ext.refl _)
  (repeat with_reducible first | refine js ?_ | refine ja ?_ | refine jw KL26 [] (aa TF26 f1) fun _ => ?_)
  refine CallW_pure call60 (tfCheck f u0 u1 u2 w1 (hT.ext x1)) fun w2 x2 => ?_
  (repeat with_reducible first | refine js ?_ | refine ja ?_ | refine jw KL26 [] TF26 fun _ => ?_)
  refine Run_condS (fun _ => rfl) (fun h => ?_) (fun h => ?_)
  · have hc : Tf.chk f ≠ 0 := by simpa using h
    have hw : Tf.wrong f c l k = 210 := by unfold Tf.wrong; rw [if_pos hc]
    have hc2 : Tf.chk f = 210 := by
      unfold Tf.chk at hc ⊢
      split at hc
      · exact (hc rfl).elim
      · rename_i hh; rw [if_neg hh]
    (repeat with_reducible first | refine js ?_ | refine ja ?_ | refine jw KL26 [] TF26 fun _ => ?_)
    refine Run_ret ?_
    simp [Rets, RetM, resV, fnd, oneOr, ShaRet, shares, hw, hc2]
    exact BufL.nil (x1.trans x2)
  have hc : Tf.chk f = 0 := by simpa using h
  have ok := Tf.chk_ok hc
  have f2 := F w2 x2
  (repeat with_reducible first | refine js ?_ | refine ja ?_ | refine jw KL26 [] (aa TF26 (aa f2 (aa hT.b.s hT.b.len))) fun _ => ?_)
  refine Run_condS (fun _ => rfl) (fun h => ?_) (fun h => ?_)
  · have hw : Tf.wrong f c l k = 1 := by
      unfold Tf.wrong
      rw [if_neg (by simp [hc]), if_pos]
      simp at h; omega
    (repeat with_reducible first | refine js ?_ | refine ja ?_ | refine jw KL26 [] TF26 fun _ => ?_)
    refine Run_ret ?_
    simp [Rets, RetM, resV, fnd, oneOr, ShaRet, shares, hw]
    exact BufL.nil (x1.trans x2)
  have hin : (0 ≤ c ∧ c < f.Base.length) ∧ (1 ≤ l ∧ l ≤ 8) ∧ (1 ≤ k ∧ k ≤ 64) := by simp at h; omega
  clear h
  have hw : Tf.wrong f c l k = 0 := by
    unfold Tf.wrong
    rw [if_neg (by simp [hc]), if_neg (by omega)]
  have hcb : c.toNat < f.Base.length := by omega
  have hcl : c.toNat < f.Leg.length := by have := ok.n; omega
  have y2 := x1.trans x2
  obtain ⟨a1, a2, a3⟩ := (hT.b.ext y2).get hcb
  obtain ⟨b1, b2, b3⟩ := (hT.l.ext y2).get hcl
  have ebase : f.Base[c.toNat] = Tf.base f c := by unfold Tf.base; simp [List.getD_eq_getElem?_getD, hcb]
  have eleg : f.Leg[c.toNat] = Tf.leg f c := by unfold Tf.leg; simp [List.getD_eq_getElem?_getD, hcl]
  have bbd := Tf.base_bd hc c
  have lbd := Tf.leg_bd hc c
  have xbd := Tf.extra_bd hc k
  rw [ebase] at a1 a3
  rw [eleg] at b1 b3
  have ll := hT.l.len
  have hres : shares f c l k = (List.replicate l.toNat (Tf.leg f c), Tf.base f c + Tf.extra f k, 0) := by unfold shares; rw [if_neg (by simp [hw])]
  have A : ∀ w', Ext w2 w' → mem w' ((slAt u0).add c.toNat) = .int .i64 (Tf.base f c) ∧ has1 w' ((slAt u0).add c.toNat) := fun w' x => ⟨by rw [x.mem a2, a1], x.has1 a2⟩
  have B : ∀ w', Ext w2 w' → mem w' ((slAt u1).add c.toNat) = .int .i64 (Tf.leg f c) ∧ has1 w' ((slAt u1).add c.toNat) := fun w' x => ⟨by rw [x.mem b2, b1], x.has1 b2⟩
  (repeat with_reducible first | refine jq ?_ | refine jk ?_ | refine jc ?_ | refine jl ?_ | refine jb ?_ | refine jo ?_ | refine ji ?_ | refine jx rfl ?_)
  refine Run_ec (id := 6) KL26 (.first 0 (.first 1 (.first 2 (.first 3 (.first 4 (.first 6 (.first 8 (.first 9 (.first 10 (.first 11 (.first 12 (.first 13 (.first 14 (.alt 5 (.alt 7 (.alt 15 (.alt 16 (.alt 17 (.first 18 (.first 19 (.first 20 .done))) .stop) .stop) .stop) .stop) .stop)))))))))))))) mixed (by kernel_rfl) (by kernel_rfl) fun w3 x3 _ => ?_
  have f3 := F w3 (x2.trans x3)
  have A3 := A w3 x3
  have B3 := B w3 x3
  (try simp (maxSteps := 5000000) only [KS, Nat.reduceAdd, Nat.reduceMul, Nat.reduceEqDiff, ↓reduceIte, forall_const, Int.cast_ofNat_Int, Int.reduceToNat, List.take_succ_cons, List.take_zero, List.drop_succ_cons, List.drop_zero, TF26, KL26, ec, f3, A3, B3, hT.b.s, hT.b.len, hT.l.s, hT.l.len]); (try simp (disch := omega) only [wrapI, tmodI, tdivI])
  obtain ⟨ln, rfl⟩ : ∃ n : Nat, l = n := ⟨l.toNat, by omega⟩
  refine ⟨⟨by omega, by omega⟩, ⟨by omega, by omega⟩, Ext.refl _, ?_⟩
  refine intsL [Tf.leg f c] rfl rfl (by simp [I64]; omega) (by decide) fun va w4 s4 x4 => ⟨x4, ?_⟩
  refine CallW_gen call61 (slRepeat va (Tf.leg f c) ln (by omega) (by omega) w4 s4) fun e w5 ⟨vp, he, b5⟩ => ⟨_, he, ?_⟩
  have x5 := b5.ext0
  have y5 := y2.trans (x3.trans (x4.trans x5))
  refine ⟨x4.trans x5, ?_⟩
  refine CallW_pure call63 (tfExtra f u0 u1 u2 k w5 (hT.ext y5)) fun w6 x6 => ?_
  refine ⟨x4.trans (x5.trans x6), ?_⟩
  refine intsL [Tf.base f c, Tf.extra f k] rfl rfl (by simp [I64]; omega) (by decide) fun vb w7 s7 x7 => ⟨x4.trans (x5.trans (x6.trans x7)), ?_⟩
  refine sumW (n := Tf.base f c + Tf.extra f k) (by simp [Tt.sm]) s7 (by simp) (by simp; omega) fun w8 x8 => ⟨x4.trans (x5.trans (x6.trans (x7.trans x8))), ?_⟩
  have b8 := b5.ext (x6.trans (x7.trans x8))
  (repeat with_reducible first | refine js ?_ | refine ja ?_ | refine jw KL26 [] TF26 fun _ => ?_)
  refine Run_ret ?_
  simp [Rets, RetM, resV, fnd, oneOr, ShaRet, hres]
  exact bufOld b8 (y2.trans (x3.trans x4))
theorem tfPriceW (f : TariffD) (u0 u1 u2 : Value) (c l k : Int) (w : World) (hT : TarR w f u0 u1 u2) :
    Calls Tryz.prog 32 #[.agg (f.cs u0 u1 u2).toArray, .int .i64 c, .int .i64 l, .int .i64 k] w fun e w' => e = .returned (.tuple #[.int .i64 (Tf.pri f c l k).1, .int .i64 (Tf.pri f c l k).2]) ∧ Ext w w' := by
  refine Calls_of_Run (args := [.agg (f.cs u0 u1 u2).toArray, .int .i64 c, .int .i64 l, .int .i64 k]) (n := 27) (rs := [.tmp 8, .tmp 9]) Tryz.func32 rfl rfl rfl (by simp) ?_
  (repeat with_reducible first | refine js ?_ | refine ja ?_ | refine jw KL32 [] TF32 fun _ => ?_)
  refine SemW_box fun pf w1 h1 => ?_
  have x1 := h1.ext
  have f1 := h1.at_.n
  simp only [TariffD.cs, AtN, KS, Nat.reduceAdd, Nat.reduceMul, Nat.reduceEqDiff, ↓reduceIte, UT] at f1
  (repeat with_reducible first | refine js ?_ | refine ja ?_ | refine jw KL32 [] (aa TF32 f1) fun _ => ?_)
  refine CallW_gen call26 (tfShares f u0 u1 u2 c l k w1 (hT.ext x1)) fun e w2 ⟨vp, he, b2⟩ => ⟨_, he, ?_⟩
  have x2 := b2.ext0
  (repeat with_reducible first | refine js ?_ | refine ja ?_ | refine jw KL32 [] TF32 fun _ => ?_)
  have hr : I64 (shares f c l k).2.1 ∧ Tf.pri f c l k = (Tt.sm ((shares f c l k).1 ++ [(shares f c l k).2.1]), (shares f c l k).2.2) ∧ (shares f c l k).1.length ≤ 8 ∧ ∀ x ∈ (shares f c l k).1 ++ [(shares f c l k).2.1], -4194304 ≤ x ∧ x ≤ 4194304 := by
    unfold shares Tf.pri
    by_cases hw : Tf.wrong f c l k = 0
    · rw [if_neg (by simp [hw]), if_neg (by simp [hw])]
      have hc : Tf.chk f = 0 ∧ 1 ≤ l ∧ l ≤ 8 := by
        unfold Tf.wrong at hw
        split at hw
        · cases hw
        · rename_i h1
          split at hw
          · cases hw
          · exact ⟨by simpa using h1, by omega, by omega⟩
      have bbd := Tf.base_bd hc.1 c
      have lbd := Tf.leg_bd hc.1 c
      have xbd := Tf.extra_bd hc.1 k
      have hs : ∀ (n : Nat) (a b : Int), Tt.sm (List.replicate n a ++ [b]) = n * a + b := fun n a b => by
        induction n with
        | zero => simp [Tt.sm]
        | succ n ih => rw [List.replicate_succ, List.cons_append, Tt.sm, ih, Int.natCast_add, Int.add_mul]; simp; omega
      refine ⟨by simp only [I64]; omega, ?_, by simp; omega, fun x hx => ?_⟩
      · simp only
        rw [hs, Int.toNat_of_nonneg (by omega)]
        congr 1
        generalize l * Tf.leg f c = q
        omega
      · simp only [List.mem_append, List.mem_replicate, List.mem_singleton] at hx
        rcases hx with ⟨_, rfl⟩ | rfl <;> omega
    · rw [if_pos (by simpa using hw), if_pos (by simpa using hw)]
      exact ⟨by simp [I64], by simp [Tt.sm], by simp, by simp⟩
  obtain ⟨hr1, hr2, hr3, hr4⟩ := hr
  refine intsL [(shares f c l k).2.1] rfl rfl (by simpa using hr1) (by decide) fun va w3 s3 x3 => ?_
  refine SemW_appendF (α := Int) Tryz.underlying25 ti3 rfl (by decide) (b2.ext x3) s3 (by simp [maxLen]; omega) fun v4 w4 b4 _ x4 => ?_
  (repeat with_reducible first | refine js ?_ | refine ja ?_ | refine jw KL32 [] TF32 fun _ => ?_)
  refine sumW rfl (b4.sl (by simp; omega)) (by simp; omega) hr4 fun w5 x5 => ?_
  (repeat with_reducible first | refine js ?_ | refine ja ?_ | refine jw KL32 [] TF32 fun _ => ?_)
  refine Run_ret ?_
  simp [Rets, RetM, resV, fnd, oneOr, hr2]
  exact x1.trans (x4.trans x5)
theorem priceW {f : TariffD} {u0 u1 u2 : Value} {c l k : Int} {w : World} {K : Value → World → Prop} (hT : TarR w f u0 u1 u2) (hK : ∀ w', Ext w w' → K (.tuple #[.int .i64 (Tf.pri f c l k).1, .int .i64 (Tf.pri f c l k).2]) w') :
    CallW Tryz.prog (.func (.func 32) #[] #[]) [.agg #[u0, u1, u2], .int .i64 c, .int .i64 l, .int .i64 k] w K := CallW_pure call32 (tfPriceW f u0 u1 u2 c l k w hT) hK
abbrev trip (f : TariffD) (u0 u1 u2 : Value) (x : LineD) (l0 l1 l2 l3 : Value) (o : OrderD) (g : Value) (r : RunD) : List Value := f.cs u0 u1 u2 ++ x.cs l0 l1 l2 l3 ++ o.cs g ++ r.cs
structure TripR (w : World) (f : TariffD) (u0 u1 u2 : Value) (x : LineD) (l0 l1 l2 l3 : Value) (o : OrderD) (g : Value) (r : RunD) (n : Int) : Prop where
  t : TarR w f u0 u1 u2
  l : LineR w x l0 l1 l2 l3
  od : OrdR w o g
  k : Tt.LOk x n
  c : 0 ≤ o.Class
theorem TripR.ext {w w' : World} {f : TariffD} {u0 u1 u2 : Value} {x : LineD} {l0 l1 l2 l3 : Value} {o : OrderD} {g : Value} {r : RunD} {n : Int} (h : TripR w f u0 u1 u2 x l0 l1 l2 l3 o g r n) (hx : Ext w w') : TripR w' f u0 u1 u2 x l0 l1 l2 l3 o g r n := ⟨h.t.ext hx, h.l.ext hx, h.od.ext hx, h.k, h.c⟩
section
variable (f : TariffD) (u0 u1 u2 : Value) (x : LineD) (l0 l1 l2 l3 : Value) (o : OrderD) (g : Value) (r : RunD) (n : Int) (w : World) (h : TripR w f u0 u1 u2 x l0 l1 l2 l3 o g r n)
include h
theorem plC1 : Calls Tryz.prog 153 #[.agg (trip f u0 u1 u2 x l0 l1 l2 l3 o g r).toArray] w fun e w' => e = .returned (.bool (Pl.c0 x o)) ∧ Ext w w' := by
  have hc := h.c
  refine Calls_of_Run (args := [.agg (trip f u0 u1 u2 x l0 l1 l2 l3 o g r).toArray]) (n := 12) (rs := [.tmp 2]) Tryz.func153 rfl rfl rfl (by simp) ?_
  (repeat with_reducible first | refine js ?_ | refine ja ?_ | refine jw KL153 [] TF153 fun _ => ?_)
  refine SemW_box fun p w1 hN => ?_
  have g1 := hN.at_.n
  simp only [trip, TariffD.cs, LineD.cs, OrderD.cs, RunD.cs, AtN, KS, Nat.reduceAdd, Nat.reduceMul, Nat.reduceEqDiff, ↓reduceIte, UT] at g1
  (repeat with_reducible first | refine js ?_ | refine ja ?_ | refine jw KL153 [] (aa TF153 g1) fun _ => ?_)
  refine Run_ret ?_
  simp [Rets, RetM, resV, fnd, oneOr, hN.ext, Pl.c0]
  first | done | rfl
theorem plC2 : Calls Tryz.prog 154 #[.agg (trip f u0 u1 u2 x l0 l1 l2 l3 o g r).toArray] w fun e w' => e = .returned (.bool (Pl.c1 x o)) ∧ Ext w w' := by
  have h2 := h.k.o2
  have h9 := h.k.o9
  refine Calls_of_Run (args := [.agg (trip f u0 u1 u2 x l0 l1 l2 l3 o g r).toArray]) (n := 28) (rs := [.tmp 2]) Tryz.func154 rfl rfl rfl (by simp) ?_
  (repeat with_reducible first | refine js ?_ | refine ja ?_ | refine jw KL154 [1] TF154 fun _ => ?_)
  refine SemW_box fun p w1 hN => ?_
  have g1 := hN.at_.n
  simp only [trip, TariffD.cs, LineD.cs, OrderD.cs, RunD.cs, AtN, KS, Nat.reduceAdd, Nat.reduceMul, Nat.reduceEqDiff, ↓reduceIte, UT] at g1
  obtain ⟨a1, a2, a3⟩ := (h.l.o.ext hN.ext).get (i := 0) (by omega)
  obtain ⟨b1, b2, b3⟩ := (h.l.o.ext hN.ext).get (i := x.Offices.length - 1) (by omega)
  rw [add_zero] at a1 a2
  have e1 : ((x.Offices.length : Int) - 1).toNat = x.Offices.length - 1 := by omega
  have q0 : x.Offices[0]'(by omega) = x.Offices.getD 0 0 := by simp [List.getD_eq_getElem?_getD, show 0 < x.Offices.length by omega]
  have q1 : x.Offices[x.Offices.length - 1]'(by omega) = x.Offices.getD (x.Offices.length - 1) 0 := by simp [List.getD_eq_getElem?_getD, show x.Offices.length - 1 < x.Offices.length by omega]
  rw [q0] at a1
  rw [q1] at b1
  have ho := hN.ext
  (repeat with_reducible first | refine js ?_ | refine ja ?_ | refine jw KL154 [1] (aa TF154 (aa g1 (aa h.l.o.s (aa h.l.o.len (aa a1 (aa a2 (aa b1 (aa b2 e1)))))))) fun _ => ?_)
  intro w2 x2
  refine Run_ret ?_
  simp [Rets, RetM, resV, fnd, oneOr, Pl.c1]
  refine ⟨?_, ho.trans x2⟩
  rw [Bool.eq_iff_iff]; simp
omit h in
theorem plC3 : Calls Tryz.prog 155 #[.agg (trip f u0 u1 u2 x l0 l1 l2 l3 o g r).toArray] w fun e w' => e = .returned (.bool (Pl.c2 o r)) ∧ Ext w w' := by
  refine Calls_of_Run (args := [.agg (trip f u0 u1 u2 x l0 l1 l2 l3 o g r).toArray]) (n := 19) (rs := [.tmp 2]) Tryz.func155 rfl rfl rfl (by simp) ?_
  (repeat with_reducible first | refine js ?_ | refine ja ?_ | refine jw KL155 [] TF155 fun _ => ?_)
  refine SemW_box fun p w1 hN => ?_
  have g1 := hN.at_.n
  simp only [trip, TariffD.cs, LineD.cs, OrderD.cs, RunD.cs, AtN, KS, Nat.reduceAdd, Nat.reduceMul, Nat.reduceEqDiff, ↓reduceIte, UT] at g1
  (repeat with_reducible first | refine js ?_ | refine ja ?_ | refine jw KL155 [] (aa TF155 g1) fun _ => ?_)
  refine Run_ret ?_
  simp [Rets, RetM, resV, fnd, oneOr, hN.ext, Pl.c2]
theorem plC4 : Calls Tryz.prog 156 #[.agg (trip f u0 u1 u2 x l0 l1 l2 l3 o g r).toArray] w fun e w' => e = .returned (.bool (Pl.c3 f x o)) ∧ Ext w w' := by
  have h1 := h.k.l1
  have h9 := h.k.o9
  refine Calls_of_Run (args := [.agg (trip f u0 u1 u2 x l0 l1 l2 l3 o g r).toArray]) (n := 26) (rs := [.tmp 2]) Tryz.func156 rfl rfl rfl (by simp) ?_
  (repeat with_reducible first | refine js ?_ | refine ja ?_ | refine jw KL156 [] TF156 fun _ => ?_)
  refine SemW_box fun p w1 hN => ?_
  have g1 := hN.at_.n
  simp only [trip, TariffD.cs, LineD.cs, OrderD.cs, RunD.cs, AtN, KS, Nat.reduceAdd, Nat.reduceMul, Nat.reduceEqDiff, ↓reduceIte, UT] at g1
  (repeat with_reducible first | refine js ?_ | refine ja ?_ | refine jw KL156 [] (aa TF156 (aa g1 (aa h.l.l.s h.l.l.len))) fun _ => ?_)
  refine priceW (h.t.ext hN.ext) fun w2 x2 => ?_
  have g2 := (hN.at_.ext x2).n
  simp only [trip, TariffD.cs, LineD.cs, OrderD.cs, RunD.cs, AtN, KS, Nat.reduceAdd, Nat.reduceMul, Nat.reduceEqDiff, ↓reduceIte, UT] at g2
  (repeat with_reducible first | refine js ?_ | refine ja ?_ | refine jw KL156 [] (aa TF156 g2) fun _ => ?_)
  refine Run_ret ?_
  simp [Rets, RetM, resV, fnd, oneOr, Pl.c3]
  exact hN.ext.trans x2
omit h in
theorem plC5 : Calls Tryz.prog 157 #[.agg (trip f u0 u1 u2 x l0 l1 l2 l3 o g r).toArray] w fun e w' => e = .returned (.bool (Pl.c4 x o)) ∧ Ext w w' := by
  refine Calls_of_Run (args := [.agg (trip f u0 u1 u2 x l0 l1 l2 l3 o g r).toArray]) (n := 10) (rs := [.tmp 2]) Tryz.func157 rfl rfl rfl (by simp) ?_
  (repeat with_reducible first | refine js ?_ | refine ja ?_ | refine jw KL157 [] TF157 fun _ => ?_)
  refine SemW_box fun p w1 hN => ?_
  have g1 := hN.at_.n
  simp only [trip, TariffD.cs, LineD.cs, OrderD.cs, RunD.cs, AtN, KS, Nat.reduceAdd, Nat.reduceMul, Nat.reduceEqDiff, ↓reduceIte, UT] at g1
  (repeat with_reducible first | refine js ?_ | refine ja ?_ | refine jw KL157 [] (aa TF157 g1) fun _ => ?_)
  refine Run_ret ?_
  simp [Rets, RetM, resV, fnd, oneOr, hN.ext, Pl.c4]
end
theorem slIndex (v : Value) (xs : List Int) (n : Int) (w : World) (hx : Sl w v xs) : Calls Tryz.prog 187 #[v, .int .i64 n] w fun e w' => e = .returned (.int .i64 (idx n xs 0)) ∧ Ext w w' := by
  have hn := hx.small
  refine Calls_of_Run (args := [v, .int .i64 n]) (n := 19) (rs := [.tmp 4]) Tryz.func187 rfl rfl rfl (by simp) ?_
  (repeat with_reducible first | refine js ?_ | refine ja ?_ | refine jw KL187 [] (aa TF187 (aa hx.s hx.len)) fun _ => ?_)
  refine Run_loopV [4, 5, 8, 9, 16] (σ := Nat) (fun k => [(8, some (.int .i64 k))]) (fun k w' => k ≤ xs.length ∧ idx n xs 0 = idx n (xs.drop k) k ∧ Ext w w') (fun k => xs.length - k) 0 (by simp [SubB, fnd]) ⟨by omega, by simp, Ext.refl _⟩ ?_
  rintro k w1 ⟨hk, hf, x1⟩
  (repeat with_reducible first | refine js ?_ | refine ja ?_ | refine jw KL187 [] TF187 fun _ => ?_)
  refine Run_condS (fun _ => rfl) (fun h => ?_) (fun h => ?_)
  · simp at h
    have hkl := h
    obtain ⟨f1, f2, f3⟩ := (hx.ext x1).get hkl
    rw [idx_drop hkl] at hf
    (repeat with_reducible first | refine js ?_ | refine ja ?_ | refine jw KL187 [] (aa TF187 (aa hx.s (aa hx.len (aa f1 f2)))) fun _ => ?_)
    refine Run_condS (fun _ => rfl) (fun h => ?_) (fun h => ?_)
    · (repeat with_reducible first | refine js ?_ | refine ja ?_ | refine jw KL187 [] TF187 fun _ => ?_)
      refine Run_ret ?_
      have h' : n = xs[k] := by simpa using h
      rw [if_pos h'.symm] at hf
      simp [Rets, RetM, resV, fnd, oneOr, hf, x1]
    · have h' : ¬ n = xs[k] := by simpa using h
      rw [if_neg (fun e => h' e.symm)] at hf
      (repeat with_reducible first | refine js ?_ | refine ja ?_ | refine jw KL187 [] TF187 fun _ => ?_)
      refine Run_lp ⟨k + 1, ?_, ⟨by omega, hf, x1⟩, by omega⟩
      simp [SubB, fnd, strike, has]
  · simp at h
    obtain rfl : k = xs.length := by omega
    rw [List.drop_length] at hf
    (repeat with_reducible first | refine js ?_ | refine ja ?_ | refine jw KL187 [] TF187 fun _ => ?_)
    refine Run_ret ?_
    simp [Rets, RetM, resV, fnd, oneOr, hf, idx, x1]
theorem slContains (v : Value) (xs : List Int) (n : Int) (w : World) (hx : Sl w v xs) : Calls Tryz.prog 160 #[v, .int .i64 n] w fun e w' => e = .returned (.bool (xs.contains n)) ∧ Ext w w' := by
  refine Calls_of_Run (args := [v, .int .i64 n]) (n := 9) (rs := [.tmp 4]) Tryz.func160 rfl rfl rfl (by simp) ?_
  (repeat with_reducible first | refine js ?_ | refine ja ?_ | refine jw KL160 [] TF160 fun _ => ?_)
  refine CallW_pure call187 (slIndex v xs n w hx) fun w1 x1 => ?_
  (repeat with_reducible first | refine js ?_ | refine ja ?_ | refine jw KL160 [] TF160 fun _ => ?_)
  refine Run_ret ?_
  have := idx_mem (n := n) (xs := xs) (k := 0) (by omega)
  simp only [Rets, RetM, resV, fnd, oneOr, ↓reduceIte]
  exact ⟨_, rfl, by rw [← this], x1⟩
theorem plC61 (p : Addr) (n : Int) (f : TariffD) (u0 u1 u2 : Value) (x : LineD) (l0 l1 l2 l3 : Value) (o : OrderD) (g : Value) (r : RunD) (w : World) (ha : At w p (trip f u0 u1 u2 x l0 l1 l2 l3 o g r)) (hg : Sl w g o.Against) :
    Calls Tryz.prog 159 #[.int .i64 n, .pointer (some p)] w fun e w' => e = .returned (.bool (!o.Against.contains n)) ∧ Ext w w' := by
  have g1 := ha.n
  simp only [trip, TariffD.cs, LineD.cs, OrderD.cs, RunD.cs, AtN, KS, Nat.reduceAdd, Nat.reduceMul, Nat.reduceEqDiff, ↓reduceIte, UT] at g1
  refine Calls_of_Run (args := [.int .i64 n, .pointer (some p)]) (n := 10) (rs := [.tmp 3]) Tryz.func159 rfl rfl rfl (by simp) ?_
  (repeat with_reducible first | refine js ?_ | refine ja ?_ | refine jw KL159 [] (aa TF159 g1) fun _ => ?_)
  refine CallW_pure call160 (slContains g _ n w hg) fun w1 x1 => ?_
  (repeat with_reducible first | refine js ?_ | refine ja ?_ | refine jw KL159 [] TF159 fun _ => ?_)
  refine Run_ret ?_
  simp [Rets, RetM, resV, fnd, oneOr, x1]
theorem plC6 (f : TariffD) (u0 u1 u2 : Value) (x : LineD) (l0 l1 l2 l3 : Value) (o : OrderD) (g : Value) (r : RunD) (n : Int) (w : World) (h : TripR w f u0 u1 u2 x l0 l1 l2 l3 o g r n) :
    Calls Tryz.prog 158 #[.agg (trip f u0 u1 u2 x l0 l1 l2 l3 o g r).toArray] w fun e w' => e = .returned (.bool (Pl.c5 x o)) ∧ Ext w w' := by
  refine Calls_of_Run (args := [.agg (trip f u0 u1 u2 x l0 l1 l2 l3 o g r).toArray]) (n := 8) (rs := [.tmp 2]) Tryz.func158 rfl rfl rfl (by simp) ?_
  (repeat with_reducible first | refine js ?_ | refine ja ?_ | refine jw KL158 [] TF158 fun _ => ?_)
  refine SemW_box fun p w1 hN => ?_
  have g1 := hN.at_.n
  simp only [trip, TariffD.cs, LineD.cs, OrderD.cs, RunD.cs, AtN, KS, Nat.reduceAdd, Nat.reduceMul, Nat.reduceEqDiff, ↓reduceIte, UT] at g1
  have aN : At w1 p (trip f u0 u1 u2 x l0 l1 l2 l3 o g r) := by simpa [Value.cells] using hN.at_
  (repeat with_reducible first | refine js ?_ | refine ja ?_ | refine jw KL158 [] (aa TF158 g1) fun _ => ?_)
  have hh := hasInt l0 (.func (.func 159) #[] #[.pointer (some p)]) x.Offices (fun k => !o.Against.contains (x.Offices.getD k 0)) w1 (h.l.o.ext hN.ext) fun k hk w2 x2 => by
    have e : x.Offices.getD k 0 = x.Offices[k] := by simp [List.getD_eq_getElem?_getD, hk]
    rw [e]
    exact CallW_cap (cap := [.pointer (some p)]) call159 (plC61 p _ f u0 u1 u2 x l0 l1 l2 l3 o g r w2 (aN.ext x2) (h.od.g.ext (hN.ext.trans x2))) fun w3 x3 => ⟨rfl, x3⟩
  rw [anyN_list (q := fun n => !o.Against.contains n) fun k hk => by simp [List.getD_eq_getElem?_getD, hk]] at hh
  refine CallW_pure call126 hh fun w2 x2 => ?_
  (repeat with_reducible first | refine js ?_ | refine ja ?_ | refine jw KL158 [] TF158 fun _ => ?_)
  refine Run_ret ?_
  simp [Rets, RetM, resV, fnd, oneOr, Pl.c5]
  exact hN.ext.trans x2
def plConds : List Raw := [⟨fnv 153⟩, ⟨fnv 154⟩, ⟨fnv 155⟩, ⟨fnv 156⟩, ⟨fnv 157⟩, ⟨fnv 158⟩]
theorem plConditions (w : World) : Calls Tryz.prog 102 #[] w fun e w' => ∃ v, e = .returned v ∧ Ext w w' ∧ Sl w' v plConds := by
  refine Calls_of_Run (args := []) (n := 2) (rs := [.tmp 0]) Tryz.func102 rfl rfl rfl (by simp) ?_
  (repeat with_reducible first | refine js ?_ | refine ja ?_ | refine jw KL102 [] TF102 fun _ => ?_)
  refine SemW_buildSlice (vs := plConds.map Raw.v) Tryz.underlying156 ti157 rfl rfl rfl (by simp [plConds, Value.cells]) (by decide) fun p w1 hN => ?_
  (repeat with_reducible first | refine js ?_ | refine ja ?_ | refine jw KL102 [] TF102 fun _ => ?_)
  refine Run_ret ?_
  simp [Rets, RetM, resV, fnd, oneOr]
  exact ⟨hN.ext, Sl.flat (xs := plConds) hN (fun i hi => by
    have : i = 0 ∨ i = 1 ∨ i = 2 ∨ i = 3 ∨ i = 4 ∨ i = 5 := by simp [plConds] at hi; omega
    rcases this with rfl | rfl | rfl | rfl | rfl | rfl <;> rfl) (by decide)⟩
theorem idxTrip (vs fv : Value) (xs : List Raw) (p : Nat → Bool) (w : World) (hs : Sl w vs xs) (hp : ∀ k (hk : k < xs.length), Pred Tryz.prog fv [xs[k].v] w (p k)) :
    Calls Tryz.prog 152 #[vs, fv] w fun e w' => ∃ r, e = .returned (.int .i64 r) ∧ Ext w w' ∧ decide (0 ≤ r) = anyN xs.length p := by
  have hn := hs.small
  refine Calls_of_Run (args := [vs, fv]) (n := 19) (rs := [.tmp 4]) Tryz.func152 rfl rfl rfl (by simp) ?_
  (repeat with_reducible first | refine js ?_ | refine ja ?_ | refine jw KL152 [] (aa TF152 (aa hs.s hs.len)) fun _ => ?_)
  refine Run_loopV [4, 5, 8, 9, 16] (σ := Nat) (fun k => [(8, some (.int .i64 k))]) (fun k w' => k ≤ xs.length ∧ (∀ j, j < k → p j = false) ∧ Ext w w') (fun k => xs.length - k) 0 (by simp [SubB, fnd]) ⟨by omega, by simp, Ext.refl _⟩ ?_
  rintro k w1 ⟨hk, hf, x1⟩
  (repeat with_reducible first | refine js ?_ | refine ja ?_ | refine jw KL152 [] TF152 fun _ => ?_)
  refine Run_condS (fun _ => rfl) (fun h => ?_) (fun h => ?_)
  · simp at h
    obtain ⟨f1, f2⟩ := slRaw (hs.ext x1) h
    (repeat with_reducible first | refine js ?_ | refine ja ?_ | refine jw KL152 [] (aa TF152 (aa hs.s (aa hs.len (aa f1 f2)))) fun _ => ?_)
    refine (hp k h w1 x1).mono fun v w2 ⟨hv, x2⟩ => ?_
    subst hv
    (repeat with_reducible first | refine js ?_ | refine ja ?_ | refine jw KL152 [] TF152 fun _ => ?_)
    refine Run_condS (fun _ => rfl) (fun h => ?_) (fun h => ?_)
    · (repeat with_reducible first | refine js ?_ | refine ja ?_ | refine jw KL152 [] TF152 fun _ => ?_)
      refine Run_ret ?_
      simp [Rets, RetM, resV, fnd, oneOr, anyN_true (by assumption) (by assumption : p k = true)]
      exact x1.trans x2
    · (repeat with_reducible first | refine js ?_ | refine ja ?_ | refine jw KL152 [] TF152 fun _ => ?_)
      refine Run_lp ⟨k + 1, ?_, ⟨by omega, fun j hj => ?_, x1.trans x2⟩, by omega⟩
      · simp [SubB, fnd, strike, has]
      · by_cases e : j = k
        · subst e; assumption
        · exact hf j (by omega)
  · simp at h
    obtain rfl : k = xs.length := by omega
    (repeat with_reducible first | refine js ?_ | refine ja ?_ | refine jw KL152 [] TF152 fun _ => ?_)
    refine Run_ret ?_
    simp [Rets, RetM, resV, fnd, oneOr, anyN_false hf, x1]
theorem hasTrip (vs fv : Value) (xs : List Raw) (p : Nat → Bool) (w : World) (hs : Sl w vs xs) (hp : ∀ k (hk : k < xs.length), Pred Tryz.prog fv [xs[k].v] w (p k)) :
    Calls Tryz.prog 101 #[vs, fv] w fun e w' => e = .returned (.bool (anyN xs.length p)) ∧ Ext w w' := by
  refine Calls_of_Run (args := [vs, fv]) (n := 9) (rs := [.tmp 4]) Tryz.func101 rfl rfl rfl (by simp) ?_
  (repeat with_reducible first | refine js ?_ | refine ja ?_ | refine jw KL101 [] TF101 fun _ => ?_)
  refine CallW_gen call152 (idxTrip vs fv xs p w hs hp) fun e w1 ⟨r, he, x1, hr⟩ => ⟨_, he, ?_⟩
  (repeat with_reducible first | refine js ?_ | refine ja ?_ | refine jw KL101 [] TF101 fun _ => ?_)
  refine Run_ret ?_
  simp [Rets, RetM, resV, fnd, oneOr, x1]
  simpa using hr
theorem plFits1 (fv : Value) (b : Bool) (p : Addr) (f : TariffD) (u0 u1 u2 : Value) (x : LineD) (l0 l1 l2 l3 : Value) (o : OrderD) (g : Value) (r : RunD) (w : World) (ha : At w p (trip f u0 u1 u2 x l0 l1 l2 l3 o g r)) (hp : Pred Tryz.prog fv [.agg (trip f u0 u1 u2 x l0 l1 l2 l3 o g r).toArray] w b) :
    Calls Tryz.prog 103 #[fv, .pointer (some p)] w fun e w' => e = .returned (.bool (!b)) ∧ Ext w w' := by
  have g1 := ha.n
  simp only [trip, TariffD.cs, LineD.cs, OrderD.cs, RunD.cs, AtN, KS, Nat.reduceAdd, Nat.reduceMul, Nat.reduceEqDiff, ↓reduceIte, UT] at g1
  refine Calls_of_Run (args := [fv, .pointer (some p)]) (n := 8) (rs := [.tmp 3]) Tryz.func103 rfl rfl rfl (by simp) ?_
  (repeat with_reducible first | refine js ?_ | refine ja ?_ | refine jw KL103 [] (aa TF103 g1) fun _ => ?_)
  refine (hp w (Ext.refl w)).mono fun v w1 ⟨hv, x1⟩ => ?_
  subst hv
  (repeat with_reducible first | refine js ?_ | refine ja ?_ | refine jw KL103 [] TF103 fun _ => ?_)
  refine Run_ret ?_
  simp [Rets, RetM, resV, fnd, oneOr, x1]
def condP (f : TariffD) (x : LineD) (o : OrderD) (r : RunD) : Nat → Bool
  | 0 => Pl.c0 x o
  | 1 => Pl.c1 x o
  | 2 => Pl.c2 o r
  | 3 => Pl.c3 f x o
  | 4 => Pl.c4 x o
  | _ => Pl.c5 x o
theorem fits_eq (f : TariffD) (x : LineD) (o : OrderD) (r : RunD) : (Pl.c0 x o && Pl.c1 x o && Pl.c2 o r && Pl.c3 f x o && Pl.c4 x o && Pl.c5 x o) = !anyN 6 (fun k => !condP f x o r k) := by
  have : anyN 6 (fun k => !condP f x o r k) = (!Pl.c0 x o || (!Pl.c1 x o || (!Pl.c2 o r || (!Pl.c3 f x o || (!Pl.c4 x o || !Pl.c5 x o))))) := by simp [anyN, List.range, List.range.loop, condP]
  rw [this, Bool.eq_iff_iff]
  simp [and_assoc]
theorem predP (f : TariffD) (u0 u1 u2 : Value) (x : LineD) (l0 l1 l2 l3 : Value) (o : OrderD) (g : Value) (r : RunD) (n : Int) (w : World) (h : TripR w f u0 u1 u2 x l0 l1 l2 l3 o g r n) (k : Nat) (hk : k < plConds.length) :
    Pred Tryz.prog plConds[k].v [.agg (trip f u0 u1 u2 x l0 l1 l2 l3 o g r).toArray] w (condP f x o r k) := by
  have : k = 0 ∨ k = 1 ∨ k = 2 ∨ k = 3 ∨ k = 4 ∨ k = 5 := by simp [plConds] at hk; omega
  intro w1 x1
  rcases this with rfl | rfl | rfl | rfl | rfl | rfl
  · exact CallW_pure call153 (plC1 f u0 u1 u2 x l0 l1 l2 l3 o g r n w1 (h.ext x1)) fun w2 x2 => ⟨rfl, x2⟩
  · exact CallW_pure call154 (plC2 f u0 u1 u2 x l0 l1 l2 l3 o g r n w1 (h.ext x1)) fun w2 x2 => ⟨rfl, x2⟩
  · exact CallW_pure call155 (plC3 f u0 u1 u2 x l0 l1 l2 l3 o g r w1) fun w2 x2 => ⟨rfl, x2⟩
  · exact CallW_pure call156 (plC4 f u0 u1 u2 x l0 l1 l2 l3 o g r n w1 (h.ext x1)) fun w2 x2 => ⟨rfl, x2⟩
  · exact CallW_pure call157 (plC5 f u0 u1 u2 x l0 l1 l2 l3 o g r w1) fun w2 x2 => ⟨rfl, x2⟩
  · exact CallW_pure call158 (plC6 f u0 u1 u2 x l0 l1 l2 l3 o g r n w1 (h.ext x1)) fun w2 x2 => ⟨rfl, x2⟩
theorem plFits (vl : Value) (t : TimeD) (f : TariffD) (u0 u1 u2 : Value) (o : OrderD) (g : Value) (r : RunD) (w : World) (hl : Sl w vl t.Lines) (hT : TarR w f u0 u1 u2) (hO : OrdR w o g) (hr : 0 ≤ r.Line ∧ r.Line < t.Lines.length) (hk : Tt.LOk (Pl.lineR t r) t.Offices) (hc : 0 ≤ o.Class) :
    Calls Tryz.prog 56 #[.agg (t.cs vl).toArray, .agg (f.cs u0 u1 u2).toArray, .agg (o.cs g).toArray, .agg r.cs.toArray] w fun e w' => e = .returned (.bool (Pl.fits t f o r)) ∧ Ext w w' := by
  have hlen := hl.len
  refine Calls_of_Run (args := [.agg (t.cs vl).toArray, .agg (f.cs u0 u1 u2).toArray, .agg (o.cs g).toArray, .agg r.cs.toArray]) (n := 24) (rs := [.tmp 8]) Tryz.func56 rfl rfl rfl (by simp) ?_
  (repeat with_reducible first | refine js ?_ | refine ja ?_ | refine jw KL56 [] TF56 fun _ => ?_)
  refine SemW_box fun pt w1 h1 => SemW_box fun pf w2 h2 => SemW_box fun po w3 h3 => SemW_box fun pr w4 h4 => ?_
  have x4 := h1.ext.trans (h2.ext.trans (h3.ext.trans h4.ext))
  have T : ∀ w', Ext w4 w' → AtN w' pt 0 (t.cs vl) := fun w' x => (h1.at_.ext (h2.ext.trans (h3.ext.trans (h4.ext.trans x)))).n
  have F : ∀ w', Ext w4 w' → AtN w' pf 0 (f.cs u0 u1 u2) := fun w' x => (h2.at_.ext (h3.ext.trans (h4.ext.trans x))).n
  have O : ∀ w', Ext w4 w' → AtN w' po 0 (o.cs g) := fun w' x => (h3.at_.ext (h4.ext.trans x)).n
  have R : ∀ w', Ext w4 w' → AtN w' pr 0 r.cs := fun w' x => (h4.at_.ext x).n
  simp only [TimeD.cs, TariffD.cs, OrderD.cs, RunD.cs, AtN, KS, Nat.reduceAdd, Nat.reduceMul, Nat.reduceEqDiff, ↓reduceIte, UT] at T F O R
  have hlt : r.Line.toNat < t.Lines.length := by omega
  have hlo : Pl.lineR t r = t.Lines[r.Line.toNat] := by unfold Pl.lineR; simp [List.getD_eq_getElem?_getD, hlt]
  obtain ⟨l0, l1, l2, l3, e1, e2, hR⟩ := (hl.ext x4).line hlt
  have hone := hR.one
  have hres : Pl.fits t f o r = !anyN 6 (fun k => !condP f (Pl.lineR t r) o r k) := fits_eq f (Pl.lineR t r) o r
  rw [hlo] at hk hres
  generalize hxx : t.Lines[r.Line.toNat] = x at *
  (repeat with_reducible first | refine jq ?_ | refine jk ?_ | refine jc ?_ | refine jl ?_ | refine jb ?_ | refine jo ?_ | refine ji ?_ | refine jx rfl ?_)
  refine Run_ec (id := 1) KL56 (.first 0 (.first 1 (.first 2 (.first 3 (.first 4 (.first 5 (.first 6 (.first 7 (.first 8 (.alt 9 (.alt 10 (.alt 11 .done .stop) .stop) (.alt 10 (.alt 9 (.alt 11 .done .stop) .stop) .stop))))))))))) mixed (by kernel_rfl) (by kernel_rfl) fun w5 x5 _ => ?_
  have t5 := T w5 x5
  have f5 := F w5 x5
  have o5 := O w5 x5
  have r5 := R w5 x5
  have e5 := (e2.ext x5).n
  simp only [LineD.cs, AtN, KS, Nat.reduceAdd, Nat.reduceMul, Nat.reduceEqDiff, ↓reduceIte, UT] at e5
  (try simp (maxSteps := 5000000) only [KS, Nat.reduceAdd, Nat.reduceMul, Nat.reduceEqDiff, ↓reduceIte, forall_const, Int.cast_ofNat_Int, Int.reduceToNat, List.take_succ_cons, List.take_zero, List.drop_succ_cons, List.drop_zero, TF56, KL56, ec, t5, f5, o5, r5, e5, hl.s, hl.len]); (try simp (disch := omega) only [wrapI, tmodI, tdivI])
  have Hx : ∀ cs, cs = trip f u0 u1 u2 x l0 l1 l2 l3 o g r → cs.all Value.oneCell' = true := fun cs e => by
    subst e
    have q0 := isS_o hT.b.s
    have q1 := isS_o hT.l.s
    have q2 := isS_o hT.t.s
    have q3 := hO.one
    simp only [trip, List.all_append, hone, q3, TariffD.cs, List.all_cons, List.all_nil, q0, q1, q2]; rfl
  refine ⟨by omega, Ext.refl _, ⟨.agg (trip f u0 u1 u2 x l0 l1 l2 l3 o g r).toArray, fun _ => by kernel_rfl, Ext.refl _, SemW_allocT ti154 fun px w6 h6 => ⟨h6.ext, ?_⟩⟩, Ext.refl _, SemW_allocT ti154 fun px w6 h6 => ⟨h6.ext, .agg (trip f u0 u1 u2 x l0 l1 l2 l3 o g r).toArray, fun _ => by kernel_rfl, h6.ext, ?_⟩⟩
  all_goals
    have b6 := h6.blk
    refine SemW_setW (by rw [cells154]; decide) (by rw [cells154]; rfl) h6.row (by rw [cells154]; rfl) (Hx _ rfl) fun w7 r7 k7 z7 => ?_
    have r7 : Row w7 px 154 (trip f u0 u1 u2 x l0 l1 l2 l3 o g r) := r7
    have x7 : Ext w5 w7 := Keep.ext h6.ext k7 fun q hq => by omega
    refine ⟨x7, ?_⟩
    have y7 := x4.trans (x5.trans x7)
    have tr : TripR w7 f u0 u1 u2 x l0 l1 l2 l3 o g r t.Offices := ⟨hT.ext y7, hR.ext (x5.trans x7), hO.ext y7, hk, hc⟩
    (repeat with_reducible first | refine js ?_ | refine ja ?_ | refine jw KL56 [] TF56 fun _ => ?_)
    refine CallW_gen call102 (plConditions w7) fun e w8 ⟨vc, he, x8, sc⟩ => ⟨_, he, ?_⟩
    (repeat with_reducible first | refine js ?_ | refine ja ?_ | refine jw KL56 [] TF56 fun _ => ?_)
    refine CallW_pure call101 (hasTrip vc _ plConds (fun k => !condP f x o r k) w8 sc fun k hk w9 x9 => ?_) fun w9 x9 => ?_
    · exact CallW_cap (cap := [.pointer (some px)]) call103 (plFits1 _ (condP f x o r k) px f u0 u1 u2 x l0 l1 l2 l3 o g r w9 (r7.at_.ext (x8.trans x9)) (predP f u0 u1 u2 x l0 l1 l2 l3 o g r t.Offices w9 (tr.ext (x8.trans x9)) k hk)) fun w10 x10 => ⟨rfl, x10⟩
    (repeat with_reducible first | refine js ?_ | refine ja ?_ | refine jw KL56 [] TF56 fun _ => ?_)
    refine Run_ret ?_
    simp only [Rets, RetM, resV, fnd, oneOr, ↓reduceIte]
    exact ⟨_, rfl, by rw [hres]; rfl, y7.trans (x8.trans x9)⟩
theorem idxOrd (vs fv : Value) (xs : List OrderD) (p : Nat → Bool) (w : World) (hs : Sl w vs xs) (hp : ∀ k (hk : k < xs.length) (g : Value) (w1 : World), Ext w w1 → OrdR w1 xs[k] g → CallW Tryz.prog fv [.agg (xs[k].cs g).toArray] w1 fun v w2 => v = .bool (p k) ∧ Ext w1 w2) :
    Calls Tryz.prog 148 #[vs, fv] w fun e w' => ∃ r, e = .returned (.int .i64 r) ∧ Ext w w' ∧ decide (0 ≤ r) = anyN xs.length p := by
  have hn := hs.small
  refine Calls_of_Run (args := [vs, fv]) (n := 19) (rs := [.tmp 4]) Tryz.func148 rfl rfl rfl (by simp) ?_
  (repeat with_reducible first | refine js ?_ | refine ja ?_ | refine jw KL148 [] (aa TF148 (aa hs.s hs.len)) fun _ => ?_)
  refine Run_loopV [4, 5, 8, 9, 16] (σ := Nat) (fun k => [(8, some (.int .i64 k))]) (fun k w' => k ≤ xs.length ∧ (∀ j, j < k → p j = false) ∧ Ext w w') (fun k => xs.length - k) 0 (by simp [SubB, fnd]) ⟨by omega, by simp, Ext.refl _⟩ ?_
  rintro k w1 ⟨hk, hf, x1⟩
  (repeat with_reducible first | refine js ?_ | refine ja ?_ | refine jw KL148 [] TF148 fun _ => ?_)
  refine Run_condS (fun _ => rfl) (fun h => ?_) (fun h => ?_)
  · simp at h
    obtain ⟨g, f1, f2, hO⟩ := (hs.ext x1).ord h
    have hpk := hp k h g w1 x1 hO
    generalize hxx : xs[k] = o at *
    simp only [OrderD.cs, AtN, KS, Nat.reduceAdd, Nat.reduceMul, Nat.reduceEqDiff, ↓reduceIte, UT] at f1
    (repeat with_reducible first | refine js ?_ | refine ja ?_ | refine jw KL148 [] (aa TF148 (aa hs.s (aa hs.len f1))) fun _ => ?_)
    refine hpk.mono fun v w2 ⟨hv, x2⟩ => ?_
    subst hv
    have hkl := h
    (repeat with_reducible first | refine js ?_ | refine ja ?_ | refine jw KL148 [] TF148 fun _ => ?_)
    refine Run_condS (fun _ => rfl) (fun h => ?_) (fun h => ?_)
    · (repeat with_reducible first | refine js ?_ | refine ja ?_ | refine jw KL148 [] TF148 fun _ => ?_)
      refine Run_ret ?_
      simp [Rets, RetM, resV, fnd, oneOr, anyN_true hkl (by assumption : p k = true)]
      exact x1.trans x2
    · have hpk := h
      (repeat with_reducible first | refine js ?_ | refine ja ?_ | refine jw KL148 [] TF148 fun _ => ?_)
      refine Run_lp ⟨k + 1, ?_, ⟨by omega, fun j hj => ?_, x1.trans x2⟩, by omega⟩
      · simp [SubB, fnd, strike, has]
      · by_cases e : j = k
        · subst e; exact hpk
        · exact hf j (by omega)
  · simp at h
    obtain rfl : k = xs.length := by omega
    (repeat with_reducible first | refine js ?_ | refine ja ?_ | refine jw KL148 [] TF148 fun _ => ?_)
    refine Run_ret ?_
    simp [Rets, RetM, resV, fnd, oneOr, anyN_false hf, x1]
theorem hasOrd (vs fv : Value) (xs : List OrderD) (p : Nat → Bool) (w : World) (hs : Sl w vs xs) (hp : ∀ k (hk : k < xs.length) (g : Value) (w1 : World), Ext w w1 → OrdR w1 xs[k] g → CallW Tryz.prog fv [.agg (xs[k].cs g).toArray] w1 fun v w2 => v = .bool (p k) ∧ Ext w1 w2) :
    Calls Tryz.prog 97 #[vs, fv] w fun e w' => e = .returned (.bool (anyN xs.length p)) ∧ Ext w w' := by
  refine Calls_of_Run (args := [vs, fv]) (n := 9) (rs := [.tmp 4]) Tryz.func97 rfl rfl rfl (by simp) ?_
  (repeat with_reducible first | refine js ?_ | refine ja ?_ | refine jw KL97 [] TF97 fun _ => ?_)
  refine CallW_gen call148 (idxOrd vs fv xs p w hs hp) fun e w1 ⟨r, he, x1, hr⟩ => ⟨_, he, ?_⟩
  (repeat with_reducible first | refine js ?_ | refine ja ?_ | refine jw KL97 [] TF97 fun _ => ?_)
  refine Run_ret ?_
  simp [Rets, RetM, resV, fnd, oneOr, x1]
  simpa using hr
theorem anyN_gen {α : Type} [Inhabited α] (l : List α) (q : α → Bool) : anyN l.length (fun k => q (l.getD k default)) = l.any q := by
  rw [Bool.eq_iff_iff]
  simp only [anyN, List.any_eq_true, List.mem_range]
  constructor
  · rintro ⟨k, hk, h⟩
    have e : l.getD k default = l[k] := by simp [List.getD_eq_getElem?_getD, hk]
    rw [e] at h
    exact ⟨_, List.getElem_mem hk, h⟩
  · rintro ⟨x, hx, h⟩
    obtain ⟨k, hk, rfl⟩ := List.getElem_of_mem hx
    exact ⟨k, hk, by simpa [List.getD_eq_getElem?_getD, hk] using h⟩
theorem plCheck1 (o : OrderD) (g : Value) (pt pf : Addr) (vl : Value) (t : TimeD) (f : TariffD) (u0 u1 u2 : Value) (w : World) (hO : OrdR w o g) (ht : At w pt (t.cs vl)) (hf : At w pf (f.cs u0 u1 u2)) (hT : TarR w f u0 u1 u2) :
    Calls Tryz.prog 95 #[.agg (o.cs g).toArray, .pointer (some pt), .pointer (some pf)] w fun e w' => e = .returned (.bool (!Pl.oright o t.Offices 1024 f.Base.length)) ∧ Ext w w' := by
  refine Calls_of_Run (args := [.agg (o.cs g).toArray, .pointer (some pt), .pointer (some pf)]) (n := 13) (rs := [.tmp 4]) Tryz.func95 rfl rfl rfl (by simp) ?_
  (repeat with_reducible first | refine js ?_ | refine ja ?_ | refine jw KL95 [] TF95 fun _ => ?_)
  refine SemW_box fun po w1 h1 => ?_
  have x1 := h1.ext
  have o1 := h1.at_.n
  have t1 := (ht.ext x1).n
  have f1 := (hf.ext x1).n
  simp only [OrderD.cs, TimeD.cs, TariffD.cs, AtN, KS, Nat.reduceAdd, Nat.reduceMul, Nat.reduceEqDiff, ↓reduceIte, UT] at o1 t1 f1
  (repeat with_reducible first | refine js ?_ | refine ja ?_ | refine jw KL95 [] (aa TF95 (aa o1 (aa t1 (aa f1 (aa hT.b.s hT.b.len))))) fun _ => ?_)
  refine CallW_pure call96 (ordRight o g t.Offices 1024 f.Base.length w1 (hO.ext x1)) fun w2 x2 => ?_
  (repeat with_reducible first | refine js ?_ | refine ja ?_ | refine jw KL95 [] TF95 fun _ => ?_)
  refine Run_ret ?_
  simp [Rets, RetM, resV, fnd, oneOr]
  exact x1.trans x2
theorem plCheck (vl u0 u1 u2 vo : Value) (t : TimeD) (f : TariffD) (l : List OrderD) (w : World) (hl : Sl w vl t.Lines) (hT : TarR w f u0 u1 u2) (ho : Sl w vo l) :
    Calls Tryz.prog 53 #[.agg (t.cs vl).toArray, .agg (f.cs u0 u1 u2).toArray, vo] w fun e w' => e = .returned (.int .i64 (Pl.err t f l)) ∧ Ext w w' := by
  have hn := ho.small
  have hol := ho.len
  refine Calls_of_Run (args := [.agg (t.cs vl).toArray, .agg (f.cs u0 u1 u2).toArray, vo]) (n := 29) (rs := [.tmp 6]) Tryz.func53 rfl rfl rfl (by simp) ?_
  (repeat with_reducible first | refine js ?_ | refine ja ?_ | refine jw KL53 [] TF53 fun _ => ?_)
  refine SemW_box fun pt w1 h1 => SemW_box fun pf w2 h2 => ?_
  have x2 := h1.ext.trans h2.ext
  have T : ∀ w', Ext w2 w' → AtN w' pt 0 (t.cs vl) := fun w' x => (h1.at_.ext (h2.ext.trans x)).n
  have F : ∀ w', Ext w2 w' → AtN w' pf 0 (f.cs u0 u1 u2) := fun w' x => (h2.at_.ext x).n
  have aT := h1.at_.ext h2.ext
  have aF := h2.at_
  simp only [TimeD.cs, TariffD.cs, AtN, KS, Nat.reduceAdd, Nat.reduceMul, Nat.reduceEqDiff, ↓reduceIte, UT] at T F
  have t2 := T w2 (Ext.refl _)
  (repeat with_reducible first | refine js ?_ | refine ja ?_ | refine jw KL53 [] (aa TF53 t2) fun _ => ?_)
  refine chkW rfl (hl.ext x2) fun w3 x3 => ?_
  have y3 := x2.trans x3
  (repeat with_reducible first | refine js ?_ | refine ja ?_ | refine jw KL53 [] TF53 fun _ => ?_)
  refine Run_condS (fun _ => rfl) (fun h => ?_) (fun h => ?_)
  · have hc : Tt.chk t ≠ 0 := by simpa using h
    (repeat with_reducible first | refine js ?_ | refine ja ?_ | refine jw KL53 [] TF53 fun _ => ?_)
    refine Run_ret ?_
    have : Pl.err t f l = Tt.chk t := by unfold Pl.err; rw [if_pos hc]
    simp [Rets, RetM, resV, fnd, oneOr, this, y3]
  have hc : Tt.chk t = 0 := by simpa using h
  clear h
  have f3 := F w3 x3
  (repeat with_reducible first | refine js ?_ | refine ja ?_ | refine jw KL53 [] (aa TF53 f3) fun _ => ?_)
  refine CallW_pure call60 (tfCheck f u0 u1 u2 w3 (hT.ext y3)) fun w4 x4 => ?_
  have y4 := y3.trans x4
  (repeat with_reducible first | refine js ?_ | refine ja ?_ | refine jw KL53 [] TF53 fun _ => ?_)
  refine Run_condS (fun _ => rfl) (fun h => ?_) (fun h => ?_)
  · have hc2 : Tf.chk f ≠ 0 := by simpa using h
    (repeat with_reducible first | refine js ?_ | refine ja ?_ | refine jw KL53 [] TF53 fun _ => ?_)
    refine Run_ret ?_
    have : Pl.err t f l = Tf.chk f := by unfold Pl.err; rw [if_neg (by simp [hc]), if_pos hc2]
    simp [Rets, RetM, resV, fnd, oneOr, this, y4]
  have hc2 : Tf.chk f = 0 := by simpa using h
  clear h
  have hres : Pl.err t f l = if 64 < l.length then 220 else if l.all (fun o => Pl.oright o t.Offices 1024 f.Base.length) then 0 else 220 := by
    unfold Pl.err; rw [if_neg (by simp [hc]), if_neg (by simp [hc2])]
  (repeat with_reducible first | refine js ?_ | refine ja ?_ | refine jw KL53 [] (aa TF53 (aa ho.s ho.len)) fun _ => ?_)
  have hall : anyN l.length (fun k => !Pl.oright (l.getD k default) t.Offices 1024 f.Base.length) = !l.all (fun o => Pl.oright o t.Offices 1024 f.Base.length) := by
    rw [anyN_gen l (fun o => !Pl.oright o t.Offices 1024 f.Base.length), Bool.eq_iff_iff]; simp
  refine .inr ⟨.bool (anyN l.length fun k => !Pl.oright (l.getD k default) t.Offices 1024 f.Base.length), fun _ => PC_pure call97 fun w5 x5 => ?_, fun w5 x5 => ?_⟩
  · refine hasOrd vo _ l (fun k => !Pl.oright (l.getD k default) t.Offices 1024 f.Base.length) w5 (ho.ext (y4.trans x5)) fun k hk g w6 x6 hO => ?_
    have e : l.getD k default = l[k] := by simp [List.getD_eq_getElem?_getD, hk]
    rw [e]
    have z6 := x3.trans (x4.trans (x5.trans x6))
    exact CallW_cap (cap := [.pointer (some pt), .pointer (some pf)]) call95 (plCheck1 l[k] g pt pf vl t f u0 u1 u2 w6 hO (aT.ext z6) (aF.ext z6) (hT.ext (x2.trans z6))) fun w7 x7 => ⟨rfl, x7⟩
  unfold hush
  rw [hall]
  (repeat with_reducible first | refine js ?_ | refine ja ?_ | refine jw KL53 [] (aa TF53 KX) fun _ => ?_)
  have y5 := y4.trans x5
  refine Run_condS (fun _ => rfl) (fun h => ?_) (fun h => ?_)
  · (repeat with_reducible first | refine js ?_ | refine ja ?_ | refine jw KL53 [] TF53 fun _ => ?_)
    refine Run_ret ?_
    have : Pl.err t f l = 220 := by
      rw [hres]
      split
      · rfl
      · rename_i h64
        rw [if_neg]
        intro ha
        rw [ha] at h
        simp at h; omega
    simp [Rets, RetM, resV, fnd, oneOr, this, y5]
  · (repeat with_reducible first | refine js ?_ | refine ja ?_ | refine jw KL53 [] TF53 fun _ => ?_)
    refine Run_ret ?_
    have : Pl.err t f l = 0 := by
      rw [hres]
      simp only [Bool.or_eq_false_iff, decide_eq_false_iff_not, Bool.not_eq_false'] at h
      rw [if_neg (by omega), if_pos h.2]
    simp [Rets, RetM, resV, fnd, oneOr, this, y5]
theorem plerrW {vl u0 u1 u2 vo : Value} {t : TimeD} {f : TariffD} {l : List OrderD} {w : World} {K : Value → World → Prop} (hl : Sl w vl t.Lines) (hT : TarR w f u0 u1 u2) (ho : Sl w vo l) (hK : ∀ w', Ext w w' → K (.int .i64 (Pl.err t f l)) w') :
    CallW Tryz.prog (.func (.func 53) #[] #[]) [.agg #[.int .i64 t.Offices, vl], .agg #[u0, u1, u2], vo] w K := CallW_pure call53 (plCheck vl u0 u1 u2 vo t f l w hl hT ho) hK
def cmp3 (a b : Int) : Int := if a < b then -1 else if b < a then 1 else 0
theorem isNaN (a : Int) (w : World) : Calls Tryz.prog 151 #[.int .i64 a] w fun e w' => e = .returned (.bool false) ∧ Ext w w' := by
  refine Calls_of_Run (args := [.int .i64 a]) (n := 6) (rs := [.tmp 2]) Tryz.func151 rfl rfl rfl (by simp) ?_
  (repeat with_reducible first | refine js ?_ | refine ja ?_ | refine jw KL151 [] TF151 fun _ => ?_)
  refine Run_ret ?_
  simp [Rets, RetM, resV, fnd, oneOr, Ext.refl]
theorem cmpCompare (a b : Int) (w : World) : Calls Tryz.prog 100 #[.int .i64 a, .int .i64 b] w fun e w' => e = .returned (.int .i64 (cmp3 a b)) ∧ Ext w w' := by
  refine Calls_of_Run (args := [.int .i64 a, .int .i64 b]) (n := 20) (rs := [.tmp 4]) Tryz.func100 rfl rfl rfl (by simp) ?_
  (repeat with_reducible first | refine js ?_ | refine ja ?_ | refine jw KL100 [] TF100 fun _ => ?_)
  refine CallW_pure call151 (isNaN a w) fun w1 x1 => ?_
  (repeat with_reducible first | refine js ?_ | refine ja ?_ | refine jw KL100 [] TF100 fun _ => ?_)
  refine CallW_pure call151 (isNaN b w1) fun w2 x2 => ?_
  (repeat with_reducible first | refine js ?_ | refine ja ?_ | refine jw KL100 [] TF100 fun _ => ?_)
  refine Run_condS (fun _ => rfl) (fun h => by cases h) (fun _ => ?_)
  (repeat with_reducible first | refine js ?_ | refine ja ?_ | refine jw KL100 [] TF100 fun _ => ?_)
  refine Run_condS (fun _ => rfl) (fun h => by cases h) (fun _ => ?_)
  (repeat with_reducible first | refine js ?_ | refine ja ?_ | refine jw KL100 [] TF100 fun _ => ?_)
  have y2 := x1.trans x2
  refine Run_condS (fun _ => rfl) (fun h => ?_) (fun h => ?_)
  · simp at h
    (repeat with_reducible first | refine js ?_ | refine ja ?_ | refine jw KL100 [] TF100 fun _ => ?_)
    refine Run_ret ?_
    have : cmp3 a b = -1 := by unfold cmp3; rw [if_pos h]
    simp [Rets, RetM, resV, fnd, oneOr, this, y2]
  simp at h
  (repeat with_reducible first | refine js ?_ | refine ja ?_ | refine jw KL100 [] TF100 fun _ => ?_)
  refine Run_condS (fun _ => rfl) (fun h2 => ?_) (fun h2 => ?_)
  · simp at h2
    (repeat with_reducible first | refine js ?_ | refine ja ?_ | refine jw KL100 [] TF100 fun _ => ?_)
    refine Run_ret ?_
    have : cmp3 a b = 1 := by unfold cmp3; rw [if_neg (by omega), if_pos h2]
    simp [Rets, RetM, resV, fnd, oneOr, this, y2]
  · simp at h2
    (repeat with_reducible first | refine js ?_ | refine ja ?_ | refine jw KL100 [] TF100 fun _ => ?_)
    refine Run_ret ?_
    have : cmp3 a b = 0 := by unfold cmp3; rw [if_neg (by omega), if_neg (by omega)]
    simp [Rets, RetM, resV, fnd, oneOr, this, y2]
def orF : List Int → Int
  | [] => 0
  | x :: r => if x ≠ 0 then x else orF r
theorem orF_drop {l : List Int} {k : Nat} (h : k < l.length) : orF (l.drop k) = if l[k] ≠ 0 then l[k] else orF (l.drop (k + 1)) := by
  rw [List.drop_eq_getElem_cons h]; rfl
theorem cmpOr (v : Value) (l : List Int) (w : World) (hx : Sl w v l) : Calls Tryz.prog 99 #[v] w fun e w' => e = .returned (.int .i64 (orF l)) ∧ Ext w w' := by
  have hn := hx.small
  refine Calls_of_Run (args := [v]) (n := 18) (rs := [.tmp 2]) Tryz.func99 rfl rfl rfl (by simp) ?_
  (repeat with_reducible first | refine js ?_ | refine ja ?_ | refine jw KL99 [] (aa TF99 (aa hx.s hx.len)) fun _ => ?_)
  refine Run_loopV [2, 5, 8, 9, 14] (σ := Nat) (fun k => [(8, some (.int .i64 k))]) (fun k w' => k ≤ l.length ∧ orF l = orF (l.drop k) ∧ Ext w w') (fun k => l.length - k) 0 (by simp [SubB, fnd]) ⟨by omega, by simp, Ext.refl _⟩ ?_
  rintro k w1 ⟨hk, hf, x1⟩
  (repeat with_reducible first | refine js ?_ | refine ja ?_ | refine jw KL99 [] TF99 fun _ => ?_)
  refine Run_condS (fun _ => rfl) (fun h => ?_) (fun h => ?_)
  · simp at h
    have hkl := h
    obtain ⟨f1, f2, f3⟩ := (hx.ext x1).get h
    rw [orF_drop h] at hf
    (repeat with_reducible first | refine js ?_ | refine ja ?_ | refine jw KL99 [] (aa TF99 (aa hx.s (aa hx.len (aa f1 f2)))) fun _ => ?_)
    refine Run_condS (fun _ => rfl) (fun h => ?_) (fun h => ?_)
    · (repeat with_reducible first | refine js ?_ | refine ja ?_ | refine jw KL99 [] TF99 fun _ => ?_)
      refine Run_ret ?_
      rw [if_pos (by simpa using h)] at hf
      simp [Rets, RetM, resV, fnd, oneOr, hf, x1]
    · rw [if_neg (by simpa using h)] at hf
      (repeat with_reducible first | refine js ?_ | refine ja ?_ | refine jw KL99 [] TF99 fun _ => ?_)
      refine Run_lp ⟨k + 1, ?_, ⟨by omega, hf, x1⟩, by omega⟩
      simp [SubB, fnd, strike, has]
  · simp at h
    obtain rfl : k = l.length := by omega
    rw [List.drop_length] at hf
    (repeat with_reducible first | refine js ?_ | refine ja ?_ | refine jw KL99 [] TF99 fun _ => ?_)
    refine Run_ret ?_
    simp [Rets, RetM, resV, fnd, oneOr, hf, orF, x1]
def cmpR (a b : RunD) : Int := orF [cmp3 a.At b.At, cmp3 a.Line b.Line]
theorem cmpR_before (a b : RunD) : decide (0 ≤ cmpR a b) = !Tt.before a b := by
  rw [Bool.eq_iff_iff]
  simp only [decide_eq_true_eq, Bool.not_eq_true', Tt.before, decide_eq_false_iff_not]
  simp only [cmpR, orF, cmp3]
  by_cases h1 : a.At < b.At
  · simp [h1]
  · by_cases h2 : b.At < a.At
    · simp [h1, h2]; omega
    · by_cases h3 : a.Line < b.Line
      · simp [h1, h2, h3]; omega
      · by_cases h4 : b.Line < a.Line
        · simp [h1, h2, h3, h4]
        · simp [h1, h2, h3, h4]
theorem cmp3_in (a b : Int) : -1 ≤ cmp3 a b ∧ cmp3 a b ≤ 1 := by unfold cmp3; split <;> (try split) <;> omega
theorem plCompare (a b : RunD) (w : World) : Calls Tryz.prog 55 #[.agg a.cs.toArray, .agg b.cs.toArray] w fun e w' => e = .returned (.int .i64 (cmpR a b)) ∧ Ext w w' := by
  refine Calls_of_Run (args := [.agg a.cs.toArray, .agg b.cs.toArray]) (n := 17) (rs := [.tmp 4]) Tryz.func55 rfl rfl rfl (by simp) ?_
  (repeat with_reducible first | refine js ?_ | refine ja ?_ | (refine jT (id := 1) KL55 9 mixed (by kernel_rfl) (by kernel_rfl) (by kernel_rfl) fun _ => ?_; refine jw KL55 [] TF55 fun _ => ?_) | refine jw KL55 [] TF55 fun _ => ?_)
  refine SemW_box fun pa w1 h1 => SemW_box fun pb w2 h2 => ?_
  have x2 := h1.ext.trans h2.ext
  have A : ∀ w', Ext w2 w' → AtN w' pa 0 a.cs := fun w' x => (h1.at_.ext (h2.ext.trans x)).n
  have B : ∀ w', Ext w2 w' → AtN w' pb 0 b.cs := fun w' x => (h2.at_.ext x).n
  simp only [RunD.cs, AtN, KS, Nat.reduceAdd, Nat.reduceMul, Nat.reduceEqDiff, ↓reduceIte, UT] at A B
  (repeat with_reducible first | refine jq ?_ | refine jk ?_ | refine jc ?_ | refine jl ?_ | refine jb ?_ | refine jo ?_ | refine ji ?_ | refine jx rfl ?_)
  refine Run_ec (id := 1) KL55 (.first 0 (.first 1 (.first 2 (.first 3 (.first 5 (.first 6 (.first 7 (.first 8 (.alt 4 (.alt 9 (.alt 10 (.alt 11 (.first 12 .done) .stop) .stop) .stop) .stop))))))))) mixed (by kernel_rfl) (by kernel_rfl) fun w3 x3 _ => ?_
  have a3 := A w3 x3
  have b3 := B w3 x3
  (try simp (maxSteps := 5000000) only [KS, Nat.reduceAdd, Nat.reduceMul, Nat.reduceEqDiff, ↓reduceIte, forall_const, Int.cast_ofNat_Int, Int.reduceToNat, List.take_succ_cons, List.take_zero, List.drop_succ_cons, List.drop_zero, TF55, KL55, ec, a3, b3]); (try simp (disch := omega) only [wrapI, tmodI, tdivI])
  refine ⟨Ext.refl _, CallW_pure call100 (cmpCompare _ _ w3) fun w4 x4 => ⟨x4, ?_⟩⟩
  refine CallW_pure call100 (cmpCompare _ _ w4) fun w5 x5 => ⟨x4.trans x5, ?_⟩
  refine intsL [cmp3 a.At b.At, cmp3 a.Line b.Line] rfl rfl (by have := cmp3_in a.At b.At; have := cmp3_in a.Line b.Line; simp [I64]; omega) (by decide) fun v w6 s6 x6 => ⟨x4.trans (x5.trans x6), ?_⟩
  refine CallW_pure call99 (cmpOr v _ w6 s6) fun w7 x7 => ⟨x4.trans (x5.trans (x6.trans x7)), ?_⟩
  (repeat with_reducible first | refine js ?_ | refine ja ?_ | (refine jT (id := 1) KL55 9 mixed (by kernel_rfl) (by kernel_rfl) (by kernel_rfl) fun _ => ?_; refine jw KL55 [] TF55 fun _ => ?_) | refine jw KL55 [] TF55 fun _ => ?_)
  refine Run_ret ?_
  simp [Rets, RetM, resV, fnd, oneOr, cmpR]
  exact x2.trans (x3.trans (x4.trans (x5.trans (x6.trans x7))))
def ldv (x : Pl.LoadD) : Value := .agg #[.int .i64 x.n, .int .i64 x.c]
theorem ldWith (x : Pl.LoadD) (o : OrderD) (g : Value) (w : World) (hn : 0 ≤ x.n ∧ x.n ≤ 1000000000000000) (hc : 1 ≤ o.Crowd ∧ o.Crowd ≤ 64) :
    Calls Tryz.prog 57 #[ldv x, .agg (o.cs g).toArray] w fun e w' => e = .returned (ldv (x.wth o)) ∧ Ext w w' := by
  unfold ldv
  refine Calls_of_Run (args := [.agg #[.int .i64 x.n, .int .i64 x.c], .agg (o.cs g).toArray]) (n := 15) (rs := [.cell 4 101]) Tryz.func57 rfl rfl rfl (by simp) ?_
  (repeat with_reducible first | refine js ?_ | refine ja ?_ | refine jw KL57 [] TF57 fun _ => ?_)
  refine SemW_box fun px w1 h1 => SemW_box fun po w2 h2 => SemW_allocT ti101 fun pr w3 h3 => ?_
  have b3 := h3.blk
  have z1 := h1.size
  have z2 := h2.size
  have x3 := h1.ext.trans (h2.ext.trans h3.ext)
  have g1 := (h1.at_.ext (h2.ext.trans h3.ext)).n
  have g2 := (h2.at_.ext h3.ext).n
  simp only [OrderD.cs, AtN, KS, Nat.reduceAdd, Nat.reduceMul, Nat.reduceEqDiff, ↓reduceIte, UT] at g1 g2
  (repeat with_reducible first | refine js ?_ | refine ja ?_ | refine jw KL57 [] (aa TF57 (aa g1 g2)) fun _ => ?_)
  refine ⟨ldv (x.wth o), fun _ => by kernel_rfl, ?_⟩
  refine SemW_setW (by rw [cells101]; decide) (by rw [cells101]; rfl) h3.row (by rw [cells101]; rfl) rfl fun w4 r4 k4 z4 => ?_
  have e4 := loadVar_at (P := Tryz.prog) (t := 101) (by kernel_rfl) (by rw [cells101]; decide) (by rw [cells101]; rfl) r4.at_
  (repeat with_reducible first | refine js ?_ | refine ja ?_ | refine jw KL57 [] TF57 fun _ => ?_)
  refine Run_ret ?_
  simp only [Rets, RetM, resV]
  refine ⟨pr, _, rfl, e4, ?_⟩
  simp only [oneOr]
  exact ⟨rfl, Keep.ext x3 k4 fun q hq => by omega⟩
theorem ldCovers (x : Pl.LoadD) (w : World) (hn : 0 ≤ x.n ∧ x.n ≤ 1000000000000000) (hc : 0 ≤ x.c ∧ x.c ≤ 65) : Calls Tryz.prog 58 #[ldv x] w fun e w' => e = .returned (.int .i64 x.covers) ∧ Ext w w' := by
  unfold ldv
  refine Calls_of_Run (args := [.agg #[.int .i64 x.n, .int .i64 x.c]]) (n := 9) (rs := [.tmp 2]) Tryz.func58 rfl rfl rfl (by simp) ?_
  (repeat with_reducible first | refine js ?_ | refine ja ?_ | refine jw KL58 [] TF58 fun _ => ?_)
  refine SemW_box fun px w1 h1 => ?_
  have g1 := h1.at_.n
  simp only [AtN, KS, Nat.reduceAdd, Nat.reduceMul, Nat.reduceEqDiff, ↓reduceIte, UT] at g1
  (repeat with_reducible first | refine js ?_ | refine ja ?_ | refine jw KL58 [] (aa TF58 g1) fun _ => ?_)
  refine Run_ret ?_
  simp [Rets, RetM, resV, fnd, oneOr, h1.ext, Pl.LoadD.covers]
theorem isRunL {t : TimeD} {r : RunD} (h : Tt.isRun t r = true) : 0 ≤ r.Line ∧ r.Line < t.Lines.length ∧ Tt.LOk (Pl.lineR t r) t.Offices := by
  simp only [Tt.isRun, Tt.isR, Bool.and_eq_true, decide_eq_true_eq] at h
  obtain ⟨h0, ⟨h1, h2, _⟩, _⟩ := h
  have hln : r.Line.toNat < t.Lines.length := by omega
  refine ⟨h1, h2, ?_⟩
  unfold Pl.lineR
  rw [List.getD_eq_getElem?_getD, List.getElem?_eq_getElem hln]
  exact Tt.right_ok ((Tt.chk_ok h0).r _ (List.getElem_mem hln))
def rk (r : RunD) : List Int := [r.Line, r.At, r.Arrive]
theorem rk_inj {a b : RunD} (h : rk a = rk b) : a = b := by
  cases a; cases b; simp [rk] at h; simp [h]
def LoadsAre (m : List (List Int × Value)) (g : RunD → Pl.LoadD) : Prop := ∀ r, (mget m (rk r)).getD (ldv .zero) = ldv (g r)
theorem loads_set {m : List (List Int × Value)} {g : RunD → Pl.LoadD} (h : LoadsAre m g) (s : RunD) (x : Pl.LoadD) : LoadsAre (mset (rk s) (ldv x) m) (fun r => if s = r then x else g r) := fun r => by
  rw [mget_set]
  by_cases e : s = r
  · subst e; simp
  · rw [if_neg (by simp; exact fun h => e (rk_inj h).symm)]
    simp only [if_neg e]; exact h r
theorem all_range {n : Nat} {q : Nat → Bool} (h : ∀ k, k < n → q k = true) : (List.range n).all q = true := List.all_eq_true.2 fun k hk => h k (by simpa using hk)
theorem not_range {n k : Nat} {q : Nat → Bool} (hk : k < n) (h : q k = false) : (List.range n).all q = false := List.all_eq_false.2 ⟨k, by simpa using hk, by simp [h]⟩
set_option maxHeartbeats 4000000 in
theorem plCheckP (vl u0 u1 u2 vo v0 v1 v2 : Value) (t : TimeD) (f : TariffD) (l : List OrderD) (covers : Int) (p : PlanD) (w : World) (hl : Sl w vl t.Lines) (hT : TarR w f u0 u1 u2) (ho : Sl w vo l) (hP : PlanR w p v0 v1 v2) :
    Calls Tryz.prog 23 #[.agg (t.cs vl).toArray, .agg (f.cs u0 u1 u2).toArray, vo, .int .i64 covers, .agg (p.cs v0 v1 v2).toArray] w fun e w' => e = .returned (.tuple #[.bool (Pl.check t f l covers p).1, .int .i64 (Pl.check t f l covers p).2]) ∧ Ext w w' := by
  have hn := hP.r.small
  have hn1 := hP.o.small
  have hrl := hP.r.len
  have hol := ho.len
  refine Calls_of_Run (args := [.agg (t.cs vl).toArray, .agg (f.cs u0 u1 u2).toArray, vo, .int .i64 covers, .agg (p.cs v0 v1 v2).toArray]) (n := 172) (rs := [.tmp 10, .tmp 11]) Tryz.func23 rfl rfl rfl (by simp) ?_
  (repeat with_reducible first | refine js ?_ | refine ja ?_ | refine jw KL23 [9, 16, 26] TF23 fun _ => ?_)
  refine SemW_box fun pt w1 h1 => SemW_box fun pf w2 h2 => SemW_box fun pp w3 h3 => ?_
  have x3 := h1.ext.trans (h2.ext.trans h3.ext)
  have T : ∀ w', Ext w3 w' → AtN w' pt 0 (t.cs vl) := fun w' x => (h1.at_.ext (h2.ext.trans (h3.ext.trans x))).n
  have F : ∀ w', Ext w3 w' → AtN w' pf 0 (f.cs u0 u1 u2) := fun w' x => (h2.at_.ext (h3.ext.trans x)).n
  have P : ∀ w', Ext w3 w' → AtN w' pp 0 (p.cs v0 v1 v2) := fun w' x => (h3.at_.ext x).n
  simp only [TimeD.cs, TariffD.cs, PlanD.cs, AtN, KS, Nat.reduceAdd, Nat.reduceMul, Nat.reduceEqDiff, ↓reduceIte, UT] at T F P
  have t3 := T w3 (Ext.refl _)
  have f3 := F w3 (Ext.refl _)
  (repeat with_reducible first | refine js ?_ | refine ja ?_ | refine jw KL23 [9, 16, 26] (aa TF23 (aa t3 f3)) fun _ => ?_)
  refine plerrW (hl.ext x3) (hT.ext x3) (ho.ext x3) fun w4 x4 => ?_
  have y4 := x3.trans x4
  (repeat with_reducible first | refine js ?_ | refine ja ?_ | refine jw KL23 [9, 16, 26] TF23 fun _ => ?_)
  refine Run_condS (fun _ => rfl) (fun h => ?_) (fun h => ?_)
  · have hc : Pl.err t f l ≠ 0 := by simpa using h
    (repeat with_reducible first | refine js ?_ | refine ja ?_ | refine jw KL23 [9, 16, 26] TF23 fun _ => ?_)
    refine Run_ret ?_
    have : Pl.check t f l covers p = (false, Pl.err t f l) := by unfold Pl.check; rw [if_pos hc]
    simp [Rets, RetM, resV, fnd, oneOr, this, y4]
  have hc : Pl.err t f l = 0 := by simpa using h
  clear h
  have ok := Pl.err_ok hc
  have hres : Pl.check t f l covers p = (Pl.good t f l covers p, 0) := by unfold Pl.check; rw [if_neg (by simp [hc])]
  have p4 := P w4 x4
  (repeat with_reducible first | refine js ?_ | refine ja ?_ | refine jw KL23 [9, 16, 26] (aa TF23 (aa p4 (aa hP.r.s (aa hP.r.len (aa hP.o.s (aa hP.o.len (aa hP.c.s (aa hP.c.len (aa ho.s ho.len))))))))) fun _ => ?_)
  refine Run_condS (fun _ => rfl) (fun h => ?_) (fun h => ?_)
  · (repeat with_reducible first | refine js ?_ | refine ja ?_ | refine jw KL23 [9, 16, 26] TF23 fun _ => ?_)
    refine Run_ret ?_
    have : Pl.good t f l covers p = false := by
      have : decide (p.Of.length = l.length ∧ p.Covers.length = p.Runs.length) = false := by
        simp only [Bool.or_eq_true, bne_iff_ne, ne_eq] at h
        simp; omega
      simp [Pl.good, this]
    simp [Rets, RetM, resV, fnd, oneOr, hres, this, y4]
  have hlen : p.Of.length = l.length ∧ p.Covers.length = p.Runs.length := by
    simp only [Bool.or_eq_false_iff, bne_eq_false_iff_eq] at h
    omega
  clear h
  have hg : Pl.good t f l covers p = (Pl.runsOk t p && Pl.ofsOk t f l p && Pl.covsOk t l p && decide (Pl.sum p.Covers ≤ covers)) := by
    unfold Pl.good; rw [decide_eq_true hlen, Bool.true_and]
  (repeat with_reducible first | refine js ?_ | refine ja ?_ | refine jw KL23 [9, 16, 26] (aa TF23 (aa p4 (aa hP.r.s hP.r.len))) fun _ => ?_)
  refine Run_loopV [10, 11, 13, 14, 48, 49, 71] (σ := Nat) (fun k => [(48, some (.int .i64 k)), (10, some (.bool false)), (11, some (.int .i64 0))]) (fun k w' => k ≤ p.Runs.length ∧ (∀ j, j < k → Pl.runP t p j = true) ∧ Ext w4 w') (fun k => p.Runs.length - k) 0 (by simp [SubB, fnd]) ⟨by omega, by simp, Ext.refl _⟩ ?_
  rintro k w5 ⟨hk, hf, x5⟩
  have y5 := y4.trans x5
  (repeat with_reducible first | refine js ?_ | refine ja ?_ | refine jw KL23 [9, 16, 26] TF23 fun _ => ?_)
  refine Run_condS (fun _ => rfl) (fun h => ?_) (fun h => ?_)
  · simp at h
    have hkl := h
    obtain ⟨q1, q2⟩ := (hP.r.ext y5).runD hkl
    have hgr : p.Runs.getD k default = p.Runs[k] := by simp [List.getD_eq_getElem?_getD, hkl]
    simp only [RunD.cs, AtN, KS, Nat.reduceAdd, Nat.reduceMul, Nat.reduceEqDiff, ↓reduceIte, UT] at q1
    (repeat with_reducible first | refine js ?_ | refine ja ?_ | refine jw KL23 [9, 16, 26] (aa TF23 (aa hP.r.s (aa hP.r.len q1))) fun _ => ?_)
    refine SemW_allocT ti54 fun pr w6 h6 => ?_
    have b6 := h6.blk
    (repeat with_reducible first | refine js ?_ | refine ja ?_ | refine jw KL23 [9, 16, 26] TF23 fun _ => ?_)
    refine SemW_setW (by rw [cells54]; decide) (by rw [cells54]; rfl) h6.row (by rw [cells54]; rfl) rfl fun w7 r7 k7 z7 => ?_
    have r7 : Row w7 pr 54 p.Runs[k].cs := r7
    have x7 : Ext w5 w7 := Keep.ext h6.ext k7 fun q hq => by omega
    have y7 := y5.trans x7
    have z7 := x4.trans (x5.trans x7)
    have g7 := r7.n
    have t7 := T w7 z7
    have p7 := P w7 z7
    simp only [RunD.cs, AtN, KS, Nat.reduceAdd, Nat.reduceMul, Nat.reduceEqDiff, ↓reduceIte, UT] at g7
    by_cases k0 : k = 0
    · have e0 : decide (0 < (k : Int)) = false := by simp; omega
      (repeat with_reducible first | refine js ?_ | refine ja ?_ | refine jw KL23 [9, 16, 26] (aa TF23 (aa g7 (aa t7 (aa p7 (aa hP.r.s (aa hP.r.len (aa e0 KX))))))) fun _ => ?_)
      refine ⟨.bool (Tt.isRun t p.Runs[k]), PC_pure call54 fun w8 x8 => ttIs vl t _ w8 (hl.ext (y7.trans x8)) q2, rfl, undef, fun w8 x8 => ?_⟩
      have y8 := y7.trans x8
      have hpk : Pl.runP t p k = Tt.isRun t p.Runs[k] := by unfold Pl.runP; rw [hgr]; simp [k0]
      simp only [bOf_mk, Bool.or_false, Bool.false_and, Bool.and_false]
      refine Run_condS (fun _ => rfl) (fun h => ?_) (fun h => ?_)
      · (repeat with_reducible first | refine js ?_ | refine ja ?_ | refine jw KL23 [9, 16, 26] TF23 fun _ => ?_)
        refine Run_ret ?_
        have : Pl.runsOk t p = false := not_range hkl (by rw [hpk]; simpa using h)
        simp [Rets, RetM, resV, fnd, oneOr, hres, hg, this, y8]
      · (repeat with_reducible first | refine js ?_ | refine ja ?_ | refine jw KL23 [9, 16, 26] TF23 fun _ => ?_)
        refine Run_lp ⟨k + 1, ?_, ⟨by omega, fun j hj => ?_, x5.trans (x7.trans x8)⟩, by omega⟩
        · simp [SubB, fnd, strike, has]
        · by_cases e : j = k
          · rw [e, hpk]; simpa using h
          · exact hf j (by omega)
    · have e0 : decide (0 < (k : Int)) = true := by simp; omega
      have e1 : ((k : Int) - 1).toNat = k - 1 := by omega
      obtain ⟨a1, a2⟩ := (hP.r.ext y7).runD (show k - 1 < p.Runs.length by omega)
      simp only [RunD.cs, AtN, KS, Nat.reduceAdd, Nat.reduceMul, Nat.reduceEqDiff, ↓reduceIte, UT] at a1
      have hgr1 : p.Runs.getD (k - 1) default = p.Runs[k - 1] := by simp [List.getD_eq_getElem?_getD, show k - 1 < p.Runs.length by omega]
      (repeat with_reducible first | refine js ?_ | refine ja ?_ | refine jw KL23 [9, 16, 26] (aa TF23 (aa g7 (aa t7 (aa p7 (aa hP.r.s (aa hP.r.len (aa e0 (aa e1 (aa a1 KX))))))))) fun _ => ?_)
      refine ⟨.bool (Tt.isRun t p.Runs[k]), PC_pure call54 fun w8 x8 => ttIs vl t _ w8 (hl.ext (y7.trans x8)) q2, rfl, fun _ => ⟨by omega, by omega⟩, .int .i64 (cmpR p.Runs[k - 1] p.Runs[k]), (fun _ => PC_pure call55 fun w8 x8 => plCompare _ _ w8), (fun _ => rfl), fun w8 x8 => ?_⟩
      have y8 := y7.trans x8
      have hpk : (!Tt.isRun t p.Runs[k] || decide (0 ≤ cmpR p.Runs[k - 1] p.Runs[k])) = !Pl.runP t p k := by
        unfold Pl.runP; rw [hgr, hgr1, cmpR_before]; simp [k0]
      refine Run_condS (fun _ => rfl) (fun h => ?_) (fun h => ?_)
      · have h2 : (!Pl.runP t p k) = true := hpk.symm.trans h
        (repeat with_reducible first | refine js ?_ | refine ja ?_ | refine jw KL23 [9, 16, 26] TF23 fun _ => ?_)
        refine Run_ret ?_
        have : Pl.runsOk t p = false := not_range hkl (by simpa using h2)
        simp [Rets, RetM, resV, fnd, oneOr, hres, hg, this, y8]
      · have h2 : (!Pl.runP t p k) = false := hpk.symm.trans h
        (repeat with_reducible first | refine js ?_ | refine ja ?_ | refine jw KL23 [9, 16, 26] TF23 fun _ => ?_)
        refine Run_lp ⟨k + 1, ?_, ⟨by omega, fun j hj => ?_, x5.trans (x7.trans x8)⟩, by omega⟩
        · simp [SubB, fnd, strike, has]
        · by_cases e : j = k
          · rw [e]; simpa using h2
          · exact hf j (by omega)
  simp at h
  obtain rfl : k = p.Runs.length := by omega
  have hro : Pl.runsOk t p = true := all_range hf
  rw [hro, Bool.true_and] at hg
  have hrun : ∀ i, i < p.Runs.length → 0 ≤ (p.Runs.getD i default).Line ∧ (p.Runs.getD i default).Line < t.Lines.length ∧ Tt.LOk (Pl.lineR t (p.Runs.getD i default)) t.Offices := fun i hi => by
    have := hf i hi
    simp only [Pl.runP, Bool.and_eq_true] at this
    exact isRunL this.1
  clear hf
  (repeat with_reducible first | refine js ?_ | refine ja ?_ | refine jw KL23 [9, 16, 26] TF23 fun _ => ?_)
  refine SemW_makeMap (kt := 54) fun w6 m6 x6 z6 => ?_
  have hcell : Tryz.prog.cellsOf 54 = 3 := cells54
  have hflat : flatT Tryz.prog 54 = true := by kernel_rfl
  generalize hb : w5.heap.size = b at *
  have p6 := P w6 (x4.trans (x5.trans x6))
  (repeat with_reducible first | refine js ?_ | refine ja ?_ | refine jw KL23 [9, 16, 26] (aa TF23 (aa p6 (aa hP.o.s hP.o.len))) fun _ => ?_)
  refine Run_loopV [10, 11, 16, 17, 18, 77, 78, 105] (σ := Nat) (fun k => [(77, some (.int .i64 k)), (10, some (.bool false)), (11, some (.int .i64 0))]) (fun k w' => k ≤ p.Of.length ∧ (∀ j, j < k → Pl.ofP t f l p j = true) ∧ Ext w5 w' ∧ ∃ m, MapB w' b (Tryz.prog.cellsOf 54) m ∧ LoadsAre m (Pl.load l ((Pl.ofs p).take k))) (fun k => p.Of.length - k) 0 (by simp [SubB, fnd]) ⟨by omega, by simp, x6, [], m6, fun r => by simp [mget, ffind, Pl.load, Pl.loadF]⟩ ?_
  rintro k w7 ⟨hk, hf, x7, m, hM, hL⟩
  have y7 := y5.trans x7
  (repeat with_reducible first | refine js ?_ | refine ja ?_ | refine jw KL23 [9, 16, 26] TF23 fun _ => ?_)
  refine Run_condS (fun _ => rfl) (fun h => ?_) (fun h => ?_)
  · simp at h
    have hkl := h
    obtain ⟨f1, f2, f3⟩ := (hP.o.ext y7).get hkl
    have hgo : p.Of.getD k 0 = p.Of[k] := by simp [List.getD_eq_getElem?_getD, hkl]
    have z7 := x4.trans (x5.trans x7)
    have t7 := T w7 z7
    have ff7 := F w7 z7
    have p7 := P w7 z7
    (repeat with_reducible first | refine js ?_ | refine ja ?_ | refine jw KL23 [9, 16, 26] (aa TF23 (aa hP.o.s (aa hP.o.len (aa f1 f2)))) fun _ => ?_)
    generalize hq : p.Of[k] = q at *
    by_cases hin : 0 ≤ q ∧ q < p.Runs.length
    · have e0 : decide (q < 0) = false := by simp; omega
      have e1 : decide ((p.Runs.length : Int) ≤ q) = false := by simp; omega
      have hkl2 : k < l.length := by omega
      obtain ⟨g, o1, o2, hO⟩ := (ho.ext y7).ord hkl2
      obtain ⟨r1, r2⟩ := (hP.r.ext y7).runD (show q.toNat < p.Runs.length by omega)
      have hgq : p.Runs.getD q.toNat default = p.Runs[q.toNat] := by simp [List.getD_eq_getElem?_getD, show q.toNat < p.Runs.length by omega]
      have hgl : l.getD k default = l[k] := by simp [List.getD_eq_getElem?_getD, hkl2]
      obtain ⟨hr1, hr2, hr3⟩ := hrun q.toNat (by omega)
      rw [hgq] at hr1 hr2 hr3
      have hor := ok.o _ (List.getElem_mem hkl2)
      simp only [Pl.oright, Pl.oNum, Bool.and_eq_true, decide_eq_true_eq] at hor
      have hcl := hor.1.2.2.2.1
      have hcr := hor.1.2.2.2.2.2.2.1
      clear hor
      have hpk : Pl.ofP t f l p k = Pl.fits t f l[k] p.Runs[q.toNat] := by
        unfold Pl.ofP; rw [hgo, hgl, hgq, decide_eq_true hin, Bool.true_and]
      have hofs : (Pl.ofs p).take (k + 1) = (Pl.ofs p).take k ++ [p.Runs[q.toNat]] := by
        have hkk : k < (Pl.ofs p).length := by simp [Pl.ofs]; omega
        rw [List.take_succ_eq_append_getElem hkk]
        congr 2
        have hgq' := hgq
        rw [List.getD_eq_getElem?_getD] at hgq'
        simpa [Pl.ofs, hq] using hgq'
      have hlk : ((Pl.ofs p).take k).length = k := by simp [Pl.ofs]; omega
      generalize hxx : p.Runs[q.toNat] = r at *
      generalize hoo : l[k] = o at *
      simp only [OrderD.cs, RunD.cs, AtN, KS, Nat.reduceAdd, Nat.reduceMul, Nat.reduceEqDiff, ↓reduceIte, UT] at o1 r1
      (repeat with_reducible first | refine js ?_ | refine ja ?_ | refine jw KL23 [9, 16, 26] (aa TF23 (aa t7 (aa ff7 (aa p7 (aa ho.s (aa ho.len (aa hP.r.s (aa hP.r.len (aa e0 (aa e1 (aa o1 (aa r1 KX)))))))))))) fun _ => ?_)
      refine ⟨.bool (Pl.fits t f o r), PC_pure call56 fun w8 x8 => plFits vl t f u0 u1 u2 o g r w8 (hl.ext (y7.trans x8)) (hT.ext (y7.trans x8)) (hO.ext x8) ⟨hr1, hr2⟩ hr3 hcl.1, rfl, fun w8 x8 => ?_⟩
      have y8 := y7.trans x8
      refine Run_condS (fun _ => rfl) (fun h => ?_) (fun h => ?_)
      · have hfit : Pl.fits t f o r = false := by simpa using h
        (repeat with_reducible first | refine js ?_ | refine ja ?_ | refine jw KL23 [9, 16, 26] TF23 fun _ => ?_)
        refine Run_ret ?_
        have : Pl.ofsOk t f l p = false := not_range hkl2 (by rw [hpk]; exact hfit)
        simp [Rets, RetM, resV, fnd, oneOr, hres, hg, this, y8]
      have hfit : Pl.fits t f o r = true := by simpa using h
      clear h
      have z8 := z7.trans x8
      have p8 := P w8 z8
      have r8 : AtN w8 ((slAt v0).add (q.toNat * 3)) 0 r.cs := by
        obtain ⟨c1, _⟩ := (hP.r.ext y8).runD (show q.toNat < p.Runs.length by omega)
        rw [hxx] at c1; exact c1
      simp only [RunD.cs, AtN, KS, Nat.reduceAdd, Nat.reduceMul, Nat.reduceEqDiff, ↓reduceIte, UT] at r8
      (repeat with_reducible first | refine js ?_ | refine ja ?_ | refine jw KL23 [9, 16, 26] (aa TF23 (aa p8 (aa hP.r.s (aa hP.r.len r8)))) fun _ => ?_)
      refine SemW_allocT ti54 fun pr w9 h9 => ?_
      have b9 := h9.blk
      (repeat with_reducible first | refine js ?_ | refine ja ?_ | refine jw KL23 [9, 16, 26] TF23 fun _ => ?_)
      refine SemW_setW (by rw [cells54]; decide) (by rw [cells54]; rfl) h9.row (by rw [cells54]; rfl) rfl fun w10 r10 k10 z10 => ?_
      have r10 : Row w10 pr 54 r.cs := r10
      have x10 : Ext w8 w10 := Keep.ext h9.ext k10 fun q hq => by omega
      have y10 := y8.trans x10
      have x710 := x8.trans x10
      have hM10 := hM.ext x710
      have hblt := hM.lt
      have s7 := x710.size
      let S : Nat → Prop := fun k => k ≠ b
      (repeat with_reducible first | refine jq ?_ | refine jk ?_ | refine jc ?_ | refine jl ?_ | refine jb ?_ | refine jo ?_ | refine ji ?_ | refine jx rfl ?_)
      refine Run_es S (id := 19) KL23 (.first 0 (.first 1 (.first 2 (.first 3 (.first 5 (.first 6 (.first 7 (.first 8 (.alt 4 (.alt 9 (.alt 10 .done .stop) .stop) .stop))))))))) mixed (by kernel_rfl) (by kernel_rfl) fun w11 x11 _ => ?_
      have g11 := (r10.at_.ext x11).n
      have o11 : AtN w11 ((slAt vo).add (k * 11)) 0 (o.cs g) := (o2.ext (x710.trans x11)).n
      simp only [RunD.cs, OrderD.cs, AtN, KS, Nat.reduceAdd, Nat.reduceMul, Nat.reduceEqDiff, ↓reduceIte, UT] at g11 o11
      have hM11 := hM10.ext x11
      (try simp (maxSteps := 5000000) only [KS, Nat.reduceAdd, Nat.reduceMul, Nat.reduceEqDiff, ↓reduceIte, forall_const, Int.cast_ofNat_Int, Int.reduceToNat, List.take_succ_cons, List.take_zero, List.drop_succ_cons, List.drop_zero, TF23, KL23, es, qopS, putL, g11, o11, ho.s, ho.len]); (try simp (disch := omega) only [wrapI, tmodI, tdivI])
      have hvo : ((slAt vo).add (k * 11)).block < w.heap.size := by
        obtain ⟨g0, _, oo, _⟩ := ho.ord hkl2
        have := World.block_lt_of_cell? _ _ (oo 0 _ rfl)
        rwa [add_zero] at this
      have hwb : w.heap.size ≤ b := by have := y5.size; omega
      have s8 := x8.size
      have hnB : 0 ≤ (Pl.load l ((Pl.ofs p).take k) r).n ∧ (Pl.load l ((Pl.ofs p).take k) r).n ≤ 1000000000000000 := by
        have := Pl.load_bd (l := l) (fun x hx => by
          have := ok.o _ hx
          simp only [Pl.oright, Pl.oNum, Bool.and_eq_true, decide_eq_true_eq] at this
          exact this.1.2.2.2.2.2.2.1) ((Pl.ofs p).take k) r
        have := ok.n
        omega
      have hz := hL r
      refine ⟨by show pr.block ≠ b; omega, by show pr.block ≠ b; omega, ⟨by omega, by omega⟩, by show _ ≠ b; omega, Keep.refl _ _, ?_⟩
      refine SemW_lookup (k := rk r) Tryz.underlying98 hflat ti101 hM11 (by rw [hcell]; rfl) ⟨Keep.refl _ _, ?_⟩
      simp only [Bool.false_eq_true, if_false]
      have hz' : (mget m (rk r)).getD (.agg #[.int .i64 0, .int .i64 0]) = ldv (Pl.load l ((Pl.ofs p).take k) r) := hz
      rw [hz']
      refine CallW_pure call57 (ldWith _ o g w11 hnB hcr) fun w12 x12 => ⟨Keep.of_ext x12, ?_⟩
      refine SemW_mapUpdate (k := rk r) Tryz.underlying98 hflat (hM11.ext x12) (by rw [hcell]; rfl) fun w13 m13 k13 z13 => ⟨(Keep.of_ext x12).trans k13, ?_⟩
      have y13 : Ext w5 w13 := Keep.ext (x7.trans (x710.trans (x11.trans x12))) k13 fun q hq => by omega
      (repeat with_reducible first | refine js ?_ | refine ja ?_ | refine jw KL23 [9, 16, 26] TF23 fun _ => ?_)
      refine Run_lp ⟨k + 1, ?_, ⟨by omega, fun j hj => ?_, y13, _, m13, ?_⟩, by omega⟩
      · simp [SubB, fnd, strike, has]
      · by_cases e : j = k
        · rw [e, hpk]; exact hfit
        · exact hf j (by omega)
      · rw [hofs]
        have := loads_set hL r ((Pl.load l ((Pl.ofs p).take k) r).wth o)
        intro s
        rw [Pl.load_snoc (by omega) r s]
        have hs := this s
        simp only [hlk, hoo] at hs ⊢
        by_cases e : r = s
        · subst e; simpa using hs
        · simpa [e] using hs
    · have hbad : Pl.good t f l covers p = false := by
        have : Pl.ofsOk t f l p = false := not_range (show k < l.length by omega) (by
          unfold Pl.ofP; rw [hgo, decide_eq_false hin, Bool.false_and])
        rw [hg, this]; rfl
      by_cases e0 : q < 0
      · have e0 : decide (q < 0) = true := by simp; omega
        (repeat with_reducible first | refine js ?_ | refine ja ?_ | refine jw KL23 [9, 16, 26] (aa TF23 (aa e0 KX)) fun _ => ?_)
        refine ⟨undef, fun w8 x8 => ?_⟩
        refine Run_condS (fun _ => rfl) (fun _ => ?_) (fun h => by cases h)
        (repeat with_reducible first | refine js ?_ | refine ja ?_ | refine jw KL23 [9, 16, 26] TF23 fun _ => ?_)
        refine Run_ret ?_
        simp [Rets, RetM, resV, fnd, oneOr, hres, hbad]
        exact y7.trans x8
      · have e0' : decide (q < 0) = false := by simp; omega
        have e1 : decide ((p.Runs.length : Int) ≤ q) = true := by simp; omega
        (repeat with_reducible first | refine js ?_ | refine ja ?_ | refine jw KL23 [9, 16, 26] (aa TF23 (aa p7 (aa hP.r.s (aa hP.r.len (aa e0' (aa e1 KX)))))) fun _ => ?_)
        refine ⟨undef, fun w8 x8 => ?_⟩
        refine Run_condS (fun _ => rfl) (fun _ => ?_) (fun h => by cases h)
        (repeat with_reducible first | refine js ?_ | refine ja ?_ | refine jw KL23 [9, 16, 26] TF23 fun _ => ?_)
        refine Run_ret ?_
        simp [Rets, RetM, resV, fnd, oneOr, hres, hbad]
        exact y7.trans x8
  simp at h
  obtain rfl : k = p.Of.length := by omega
  have hfo : Pl.ofsOk t f l p = true := all_range fun j hj => hf j (by omega)
  rw [hfo, Bool.true_and] at hg
  have htk : (Pl.ofs p).take p.Of.length = Pl.ofs p := List.take_of_length_le (by simp [Pl.ofs])
  rw [htk] at hL
  clear hf htk
  have hcrw : ∀ r, 0 ≤ (Pl.load l (Pl.ofs p) r).n ∧ (Pl.load l (Pl.ofs p) r).n ≤ 1000000000000000 ∧ 0 ≤ (Pl.load l (Pl.ofs p) r).c ∧ (Pl.load l (Pl.ofs p) r).c ≤ 65 := fun r => by
    have := Pl.load_bd (l := l) (fun x hx => by
      have := ok.o _ hx
      simp only [Pl.oright, Pl.oNum, Bool.and_eq_true, decide_eq_true_eq] at this
      exact this.1.2.2.2.2.2.2.1) (Pl.ofs p) r
    have := ok.n
    omega
  have z7 := x4.trans (x5.trans x7)
  have p7 := P w7 z7
  have hcl := hP.c.len
  (repeat with_reducible first | refine js ?_ | refine ja ?_ | refine jw KL23 [9, 16, 26] (aa TF23 (aa p7 (aa hP.r.s hP.r.len))) fun _ => ?_)
  refine Run_loopV [10, 11, 19, 20, 21, 22, 125, 126, 160] (σ := Nat) (fun k => [(125, some (.int .i64 k)), (19, some (.int .i64 (Pl.sum (p.Covers.take k)))), (10, some (.bool false)), (11, some (.int .i64 0))]) (fun k w' => k ≤ p.Runs.length ∧ (∀ j, j < k → Pl.covP t l p j = true) ∧ (0 ≤ Pl.sum (p.Covers.take k) ∧ Pl.sum (p.Covers.take k) ≤ 65 * k) ∧ Ext w7 w') (fun k => p.Runs.length - k) 0 (by simp [SubB, fnd, Pl.sum]) ⟨by omega, by simp, by simp [Pl.sum], Ext.refl _⟩ ?_
  rintro k w8 ⟨hk, hf, hsm, x8⟩
  have y8 := y7.trans x8
  have z8 := z7.trans x8
  (repeat with_reducible first | refine js ?_ | refine ja ?_ | refine jw KL23 [9, 16, 26] TF23 fun _ => ?_)
  refine Run_condS (fun _ => rfl) (fun h => ?_) (fun h => ?_)
  · simp at h
    have hkl := h
    obtain ⟨r1, r2⟩ := (hP.r.ext y8).runD hkl
    obtain ⟨c1, c2, c3⟩ := (hP.c.ext y8).get (show k < p.Covers.length by omega)
    have hgr : p.Runs.getD k default = p.Runs[k] := by simp [List.getD_eq_getElem?_getD, hkl]
    have hgc : p.Covers.getD k 0 = p.Covers[k]'(by omega) := by simp [List.getD_eq_getElem?_getD, show k < p.Covers.length by omega]
    have hsk := Pl.sum_take p.Covers k (by omega)
    obtain ⟨hr1, hr2, hr3⟩ := hrun k hkl
    rw [hgr] at hr1 hr2 hr3
    have hcov : Pl.covP t l p k = decide ((Pl.load l (Pl.ofs p) p.Runs[k]).n ≠ 0 ∧ p.Covers[k]'(by omega) = (Pl.load l (Pl.ofs p) p.Runs[k]).covers ∧ max (Pl.load l (Pl.ofs p) p.Runs[k]).n (Pl.load l (Pl.ofs p) p.Runs[k]).c ≤ (Pl.lineR t p.Runs[k]).Room) := by
      unfold Pl.covP; rw [hgr, hgc]
    have hz := hL p.Runs[k]
    have hbd := hcrw p.Runs[k]
    generalize hxx : p.Runs[k] = r at *
    generalize hcc : p.Covers[k]'(by omega) = cv at *
    generalize hld : Pl.load l (Pl.ofs p) r = ld at *
    simp only [RunD.cs, AtN, KS, Nat.reduceAdd, Nat.reduceMul, Nat.reduceEqDiff, ↓reduceIte, UT] at r1
    (repeat with_reducible first | refine js ?_ | refine ja ?_ | refine jw KL23 [9, 16, 26] (aa TF23 (aa hP.r.s (aa hP.r.len r1))) fun _ => ?_)
    refine SemW_allocT ti54 fun pr w9 h9 => ?_
    have b9 := h9.blk
    (repeat with_reducible first | refine js ?_ | refine ja ?_ | refine jw KL23 [9, 16, 26] TF23 fun _ => ?_)
    refine SemW_setW (by rw [cells54]; decide) (by rw [cells54]; rfl) h9.row (by rw [cells54]; rfl) rfl fun w10 r10 k10 z10 => ?_
    have r10 : Row w10 pr 54 r.cs := r10
    have x10 : Ext w8 w10 := Keep.ext h9.ext k10 fun q hq => by omega
    have g10 := r10.n
    simp only [RunD.cs, AtN, KS, Nat.reduceAdd, Nat.reduceMul, Nat.reduceEqDiff, ↓reduceIte, UT] at g10
    have hM10 := hM.ext (x8.trans x10)
    (repeat with_reducible first | refine js ?_ | refine ja ?_ | refine jw KL23 [9, 16, 26] (aa TF23 g10) fun _ => ?_)
    refine SemW_lookup (k := rk r) Tryz.underlying98 hflat ti101 hM10 (by rw [hcell]; rfl) ?_
    simp only [Bool.false_eq_true, if_false]
    have hz' : (mget m (rk r)).getD (.agg #[.int .i64 0, .int .i64 0]) = ldv ld := hz
    rw [hz']
    (repeat with_reducible first | refine js ?_ | refine ja ?_ | refine jw KL23 [9, 16, 26] TF23 fun _ => ?_)
    refine SemW_allocT ti101 fun px w11 h11 => ?_
    have b11 := h11.blk
    (repeat with_reducible first | refine js ?_ | refine ja ?_ | refine jw KL23 [9, 16, 26] TF23 fun _ => ?_)
    refine SemW_setW (by rw [cells101]; decide) (by rw [cells101]; rfl) h11.row (by rw [cells101]; rfl) rfl fun w12 r12 k12 z12 => ?_
    have r12 : Row w12 px 101 [.int .i64 ld.n, .int .i64 ld.c] := r12
    have x12 : Ext w10 w12 := Keep.ext h11.ext k12 fun q hq => by omega
    have x812 := x10.trans x12
    have y12 := y8.trans x812
    have g12 := r12.n
    have gr12 := (r10.at_.ext x12).n
    have p12 := P w12 (z8.trans x812)
    have t12 := T w12 (z8.trans x812)
    obtain ⟨d1, d2, d3⟩ := (hP.c.ext y12).get (show k < p.Covers.length by omega)
    rw [hcc] at d1
    have hlt : r.Line.toNat < t.Lines.length := by omega
    have hlo : Pl.lineR t r = t.Lines[r.Line.toNat] := by unfold Pl.lineR; simp [List.getD_eq_getElem?_getD, hlt]
    obtain ⟨l0, l1, l2, l3, e1, e2, hR⟩ := (hl.ext y12).line hlt
    rw [← hlo] at e1 e2 hR
    generalize hln : Pl.lineR t r = x at *
    simp only [RunD.cs, LineD.cs, AtN, KS, Nat.reduceAdd, Nat.reduceMul, Nat.reduceEqDiff, ↓reduceIte, UT] at g12 gr12 e1
    by_cases n0 : ld.n = 0
    · have e0 : (ld.n == 0) = true := by simp [n0]
      (repeat with_reducible first | refine js ?_ | refine ja ?_ | refine jw KL23 [9, 16, 26] (aa TF23 (aa g12 (aa e0 KX))) fun _ => ?_)
      refine ⟨undef, fun w13 x13 => ?_⟩
      refine Run_condS (fun _ => rfl) (fun _ => ?_) (fun h => by cases h)
      (repeat with_reducible first | refine js ?_ | refine ja ?_ | refine jw KL23 [9, 16, 26] TF23 fun _ => ?_)
      refine Run_ret ?_
      have : Pl.covsOk t l p = false := not_range hkl (by rw [hcov]; simp [n0])
      simp [Rets, RetM, resV, fnd, oneOr, hres, hg, this]
      exact y12.trans x13
    · have e0 : (ld.n == 0) = false := by simp [n0]
      (repeat with_reducible first | refine js ?_ | refine ja ?_ | refine jw KL23 [9, 16, 26] (aa TF23 (aa g12 (aa gr12 (aa p12 (aa t12 (aa hP.c.s (aa hP.c.len (aa d1 (aa d2 (aa hl.s (aa hl.len (aa e1 (aa e0 KX))))))))))))) fun _ => ?_)
      refine ⟨.int .i64 ld.covers, PC_pure call58 fun w13 x13 => ldCovers ld w13 ⟨hbd.1, hbd.2.1⟩ ⟨hbd.2.2.1, hbd.2.2.2⟩, rfl, fun _ => ⟨hr1, hr2⟩, fun w13 x13 => ?_⟩
      have y13 := y12.trans x13
      have hcb : (cv != ld.covers || decide (x.Room < max ld.n ld.c)) = !Pl.covP t l p k := by
        rw [hcov, Bool.eq_iff_iff]
        simp only [Bool.or_eq_true, bne_iff_ne, ne_eq, decide_eq_true_eq, Bool.not_eq_true', decide_eq_false_iff_not]
        constructor
        · intro h1 h2
          rcases h1 with h1 | h1
          · exact h1 h2.2.1
          · have := h2.2.2; omega
        · intro h1
          by_cases h2 : cv = ld.covers
          · right
            have : ¬ (max ld.n ld.c ≤ x.Room) := fun h3 => h1 ⟨n0, h2, h3⟩
            omega
          · exact .inl h2
      refine Run_condS (fun _ => rfl) (fun h => ?_) (fun h => ?_)
      · have h2 : (!Pl.covP t l p k) = true := hcb.symm.trans h
        (repeat with_reducible first | refine js ?_ | refine ja ?_ | refine jw KL23 [9, 16, 26] TF23 fun _ => ?_)
        refine Run_ret ?_
        have : Pl.covsOk t l p = false := not_range hkl (by simpa using h2)
        simp [Rets, RetM, resV, fnd, oneOr, hres, hg, this, y13]
      · have h2 : (!Pl.covP t l p k) = false := hcb.symm.trans h
        have h2 : Pl.covP t l p k = true := by simpa using h2
        have h3 : cv = ld.covers := by
          rw [hcov] at h2
          exact (of_decide_eq_true h2).2.1
        have hcv : 0 ≤ cv ∧ cv ≤ 65 := by rw [h3]; unfold Pl.LoadD.covers; omega
        have p13 := P w13 (z8.trans (x812.trans x13))
        have d1' : mem w13 ((slAt v2).add k) = .int .i64 cv := by rw [x13.mem d2, d1]
        have d2' := x13.has1 d2
        (repeat with_reducible first | refine js ?_ | refine ja ?_ | refine jw KL23 [9, 16, 26] (aa TF23 (aa p13 (aa hP.c.s (aa hP.c.len (aa d1' d2'))))) fun _ => ?_)
        refine Run_lp ⟨k + 1, ?_, ⟨by omega, fun j hj => ?_, ?_, x8.trans (x812.trans x13)⟩, by omega⟩
        · rw [hsk]; simp [SubB, fnd, strike, has]
        · by_cases e : j = k
          · rw [e]; exact h2
          · exact hf j (by omega)
        · rw [hsk]; omega
  · simp at h
    obtain rfl : k = p.Runs.length := by omega
    have hco : Pl.covsOk t l p = true := all_range hf
    have htk : p.Covers.take p.Runs.length = p.Covers := List.take_of_length_le (by omega)
    rw [hco, Bool.true_and] at hg
    rw [htk]
    (repeat with_reducible first | refine js ?_ | refine ja ?_ | refine jw KL23 [9, 16, 26] TF23 fun _ => ?_)
    refine Run_ret ?_
    simp [Rets, RetM, resV, fnd, oneOr, hres, hg]
    exact y8
end Go.Proofs.YtoadfmgnpmcbfaaGreat
