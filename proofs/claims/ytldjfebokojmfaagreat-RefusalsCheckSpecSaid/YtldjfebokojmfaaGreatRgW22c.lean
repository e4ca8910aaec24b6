import Derived.Test.YtldjfebokojmfaaGreatRgG2
import Derived.Test.YtldjfebokojmfaaGreatRgB38x
namespace Go.Proofs.YtldjfebokojmfaaGreat
open Go Go.Fk
set_option linter.unusedSimpArgs false
set_option linter.unusedVariables false
set_option maxRecDepth 100000
theorem sm_in {l : List Int} (h : ∀ x ∈ l, -4194304 ≤ x ∧ x ≤ 4194304) : ∀ i, i ≤ l.length → -4194304 * (i : Int) ≤ Tt.sm (l.take i) ∧ Tt.sm (l.take i) ≤ 4194304 * i := by
  intro i
  induction i with
  | zero => intro _; simp [Tt.sm]
  | succ i ih =>
    intro hi
    rw [Tt.sm_take l i hi]
    have := ih (by omega)
    have := h _ (List.getElem_mem hi)
    omega
theorem tfSum (v : Value) (l : List Int) (w : World) (hx : Sl w v l) (hl : l.length ≤ 1000) (hb : ∀ x ∈ l, -4194304 ≤ x ∧ x ≤ 4194304) :
    Calls Tryz.prog 145 #[v] w fun e w' => e = .returned (.int .i64 (Tt.sm l)) ∧ Ext w w' := by
  refine Calls_of_Run (args := [v]) (n := 16) (rs := [.tmp 2]) Tryz.func145 rfl rfl rfl (by simp) ?_
  (repeat with_reducible first | refine jy ?_ | refine jw KL145 [] (aa TF145 (aa hx.s hx.len)) fun _ => ?_)
  refine Run_loopV [2, 4, 7, 8] (σ := Nat) (fun k => [(7, some (.int .i64 k)), (2, some (.int .i64 (Tt.sm (l.take k))))]) (fun k w' => k ≤ l.length ∧ Ext w w') (fun k => l.length - k) 0 (by simp [SubB, fnd, Tt.sm]) ⟨by omega, Ext.refl _⟩ ?_
  rintro k w1 ⟨hk, x1⟩
  (repeat with_reducible first | refine jy ?_ | refine jw KL145 [] TF145 fun _ => ?_)
  refine Run_condS (fun _ => rfl) (fun h => ?_) (fun h => ?_)
  · simp at h
    obtain ⟨f1, f2, f3⟩ := (hx.ext x1).get h
    have b1 := sm_in hb k (by omega)
    have b2 := sm_in hb (k + 1) h
    have e1 := Tt.sm_take l k h
    (repeat with_reducible first | refine jy ?_ | refine jw KL145 [] (aa TF145 (aa hx.s (aa hx.len (aa f1 f2)))) fun _ => ?_)
    refine Run_lp ⟨k + 1, ?_, ⟨by omega, x1⟩, by omega⟩
    rw [e1]
    simp [SubB, fnd, strike, has]
  · simp at h
    obtain rfl : k = l.length := by omega
    (repeat with_reducible first | refine jy ?_ | refine jw KL145 [] TF145 fun _ => ?_)
    refine Run_ret ?_
    simp [Rets, RetM, resV, fnd, oneOr, x1]
theorem sumW {v : Value} {l : List Int} {n : Int} {w : World} {K : Value → World → Prop} (hn : Tt.sm l = n) (hx : Sl w v l) (hl : l.length ≤ 1000) (hb : ∀ x ∈ l, -4194304 ≤ x ∧ x ≤ 4194304) (hK : ∀ w', Ext w w' → K (.int .i64 n) w') : CallW Tryz.prog (.func (.func 145) #[] #[]) [v] w K := by
  subst hn; exact CallW_pure call145 (tfSum v l w hx hl hb) hK
theorem extra_back {c : Int} {l : List TierD} (k : Nat) (hk : k ≤ l.length) (h : ∀ j (h : j < l.length), k ≤ j → ¬ l[j].From ≤ c) : Tf.extraF c l 0 = Tf.extraF c (l.take k) 0 := by
  have e : l = l.take k ++ l.drop k := (List.take_append_drop k l).symm
  have h1 := Tf.extraF_append c (l.take k) (l.drop k) 0
  rw [← e] at h1
  rw [h1]
  generalize Tf.extraF c (l.take k) 0 = a
  have : ∀ (m : List TierD), (∀ x ∈ m, ¬ x.From ≤ c) → Tf.extraF c m a = a := by
    intro m
    induction m with
    | nil => intro _; rfl
    | cons x m ih => intro hm; simp only [Tf.extraF]; rw [if_neg (hm x (List.mem_cons_self ..)), ih fun y hy => hm y (List.mem_cons_of_mem _ hy)]
  refine this _ fun x hx => ?_
  obtain ⟨j, hj, rfl⟩ := List.getElem_of_mem hx
  rw [List.getElem_drop]
  simp at hj
  exact h (k + j) (by omega) (by omega)
theorem extra_hit {c : Int} {l : List TierD} (k : Nat) (hk : k < l.length) (h : ∀ j (h : j < l.length), k < j → ¬ l[j].From ≤ c) (hc : l[k].From ≤ c) : Tf.extraF c l 0 = l[k].Extra := by
  rw [extra_back (k + 1) hk h, List.take_succ_eq_append_getElem hk, Tf.extraF_append]
  simp [Tf.extraF, hc]
theorem tfBack (v : Value) (w : World) (hv : v.cells = #[v]) : Calls Tryz.prog 161 #[v] w fun e w' => ∃ p, e = .returned (.func (.func 164) #[] #[.pointer (some p)]) ∧ Ext w w' ∧ Row w' p 26 [v] ∧ p.block = w.heap.size := by
  refine Calls_of_Run (args := [v]) (n := 4) (rs := [.tmp 2]) Tryz.func161 rfl rfl rfl (by simp) ?_
  (repeat with_reducible first | refine jy ?_ | refine jw KL161 [] TF161 fun _ => ?_)
  refine SemW_box fun p w1 h1 => ?_
  (repeat with_reducible first | refine jy ?_ | refine jw KL161 [] TF161 fun _ => ?_)
  refine Run_ret ?_
  simp only [Rets, RetM, resV, fnd, oneOr, ↓reduceIte]
  rw [hv] at h1
  exact ⟨_, rfl, p, rfl, h1.ext, h1.row, h1.blk⟩
def backI (l : List TierD) : List (List Value) := (List.range l.length).map fun j => [.int .i64 ((l.length - 1 - j : Nat) : Int), .agg (l.getD (l.length - 1 - j) default).cs.toArray]
theorem backI_len (l : List TierD) : (backI l).length = l.length := by simp [backI]
theorem backI_get {l : List TierD} {j : Nat} (hj : j < (backI l).length) (h : l.length - 1 - j < l.length) : (backI l)[j] = [.int .i64 ((l.length - 1 - j : Nat) : Int), .agg l[l.length - 1 - j].cs.toArray] := by
  simp [backI, List.getD_eq_getElem?_getD, h]
theorem backIter (p : Addr) (v : Value) (l : List TierD) (W : World) (hx : Sl W v l) (kp : Nat → Prop) (yv : Value) (J : Nat → World → Prop) (Jx : World → Prop) (w : World) (hkp : ∀ k, k < W.heap.size → kp k) (hp : kp p.block)
    (hc : Cons Tryz.prog yv (backI l) (fun _ => False) kp J Jx) (hW : Ext W w) (r1 : Row w p 26 [v]) (h0 : J 0 w) :
    Calls Tryz.prog 164 (#[] ++ #[yv] ++ #[.pointer (some p)]) w fun e w' => e = .returned (.tuple #[]) ∧ (Jx w' ∨ J (backI l).length w') := by
  have hn := hx.small
  have hxl := hx.len
  obtain ⟨q1, q2⟩ := row1 r1
  have e : (#[] ++ #[yv] ++ #[.pointer (some p)] : Array Value) = [yv, .pointer (some p)].toArray := rfl
  rw [e]
  refine Calls_of_Run (args := [yv, .pointer (some p)]) (n := 19) (rs := []) Tryz.func164 rfl rfl rfl (by simp) ?_
  (repeat with_reducible first | refine jy ?_ | refine jw KL164 [] (aa TF164 (aa q1 (aa q2 (aa hx.s hx.len)))) fun _ => ?_)
  refine Run_loopV [3, 8, 18] (σ := Nat) (fun k => [(3, some (.int .i64 ((l.length : Int) - 1 - k)))]) (fun k w' => k ≤ l.length ∧ J k w' ∧ Ext W w' ∧ Row w' p 26 [v]) (fun k => l.length - k) 0 (by simp [SubB, fnd]) ⟨by omega, h0, hW, r1⟩ ?_
  rintro k w1 ⟨hk, hJ, hE, hR⟩
  (repeat with_reducible first | refine jy ?_ | refine jw KL164 [] TF164 fun _ => ?_)
  refine Run_condS (fun _ => rfl) (fun h => ?_) (fun h => ?_)
  · simp at h
    have hkl : l.length - 1 - k < l.length := by omega
    have e1 : ((l.length : Int) - 1 - k).toNat = l.length - 1 - k := by omega
    obtain ⟨f1, f2⟩ := (hx.ext hE).tierD hkl
    simp only [TierD.cs, AtN, KS, Nat.reduceAdd, Nat.reduceMul, Nat.reduceEqDiff, ↓reduceIte, UT] at f1
    obtain ⟨q3, q4⟩ := row1 hR
    (repeat with_reducible first | refine jy ?_ | refine jw KL164 [] (aa TF164 (aa hx.s (aa hx.len (aa e1 (aa f1 (aa q3 q4)))))) fun _ => ?_)
    have hki : k < (backI l).length := by rw [backI_len]; omega
    have hy := hc.yield k w1 hki hJ
    rw [backI_get hki hkl, show ((l.length - 1 - k : Nat) : Int) = (l.length : Int) - 1 - k by omega] at hy
    refine hy.mono fun u w7 ⟨b', hv, k7, hj⟩ => ?_
    subst hv
    have hE7 : Ext W w7 := Keep.ext hE k7 hkp
    have hR7 := hR.keep k7 hp
    cases b' with
    | true =>
      simp only [if_true] at hj
      (repeat with_reducible first | refine jy ?_ | refine jw KL164 [] TF164 fun _ => ?_)
      refine Run_condS (fun _ => rfl) (fun h => by cases h) (fun _ => ?_)
      (repeat with_reducible first | refine jy ?_ | refine jw KL164 [] TF164 fun _ => ?_)
      refine Run_lp ⟨k + 1, ?_, ⟨by omega, hj, hE7, hR7⟩, by omega⟩
      have e2 : (l.length : Int) - 1 - k - 1 = (l.length : Int) - 1 - (k + 1 : Nat) := by omega
      rw [← e2]
      simp [SubB, fnd, strike, has]
    | false =>
      simp only [Bool.false_eq_true, if_false] at hj
      (repeat with_reducible first | refine jy ?_ | refine jw KL164 [] TF164 fun _ => ?_)
      refine Run_condS (fun _ => rfl) (fun _ => ?_) (fun h => by cases h)
      (repeat with_reducible first | refine jy ?_ | refine jw KL164 [] TF164 fun _ => ?_)
      refine Run_ret ?_
      simp only [Rets, RetM, resV, oneOr]
      exact ⟨trivial, .inl hj⟩
  · simp at h
    obtain rfl : k = l.length := by omega
    (repeat with_reducible first | refine jy ?_ | refine jw KL164 [] TF164 fun _ => ?_)
    refine Run_nil ?_
    simp only [Rets, RetM, resV, oneOr]
    exact ⟨trivial, .inr (by rw [backI_len]; exact hJ)⟩
theorem tfExtra (f : TariffD) (u0 u1 u2 : Value) (c : Int) (w : World) (hT : TarR w f u0 u1 u2) :
    Calls Tryz.prog 158 #[.agg (f.cs u0 u1 u2).toArray, .int .i64 c] w fun e w' => e = .returned (.int .i64 (Tf.extra f c)) ∧ Ext w w' := by
  refine Calls_of_Run (args := [.agg (f.cs u0 u1 u2).toArray, .int .i64 c]) (n := 18) (rs := [.cell 4 3]) Tryz.func158 rfl rfl rfl (by simp) ?_
  (repeat with_reducible first | refine jy ?_ | refine jw KL158 [] TF158 fun _ => ?_)
  refine SemW_box fun pf w1 h1 => SemW_box fun pc w2 h2 => SemW_allocT ti3 fun pr w3 h3 => ?_
  have x3 := h1.ext.trans (h2.ext.trans h3.ext)
  have b2 := h2.blk
  have b3 := h3.blk
  have z1 := h1.size
  have z2 := h2.size
  have z3 := h3.size
  have f3 := (h1.at_.ext (h2.ext.trans h3.ext)).n
  simp only [TariffD.cs, AtN, KS, Nat.reduceAdd, Nat.reduceMul, Nat.reduceEqDiff, ↓reduceIte, UT] at f3
  have rc := h2.row.ext h3.ext
  have rr := h3.row
  simp only [KS, Nat.reduceAdd, Nat.reduceMul, Nat.reduceEqDiff, ↓reduceIte, UT] at rr rc
  (repeat with_reducible first | refine jy ?_ | refine jw KL158 [] (aa TF158 f3) fun _ => ?_)
  refine CallW_gen call161 (tfBack u2 w3 (isS_cells hT.t.s)) fun e w4 ⟨p, he, x4, r4, b4⟩ => ⟨_, he, ?_⟩
  have z4 := x4.size
  have lp := r4.lt
  (repeat with_reducible first | refine jy ?_ | refine jw KL158 [] TF158 fun _ => ?_)
  refine Run_iter [10, 11] (fun _ => rfl) call164 (by simp) (backI f.Tiers) (fun x hx => by simp [backI] at hx; obtain ⟨_, _, rfl⟩ := hx; rfl) (fun _ => False) (fun k => k < w.heap.size ∨ k = p.block) (fun k hk => hk.elim) (fun k hk => by omega)
    (fun j w' => Ext w w' ∧ Row w' pr 3 [.int .i64 0] ∧ Row w' pc 3 [.int .i64 c] ∧ ∀ i (h : i < f.Tiers.length), f.Tiers.length - j ≤ i → ¬ f.Tiers[i].From ≤ c)
    (fun e w' => e = none ∧ Ext w w' ∧ Row w' pr 3 [.int .i64 (Tf.extra f c)])
    (fun yv J Jx w5 hc hx5 h0 => backIter p u2 f.Tiers w hT.t _ yv J Jx w5 (fun k hk => .inl hk) (.inr rfl) hc (x3.trans (x4.trans hx5)) (r4.ext hx5) h0)
    (fun w5 hx5 _ => ⟨x3.trans (x4.trans hx5), rr.ext (x4.trans hx5), rc.ext (x4.trans hx5), fun i h hi => by omega⟩)
    (fun j w5 w6 ⟨a1, a2, a3, a4⟩ hk => ⟨Keep.ext a1 hk fun k hk => ⟨fun h => h, by omega, by omega⟩, a2.keep hk ⟨fun h => h, by omega, by omega⟩, a3.keep hk ⟨fun h => h, by omega, by omega⟩, a4⟩)
    (fun e w5 w6 ⟨he, a1, a2⟩ hk => ⟨he, Keep.ext a1 hk fun k hk => ⟨fun h => h, by omega, by omega⟩, a2.keep hk ⟨fun h => h, by omega, by omega⟩⟩) ?_ ?_ ?_
  · intro j hj w8 ⟨a1, a2, a3, a4⟩ z8
    have hj' := hj
    rw [backI_len] at hj'
    have hjl : f.Tiers.length - 1 - j < f.Tiers.length := by omega
    rw [backI_get hj hjl]
    simp only [zipL]
    have hbk := extra_back (c := c) (l := f.Tiers) (f.Tiers.length - j) (by omega) fun i hi h => a4 i hi h
    generalize hxx : f.Tiers[f.Tiers.length - 1 - j] = x at *
    (repeat with_reducible first | refine jy ?_ | refine jw KL158 [] TF158 fun _ => ?_)
    refine SemW_allocT ti126 fun px w9 h9 => ?_
    have b9 := h9.blk
    (repeat with_reducible first | refine jy ?_ | refine jw KL158 [] TF158 fun _ => ?_)
    refine SemW_setW (by rw [cells126]; decide) (by rw [cells126]; rfl) h9.row (by rw [cells126]; rfl) rfl fun w10 r10 k10 s10 => ?_
    have r10 : Row w10 px 126 x.cs := r10
    have x10 : Ext w8 w10 := Keep.ext h9.ext k10 fun q hq => by omega
    (repeat with_reducible first | refine jy ?_ | refine jw KL158 [] TF158 fun _ => ?_)
    refine Run_lp ⟨Keep.of_ext x10, fun w11 k11 z11 => ?_⟩
    have r11 := r10.keep k11 (by omega)
    have c11 := (a3.ext x10).keep k11 (by omega)
    have p11 := (a2.ext x10).keep k11 (by omega)
    have e11 : Ext w w11 := Keep.ext (a1.trans x10) k11 fun q hq => by omega
    obtain ⟨q1, q2⟩ := row1 c11
    have g11 := r11.n
    simp only [TierD.cs, AtN, KS, Nat.reduceAdd, Nat.reduceMul, Nat.reduceEqDiff, ↓reduceIte, UT] at g11
    (repeat with_reducible first | refine jy ?_ | refine jw KL158 [] (aa TF158 (aa q1 (aa q2 g11))) fun _ => ?_)
    refine Run_condS (fun _ => rfl) (fun h => ?_) (fun h => ?_)
    · simp at h
      (repeat with_reducible first | refine jy ?_ | refine jw KL158 [] (aa TF158 g11) fun _ => ?_)
      refine SemW_set1 cells3 p11 rfl rfl fun w12 r12 k12 s12 => ?_
      have : x.Extra = Tf.extra f c := by
        have := extra_hit (c := c) (l := f.Tiers) (f.Tiers.length - 1 - j) hjl (fun i hi h => a4 i hi (by omega)) (by rw [hxx]; exact h)
        rw [hxx] at this; exact this.symm
      simp only [KS, Nat.reduceAdd, Nat.reduceMul, Nat.reduceEqDiff, ↓reduceIte, UT, this] at r12
      (repeat with_reducible first | refine jy ?_ | refine jw KL158 [] TF158 fun _ => ?_)
      exact Run_ret ⟨k12.mono fun k _ hk => by omega, rfl, Keep.ext e11 k12 fun k hk => by omega, r12⟩
    · simp at h
      (repeat with_reducible first | refine jy ?_ | refine jw KL158 [] TF158 fun _ => ?_)
      refine Run_nil ⟨Keep.refl _ _, e11, p11, c11, fun i hi hij => ?_⟩
      by_cases e : i = f.Tiers.length - 1 - j
      · subst e; rw [hxx]; omega
      · exact a4 i hi (by omega)
  · intro w8 ⟨a1, a2, a3, a4⟩ hd
    rw [backI_len] at a4
    (repeat with_reducible first | refine jy ?_ | refine jw KL158 [] TF158 fun _ => ?_)
    refine SemW_set1 cells3 a2 rfl rfl fun w9 r9 k9 s9 => ?_
    have hz8 : w4.heap.size < w8.heap.size := (Array.getElem?_eq_some_iff.1 hd).1
    have he0 : Tf.extra f c = 0 := by
      have := extra_back (c := c) (l := f.Tiers) 0 (by omega) fun i hi h => a4 i hi (by omega)
      simpa [Tf.extra, Tf.extraF] using this
    simp only [KS, Nat.reduceAdd, Nat.reduceMul, Nat.reduceEqDiff, ↓reduceIte, UT] at r9
    (repeat with_reducible first | refine jy ?_ | refine jw KL158 [] TF158 fun _ => ?_)
    refine Run_ret ?_
    simp only [Rets]
    refine RetM_one ((k9.block _ hz8 (by omega)).trans hd) fun w10 k10 _ => ?_
    simp only [resV]
    refine ⟨pr, _, rfl, loadVar_row rfl (r9.keep k10 (by omega)), ?_⟩
    simp only [oneOr]
    exact ⟨by rw [he0], Keep.ext (Keep.ext a1 k9 fun k hk => by omega) k10 fun k hk => by omega⟩
  · rintro e w8 ⟨rfl, a1, a2⟩ hd
    unfold xcode
    have hz8 : w4.heap.size < w8.heap.size := (Array.getElem?_eq_some_iff.1 hd).1
    refine Run_ret ?_
    simp only [Rets]
    refine RetM_one hd fun w10 k10 _ => ?_
    simp only [resV]
    refine ⟨pr, _, rfl, loadVar_row rfl (a2.keep k10 (by omega)), ?_⟩
    simp only [oneOr]
    exact ⟨trivial, Keep.ext a1 k10 fun k hk => by omega⟩
theorem intsL {w : World} {K : Value → World → Prop} (xs : List Int) {parts : Array (Nat × Value)} {n : Nat} (hp : parts.toList = (xs.map fun x => (Value.int .i64 x)).zipIdx.map fun p => (p.2, p.1)) (hn : n = xs.length) (hx : ∀ x ∈ xs, I64 x) (hs : n ≤ 1000)
    (hK : ∀ v w', Sl w' v xs → Ext w w' → K v w') : SemW Tryz.prog (Instr.buildSlice 25 n parts) w K :=
  SemW_lit (α := Int) Tryz.underlying25 ti3 rfl (by decide) (xs.map fun x => (Value.int .i64 x)) xs hp (by simpa using hn) (Cs.ints xs hx) (by show n * 1 ≤ _; omega) hK
theorem bufOld {α : Type} [Enc α] {e : TypeId} {W0 W w : World} {v : Value} {xs : List α} (h : BufL e W w v xs) (hx : Ext W0 W) : BufL e W0 w v xs := by
  obtain ⟨css, hc, hb⟩ := h.ex
  refine ⟨css, hc, ⟨?_, hx.trans hb.ext⟩⟩
  have h1 := hb.own
  have := hx.size
  refine ⟨h1.1, ?_⟩
  rcases h1.2 with h2 | ⟨g, cap, cur, h3, h4, h5⟩
  · exact .inl h2
  · exact .inr ⟨g, cap, cur, h3, by omega, h5⟩
def shares (f : TariffD) (c l k : Int) : List Int × Int × Int := if Tf.wrong f c l k ≠ 0 then ([], 0, Tf.wrong f c l k) else (List.replicate l.toNat (Tf.leg f c), Tf.base f c + Tf.extra f k, 0)
def ShaRet (w : World) (r : List Int × Int × Int) (e : Ending) (w' : World) : Prop := ∃ v, e = .returned (.tuple #[v, .int .i64 r.2.1, .int .i64 r.2.2]) ∧ BufL (α := Int) 3 w w' v r.1
theorem tfShares (f : TariffD) (u0 u1 u2 : Value) (c l k : Int) (w : World) (hT : TarR w f u0 u1 u2) :
    Calls Tryz.prog 144 #[.agg (f.cs u0 u1 u2).toArray, .int .i64 c, .int .i64 l, .int .i64 k] w (ShaRet w (shares f c l k)) := by
  have lb := hT.b.len
  have sb := hT.b.small
  refine Calls_of_Run (args := [.agg (f.cs u0 u1 u2).toArray, .int .i64 c, .int .i64 l, .int .i64 k]) (n := 58) (rs := [.tmp 8, .tmp 9, .tmp 10]) Tryz.func144 rfl rfl rfl (by simp) ?_
  (repeat with_reducible first | refine jy ?_ | refine jw KL144 [] TF144 fun _ => ?_)
  refine SemW_box fun pf w1 h1 => ?_
  have x1 := h1.ext
  have F : ∀ w', Ext w1 w' → AtN w' pf 0 (f.cs u0 u1 u2) := fun w' x => (h1.at_.ext x).n
  simp only [TariffD.cs, AtN, KS, Nat.reduceAdd, Nat.reduceMul, Nat.reduceEqDiff, ↓reduceIte, UT] at F
  have f1 := F w1 (Ext.refl _)
  (repeat with_reducible first | refine jy ?_ | refine jw KL144 [] (aa TF144 f1) fun _ => ?_)
  refine CallW_pure call63 (tfCheck f u0 u1 u2 w1 (hT.ext x1)) fun w2 x2 => ?_
  (repeat with_reducible first | refine jy ?_ | refine jw KL144 [] TF144 fun _ => ?_)
  refine Run_condS (fun _ => rfl) (fun h => ?_) (fun h => ?_)
  · have hc : Tf.chk f ≠ 0 := by simpa using h
    have hw : Tf.wrong f c l k = 210 := by unfold Tf.wrong; rw [if_pos hc]
    have hc2 : Tf.chk f = 210 := by
      unfold Tf.chk at hc ⊢
      split at hc
      · exact (hc rfl).elim
      · rename_i hh; rw [if_neg hh]
    (repeat with_reducible first | refine jy ?_ | refine jw KL144 [] TF144 fun _ => ?_)
    refine Run_ret ?_
    simp [Rets, RetM, resV, fnd, oneOr, ShaRet, shares, hw, hc2]
    exact BufL.nil (x1.trans x2)
  have hc : Tf.chk f = 0 := by simpa using h
  have ok := Tf.chk_ok hc
  have f2 := F w2 x2
  (repeat with_reducible first | refine jy ?_ | refine jw KL144 [] (aa TF144 (aa f2 (aa hT.b.s hT.b.len))) fun _ => ?_)
  refine Run_condS (fun _ => rfl) (fun h => ?_) (fun h => ?_)
  · have hw : Tf.wrong f c l k = 1 := by
      unfold Tf.wrong
      rw [if_neg (by simp [hc]), if_pos]
      simp at h; omega
    (repeat with_reducible first | refine jy ?_ | refine jw KL144 [] TF144 fun _ => ?_)
    refine Run_ret ?_
    simp [Rets, RetM, resV, fnd, oneOr, ShaRet, shares, hw]
    exact BufL.nil (x1.trans x2)
  have hin : (0 ≤ c ∧ c < f.Base.length) ∧ (1 ≤ l ∧ l ≤ 8) ∧ (1 ≤ k ∧ k ≤ 64) := by simp at h; omega
  clear h
  have hw : Tf.wrong f c l k = 0 := by
    unfold Tf.wrong
    rw [if_neg (by simp [hc]), if_neg (by omega)]
  have hcb : c.toNat < f.Base.length := by omega
  have hcl : c.toNat < f.Leg.length := by have := ok.n; omega
  have y2 := x1.trans x2
  obtain ⟨a1, a2, a3⟩ := (hT.b.ext y2).get hcb
  obtain ⟨b1, b2, b3⟩ := (hT.l.ext y2).get hcl
  have ebase : f.Base[c.toNat] = Tf.base f c := by unfold Tf.base; simp [List.getD_eq_getElem?_getD, hcb]
  have eleg : f.Leg[c.toNat] = Tf.leg f c := by unfold Tf.leg; simp [List.getD_eq_getElem?_getD, hcl]
  have bbd := Tf.base_bd hc c
  have lbd := Tf.leg_bd hc c
  have xbd := Tf.extra_bd hc k
  rw [ebase] at a1 a3
  rw [eleg] at b1 b3
  have ll := hT.l.len
  have hres : shares f c l k = (List.replicate l.toNat (Tf.leg f c), Tf.base f c + Tf.extra f k, 0) := by unfold shares; rw [if_neg (by simp [hw])]
  have A : ∀ w', Ext w2 w' → mem w' ((slAt u0).add c.toNat) = .int .i64 (Tf.base f c) ∧ has1 w' ((slAt u0).add c.toNat) := fun w' x => ⟨by rw [x.mem a2, a1], x.has1 a2⟩
  have B : ∀ w', Ext w2 w' → mem w' ((slAt u1).add c.toNat) = .int .i64 (Tf.leg f c) ∧ has1 w' ((slAt u1).add c.toNat) := fun w' x => ⟨by rw [x.mem b2, b1], x.has1 b2⟩
  (repeat with_reducible refine js ?_)
  refine Run_ec (id := 6) KL144 (.first 0 (.first 1 (.first 2 (.first 3 (.first 4 (.first 6 (.first 8 (.first 9 (.first 10 (.first 11 (.first 12 (.first 13 (.first 14 (.alt 5 (.alt 7 (.alt 15 (.alt 16 (.alt 17 (.first 18 (.first 19 (.first 20 .done))) .stop) .stop) .stop) .stop) .stop)))))))))))))) mixed (by kernel_rfl) (by kernel_rfl) fun w3 x3 _ => ?_
  have f3 := F w3 (x2.trans x3)
  have A3 := A w3 x3
  have B3 := B w3 x3
  (try simp (maxSteps := 5000000) only [KS, Nat.reduceAdd, Nat.reduceMul, Nat.reduceEqDiff, ↓reduceIte, forall_const, Int.cast_ofNat_Int, Int.reduceToNat, List.take_succ_cons, List.take_zero, List.drop_succ_cons, List.drop_zero, TF144, KL144, ec, f3, A3, B3, hT.b.s, hT.b.len, hT.l.s, hT.l.len]); (try simp (disch := omega) only [wrapI, tmodI, tdivI])
  obtain ⟨ln, rfl⟩ : ∃ n : Nat, l = n := ⟨l.toNat, by omega⟩
  refine ⟨⟨by omega, by omega⟩, ⟨by omega, by omega⟩, Ext.refl _, ?_⟩
  refine intsL [Tf.leg f c] rfl rfl (by simp [I64]; omega) (by decide) fun va w4 s4 x4 => ⟨x4, ?_⟩
  refine CallW_gen call157 (slRepeat va (Tf.leg f c) ln (by omega) (by omega) w4 s4) fun e w5 ⟨vp, he, b5⟩ => ⟨_, he, ?_⟩
  have x5 := b5.ext0
  have y5 := y2.trans (x3.trans (x4.trans x5))
  refine ⟨x4.trans x5, ?_⟩
  refine CallW_pure call158 (tfExtra f u0 u1 u2 k w5 (hT.ext y5)) fun w6 x6 => ?_
  refine ⟨x4.trans (x5.trans x6), ?_⟩
  refine intsL [Tf.base f c, Tf.extra f k] rfl rfl (by simp [I64]; omega) (by decide) fun vb w7 s7 x7 => ⟨x4.trans (x5.trans (x6.trans x7)), ?_⟩
  refine sumW (n := Tf.base f c + Tf.extra f k) (by simp [Tt.sm]) s7 (by simp) (by simp; omega) fun w8 x8 => ⟨x4.trans (x5.trans (x6.trans (x7.trans x8))), ?_⟩
  have b8 := b5.ext (x6.trans (x7.trans x8))
  (repeat with_reducible first | refine jy ?_ | refine jw KL144 [] TF144 fun _ => ?_)
  refine Run_ret ?_
  simp [Rets, RetM, resV, fnd, oneOr, ShaRet, hres]
  exact bufOld b8 (y2.trans (x3.trans x4))
theorem tfPriceW (f : TariffD) (u0 u1 u2 : Value) (c l k : Int) (w : World) (hT : TarR w f u0 u1 u2) :
    Calls Tryz.prog 119 #[.agg (f.cs u0 u1 u2).toArray, .int .i64 c, .int .i64 l, .int .i64 k] w fun e w' => e = .returned (.tuple #[.int .i64 (Tf.pri f c l k).1, .int .i64 (Tf.pri f c l k).2]) ∧ Ext w w' := by
  refine Calls_of_Run (args := [.agg (f.cs u0 u1 u2).toArray, .int .i64 c, .int .i64 l, .int .i64 k]) (n := 27) (rs := [.tmp 8, .tmp 9]) Tryz.func119 rfl rfl rfl (by simp) ?_
  (repeat with_reducible first | refine jy ?_ | refine jw KL119 [] TF119 fun _ => ?_)
  refine SemW_box fun pf w1 h1 => ?_
  have x1 := h1.ext
  have f1 := h1.at_.n
  simp only [TariffD.cs, AtN, KS, Nat.reduceAdd, Nat.reduceMul, Nat.reduceEqDiff, ↓reduceIte, UT] at f1
  (repeat with_reducible first | refine jy ?_ | refine jw KL119 [] (aa TF119 f1) fun _ => ?_)
  refine CallW_gen call144 (tfShares f u0 u1 u2 c l k w1 (hT.ext x1)) fun e w2 ⟨vp, he, b2⟩ => ⟨_, he, ?_⟩
  have x2 := b2.ext0
  (repeat with_reducible first | refine jy ?_ | refine jw KL119 [] TF119 fun _ => ?_)
  have hr : I64 (shares f c l k).2.1 ∧ Tf.pri f c l k = (Tt.sm ((shares f c l k).1 ++ [(shares f c l k).2.1]), (shares f c l k).2.2) ∧ (shares f c l k).1.length ≤ 8 ∧ ∀ x ∈ (shares f c l k).1 ++ [(shares f c l k).2.1], -4194304 ≤ x ∧ x ≤ 4194304 := by
    unfold shares Tf.pri
    by_cases hw : Tf.wrong f c l k = 0
    · rw [if_neg (by simp [hw]), if_neg (by simp [hw])]
      have hc : Tf.chk f = 0 ∧ 1 ≤ l ∧ l ≤ 8 := by
        unfold Tf.wrong at hw
        split at hw
        · cases hw
        · rename_i h1
          split at hw
          · cases hw
          · exact ⟨by simpa using h1, by omega, by omega⟩
      have bbd := Tf.base_bd hc.1 c
      have lbd := Tf.leg_bd hc.1 c
      have xbd := Tf.extra_bd hc.1 k
      have hs : ∀ (n : Nat) (a b : Int), Tt.sm (List.replicate n a ++ [b]) = n * a + b := fun n a b => by
        induction n with
        | zero => simp [Tt.sm]
        | succ n ih => rw [List.replicate_succ, List.cons_append, Tt.sm, ih, Int.natCast_add, Int.add_mul]; simp; omega
      refine ⟨by simp only [I64]; omega, ?_, by simp; omega, fun x hx => ?_⟩
      · simp only
        rw [hs, Int.toNat_of_nonneg (by omega)]
        congr 1
        generalize l * Tf.leg f c = q
        omega
      · simp only [List.mem_append, List.mem_replicate, List.mem_singleton] at hx
        rcases hx with ⟨_, rfl⟩ | rfl <;> omega
    · rw [if_pos (by simpa using hw), if_pos (by simpa using hw)]
      exact ⟨by simp [I64], by simp [Tt.sm], by simp, by simp⟩
  obtain ⟨hr1, hr2, hr3, hr4⟩ := hr
  refine intsL [(shares f c l k).2.1] rfl rfl (by simpa using hr1) (by decide) fun va w3 s3 x3 => ?_
  refine SemW_appendF (α := Int) Tryz.underlying25 ti3 rfl (by decide) (b2.ext x3) s3 (by simp [maxLen]; omega) fun v4 w4 b4 _ x4 => ?_
  (repeat with_reducible first | refine jy ?_ | refine jw KL119 [] TF119 fun _ => ?_)
  refine sumW rfl (b4.sl (by simp; omega)) (by simp; omega) hr4 fun w5 x5 => ?_
  (repeat with_reducible first | refine jy ?_ | refine jw KL119 [] TF119 fun _ => ?_)
  refine Run_ret ?_
  simp [Rets, RetM, resV, fnd, oneOr, hr2]
  exact x1.trans (x4.trans x5)
theorem priceW {f : TariffD} {u0 u1 u2 : Value} {c l k : Int} {w : World} {K : Value → World → Prop} (hT : TarR w f u0 u1 u2) (hK : ∀ w', Ext w w' → K (.tuple #[.int .i64 (Tf.pri f c l k).1, .int .i64 (Tf.pri f c l k).2]) w') :
    CallW Tryz.prog (.func (.func 119) #[] #[]) [.agg #[u0, u1, u2], .int .i64 c, .int .i64 l, .int .i64 k] w K := CallW_pure call119 (tfPriceW f u0 u1 u2 c l k w hT) hK
end Go.Proofs.YtldjfebokojmfaaGreat
