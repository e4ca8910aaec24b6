import Derived.Test.YtldjfebokojmfaaGreatRgW23b
import Derived.Test.YtldjfebokojmfaaGreatRgHf
import Derived.Test.YtldjfebokojmfaaGreatRgGs
namespace Go.Fk
open Go
namespace Pl
theorem ridx_app {r : RunD} : ∀ (A B : List RunD) (k : Nat), r ∉ A → ridx r (A ++ B) k = ridx r B (k + A.length)
  | [], B, k, _ => by simp
  | a :: A, B, k, h => by
    rw [List.cons_append, ridx, if_neg (fun e => h (by rw [e]; exact List.mem_cons_self ..)), ridx_app A B (k + 1) fun e => h (List.mem_cons_of_mem _ e)]
    congr 1
    simp only [List.length_cons]; omega
theorem ridx_pre {r : RunD} : ∀ (A B : List RunD) (i : Nat), r ∈ A → ridx r (A ++ B) i = ridx r A i
  | [], B, i, h => by cases h
  | a :: A, B, i, h => by
    rw [List.cons_append, ridx, ridx]
    by_cases e : a = r
    · rw [if_pos e, if_pos e]
    · rw [if_neg e, if_neg e]
      rcases List.mem_cons.1 h with h | h
      · exact (e h.symm).elim
      · exact ridx_pre A B (i + 1) h
theorem ridx_mid {A B : List RunD} {x : RunD} : ridx x (A ++ x :: B) 0 = A.length ↔ x ∉ A := by
  constructor
  · intro h hm
    obtain ⟨j, hj, h1, h2⟩ := ridx_at (k := 0) hm
    rw [ridx_pre A _ 0 hm, h1] at h
    omega
  · intro h
    rw [ridx_app A _ 0 h, ridx, if_pos rfl]
    simp
theorem ridx_first {of : List RunD} {k : Nat} (hk : k < of.length) : ridx of[k] of 0 = k ↔ of[k] ∉ of.take k := by
  have e : of.take k ++ of[k] :: of.drop (k + 1) = of := by rw [List.getElem_cons_drop, List.take_append_drop]
  have h := ridx_mid (A := of.take k) (B := of.drop (k + 1)) (x := of[k])
  rw [e, List.length_take, Nat.min_eq_left (by omega)] at h
  exact h
end Pl
end Go.Fk
namespace Go.Proofs.YtldjfebokojmfaaGreat
open Go Go.Fk
set_option linter.unusedSimpArgs false
set_option linter.unusedVariables false
set_option maxRecDepth 100000
section
variable {t : TimeD} {f : TariffD} {l : List OrderD} {covers : Int} {vl u0 u1 u2 vo vO vof : Value} {of : List RunD} {r : RunD} {w : World}
set_option maxHeartbeats 1000000 in
theorem srLoad (ho : Sl w vo l) (hof : Sl w vof of) (hn : of.length ≤ l.length) (hl : l.length ≤ 64) (hcr : ∀ o ∈ l, 1 ≤ o.Crowd ∧ o.Crowd ≤ 64) :
    Calls Tryz.prog 70 #[.agg (srC t covers vl u0 u1 u2 vo vO).toArray, vof, .agg r.cs.toArray] w fun e w' => e = .returned (.tuple #[.int .i64 (Pl.load l of r).n, .int .i64 (Pl.load l of r).c]) ∧ Ext w w' := by
  have hos := ho.s
  have hol := ho.len
  have ofs := hof.s
  have ofl := hof.len
  refine Calls_of_Run (args := [.agg (srC t covers vl u0 u1 u2 vo vO).toArray, vof, .agg r.cs.toArray]) (n := 34) (rs := [.tmp 6, .tmp 7]) Tryz.func70 rfl rfl rfl (by simp) ?_
  (repeat with_reducible first | refine jy ?_ | refine jw KL70 [5] TF70 fun _ => ?_)
  refine SemW_box fun ps w1 h1 => SemW_box fun pr w2 h2 => ?_
  have x2 := h1.ext.trans h2.ext
  have A : ∀ w', Ext w2 w' → AtN w' ps 0 (srC t covers vl u0 u1 u2 vo vO) := fun w' x => (h1.at_.ext (h2.ext.trans x)).n
  have R : ∀ w', Ext w2 w' → AtN w' pr 0 r.cs := fun w' x => (h2.at_.ext x).n
  simp only [srC, RunD.cs, AtN, KS, Nat.reduceAdd, Nat.reduceMul, Nat.reduceEqDiff, ↓reduceIte, UT] at A R
  (repeat with_reducible first | refine jy ?_ | refine jw KL70 [5] (aa TF70 (aa ofs ofl)) fun _ => ?_)
  refine Run_loopV [6, 7, 8, 9, 12, 13, 19] (σ := Nat) (fun q => [(12, some (.int .i64 q)), (6, some (.int .i64 (Pl.load l (of.take q) r).n)), (7, some (.int .i64 (Pl.load l (of.take q) r).c))]) (fun q w' => q ≤ of.length ∧ Ext w2 w') (fun q => of.length - q) 0 (by simp [SubB, fnd, Pl.load_nil, Pl.LoadD.zero]) ⟨by omega, Ext.refl _⟩ ?_
  rintro q w3 ⟨hq, x3⟩
  (repeat with_reducible first | refine jy ?_ | refine jw KL70 [5] TF70 fun _ => ?_)
  refine Run_condS (fun _ => rfl) (fun h => ?_) (fun h => ?_)
  · simp at h
    have hql : q < of.length := by omega
    have hqc : (q : Int) < of.length := by omega
    have hqo : q < l.length := by omega
    have hqoc : (q : Int) < l.length := by omega
    clear h
    have y3 := x2.trans x3
    obtain ⟨r1, r2⟩ := (hof.ext y3).runD hql
    have hsn := Pl.load_snoc (l := l) (of := of.take q) (by rw [List.length_take]; omega) of[q] r
    rw [← List.take_succ_eq_append_getElem hql] at hsn
    have hlt : l[(of.take q).length]'(by rw [List.length_take]; omega) = l[q] := by
      congr 1
      rw [List.length_take]; omega
    rw [hlt] at hsn
    have hb := Pl.load_bd hcr (of.take q) r
    have hco := hcr _ (List.getElem_mem hqo)
    have hOr := fun w' (x : Ext w3 w') => ((ho.ext (y3.trans x)).ord hqo)
    generalize Pl.load l (of.take q) r = z at *
    generalize of[q] = s at *
    generalize l[q] = o at *
    simp only [RunD.cs, AtN, KS, Nat.reduceAdd, Nat.reduceMul, Nat.reduceEqDiff, ↓reduceIte, UT] at r1
    (repeat with_reducible first | refine jy ?_ | refine jw KL70 [5] (aa TF70 (aa ofs (aa ofl r1))) fun _ => ?_)
    refine SemW_allocT ti34 fun px w4 h4 => ?_
    have b4 := h4.blk
    (repeat with_reducible first | refine jy ?_ | refine jw KL70 [5] TF70 fun _ => ?_)
    refine SemW_setW (by rw [cells34]; decide) (by rw [cells34]; rfl) h4.row (by rw [cells34]; rfl) rfl fun w5 r5 k5 z5 => ?_
    have r5 : Row w5 px 34 s.cs := by simpa [Value.cells, RunD.cs] using r5
    have x35 : Ext w3 w5 := Keep.ext h4.ext k5 fun b hb => by omega
    have n5 := r5.n
    have rr5 := R w5 (x3.trans x35)
    simp only [RunD.cs, AtN, KS, Nat.reduceAdd, Nat.reduceMul, Nat.reduceEqDiff, ↓reduceIte, UT] at n5
    (repeat with_reducible first | refine jy ?_ | refine jw KL70 [5] (aa TF70 (aa n5 rr5)) fun _ => ?_)
    refine ⟨by kernel_rfl, ?_⟩
    have heq : (s.Line == r.Line && (s.At == r.At && (s.Arrive == r.Arrive && true))) = decide (s = r) := by
      rw [Bool.eq_iff_iff]; cases s; cases r; simp
    rw [heq]
    refine Run_condS (fun _ => rfl) (fun h => ?_) (fun h => ?_)
    · have h : s = r := by simpa using h
      have a5 := A w5 (x3.trans x35)
      obtain ⟨g, f1, f2, hO⟩ := hOr w5 x35
      simp only [OrderD.cs, AtN, KS, Nat.reduceAdd, Nat.reduceMul, Nat.reduceEqDiff, ↓reduceIte, UT] at f1
      (repeat with_reducible first | refine jy ?_ | refine jw KL70 [5] (aa TF70 (aa a5 (aa hos (aa hol (aa f1 KX))))) fun _ => ?_)
      intro w6 x6
      rw [if_pos h] at hsn
      (repeat with_reducible first | refine jy ?_ | refine jw KL70 [5] TF70 fun _ => ?_)
      exact Run_lp ⟨q + 1, by simp [SubB, fnd, strike, has, hsn, Pl.LoadD.wth], ⟨by omega, x3.trans (x35.trans x6)⟩, by omega⟩
    · have h : s ≠ r := by simpa using h
      rw [if_neg h] at hsn
      (repeat with_reducible first | refine jy ?_ | refine jw KL70 [5] TF70 fun _ => ?_)
      exact Run_lp ⟨q + 1, by simp [SubB, fnd, strike, has, hsn], ⟨by omega, x3.trans x35⟩, by omega⟩
  · simp at h
    obtain rfl : q = of.length := by omega
    rw [List.take_length]
    (repeat with_reducible first | refine jy ?_ | refine jw KL70 [5] TF70 fun _ => ?_)
    refine Run_ret ?_
    simp [Rets, RetM, resV, fnd, oneOr]
    exact x2.trans x3
theorem srLoadW {K : Value → World → Prop} (ho : Sl w vo l) (hof : Sl w vof of) (hn : of.length ≤ l.length) (hl : l.length ≤ 64) (hcr : ∀ o ∈ l, 1 ≤ o.Crowd ∧ o.Crowd ≤ 64) (hK : ∀ w', Ext w w' → K (.tuple #[.int .i64 (Pl.load l of r).n, .int .i64 (Pl.load l of r).c]) w') :
    CallW Tryz.prog (.func (.func 70) #[] #[]) [.agg #[.int .i64 t.Offices, vl, u0, u1, u2, .int .i64 covers, vo, vO], vof, .agg #[.int .i64 r.Line, .int .i64 r.At, .int .i64 r.Arrive]] w K := CallW_pure call70 (srLoad (t := t) (covers := covers) (vl := vl) (u0 := u0) (u1 := u1) (u2 := u2) (vO := vO) ho hof hn hl hcr) hK
theorem srFull (hl : Sl w vl t.Lines) (ho : Sl w vo l) (hof : Sl w vof of) (hn : of.length ≤ l.length) (h64 : l.length ≤ 64) (hcr : ∀ o ∈ l, 1 ≤ o.Crowd ∧ o.Crowd ≤ 64) (hrn : r ∈ of → 0 ≤ r.Line ∧ r.Line < t.Lines.length) :
    Calls Tryz.prog 42 #[.agg (srC t covers vl u0 u1 u2 vo vO).toArray, vof, .agg r.cs.toArray] w fun e w' => e = .returned (.bool (Rf.full t l of r)) ∧ Ext w w' := by
  refine Calls_of_Run (args := [.agg (srC t covers vl u0 u1 u2 vo vO).toArray, vof, .agg r.cs.toArray]) (n := 33) (rs := [.tmp 6]) Tryz.func42 rfl rfl rfl (by simp) ?_
  (repeat with_reducible first | refine jy ?_ | refine jw KL42 [] TF42 fun _ => ?_)
  refine SemW_box fun ps w1 h1 => SemW_box fun pr w2 h2 => ?_
  have x2 := h1.ext.trans h2.ext
  have A : ∀ w', Ext w2 w' → AtN w' ps 0 (srC t covers vl u0 u1 u2 vo vO) := fun w' x => (h1.at_.ext (h2.ext.trans x)).n
  have R : ∀ w', Ext w2 w' → AtN w' pr 0 r.cs := fun w' x => (h2.at_.ext x).n
  simp only [srC, RunD.cs, AtN, KS, Nat.reduceAdd, Nat.reduceMul, Nat.reduceEqDiff, ↓reduceIte, UT] at A R
  have a2 := A w2 (Ext.refl _)
  have r2 := R w2 (Ext.refl _)
  (repeat with_reducible first | refine jy ?_ | refine jw KL42 [] (aa TF42 (aa a2 r2)) fun _ => ?_)
  refine srLoadW (t := t) (covers := covers) (vl := vl) (u0 := u0) (u1 := u1) (u2 := u2) (vO := vO) (ho.ext x2) (hof.ext x2) hn h64 hcr fun w3 x3 => ?_
  have a3 := A w3 x3
  have r3 := R w3 x3
  have hb := Pl.load_bd hcr of r
  have hno : r ∉ of → (Pl.load l of r).n = 0 := fun h => by rw [Rp.load_no of hn h]; rfl
  unfold Rf.full
  generalize Pl.load l of r = z at *
  by_cases hz : 0 < z.n
  · have hm : r ∈ of := Classical.byContradiction fun h => by have := hno h; omega
    obtain ⟨g1, g2⟩ := hrn hm
    have hln : r.Line.toNat < t.Lines.length := by omega
    obtain ⟨l0, l1', l2, l3, lA, lB, lR⟩ := (hl.ext (x2.trans x3)).line hln
    have hroom : Pl.room t r = t.Lines[r.Line.toNat].Room := by
      unfold Pl.room Pl.lineR
      rw [List.getD_eq_getElem?_getD, List.getElem?_eq_getElem hln]; rfl
    simp only [LineD.cs, AtN, KS, Nat.reduceAdd, Nat.reduceMul, Nat.reduceEqDiff, ↓reduceIte, UT] at lA
    rw [← hroom] at lA
    have hzd : decide (0 < z.n) = true := decide_eq_true hz
    (repeat with_reducible first | refine jy ?_ | refine jw KL42 [] (aa TF42 (aa a3 (aa r3 (aa hl.s (aa hl.len (aa lA (aa hzd KX))))))) fun _ => ?_)
    refine Run_ret ?_
    simp [Rets, RetM, resV, fnd, oneOr, hz]
    exact x2.trans x3
  · have hzd : decide (0 < z.n) = false := decide_eq_false hz
    (repeat with_reducible first | refine jy ?_ | refine jw KL42 [] (aa TF42 (aa a3 (aa r3 (aa hl.s (aa hl.len (aa hzd KX)))))) fun _ => ?_)
    refine Run_ret ?_
    simp [Rets, RetM, resV, fnd, oneOr, hz]
    exact x2.trans x3
set_option maxHeartbeats 1000000 in
theorem srShort (ho : Sl w vo l) (hof : Sl w vof of) (hn : of.length ≤ l.length) (h64 : l.length ≤ 64) (hcr : ∀ o ∈ l, 1 ≤ o.Crowd ∧ o.Crowd ≤ 64) :
    Calls Tryz.prog 47 #[.agg (srC t covers vl u0 u1 u2 vo vO).toArray, vof] w fun e w' => e = .returned (.bool (Rf.short l covers of)) ∧ Ext w w' := by
  have ofs := hof.s
  have ofl := hof.len
  refine Calls_of_Run (args := [.agg (srC t covers vl u0 u1 u2 vo vO).toArray, vof]) (n := 41) (rs := [.tmp 4]) Tryz.func47 rfl rfl rfl (by simp) ?_
  (repeat with_reducible first | refine jy ?_ | refine jw KL47 [] TF47 fun _ => ?_)
  refine SemW_box fun ps w1 h1 => ?_
  have x1 := h1.ext
  have A : ∀ w', Ext w1 w' → AtN w' ps 0 (srC t covers vl u0 u1 u2 vo vO) := fun w' x => (h1.at_.ext x).n
  simp only [srC, AtN, KS, Nat.reduceAdd, Nat.reduceMul, Nat.reduceEqDiff, ↓reduceIte, UT] at A
  (repeat with_reducible first | refine jy ?_ | refine jw KL47 [] (aa TF47 (aa ofs ofl)) fun _ => ?_)
  refine Run_loopV [5, 6, 7, 8, 9, 12, 13, 21] (σ := Nat × Int) (fun q => [(12, some (.int .i64 q.1)), (5, some (.int .i64 q.2))]) (fun q w' => q.1 ≤ of.length ∧ Ext w1 w' ∧ (0 ≤ q.2 ∧ q.2 ≤ 65 * q.1) ∧ ∃ D : List RunD, D.Nodup ∧ (∀ r, r ∈ D ↔ r ∈ of.take q.1) ∧ q.2 = Pl.sum (D.map fun r => (Pl.load l of r).covers)) (fun q => of.length - q.1) (0, 0) (by simp [SubB, fnd]) ⟨by simp, Ext.refl _, by simp, [], by simp, by simp, rfl⟩ ?_
  rintro ⟨q, s⟩ w3 ⟨hq, x3, hs, D, hD1, hD2, hD3⟩
  simp only at hq x3 hs hD2 hD3
  (repeat with_reducible first | refine jy ?_ | refine jw KL47 [] TF47 fun _ => ?_)
  refine Run_condS (fun _ => rfl) (fun h => ?_) (fun h => ?_)
  · simp at h
    have hql : q < of.length := by omega
    have hqc : (q : Int) < of.length := by omega
    clear h
    have y3 := x1.trans x3
    obtain ⟨r1, r2⟩ := (hof.ext y3).runD hql
    have hfst := Pl.ridx_first hql
    have htk : ∀ r, r ∈ of.take (q + 1) ↔ r ∈ of.take q ∨ r = of[q] := fun r => by rw [List.take_succ_eq_append_getElem hql, List.mem_append, List.mem_singleton]
    have hb := Pl.load_bd hcr of of[q]
    have hcb := Pl.cov_bd hcr of of[q]
    have hcd : (Pl.load l of of[q]).covers = max 0 ((Pl.load l of of[q]).c - (Pl.load l of of[q]).n) := rfl
    generalize of[q] = r at *
    simp only [RunD.cs, AtN, KS, Nat.reduceAdd, Nat.reduceMul, Nat.reduceEqDiff, ↓reduceIte, UT] at r1
    (repeat with_reducible first | refine jy ?_ | refine jw KL47 [] (aa TF47 (aa ofs (aa ofl r1))) fun _ => ?_)
    refine SemW_allocT ti34 fun px w4 h4 => ?_
    have b4 := h4.blk
    (repeat with_reducible first | refine jy ?_ | refine jw KL47 [] TF47 fun _ => ?_)
    refine SemW_setW (by rw [cells34]; decide) (by rw [cells34]; rfl) h4.row (by rw [cells34]; rfl) rfl fun w5 r5 k5 z5 => ?_
    have r5 : Row w5 px 34 r.cs := by simpa [Value.cells, RunD.cs] using r5
    have x35 : Ext w3 w5 := Keep.ext h4.ext k5 fun b hb => by omega
    have n5 := r5.n
    simp only [RunD.cs, AtN, KS, Nat.reduceAdd, Nat.reduceMul, Nat.reduceEqDiff, ↓reduceIte, UT] at n5
    (repeat with_reducible first | refine jy ?_ | refine jw KL47 [] (aa TF47 n5) fun _ => ?_)
    refine CallW_pure call69 (idxR vof r of w5 (hof.ext (y3.trans x35))) fun w6 x6 => ?_
    have x36 := x35.trans x6
    have n6 := (r5.ext x6).n
    have a6 := A w6 (x3.trans x36)
    simp only [RunD.cs, AtN, KS, Nat.reduceAdd, Nat.reduceMul, Nat.reduceEqDiff, ↓reduceIte, UT] at n6
    (repeat with_reducible first | refine jy ?_ | refine jw KL47 [] TF47 fun _ => ?_)
    refine Run_condS (fun _ => rfl) (fun h => ?_) (fun h => ?_)
    · have hm : r ∉ of.take q := hfst.1 (by simpa using h)
      (repeat with_reducible first | refine jy ?_ | refine jw KL47 [] (aa TF47 (aa n6 a6)) fun _ => ?_)
      refine srLoadW (t := t) (covers := covers) (vl := vl) (u0 := u0) (u1 := u1) (u2 := u2) (vO := vO) (ho.ext (y3.trans x36)) (hof.ext (y3.trans x36)) hn h64 hcr fun w7 x7 => ?_
      have hD4 : s + (Pl.load l of r).covers = Pl.sum ((r :: D).map fun x => (Pl.load l of x).covers) := by
        rw [hD3]; simp [Pl.sum]; omega
      generalize Pl.load l of r = z at *
      (repeat with_reducible first | refine jy ?_ | refine jw KL47 [] TF47 fun _ => ?_)
      refine Run_lp ⟨(q + 1, s + z.covers), by rw [hcd]; simp [SubB, fnd, strike, has], ⟨by show q + 1 ≤ of.length; omega, x3.trans (x36.trans x7), by show 0 ≤ s + z.covers ∧ s + z.covers ≤ 65 * ((q + 1 : Nat) : Int); omega, r :: D, List.nodup_cons.2 ⟨fun e => hm ((hD2 r).1 e), hD1⟩, fun x => ?_, ?_⟩, by show of.length - (q + 1) < of.length - q; omega⟩
      · show x ∈ r :: D ↔ x ∈ of.take (q + 1)
        rw [htk, List.mem_cons, hD2]
        constructor
        · rintro (h | h)
          · exact .inr h
          · exact .inl h
        · rintro (h | h)
          · exact .inr h
          · exact .inl h
      · exact hD4
    · have hm : r ∈ of.take q := Classical.byContradiction fun e => by
        have := hfst.2 e
        rw [this] at h
        simp at h
      (repeat with_reducible first | refine jy ?_ | refine jw KL47 [] TF47 fun _ => ?_)
      refine Run_lp ⟨(q + 1, s), by simp [SubB, fnd, strike, has], ⟨by show q + 1 ≤ of.length; omega, x3.trans x36, by show 0 ≤ s ∧ s ≤ 65 * ((q + 1 : Nat) : Int); omega, D, hD1, fun x => ?_, hD3⟩, by show of.length - (q + 1) < of.length - q; omega⟩
      show x ∈ D ↔ x ∈ of.take (q + 1)
      rw [htk, hD2]
      constructor
      · exact .inl
      · rintro (h | h)
        · exact h
        · rw [h]; exact hm
  · simp at h
    obtain rfl : q = of.length := by omega
    rw [List.take_length] at hD2
    have hst : s = Pl.tot l of := by rw [hD3]; exact Pl.sum_tot hD1 of hn fun r hr => (hD2 r).2 hr
    have a3 := A w3 x3
    (repeat with_reducible first | refine jy ?_ | refine jw KL47 [] (aa TF47 a3) fun _ => ?_)
    refine Run_ret ?_
    simp [Rets, RetM, resV, fnd, oneOr, Rf.short, hst]
    exact x1.trans x3
end
end Go.Proofs.YtldjfebokojmfaaGreat
