/- Chapter 22: the reference's fits and Check. -/
import Derived.Test.YtoadfmgnpmcbfaaGreatW22h
namespace Go.Proofs.YtoadfmgnpmcbfaaGreat
open Go Go.Fk
set_option linter.unusedSimpArgs false
set_option linter.unusedVariables false
set_option maxRecDepth 100000

set_option maxHeartbeats 2000000 in
theorem rfFits (vl : Value) (t : TimeD) (f : TariffD) (u0 u1 u2 : Value) (o : OrderD) (g : Value) (r : RunD) (w : World) (hl : Sl w vl t.Lines) (hT : TarR w f u0 u1 u2) (hO : OrdR w o g) (hr : 0 ≤ r.Line ∧ r.Line < t.Lines.length) (hk : Tt.LOk (Pl.lineR t r) t.Offices) (hc : 0 ≤ o.Class ∧ o.Class < 8) (hcr : 1 ≤ o.Crowd ∧ o.Crowd ≤ 64) :
    Calls Tryz.prog 107 #[.agg (t.cs vl).toArray, .agg (f.cs u0 u1 u2).toArray, .agg (o.cs g).toArray, .agg r.cs.toArray] w fun e w' => e = .returned (.bool (Pl.fits t f o r)) ∧ Ext w w' := by
  have hlen := hl.len
  refine Calls_of_Run (args := [.agg (t.cs vl).toArray, .agg (f.cs u0 u1 u2).toArray, .agg (o.cs g).toArray, .agg r.cs.toArray]) (n := 101) (rs := [.tmp 8]) Tryz.func107 rfl rfl rfl (by simp) ?_
  (repeat with_reducible first | refine js ?_ | refine ja ?_ | refine jw KL107 [3, 11] TF107 fun _ => ?_)
  refine SemW_box fun pt w1 h1 => SemW_box fun pf w2 h2 => SemW_box fun po w3 h3 => SemW_box fun pr w4 h4 => ?_
  have x4 := h1.ext.trans (h2.ext.trans (h3.ext.trans h4.ext))
  have T : ∀ w', Ext w4 w' → AtN w' pt 0 (t.cs vl) := fun w' x => (h1.at_.ext (h2.ext.trans (h3.ext.trans (h4.ext.trans x)))).n
  have F : ∀ w', Ext w4 w' → AtN w' pf 0 (f.cs u0 u1 u2) := fun w' x => (h2.at_.ext (h3.ext.trans (h4.ext.trans x))).n
  have O : ∀ w', Ext w4 w' → AtN w' po 0 (o.cs g) := fun w' x => (h3.at_.ext (h4.ext.trans x)).n
  have R : ∀ w', Ext w4 w' → AtN w' pr 0 r.cs := fun w' x => (h4.at_.ext x).n
  simp only [TimeD.cs, TariffD.cs, OrderD.cs, RunD.cs, AtN, KS, Nat.reduceAdd, Nat.reduceMul, Nat.reduceEqDiff, ↓reduceIte, UT] at T F O R
  have hlt : r.Line.toNat < t.Lines.length := by omega
  have hlo : Pl.lineR t r = t.Lines[r.Line.toNat] := by unfold Pl.lineR; simp [List.getD_eq_getElem?_getD, hlt]
  obtain ⟨l0, l1, l2, l3, e1, e2, hR⟩ := (hl.ext x4).line hlt
  have hone := hR.one
  have hres : Pl.fits t f o r = (Pl.c0 (Pl.lineR t r) o && Pl.c1 (Pl.lineR t r) o && Pl.c2 o r && Pl.c3 f (Pl.lineR t r) o && Pl.c4 (Pl.lineR t r) o && Pl.c5 (Pl.lineR t r) o) := rfl
  rw [hlo] at hk hres
  generalize hxx : t.Lines[r.Line.toNat] = x at *
  have t4 := T w4 (Ext.refl _)
  have r4 := R w4 (Ext.refl _)
  simp only [LineD.cs, AtN, KS, Nat.reduceAdd, Nat.reduceMul, Nat.reduceEqDiff, ↓reduceIte, UT] at e1
  simp only [LineD.cs] at hone
  (repeat with_reducible first | refine js ?_ | refine ja ?_ | refine jw KL107 [3, 11] (aa TF107 (aa t4 (aa r4 (aa e1 (aa hl.s hl.len))))) fun _ => ?_)
  refine SemW_allocT ti52 fun px w5 h5 => ?_
  have b5 := h5.blk
  (repeat with_reducible first | refine js ?_ | refine ja ?_ | refine jw KL107 [3, 11] TF107 fun _ => ?_)
  refine SemW_setW (by rw [cells52]; decide) (by rw [cells52]; rfl) h5.row (by rw [cells52]; rfl) (by simpa [Value.cells] using hone) fun w6 r6 k6 z6 => ?_
  have r6 : Row w6 px 52 (x.cs l0 l1 l2 l3) := by simpa [Value.cells, LineD.cs] using r6
  have x6 : Ext w4 w6 := Keep.ext h5.ext k6 fun q hq => by omega
  have y6 := x4.trans x6
  have X : ∀ w', Ext w6 w' → AtN w' px 0 (x.cs l0 l1 l2 l3) := fun w' x => (r6.at_.ext x).n
  simp only [LineD.cs, AtN, KS, Nat.reduceAdd, Nat.reduceMul, Nat.reduceEqDiff, ↓reduceIte, UT] at X
  have hR6 := hR.ext x6
  have X6 := X w6 (Ext.refl _)
  have o6 := O w6 x6
  have rr6 := R w6 x6
  have hon := hk.o2
  have hon9 := hk.o9
  have hln := hk.l1
  have hrm := hk.m
  have hol := hR6.o.len
  have hll := hR6.l.len
  obtain ⟨a1, a2, a3⟩ := hR6.o.get (i := 0) (by omega)
  obtain ⟨b1, b2, b3⟩ := hR6.o.get (i := x.Offices.length - 1) (by omega)
  rw [add_zero] at a1 a2
  have n1 : ((x.Offices.length : Int) - 1).toNat = x.Offices.length - 1 := by omega
  have q0 : x.Offices[0]'(by omega) = x.Offices.getD 0 0 := by simp [List.getD_eq_getElem?_getD, show 0 < x.Offices.length by omega]
  have q1 : x.Offices[x.Offices.length - 1]'(by omega) = x.Offices.getD (x.Offices.length - 1) 0 := by simp [List.getD_eq_getElem?_getD, show x.Offices.length - 1 < x.Offices.length by omega]
  rw [q0] at a1
  rw [q1] at b1
  have hcl := hk.c
  obtain ⟨cn, hcn⟩ : ∃ n : Nat, x.Classes = n := ⟨x.Classes.toNat, by omega⟩
  obtain ⟨kn, hkn⟩ : ∃ n : Nat, o.Class = n := ⟨o.Class.toNat, by omega⟩
  have hc0 : Pl.c0 x o = (iand .i64 ((cn : Int).fdiv (2 ^ (min kn 64))) 1 == 1) := by unfold Pl.c0; rw [hcn, hkn, Int.toNat_natCast]
  (repeat with_reducible first | refine js ?_ | refine ja ?_ | refine jw KL107 [3, 11] (aa TF107 (aa X6 (aa o6 (aa rr6 (aa hR6.o.s (aa hR6.o.len (aa a1 (aa a2 (aa b1 (aa b2 n1)))))))))) fun _ => ?_)
  refine ⟨.bool (Pl.c0 x o), ?_, rfl, ?_⟩
  · rw [hcn, hkn, hc0]
    exact PC_pure call166 fun w7 x7 => rfBit cn kn (by omega) (by omega) w7
  refine ⟨fun _ => ⟨by omega, by omega⟩, fun _ => ⟨by omega, by omega⟩, fun w7 x7 => ?_⟩
  have hb : (!Pl.c0 x o || x.Offices.getD 0 0 != o.From || x.Offices.getD (x.Offices.length - 1) 0 != o.Dest || decide (r.At < o.After) || decide (o.By < r.Arrive) || decide (x.Room < o.Crowd + 1)) = !(Pl.c0 x o && Pl.c1 x o && Pl.c2 o r && Pl.c4 x o) := by
    generalize Pl.c0 x o = c
    rw [Bool.eq_iff_iff]
    simp only [Pl.c1, Pl.c2, Pl.c4, Bool.or_eq_true, Bool.not_eq_true', bne_iff_ne, ne_eq, decide_eq_true_eq, Bool.and_eq_false_iff, decide_eq_false_iff_not]
    constructor
    · rintro (((((h | h) | h) | h) | h) | h)
      · exact .inl (.inl (.inl h))
      · exact .inl (.inl (.inr (.inl h)))
      · exact .inl (.inl (.inr (.inr h)))
      · exact .inl (.inr (.inl (by omega)))
      · exact .inl (.inr (.inr (by omega)))
      · exact .inr (by omega)
    · rintro (((h | (h | h)) | (h | h)) | h)
      · exact .inl (.inl (.inl (.inl (.inl h))))
      · exact .inl (.inl (.inl (.inl (.inr h))))
      · exact .inl (.inl (.inl (.inr h)))
      · exact .inl (.inl (.inr (by omega)))
      · exact .inl (.inr (by omega))
      · exact .inr (by omega)
  have y7 := y6.trans x7
  have fal : (Pl.c0 x o && Pl.c1 x o && Pl.c2 o r && Pl.c4 x o) = false → Pl.fits t f o r = false := fun h => by
    rw [hres]
    revert h
    cases Pl.c0 x o <;> cases Pl.c1 x o <;> cases Pl.c2 o r <;> cases Pl.c4 x o <;> simp
  refine Run_condS (fun _ => rfl) (fun h => ?_) (fun h => ?_)
  · have h2 : (!(Pl.c0 x o && Pl.c1 x o && Pl.c2 o r && Pl.c4 x o)) = true := hb.symm.trans h
    (repeat with_reducible first | refine js ?_ | refine ja ?_ | refine jw KL107 [3, 11] TF107 fun _ => ?_)
    refine Run_ret ?_
    simp [Rets, RetM, resV, fnd, oneOr, fal (by simpa only [Bool.not_eq_true'] using h2), y7]
  have h2 : (!(Pl.c0 x o && Pl.c1 x o && Pl.c2 o r && Pl.c4 x o)) = false := hb.symm.trans h
  have hres2 : Pl.fits t f o r = (Pl.c3 f x o && Pl.c5 x o) := by
    rw [hres]
    simp only [Bool.not_eq_false', Bool.and_eq_true] at h2
    rw [h2.1.1.1, h2.1.1.2, h2.1.2, h2.2]; simp
  clear h h2 hb fal hres
  have f7 := F w7 (x6.trans x7)
  have o7 := O w7 (x6.trans x7)
  have X7 := X w7 x7
  (repeat with_reducible first | refine js ?_ | refine ja ?_ | refine jw KL107 [3, 11] (aa TF107 (aa f7 (aa o7 (aa X7 (aa hR6.l.s hR6.l.len))))) fun _ => ?_)
  refine CallW_pure call92 (rfPriceW f u0 u1 u2 o.Class x.Legs.length o.Crowd w7 (hT.ext y7)) fun w8 x8 => ?_
  have y8 := y7.trans x8
  have o8 := O w8 (x6.trans (x7.trans x8))
  (repeat with_reducible first | refine js ?_ | refine ja ?_ | refine jw KL107 [3, 11] (aa TF107 o8) fun _ => ?_)
  refine Run_condS (fun _ => rfl) (fun h => ?_) (fun h => ?_)
  · simp at h
    have : Pl.c3 f x o = false := by unfold Pl.c3; simp; omega
    (repeat with_reducible first | refine js ?_ | refine ja ?_ | refine jw KL107 [3, 11] TF107 fun _ => ?_)
    refine Run_ret ?_
    simp [Rets, RetM, resV, fnd, oneOr, hres2, this, y8]
  simp at h
  have h3 : Pl.c3 f x o = true := by unfold Pl.c3; simp; omega
  rw [h3, Bool.true_and] at hres2
  (repeat with_reducible first | refine js ?_ | refine ja ?_ | refine jw KL107 [3, 11] TF107 fun _ => ?_)
  refine Run_loopV [8, 13, 89, 100] (σ := Nat) (fun k => [(13, some (.int .i64 k)), (8, some (.bool false))]) (fun k w' => k ≤ x.Offices.length ∧ (∀ j (h : j < x.Offices.length), j < k → o.Against.contains x.Offices[j] = true) ∧ Ext w8 w') (fun k => x.Offices.length - k) 0 (by simp [SubB, fnd]) ⟨by omega, by simp, Ext.refl _⟩ ?_
  rintro k w9 ⟨hkk, hf, x9⟩
  have y9 := y8.trans x9
  have z9 := x7.trans (x8.trans x9)
  (repeat with_reducible first | refine js ?_ | refine ja ?_ | refine jw KL107 [3, 11] TF107 fun _ => ?_)
  refine Run_condS (fun _ => rfl) (fun h => ?_) (fun h => ?_)
  · simp at h
    have hkl := h
    obtain ⟨f1, f2, f3⟩ := (hR6.o.ext z9).get hkl
    have o9 := O w9 (x6.trans z9)
    have X9 := X w9 z9
    generalize hoo : x.Offices[k] = q at *
    (repeat with_reducible first | refine js ?_ | refine ja ?_ | refine jw KL107 [3, 11] (aa TF107 (aa o9 (aa X9 (aa hR6.o.s (aa hR6.o.len (aa f1 f2)))))) fun _ => ?_)
    refine ⟨.int .i64 (idx q o.Against 0), PC_pure call167 fun w10 x10 => rfIndex g o.Against q w10 (hO.g.ext (y9.trans x10)), rfl, fun w10 x10 => ?_⟩
    have y10 := y9.trans x10
    have him : decide (idx q o.Against 0 < 0) = !o.Against.contains q := by
      rw [← idx_mem (k := 0) (by omega), Bool.eq_iff_iff]; simp
    refine Run_condS (fun _ => rfl) (fun h => ?_) (fun h => ?_)
    · have h2 : (!o.Against.contains q) = true := him.symm.trans h
      (repeat with_reducible first | refine js ?_ | refine ja ?_ | refine jw KL107 [3, 11] TF107 fun _ => ?_)
      refine Run_ret ?_
      have : Pl.c5 x o = true := by
        unfold Pl.c5
        rw [List.any_eq_true]
        exact ⟨q, by rw [← hoo]; exact List.getElem_mem hkl, h2⟩
      simp [Rets, RetM, resV, fnd, oneOr, hres2, this, y10]
    · have h2 : (!o.Against.contains q) = false := him.symm.trans h
      (repeat with_reducible first | refine js ?_ | refine ja ?_ | refine jw KL107 [3, 11] TF107 fun _ => ?_)
      refine Run_lp ⟨k + 1, ?_, ⟨by omega, fun j hj hjk => ?_, x9.trans x10⟩, by omega⟩
      · simp [SubB, fnd, strike, has]
      · by_cases e : j = k
        · subst e; rw [hoo]; simpa using h2
        · exact hf j hj (by omega)
  · simp at h
    obtain rfl : k = x.Offices.length := by omega
    (repeat with_reducible first | refine js ?_ | refine ja ?_ | refine jw KL107 [3, 11] TF107 fun _ => ?_)
    refine Run_ret ?_
    have : Pl.c5 x o = false := by
      unfold Pl.c5
      rw [List.any_eq_false]
      intro y hy
      obtain ⟨j, hj, rfl⟩ := List.getElem_of_mem hy
      rw [hf j hj hj]; simp
    simp [Rets, RetM, resV, fnd, oneOr, hres2, this, y9]
end Go.Proofs.YtoadfmgnpmcbfaaGreat
