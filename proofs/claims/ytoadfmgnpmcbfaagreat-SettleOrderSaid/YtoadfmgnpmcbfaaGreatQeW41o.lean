import Derived.Test.YtoadfmgnpmcbfaaGreatQeG9
import Derived.Test.YtoadfmgnpmcbfaaGreatQeP41d
import Derived.Test.YtoadfmgnpmcbfaaGreatQeMpI
import Derived.Test.YtoadfmgnpmcbfaaGreatQeIns
/- Chapter 41: SettleOrder. -/
namespace Go.Proofs.YtoadfmgnpmcbfaaGreat
open Go Go.Fk
set_option linter.unusedSimpArgs false
set_option linter.unusedVariables false
set_option maxRecDepth 100000
def partL : List (Int × Value) := [(1, .int .i64 1), (2, .int .i64 2), (3, .int .i64 2), (4, .int .i64 2), (5, .int .i64 3), (6, .int .i64 4)]
theorem part_get {x : Int} (h : 1 ≤ x ∧ x ≤ 6) : (iget partL x).getD (.int .i64 0) = .int .i64 (Au.ptW x) := by
  rcases (by omega : x = 1 ∨ x = 2 ∨ x = 3 ∨ x = 4 ∨ x = 5 ∨ x = 6) with rfl | rfl | rfl | rfl | rfl | rfl <;> rfl
theorem pt_bd {x : Int} (h : 1 ≤ x ∧ x ≤ 6) : (1 ≤ Au.ptW x ∧ Au.ptW x ≤ 4) ∧ (Au.ptW x = 1 ↔ x = 1) ∧ (Au.ptW x = 4 ↔ x = 6) ∧ ((Au.ptW x = 2 ∨ Au.ptW x = 3) ↔ (2 ≤ x ∧ x ≤ 5)) := by
  rcases (by omega : x = 1 ∨ x = 2 ∨ x = 3 ∨ x = 4 ∨ x = 5 ∨ x = 6) with rfl | rfl | rfl | rfl | rfl | rfl <;> decide
set_option maxHeartbeats 4000000 in
theorem lawSettleOrder (vl u0 u1 u2 vo v0 v1 v2 vh : Value) (t : TimeD) (f : TariffD) (l : List OrderD) (p : PlanD) (hd : List Int) (w : World) (hl : Sl w vl t.Lines) (hT : TarR w f u0 u1 u2) (ho : Sl w vo l) (hP : PlanR w p v0 v1 v2) (hh : Sl w vh hd) :
    Calls Tryz.prog 12 #[.agg (t.cs vl).toArray, .agg (f.cs u0 u1 u2).toArray, vo, .agg (p.cs v0 v1 v2).toArray, vh] w fun e w' => e = .returned (.bool true) ∧ Ext w w' := by
  refine Calls_of_Run (args := [.agg (t.cs vl).toArray, .agg (f.cs u0 u1 u2).toArray, vo, .agg (p.cs v0 v1 v2).toArray, vh]) (n := 133) (rs := [.tmp 10]) Tryz.func12 rfl rfl rfl (by simp) ?_
  (repeat with_reducible first | refine js ?_ | refine ja ?_ | refine jw KL12 [18] TF12 fun _ => ?_)
  refine SemW_box fun pt w1 h1 => SemW_box fun pf w2 h2 => SemW_box fun pp w3 h3 => ?_
  have x3 := h1.ext.trans (h2.ext.trans h3.ext)
  have T : ∀ w', Ext w3 w' → AtN w' pt 0 (t.cs vl) := fun w' x => (h1.at_.ext (h2.ext.trans (h3.ext.trans x))).n
  have F : ∀ w', Ext w3 w' → AtN w' pf 0 (f.cs u0 u1 u2) := fun w' x => (h2.at_.ext (h3.ext.trans x)).n
  have P : ∀ w', Ext w3 w' → AtN w' pp 0 (p.cs v0 v1 v2) := fun w' x => (h3.at_.ext x).n
  simp only [TimeD.cs, TariffD.cs, PlanD.cs, AtN, KS, Nat.reduceAdd, Nat.reduceMul, Nat.reduceEqDiff, ↓reduceIte, UT] at T F P
  (repeat with_reducible first | refine js ?_ | refine ja ?_ | refine jw KL12 [18] TF12 fun _ => ?_)
  refine sane41W fun w4 x4 => ?_
  (repeat with_reducible first | refine js ?_ | refine ja ?_ | refine jw KL12 [18] TF12 fun _ => ?_)
  refine Run_condS (fun _ => rfl) (fun h => by cases h) (fun _ => ?_)
  have y4 := x3.trans x4
  have t4 := T w4 x4
  have f4 := F w4 x4
  have p4 := P w4 x4
  (repeat with_reducible first | refine js ?_ | refine ja ?_ | refine jw KL12 [18] (aa TF12 (aa t4 (aa f4 p4))) fun _ => ?_)
  refine few41W (hl.ext y4) (hT.ext y4) (ho.ext y4) (hP.ext y4) (hh.ext y4) fun b w5 x5 hb => ?_
  have y5 := y4.trans x5
  (repeat with_reducible first | refine js ?_ | refine ja ?_ | refine jw KL12 [18] TF12 fun _ => ?_)
  refine Run_condS (fun _ => rfl) (fun h => ?_) (fun h => ?_)
  · (repeat with_reducible first | refine js ?_ | refine ja ?_ | refine jw KL12 [18] TF12 fun _ => ?_)
    refine Run_ret ?_
    simp [Rets, RetM, resV, fnd, oneOr, y5]
  have hb := hb (by simpa using h)
  clear h
  have z5 := x4.trans x5
  have t5 := T w5 z5
  have f5 := F w5 z5
  have p5 := P w5 z5
  (repeat with_reducible first | refine js ?_ | refine ja ?_ | refine jw KL12 [18] (aa TF12 (aa t5 (aa f5 p5))) fun _ => ?_)
  refine allW rfl (hl.ext y5) (hT.ext y5) (ho.ext y5) (hP.ext y5) (hh.ext y5) hb.2.1 (by omega) fun vm w6 x6 sm => ?_
  have y6 := y5.trans x6
  (repeat with_reducible first | refine js ?_ | refine ja ?_ | refine jw KL12 [18] TF12 fun _ => ?_)
  refine Run_condS (fun _ => rfl) (fun h => ?_) (fun h => ?_)
  · (repeat with_reducible first | refine js ?_ | refine ja ?_ | refine jw KL12 [18] TF12 fun _ => ?_)
    refine Run_ret ?_
    simp [Rets, RetM, resV, fnd, oneOr]
    exact y6
  have h0 : (Au.all t f l p hd).2 = 0 := by simpa using h
  clear h
  obtain ⟨he, hn, ha⟩ := Au.all_ok h0
  have hK := Au.err_ok he
  have hF : 0 ≤ Ec.eff (Au.pre t f l p hd) 1 := by
    have := Au.negAt_no hn (Au.pre t f l p hd).length
    rwa [List.take_length] at this
  have hO := Au.asked_ord hK hb.2.1 (by omega) hF
  have hXl := Au.asked_len hK hb.2.1
  rw [ha] at sm ⊢
  simp only at sm
  have hol := ho.len
  generalize Au.asked t f l p hd = X at *
  generalize (Au.pre t f l p hd).length = q at *
  have hn12 := hb.1
  have hlenX := hO.len
  have sml := sm.len
  rw [Au.num_len] at sml
  have hflat : Tryz.prog.underlying 3 = some (.int .i64) := Tryz.underlying3
  (repeat with_reducible first | refine jq ?_ | refine jk ?_ | refine jc ?_ | refine jl ?_ | refine jb ?_ | refine jo ?_ | refine ji ?_ | refine jx rfl ?_)
  refine Run_regionI KL12 (by kernel_rfl) (by kernel_rfl) fun _ => ?_
  simp only [List.map_cons, List.map_nil, noIns]
  (try simp (maxSteps := 5000000) only [KS, Nat.reduceAdd, Nat.reduceMul, Nat.reduceEqDiff, ↓reduceIte, forall_const, Int.cast_ofNat_Int, Int.reduceToNat, List.take_succ_cons, List.take_zero, List.drop_succ_cons, List.drop_zero, TF12, KL12]); (try simp (disch := omega) only [wrapI, tmodI, tdivI])
  refine SemW_makeMapI fun w7 m7 x7 z7 => ?_
  generalize hmb : w6.heap.size = mb at *
  refine SemW_mapUpdateI Tryz.underlying73 hflat m7 fun w8 m8 k8 z8 => ?_
  refine SemW_mapUpdateI Tryz.underlying73 hflat m8 fun w9 m9 k9 z9 => ?_
  refine SemW_mapUpdateI Tryz.underlying73 hflat m9 fun w10 m10 k10 z10 => ?_
  refine SemW_mapUpdateI Tryz.underlying73 hflat m10 fun w11 m11 k11 z11 => ?_
  refine SemW_mapUpdateI Tryz.underlying73 hflat m11 fun w12 m12 k12 z12 => ?_
  refine SemW_mapUpdateI Tryz.underlying73 hflat m12 fun w13 m13 k13 z13 => ?_
  have k713 := (((((k8.trans k9).trans k10).trans k11).trans k12).trans k13)
  have x13 : Ext w6 w13 := Keep.ext x7 k713 fun b hb => by omega
  have M13 : MapI w13 mb partL := m13
  clear m7 m8 m9 m10 m11 m12 m13 k8 k9 k10 k11 k12 k13 k713
  have sm13 := sm.ext x13
  have hX4096 : X.length ≤ 4096 := by omega
  have hqX : l.length ≤ X.length := by omega
  have hq2 : q ≤ X.length := by omega
  (repeat with_reducible first | refine js ?_ | refine ja ?_ | refine jw KL12 [18] (aa TF12 (aa sm13.s sml)) fun _ => ?_)
  refine Run_loopV [10, 14, 15, 16, 17, 18, 19, 44, 45, 60, 62, 97, 98, 99, 105, 108, 119] (σ := Nat) (fun k => [(44, some (.int .i64 k)), (14, some (.int .i64 (min k l.length : Nat))), (15, some (.int .i64 (k - q : Nat)))]) (fun k w' => k ≤ X.length ∧ Ext w13 w') (fun k => X.length - k) 0 (by simp [SubB, fnd]) ⟨by omega, Ext.refl _⟩ ?_
  rintro k w14 ⟨hk, x14⟩
  have sm14 := sm13.ext x14
  have M14 := M13.ext x14
  have y14 := y6.trans (x13.trans x14)
  (repeat with_reducible first | refine js ?_ | refine ja ?_ | refine jw KL12 [18] (aa TF12 (aa sm14.s sml)) fun _ => ?_)
  refine Run_condS (fun _ => rfl) (fun h => ?_) (fun h => ?_)
  · simp at h
    have hkl : k < X.length := by omega
    have hcast : (k : Int) < X.length := by omega
    clear h
    have hge : ∀ j (hj : j < X.length), (Au.num 0 X)[j]'(by rw [Au.num_len]; exact hj) = { X[j] with No := (j : Int) } := fun j hj => by
      have := Au.num_get X 0 j
      rw [List.getElem?_eq_getElem (by rw [Au.num_len]; exact hj), List.getElem?_eq_getElem hj] at this
      simpa using this
    obtain ⟨e1, mI⟩ := sm14.moveD (show k < (Au.num 0 X).length by rw [Au.num_len]; exact hkl)
    rw [hge k hkl] at e1
    have hw := hO.why k hkl
    have hp := hO.post k hkl
    have hs := hO.share k hkl
    have hrg := hO.rng k hkl
    obtain ⟨pb, pb1, pb4, pb23⟩ := pt_bd hw
    simp only [MoveD.cs, AtN, KS, Nat.reduceAdd, Nat.reduceMul, Nat.reduceEqDiff, ↓reduceIte, UT] at e1
    (repeat with_reducible first | refine js ?_ | refine ja ?_ | refine jw KL12 [18] (aa TF12 (aa sm14.s (aa sml e1))) fun _ => ?_)
    refine SemW_allocT ti70 fun pm w15 h15 => ?_
    have b15 := h15.blk
    (repeat with_reducible first | refine js ?_ | refine ja ?_ | refine jw KL12 [18] TF12 fun _ => ?_)
    refine SemW_setW (by rw [cells70]; decide) (by rw [cells70]; rfl) h15.row (by rw [cells70]; rfl) rfl fun w16 r16 k16 z16 => ?_
    have r16 : Row w16 pm 70 ({ X[k] with No := (k : Int) } : MoveD).cs := by simpa [Value.cells, MoveD.cs] using r16
    have x16 : Ext w14 w16 := Keep.ext h15.ext k16 fun b hb => by omega
    have n16 := r16.n
    simp only [AtN, KS, Nat.reduceAdd, Nat.reduceMul, Nat.reduceEqDiff, ↓reduceIte, UT, MoveD.cs] at n16
    have M16 := M14.ext x16
    (repeat with_reducible first | refine js ?_ | refine ja ?_ | refine jw KL12 [18] (aa TF12 n16) fun _ => ?_)
    refine SemW_lookupI Tryz.underlying73 hflat ti3 M16 ?_
    rw [part_get hw]
    (repeat with_reducible first | refine js ?_ | refine ja ?_ | refine jw KL12 [18] (aa TF12 (aa n16 (aa @beq_self_eq_true.{0} (aa @bne_self_eq_false.{0} KX)))) fun _ => ?_)
    refine Run_condS (fun _ => rfl) (fun h => ?_) (fun h => ?_)
    · simp at h; omega
    clear h
    have x1316 := x14.trans x16
    have hrest : ∀ w17, Ext w16 w17 → Row w17 pm 70 ({ X[k] with No := (k : Int) } : MoveD).cs := fun w17 x => r16.ext x
    have hrun := hO.run
    (repeat with_reducible first | refine js ?_ | refine ja ?_ | refine jw KL12 [18] TF12 fun _ => ?_)
    refine Run_cutV [10, 19, 62, 97] (σ := Unit) (fun _ => []) (fun _ w' => Ext w16 w') ?_ ?_
    · refine Run_condS (fun _ => rfl) (fun h => ?_) (fun h => ?_)
      · have hk0 : 0 < k := by simp at h; omega
        clear h
        obtain ⟨j, rfl⟩ : ∃ j, k = j + 1 := ⟨k - 1, by omega⟩
        have hj : j < X.length := by omega
        have hj1 : (((j + 1 : Nat) : Int)) - 1 = (j : Int) := by omega
        have hjc : (j : Int) < X.length := by omega
        obtain ⟨e2, mI2⟩ := (sm14.ext x16).moveD (show j < (Au.num 0 X).length by rw [Au.num_len]; exact hj)
        rw [hge j hj] at e2
        have hw2 := hO.why j hj
        have hrg2 := hO.rng j hj
        obtain ⟨pb', pb1', pb4', pb23'⟩ := pt_bd hw2
        have hru := hrun j hkl
        unfold Au.kkM at hru
        simp only [MoveD.cs, AtN, KS, Nat.reduceAdd, Nat.reduceMul, Nat.reduceEqDiff, ↓reduceIte, UT] at e2
        (repeat with_reducible first | refine js ?_ | refine ja ?_ | refine jw KL12 [18] (aa TF12 (aa sm14.s (aa sml (aa e2 (aa hj1 n16))))) fun _ => ?_)
        refine SemW_lookupI Tryz.underlying73 hflat ti3 M16 ?_
        rw [part_get hw2]
        (repeat with_reducible first | refine js ?_ | refine ja ?_ | refine jw KL12 [18] (aa TF12 (aa sm14.s (aa sml (aa e2 (aa hj1 (aa n16 KX)))))) fun _ => ?_)
        intro w17 x17
        refine Run_condS (fun _ => rfl) (fun h => ?_) (fun h => ?_)
        · exfalso
          simp only [Bool.or_eq_true, Bool.and_eq_true, decide_eq_true_eq, beq_iff_eq] at h
          by_cases q1 : 2 ≤ X[j].Why ∧ X[j].Why ≤ 5 <;> by_cases q2 : 2 ≤ X[j + 1].Why ∧ X[j + 1].Why ≤ 5
          · rw [if_pos q1, if_pos q2] at hru; omega
          · rw [if_pos q1, if_neg q2] at hru; omega
          · rw [if_neg q1, if_pos q2] at hru; omega
          · rw [if_neg q1, if_neg q2] at hru; omega
        clear h
        (repeat with_reducible first | refine js ?_ | refine ja ?_ | refine jw KL12 [18] TF12 fun _ => ?_)
        exact Run_lp ⟨(), by simp [SubB, fnd, strike, has], x17⟩
      · (repeat with_reducible first | refine js ?_ | refine ja ?_ | refine jw KL12 [18] TF12 fun _ => ?_)
        exact Run_lp ⟨(), by simp [SubB, fnd, strike, has], Ext.refl _⟩
    rintro _ w17 x17
    have n17 := (hrest w17 x17).n
    simp only [AtN, KS, Nat.reduceAdd, Nat.reduceMul, Nat.reduceEqDiff, ↓reduceIte, UT, MoveD.cs] at n17
    have y17 : Ext w13 w17 := x1316.trans x17
    (repeat with_reducible first | refine js ?_ | refine ja ?_ | refine jw KL12 [18] TF12 fun _ => ?_)
    refine Run_condS (fun _ => rfl) (fun h => ?_) (fun h => ?_)
    · have h1 : Au.ptW X[k].Why = 1 := by simpa using h
      clear h
      have hw1 := pb1.1 h1
      have hkn : k < l.length := by
        rcases Nat.lt_or_ge k l.length with e | e
        · exact e
        · exact (hp.2 e hw1).elim
      have hfr := (hp.1 hkn).2
      have hkq : k < q := by
        rcases Nat.lt_or_ge k q with e | e
        · exact e
        · have := (hs.1 e).1; omega
      have hmin : min k l.length = k := by omega
      have hq0 : k - q = 0 := by omega
      (repeat with_reducible first | refine js ?_ | refine ja ?_ | refine jw KL12 [18] (aa TF12 (aa n17 (aa hfr (aa hmin (aa hq0 (aa @bne_self_eq_false.{0} KX)))))) fun _ => ?_)
      refine Run_condS (fun _ => rfl) (fun h => by cases h) (fun _ => ?_)
      (repeat with_reducible first | refine js ?_ | refine ja ?_ | refine jw KL12 [18] TF12 fun _ => ?_)
      refine Run_lp ⟨k + 1, ?_, ⟨by omega, y17⟩, by omega⟩
      rw [show min (k + 1) l.length = k + 1 by omega, show k + 1 - q = 0 by omega]
      simp [SubB, fnd, strike, has]
    · have h1 : Au.ptW X[k].Why ≠ 1 := by simpa using h
      clear h
      have hkn : l.length ≤ k := by
        rcases Nat.lt_or_ge k l.length with e | e
        · exact (h1 (pb1.2 (hp.1 e).1)).elim
        · exact e
      have hmin : min k l.length = l.length := by omega
      have hmin1 : min (k + 1) l.length = l.length := by omega
      (repeat with_reducible first | refine js ?_ | refine ja ?_ | refine jw KL12 [18] TF12 fun _ => ?_)
      refine Run_condS (fun _ => rfl) (fun h => ?_) (fun h => ?_)
      · have h4 : Au.ptW X[k].Why = 4 := by simpa using h
        clear h
        have hkq : q ≤ k := by
          rcases Nat.lt_or_ge k q with e | e
          · exact (hs.2 e (pb4.1 h4)).elim
          · exact e
        obtain ⟨_, s2, s3⟩ := hs.1 hkq
        (repeat with_reducible first | refine js ?_ | refine ja ?_ | refine jw KL12 [18] (aa TF12 (aa n17 (aa s2 (aa s3 (aa @bne_self_eq_false.{0} KX))))) fun _ => ?_)
        refine Run_condS (fun _ => rfl) (fun h => by cases h) (fun _ => ?_)
        (repeat with_reducible first | refine js ?_ | refine ja ?_ | refine jw KL12 [18] TF12 fun _ => ?_)
        refine Run_lp ⟨k + 1, ?_, ⟨by omega, y17⟩, by omega⟩
        rw [hmin1, show k + 1 - q = (k - q) + 1 by omega, ← hmin]
        simp [SubB, fnd, strike, has]
      · have h4 : Au.ptW X[k].Why ≠ 4 := by simpa using h
        clear h
        have hkq : k < q := by
          rcases Nat.lt_or_ge k q with e | e
          · exact e
          · exact (h4 (pb4.2 (hs.1 e).1)).elim
        (repeat with_reducible first | refine js ?_ | refine ja ?_ | refine jw KL12 [18] TF12 fun _ => ?_)
        refine Run_lp ⟨k + 1, ?_, ⟨by omega, y17⟩, by omega⟩
        rw [hmin1, show k + 1 - q = k - q by omega, ← hmin]
        simp [SubB, fnd, strike, has]
  · simp at h
    obtain rfl : k = X.length := by omega
    clear h
    rw [show min X.length l.length = l.length by omega, show X.length - q = l.length by omega]
    (repeat with_reducible first | refine js ?_ | refine ja ?_ | refine jw KL12 [18] (aa TF12 (aa ho.s (aa hol (aa @beq_self_eq_true.{0} KX)))) fun _ => ?_)
    refine Run_ret ?_
    simp [Rets, RetM, resV, fnd, oneOr]
    exact y14
end Go.Proofs.YtoadfmgnpmcbfaaGreat
