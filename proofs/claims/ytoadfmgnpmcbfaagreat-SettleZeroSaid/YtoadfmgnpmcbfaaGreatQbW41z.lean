import Derived.Test.YtoadfmgnpmcbfaaGreatQbG9
import Derived.Test.YtoadfmgnpmcbfaaGreatQbP41c
import Derived.Test.YtoadfmgnpmcbfaaGreatQbB38x
/- Chapter 41: SettleZero. -/
namespace Go.Proofs.YtoadfmgnpmcbfaaGreat
open Go Go.Fk
set_option linter.unusedSimpArgs false
set_option linter.unusedVariables false
set_option maxRecDepth 100000
/-- the start, filled up to account i -/
def richTo (i : Nat) : List Int := (List.range 115).map fun j => if 51 ≤ j ∧ j < i then 1099511627776 else 0
theorem richTo_set {i : Nat} (h1 : 51 ≤ i) (h2 : i < 115) : (ints (richTo i)).set i (.int .i64 1099511627776) = ints (richTo (i + 1)) := by
  refine List.ext_getElem? fun j => ?_
  rw [List.getElem?_set]
  simp only [ints, richTo, List.map_map, List.length_map, List.length_range, List.getElem?_map]
  by_cases hj : j < 115
  · rw [List.getElem?_range hj]
    by_cases e : i = j
    · subst e
      rw [if_pos rfl, if_pos h2]
      simp only [Option.map_some, Function.comp]
      rw [if_pos (by omega)]
    · rw [if_neg e]
      simp only [Option.map_some, Function.comp]
      congr 2
      by_cases q : 51 ≤ j ∧ j < i
      · rw [if_pos q, if_pos (by omega)]
      · rw [if_neg q, if_neg (by omega)]
  · rw [List.getElem?_eq_none (by simpa using hj)]
    rw [if_neg (by omega)]
    rfl
theorem sumE_bd {X : List MoveD} (hm : ∀ m ∈ X, Au.Mv m) : ∀ k : Nat, -(1099511627776 * (X.length : Int)) * k ≤ Au.sumE X k ∧ Au.sumE X k ≤ 1099511627776 * (X.length : Int) * k
  | 0 => by simp [Au.sumE]
  | k + 1 => by
    have ih := sumE_bd hm k
    have h1 := Ec.eff_bd X (fun x hx => (hm x hx).ok) k
    simp only [Au.sumE]
    rw [Int.natCast_add, Int.mul_add, Int.mul_add]
    constructor <;> omega
theorem start41 (w : World) : Calls Tryz.prog 38 #[] w fun e w' => ∃ v, e = .returned v ∧ Ext w w' ∧ Sl w' v Au.rich := by
  refine Calls_of_Run (args := []) (n := 12) (rs := [.tmp 0]) Tryz.func38 rfl rfl rfl (by simp) ?_
  (repeat with_reducible first | refine js ?_ | refine ja ?_ | refine jw KL38 [] TF38 fun _ => ?_)
  refine SemW_makeC (n := 115) Tryz.underlying25 ti3 (by decide) (by decide) (by decide) fun ps w1 h1 => ?_
  have b1 := h1.blk
  have x1 := h1.ext
  have r1 : Row w1 ps 3 (ints (richTo 51)) := by
    have := h1.row
    rwa [show (madeCells (Value.int .i64 0).cells (115 * 1)).toList = ints (richTo 51) by kernel_rfl] at this
  clear h1
  (repeat with_reducible first | refine js ?_ | refine ja ?_ | refine jw KL38 [] TF38 fun _ => ?_)
  refine Run_loopV [2, 5] (σ := Nat) (fun i => [(2, some (.int .i64 i))]) (fun i w' => (51 ≤ i ∧ i ≤ 115) ∧ Row w' ps 3 (ints (richTo i)) ∧ Ext w w') (fun i => 115 - i) 51 (by simp [SubB, fnd]) ⟨by omega, r1, x1⟩ ?_
  rintro i w2 ⟨hi, r2, x2⟩
  (repeat with_reducible first | refine js ?_ | refine ja ?_ | refine jw KL38 [] TF38 fun _ => ?_)
  refine Run_condS (fun _ => rfl) (fun h => ?_) (fun h => ?_)
  · simp at h
    have hi2 : i < 115 := by omega
    have hcast : (i : Int) < 115 := by omega
    clear h
    have hlen : (ints (richTo i)).length = 115 := by simp [ints, richTo]
    (repeat with_reducible first | refine js ?_ | refine ja ?_ | refine jw KL38 [] TF38 fun _ => ?_)
    refine SemW_setAt (i := i) (by rw [cells3]) r2 (by rw [hlen]; exact hi2) rfl rfl fun w3 r3 k3 z3 => ?_
    rw [richTo_set hi.1 hi2] at r3
    (repeat with_reducible first | refine js ?_ | refine ja ?_ | refine jw KL38 [] TF38 fun _ => ?_)
    refine Run_lp ⟨i + 1, by simp [SubB, fnd, strike, has], ⟨by omega, r3, Keep.ext x2 k3 fun b hb => by omega⟩, by omega⟩
  · simp at h
    obtain rfl : i = 115 := by omega
    (repeat with_reducible first | refine js ?_ | refine ja ?_ | refine jw KL38 [] TF38 fun _ => ?_)
    refine Run_ret ?_
    have e : richTo 115 = Au.rich := by decide
    have hs := rowInts r2 (fun x hx => by
      obtain ⟨k, hk, rfl⟩ := List.mem_map.1 hx
      split <;> simp [I64]) (by simp [richTo])
    rw [e, Au.rich_len] at hs
    simp [Rets, RetM, resV, fnd, oneOr]
    exact ⟨x2, hs⟩
theorem start41W {w : World} {K : Value → World → Prop} (hK : ∀ v w', Ext w w' → Sl w' v Au.rich → K v w') : CallW Tryz.prog (.func (.func 38) #[] #[]) [] w K :=
  CallW_gen call38 (start41 w) fun e w' ⟨v, he, x, s⟩ => ⟨_, he, hK v w' x s⟩
set_option maxHeartbeats 4000000 in
theorem lawSettleZero (vl u0 u1 u2 vo v0 v1 v2 vh : Value) (t : TimeD) (f : TariffD) (l : List OrderD) (p : PlanD) (hd : List Int) (w : World) (hl : Sl w vl t.Lines) (hT : TarR w f u0 u1 u2) (ho : Sl w vo l) (hP : PlanR w p v0 v1 v2) (hh : Sl w vh hd) :
    Calls Tryz.prog 13 #[.agg (t.cs vl).toArray, .agg (f.cs u0 u1 u2).toArray, vo, .agg (p.cs v0 v1 v2).toArray, vh] w fun e w' => e = .returned (.bool true) ∧ Ext w w' := by
  refine Calls_of_Run (args := [.agg (t.cs vl).toArray, .agg (f.cs u0 u1 u2).toArray, vo, .agg (p.cs v0 v1 v2).toArray, vh]) (n := 89) (rs := [.tmp 10]) Tryz.func13 rfl rfl rfl (by simp) ?_
  (repeat with_reducible first | refine js ?_ | refine ja ?_ | refine jw KL13 [] TF13 fun _ => ?_)
  refine SemW_box fun pt w1 h1 => SemW_box fun pf w2 h2 => SemW_box fun pp w3 h3 => ?_
  have x3 := h1.ext.trans (h2.ext.trans h3.ext)
  have T : ∀ w', Ext w3 w' → AtN w' pt 0 (t.cs vl) := fun w' x => (h1.at_.ext (h2.ext.trans (h3.ext.trans x))).n
  have F : ∀ w', Ext w3 w' → AtN w' pf 0 (f.cs u0 u1 u2) := fun w' x => (h2.at_.ext (h3.ext.trans x)).n
  have P : ∀ w', Ext w3 w' → AtN w' pp 0 (p.cs v0 v1 v2) := fun w' x => (h3.at_.ext x).n
  simp only [TimeD.cs, TariffD.cs, PlanD.cs, AtN, KS, Nat.reduceAdd, Nat.reduceMul, Nat.reduceEqDiff, ↓reduceIte, UT] at T F P
  (repeat with_reducible first | refine js ?_ | refine ja ?_ | refine jw KL13 [] TF13 fun _ => ?_)
  refine sane41W fun w4 x4 => ?_
  (repeat with_reducible first | refine js ?_ | refine ja ?_ | refine jw KL13 [] TF13 fun _ => ?_)
  refine Run_condS (fun _ => rfl) (fun h => by cases h) (fun _ => ?_)
  have y4 := x3.trans x4
  have t4 := T w4 x4
  have f4 := F w4 x4
  have p4 := P w4 x4
  (repeat with_reducible first | refine js ?_ | refine ja ?_ | refine jw KL13 [] (aa TF13 (aa t4 (aa f4 p4))) fun _ => ?_)
  refine few41W (hl.ext y4) (hT.ext y4) (ho.ext y4) (hP.ext y4) (hh.ext y4) fun b w5 x5 hb => ?_
  have y5 := y4.trans x5
  (repeat with_reducible first | refine js ?_ | refine ja ?_ | refine jw KL13 [] TF13 fun _ => ?_)
  refine Run_condS (fun _ => rfl) (fun h => ?_) (fun h => ?_)
  · (repeat with_reducible first | refine js ?_ | refine ja ?_ | refine jw KL13 [] TF13 fun _ => ?_)
    refine Run_ret ?_
    simp [Rets, RetM, resV, fnd, oneOr, y5]
  have hb := hb (by simpa using h)
  clear h
  have z5 := x4.trans x5
  have t5 := T w5 z5
  have f5 := F w5 z5
  have p5 := P w5 z5
  (repeat with_reducible first | refine js ?_ | refine ja ?_ | refine jw KL13 [] (aa TF13 (aa t5 (aa f5 p5))) fun _ => ?_)
  refine allW rfl (hl.ext y5) (hT.ext y5) (ho.ext y5) (hP.ext y5) (hh.ext y5) hb.2.1 (by omega) fun vm w6 x6 sm => ?_
  have y6 := y5.trans x6
  (repeat with_reducible first | refine js ?_ | refine ja ?_ | refine jw KL13 [] TF13 fun _ => ?_)
  refine Run_condS (fun _ => rfl) (fun h => ?_) (fun h => ?_)
  · have h0 : (Au.all t f l p hd).2 ≠ 0 := by simpa using h
    have he : (Au.all t f l p hd).1 = [] := by
      unfold Au.all at h0 ⊢
      split
      · rfl
      · rename_i e
        rw [if_neg e] at h0
        split
        · rfl
        · rename_i e2; rw [if_neg e2] at h0; exact (h0 rfl).elim
    rw [he] at sm
    (repeat with_reducible first | refine js ?_ | refine ja ?_ | refine jw KL13 [] (aa TF13 (aa sm.s sm.len)) fun _ => ?_)
    refine Run_ret ?_
    simp [Rets, RetM, resV, fnd, oneOr]
    exact y6
  have h0 : (Au.all t f l p hd).2 = 0 := by simpa using h
  clear h
  obtain ⟨he, hn, ha⟩ := Au.all_ok h0
  have hK := Au.err_ok he
  have hF : 0 ≤ Ec.eff (Au.pre t f l p hd) 1 := by
    have := Au.negAt_no hn (Au.pre t f l p hd).length
    rwa [List.take_length] at this
  have hst : Au.Start Au.rich t f l p := ⟨Au.rich_ok, fun i hi => by
    have := Ec.price_bd t f l p i
    rw [Au.rich_lo (by omega), if_pos (by omega)]; omega⟩
  obtain ⟨c1, c2, c3, c4⟩ := Au.book_bal hK hb.2.1 (by omega) (Au.negAt_no hn) hst
  have hall := Au.sumE_all (Au.asked_mv hK hb.2.1 hF)
  have hoth := fun j hj => Au.asked_oth hK hb.2.1 hF (j := j) hj
  rw [ha] at sm ⊢
  simp only at sm
  have hmv := Au.asked_mv hK hb.2.1 hF
  have hXl := Au.asked_len hK hb.2.1
  generalize Au.asked t f l p hd = X at *
  (repeat with_reducible first | refine js ?_ | refine ja ?_ | refine jw KL13 [] TF13 fun _ => ?_)
  refine start41W fun vs w7 x7 ss => ?_
  refine CallW_gen call33 (bkBalances vs vm _ _ w7 ss (sm.ext x7)) fun e w8 ⟨vb, he8, x8, sb⟩ => ⟨_, he8, ?_⟩
  rw [c2] at sb ⊢
  simp only at sb
  generalize Bk.after Au.rich (Au.num 0 X) = B at *
  have x78 := x7.trans x8
  (try simp (maxSteps := 5000000) only [KS, Nat.reduceAdd, Nat.reduceMul, Nat.reduceEqDiff, ↓reduceIte, forall_const, Int.cast_ofNat_Int, Int.reduceToNat, List.take_succ_cons, List.take_zero, List.drop_succ_cons, List.drop_zero, TF13, KL13]); (try simp (disch := omega) only [wrapI, tmodI, tdivI])
  refine ⟨by decide, by decide, ?_⟩
  (repeat with_reducible first | refine js ?_ | refine ja ?_ | refine jw KL13 [] TF13 fun _ => ?_)
  refine CallW_pure call39 (bkCheck vm _ w8 (sm.ext x78)) fun w9 x9 => ?_
  rw [c1]
  have sb9 := sb.ext x9
  have sbl : slLen vb = 115 := by rw [sb9.len, c3]
  (repeat with_reducible first | refine js ?_ | refine ja ?_ | refine jw KL13 [] (aa TF13 (aa sb9.s (aa sbl (aa @beq_self_eq_true.{0} (aa @bne_self_eq_false.{0} KX))))) fun _ => ?_)
  refine Run_condS (fun _ => rfl) (fun h => by cases h) (fun _ => ?_)
  (repeat with_reducible first | refine js ?_ | refine ja ?_ | refine jw KL13 [] (aa TF13 (aa sb9.s sbl)) fun _ => ?_)
  refine Run_loopV [10, 15, 16, 17, 61, 62, 66, 73, 83] (σ := Nat) (fun k => [(61, some (.int .i64 k)), (15, some (.int .i64 (-(Au.sumE X k))))]) (fun k w' => k ≤ 115 ∧ w' = w9) (fun k => 115 - k) 0 (by simp [SubB, fnd, Au.sumE]) ⟨by omega, rfl⟩ ?_
  rintro k w10 ⟨hk, rfl⟩
  (repeat with_reducible first | refine js ?_ | refine ja ?_ | refine jw KL13 [] TF13 fun _ => ?_)
  refine Run_condS (fun _ => rfl) (fun h => ?_) (fun h => ?_)
  · simp at h
    have hk2 : k < 115 := by omega
    have hcast : (k : Int) < 115 := by omega
    clear h
    obtain ⟨m2, a2, i2⟩ := sb9.get (show k < B.length by omega)
    have e : B[k]'(by omega) = Bk.lo B k := by unfold Bk.lo; simp [List.getD_eq_getElem?_getD, show k < B.length by omega]
    rw [e, c4 _ (by omega), Au.rich_lo (by omega)] at m2
    have hbd := sumE_bd hmv k
    have heb := Ec.eff_bd X (fun x hx => (hmv x hx).ok) k
    have hs1 : Au.sumE X (k + 1) = Au.sumE X k + Ec.eff X k := rfl
    have hot := hoth (k : Int)
    have hXk : 1099511627776 * (X.length : Int) * k ≤ 1099511627776 * 1000 * 115 := by
      have : (X.length : Int) * k ≤ 1000 * 115 := by
        have h1 : X.length * k ≤ 1000 * 115 := Nat.mul_le_mul (by omega) (by omega)
        exact_mod_cast h1
      rw [Int.mul_assoc]; omega
    have hXk2 : -(1099511627776 * (X.length : Int)) * k = -(1099511627776 * (X.length : Int) * k) := by rw [Int.neg_mul]
    generalize Au.sumE X k = S at *
    generalize Ec.eff X k = g at *
    rw [hXk2] at hbd
    (repeat with_reducible first | refine js ?_ | refine ja ?_ | refine jw KL13 [] (aa TF13 (aa sb9.s (aa sbl (aa m2 a2)))) fun _ => ?_)
    refine Run_condS (fun _ => rfl) (fun h => ?_) (fun h => ?_)
    · have h51 : 51 ≤ (k : Int) := by simpa using h
      rw [if_pos ⟨h51, by omega⟩]
      (repeat with_reducible first | refine js ?_ | refine ja ?_ | refine jw KL13 [] TF13 fun _ => ?_)
      refine Run_lp ⟨k + 1, ?_, ⟨by omega, rfl⟩, by omega⟩
      rw [hs1]
      simp [SubB, fnd, strike, has]
      all_goals omega
    have h51 : ¬ 51 ≤ (k : Int) := by simpa using h
    rw [if_neg (by omega), Int.zero_add]
    clear h
    (repeat with_reducible first | refine js ?_ | refine ja ?_ | refine jw KL13 [] (aa TF13 KX) fun _ => ?_)
    refine Run_condS (fun _ => rfl) (fun h => ?_) (fun h => ?_)
    · (repeat with_reducible first | refine js ?_ | refine ja ?_ | refine jw KL13 [] TF13 fun _ => ?_)
      refine Run_lp ⟨k + 1, ?_, ⟨by omega, rfl⟩, by omega⟩
      rw [hs1]
      simp [SubB, fnd, strike, has]
      all_goals omega
    have h27 : ¬ (3 ≤ (k : Int) ∧ (k : Int) < 27) := by simpa using h
    clear h
    have hg : g = 0 := hot (by omega)
    subst hg
    (repeat with_reducible first | refine js ?_ | refine ja ?_ | refine jw KL13 [] TF13 fun _ => ?_)
    refine Run_condS (fun _ => rfl) (fun h => by cases h) (fun _ => ?_)
    (repeat with_reducible first | refine js ?_ | refine ja ?_ | refine jw KL13 [] TF13 fun _ => ?_)
    refine Run_lp ⟨k + 1, ?_, ⟨by omega, rfl⟩, by omega⟩
    rw [hs1]
    simp [SubB, fnd, strike, has]
    all_goals omega
  · simp at h
    obtain rfl : k = 115 := by omega
    rw [hall]
    (repeat with_reducible first | refine js ?_ | refine ja ?_ | refine jw KL13 [] TF13 fun _ => ?_)
    refine Run_ret ?_
    simp [Rets, RetM, resV, fnd, oneOr]
    exact y6.trans (x78.trans x9)
end Go.Proofs.YtoadfmgnpmcbfaaGreat
