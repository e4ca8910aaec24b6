/- Chapter 39: EscrowEven. -/
import Derived.Test.YtoadfmgnpmcbfaaGreatW39v
namespace Go.Fk
open Go
/-- bytes -/
structure BytD where
  n : Int
instance : Enc BytD where
  n := 1
  rep _ cs x := cs = [.int .u8 x.n] ∧ 0 ≤ x.n ∧ x.n ≤ 255
  len _ _ _ h := by rw [h.1]; rfl
  ext _ _ _ _ _ h := h
theorem Sl.u8 {w : World} {v : Value} {xs : List BytD} (h : Sl w v xs) {i : Nat} (hi : i < xs.length) : has1 w ((slAt v).add i) ∧ mem w ((slAt v).add i) = .int .u8 xs[i].n ∧ 0 ≤ xs[i].n ∧ xs[i].n ≤ 255 := by
  obtain ⟨cs, ⟨rfl, hr⟩, ha⟩ := h.at_ i hi
  have h1 := ha.mem (j := 0) (by simp)
  have h2 := ha.has (j := 0) (by simp)
  rw [add_zero, show i * Enc.n BytD = i from Nat.mul_one i] at h1 h2
  exact ⟨h2, h1, hr⟩
end Go.Fk
namespace Go.Proofs.YtoadfmgnpmcbfaaGreat
open Go Go.Fk
set_option linter.unusedSimpArgs false
set_option linter.unusedVariables false
set_option maxRecDepth 100000

theorem allI_ints : ∀ l : List Int, allI (ints l)
  | [] => trivial
  | _ :: l => ⟨rfl, allI_ints l⟩
theorem eqI_ints : ∀ l : List Int, eqI (ints l) (ints l) = true
  | [] => rfl
  | _ :: l => by show ((_ == _) && eqI (ints l) (ints l)) = true; rw [eqI_ints l]; simp
theorem pay_in {t : TimeD} {f : TariffD} {l : List OrderD} {p : PlanD} {run : Int} {n : Nat} (hc : Ec.err t f l p = 0) (h0 : 0 ≤ run) (h1 : run < p.Runs.length) (hn : n ≤ (Ec.lineP t p run).Legs.length) : Ec.pay t f l p run n = (Ec.pays t f l p run n l.length, 0) := by
  unfold Ec.pay; rw [if_neg (by simp [hc]), if_neg (by omega), Int.toNat_natCast]
theorem rerr0W {vl u0 u1 u2 vo v0 v1 v2 : Value} {t : TimeD} {f : TariffD} {l : List OrderD} {p : PlanD} {n : Int} {w : World} {K : Value → World → Prop} (h : Ec.err t f l p = n) (hl : Sl w vl t.Lines) (hT : TarR w f u0 u1 u2) (ho : Sl w vo l) (hP : PlanR w p v0 v1 v2)
    (hK : ∀ w', Ext w w' → K (.int .i64 n) w') : CallW Tryz.prog (.func (.func 24) #[] #[]) [.agg #[.int .i64 t.Offices, vl], .agg #[u0, u1, u2], vo, .agg #[v0, v1, v2]] w K := by
  subst h; exact rerrW hl hT ho hP hK
set_option maxHeartbeats 2000000 in
theorem lawEscrowEven (vl u0 u1 u2 vo v0 v1 v2 vh : Value) (t : TimeD) (f : TariffD) (l : List OrderD) (p : PlanD) (hd : List BytD) (tn : Bool) (w : World) (hl : Sl w vl t.Lines) (hT : TarR w f u0 u1 u2) (ho : Sl w vo l) (hP : PlanR w p v0 v1 v2) (hh : Sl w vh hd) :
    Calls Tryz.prog 5 #[.agg (t.cs vl).toArray, .agg (f.cs u0 u1 u2).toArray, vo, .agg (p.cs v0 v1 v2).toArray, vh, .bool tn] w fun e w' => Yes e ∧ Ext w w' := by
  refine Calls_of_Run (args := [.agg (t.cs vl).toArray, .agg (f.cs u0 u1 u2).toArray, vo, .agg (p.cs v0 v1 v2).toArray, vh, .bool tn]) (n := 253) (rs := [.tmp 12]) Tryz.func5 rfl rfl rfl (by simp) ?_
  (repeat with_reducible first | refine js ?_ | refine ja ?_ | (refine jT (id := 41) KL5 8 mixed (by kernel_rfl) (by kernel_rfl) (by kernel_rfl) fun _ => ?_; refine jw KL5 [21, 35] TF5 fun _ => ?_) | (refine jT (id := 42) KL5 21 mixed (by kernel_rfl) (by kernel_rfl) (by kernel_rfl) fun _ => ?_; refine jw KL5 [21, 35] TF5 fun _ => ?_) | refine jw KL5 [21, 35] TF5 fun _ => ?_)
  refine SemW_box fun pt w1 h1 => SemW_box fun pf w2 h2 => SemW_box fun pp w3 h3 => ?_
  have x3 := h1.ext.trans (h2.ext.trans h3.ext)
  have T : ∀ w', Ext w3 w' → AtN w' pt 0 (t.cs vl) := fun w' x => (h1.at_.ext (h2.ext.trans (h3.ext.trans x))).n
  have F : ∀ w', Ext w3 w' → AtN w' pf 0 (f.cs u0 u1 u2) := fun w' x => (h2.at_.ext (h3.ext.trans x)).n
  have P : ∀ w', Ext w3 w' → AtN w' pp 0 (p.cs v0 v1 v2) := fun w' x => (h3.at_.ext x).n
  simp only [TimeD.cs, TariffD.cs, PlanD.cs, AtN, KS, Nat.reduceAdd, Nat.reduceMul, Nat.reduceEqDiff, ↓reduceIte, UT] at T F P
  (repeat with_reducible first | refine js ?_ | refine ja ?_ | (refine jT (id := 41) KL5 8 mixed (by kernel_rfl) (by kernel_rfl) (by kernel_rfl) fun _ => ?_; refine jw KL5 [21, 35] TF5 fun _ => ?_) | (refine jT (id := 42) KL5 21 mixed (by kernel_rfl) (by kernel_rfl) (by kernel_rfl) fun _ => ?_; refine jw KL5 [21, 35] TF5 fun _ => ?_) | refine jw KL5 [21, 35] TF5 fun _ => ?_)
  refine saneW fun w4 x4 => ?_
  (repeat with_reducible first | refine js ?_ | refine ja ?_ | (refine jT (id := 41) KL5 8 mixed (by kernel_rfl) (by kernel_rfl) (by kernel_rfl) fun _ => ?_; refine jw KL5 [21, 35] TF5 fun _ => ?_) | (refine jT (id := 42) KL5 21 mixed (by kernel_rfl) (by kernel_rfl) (by kernel_rfl) fun _ => ?_; refine jw KL5 [21, 35] TF5 fun _ => ?_) | refine jw KL5 [21, 35] TF5 fun _ => ?_)
  refine Run_condS (fun _ => rfl) (fun h => by cases h) (fun _ => ?_)
  have y4 := x3.trans x4
  have t4 := T w4 x4
  have f4 := F w4 x4
  have p4 := P w4 x4
  (repeat with_reducible first | refine js ?_ | refine ja ?_ | (refine jT (id := 41) KL5 8 mixed (by kernel_rfl) (by kernel_rfl) (by kernel_rfl) fun _ => ?_; refine jw KL5 [21, 35] (aa TF5 (aa t4 (aa f4 p4))) fun _ => ?_) | (refine jT (id := 42) KL5 21 mixed (by kernel_rfl) (by kernel_rfl) (by kernel_rfl) fun _ => ?_; refine jw KL5 [21, 35] (aa TF5 (aa t4 (aa f4 p4))) fun _ => ?_) | refine jw KL5 [21, 35] (aa TF5 (aa t4 (aa f4 p4))) fun _ => ?_)
  refine few39W (hl.ext y4) (hT.ext y4) (ho.ext y4) (hP.ext y4) fun b w5 x5 hb => ?_
  have y5 := y4.trans x5
  (repeat with_reducible first | refine js ?_ | refine ja ?_ | (refine jT (id := 41) KL5 8 mixed (by kernel_rfl) (by kernel_rfl) (by kernel_rfl) fun _ => ?_; refine jw KL5 [21, 35] (aa TF5 KX) fun _ => ?_) | (refine jT (id := 42) KL5 21 mixed (by kernel_rfl) (by kernel_rfl) (by kernel_rfl) fun _ => ?_; refine jw KL5 [21, 35] (aa TF5 KX) fun _ => ?_) | refine jw KL5 [21, 35] (aa TF5 KX) fun _ => ?_)
  refine Run_condS (fun _ => rfl) (fun h => ?_) (fun h => ?_)
  · (repeat with_reducible first | refine js ?_ | refine ja ?_ | (refine jT (id := 41) KL5 8 mixed (by kernel_rfl) (by kernel_rfl) (by kernel_rfl) fun _ => ?_; refine jw KL5 [21, 35] TF5 fun _ => ?_) | (refine jT (id := 42) KL5 21 mixed (by kernel_rfl) (by kernel_rfl) (by kernel_rfl) fun _ => ?_; refine jw KL5 [21, 35] TF5 fun _ => ?_) | refine jw KL5 [21, 35] TF5 fun _ => ?_)
    refine Run_ret ?_
    simp [Rets, RetM, resV, fnd, oneOr, y5]
  have hfew := hb (by simpa using h)
  clear h hb
  have z5 := x4.trans x5
  have t5 := T w5 z5
  have f5 := F w5 z5
  have p5 := P w5 z5
  have hpo : Ec.post t f l p = if Ec.err t f l p ≠ 0 then ([], Ec.err t f l p) else (Ec.posts t f l p l.length, 0) := rfl
  generalize hpm : Ec.post t f l p = m at *
  obtain ⟨ms, me⟩ := m
  (repeat with_reducible first | refine js ?_ | refine ja ?_ | (refine jT (id := 41) KL5 8 mixed (by kernel_rfl) (by kernel_rfl) (by kernel_rfl) fun _ => ?_; refine jw KL5 [21, 35] (aa TF5 (aa t5 (aa f5 p5))) fun _ => ?_) | (refine jT (id := 42) KL5 21 mixed (by kernel_rfl) (by kernel_rfl) (by kernel_rfl) fun _ => ?_; refine jw KL5 [21, 35] (aa TF5 (aa t5 (aa f5 p5))) fun _ => ?_) | refine jw KL5 [21, 35] (aa TF5 (aa t5 (aa f5 p5))) fun _ => ?_)
  refine postW hpm (hl.ext y5) (hT.ext y5) (ho.ext y5) (hP.ext y5) fun vm w6 x6 sm => ?_
  have y6 := y5.trans x6
  have z6 := z5.trans x6
  have t6 := T w6 z6
  have f6 := F w6 z6
  have p6 := P w6 z6
  (repeat with_reducible first | refine js ?_ | refine ja ?_ | (refine jT (id := 41) KL5 8 mixed (by kernel_rfl) (by kernel_rfl) (by kernel_rfl) fun _ => ?_; refine jw KL5 [21, 35] (aa TF5 (aa t6 (aa f6 p6))) fun _ => ?_) | (refine jT (id := 42) KL5 21 mixed (by kernel_rfl) (by kernel_rfl) (by kernel_rfl) fun _ => ?_; refine jw KL5 [21, 35] (aa TF5 (aa t6 (aa f6 p6))) fun _ => ?_) | refine jw KL5 [21, 35] (aa TF5 (aa t6 (aa f6 p6))) fun _ => ?_)
  have herr : Ec.err t f l p = if (Pl.check t f l 1099511627776 p).2 ≠ 0 then (Pl.check t f l 1099511627776 p).2 else if (Pl.check t f l 1099511627776 p).1 then 0 else 220 := rfl
  generalize hck : Pl.check t f l 1099511627776 p = ck at *
  obtain ⟨cb, ce⟩ := ck
  simp only at herr sm
  refine pchkW hck (hl.ext y6) (hT.ext y6) (ho.ext y6) (hP.ext y6) fun w7 x7 => ?_
  have y7 := y6.trans x7
  have z7 := z6.trans x7
  (repeat with_reducible first | refine js ?_ | refine ja ?_ | (refine jT (id := 41) KL5 8 mixed (by kernel_rfl) (by kernel_rfl) (by kernel_rfl) fun _ => ?_; refine jw KL5 [21, 35] (aa TF5 KX) fun _ => ?_) | (refine jT (id := 42) KL5 21 mixed (by kernel_rfl) (by kernel_rfl) (by kernel_rfl) fun _ => ?_; refine jw KL5 [21, 35] (aa TF5 KX) fun _ => ?_) | refine jw KL5 [21, 35] (aa TF5 KX) fun _ => ?_)
  by_cases hc : Ec.err t f l p = 0
  rotate_left
  · rw [if_pos hc] at hpo
    obtain ⟨rfl, rfl⟩ := Prod.mk.inj hpo
    have e0 : (Ec.err t f l p != 0) = true := by simpa using hc
    rw [e0]
    refine Run_condS (fun _ => rfl) (fun _ => ?_) (fun h => by cases h)
    by_cases hce : ce = 0
    · subst hce
      rw [if_neg (by simp)] at herr
      have hcb : cb = false := by cases cb; rfl; rw [if_pos rfl] at herr; exact (hc herr).elim
      subst hcb
      rw [if_neg (by simp)] at herr
      rw [herr]
      (repeat with_reducible first | refine js ?_ | refine ja ?_ | (refine jT (id := 41) KL5 8 mixed (by kernel_rfl) (by kernel_rfl) (by kernel_rfl) fun _ => ?_; refine jw KL5 [21, 35] (aa TF5 (aa sm.s (aa sm.len (aa @List.length_nil.{0} (aa @beq_self_eq_true.{0} KX))))) fun _ => ?_) | (refine jT (id := 42) KL5 21 mixed (by kernel_rfl) (by kernel_rfl) (by kernel_rfl) fun _ => ?_; refine jw KL5 [21, 35] (aa TF5 (aa sm.s (aa sm.len (aa @List.length_nil.{0} (aa @beq_self_eq_true.{0} KX))))) fun _ => ?_) | refine jw KL5 [21, 35] (aa TF5 (aa sm.s (aa sm.len (aa @List.length_nil.{0} (aa @beq_self_eq_true.{0} KX))))) fun _ => ?_)
      refine Run_ret ?_
      simp [Rets, RetM, resV, fnd, oneOr, y7]
    · rw [if_pos hce] at herr
      rw [herr]
      (repeat with_reducible first | refine js ?_ | refine ja ?_ | (refine jT (id := 41) KL5 8 mixed (by kernel_rfl) (by kernel_rfl) (by kernel_rfl) fun _ => ?_; refine jw KL5 [21, 35] (aa TF5 (aa sm.s (aa sm.len (aa @List.length_nil.{0} (aa @beq_self_eq_true.{0} KX))))) fun _ => ?_) | (refine jT (id := 42) KL5 21 mixed (by kernel_rfl) (by kernel_rfl) (by kernel_rfl) fun _ => ?_; refine jw KL5 [21, 35] (aa TF5 (aa sm.s (aa sm.len (aa @List.length_nil.{0} (aa @beq_self_eq_true.{0} KX))))) fun _ => ?_) | refine jw KL5 [21, 35] (aa TF5 (aa sm.s (aa sm.len (aa @List.length_nil.{0} (aa @beq_self_eq_true.{0} KX))))) fun _ => ?_)
      refine Run_ret ?_
      simp [Rets, RetM, resV, fnd, oneOr, y7]
  rw [if_neg (by simp [hc])] at hpo
  obtain ⟨hms, rfl⟩ := Prod.mk.inj hpo
  have hce : ce = 0 ∧ cb = true := by
    rw [hc] at herr
    by_cases e : ce = 0
    · rw [if_neg (by simp [e])] at herr
      refine ⟨e, ?_⟩
      cases cb
      · rw [if_neg (by simp)] at herr; cases herr
      · rfl
    · rw [if_pos e] at herr; exact (e herr.symm).elim
  obtain ⟨rfl, rfl⟩ := hce
  clear hpo herr
  have ok := Ec.err_ok hc
  (repeat with_reducible first | refine js ?_ | refine ja ?_ | (refine jT (id := 41) KL5 8 mixed (by kernel_rfl) (by kernel_rfl) (by kernel_rfl) fun _ => ?_; refine jw KL5 [21, 35] (aa TF5 (aa @bne_self_eq_false.{0} KX)) fun _ => ?_) | (refine jT (id := 42) KL5 21 mixed (by kernel_rfl) (by kernel_rfl) (by kernel_rfl) fun _ => ?_; refine jw KL5 [21, 35] (aa TF5 (aa @bne_self_eq_false.{0} KX)) fun _ => ?_) | refine jw KL5 [21, 35] (aa TF5 (aa @bne_self_eq_false.{0} KX)) fun _ => ?_)
  refine Run_condS (fun _ => rfl) (fun h => by cases h) (fun _ => ?_)
  have t7 := T w7 z7
  have f7 := F w7 z7
  have p7 := P w7 z7
  (repeat with_reducible first | refine js ?_ | refine ja ?_ | (refine jT (id := 41) KL5 8 mixed (by kernel_rfl) (by kernel_rfl) (by kernel_rfl) fun _ => ?_; refine jw KL5 [21, 35] (aa TF5 (aa t7 (aa f7 (aa p7 (aa @bne_self_eq_false.{0} KX))))) fun _ => ?_) | (refine jT (id := 42) KL5 21 mixed (by kernel_rfl) (by kernel_rfl) (by kernel_rfl) fun _ => ?_; refine jw KL5 [21, 35] (aa TF5 (aa t7 (aa f7 (aa p7 (aa @bne_self_eq_false.{0} KX))))) fun _ => ?_) | refine jw KL5 [21, 35] (aa TF5 (aa t7 (aa f7 (aa p7 (aa @bne_self_eq_false.{0} KX))))) fun _ => ?_)
  refine .inl (rerr0W hc (hl.ext y7) (hT.ext y7) (ho.ext y7) (hP.ext y7) fun w8 x8 => ?_)
  unfold hush
  (repeat with_reducible first | refine js ?_ | refine ja ?_ | (refine jT (id := 41) KL5 8 mixed (by kernel_rfl) (by kernel_rfl) (by kernel_rfl) fun _ => ?_; refine jw KL5 [21, 35] (aa TF5 (aa @bne_self_eq_false.{0} KX)) fun _ => ?_) | (refine jT (id := 42) KL5 21 mixed (by kernel_rfl) (by kernel_rfl) (by kernel_rfl) fun _ => ?_; refine jw KL5 [21, 35] (aa TF5 (aa @bne_self_eq_false.{0} KX)) fun _ => ?_) | refine jw KL5 [21, 35] (aa TF5 (aa @bne_self_eq_false.{0} KX)) fun _ => ?_)
  refine Run_condS (fun _ => rfl) (fun h => by cases h) (fun _ => ?_)
  (repeat with_reducible first | refine js ?_ | refine ja ?_ | (refine jT (id := 41) KL5 8 mixed (by kernel_rfl) (by kernel_rfl) (by kernel_rfl) fun _ => ?_; refine jw KL5 [21, 35] TF5 fun _ => ?_) | (refine jT (id := 42) KL5 21 mixed (by kernel_rfl) (by kernel_rfl) (by kernel_rfl) fun _ => ?_; refine jw KL5 [21, 35] TF5 fun _ => ?_) | refine jw KL5 [21, 35] TF5 fun _ => ?_)
  refine ⟨.agg (ints (List.replicate 115 0)).toArray, fun _ => by kernel_rfl, ?_⟩
  have y8 := y7.trans x8
  have z8 := z7.trans x8
  refine accW (sm.ext (x7.trans x8)) (b := List.replicate 115 0) (by rw [hms]; exact Ec.post_acc ok (by simp) fun j hj => Ec.lo_rep) fun w9 x9 => ?_
  (repeat with_reducible first | refine js ?_ | refine ja ?_ | (refine jT (id := 41) KL5 8 mixed (by kernel_rfl) (by kernel_rfl) (by kernel_rfl) fun _ => ?_; refine jw KL5 [21, 35] TF5 fun _ => ?_) | (refine jT (id := 42) KL5 21 mixed (by kernel_rfl) (by kernel_rfl) (by kernel_rfl) fun _ => ?_; refine jw KL5 [21, 35] TF5 fun _ => ?_) | refine jw KL5 [21, 35] TF5 fun _ => ?_)
  refine SemW_allocT ti46 fun pb w10 h10 => ?_
  have b10 := h10.blk
  have lb0 : (Bk.after (List.replicate 115 0) ms).length = 115 := by rw [Bk.after_len]; simp
  refine setArrW lb0 h10.row (by simp [Value.cells]) fun w11 r11 k11 z11 => ?_
  have x11 : Ext w9 w11 := Keep.ext h10.ext k11 fun q hq => by omega
  (repeat with_reducible first | refine js ?_ | refine ja ?_ | (refine jT (id := 41) KL5 8 mixed (by kernel_rfl) (by kernel_rfl) (by kernel_rfl) fun _ => ?_; refine jw KL5 [21, 35] (aa TF5 KX) fun _ => ?_) | (refine jT (id := 42) KL5 21 mixed (by kernel_rfl) (by kernel_rfl) (by kernel_rfl) fun _ => ?_; refine jw KL5 [21, 35] (aa TF5 KX) fun _ => ?_) | refine jw KL5 [21, 35] (aa TF5 KX) fun _ => ?_)
  refine Run_condS (fun _ => rfl) (fun h => by cases h) (fun _ => ?_)
  (repeat with_reducible first | refine js ?_ | refine ja ?_ | (refine jT (id := 41) KL5 8 mixed (by kernel_rfl) (by kernel_rfl) (by kernel_rfl) fun _ => ?_; refine jw KL5 [21, 35] TF5 fun _ => ?_) | (refine jT (id := 42) KL5 21 mixed (by kernel_rfl) (by kernel_rfl) (by kernel_rfl) fun _ => ?_; refine jw KL5 [21, 35] TF5 fun _ => ?_) | refine jw KL5 [21, 35] TF5 fun _ => ?_)
  refine SemW_allocT ti46 fun pw w12 h12 => ?_
  have b12 := h12.blk
  have r12 := r11.ext h12.ext
  have q12 : Row w12 pw 46 (ints (List.replicate 115 0)) := by simpa [Value.cells] using h12.row
  have x12 := x11.trans h12.ext
  have y9 := y8.trans x9
  have z9 := z8.trans x9
  have hbe := Ec.even_begin ok (Ec.roT tn p.Runs.length) (Ec.hnT t p (hd.map BytD.n))
  rw [← hms] at hbe
  have hpne : pb.block ≠ pw.block := by have := h10.ext.size; have := r11.lt; omega
  have hbg : w9.heap.size ≤ pb.block ∧ w9.heap.size ≤ pw.block := by have := x11.size; omega
  have hrl := hP.r.len
  have hll := hl.len
  have hhl := hh.len
  have hrs := hP.r.small
  have hn64 := ok.o.n
  have hN70 : p.Runs.length ≤ 70 := by have := hfew.p; simp only [fewPl, decide_eq_true_eq] at this; exact this.1
  generalize hro : Ec.roT tn p.Runs.length = ro at *
  generalize hhn : Ec.hnT t p (hd.map BytD.n) = hn at *
  (repeat with_reducible first | refine js ?_ | refine ja ?_ | (refine jT (id := 41) KL5 8 mixed (by kernel_rfl) (by kernel_rfl) (by kernel_rfl) fun _ => ?_; refine jw KL5 [21, 35] TF5 fun _ => ?_) | (refine jT (id := 42) KL5 21 mixed (by kernel_rfl) (by kernel_rfl) (by kernel_rfl) fun _ => ?_; refine jw KL5 [21, 35] TF5 fun _ => ?_) | refine jw KL5 [21, 35] TF5 fun _ => ?_)
  refine Run_loopV [12, 18, 20, 21, 22, 23, 24, 25, 26, 27, 28, 29, 30, 103, 107, 130, 150, 158, 162, 171, 196, 199, 237] (σ := Nat) (fun k => [(20, some (.int .i64 k))]) (fun k w' => k ≤ p.Runs.length ∧ (∃ b c : List Int, Row w' pb 46 (ints b) ∧ Row w' pw 46 (ints c) ∧ b.length = 115 ∧ c.length = 115 ∧ (∀ j, 0 ≤ j → Bk.lo b j = Ec.remF t f l p (Ec.doneK ro k) j l.length + Ec.wantK t f l p ro hn j k) ∧ (∀ j, 0 ≤ j → Bk.lo c j = Ec.wantK t f l p ro hn j k)) ∧ Ext w9 w') (fun k => p.Runs.length - k) 0 (by simp [SubB, fnd]) ⟨by omega, ⟨_, _, r12, q12, lb0, by simp, hbe, fun j hj => Ec.lo_rep⟩, x12⟩ ?_
  rintro k w13 ⟨hk, ⟨b, c, rb, rc, hbl, hcl, hbl', hcl'⟩, x13⟩
  have y13 := y9.trans x13
  have z13 := z9.trans x13
  have p13 := P _ z13
  (repeat with_reducible first | refine js ?_ | refine ja ?_ | (refine jT (id := 41) KL5 8 mixed (by kernel_rfl) (by kernel_rfl) (by kernel_rfl) fun _ => ?_; refine jw KL5 [21, 35] (aa TF5 (aa p13 (aa hP.r.s hP.r.len))) fun _ => ?_) | (refine jT (id := 42) KL5 21 mixed (by kernel_rfl) (by kernel_rfl) (by kernel_rfl) fun _ => ?_; refine jw KL5 [21, 35] (aa TF5 (aa p13 (aa hP.r.s hP.r.len))) fun _ => ?_) | refine jw KL5 [21, 35] (aa TF5 (aa p13 (aa hP.r.s hP.r.len))) fun _ => ?_)
  refine Run_condS (fun _ => rfl) (fun h => ?_) (fun h => ?_)
  rotate_left
  · simp at h
    obtain rfl : k = p.Runs.length := by omega
    obtain ⟨g1, g2⟩ := at_memA rb.at_ (n := 115) (by simpa using hbl)
    obtain ⟨g3, g4⟩ := at_memA rc.at_ (n := 115) (by simpa using hcl)
    rw [← hro] at hbl' hcl'
    have hbc := Ec.even_end ok hbl hcl hbl' hcl'
    subst hbc
    (repeat with_reducible first | refine js ?_ | refine ja ?_ | (refine jT (id := 41) KL5 8 mixed (by kernel_rfl) (by kernel_rfl) (by kernel_rfl) fun _ => ?_; refine jw KL5 [21, 35] (aa TF5 (aa g1 (aa g2 (aa g3 g4)))) fun _ => ?_) | (refine jT (id := 42) KL5 21 mixed (by kernel_rfl) (by kernel_rfl) (by kernel_rfl) fun _ => ?_; refine jw KL5 [21, 35] (aa TF5 (aa g1 (aa g2 (aa g3 g4)))) fun _ => ?_) | refine jw KL5 [21, 35] (aa TF5 (aa g1 (aa g2 (aa g3 g4)))) fun _ => ?_)
    refine And.intro (by kernel_rfl) (And.intro ⟨by simpa using hbl, by simpa using hbl, allI_ints b, allI_ints b⟩ ?_)
    refine Run_ret ?_
    simp [Rets, RetM, resV, fnd, oneOr, eqI_ints, y13]
  simp at h
  have hkN := h
  have hri := Ec.roT_in (tn := tn) hkN
  have hfr := Ec.roT_fresh (tn := tn) hkN
  have hrk : ro k = if tn = true then (p.Runs.length : Int) - 1 - k else k := by rw [← hro]; rfl
  rw [hro] at hri hfr
  have hle : ∀ i, hn (ro i) ≤ (Ec.lineP t p (ro i)).Legs.length := fun i => by rw [← hhn]; exact Ec.hnT_le _ _
  have hlek := hle k
  have hhk : hn (ro k) = if ro k < (hd.map BytD.n).length then ((hd.map BytD.n).getD (ro k).toNat 0 % ((Ec.lineP t p (ro k)).Legs.length + 1)).toNat else (Ec.lineP t p (ro k)).Legs.length := by rw [← hhn]; rfl
  obtain ⟨_, _, _, _, hlo⟩ := line_at ok hri.1 hri.2
  have ox9 := hlo.o9
  have oxl := hlo.l1
  have hES := Ec.even_step ok (ro := ro) (hn := hn) (k := k) hbl (fun i _ => hle i) (by omega) hfr (by omega) hbl'
  obtain ⟨l0, l1, l2, l3, hC⟩ := lineC hl ok hri.1 hri.2
  have hrn := hC.r
  have hn0 := hC.n0
  have hlnn := hC.n
  have hR := hC.l
  have hoff := (Tt.chk_ok ok.o.t).o
  have hxs := hlo.s
  have hrll := hR.l.len
  have G : ∀ w', Ext w w' → AtN w' ((slAt v0).add ((ro k).toNat * 3)) 0 p.Runs[(ro k).toNat].cs ∧ AtN w' ((slAt vl).add (p.Runs[(ro k).toNat].Line.toNat * 6)) 0 ((Ec.lineP t p (ro k)).cs l0 l1 l2 l3) := fun w' x => ⟨((hP.r.ext x).runD hrn).1, (hC.a.ext x).n⟩
  generalize hrr : p.Runs[(ro k).toNat] = r at *
  simp only [RunD.cs, LineD.cs, AtN, KS, Nat.reduceAdd, Nat.reduceMul, Nat.reduceEqDiff, ↓reduceIte, UT] at G
  (repeat with_reducible first | refine js ?_ | refine ja ?_ | (refine jT (id := 41) KL5 8 mixed (by kernel_rfl) (by kernel_rfl) (by kernel_rfl) fun _ => ?_; refine jw KL5 [21, 35] TF5 fun _ => ?_) | (refine jT (id := 42) KL5 21 mixed (by kernel_rfl) (by kernel_rfl) (by kernel_rfl) fun _ => ?_; refine jw KL5 [21, 35] TF5 fun _ => ?_) | refine jw KL5 [21, 35] TF5 fun _ => ?_)
  refine Run_cutV [21, 107] (σ := Unit) (fun _ => [(21, some (.int .i64 (ro k)))]) (fun _ w' => Ext w13 w') ?_ ?_
  · cases tn
    · refine Run_condS (fun _ => rfl) (fun h => by cases h) (fun _ => ?_)
      (repeat with_reducible first | refine js ?_ | refine ja ?_ | (refine jT (id := 41) KL5 8 mixed (by kernel_rfl) (by kernel_rfl) (by kernel_rfl) fun _ => ?_; refine jw KL5 [21, 35] TF5 fun _ => ?_) | (refine jT (id := 42) KL5 21 mixed (by kernel_rfl) (by kernel_rfl) (by kernel_rfl) fun _ => ?_; refine jw KL5 [21, 35] TF5 fun _ => ?_) | refine jw KL5 [21, 35] TF5 fun _ => ?_)
      rw [if_neg (by simp)] at hrk
      refine Run_lp ⟨(), ?_, Ext.refl _⟩
      rw [hrk]
      simp [SubB, fnd, strike, has]
    · refine Run_condS (fun _ => rfl) (fun _ => ?_) (fun h => by cases h)
      rw [if_pos rfl] at hrk
      (repeat with_reducible first | refine js ?_ | refine ja ?_ | (refine jT (id := 41) KL5 8 mixed (by kernel_rfl) (by kernel_rfl) (by kernel_rfl) fun _ => ?_; refine jw KL5 [21, 35] (aa TF5 (aa p13 (aa hP.r.s hP.r.len))) fun _ => ?_) | (refine jT (id := 42) KL5 21 mixed (by kernel_rfl) (by kernel_rfl) (by kernel_rfl) fun _ => ?_; refine jw KL5 [21, 35] (aa TF5 (aa p13 (aa hP.r.s hP.r.len))) fun _ => ?_) | refine jw KL5 [21, 35] (aa TF5 (aa p13 (aa hP.r.s hP.r.len))) fun _ => ?_)
      refine Run_lp ⟨(), ?_, Ext.refl _⟩
      rw [hrk]
      simp [SubB, fnd, strike, has]
  rintro _ w14 x14
  have y14 := y13.trans x14
  have z14 := z13.trans x14
  have t14 := T _ z14
  have p14 := P _ z14
  have g14 := G _ y14
  (repeat with_reducible first | refine js ?_ | refine ja ?_ | (refine jT (id := 41) KL5 8 mixed (by kernel_rfl) (by kernel_rfl) (by kernel_rfl) fun _ => ?_; refine jw KL5 [21, 35] (aa TF5 (aa t14 (aa p14 (aa g14 (aa hP.r.s (aa hP.r.len (aa hl.s (aa hl.len (aa hR.l.s hR.l.len))))))))) fun _ => ?_) | (refine jT (id := 42) KL5 21 mixed (by kernel_rfl) (by kernel_rfl) (by kernel_rfl) fun _ => ?_; refine jw KL5 [21, 35] (aa TF5 (aa t14 (aa p14 (aa g14 (aa hP.r.s (aa hP.r.len (aa hl.s (aa hl.len (aa hR.l.s hR.l.len))))))))) fun _ => ?_) | refine jw KL5 [21, 35] (aa TF5 (aa t14 (aa p14 (aa g14 (aa hP.r.s (aa hP.r.len (aa hl.s (aa hl.len (aa hR.l.s hR.l.len))))))))) fun _ => ?_)
  intro w15 x15
  (repeat with_reducible first | refine js ?_ | refine ja ?_ | (refine jT (id := 41) KL5 8 mixed (by kernel_rfl) (by kernel_rfl) (by kernel_rfl) fun _ => ?_; refine jw KL5 [21, 35] (aa TF5 (aa hh.s hh.len)) fun _ => ?_) | (refine jT (id := 42) KL5 21 mixed (by kernel_rfl) (by kernel_rfl) (by kernel_rfl) fun _ => ?_; refine jw KL5 [21, 35] (aa TF5 (aa hh.s hh.len)) fun _ => ?_) | refine jw KL5 [21, 35] (aa TF5 (aa hh.s hh.len)) fun _ => ?_)
  have hlen8 : (hd.map BytD.n).length = hd.length := by simp
  have hhn9 : hn (ro k) ≤ 8 := by omega
  have hroI : -9223372036854775808 ≤ ro k ∧ ro k ≤ 9223372036854775807 := by omega
  generalize hxx : Ec.lineP t p (ro k) = x at *
  refine Run_cutV [23, 130] (σ := Unit) (fun _ => [(23, some (.int .i64 (hn (ro k))))]) (fun _ w' => Ext w15 w') ?_ ?_
  · refine Run_condS (fun _ => rfl) (fun h => ?_) (fun h => ?_)
    · simp at h
      have hih : (ro k).toNat < hd.length := by omega
      obtain ⟨u1', u2', u3⟩ := (hh.ext (y14.trans x15)).u8 hih
      have hg : (hd.map BytD.n).getD (ro k).toNat 0 = hd[(ro k).toNat].n := by simp [List.getD_eq_getElem?_getD, hih]
      rw [if_pos (by omega), hg] at hhk
      generalize hd[(ro k).toNat].n = u at *
      have hmod0 := Int.emod_nonneg u (show (x.Legs.length + 1 : Int) ≠ 0 by omega)
      (repeat with_reducible first | refine js ?_ | refine ja ?_ | (refine jT (id := 41) KL5 8 mixed (by kernel_rfl) (by kernel_rfl) (by kernel_rfl) fun _ => ?_; refine jw KL5 [21, 35] (aa TF5 (aa hh.s (aa hh.len (aa u1' u2')))) fun _ => ?_) | (refine jT (id := 42) KL5 21 mixed (by kernel_rfl) (by kernel_rfl) (by kernel_rfl) fun _ => ?_; refine jw KL5 [21, 35] (aa TF5 (aa hh.s (aa hh.len (aa u1' u2')))) fun _ => ?_) | refine jw KL5 [21, 35] (aa TF5 (aa hh.s (aa hh.len (aa u1' u2')))) fun _ => ?_)
      have e : ((hn (ro k) : Nat) : Int) = u % (x.Legs.length + 1) := by rw [hhk]; omega
      refine Run_lp ⟨(), ?_, Ext.refl _⟩
      rw [e]
      simp [SubB, fnd, strike, has]
    · simp at h
      rw [if_neg (by omega)] at hhk
      (repeat with_reducible first | refine js ?_ | refine ja ?_ | (refine jT (id := 41) KL5 8 mixed (by kernel_rfl) (by kernel_rfl) (by kernel_rfl) fun _ => ?_; refine jw KL5 [21, 35] TF5 fun _ => ?_) | (refine jT (id := 42) KL5 21 mixed (by kernel_rfl) (by kernel_rfl) (by kernel_rfl) fun _ => ?_; refine jw KL5 [21, 35] TF5 fun _ => ?_) | refine jw KL5 [21, 35] TF5 fun _ => ?_)
      refine Run_lp ⟨(), ?_, Ext.refl _⟩
      rw [hhk]
      simp [SubB, fnd, strike, has]
  rintro _ w16 x16
  clear hhk
  have y16 := y14.trans (x15.trans x16)
  have z16 := z14.trans (x15.trans x16)
  have v16 := x13.trans (x14.trans (x15.trans x16))
  have t16 := T _ z16
  have f16 := F _ z16
  have p16 := P _ z16
  have e16 := x14.trans (x15.trans x16)
  obtain ⟨hA, hbl2, hbl3⟩ := hES
  have hpin := pay_in (n := hn (ro k)) hc hri.1 hri.2 (by rw [hxx]; exact hlek)
  generalize Ec.pays t f l p (ro k) (hn (ro k)) l.length = ps at *
  (repeat with_reducible first | refine js ?_ | refine ja ?_ | (refine jT (id := 41) KL5 8 mixed (by kernel_rfl) (by kernel_rfl) (by kernel_rfl) fun _ => ?_; refine jw KL5 [21, 35] (aa TF5 (aa t16 (aa f16 p16))) fun _ => ?_) | (refine jT (id := 42) KL5 21 mixed (by kernel_rfl) (by kernel_rfl) (by kernel_rfl) fun _ => ?_; refine jw KL5 [21, 35] (aa TF5 (aa t16 (aa f16 p16))) fun _ => ?_) | refine jw KL5 [21, 35] (aa TF5 (aa t16 (aa f16 p16))) fun _ => ?_)
  refine payW hpin (hl.ext y16) (hT.ext y16) (ho.ext y16) (hP.ext y16) (by unfold I64; omega) fun vx w17 x17 sx => ?_
  (repeat with_reducible first | refine js ?_ | refine ja ?_ | (refine jT (id := 41) KL5 8 mixed (by kernel_rfl) (by kernel_rfl) (by kernel_rfl) fun _ => ?_; refine jw KL5 [21, 35] (aa TF5 (aa @bne_self_eq_false.{0} KX)) fun _ => ?_) | (refine jT (id := 42) KL5 21 mixed (by kernel_rfl) (by kernel_rfl) (by kernel_rfl) fun _ => ?_; refine jw KL5 [21, 35] (aa TF5 (aa @bne_self_eq_false.{0} KX)) fun _ => ?_) | refine jw KL5 [21, 35] (aa TF5 (aa @bne_self_eq_false.{0} KX)) fun _ => ?_)
  refine Run_condS (fun _ => rfl) (fun h => by cases h) (fun _ => ?_)
  have rb17 := rb.ext (e16.trans x17)
  have rc17 := rc.ext (e16.trans x17)
  obtain ⟨m1, m2⟩ := at_memA rb17.at_ (n := 115) (by simpa using hbl)
  (repeat with_reducible first | refine js ?_ | refine ja ?_ | (refine jT (id := 41) KL5 8 mixed (by kernel_rfl) (by kernel_rfl) (by kernel_rfl) fun _ => ?_; refine jw KL5 [21, 35] (aa TF5 (aa m1 m2)) fun _ => ?_) | (refine jT (id := 42) KL5 21 mixed (by kernel_rfl) (by kernel_rfl) (by kernel_rfl) fun _ => ?_; refine jw KL5 [21, 35] (aa TF5 (aa m1 m2)) fun _ => ?_) | refine jw KL5 [21, 35] (aa TF5 (aa m1 m2)) fun _ => ?_)
  refine accW sx hA fun w18 x18 => ?_
  (repeat with_reducible first | refine js ?_ | refine ja ?_ | (refine jT (id := 41) KL5 8 mixed (by kernel_rfl) (by kernel_rfl) (by kernel_rfl) fun _ => ?_; refine jw KL5 [21, 35] TF5 fun _ => ?_) | (refine jT (id := 42) KL5 21 mixed (by kernel_rfl) (by kernel_rfl) (by kernel_rfl) fun _ => ?_; refine jw KL5 [21, 35] TF5 fun _ => ?_) | refine jw KL5 [21, 35] TF5 fun _ => ?_)
  refine setArrW hbl2 (rb17.ext x18) (by simpa using hbl) fun w19 r19 k19 z19 => ?_
  have c19 := (rc17.ext x18).keep k19 (by show pw.block ≠ pb.block; omega)
  have x19 : Ext w9 w19 := Keep.ext (v16.trans (x17.trans x18)) k19 fun q hq => by omega
  (repeat with_reducible first | refine js ?_ | refine ja ?_ | (refine jT (id := 41) KL5 8 mixed (by kernel_rfl) (by kernel_rfl) (by kernel_rfl) fun _ => ?_; refine jw KL5 [21, 35] (aa TF5 KX) fun _ => ?_) | (refine jT (id := 42) KL5 21 mixed (by kernel_rfl) (by kernel_rfl) (by kernel_rfl) fun _ => ?_; refine jw KL5 [21, 35] (aa TF5 KX) fun _ => ?_) | refine jw KL5 [21, 35] (aa TF5 KX) fun _ => ?_)
  refine Run_condS (fun _ => rfl) (fun h => by cases h) (fun _ => ?_)
  (repeat with_reducible first | refine js ?_ | refine ja ?_ | (refine jT (id := 41) KL5 8 mixed (by kernel_rfl) (by kernel_rfl) (by kernel_rfl) fun _ => ?_; refine jw KL5 [21, 35] TF5 fun _ => ?_) | (refine jT (id := 42) KL5 21 mixed (by kernel_rfl) (by kernel_rfl) (by kernel_rfl) fun _ => ?_; refine jw KL5 [21, 35] TF5 fun _ => ?_) | refine jw KL5 [21, 35] TF5 fun _ => ?_)
  have hpbw : pb.block < w19.heap.size := r19.lt
  have hpww : pw.block < w19.heap.size := c19.lt
  generalize Bk.after b ps = b2 at *
  refine Run_loopV [12, 26, 27, 28, 29, 30, 162, 171, 196, 199, 237] (σ := Nat) (fun i => [(26, some (.int .i64 i))]) (fun i w' => i ≤ l.length ∧ (∃ c : List Int, Row w' pw 46 (ints c) ∧ c.length = 115 ∧ (∀ j, 0 ≤ j → Bk.lo c j = Ec.wantK t f l p ro hn j k + Ec.wantR t f l p (ro k) (hn (ro k)) j i)) ∧ Row w' pb 46 (ints b2) ∧ Ext w9 w' ∧ w19.heap.size ≤ w'.heap.size) (fun i => l.length - i) 0 (by simp [SubB, fnd]) ⟨by omega, ⟨c, c19, hcl, fun j hj => by rw [hcl' j hj]; simp [Ec.wantR]⟩, r19, x19, by omega⟩ ?_
  rintro i w20 ⟨hi, ⟨d, c20, hdl, hd20⟩, r20, x20, s20⟩
  have y20 := y9.trans x20
  have z20 := z9.trans x20
  have hol := ho.len
  (repeat with_reducible first | refine js ?_ | refine ja ?_ | (refine jT (id := 41) KL5 8 mixed (by kernel_rfl) (by kernel_rfl) (by kernel_rfl) fun _ => ?_; refine jw KL5 [21, 35] (aa TF5 (aa ho.s ho.len)) fun _ => ?_) | (refine jT (id := 42) KL5 21 mixed (by kernel_rfl) (by kernel_rfl) (by kernel_rfl) fun _ => ?_; refine jw KL5 [21, 35] (aa TF5 (aa ho.s ho.len)) fun _ => ?_) | refine jw KL5 [21, 35] (aa TF5 (aa ho.s ho.len)) fun _ => ?_)
  refine Run_condS (fun _ => rfl) (fun h => ?_) (fun h => ?_)
  rotate_left
  · simp at h
    obtain rfl : i = l.length := by omega
    (repeat with_reducible first | refine js ?_ | refine ja ?_ | (refine jT (id := 41) KL5 8 mixed (by kernel_rfl) (by kernel_rfl) (by kernel_rfl) fun _ => ?_; refine jw KL5 [21, 35] TF5 fun _ => ?_) | (refine jT (id := 42) KL5 21 mixed (by kernel_rfl) (by kernel_rfl) (by kernel_rfl) fun _ => ?_; refine jw KL5 [21, 35] TF5 fun _ => ?_) | refine jw KL5 [21, 35] TF5 fun _ => ?_)
    refine Run_lp ⟨k + 1, ?_, ⟨by omega, ⟨b2, d, r20, c20, hbl2, hdl, hbl3, hd20⟩, x20⟩, by omega⟩
    simp [SubB, fnd, strike, has]
  simp at h
  have hil := h
  have hip : i < p.Of.length := by rw [ok.ol]; exact hil
  have hgo : p.Of.getD i 0 = p.Of[i] := by simp [List.getD_eq_getElem?_getD, hip]
  have hgl : l.getD i default = l[i] := by simp [List.getD_eq_getElem?_getD, hil]
  have p20 := P w20 z20
  obtain ⟨j1, j2, -⟩ := (hP.o.ext y20).get hip
  (repeat with_reducible first | refine js ?_ | refine ja ?_ | (refine jT (id := 41) KL5 8 mixed (by kernel_rfl) (by kernel_rfl) (by kernel_rfl) fun _ => ?_; refine jw KL5 [21, 35] (aa TF5 (aa p20 (aa hP.o.s (aa hP.o.len (aa j1 j2))))) fun _ => ?_) | (refine jT (id := 42) KL5 21 mixed (by kernel_rfl) (by kernel_rfl) (by kernel_rfl) fun _ => ?_; refine jw KL5 [21, 35] (aa TF5 (aa p20 (aa hP.o.s (aa hP.o.len (aa j1 j2))))) fun _ => ?_) | refine jw KL5 [21, 35] (aa TF5 (aa p20 (aa hP.o.s (aa hP.o.len (aa j1 j2))))) fun _ => ?_)
  refine Run_condS (fun _ => rfl) (fun h => ?_) (fun h => ?_)
  · simp at h
    (repeat with_reducible first | refine js ?_ | refine ja ?_ | (refine jT (id := 41) KL5 8 mixed (by kernel_rfl) (by kernel_rfl) (by kernel_rfl) fun _ => ?_; refine jw KL5 [21, 35] TF5 fun _ => ?_) | (refine jT (id := 42) KL5 21 mixed (by kernel_rfl) (by kernel_rfl) (by kernel_rfl) fun _ => ?_; refine jw KL5 [21, 35] TF5 fun _ => ?_) | refine jw KL5 [21, 35] TF5 fun _ => ?_)
    refine Run_lp ⟨i + 1, ?_, ⟨by omega, ⟨d, c20, hdl, fun j hj => by rw [hd20 j hj, Ec.wantL_skip ro hn k i j (by rw [hgo]; exact h)]⟩, r20, x20, s20⟩, by omega⟩
    simp [SubB, fnd, strike, has]
  simp at h
  have hof : p.Of.getD i 0 = ro k := by rw [hgo, h]
  obtain ⟨_, _, _, hpr, hcls, hcrd⟩ := Ec.price_eq ok hil
  rw [hof, hxx] at hpr
  rw [hgl] at hcls hcrd
  obtain ⟨g, gO, gAt, hO⟩ := (ho.ext y20).ord hil
  have hI3 := hO.i3
  have hI6 := hO.i6
  have hsh : shares f l[i].Class x.Legs.length l[i].Crowd = (List.replicate x.Legs.length (Tf.leg f l[i].Class), Tf.base f l[i].Class + Tf.extra f l[i].Crowd, 0) := by
    have hw := wrong_zero ok hil
    rw [hof, hxx, hgl] at hw
    unfold shares; rw [if_neg (by rw [hw]; simp)]; simp
  have f20 := F w20 z20
  simp only [OrderD.cs, AtN, KS, Nat.reduceAdd, Nat.reduceMul, Nat.reduceEqDiff, ↓reduceIte, UT] at gO
  clear h
  (repeat with_reducible first | refine jq ?_ | refine jk ?_ | refine jc ?_ | refine jl ?_ | refine jb ?_ | refine jo ?_ | refine ji ?_ | refine jx rfl ?_)
  refine Run_ec (id := 35) KL5 (.first 0 (.first 1 (.first 2 (.first 3 (.first 4 (.first 5 (.first 6 (.first 7 (.first 8 (.first 9 (.first 10 (.first 11 (.alt 12 (.first 13 (.first 14 (.first 15 (.first 16 (.first 17 (.first 18 (.first 19 .done))))))) .stop))))))))))))) mixed (by kernel_rfl) (by kernel_rfl) fun w21 x21 _ => ?_
  have y21 := y20.trans x21
  have f21 := F w21 (z20.trans x21)
  have gO21 := (gAt.ext x21).n
  simp only [OrderD.cs, AtN, KS, Nat.reduceAdd, Nat.reduceMul, Nat.reduceEqDiff, ↓reduceIte, UT] at gO21
  have hShr := tfShares f u0 u1 u2 l[i].Class x.Legs.length l[i].Crowd w21 (hT.ext y21)
  rw [hsh] at hShr
  have hlb := Tf.leg_bd ok.o.f l[i].Class
  have hbb := Tf.base_bd ok.o.f l[i].Class
  have heb := Tf.extra_bd ok.o.f l[i].Crowd
  have hplast : Ec.priceP t f l p i - hn (ro k) * Tf.leg f (l.getD i default).Class = Tf.base f l[i].Class + Tf.extra f l[i].Crowd ∨ hn (ro k) ≠ x.Legs.length := by
    by_cases e : hn (ro k) = x.Legs.length
    · left; rw [hpr, e, hgl]; omega
    · right; exact e
  have hWL := fun n j => Ec.wantL_leg (t := t) (f := f) (l := l) (p := p) ro hn k i n j
  have hWE := fun j => Ec.wantL_end (t := t) (f := f) (l := l) (p := p) ro hn k i j hof
  have hW0 := fun j => Ec.wantL_zero (t := t) (f := f) (l := l) (p := p) ro hn k i j
  have hWB := fun n (h9 : n ≤ 9) j => Ec.wantL_bd ok (ro := ro) (hn := hn) (k := k) (i := i) (n := n) (fun i _ => hle i) (by omega) (by omega) h9 j
  rw [hxx, hgl] at hWL
  (try simp (maxSteps := 5000000) only [KS, Nat.reduceAdd, Nat.reduceMul, Nat.reduceEqDiff, ↓reduceIte, forall_const, Int.cast_ofNat_Int, Int.reduceToNat, List.take_succ_cons, List.take_zero, List.drop_succ_cons, List.drop_zero, TF5, KL5, ec, f21, ho.s, ho.len, gO21]); (try simp (disch := omega) only [wrapI, tmodI, tdivI])
  refine ⟨by omega, by omega, Ext.refl _, CallW_gen call26 hShr fun e w22 ⟨v, he, hv⟩ => ⟨_, he, ?_⟩⟩
  simp only at hv
  have x22 := hv.ext0
  have hvs := hv.isS
  rw [List.length_replicate] at hvs
  have hvO := hv.o
  have y22 := y21.trans x22
  generalize hqq : Tf.leg f l[i].Class = q at *
  generalize hrest : Tf.base f l[i].Class + Tf.extra f l[i].Crowd = rest at *
  have b21 : w19.heap.size ≤ w21.heap.size := by have := x21.size; omega
  have e22 := x21.trans x22
  have s22 := x22.size
  have E22 := x20.trans e22
  have C22 := c20.ext e22
  have R22 := r20.ext e22
  clear hv hShr gO21 gO f21 f20 hsh
  (repeat with_reducible first | refine js ?_ | refine ja ?_ | (refine jT (id := 41) KL5 8 mixed (by kernel_rfl) (by kernel_rfl) (by kernel_rfl) fun _ => ?_; refine jw KL5 [21, 35] (aa TF5 (aa hvs.1 (aa hvs.2 (aa @bne_self_eq_false.{0} KX)))) fun _ => ?_) | (refine jT (id := 42) KL5 21 mixed (by kernel_rfl) (by kernel_rfl) (by kernel_rfl) fun _ => ?_; refine jw KL5 [21, 35] (aa TF5 (aa hvs.1 (aa hvs.2 (aa @bne_self_eq_false.{0} KX)))) fun _ => ?_) | refine jw KL5 [21, 35] (aa TF5 (aa hvs.1 (aa hvs.2 (aa @bne_self_eq_false.{0} KX)))) fun _ => ?_)
  refine Run_condS (fun _ => rfl) (fun h => by cases h) (fun _ => ?_)
  (repeat with_reducible first | refine js ?_ | refine ja ?_ | (refine jT (id := 41) KL5 8 mixed (by kernel_rfl) (by kernel_rfl) (by kernel_rfl) fun _ => ?_; refine jw KL5 [21, 35] TF5 fun _ => ?_) | (refine jT (id := 42) KL5 21 mixed (by kernel_rfl) (by kernel_rfl) (by kernel_rfl) fun _ => ?_; refine jw KL5 [21, 35] TF5 fun _ => ?_) | refine jw KL5 [21, 35] TF5 fun _ => ?_)
  refine Run_loopV [30, 199] (σ := Nat) (fun n => [(30, some (.int .i64 n))]) (fun n w' => n ≤ hn (ro k) ∧ (∃ c : List Int, Row w' pw 46 (ints c) ∧ c.length = 115 ∧ (∀ j, 0 ≤ j → Bk.lo c j = Ec.wantL t f l p ro hn k i n j)) ∧ Row w' pb 46 (ints b2) ∧ Ext w9 w' ∧ BufO (α := Int) 3 w21.heap.size w' v (List.replicate x.Legs.length q) ∧ w22.heap.size ≤ w'.heap.size) (fun n => hn (ro k) - n) 0 (by simp [SubB, fnd]) ⟨by omega, ⟨d, C22, hdl, fun j hj => by rw [hd20 j hj, hW0]⟩, R22, E22, hvO, by omega⟩ ?_
  rintro n w23 ⟨hn', ⟨d3, c23, hdl3, hd23⟩, r23, x23, hvO3, s23⟩
  have y23 := y9.trans x23
  have z23 := z9.trans x23
  have hpw21 : pw.block < w21.heap.size := by omega
  (repeat with_reducible first | refine js ?_ | refine ja ?_ | (refine jT (id := 41) KL5 8 mixed (by kernel_rfl) (by kernel_rfl) (by kernel_rfl) fun _ => ?_; refine jw KL5 [21, 35] TF5 fun _ => ?_) | (refine jT (id := 42) KL5 21 mixed (by kernel_rfl) (by kernel_rfl) (by kernel_rfl) fun _ => ?_; refine jw KL5 [21, 35] TF5 fun _ => ?_) | refine jw KL5 [21, 35] TF5 fun _ => ?_)
  refine Run_condS (fun _ => rfl) (fun h => ?_) (fun h => ?_)
  · simp at h
    have hnl := h
    have hnx : n < x.Legs.length := by omega
    have hb1 := hWB n (by omega) (51 + i)
    rw [← hd23 _ (by omega)] at hb1
    have hoff2 := hxs (x.Offices[n]'(by omega)) (List.getElem_mem _)
    have hstep := hWL n
    rw [show x.Offices.getD n 0 = x.Offices[n]'(by omega) by simp [List.getD_eq_getElem?_getD, show n < x.Offices.length by omega]] at hstep
    generalize hoo : x.Offices[n]'(by omega) = off at *
    have hb2' := hWB n (by omega) (3 + off)
    rw [← hd23 _ (by omega)] at hb2'
    let S : Nat → Prop := fun _ => True
    (repeat with_reducible first | refine jq ?_ | refine jk ?_ | refine jc ?_ | refine jl ?_ | refine jb ?_ | refine jo ?_ | refine ji ?_ | refine jx rfl ?_)
    refine Run_eh S [10] [(3, [10]), (7, [10])] (id := 41) KL5 (.first 0 (.first 1 (.first 2 (.first 3 (.first 4 (.first 5 (.first 6 (.first 7 (.first 8 (.first 9 (.alt true 10 (.done false) .stop))))))))))) mixed (by kernel_rfl) (by kernel_rfl) fun w24 x24 _ => ?_
    have c24 := c23.ext x24
    obtain ⟨a1, a2⟩ := at_int c24.at_ (show 51 + i < d3.length by omega)
    have e1 : d3[51 + i]'(by omega) = Bk.lo d3 (51 + i) := lo_get (k := 51 + (i : Int)) (by omega) (by omega)
    rw [e1] at a2
    have O24 := hvO3.keep (Keep.of_ext (S := fun _ => True) x24) fun _ _ _ => trivial
    have hsl := O24.sl (by simp; omega)
    obtain ⟨q1, q2, -⟩ := hsl.get (show n < (List.replicate x.Legs.length q).length by simpa using hnx)
    rw [List.getElem_replicate] at q1
    have e51 : (51 + (i : Int)).toNat = 51 + i := by omega
    (try simp (maxSteps := 5000000) only [KS, Nat.reduceAdd, Nat.reduceMul, Nat.reduceEqDiff, ↓reduceIte, forall_const, Int.cast_ofNat_Int, Int.reduceToNat, List.take_succ_cons, List.take_zero, List.drop_succ_cons, List.drop_zero, TF5, KL5, eh, gres, qopS, putL, ung, a1, a2, hvs.1, hvs.2, q1, q2, e51]); (try simp (disch := omega) only [wrapI, tmodI, tdivI])
    (try simp (maxSteps := 5000000) only [KS, Nat.reduceAdd, Nat.reduceMul, Nat.reduceEqDiff, ↓reduceIte, forall_const, Int.cast_ofNat_Int, Int.reduceToNat, List.take_succ_cons, List.take_zero, List.drop_succ_cons, List.drop_zero, TF5, KL5, a1, a2, e51]); (try simp (disch := omega) only [wrapI, tmodI, tdivI])
    refine ⟨by omega, trivial, by omega, trivial, by omega, Keep.refl _ _, ?_⟩
    refine SemW_setAt (i := 51 + i) (by rw [cells3]) c24 (by rw [ints_len]; omega) rfl rfl fun w25 c25 k25 z25 => ⟨fun h => h.elim, ?_⟩
    rw [ints_set] at c25
    have O25 := O24.keep k25 fun g hg _ => by omega
    have r25 := (r23.ext x24).keep k25 hpne
    have x25 : Ext w9 w25 := Keep.ext (x23.trans x24) k25 fun b hb => by omega
    have y25 := y9.trans x25
    have z25' := z9.trans x25
    have hlen25 : (d3.set (51 + i) (Bk.lo d3 (51 + i) - q)).length = 115 := by simp [hdl3]
    have htwo := fun j hj => Ec.lo_two hdl3 (q := 51 + (i : Int)) (s := 3 + off) (a := q) (by omega) (by omega) (j := j) hj
    have hset := Bk.lo_set (b := d3) (i := 51 + i) (x := Bk.lo d3 (51 + i) - q) (k := 3 + off) (by omega) (by omega)
    rw [if_neg (by omega)] at hset
    rw [e51] at htwo
    generalize d3.set (51 + i) (Bk.lo d3 (51 + i) - q) = d4 at *
    rw [← hset] at hb2'
    (repeat with_reducible first | refine jq ?_ | refine jk ?_ | refine jc ?_ | refine jl ?_ | refine jb ?_ | refine jo ?_ | refine ji ?_ | refine jx rfl ?_)
    refine Run_eh S [23] [(1, [23]), (3, [23]), (7, [23]), (10, [23]), (13, [23]), (16, [23]), (20, [23])] (id := 42) KL5 (.first 0 (.first 1 (.first 2 (.first 3 (.first 4 (.first 5 (.first 6 (.first 7 (.first 8 (.first 9 (.first 10 (.first 11 (.first 12 (.first 13 (.first 14 (.first 15 (.first 16 (.first 17 (.first 18 (.first 19 (.first 20 (.first 21 (.first 22 (.alt true 23 (.done false) .stop)))))))))))))))))))))))) mixed (by kernel_rfl) (by kernel_rfl) fun w26 x26 _ => ?_
    have c26 := c25.ext x26
    have t26 := T _ (z25'.trans x26)
    have p26 := P _ (z25'.trans x26)
    have g26 := G _ (y25.trans x26)
    obtain ⟨o1, o2, -⟩ := (hR.o.ext (y25.trans x26)).get (show n < x.Offices.length by omega)
    rw [hoo] at o1
    obtain ⟨a3, a4⟩ := at_int c26.at_ (show (3 + off).toNat < d4.length by omega)
    rw [lo_get (by omega) (by omega)] at a4
    have O26 := O25.keep (Keep.of_ext (S := fun _ => True) x26) fun _ _ _ => trivial
    have hsl6 := O26.sl (by simp; omega)
    obtain ⟨q3, q4, -⟩ := hsl6.get (show n < (List.replicate x.Legs.length q).length by simpa using hnx)
    rw [List.getElem_replicate] at q3
    (try simp (maxSteps := 5000000) only [KS, Nat.reduceAdd, Nat.reduceMul, Nat.reduceEqDiff, ↓reduceIte, forall_const, Int.cast_ofNat_Int, Int.reduceToNat, List.take_succ_cons, List.take_zero, List.drop_succ_cons, List.drop_zero, TF5, KL5, eh, gres, qopS, putL, ung, t26, p26, g26, hP.r.s, hP.r.len, hl.s, hl.len, hR.o.s, hR.o.len, o1, o2, hvs.1, hvs.2, q3, q4]); (try simp (disch := omega) only [wrapI, tmodI, tdivI])
    (try simp (maxSteps := 5000000) only [KS, Nat.reduceAdd, Nat.reduceMul, Nat.reduceEqDiff, ↓reduceIte, forall_const, Int.cast_ofNat_Int, Int.reduceToNat, List.take_succ_cons, List.take_zero, List.drop_succ_cons, List.drop_zero, TF5, KL5, a3, a4, eh, gres, qopS, putL, ung, t26, p26, g26, hP.r.s, hP.r.len, hl.s, hl.len, hR.o.s, hR.o.len, o1, o2, hvs.1, hvs.2, q3, q4]); (try simp (disch := omega) only [wrapI, tmodI, tdivI])
    refine ⟨trivial, trivial, by omega, trivial, by omega, trivial, by omega, trivial, by omega, trivial, by omega, trivial, by omega, Keep.refl _ _, ?_⟩
    refine SemW_setAt (i := (3 + off).toNat) (by rw [cells3]) c26 (by rw [ints_len]; omega) rfl rfl fun w27 c27 k27 z27 => ⟨fun h => h.elim, ?_⟩
    rw [ints_set] at c27
    have O27 := O26.keep k27 fun g hg _ => by omega
    have r27 := (r25.ext x26).keep k27 hpne
    have x27 : Ext w9 w27 := Keep.ext (x25.trans x26) k27 fun b hb => by omega
    have s25 := x24.size
    have s27 := x26.size
    (repeat with_reducible first | refine js ?_ | refine ja ?_ | (refine jT (id := 41) KL5 8 mixed (by kernel_rfl) (by kernel_rfl) (by kernel_rfl) fun _ => ?_; refine jw KL5 [21, 35] TF5 fun _ => ?_) | (refine jT (id := 42) KL5 21 mixed (by kernel_rfl) (by kernel_rfl) (by kernel_rfl) fun _ => ?_; refine jw KL5 [21, 35] TF5 fun _ => ?_) | refine jw KL5 [21, 35] TF5 fun _ => ?_)
    refine Run_lp ⟨n + 1, ?_, ⟨by omega, ⟨_, c27, by simp [hlen25], fun j hj => by rw [htwo j hj, hd23 j hj, hstep j]⟩, r27, x27, O27, by omega⟩, by omega⟩
    simp [SubB, fnd, strike, has]
  · simp at h
    obtain rfl : n = hn (ro k) := by omega
    have hb1 := hWB (hn (ro k)) (by omega) (51 + i)
    rw [← hd23 _ (by omega)] at hb1
    have hb2' := hWB (hn (ro k)) (by omega) 1
    rw [← hd23 _ (by omega)] at hb2'
    clear hWL hWB hW0 hvO3 hvO
    (repeat with_reducible first | refine js ?_ | refine ja ?_ | (refine jT (id := 41) KL5 8 mixed (by kernel_rfl) (by kernel_rfl) (by kernel_rfl) fun _ => ?_; refine jw KL5 [21, 35] TF5 fun _ => ?_) | (refine jT (id := 42) KL5 21 mixed (by kernel_rfl) (by kernel_rfl) (by kernel_rfl) fun _ => ?_; refine jw KL5 [21, 35] TF5 fun _ => ?_) | refine jw KL5 [21, 35] TF5 fun _ => ?_)
    refine Run_condS (fun _ => rfl) (fun h => ?_) (fun h => ?_)
    · simp at h
      have hfin : hn (ro k) = x.Legs.length := by omega
      have hrest2 := hplast.resolve_right (fun e => e hfin)
      rw [hxx] at hWE
      rw [hrest2] at hWE
      have hlst : ∀ j, Ec.wantK t f l p ro hn j k + Ec.wantR t f l p (ro k) (hn (ro k)) j (i + 1) = Ec.wantL t f l p ro hn k i (hn (ro k)) j + (if 1 = j then rest else 0) - (if 51 + (i : Int) = j then rest else 0) := fun j => by rw [hWE j, if_pos hfin]; omega
      obtain ⟨a1, a2⟩ := at_int c23.at_ (show 51 + i < d3.length by omega)
      have e1 : d3[51 + i]'(by omega) = Bk.lo d3 (51 + i) := lo_get (k := 51 + (i : Int)) (by omega) (by omega)
      rw [e1] at a2
      have e51 : (51 + (i : Int)).toNat = 51 + i := by omega
      have hrb : 0 ≤ rest ∧ rest ≤ 4194304 := by omega
      (repeat with_reducible first | refine js ?_ | refine ja ?_ | (refine jT (id := 41) KL5 8 mixed (by kernel_rfl) (by kernel_rfl) (by kernel_rfl) fun _ => ?_; refine jw KL5 [21, 35] (aa TF5 (aa e51 (aa a1 a2))) fun _ => ?_) | (refine jT (id := 42) KL5 21 mixed (by kernel_rfl) (by kernel_rfl) (by kernel_rfl) fun _ => ?_; refine jw KL5 [21, 35] (aa TF5 (aa e51 (aa a1 a2))) fun _ => ?_) | refine jw KL5 [21, 35] (aa TF5 (aa e51 (aa a1 a2))) fun _ => ?_)
      refine SemW_setAt (i := 51 + i) (by rw [cells3]) c23 (by rw [ints_len]; omega) rfl rfl fun w25 c25 k25 z25 => ?_
      rw [ints_set] at c25
      have r25 := r23.keep k25 hpne
      have x25 : Ext w9 w25 := Keep.ext x23 k25 fun b hb => by omega
      have hlen25 : (d3.set (51 + i) (Bk.lo d3 (51 + i) - rest)).length = 115 := by simp [hdl3]
      have htwo := fun j hj => Ec.lo_two hdl3 (q := 51 + (i : Int)) (s := 1) (a := rest) (by omega) (by omega) (j := j) hj
      have hset := Bk.lo_set (b := d3) (i := 51 + i) (x := Bk.lo d3 (51 + i) - rest) (k := 1) (by omega) (by omega)
      rw [if_neg (by omega)] at hset
      rw [e51] at htwo
      generalize d3.set (51 + i) (Bk.lo d3 (51 + i) - rest) = d4 at *
      rw [← hset] at hb2'
      obtain ⟨a3, a4⟩ := at_int c25.at_ (show 1 < d4.length by omega)
      have e2 : d4[1]'(by omega) = Bk.lo d4 1 := lo_get (k := 1) (by omega) (by simp; omega)
      rw [e2] at a4
      (repeat with_reducible first | refine js ?_ | refine ja ?_ | (refine jT (id := 41) KL5 8 mixed (by kernel_rfl) (by kernel_rfl) (by kernel_rfl) fun _ => ?_; refine jw KL5 [21, 35] (aa TF5 (aa a3 a4)) fun _ => ?_) | (refine jT (id := 42) KL5 21 mixed (by kernel_rfl) (by kernel_rfl) (by kernel_rfl) fun _ => ?_; refine jw KL5 [21, 35] (aa TF5 (aa a3 a4)) fun _ => ?_) | refine jw KL5 [21, 35] (aa TF5 (aa a3 a4)) fun _ => ?_)
      refine SemW_setAt (i := 1) (by rw [cells3]) c25 (by rw [ints_len]; omega) rfl rfl fun w27 c27 k27 z27 => ?_
      rw [ints_set] at c27
      have r27 := r25.keep k27 hpne
      have x27 : Ext w9 w27 := Keep.ext x25 k27 fun b hb => by omega
      (repeat with_reducible first | refine js ?_ | refine ja ?_ | (refine jT (id := 41) KL5 8 mixed (by kernel_rfl) (by kernel_rfl) (by kernel_rfl) fun _ => ?_; refine jw KL5 [21, 35] TF5 fun _ => ?_) | (refine jT (id := 42) KL5 21 mixed (by kernel_rfl) (by kernel_rfl) (by kernel_rfl) fun _ => ?_; refine jw KL5 [21, 35] TF5 fun _ => ?_) | refine jw KL5 [21, 35] TF5 fun _ => ?_)
      refine Run_lp ⟨i + 1, ?_, ⟨by omega, ⟨_, c27, by simp [hlen25], fun j hj => by rw [hlst j, ← hd23 j hj]; exact htwo j hj⟩, r27, x27, by omega⟩, by omega⟩
      simp [SubB, fnd, strike, has]
    · simp at h
      (repeat with_reducible first | refine js ?_ | refine ja ?_ | (refine jT (id := 41) KL5 8 mixed (by kernel_rfl) (by kernel_rfl) (by kernel_rfl) fun _ => ?_; refine jw KL5 [21, 35] TF5 fun _ => ?_) | (refine jT (id := 42) KL5 21 mixed (by kernel_rfl) (by kernel_rfl) (by kernel_rfl) fun _ => ?_; refine jw KL5 [21, 35] TF5 fun _ => ?_) | refine jw KL5 [21, 35] TF5 fun _ => ?_)
      refine Run_lp ⟨i + 1, ?_, ⟨by omega, ⟨d3, c23, hdl3, fun j hj => ?_⟩, r23, x23, by omega⟩, by omega⟩
      · simp [SubB, fnd, strike, has]
      · rw [hxx] at hWE
        rw [hd23 j hj, hWE j, if_neg (by omega), Int.add_zero]
end Go.Proofs.YtoadfmgnpmcbfaaGreat
