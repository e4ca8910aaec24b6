/- Chapter 39: EscrowRun. -/
import Derived.Test.YtoadfmgnpmcbfaaW39u
namespace Go.Proofs.Ytoadfmgnpmcbfaa
open Go Go.Fk
set_option linter.unusedSimpArgs false
set_option linter.unusedVariables false
set_option maxRecDepth 100000

theorem pay_ok {t : TimeD} {f : TariffD} {l : List OrderD} {p : PlanD} {run h : Int} (hc : (Ec.pay t f l p run h).2 = 0) :
    Ec.Ok t f l p ∧ Ec.err t f l p = 0 ∧ 0 ≤ run ∧ run < p.Runs.length ∧ 0 ≤ h ∧ h ≤ (Ec.lineP t p run).Legs.length ∧ (Ec.pay t f l p run h).1 = Ec.pays t f l p run h.toNat l.length := by
  unfold Ec.pay at hc ⊢
  by_cases h1 : Ec.err t f l p = 0
  · rw [if_neg (by simp [h1])] at hc ⊢
    by_cases h2 : run < 0 ∨ p.Runs.length ≤ run ∨ h < 0 ∨ (Ec.lineP t p run).Legs.length < h
    · rw [if_pos h2] at hc; cases hc
    · rw [if_neg h2]; exact ⟨Ec.err_ok h1, h1, by omega, by omega, by omega, by omega, rfl⟩
  · rw [if_pos (by simpa using h1)] at hc; exact (h1 hc).elim
theorem pay_no {t : TimeD} {f : TariffD} {l : List OrderD} {p : PlanD} {run h : Int} (hc : (Ec.pay t f l p run h).2 ≠ 0) : (Ec.pay t f l p run h).1 = [] := by
  unfold Ec.pay at hc ⊢
  split
  · rfl
  · rename_i h1
    rw [if_neg h1] at hc
    split
    · rfl
    · rename_i h2
      rw [if_neg h2] at hc
      exact (hc rfl).elim
theorem rerr0W {vl u0 u1 u2 vo v0 v1 v2 : Value} {t : TimeD} {f : TariffD} {l : List OrderD} {p : PlanD} {n : Int} {w : World} {K : Value → World → Prop} (h : Ec.err t f l p = n) (hl : Sl w vl t.Lines) (hT : TarR w f u0 u1 u2) (ho : Sl w vo l) (hP : PlanR w p v0 v1 v2)
    (hK : ∀ w', Ext w w' → K (.int .i64 n) w') : CallW Try.prog (.func (.func 7) #[] #[]) [.agg #[.int .i64 t.Offices, vl], .agg #[u0, u1, u2], vo, .agg #[v0, v1, v2]] w K := by
  subst h; exact rerrW hl hT ho hP hK
set_option maxHeartbeats 2000000 in
theorem lawEscrowRun (vl u0 u1 u2 vo v0 v1 v2 : Value) (t : TimeD) (f : TariffD) (l : List OrderD) (p : PlanD) (run handed : Int) (w : World) (hl : Sl w vl t.Lines) (hT : TarR w f u0 u1 u2) (ho : Sl w vo l) (hP : PlanR w p v0 v1 v2) (hr : I64 run) (hd : I64 handed) :
    Calls Try.prog 3 #[.agg (t.cs vl).toArray, .agg (f.cs u0 u1 u2).toArray, vo, .agg (p.cs v0 v1 v2).toArray, .int .i64 run, .int .i64 handed] w fun e w' => Yes e ∧ Ext w w' := by
  refine Calls_of_Run (args := [.agg (t.cs vl).toArray, .agg (f.cs u0 u1 u2).toArray, vo, .agg (p.cs v0 v1 v2).toArray, .int .i64 run, .int .i64 handed]) (n := 190) (rs := [.tmp 12]) Try.func3 rfl rfl rfl (by simp) ?_
  (repeat with_reducible first | refine js ?_ | refine ja ?_ | refine jw KL3 [28, 32] TF3 fun _ => ?_)
  refine SemW_box fun pt w1 h1 => SemW_box fun pf w2 h2 => SemW_box fun pp w3 h3 => ?_
  have x3 := h1.ext.trans (h2.ext.trans h3.ext)
  have T : ∀ w', Ext w3 w' → AtN w' pt 0 (t.cs vl) := fun w' x => (h1.at_.ext (h2.ext.trans (h3.ext.trans x))).n
  have F : ∀ w', Ext w3 w' → AtN w' pf 0 (f.cs u0 u1 u2) := fun w' x => (h2.at_.ext (h3.ext.trans x)).n
  have P : ∀ w', Ext w3 w' → AtN w' pp 0 (p.cs v0 v1 v2) := fun w' x => (h3.at_.ext x).n
  simp only [TimeD.cs, TariffD.cs, PlanD.cs, AtN, KS, Nat.reduceAdd, Nat.reduceMul, Nat.reduceEqDiff, ↓reduceIte, UT] at T F P
  (repeat with_reducible first | refine js ?_ | refine ja ?_ | refine jw KL3 [28, 32] TF3 fun _ => ?_)
  refine saneW fun w4 x4 => ?_
  (repeat with_reducible first | refine js ?_ | refine ja ?_ | refine jw KL3 [28, 32] TF3 fun _ => ?_)
  refine Run_condS (fun _ => rfl) (fun h => by cases h) (fun _ => ?_)
  have y4 := x3.trans x4
  have t4 := T w4 x4
  have f4 := F w4 x4
  have p4 := P w4 x4
  (repeat with_reducible first | refine js ?_ | refine ja ?_ | refine jw KL3 [28, 32] (aa TF3 (aa t4 (aa f4 p4))) fun _ => ?_)
  refine few39W (hl.ext y4) (hT.ext y4) (ho.ext y4) (hP.ext y4) fun b w5 x5 hb => ?_
  have y5 := y4.trans x5
  (repeat with_reducible first | refine js ?_ | refine ja ?_ | refine jw KL3 [28, 32] (aa TF3 KX) fun _ => ?_)
  refine Run_condS (fun _ => rfl) (fun h => ?_) (fun h => ?_)
  · (repeat with_reducible first | refine js ?_ | refine ja ?_ | refine jw KL3 [28, 32] TF3 fun _ => ?_)
    refine Run_ret ?_
    simp [Rets, RetM, resV, fnd, oneOr, y5]
  clear h hb
  have z5 := x4.trans x5
  have t5 := T w5 z5
  have f5 := F w5 z5
  have p5 := P w5 z5
  have hpn : (Ec.pay t f l p run handed).2 ≠ 0 → (Ec.pay t f l p run handed).1 = [] := pay_no
  have hpo : (Ec.pay t f l p run handed).2 = 0 → _ := pay_ok
  generalize hm : Ec.pay t f l p run handed = m at *
  obtain ⟨ms, me⟩ := m
  simp only at hpn hpo
  (repeat with_reducible first | refine js ?_ | refine ja ?_ | refine jw KL3 [28, 32] (aa TF3 (aa t5 (aa f5 p5))) fun _ => ?_)
  refine payW hm (hl.ext y5) (hT.ext y5) (ho.ext y5) (hP.ext y5) hr fun vm w6 x6 sm => ?_
  simp only at sm
  have y6 := y5.trans x6
  have z6 := z5.trans x6
  (repeat with_reducible first | refine js ?_ | refine ja ?_ | refine jw KL3 [28, 32] (aa TF3 KX) fun _ => ?_)
  refine Run_condS (fun _ => rfl) (fun h => ?_) (fun h => ?_)
  · simp at h
    obtain rfl := hpn h
    (repeat with_reducible first | refine js ?_ | refine ja ?_ | refine jw KL3 [28, 32] (aa TF3 (aa sm.s sm.len)) fun _ => ?_)
    refine Run_ret ?_
    simp [Rets, RetM, resV, fnd, oneOr, y6]
  simp at h
  subst h
  obtain ⟨ok, hc, r0, r1, q0, q1, e1⟩ := hpo rfl
  clear hpn hpo
  obtain ⟨n, rfl⟩ : ∃ n : Nat, handed = n := ⟨handed.toNat, by omega⟩
  rw [Int.toNat_natCast] at e1
  have hrl := hP.r.len
  have hrs := hP.r.small
  have hol := hP.o.len
  have hll := hl.len
  have hn64 := ok.o.n
  have hofl := ok.ol
  have hnl : n ≤ (Ec.lineP t p run).Legs.length := by omega
  have hmv := Ec.pays_mv ok hnl l.length (Nat.le_refl _)
  have hnum := Ec.pays_num t f l p run n l.length
  have hcnt := Ec.pays_cnt t f l p run n l.length
  have hon := Ec.ordN_le p run
  obtain ⟨_, _, _, _, hlo⟩ := line_at ok r0 r1
  have ox9 := hlo.o9
  have oxl := hlo.l1
  obtain ⟨l0, l1, l2, l3, hC⟩ := lineC hl ok r0 r1
  have hrn := hC.r
  have hn0 := hC.n0
  have hlnn := hC.n
  have hR := hC.l
  have hrll := hR.l.len
  have G : ∀ w', Ext w w' → AtN w' ((slAt v0).add (run.toNat * 3)) 0 p.Runs[run.toNat].cs ∧ AtN w' ((slAt vl).add (p.Runs[run.toNat].Line.toNat * 6)) 0 ((Ec.lineP t p run).cs l0 l1 l2 l3) := fun w' x => ⟨((hP.r.ext x).runD hrn).1, (hC.a.ext x).n⟩
  rw [← e1] at hmv hnum hcnt
  generalize hxx : Ec.lineP t p run = x at *
  generalize hrr : p.Runs[run.toNat] = rr at *
  simp only [RunD.cs, LineD.cs, AtN, KS, Nat.reduceAdd, Nat.reduceMul, Nat.reduceEqDiff, ↓reduceIte, UT] at G
  have t6 := T w6 z6
  have f6 := F w6 z6
  have p6 := P w6 z6
  have d1 : decide (run < 0) = false := by simp; omega
  have d2 : decide ((p.Runs.length : Int) ≤ run) = false := by simp; omega
  have d3 : decide ((n : Int) < 0) = false := by simp
  (repeat with_reducible first | refine js ?_ | refine ja ?_ | refine jw KL3 [28, 32] (aa TF3 (aa t6 (aa f6 (aa p6 (aa hP.r.s (aa hP.r.len (aa d1 (aa d2 (aa d3 KX))))))))) fun _ => ?_)
  refine rerr0W hc (hl.ext y6) (hT.ext y6) (ho.ext y6) (hP.ext y6) fun w7 x7 => ?_
  have y7 := y6.trans x7
  have z7 := z6.trans x7
  have p7 := P w7 z7
  (repeat with_reducible first | refine js ?_ | refine ja ?_ | refine jw KL3 [28, 32] (aa TF3 (aa p7 (aa hP.r.s (aa hP.r.len (aa d1 (aa d2 (aa d3 (aa @bne_self_eq_false.{0} KX)))))))) fun _ => ?_)
  refine Run_condS (fun _ => rfl) (fun h => by cases h) (fun _ => ?_)
  (repeat with_reducible first | refine js ?_ | refine ja ?_ | refine jw KL3 [28, 32] TF3 fun _ => ?_)
  refine Run_loopV [15, 16, 69, 78] (σ := Nat) (fun i => [(16, some (.int .i64 i)), (15, some (.int .i64 (Ec.ordN p run i : Nat)))]) (fun i w' => i ≤ p.Of.length ∧ Ext w7 w') (fun i => p.Of.length - i) 0 (by simp [SubB, fnd, Ec.ordN]) ⟨by omega, Ext.refl _⟩ ?_
  rintro i w8 ⟨hi, x8⟩
  have y8 := y7.trans x8
  have p8 := P w8 (z7.trans x8)
  have honi := hon i
  (repeat with_reducible first | refine js ?_ | refine ja ?_ | refine jw KL3 [28, 32] (aa TF3 (aa p8 (aa hP.o.s hP.o.len))) fun _ => ?_)
  refine Run_condS (fun _ => rfl) (fun h => ?_) (fun h => ?_)
  · simp at h
    obtain ⟨j1, j2, -⟩ := (hP.o.ext y8).get h
    have hgo : p.Of.getD i 0 = p.Of[i] := by simp [List.getD_eq_getElem?_getD, h]
    have hsu : Ec.ordN p run (i + 1) = Ec.ordN p run i + if p.Of[i] = run then 1 else 0 := by simp only [Ec.ordN]; rw [hgo]
    (repeat with_reducible first | refine js ?_ | refine ja ?_ | refine jw KL3 [28, 32] (aa TF3 (aa p8 (aa hP.o.s (aa hP.o.len (aa j1 j2))))) fun _ => ?_)
    refine Run_condS (fun _ => rfl) (fun h => ?_) (fun h => ?_)
    · simp at h
      rw [if_pos h] at hsu
      (repeat with_reducible first | refine js ?_ | refine ja ?_ | refine jw KL3 [28, 32] TF3 fun _ => ?_)
      refine Run_lp ⟨i + 1, ?_, ⟨by omega, x8⟩, by omega⟩
      rw [hsu]
      simp [SubB, fnd, strike, has]
    · simp at h
      rw [if_neg h, Nat.add_zero] at hsu
      (repeat with_reducible first | refine js ?_ | refine ja ?_ | refine jw KL3 [28, 32] TF3 fun _ => ?_)
      refine Run_lp ⟨i + 1, ?_, ⟨by omega, x8⟩, by omega⟩
      rw [hsu]
      simp [SubB, fnd, strike, has]
  simp at h
  obtain rfl : i = p.Of.length := by omega
  rw [hofl]
  rw [hofl] at honi
  have hmul : Ec.ordN p run l.length * n ≤ 64 * 8 := Nat.mul_le_mul (by omega) (by omega)
  generalize hON : Ec.ordN p run l.length = N at *
  have hsm := sm.len
  (repeat with_reducible first | refine js ?_ | refine ja ?_ | refine jw KL3 [28, 32] TF3 fun _ => ?_)
  refine Run_loopV [12, 17, 18, 19, 20, 84, 110, 112, 113, 117, 137, 138, 176] (σ := Nat) (fun k => [(18, some (.int .i64 k)), (17, some (.int .i64 (Ec.legN (ms.take k) : Nat)))]) (fun k w' => k ≤ ms.length ∧ Ext w7 w') (fun k => ms.length - k) 0 (by simp [SubB, fnd, Ec.legN]) ⟨by omega, x8⟩ ?_
  rintro k w9 ⟨hk, x9⟩
  have y9 := y7.trans x9
  have z9 := z7.trans x9
  (repeat with_reducible first | refine js ?_ | refine ja ?_ | refine jw KL3 [28, 32] (aa TF3 (aa sm.s sm.len)) fun _ => ?_)
  refine Run_condS (fun _ => rfl) (fun h => ?_) (fun h => ?_)
  · simp at h
    have hkl := h
    have hleg := Ec.legN_take hkl
    have hlt : Ec.legN (ms.take k) ≤ ms.length := by
      have h1 : Ec.legN ms = Ec.legN (ms.take k) + Ec.legN (ms.drop k) := by rw [← Ec.legN_append, List.take_append_drop]
      omega
    obtain ⟨g1, g2⟩ := (sm.ext (x7.trans x9)).moveD hkl
    obtain ⟨⟨a1, a2, a3⟩, b1, b2, b3, b4⟩ := hmv _ (List.getElem_mem hkl)
    have hno := hnum k ms[k] (by simp [hkl])
    simp only [MoveD.cs, AtN, KS, Nat.reduceAdd, Nat.reduceMul, Nat.reduceEqDiff, ↓reduceIte, UT] at g1
    generalize ms[k] = y at *
    (repeat with_reducible first | refine js ?_ | refine ja ?_ | refine jw KL3 [28, 32] (aa TF3 (aa sm.s (aa sm.len g1))) fun _ => ?_)
    refine SemW_allocT ti41 fun px w10 h10 => ?_
    have b10 := h10.blk
    refine SemW_setW (by rw [cells41]; decide) (by rw [cells41]; rfl) h10.row (by rw [cells41]; rfl) rfl fun w11 r11 k11 z11 => ?_
    have r11 : Row w11 px 41 y.cs := r11
    have x11 : Ext w7 w11 := Keep.ext (x9.trans h10.ext) k11 fun q hq => by have := x9.size; omega
    have m11 := r11.n
    simp only [MoveD.cs, AtN, KS, Nat.reduceAdd, Nat.reduceMul, Nat.reduceEqDiff, ↓reduceIte, UT] at m11
    have c0 : (y.No != (k : Int)) = false := by simp [hno]
    have c1 : (y.From != 2) = false := by simp [b1]
    have c2 : (y.Run != run) = false := by simp [b3]
    have c3 : decide (y.Amount < 0) = false := by simp; omega
    (repeat with_reducible first | refine js ?_ | refine ja ?_ | refine jw KL3 [28, 32] (aa TF3 (aa m11 (aa c0 (aa c1 (aa c2 (aa c3 KX)))))) fun _ => ?_)
    refine Run_condS (fun _ => rfl) (fun h => by cases h) (fun _ => ?_)
    (repeat with_reducible first | refine js ?_ | refine ja ?_ | refine jw KL3 [28, 32] (aa TF3 m11) fun _ => ?_)
    have y11 := y7.trans x11
    have z11' := z7.trans x11
    rcases b4 with hw | ⟨hw, ht, hnn⟩ | ⟨hw, hnn, i, hik, hiof, hito⟩
    · rw [if_pos hw] at hleg
      rw [hw]
      (repeat with_reducible first | refine js ?_ | refine ja ?_ | refine jw KL3 [28, 32] (aa TF3 (aa @beq_self_eq_true.{0} KX)) fun _ => ?_)
      refine Run_condS (fun _ => rfl) (fun _ => ?_) (fun h => by cases h)
      (repeat with_reducible first | refine js ?_ | refine ja ?_ | refine jw KL3 [28, 32] TF3 fun _ => ?_)
      refine Run_lp ⟨k + 1, ?_, ⟨by omega, x11⟩, by omega⟩
      rw [hleg]
      simp [SubB, fnd, strike, has]
    · rw [if_neg (by omega), Nat.add_zero] at hleg
      rw [hw, show ((3 : Int) == 2) = false by decide]
      refine Run_condS (fun _ => rfl) (fun h => by cases h) (fun _ => ?_)
      (repeat with_reducible first | refine js ?_ | refine ja ?_ | refine jw KL3 [28, 32] (aa TF3 (aa (show ((3 : Int) == 3) = true by decide) KX)) fun _ => ?_)
      refine Run_condS (fun _ => rfl) (fun _ => ?_) (fun h => by cases h)
      have t11 := T _ z11'
      have p11 := P _ z11'
      have g11 := G _ y11
      have c4 : (y.To != 1) = false := by simp [ht]
      have c5 : ((n : Int) != (x.Legs.length : Int)) = false := by simp [hnn]
      (repeat with_reducible first | refine js ?_ | refine ja ?_ | refine jw KL3 [28, 32] (aa TF3 (aa m11 (aa c4 (aa c5 (aa t11 (aa p11 (aa g11 (aa hP.r.s (aa hP.r.len (aa hl.s (aa hl.len (aa hR.l.s (aa hR.l.len KX))))))))))))) fun _ => ?_)
      intro w12 x12
      refine Run_condS (fun _ => rfl) (fun h => by cases h) (fun _ => ?_)
      (repeat with_reducible first | refine js ?_ | refine ja ?_ | refine jw KL3 [28, 32] TF3 fun _ => ?_)
      refine Run_lp ⟨k + 1, ?_, ⟨by omega, x11.trans x12⟩, by omega⟩
      rw [hleg]
      simp [SubB, fnd, strike, has]
    · rw [if_neg (by omega), Nat.add_zero] at hleg
      rw [hw, show ((4 : Int) == 2) = false by decide]
      refine Run_condS (fun _ => rfl) (fun h => by cases h) (fun _ => ?_)
      (repeat with_reducible first | refine js ?_ | refine ja ?_ | refine jw KL3 [28, 32] (aa TF3 (aa (show ((4 : Int) == 3) = false by decide) KX)) fun _ => ?_)
      refine Run_condS (fun _ => rfl) (fun h => by cases h) (fun _ => ?_)
      (repeat with_reducible first | refine js ?_ | refine ja ?_ | refine jw KL3 [28, 32] (aa TF3 (aa (show ((4 : Int) == 4) = true by decide) KX)) fun _ => ?_)
      refine Run_condS (fun _ => rfl) (fun _ => ?_) (fun h => by cases h)
      have hip : i < p.Of.length := by omega
      have hgo : p.Of.getD i 0 = p.Of[i] := by simp [List.getD_eq_getElem?_getD, hip]
      have e51 : y.To - 51 = (i : Int) := by omega
      (repeat with_reducible first | refine js ?_ | refine ja ?_ | refine jw KL3 [28, 32] (aa TF3 (aa m11 e51)) fun _ => ?_)
      have t11 := T _ z11'
      have p11 := P _ z11'
      have g11 := G _ y11
      obtain ⟨j1, j2, -⟩ := (hP.o.ext y11).get hip
      rw [← hgo, hiof] at j1
      have c4 : decide ((i : Int) < 0) = false := by simp
      have c5 : decide ((p.Of.length : Int) ≤ (i : Int)) = false := by simp; omega
      have c6 : decide ((x.Legs.length : Int) ≤ (n : Int)) = false := by simp; omega
      (repeat with_reducible first | refine js ?_ | refine ja ?_ | refine jw KL3 [28, 32] (aa TF3 (aa c4 (aa c5 (aa c6 (aa @bne_self_eq_false.{0} (aa hP.o.s (aa hP.o.len (aa j1 (aa j2 (aa t11 (aa p11 (aa g11 (aa hP.r.s (aa hP.r.len (aa hl.s (aa hl.len (aa hR.l.s (aa hR.l.len KX)))))))))))))))))) fun _ => ?_)
      intro w12 x12
      refine Run_condS (fun _ => rfl) (fun h => by cases h) (fun _ => ?_)
      (repeat with_reducible first | refine js ?_ | refine ja ?_ | refine jw KL3 [28, 32] TF3 fun _ => ?_)
      refine Run_lp ⟨k + 1, ?_, ⟨by omega, x11.trans x12⟩, by omega⟩
      rw [hleg]
      simp [SubB, fnd, strike, has]
  · simp at h
    obtain rfl : k = ms.length := by omega
    rw [List.take_length]
    rw [hcnt.1]
    (repeat with_reducible first | refine js ?_ | refine ja ?_ | refine jw KL3 [28, 32] (aa TF3 (aa sm.s (aa sm.len KX))) fun _ => ?_)
    refine Run_ret ?_
    have hb : (((N * n : Nat) : Int) == (N : Int) * (n : Int) && (ms.length : Int) == ((N * n : Nat) : Int) + (N : Int)) = true := by rw [hcnt.2]; simp
    simp only [Rets, RetM, resV, fnd, oneOr, ↓reduceIte, hb]
    exact ⟨_, rfl, rfl, y9⟩
end Go.Proofs.Ytoadfmgnpmcbfaa
