/- Chapter 39: EscrowLeg. -/
import Derived.Test.YtoadfmgnpmcbfaaGreatW39u
import Derived.Test.YtoadfmgnpmcbfaaGreatW39i
import Derived.Test.YtoadfmgnpmcbfaaGreatP39x
namespace Go.Proofs.YtoadfmgnpmcbfaaGreat
open Go Go.Fk
set_option linter.unusedSimpArgs false
set_option linter.unusedVariables false
set_option maxRecDepth 100000

theorem pay_ok {t : TimeD} {f : TariffD} {l : List OrderD} {p : PlanD} {run h : Int} (hc : (Ec.pay t f l p run h).2 = 0) :
    Ec.Ok t f l p ∧ Ec.err t f l p = 0 ∧ 0 ≤ run ∧ run < p.Runs.length ∧ 0 ≤ h ∧ h ≤ (Ec.lineP t p run).Legs.length ∧ (Ec.pay t f l p run h).1 = Ec.pays t f l p run h.toNat l.length := by
  unfold Ec.pay at hc ⊢
  by_cases h1 : Ec.err t f l p = 0
  · rw [if_neg (by simp [h1])] at hc ⊢
    by_cases h2 : run < 0 ∨ p.Runs.length ≤ run ∨ h < 0 ∨ (Ec.lineP t p run).Legs.length < h
    · rw [if_pos h2] at hc; cases hc
    · rw [if_neg h2]; exact ⟨Ec.err_ok h1, h1, by omega, by omega, by omega, by omega, rfl⟩
  · rw [if_pos (by simpa using h1)] at hc; exact (h1 hc).elim
theorem rerrP {vl u0 u1 u2 vo v0 v1 v2 : Value} {t : TimeD} {f : TariffD} {l : List OrderD} {p : PlanD} {n : Int} {w : World} (h : Ec.err t f l p = n) (hl : Sl w vl t.Lines) (hT : TarR w f u0 u1 u2) (ho : Sl w vo l) (hP : PlanR w p v0 v1 v2) :
    PC Tryz.prog (Ext w) (.func (.func 24) #[] #[]) [.agg #[.int .i64 t.Offices, vl], .agg #[u0, u1, u2], vo, .agg #[v0, v1, v2]] (.int .i64 n) := by
  subst h; exact PC_pure call24 fun w' x' => rfError39 vl u0 u1 u2 vo v0 v1 v2 t f l p w' (hl.ext x') (hT.ext x') (ho.ext x') (hP.ext x')
theorem setArrW {L : List Int} {w : World} {p : Addr} {vs : List Value} {K : Unit → World → Prop} (hL : L.length = 115) (hg : Row w p 46 vs) (hv : vs.length = 115) (hK : ∀ w', Row w' p 46 (ints L) → Keep (fun k => k ≠ p.block) w w' → w'.heap.size = w.heap.size → K () w') :
    SemW Tryz.prog (Instr.storeAt 46 (.pointer (some p)) (.agg (ints L).toArray)) w K :=
  SemW_setW cArr (by rw [cells46]; simpa [Value.cells] using hL) hg (by rw [cells46]; exact hv) (by simp [Value.cells, Value.oneCell']) fun w' r k z => hK w' (by simpa [Value.cells] using r) k z
theorem newArrW {L : List Int} {w : World} {K : Unit → World → Prop} {G : Addr → World → Prop} (hL : L.length = 115) (hK : ∀ p w', Row w' p 46 (ints L) → Ext w w' → p.block = w.heap.size → G p w') :
    SemW Tryz.prog (Instr.alloc 46 true (.tuple #[])) w fun v w' => SemW Tryz.prog (Instr.storeAt 46 v (.agg (ints L).toArray)) w' fun _ w' => ∃ p, v = .pointer (some p) ∧ G p w' := by
  refine SemW_allocT ti46 fun p w1 h1 => ?_
  have b1 := h1.blk
  refine setArrW hL h1.row (by simp [Value.cells]) fun w2 r2 k2 z2 => ⟨p, rfl, hK p w2 r2 (Keep.ext h1.ext k2 fun q hq => by omega) b1⟩
theorem accW {b : List Int} {vm : Value} {m : List MoveD} {w : World} {K : Value → World → Prop} (hm : Sl w vm m) (hA : Ec.Acc b m) (hK : ∀ w', Ext w w' → K (.tuple #[.agg (ints (Bk.after b m)).toArray, .bool true]) w') :
    CallW Tryz.prog (.func (.func 25) #[] #[]) [.agg (ints b).toArray, vm] w K :=
  CallW_pure call25 (lawAccounts b vm m w hm hA) hK
set_option maxHeartbeats 1000000 in
theorem lawEscrowLeg (vl u0 u1 u2 vo v0 v1 v2 : Value) (t : TimeD) (f : TariffD) (l : List OrderD) (p : PlanD) (run handed : Int) (w : World) (hl : Sl w vl t.Lines) (hT : TarR w f u0 u1 u2) (ho : Sl w vo l) (hP : PlanR w p v0 v1 v2) (hr : I64 run) (hd : I64 handed) :
    Calls Tryz.prog 6 #[.agg (t.cs vl).toArray, .agg (f.cs u0 u1 u2).toArray, vo, .agg (p.cs v0 v1 v2).toArray, .int .i64 run, .int .i64 handed] w fun e w' => Yes e ∧ Ext w w' := by
  refine Calls_of_Run (args := [.agg (t.cs vl).toArray, .agg (f.cs u0 u1 u2).toArray, vo, .agg (p.cs v0 v1 v2).toArray, .int .i64 run, .int .i64 handed]) (n := 235) (rs := [.tmp 12]) Tryz.func6 rfl rfl rfl (by simp) ?_
  (repeat with_reducible first | refine js ?_ | refine ja ?_ | refine jw KL6 [9, 17, 18, 24, 25, 33] TF6 fun _ => ?_)
  refine SemW_box fun pt w1 h1 => SemW_box fun pf w2 h2 => SemW_box fun pp w3 h3 => ?_
  have x3 := h1.ext.trans (h2.ext.trans h3.ext)
  have T : ∀ w', Ext w3 w' → AtN w' pt 0 (t.cs vl) := fun w' x => (h1.at_.ext (h2.ext.trans (h3.ext.trans x))).n
  have F : ∀ w', Ext w3 w' → AtN w' pf 0 (f.cs u0 u1 u2) := fun w' x => (h2.at_.ext (h3.ext.trans x)).n
  have P : ∀ w', Ext w3 w' → AtN w' pp 0 (p.cs v0 v1 v2) := fun w' x => (h3.at_.ext x).n
  simp only [TimeD.cs, TariffD.cs, PlanD.cs, AtN, KS, Nat.reduceAdd, Nat.reduceMul, Nat.reduceEqDiff, ↓reduceIte, UT] at T F P
  (repeat with_reducible first | refine js ?_ | refine ja ?_ | refine jw KL6 [9, 17, 18, 24, 25, 33] TF6 fun _ => ?_)
  refine saneW fun w4 x4 => ?_
  (repeat with_reducible first | refine js ?_ | refine ja ?_ | refine jw KL6 [9, 17, 18, 24, 25, 33] TF6 fun _ => ?_)
  refine Run_condS (fun _ => rfl) (fun h => by cases h) (fun _ => ?_)
  have y4 := x3.trans x4
  have t4 := T w4 x4
  have f4 := F w4 x4
  have p4 := P w4 x4
  (repeat with_reducible first | refine js ?_ | refine ja ?_ | refine jw KL6 [9, 17, 18, 24, 25, 33] (aa TF6 (aa t4 (aa f4 p4))) fun _ => ?_)
  refine few39W (hl.ext y4) (hT.ext y4) (ho.ext y4) (hP.ext y4) fun b w5 x5 hb => ?_
  have y5 := y4.trans x5
  (repeat with_reducible first | refine js ?_ | refine ja ?_ | refine jw KL6 [9, 17, 18, 24, 25, 33] (aa TF6 KX) fun _ => ?_)
  refine Run_condS (fun _ => rfl) (fun h => ?_) (fun h => ?_)
  · (repeat with_reducible first | refine js ?_ | refine ja ?_ | refine jw KL6 [9, 17, 18, 24, 25, 33] TF6 fun _ => ?_)
    refine Run_ret ?_
    simp [Rets, RetM, resV, fnd, oneOr, y5]
  have z5 := x4.trans x5
  have t5 := T w5 z5
  have f5 := F w5 z5
  have p5 := P w5 z5
  have h9 : 0 ≤ handed ∧ handed ≤ 9 := by
    simp only [Bool.or_eq_false_iff, decide_eq_false_iff_not] at h; omega
  clear h
  generalize hm : Ec.pay t f l p run handed = m at *
  generalize hn : Ec.pay t f l p run (handed + 1) = n at *
  obtain ⟨ms, me⟩ := m
  obtain ⟨ns, ne⟩ := n
  (repeat with_reducible first | refine js ?_ | refine ja ?_ | refine jw KL6 [9, 17, 18, 24, 25, 33] (aa TF6 (aa t5 (aa f5 p5))) fun _ => ?_)
  refine payW hm (hl.ext y5) (hT.ext y5) (ho.ext y5) (hP.ext y5) hr fun vm w6 x6 sm => ?_
  have y6 := y5.trans x6
  have z6 := z5.trans x6
  have t6 := T w6 z6
  have f6 := F w6 z6
  have p6 := P w6 z6
  (repeat with_reducible first | refine js ?_ | refine ja ?_ | refine jw KL6 [9, 17, 18, 24, 25, 33] (aa TF6 (aa t6 (aa f6 p6))) fun _ => ?_)
  refine payW hn (hl.ext y6) (hT.ext y6) (ho.ext y6) (hP.ext y6) hr fun vn w7 x7 sn => ?_
  have y7 := y6.trans x7
  have z7 := z6.trans x7
  (repeat with_reducible first | refine js ?_ | refine ja ?_ | refine jw KL6 [9, 17, 18, 24, 25, 33] (aa TF6 KX) fun _ => ?_)
  refine Run_condS (fun _ => rfl) (fun h => ?_) (fun h => ?_)
  · (repeat with_reducible first | refine js ?_ | refine ja ?_ | refine jw KL6 [9, 17, 18, 24, 25, 33] TF6 fun _ => ?_)
    refine Run_ret ?_
    simp [Rets, RetM, resV, fnd, oneOr, y7]
  have h0 : me = 0 ∧ ne = 0 := by simpa using h
  clear h
  obtain ⟨rfl, rfl⟩ := h0
  obtain ⟨ok, hc, r0, r1, q0, q1, e1⟩ := pay_ok (by rw [hm])
  obtain ⟨_, _, _, _, _, q2, e2⟩ := pay_ok (run := run) (h := handed + 1) (by rw [hn])
  rw [hm] at e1
  rw [hn] at e2
  simp only at e1 e2
  have t7 := T w7 z7
  have f7 := F w7 z7
  have p7 := P w7 z7
  have hrl := hP.r.len
  have hll := hl.len
  obtain ⟨l0, l1, l2, l3, hC⟩ := lineC hl ok r0 r1
  have hrn := hC.r
  have hn0 := hC.n0
  have hn := hC.n
  have hR := hC.l
  have hone := hR.one
  obtain ⟨_, _, _, _, hlo⟩ := line_at ok r0 r1
  have hoff := (Tt.chk_ok ok.o.t).o
  have ox9 := hlo.o9
  have oxl := hlo.l1
  have hxs := hlo.s
  have G : ∀ w', Ext w w' → AtN w' ((slAt v0).add (run.toNat * 3)) 0 p.Runs[run.toNat].cs ∧ AtN w' ((slAt vl).add (p.Runs[run.toNat].Line.toNat * 6)) 0 ((Ec.lineP t p run).cs l0 l1 l2 l3) := fun w' x => ⟨((hP.r.ext x).runD hrn).1, (hC.a.ext x).n⟩
  have B0 := Ec.big_acc ok (run := run) (n := handed.toNat) (by omega) (by omega)
  have B1 := Ec.big_acc ok (run := run) (n := handed.toNat + 1) (by omega) (by omega)
  have L2 := Ec.leg_two ok (run := run) (n := handed.toNat) (by omega) (by omega)
  have LS := fun k (hk : k < l.length) hr => Ec.leg_sender ok (n := handed.toNat) (by omega) (by omega) hk (run := run) hr
  have LO := fun j hj => Ec.leg_office ok (n := handed.toNat) (run := run) (by omega) (by omega) (j := j) hj
  have D0 := fun j hj => Ec.big_bd ok (n := handed.toNat) (run := run) (by omega) (by omega) (j := j) hj
  have D1 := fun j hj => Ec.big_bd ok (n := handed.toNat + 1) (run := run) (by omega) (by omega) (j := j) hj
  have hh1 : (handed + 1).toNat = handed.toNat + 1 := by omega
  rw [hh1] at e2
  rw [← e1] at B0 L2 LS LO D0
  rw [← e2] at B1 L2 LS LO D1
  generalize hxx : Ec.lineP t p run = x at *
  generalize hrr : p.Runs[run.toNat] = r at *
  simp only [RunD.cs, LineD.cs, AtN, KS, Nat.reduceAdd, Nat.reduceMul, Nat.reduceEqDiff, ↓reduceIte, UT] at G
  have g7 := G w7 y7
  have d1 : decide (run < 0) = false := by simp; omega
  have d2 : decide ((p.Runs.length : Int) ≤ run) = false := by simp; omega
  have d3 : decide ((x.Legs.length : Int) ≤ handed) = false := by simp; omega
  have hrll := hR.l.len
  (repeat with_reducible first | refine js ?_ | refine ja ?_ | refine jw KL6 [9, 17, 18, 24, 25, 33] (aa TF6 (aa t7 (aa f7 (aa p7 (aa hP.r.s (aa hP.r.len (aa hl.s (aa hl.len (aa g7 (aa hR.l.s (aa hR.l.len (aa d1 (aa d2 (aa d3 KX)))))))))))))) fun _ => ?_)
  refine ⟨.int .i64 0, rerrP hc (hl.ext y7) (hT.ext y7) (ho.ext y7) (hP.ext y7), ?_⟩
  (repeat with_reducible first | refine js ?_ | refine ja ?_ | refine jw KL6 [9, 17, 18, 24, 25, 33] (aa TF6 (aa d1 (aa d2 (aa d3 (aa @bne_self_eq_false.{0} KX))))) fun _ => ?_)
  intro wa xa
  refine Run_condS (fun _ => rfl) (fun h => by cases h) (fun _ => ?_)
  (repeat with_reducible first | refine js ?_ | refine ja ?_ | refine jw KL6 [9, 17, 18, 24, 25, 33] TF6 fun _ => ?_)
  refine ⟨.agg (ints (List.replicate 115 0)).toArray, fun _ => by kernel_rfl, ?_⟩
  refine SemW_allocT ti46 fun pg w8 h8 => ?_
  have b8 := h8.blk
  refine setArrW (by simp) h8.row (by simp [Value.cells]) fun w9 r9 k9 z9 => ?_
  have x9 : Ext w7 w9 := Keep.ext (xa.trans h8.ext) k9 fun q hq => by have := xa.size; omega
  (repeat with_reducible first | refine js ?_ | refine ja ?_ | refine jw KL6 [9, 17, 18, 24, 25, 33] TF6 fun _ => ?_)
  refine SemW_setAt (i := 2) (by rw [cells3]) r9 (by simp) rfl rfl fun w10 r10 k10 z10 => ?_
  rw [ints_set] at r10
  have r10 : Row w10 pg 46 (ints Ec.big) := r10
  have x10 : Ext w7 w10 := Keep.ext x9 k10 fun q hq => by have := xa.size; omega
  have y10 := y7.trans x10
  obtain ⟨g1, g2⟩ := at_memA r10.at_ (n := 115) (by simp [Ec.big_len])
  (repeat with_reducible first | refine js ?_ | refine ja ?_ | refine jw KL6 [9, 17, 18, 24, 25, 33] (aa TF6 (aa g1 g2)) fun _ => ?_)
  refine accW (sm.ext (x7.trans x10)) B0.1 fun w11 x11 => ?_
  (repeat with_reducible first | refine js ?_ | refine ja ?_ | refine jw KL6 [9, 17, 18, 24, 25, 33] TF6 fun _ => ?_)
  refine SemW_allocT ti46 fun pa w12 h12 => ?_
  have b12 := h12.blk
  refine setArrW (by rw [Bk.after_len, Ec.big_len]) h12.row (by simp [Value.cells]) fun w13 r13 k13 z13 => ?_
  have x13 : Ext w10 w13 := Keep.ext (x11.trans h12.ext) k13 fun q hq => by have := x11.size; omega
  obtain ⟨g3, g4⟩ := at_memA (r10.ext x13).at_ (n := 115) (by simp [Ec.big_len])
  (repeat with_reducible first | refine js ?_ | refine ja ?_ | refine jw KL6 [9, 17, 18, 24, 25, 33] (aa TF6 (aa g3 g4)) fun _ => ?_)
  refine accW (sn.ext (x10.trans x13)) B1.1 fun w14 x14 => ?_
  (repeat with_reducible first | refine js ?_ | refine ja ?_ | refine jw KL6 [9, 17, 18, 24, 25, 33] TF6 fun _ => ?_)
  refine SemW_allocT ti46 fun pb w15 h15 => ?_
  have b15 := h15.blk
  refine setArrW (by rw [Bk.after_len, Ec.big_len]) h15.row (by simp [Value.cells]) fun w16 r16 k16 z16 => ?_
  have x16 : Ext w13 w16 := Keep.ext (x14.trans h15.ext) k16 fun q hq => by have := x14.size; omega
  have ra := r13.ext x16
  have y16 := y10.trans (x13.trans x16)
  have q16 := z7.trans (x10.trans (x13.trans x16))
  have hlA : (Bk.after Ec.big ms).length = 115 := by rw [Bk.after_len, Ec.big_len]
  have hlB : (Bk.after Ec.big ns).length = 115 := by rw [Bk.after_len, Ec.big_len]
  generalize Bk.after Ec.big ms = a at *
  generalize Bk.after Ec.big ns = c at *
  clear B0 B1
  have A : ∀ w', Ext w16 w' → ∀ k, k < 115 → (has1 w' (pa.add k) ∧ mem w' (pa.add k) = .int .i64 (Bk.lo a k)) ∧ (has1 w' (pb.add k) ∧ mem w' (pb.add k) = .int .i64 (Bk.lo c k)) := fun w' x k hk => by
    have h1 := at_int (ra.ext x).at_ (show k < a.length by omega)
    have h2 := at_int (r16.ext x).at_ (show k < c.length by omega)
    have e1 : a[k]'(by omega) = Bk.lo a k := lo_get (k := (k : Int)) (by omega) (by omega)
    have e2 : c[k]'(by omega) = Bk.lo c k := lo_get (k := (k : Int)) (by omega) (by omega)
    rw [e1] at h1; rw [e2] at h2
    exact ⟨h1, h2⟩
  have a2 := A w16 (Ext.refl _) 2 (by omega)
  have e2 : (Bk.lo a 2 != Bk.lo c 2) = false := by simpa using L2
  (repeat with_reducible first | refine js ?_ | refine ja ?_ | refine jw KL6 [9, 17, 18, 24, 25, 33] (aa TF6 (aa a2 (aa e2 KX))) fun _ => ?_)
  refine Run_condS (fun _ => rfl) (fun h => by cases h) (fun _ => ?_)
  have t16 := T _ q16
  have p16 := P _ q16
  have g16 := G _ y16
  obtain ⟨o1, o2, o3⟩ := (hR.o.ext y16).get (show handed.toNat < x.Offices.length by omega)
  have hof := hxs x.Offices[handed.toNat] (List.getElem_mem _)
  (repeat with_reducible first | refine js ?_ | refine ja ?_ | refine jw KL6 [9, 17, 18, 24, 25, 33] (aa TF6 (aa t16 (aa p16 (aa g16 (aa hP.r.s (aa hP.r.len (aa hl.s (aa hl.len (aa hR.l.s (aa hR.l.len (aa hR.o.s (aa hR.o.len (aa o1 (aa o2 KX)))))))))))))) fun _ => ?_)
  intro w17 x17
  have t17 := T _ (q16.trans x17)
  have p17 := P _ (q16.trans x17)
  have g17 := G _ (y16.trans x17)
  obtain ⟨o4, o5, _⟩ := (hR.o.ext (y16.trans x17)).get (show handed.toNat < x.Offices.length by omega)
  (repeat with_reducible first | refine js ?_ | refine ja ?_ | refine jw KL6 [9, 17, 18, 24, 25, 33] (aa TF6 (aa t17 (aa p17 (aa g17 (aa hP.r.s (aa hP.r.len (aa hl.s (aa hl.len (aa hR.l.s (aa hR.l.len (aa hR.o.s (aa hR.o.len (aa o4 (aa o5 KX)))))))))))))) fun _ => ?_)
  intro w18 x18
  have y18 := y16.trans (x17.trans x18)
  have z18 := q16.trans (x17.trans x18)
  have v18 := x17.trans x18
  have hn64 := ok.o.n
  have hol := ho.len
  have LO' : ∀ j : Nat, 3 ≤ j → j < 27 → Bk.lo c (j : Int) - Bk.lo a (j : Int) = if (j : Int) = 3 + x.Offices[handed.toNat] then Ec.gainR f l p run l.length else 0 := fun j h1 h2 => by
    have := LO j (by omega)
    rw [this]
    simp only [List.getD_eq_getElem?_getD, List.getElem?_eq_getElem (show handed.toNat < x.Offices.length by omega), Option.getD_some]
  have LS' : ∀ k (hk : k < l.length), p.Of.getD k 0 = run → (handed + 1 = x.Legs.length → Bk.lo c ((51 + k : Nat) : Int) = 0) ∧ (¬ handed + 1 = x.Legs.length → Bk.lo a ((51 + k : Nat) : Int) - Bk.lo c ((51 + k : Nat) : Int) = Tf.leg f l[k].Class) := fun k hk hr => by
    have h := LS k hk hr
    rw [show ((51 + k : Nat) : Int) = 51 + (k : Int) by omega]
    rw [show l.getD k default = l[k] by simp [List.getD_eq_getElem?_getD, hk]] at h
    exact ⟨fun e => h.1 (by omega), fun e => h.2 (by omega)⟩
  generalize 3 + x.Offices[handed.toNat] = office at *
  have LB : ∃ lb : Bool, (handed + 1 == (x.Legs.length : Int)) = lb ∧ (lb = true ↔ handed + 1 = x.Legs.length) := ⟨_, rfl, by simp⟩
  obtain ⟨lb, hlb, hlb2⟩ := LB
  rw [hlb]
  (repeat with_reducible first | refine js ?_ | refine ja ?_ | refine jw KL6 [9, 17, 18, 24, 25, 33] TF6 fun _ => ?_)
  refine Run_loopV [12, 24, 25, 164, 173, 217] (σ := Nat) (fun i => [(25, some (.int .i64 i)), (24, some (.int .i64 (Ec.gainR f l p run i)))]) (fun i w' => i ≤ l.length ∧ Ext w18 w') (fun i => l.length - i) 0 (by simp [SubB, fnd, Ec.gainR]) ⟨by omega, Ext.refl _⟩ ?_
  rintro i w19 ⟨hi, x19⟩
  have y19 := y18.trans x19
  have z19 := z18.trans x19
  have hgb := Ec.gainR_bd ok run i
  (repeat with_reducible first | refine js ?_ | refine ja ?_ | refine jw KL6 [9, 17, 18, 24, 25, 33] (aa TF6 (aa ho.s ho.len)) fun _ => ?_)
  refine Run_condS (fun _ => rfl) (fun h => ?_) (fun h => ?_)
  · simp at h
    have hil := h
    have hip : i < p.Of.length := by rw [ok.ol]; exact hil
    have hgo : p.Of.getD i 0 = p.Of[i] := by simp [List.getD_eq_getElem?_getD, hip]
    have hgl : l.getD i default = l[i] := by simp [List.getD_eq_getElem?_getD, hil]
    have hsu : Ec.gainR f l p run (i + 1) = Ec.gainR f l p run i + if p.Of[i] = run then Tf.leg f l[i].Class else 0 := by simp only [Ec.gainR]; rw [hgo, hgl]
    have p19 := P w19 z19
    obtain ⟨j1, j2, j3⟩ := (hP.o.ext y19).get hip
    (repeat with_reducible first | refine js ?_ | refine ja ?_ | refine jw KL6 [9, 17, 18, 24, 25, 33] (aa TF6 (aa p19 (aa hP.o.s (aa hP.o.len (aa j1 j2))))) fun _ => ?_)
    refine Run_condS (fun _ => rfl) (fun h => ?_) (fun h => ?_)
    · simp at h
      rw [if_neg h, Int.add_zero] at hsu
      (repeat with_reducible first | refine js ?_ | refine ja ?_ | refine jw KL6 [9, 17, 18, 24, 25, 33] TF6 fun _ => ?_)
      refine Run_lp ⟨i + 1, ?_, ⟨by omega, x19⟩, by omega⟩
      rw [hsu]
      simp [SubB, fnd, strike, has]
    simp at h
    rw [if_pos h] at hsu
    have f19 := F w19 z19
    obtain ⟨_, _, _, _, hcl, _⟩ := Ec.price_eq ok hil
    rw [hgl] at hcl
    have hfl := (Tf.chk_ok ok.o.f).n
    have hLS := LS' i hil (by rw [hgo, h])
    obtain ⟨g, gO, gAt, hO⟩ := (ho.ext y19).ord hil
    have hcx : l[i].Class.toNat < f.Leg.length := by omega
    have hlg : Tf.leg f l[i].Class = f.Leg[l[i].Class.toNat]'(by omega) := by
      unfold Tf.leg; rw [List.getD_eq_getElem?_getD, List.getElem?_eq_getElem (by omega)]; rfl
    have hlb := Tf.leg_bd ok.o.f l[i].Class
    obtain ⟨m1, m2, -⟩ := (hT.l.ext y19).get (show l[i].Class.toNat < f.Leg.length by omega)
    rw [← hlg] at m1
    simp only [OrderD.cs, AtN, KS, Nat.reduceAdd, Nat.reduceMul, Nat.reduceEqDiff, ↓reduceIte, UT] at gO
    have hnl := hT.l.len
    (repeat with_reducible first | refine js ?_ | refine ja ?_ | refine jw KL6 [9, 17, 18, 24, 25, 33] (aa TF6 (aa f19 (aa ho.s (aa ho.len (aa gO (aa hT.l.s (aa hnl (aa m1 (aa m2 KX))))))))) fun _ => ?_)
    intro w20 x20
    have y20 := y19.trans x20
    have v20 := v18.trans (x19.trans x20)
    have f20 := F w20 (z19.trans x20)
    have gO2 := (gAt.ext x20).n
    simp only [OrderD.cs, AtN, KS, Nat.reduceAdd, Nat.reduceMul, Nat.reduceEqDiff, ↓reduceIte, UT] at gO2
    obtain ⟨n1, n2, -⟩ := (hT.l.ext y20).get hcx
    rw [← hlg] at n1
    have b20 := A w20 v20 (51 + i) (by omega)
    have da := D0 ((51 + i : Nat) : Int) (by omega)
    have db := D1 ((51 + i : Nat) : Int) (by omega)
    have e51 : (51 + (i : Int)).toNat = 51 + i := by omega
    generalize ((51 + i : Nat) : Int) = j51 at *
    clear hlg
    generalize l[i] = o at *
    generalize Tf.leg f o.Class = q at *
    generalize Bk.lo a j51 = a1 at *
    generalize Bk.lo c j51 = c1 at *
    cases lb
    · have hq : ¬ handed + 1 = x.Legs.length := fun e => by simpa using hlb2.2 e
      have e2 := hLS.2 hq
      have e3 : (a1 - c1 != q) = false := by simp [e2]
      (repeat with_reducible first | refine js ?_ | refine ja ?_ | refine jw KL6 [9, 17, 18, 24, 25, 33] (aa TF6 (aa f20 (aa ho.s (aa ho.len (aa gO2 (aa hT.l.s (aa hnl (aa n1 (aa n2 (aa b20 (aa e51 (aa e3 KX)))))))))))) fun _ => ?_)
      intro w22 x22
      refine Run_condS (fun _ => rfl) (fun h => by cases h) (fun _ => ?_)
      (repeat with_reducible first | refine js ?_ | refine ja ?_ | refine jw KL6 [9, 17, 18, 24, 25, 33] TF6 fun _ => ?_)
      refine Run_lp ⟨i + 1, ?_, ⟨by omega, x19.trans (x20.trans x22)⟩, by omega⟩
      rw [hsu]
      simp [SubB, fnd, strike, has]
    · have hq : handed + 1 = x.Legs.length := hlb2.1 rfl
      have e2 := hLS.1 hq
      have e3 : (c1 != 0) = false := by simp [e2]
      (repeat with_reducible first | refine js ?_ | refine ja ?_ | refine jw KL6 [9, 17, 18, 24, 25, 33] (aa TF6 (aa f20 (aa ho.s (aa ho.len (aa gO2 (aa hT.l.s (aa hnl (aa n1 (aa n2 (aa b20 (aa e51 (aa e3 KX)))))))))))) fun _ => ?_)
      intro w22 x22
      refine Run_condS (fun _ => rfl) (fun h => by cases h) (fun _ => ?_)
      (repeat with_reducible first | refine js ?_ | refine ja ?_ | refine jw KL6 [9, 17, 18, 24, 25, 33] TF6 fun _ => ?_)
      refine Run_lp ⟨i + 1, ?_, ⟨by omega, x19.trans (x20.trans x22)⟩, by omega⟩
      rw [hsu]
      simp [SubB, fnd, strike, has]
  · simp at h
    obtain rfl : i = l.length := by omega
    (repeat with_reducible first | refine js ?_ | refine ja ?_ | refine jw KL6 [9, 17, 18, 24, 25, 33] TF6 fun _ => ?_)
    refine Run_loopV [12, 26, 27, 219, 224, 234] (σ := Nat) (fun k => [(26, some (.int .i64 k))]) (fun k w' => (3 ≤ k ∧ k ≤ 27) ∧ Ext w18 w') (fun k => 27 - k) 3 (by simp [SubB, fnd]) ⟨by simp, x19⟩ ?_
    rintro k w21 ⟨hk, x21⟩
    have y21 := y18.trans x21
    (repeat with_reducible first | refine js ?_ | refine ja ?_ | refine jw KL6 [9, 17, 18, 24, 25, 33] TF6 fun _ => ?_)
    refine Run_condS (fun _ => rfl) (fun h => ?_) (fun h => ?_)
    · simp at h
      have hLO := LO' k hk.1 (by omega)
      have b21 := A w21 (v18.trans x21) k (by omega)
      have da := D0 (k : Int) (by omega)
      have db := D1 (k : Int) (by omega)
      (repeat with_reducible first | refine js ?_ | refine ja ?_ | refine jw KL6 [9, 17, 18, 24, 25, 33] TF6 fun _ => ?_)
      refine Run_condS (fun _ => rfl) (fun h => ?_) (fun h => ?_)
      · simp at h
        rw [if_pos h] at hLO
        have e3 : (Bk.lo c k - Bk.lo a k != Ec.gainR f l p run l.length) = false := by simp [hLO]
        (repeat with_reducible first | refine js ?_ | refine ja ?_ | refine jw KL6 [9, 17, 18, 24, 25, 33] (aa TF6 (aa b21 (aa e3 KX))) fun _ => ?_)
        intro w22 x22
        refine Run_condS (fun _ => rfl) (fun h => by cases h) (fun _ => ?_)
        (repeat with_reducible first | refine js ?_ | refine ja ?_ | refine jw KL6 [9, 17, 18, 24, 25, 33] TF6 fun _ => ?_)
        refine Run_lp ⟨k + 1, ?_, ⟨by omega, x21.trans x22⟩, by omega⟩
        simp [SubB, fnd, strike, has]
      · simp at h
        rw [if_neg h] at hLO
        have e3 : (Bk.lo c k - Bk.lo a k != 0) = false := by simp [hLO]
        (repeat with_reducible first | refine js ?_ | refine ja ?_ | refine jw KL6 [9, 17, 18, 24, 25, 33] (aa TF6 (aa b21 (aa e3 KX))) fun _ => ?_)
        intro w22 x22
        refine Run_condS (fun _ => rfl) (fun h => by cases h) (fun _ => ?_)
        (repeat with_reducible first | refine js ?_ | refine ja ?_ | refine jw KL6 [9, 17, 18, 24, 25, 33] TF6 fun _ => ?_)
        refine Run_lp ⟨k + 1, ?_, ⟨by omega, x21.trans x22⟩, by omega⟩
        simp [SubB, fnd, strike, has]
    · (repeat with_reducible first | refine js ?_ | refine ja ?_ | refine jw KL6 [9, 17, 18, 24, 25, 33] TF6 fun _ => ?_)
      refine Run_ret ?_
      simp [Rets, RetM, resV, fnd, oneOr, y21]
end Go.Proofs.YtoadfmgnpmcbfaaGreat
