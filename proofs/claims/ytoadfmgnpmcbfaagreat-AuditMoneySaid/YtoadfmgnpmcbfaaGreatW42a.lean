/- Chapter 42: the reference's bit, cheapest, Fund, ask, Error. -/
import Derived.Test.YtoadfmgnpmcbfaaGreatW39r
import Derived.Test.YtoadfmgnpmcbfaaGreatP42b
namespace Go.Proofs.YtoadfmgnpmcbfaaGreat
open Go Go.Fk
set_option linter.unusedSimpArgs false
set_option linter.unusedVariables false
set_option maxRecDepth 100000

theorem rfBit42 (c k : Nat) (hc : c < 256) (hk : k < 8) (w : World) : Calls Tryz.prog 172 #[.int .i64 (c : Int), .int .i64 (k : Int)] w fun e w' => e = .returned (.bool (Fd.bit c k)) ∧ Ext w w' := by
  refine Calls_of_Run (args := [.int .i64 (c : Int), .int .i64 (k : Int)]) (n := 16) (rs := [.tmp 4]) Tryz.func172 rfl rfl rfl (by simp) ?_
  (repeat with_reducible first | refine js ?_ | refine ja ?_ | refine jw KL172 [] TF172 fun _ => ?_)
  refine Run_loopV [0, 5, 8] (σ := Nat) (fun j => [(5, some (.int .i64 j)), (0, some (.int .i64 ((c / 2 ^ j : Nat) : Int)))]) (fun j w' => j ≤ k ∧ Ext w w') (fun j => k - j) 0 (by simp [SubB, fnd]) ⟨by omega, Ext.refl _⟩ ?_
  rintro j w1 ⟨hj, x1⟩
  have hle : c / 2 ^ j ≤ c := Nat.div_le_self _ _
  (repeat with_reducible first | refine js ?_ | refine ja ?_ | refine jw KL172 [] TF172 fun _ => ?_)
  refine Run_condS (fun _ => rfl) (fun h => ?_) (fun h => ?_)
  · simp at h
    generalize hq : c / 2 ^ j = q at *
    (repeat with_reducible first | refine js ?_ | refine ja ?_ | refine jw KL172 [] TF172 fun _ => ?_)
    refine Run_lp ⟨j + 1, ?_, ⟨by omega, x1⟩, by omega⟩
    have e : c / 2 ^ (j + 1) = q / 2 := by rw [Nat.pow_succ, ← Nat.div_div_eq_div_mul, hq]
    rw [e]
    have e2 : ((q / 2 : Nat) : Int) = (q : Int) / 2 := by omega
    rw [e2]
    simp [SubB, fnd, strike, has]
  · simp at h
    obtain rfl : j = k := by omega
    have hb := bit_fin ⟨c, hc⟩ ⟨j, hk⟩
    simp only at hb
    have hF : Fd.bit c j = decide (c / 2 ^ j % 2 = 1) := hb
    generalize hq : c / 2 ^ j = q at *
    (repeat with_reducible first | refine js ?_ | refine ja ?_ | refine jw KL172 [] TF172 fun _ => ?_)
    refine Run_ret ?_
    simp only [Rets, RetM, resV, fnd, oneOr, ↓reduceIte]
    refine ⟨_, rfl, ?_, x1⟩
    rw [hF]
    congr 2
    rw [Bool.eq_iff_iff]; simp; omega
theorem rfCheap (f : TariffD) (u0 u1 u2 : Value) (c : Int) (w : World) (hT : TarR w f u0 u1 u2) (hf : Tf.chk f = 0) (hc : 0 ≤ c ∧ c < 256) :
    Calls Tryz.prog 123 #[.agg (f.cs u0 u1 u2).toArray, .int .i64 c] w fun e w' => e = .returned (.int .i64 (Au.cheap f c)) ∧ Ext w w' := by
  have hn := hT.l.small
  have hlen := hT.l.len
  have hok := Tf.chk_ok hf
  have h8 := hok.n
  have h88 := hok.n8
  have hll := hok.l
  refine Calls_of_Run (args := [.agg (f.cs u0 u1 u2).toArray, .int .i64 c]) (n := 25) (rs := [.tmp 4]) Tryz.func123 rfl rfl rfl (by simp) ?_
  (repeat with_reducible first | refine js ?_ | refine ja ?_ | refine jw KL123 [] TF123 fun _ => ?_)
  refine SemW_box fun p w1 hN => ?_
  have x1 := hN.ext
  have F : ∀ w', Ext w1 w' → AtN w' p 0 (f.cs u0 u1 u2) := fun w' x => (hN.at_.ext x).n
  simp only [TariffD.cs, AtN, KS, Nat.reduceAdd, Nat.reduceMul, Nat.reduceEqDiff, ↓reduceIte, UT] at F
  (repeat with_reducible first | refine js ?_ | refine ja ?_ | refine jw KL123 [] TF123 fun _ => ?_)
  refine Run_loopV [5, 6, 11, 16] (σ := Nat × Int) (fun s => [(6, some (.int .i64 s.1)), (5, some (.int .i64 s.2))]) (fun s w' => s.1 ≤ f.Leg.length ∧ (0 ≤ s.2 ∧ s.2 ≤ 1099511627776) ∧ Au.cheap f c = Au.cheapF (Fd.bit c) s.1 (f.Leg.drop s.1) s.2 ∧ Ext w1 w') (fun s => f.Leg.length - s.1) (0, 1099511627776) (by simp [SubB, fnd]) ⟨by simp, by simp, by simp [Au.cheap], Ext.refl _⟩ ?_
  rintro ⟨k, a⟩ w2 ⟨hk, ha, hle, x2⟩
  simp only at hk ha hle
  have y2 := x1.trans x2
  have f2 := F w2 x2
  (repeat with_reducible first | refine js ?_ | refine ja ?_ | refine jw KL123 [] (aa TF123 (aa f2 (aa hT.l.s hT.l.len))) fun _ => ?_)
  refine Run_condS (fun _ => rfl) (fun h => ?_) (fun h => ?_)
  · simp at h
    have hkl := h
    have hx := hll _ (List.getElem_mem hkl)
    rw [Au.cheapF_drop hkl] at hle
    obtain ⟨cn, rfl⟩ : ∃ cn : Nat, c = (cn : Int) := ⟨c.toNat, by omega⟩
    (repeat with_reducible first | refine js ?_ | refine ja ?_ | refine jw KL123 [] TF123 fun _ => ?_)
    refine CallW_pure call172 (rfBit42 cn k (by omega) (by omega) w2) fun w3 x3 => ?_
    have f3 := F w3 (x2.trans x3)
    obtain ⟨q1, q2, q3⟩ := (hT.l.ext (y2.trans x3)).get hkl
    (repeat with_reducible first | refine js ?_ | refine ja ?_ | refine jw KL123 [] TF123 fun _ => ?_)
    refine Run_condS (fun _ => rfl) (fun h => ?_) (fun h => ?_)
    · rw [if_pos h] at hle
      (repeat with_reducible first | refine js ?_ | refine ja ?_ | refine jw KL123 [] (aa TF123 (aa f3 (aa hT.l.s (aa hT.l.len (aa q1 q2))))) fun _ => ?_)
      refine Run_lp ⟨(k + 1, min a f.Leg[k]), ?_, ⟨by simp only; omega, by simp only; omega, hle, x2.trans x3⟩, by simp only; omega⟩
      simp [SubB, fnd, strike, has]
    · rw [if_neg (by simp [h])] at hle
      (repeat with_reducible first | refine js ?_ | refine ja ?_ | refine jw KL123 [] TF123 fun _ => ?_)
      refine Run_lp ⟨(k + 1, a), ?_, ⟨by simp only; omega, ha, hle, x2.trans x3⟩, by simp only; omega⟩
      simp [SubB, fnd, strike, has]
  · simp at h
    obtain rfl : k = f.Leg.length := by omega
    rw [List.drop_length] at hle
    (repeat with_reducible first | refine js ?_ | refine ja ?_ | refine jw KL123 [] TF123 fun _ => ?_)
    refine Run_ret ?_
    simp [Rets, RetM, resV, fnd, oneOr, hle, Au.cheapF, y2]
theorem rfFund42 (v : Value) (m : List MoveD) (w : World) (hm : Sl w v m) (hM : ∀ x ∈ m, Ec.MvOk x) (hn : m.length ≤ 4096) :
    Calls Tryz.prog 69 #[v] w fun e w' => e = .returned (.int .i64 (Ec.eff m 1)) ∧ Ext w w' := by
  have hl := hm.len
  refine Calls_of_Run (args := [v]) (n := 38) (rs := [.tmp 2]) Tryz.func69 rfl rfl rfl (by simp) ?_
  (repeat with_reducible first | refine js ?_ | refine ja ?_ | refine jw KL69 [] TF69 fun _ => ?_)
  refine Run_loopV [3, 4, 8, 16, 29] (σ := Nat) (fun k => [(4, some (.int .i64 k)), (3, some (.int .i64 (Ec.eff (m.take k) 1)))]) (fun k w' => k ≤ m.length ∧ Ext w w') (fun k => m.length - k) 0 (by simp [SubB, fnd, Ec.eff]) ⟨by omega, Ext.refl _⟩ ?_
  rintro k w1 ⟨hk, x1⟩
  have hb := Ec.eff_bd (m.take k) (fun x hx => hM x (List.mem_of_mem_take hx)) 1
  have hbl : (m.take k).length ≤ 4096 := by simp; omega
  (repeat with_reducible first | refine js ?_ | refine ja ?_ | refine jw KL69 [] (aa TF69 (aa hm.s hm.len)) fun _ => ?_)
  refine Run_condS (fun _ => rfl) (fun h => ?_) (fun h => ?_)
  · simp at h
    have hkl := h
    obtain ⟨g1, g2⟩ := (hm.ext x1).moveD hkl
    obtain ⟨a1, a2, a3, a4⟩ := hM _ (List.getElem_mem hkl)
    have hs : Ec.eff (m.take (k + 1)) 1 = Ec.eff (m.take k) 1 + (if m[k].To = 1 then m[k].Amount else 0) - (if m[k].From = 1 then m[k].Amount else 0) := by
      rw [List.take_succ_eq_append_getElem hkl, Ec.eff_append]; simp only [Ec.eff, Ec.gain]; omega
    simp only [MoveD.cs, AtN, KS, Nat.reduceAdd, Nat.reduceMul, Nat.reduceEqDiff, ↓reduceIte, UT] at g1
    generalize m[k] = y at *
    generalize Ec.eff (m.take k) 1 = e0 at *
    (repeat with_reducible first | refine js ?_ | refine ja ?_ | refine jw KL69 [] (aa TF69 (aa hm.s (aa hm.len g1))) fun _ => ?_)
    refine Run_cutV [3, 16] (σ := Unit) (fun _ => [(3, some (.int .i64 (e0 + if y.To = 1 then y.Amount else 0)))]) (fun _ w' => w' = w1) ?_ ?_
    · refine Run_condS (fun _ => rfl) (fun h => ?_) (fun h => ?_)
      · simp at h
        (repeat with_reducible first | refine js ?_ | refine ja ?_ | refine jw KL69 [] (aa TF69 (aa hm.s (aa hm.len g1))) fun _ => ?_)
        refine Run_lp ⟨(), ?_, rfl⟩
        rw [if_pos h]; simp [SubB, fnd, strike, has]
      · simp at h
        (repeat with_reducible first | refine js ?_ | refine ja ?_ | refine jw KL69 [] TF69 fun _ => ?_)
        refine Run_lp ⟨(), ?_, rfl⟩
        rw [if_neg h, Int.add_zero]; simp [SubB, fnd, strike, has]
    rintro _ w2 rfl
    have he1 : -5000000000000000 ≤ e0 + (if y.To = 1 then y.Amount else 0) ∧ e0 + (if y.To = 1 then y.Amount else 0) ≤ 5000000000000000 := by split <;> omega
    generalize e0 + (if y.To = 1 then y.Amount else 0) = e1 at *
    (repeat with_reducible first | refine js ?_ | refine ja ?_ | refine jw KL69 [] (aa TF69 (aa hm.s (aa hm.len g1))) fun _ => ?_)
    refine Run_condS (fun _ => rfl) (fun h => ?_) (fun h => ?_)
    · simp at h
      rw [if_pos h] at hs
      (repeat with_reducible first | refine js ?_ | refine ja ?_ | refine jw KL69 [] (aa TF69 (aa hm.s (aa hm.len g1))) fun _ => ?_)
      refine Run_lp ⟨k + 1, ?_, ⟨by omega, x1⟩, by omega⟩
      rw [hs]; simp [SubB, fnd, strike, has]
    · simp at h
      rw [if_neg h, Int.sub_zero] at hs
      (repeat with_reducible first | refine js ?_ | refine ja ?_ | refine jw KL69 [] TF69 fun _ => ?_)
      refine Run_lp ⟨k + 1, ?_, ⟨by omega, x1⟩, by omega⟩
      rw [hs]; simp [SubB, fnd, strike, has]
  · simp at h
    obtain rfl : k = m.length := by omega
    (repeat with_reducible first | refine js ?_ | refine ja ?_ | refine jw KL69 [] TF69 fun _ => ?_)
    refine Run_ret ?_
    simp [Rets, RetM, resV, fnd, oneOr, x1]
theorem rfAsk (v : Value) (ms : List MoveD) (a b c d r : Int) (B : Nat) (w : World) (hv : BufO (α := MoveD) 70 B w v ms) (hbase : B ≤ w.heap.size) (hm : MoveD.I ⟨ms.length, a, b, c, d, r⟩) (hl : ms.length ≤ 1000000) :
    Calls Tryz.prog 122 #[v, .int .i64 a, .int .i64 b, .int .i64 c, .int .i64 d, .int .i64 r] w fun e w' => ∃ v', e = .returned v' ∧ BufO (α := MoveD) 70 B w' v' (ms ++ [⟨ms.length, a, b, c, d, r⟩]) ∧ Keep (fun k => some k ≠ v.ownBlock) w w' := by
  have hs := hv.isS
  refine Calls_of_Run (args := [v, .int .i64 a, .int .i64 b, .int .i64 c, .int .i64 d, .int .i64 r]) (n := 24) (rs := [.tmp 12]) Tryz.func122 rfl rfl rfl (by simp) ?_
  (repeat with_reducible first | refine js ?_ | refine ja ?_ | refine jw KL122 [] (aa TF122 (aa hs.1 hs.2)) fun _ => ?_)
  refine ⟨.agg (⟨ms.length, a, b, c, d, r⟩ : MoveD).cs.toArray, fun w' => by kernel_rfl, ?_⟩
  refine (SemW_append1G (α := MoveD) (G := fun _ => True) (X := .agg (⟨ms.length, a, b, c, d, r⟩ : MoveD).cs.toArray) (x := ⟨ms.length, a, b, c, d, r⟩) Tryz.underlying35 ti70 rfl (by decide) hv hbase ⟨rfl, hm⟩ (by simp only [maxLen]; omega) (fun _ _ => trivial) fun s v' w3 b3 k3 _ => ?_).mono fun s w2 h => h.2
  (repeat with_reducible first | refine js ?_ | refine ja ?_ | refine jw KL122 [] TF122 fun _ => ?_)
  refine Run_ret ?_
  simp only [Rets, RetM, resV, fnd, oneOr, ↓reduceIte]
  exact ⟨_, rfl, v', rfl, b3, k3⟩
/-- the line of a run, and how far its letters were handed on -/
theorem rfError42 (vl u0 u1 u2 vo v0 v1 v2 vh : Value) (t : TimeD) (f : TariffD) (l : List OrderD) (p : PlanD) (hd : List Int) (w : World) (hl : Sl w vl t.Lines) (hT : TarR w f u0 u1 u2) (ho : Sl w vo l) (hP : PlanR w p v0 v1 v2) (hh : Sl w vh hd) :
    Calls Tryz.prog 31 #[.agg (t.cs vl).toArray, .agg (f.cs u0 u1 u2).toArray, vo, .agg (p.cs v0 v1 v2).toArray, vh] w fun e w' => e = .returned (.int .i64 (Au.err t f l p hd)) ∧ Ext w w' := by
  refine Calls_of_Run (args := [.agg (t.cs vl).toArray, .agg (f.cs u0 u1 u2).toArray, vo, .agg (p.cs v0 v1 v2).toArray, vh]) (n := 63) (rs := [.tmp 10]) Tryz.func31 rfl rfl rfl (by simp) ?_
  (repeat with_reducible first | refine js ?_ | refine ja ?_ | refine jw KL31 [11] TF31 fun _ => ?_)
  refine SemW_box fun pt w1 h1 => SemW_box fun pf w2 h2 => SemW_box fun pp w3 h3 => ?_
  have x3 := h1.ext.trans (h2.ext.trans h3.ext)
  have T : ∀ w', Ext w3 w' → AtN w' pt 0 (t.cs vl) := fun w' x => (h1.at_.ext (h2.ext.trans (h3.ext.trans x))).n
  have F : ∀ w', Ext w3 w' → AtN w' pf 0 (f.cs u0 u1 u2) := fun w' x => (h2.at_.ext (h3.ext.trans x)).n
  have P : ∀ w', Ext w3 w' → AtN w' pp 0 (p.cs v0 v1 v2) := fun w' x => (h3.at_.ext x).n
  simp only [TimeD.cs, TariffD.cs, PlanD.cs, AtN, KS, Nat.reduceAdd, Nat.reduceMul, Nat.reduceEqDiff, ↓reduceIte, UT] at T F P
  have t3 := T w3 (Ext.refl _)
  have f3 := F w3 (Ext.refl _)
  have p3 := P w3 (Ext.refl _)
  (repeat with_reducible first | refine js ?_ | refine ja ?_ | refine jw KL31 [11] (aa TF31 (aa t3 (aa f3 p3))) fun _ => ?_)
  refine rpchkW rfl (hl.ext x3) (hT.ext x3) (ho.ext x3) (hP.ext x3) fun w4 x4 => ?_
  have y4 := x3.trans x4
  have he : Ec.err t f l p = if (Pl.check t f l 1099511627776 p).2 ≠ 0 then (Pl.check t f l 1099511627776 p).2 else if (Pl.check t f l 1099511627776 p).1 then 0 else 220 := rfl
  have ha : Au.err t f l p hd = if Ec.err t f l p ≠ 0 then Ec.err t f l p else if hd.length ≠ p.Runs.length then 1 else if Au.hOk t p hd then 0 else 1 := rfl
  have hok : Ec.err t f l p = 0 → Ec.Ok t f l p := Ec.err_ok
  generalize Pl.check t f l 1099511627776 p = r at *
  obtain ⟨b, c⟩ := r
  simp only at he
  generalize hA : Au.err t f l p hd = A at *
  (repeat with_reducible first | refine js ?_ | refine ja ?_ | refine jw KL31 [11] TF31 fun _ => ?_)
  refine Run_condS (fun _ => rfl) (fun h => ?_) (fun h => ?_)
  · simp at h
    rw [if_pos h] at he
    rw [if_pos (by rw [he]; exact h), he] at ha
    subst ha
    (repeat with_reducible first | refine js ?_ | refine ja ?_ | refine jw KL31 [11] TF31 fun _ => ?_)
    refine Run_ret ?_
    simp [Rets, RetM, resV, fnd, oneOr, y4]
  simp at h
  subst h
  rw [if_neg (by simp)] at he
  (repeat with_reducible first | refine js ?_ | refine ja ?_ | refine jw KL31 [11] TF31 fun _ => ?_)
  refine Run_condS (fun _ => rfl) (fun h => ?_) (fun h => ?_)
  · simp at h
    subst h
    rw [if_neg (by simp)] at he
    rw [he, if_pos (by simp)] at ha
    subst ha
    (repeat with_reducible first | refine js ?_ | refine ja ?_ | refine jw KL31 [11] TF31 fun _ => ?_)
    refine Run_ret ?_
    simp [Rets, RetM, resV, fnd, oneOr, y4]
  simp at h
  subst h
  rw [if_pos rfl] at he
  have ok := hok he
  rw [if_neg (by simp [he])] at ha
  clear hok
  have p4 := P w4 x4
  have hrl := hP.r.len
  have hrs := hP.r.small
  have hhl := hh.len
  have hhs := hh.small
  (repeat with_reducible first | refine js ?_ | refine ja ?_ | refine jw KL31 [11] (aa TF31 (aa p4 (aa hP.r.s (aa hP.r.len (aa hh.s hh.len))))) fun _ => ?_)
  refine Run_condS (fun _ => rfl) (fun h => ?_) (fun h => ?_)
  · simp at h
    rw [if_pos (by omega)] at ha
    subst ha
    (repeat with_reducible first | refine js ?_ | refine ja ?_ | refine jw KL31 [11] TF31 fun _ => ?_)
    refine Run_ret ?_
    simp [Rets, RetM, resV, fnd, oneOr, y4]
  simp at h
  have hlen : hd.length = p.Runs.length := by omega
  rw [if_neg (by simp [hlen])] at ha
  clear h
  (repeat with_reducible first | refine js ?_ | refine ja ?_ | refine jw KL31 [11] TF31 fun _ => ?_)
  refine Run_loopV [10, 13, 36, 62] (σ := Nat) (fun k => [(13, some (.int .i64 k))]) (fun k w' => k ≤ hd.length ∧ (∀ j, j < k → (0 ≤ hd.getD j 0 ∧ hd.getD j 0 ≤ ((Ec.lineP t p j).Legs.length : Int))) ∧ Ext w4 w') (fun k => hd.length - k) 0 (by simp [SubB, fnd]) ⟨by omega, by simp, Ext.refl _⟩ ?_
  rintro k w5 ⟨hk, hj, x5⟩
  have y5 := y4.trans x5
  have z5 := x4.trans x5
  (repeat with_reducible first | refine js ?_ | refine ja ?_ | refine jw KL31 [11] (aa TF31 (aa hh.s hh.len)) fun _ => ?_)
  refine Run_condS (fun _ => rfl) (fun h => ?_) (fun h => ?_)
  · simp at h
    have hkl := h
    have hg : hd.getD k 0 = hd[k] := by simp [List.getD_eq_getElem?_getD, hkl]
    obtain ⟨l0, l1, l2, l3, hC⟩ := lineC hl ok (q := (k : Int)) (by omega) (by omega)
    have hrn := hC.r
    have hn0 := hC.n0
    have hlnn := hC.n
    have hR := hC.l
    have hrll := hR.l.len
    have hll := hl.len
    obtain ⟨_, _, _, _, hlo⟩ := line_at ok (q := (k : Int)) (by omega) (by omega)
    have ox9 := hlo.o9
    have oxl := hlo.l1
    have g1 := ((hP.r.ext y5).runD hrn).1
    have g2 := (hC.a.ext y5).n
    obtain ⟨d1, d2, -⟩ := (hh.ext y5).get hkl
    have hbad : ¬ (0 ≤ hd[k] ∧ hd[k] ≤ ((Ec.lineP t p k).Legs.length : Int)) → A = 1 := fun hb => by
      rw [ha, if_neg]
      intro hh'
      have := List.all_eq_true.1 hh' k (by simpa using hkl)
      simp only [decide_eq_true_eq] at this
      rw [hg] at this
      exact hb this
    have hgood : (0 ≤ hd[k] ∧ hd[k] ≤ ((Ec.lineP t p k).Legs.length : Int)) → ∀ j, j < k + 1 → (0 ≤ hd.getD j 0 ∧ hd.getD j 0 ≤ ((Ec.lineP t p j).Legs.length : Int)) := fun hb j hjk => by
      by_cases e : j = k
      · subst e; rw [hg]; exact hb
      · exact hj j (by omega)
    generalize hxx : Ec.lineP t p (k : Int) = x at *
    simp only [Int.toNat_natCast] at hrn hn0 hlnn g1 g2
    generalize hrr : p.Runs[k] = r at *
    simp only [RunD.cs, LineD.cs, AtN, KS, Nat.reduceAdd, Nat.reduceMul, Nat.reduceEqDiff, ↓reduceIte, UT] at g1 g2
    have t5 := T w5 z5
    have p5 := P w5 z5
    generalize hd[k] = y at *
    by_cases hy : y < 0
    · have e0 : decide (y < 0) = true := by simpa using hy
      (repeat with_reducible first | refine js ?_ | refine ja ?_ | refine jw KL31 [11] (aa TF31 (aa hh.s (aa hh.len (aa d1 (aa d2 (aa e0 KX)))))) fun _ => ?_)
      intro w6 x6
      refine Run_condS (fun _ => rfl) (fun _ => ?_) (fun h => by cases h)
      (repeat with_reducible first | refine js ?_ | refine ja ?_ | refine jw KL31 [11] TF31 fun _ => ?_)
      refine Run_ret ?_
      simp [Rets, RetM, resV, fnd, oneOr, hbad (by omega), y5.trans x6]
    · have e0 : decide (y < 0) = false := by simp; omega
      (repeat with_reducible first | refine js ?_ | refine ja ?_ | refine jw KL31 [11] (aa TF31 (aa hh.s (aa hh.len (aa d1 (aa d2 (aa e0 (aa t5 (aa p5 (aa hP.r.s (aa hP.r.len (aa hl.s (aa hl.len (aa g1 (aa g2 (aa hR.l.s (aa hR.l.len KX)))))))))))))))) fun _ => ?_)
      intro w6 x6
      refine Run_condS (fun _ => rfl) (fun h => ?_) (fun h => ?_)
      · simp at h
        (repeat with_reducible first | refine js ?_ | refine ja ?_ | refine jw KL31 [11] TF31 fun _ => ?_)
        refine Run_ret ?_
        simp [Rets, RetM, resV, fnd, oneOr, hbad (by omega), y5.trans x6]
      · simp at h
        (repeat with_reducible first | refine js ?_ | refine ja ?_ | refine jw KL31 [11] TF31 fun _ => ?_)
        refine Run_lp ⟨k + 1, ?_, ⟨by omega, hgood (by omega), x5.trans x6⟩, by omega⟩
        simp [SubB, fnd, strike, has]
  · simp at h
    obtain rfl : k = hd.length := by omega
    have hall : Au.hOk t p hd = true := List.all_eq_true.2 fun j hjm => by
      simp at hjm; simpa using hj j hjm
    rw [if_pos hall] at ha
    subst ha
    (repeat with_reducible first | refine js ?_ | refine ja ?_ | refine jw KL31 [11] TF31 fun _ => ?_)
    refine Run_ret ?_
    simp [Rets, RetM, resV, fnd, oneOr, y5]
end Go.Proofs.YtoadfmgnpmcbfaaGreat
