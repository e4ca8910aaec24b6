/- Chapter 42: AuditMoney. -/
import Derived.Test.YtoadfmgnpmcbfaaGreatW42s
import Derived.Test.YtoadfmgnpmcbfaaGreatP42c
namespace Go.Fk
open Go
namespace Au
open Ec (eff)
theorem book_acc {t : TimeD} {f : TariffD} {l : List OrderD} {p : PlanD} {h : List Int} (hb : ∀ k, k < (book t f l p h).length → 0 ≤ eff ((book t f l p h).take (k + 1)) 1) : 0 ≤ eff (pre t f l p h) 1 ∧ book t f l p h = num 0 (asked t f l p h) ∧ ∀ k, 0 ≤ eff ((pre t f l p h).take k) 1 := by
  have h0 : ∀ k, 0 ≤ eff ((book t f l p h).take k) 1 := fun k => by
    by_cases e : k = 0
    · subst e; simp [eff]
    · by_cases e2 : k ≤ (book t f l p h).length
      · have := hb (k - 1) (by omega); rwa [show k - 1 + 1 = k by omega] at this
      · by_cases e3 : (book t f l p h).length = 0
        · rw [List.length_eq_zero_iff.1 e3]; simp [eff]
        · have := hb ((book t f l p h).length - 1) (by omega)
          rw [show (book t f l p h).length - 1 + 1 = (book t f l p h).length by omega, List.take_length] at this
          rwa [List.take_of_length_le (by omega)]
  have h1 : 0 ≤ eff (pre t f l p h) 1 := by
    by_cases e : eff (pre t f l p h) 1 < 0
    · have h2 : book t f l p h = num 0 (pre t f l p h) := by unfold book; rw [if_pos e]
      have := h0 (book t f l p h).length
      rw [List.take_length, h2, num_eff] at this
      exact this
    · omega
  have h2 : book t f l p h = num 0 (asked t f l p h) := by unfold book; rw [if_neg (by omega)]
  refine ⟨h1, h2, fun k => ?_⟩
  by_cases e : k ≤ (pre t f l p h).length
  · have := h0 k
    rw [h2, num_take, num_eff] at this
    unfold asked at this
    rwa [List.take_append_of_le_length e] at this
  · rwa [List.take_of_length_le (by omega)]
end Au
end Go.Fk
namespace Go.Proofs.YtoadfmgnpmcbfaaGreat
open Go Go.Fk
set_option linter.unusedSimpArgs false
set_option linter.unusedVariables false
set_option maxRecDepth 100000

theorem wrong_z {t : TimeD} {f : TariffD} {l : List OrderD} {p : PlanD} (h : Ec.Ok t f l p) {i : Nat} (hi : i < l.length) : Tf.pri f (l.getD i default).Class (Ec.lineP t p (p.Of.getD i 0)).Legs.length (l.getD i default).Crowd = (Ec.priceP t f l p i, 0) := by
  obtain ⟨_, _, hlo, _, hc, hk⟩ := Ec.price_eq h hi
  have a1 := hlo.o2
  have a2 := hlo.o9
  have a3 := hlo.l1
  have hw : Tf.wrong f (l.getD i default).Class (Ec.lineP t p (p.Of.getD i 0)).Legs.length (l.getD i default).Crowd = 0 := by
    unfold Tf.wrong
    rw [if_neg (by simp [h.o.f]), if_neg (by omega)]
  have e : Ec.priceP t f l p i = (Tf.pri f (l.getD i default).Class (Ec.lineP t p (p.Of.getD i 0)).Legs.length (l.getD i default).Crowd).1 := rfl
  rw [e]
  unfold Tf.pri
  rw [hw]
  rfl
theorem at_memA42 {w : World} {a : Addr} {cs : List Value} (h : At w a cs) {n : Nat} (hn : cs.length = n) : hasA w a n ∧ memA w a n = cs := by
  subst hn
  exact memN_at cs 0 fun j v hj => by rw [Nat.zero_add]; exact h j v hj
theorem offS_bd {t : TimeD} {f : TariffD} {l : List OrderD} {p : PlanD} {hd : List Int} (hok : Au.Ok t f l p hd) (j : Int) : ∀ n, n ≤ l.length → 0 ≤ Au.offS t f l p hd j n ∧ Au.offS t f l p hd j n ≤ n * 8388608
  | 0, _ => by simp [Au.offS]
  | n + 1, hn => by
    have ih := offS_bd hok j n (by omega)
    obtain ⟨q0, q1, _⟩ := Ec.price_eq hok.e (show n < l.length by omega)
    obtain ⟨_, _, _, _, hlo⟩ := line_at hok.e q0 q1
    have a1 := hlo.o9
    have a2 := hlo.l1
    obtain ⟨_, b2⟩ := hok.h (p.Of.getD n 0).toNat (by omega)
    rw [show (((p.Of.getD n 0).toNat : Nat) : Int) = p.Of.getD n 0 by omega] at *
    have lb := Tf.leg_bd hok.e.o.f (l.getD n default).Class
    have g := Ec.legG_bd (Ec.lineP t p (p.Of.getD n 0)) lb.1 j (Au.hn hd (p.Of.getD n 0).toNat)
    have m1 : ((Au.hn hd (p.Of.getD n 0).toNat : Nat) : Int) * Tf.leg f (l.getD n default).Class ≤ 8 * 1048576 := Int.mul_le_mul (by omega) lb.2 lb.1 (by omega)
    simp only [Au.offS]
    push_cast
    omega
theorem rerr42P {vl u0 u1 u2 vo v0 v1 v2 vh : Value} {t : TimeD} {f : TariffD} {l : List OrderD} {p : PlanD} {hd : List Int} {w : World} (hl : Sl w vl t.Lines) (hT : TarR w f u0 u1 u2) (ho : Sl w vo l) (hP : PlanR w p v0 v1 v2) (hh : Sl w vh hd) :
    PC Tryz.prog (Ext w) (.func (.func 31) #[] #[]) [.agg #[.int .i64 t.Offices, vl], .agg #[u0, u1, u2], vo, .agg #[v0, v1, v2], vh] (.int .i64 (Au.err t f l p hd)) :=
  PC_pure call31 fun w' x' => rfError42 vl u0 u1 u2 vo v0 v1 v2 vh t f l p hd w' (hl.ext x') (hT.ext x') (ho.ext x') (hP.ext x') (hh.ext x')
set_option maxHeartbeats 2000000 in
theorem lawAuditMoney (vl u0 u1 u2 vo v0 v1 v2 vh vm : Value) (t : TimeD) (f : TariffD) (l : List OrderD) (p : PlanD) (hd : List Int) (m : List MoveD) (w : World) (hl : Sl w vl t.Lines) (hT : TarR w f u0 u1 u2) (ho : Sl w vo l) (hP : PlanR w p v0 v1 v2) (hh : Sl w vh hd) (hm : Sl w vm m) :
    Calls Tryz.prog 8 #[.agg (t.cs vl).toArray, .agg (f.cs u0 u1 u2).toArray, vo, .agg (p.cs v0 v1 v2).toArray, vh, vm] w fun e w' => e = .returned (.bool true) ∧ Ext w w' := by
  refine Calls_of_Run (args := [.agg (t.cs vl).toArray, .agg (f.cs u0 u1 u2).toArray, vo, .agg (p.cs v0 v1 v2).toArray, vh, vm]) (n := 210) (rs := [.tmp 12]) Tryz.func8 rfl rfl rfl (by simp) ?_
  (repeat with_reducible first | refine js ?_ | refine ja ?_ | (refine jT (id := 21) KL8 13 mixed (by kernel_rfl) (by kernel_rfl) (by kernel_rfl) fun _ => ?_; refine jw KL8 [] TF8 fun _ => ?_) | refine jw KL8 [] TF8 fun _ => ?_)
  refine SemW_box fun pt w1 h1 => SemW_box fun pf w2 h2 => SemW_box fun pp w3 h3 => ?_
  have x3 := h1.ext.trans (h2.ext.trans h3.ext)
  have T : ∀ w', Ext w3 w' → AtN w' pt 0 (t.cs vl) := fun w' x => (h1.at_.ext (h2.ext.trans (h3.ext.trans x))).n
  have F : ∀ w', Ext w3 w' → AtN w' pf 0 (f.cs u0 u1 u2) := fun w' x => (h2.at_.ext (h3.ext.trans x)).n
  have P : ∀ w', Ext w3 w' → AtN w' pp 0 (p.cs v0 v1 v2) := fun w' x => (h3.at_.ext x).n
  simp only [TimeD.cs, TariffD.cs, PlanD.cs, AtN, KS, Nat.reduceAdd, Nat.reduceMul, Nat.reduceEqDiff, ↓reduceIte, UT] at T F P
  (repeat with_reducible first | refine js ?_ | refine ja ?_ | (refine jT (id := 21) KL8 13 mixed (by kernel_rfl) (by kernel_rfl) (by kernel_rfl) fun _ => ?_; refine jw KL8 [] TF8 fun _ => ?_) | refine jw KL8 [] TF8 fun _ => ?_)
  refine sane42W fun w4 x4 => ?_
  (repeat with_reducible first | refine js ?_ | refine ja ?_ | (refine jT (id := 21) KL8 13 mixed (by kernel_rfl) (by kernel_rfl) (by kernel_rfl) fun _ => ?_; refine jw KL8 [] TF8 fun _ => ?_) | refine jw KL8 [] TF8 fun _ => ?_)
  refine Run_condS (fun _ => rfl) (fun h => by cases h) (fun _ => ?_)
  have y4 := x3.trans x4
  have t4 := T w4 x4
  have f4 := F w4 x4
  have p4 := P w4 x4
  have hol := ho.len
  (repeat with_reducible first | refine js ?_ | refine ja ?_ | (refine jT (id := 21) KL8 13 mixed (by kernel_rfl) (by kernel_rfl) (by kernel_rfl) fun _ => ?_; refine jw KL8 [] (aa TF8 (aa t4 (aa f4 p4))) fun _ => ?_) | refine jw KL8 [] (aa TF8 (aa t4 (aa f4 p4))) fun _ => ?_)
  refine few42W (hl.ext y4) (hT.ext y4) (ho.ext y4) (hP.ext y4) (hh.ext y4) (hm.ext y4) fun b w5 x5 hb => ?_
  have y5 := y4.trans x5
  have z5 := x4.trans x5
  have t5 := T w5 z5
  have f5 := F w5 z5
  have p5 := P w5 z5
  (repeat with_reducible first | refine js ?_ | refine ja ?_ | (refine jT (id := 21) KL8 13 mixed (by kernel_rfl) (by kernel_rfl) (by kernel_rfl) fun _ => ?_; refine jw KL8 [] (aa TF8 (aa t5 (aa f5 (aa p5 (aa ho.s (aa hol KX)))))) fun _ => ?_) | refine jw KL8 [] (aa TF8 (aa t5 (aa f5 (aa p5 (aa ho.s (aa hol KX)))))) fun _ => ?_)
  refine .inr ⟨.int .i64 (Au.err t f l p hd), fun _ => rerr42P (hl.ext y5) (hT.ext y5) (ho.ext y5) (hP.ext y5) (hh.ext y5), fun w6 x6 => ?_⟩
  unfold hush
  have y6 := y5.trans x6
  have z6 := z5.trans x6
  (repeat with_reducible first | refine js ?_ | refine ja ?_ | (refine jT (id := 21) KL8 13 mixed (by kernel_rfl) (by kernel_rfl) (by kernel_rfl) fun _ => ?_; refine jw KL8 [] (aa TF8 (aa t5 (aa f5 (aa p5 (aa ho.s (aa hol KX)))))) fun _ => ?_) | refine jw KL8 [] (aa TF8 (aa t5 (aa f5 (aa p5 (aa ho.s (aa hol KX)))))) fun _ => ?_)
  refine Run_condS (fun _ => rfl) (fun h => ?_) (fun h => ?_)
  · (repeat with_reducible first | refine js ?_ | refine ja ?_ | (refine jT (id := 21) KL8 13 mixed (by kernel_rfl) (by kernel_rfl) (by kernel_rfl) fun _ => ?_; refine jw KL8 [] TF8 fun _ => ?_) | refine jw KL8 [] TF8 fun _ => ?_)
    refine Run_ret ?_
    simp [Rets, RetM, resV, fnd, oneOr, y6]
  have hh0 : b = true ∧ Au.err t f l p hd = 0 ∧ l.length ≤ 64 := by
    simp only [Bool.or_eq_false_iff, Bool.not_eq_false', bne_eq_false_iff_eq, decide_eq_false_iff_not] at h
    exact ⟨h.1.1, h.1.2, by omega⟩
  obtain ⟨hbt, herr, hl64⟩ := hh0
  obtain ⟨hb1, hb2, hb3⟩ := hb hbt
  clear h hb
  have hok := Au.err_ok herr
  have ok := hok.e
  have hchk : Au.check t f l p hd m = (((Au.scan 0 0 (Au.book t f l p hd) m).1 : Int), (Au.scan 0 0 (Au.book t f l p hd) m).2, 0) := by unfold Au.check; rw [if_neg (by simp [herr])]
  have hscan := Au.scan_ok (Au.book t f l p hd) m 0 0
  generalize hs : Au.scan 0 0 (Au.book t f l p hd) m = sc at *
  obtain ⟨sa, sb⟩ := sc
  simp only [Int.zero_add] at hchk hscan
  have t6 := T w6 z6
  have f6 := F w6 z6
  have p6 := P w6 z6
  (repeat with_reducible first | refine js ?_ | refine ja ?_ | (refine jT (id := 21) KL8 13 mixed (by kernel_rfl) (by kernel_rfl) (by kernel_rfl) fun _ => ?_; refine jw KL8 [] (aa TF8 (aa t6 (aa f6 p6))) fun _ => ?_) | refine jw KL8 [] (aa TF8 (aa t6 (aa f6 p6))) fun _ => ?_)
  refine auCheckW hchk (hl.ext y6) (hT.ext y6) (ho.ext y6) (hP.ext y6) (hh.ext y6) (hm.ext y6) hb2 fun w7 x7 => ?_
  have y7 := y6.trans x7
  have z7 := z6.trans x7
  (repeat with_reducible first | refine js ?_ | refine ja ?_ | (refine jT (id := 21) KL8 13 mixed (by kernel_rfl) (by kernel_rfl) (by kernel_rfl) fun _ => ?_; refine jw KL8 [] (aa TF8 (aa @bne_self_eq_false.{0} KX)) fun _ => ?_) | refine jw KL8 [] (aa TF8 (aa @bne_self_eq_false.{0} KX)) fun _ => ?_)
  refine Run_condS (fun _ => rfl) (fun h => ?_) (fun h => ?_)
  · (repeat with_reducible first | refine js ?_ | refine ja ?_ | (refine jT (id := 21) KL8 13 mixed (by kernel_rfl) (by kernel_rfl) (by kernel_rfl) fun _ => ?_; refine jw KL8 [] (aa TF8 (aa @beq_self_eq_true.{0} KX)) fun _ => ?_) | refine jw KL8 [] (aa TF8 (aa @beq_self_eq_true.{0} KX)) fun _ => ?_)
    refine Run_ret ?_
    simp only [Rets, RetM, resV, fnd, oneOr, ↓reduceIte]
    exact ⟨_, rfl, rfl, y7⟩
  have hsb : sb = true := by simpa using h
  obtain ⟨hmb, hfund⟩ := hscan.1 hsb
  clear h hscan hchk hs
  obtain ⟨ha, hbe, hneg⟩ := Au.book_acc hfund
  rw [hbe] at hmb
  obtain ⟨hbc, hbal, hbl, hblo⟩ := Au.book_bal hok hb2 (by omega) hneg (Au.startL_ok ok)
  have hlo0 := Au.startL_lo t f l p l.length hl64
  have v2 : Bk.lo (Bk.after (Au.startL t f l p l.length) m) 2 = 0 := by rw [hmb, hblo 2 (by omega), hlo0 2 (by omega), if_neg (by omega), Au.asked_two hok hb2 ha]; rfl
  have v1 : Bk.lo (Bk.after (Au.startL t f l p l.length) m) 1 = 0 := by rw [hmb, hblo 1 (by omega), hlo0 1 (by omega), if_neg (by omega), Au.asked_one hok hb2 ha]; rfl
  have v0' : Bk.lo (Bk.after (Au.startL t f l p l.length) m) 0 = 0 := by rw [hmb, hblo 0 (by omega), hlo0 0 (by omega), if_neg (by omega), Au.asked_bank hok hb2 ha]; rfl
  have vo' : ∀ j, 3 ≤ j ∧ j < 27 → Bk.lo (Bk.after (Au.startL t f l p l.length) m) j = Au.offS t f l p hd j l.length + Au.covS j m := fun j hj => by
    rw [hmb, hblo j (by omega), hlo0 j (by omega), if_neg (by omega), Au.asked_office hok hb2 ha hj, Au.covS_num]; omega
  rw [← hmb] at hbal hbl
  have hmv := Au.asked_mv hok hb2 ha
  have hmm : ∀ x ∈ m, Ec.MvOk x := fun x hx => by rw [hmb] at hx; exact (Au.num_mv hmv 0 x hx).ok
  clear hfund hneg hbe hblo hbc
  generalize hAF : Bk.after (Au.startL t f l p l.length) m = AF at *
  have hhl := hh.len
  have hhd := hok.hl
  have hrl := hP.r.len
  have hll := hl.len
  (repeat with_reducible first | refine js ?_ | refine ja ?_ | (refine jT (id := 21) KL8 13 mixed (by kernel_rfl) (by kernel_rfl) (by kernel_rfl) fun _ => ?_; refine jw KL8 [] TF8 fun _ => ?_) | refine jw KL8 [] TF8 fun _ => ?_)
  refine SemW_makeC (n := 115) Tryz.underlying25 ti3 (by decide) (by decide) (by decide) fun ps w8 h8 => ?_
  have b8 := h8.blk
  have r8 : Row w8 ps 3 (ints (Au.startL t f l p 0)) := by
    rw [show ints (Au.startL t f l p 0) = (madeCells (Value.int .i64 0).cells (115 * 1)).toList by show ints (List.replicate 115 0) = _; kernel_rfl]; exact h8.row
  (repeat with_reducible first | refine js ?_ | refine ja ?_ | (refine jT (id := 21) KL8 13 mixed (by kernel_rfl) (by kernel_rfl) (by kernel_rfl) fun _ => ?_; refine jw KL8 [] TF8 fun _ => ?_) | refine jw KL8 [] TF8 fun _ => ?_)
  refine SemW_allocT ti64 fun pO w9 h9 => ?_
  have b9 := h9.blk
  have r9 : Row w9 pO 64 (ints (List.replicate 24 0)) := by simpa [Value.cells] using h9.row
  have q9 := r8.ext h9.ext
  have s8 := h8.size
  have s9 := h9.size
  have x9 := h8.ext.trans h9.ext
  (repeat with_reducible first | refine js ?_ | refine ja ?_ | (refine jT (id := 21) KL8 13 mixed (by kernel_rfl) (by kernel_rfl) (by kernel_rfl) fun _ => ?_; refine jw KL8 [] (aa TF8 (aa ho.s hol)) fun _ => ?_) | refine jw KL8 [] (aa TF8 (aa ho.s hol)) fun _ => ?_)
  have hpne : pO.block ≠ ps.block := by omega
  have hbs : w7.heap.size ≤ ps.block ∧ w7.heap.size ≤ pO.block := by omega
  have hlo24 : ∀ k : Int, 0 ≤ k → k < 24 → Bk.lo (List.replicate 24 0) k = Au.offS t f l p hd (3 + k) 0 := fun k _ _ => by
    unfold Bk.lo; rw [List.getD_eq_getElem?_getD, List.getElem?_replicate]; split <;> rfl
  refine Run_loopV [12, 18, 19, 20, 21, 22, 23, 77, 78, 109, 122, 123, 124] (σ := Nat) (fun i => [(77, some (.int .i64 i))]) (fun i w' => i ≤ l.length ∧ Row w' ps 3 (ints (Au.startL t f l p i)) ∧ (∃ O : List Int, Row w' pO 64 (ints O) ∧ O.length = 24 ∧ ∀ k : Int, 0 ≤ k → k < 24 → Bk.lo O k = Au.offS t f l p hd (3 + k) i) ∧ Ext w7 w') (fun i => l.length - i) 0 (by simp [SubB, fnd]) ⟨by omega, q9, ⟨_, r9, by simp, hlo24⟩, x9⟩ ?_
  rintro i w10 ⟨hi, rs, ⟨O, rO, hOl, hO⟩, x10⟩
  have y10 := y7.trans x10
  have z10 := z7.trans x10
  (repeat with_reducible first | refine js ?_ | refine ja ?_ | (refine jT (id := 21) KL8 13 mixed (by kernel_rfl) (by kernel_rfl) (by kernel_rfl) fun _ => ?_; refine jw KL8 [] TF8 fun _ => ?_) | refine jw KL8 [] TF8 fun _ => ?_)
  refine Run_condS (fun _ => rfl) (fun h => ?_) (fun h => ?_)
  · simp at h
    have hil := h
    have hip : i < p.Of.length := by rw [ok.ol]; exact hil
    have hgo : p.Of.getD i 0 = p.Of[i] := by simp [List.getD_eq_getElem?_getD, hip]
    have hgl : l.getD i default = l[i] := by simp [List.getD_eq_getElem?_getD, hil]
    obtain ⟨q0, q1, _, _, hcl, _⟩ := Ec.price_eq ok hil
    have hwz := wrong_z ok hil
    have hofs : ∀ j, Au.offS t f l p hd j (i + 1) = Au.offS t f l p hd j i + Ec.legG (Ec.lineP t p p.Of[i]) (Tf.leg f l[i].Class) j (Au.hn hd p.Of[i].toNat) := fun j => by simp only [Au.offS]; rw [hgo, hgl]
    rw [hgo] at q0 q1
    rw [hgo, hgl] at hwz
    rw [hgl] at hcl
    obtain ⟨l0, l1, l2, l3, hC⟩ := lineC hl ok q0 q1
    obtain ⟨hrn, hr0, hlnn, hn0, hCa, hRR⟩ := hC
    have hone := hRR.one
    have hrll := hRR.l.len
    obtain ⟨_, _, _, _, hlo⟩ := line_at ok q0 q1
    have ox9 := hlo.o9
    have oxl := hlo.l1
    have hoff := (Tt.chk_ok ok.o.t).o
    have hxs := hlo.s
    obtain ⟨hhk, hhe⟩ := hok.h p.Of[i].toNat (by omega)
    rw [show ((p.Of[i].toNat : Nat) : Int) = p.Of[i] by omega] at hhk
    have hhg : hd.getD p.Of[i].toNat 0 = hd[p.Of[i].toNat]'(by omega) := by simp [List.getD_eq_getElem?_getD, show p.Of[i].toNat < hd.length by omega]
    rw [hhg] at hhe
    obtain ⟨g, _, gAt, hO2⟩ := ho.ord hil
    have hone2 := hO2.one
    have o10 := (gAt.ext y10).n
    simp only [OrderD.cs, AtN, KS, Nat.reduceAdd, Nat.reduceMul, Nat.reduceEqDiff, ↓reduceIte, UT] at o10
    simp only [OrderD.cs] at hone2
    have hfl := (Tf.chk_ok ok.o.f).n
    have hlg : Tf.leg f l[i].Class = f.Leg[l[i].Class.toNat]'(by omega) := by
      unfold Tf.leg; rw [List.getD_eq_getElem?_getD, List.getElem?_eq_getElem (by omega)]; rfl
    have hcx : l[i].Class.toNat < f.Leg.length := by omega
    have hlb := Tf.leg_bd ok.o.f l[i].Class
    have hpb := Ec.price_bd t f l p i
    have hfll := hT.l.len
    have G : ∀ w', Ext w w' → AtN w' ((slAt v0).add (p.Of[i].toNat * 3)) 0 p.Runs[p.Of[i].toNat].cs ∧ AtN w' ((slAt vl).add (p.Runs[p.Of[i].toNat].Line.toNat * 6)) 0 ((Ec.lineP t p p.Of[i]).cs l0 l1 l2 l3) := fun w' x => ⟨((hP.r.ext x).runD hrn).1, (hCa.ext x).n⟩
    have hst : Au.startL t f l p (i + 1) = (Au.startL t f l p i).set (51 + i) (Ec.priceP t f l p i) := rfl
    have hsl := Au.startL_len t f l p i
    clear hCa
    generalize hxx : Ec.lineP t p p.Of[i] = x at *
    generalize hrr : p.Runs[p.Of[i].toNat] = rr at *
    simp only [RunD.cs, LineD.cs, AtN, KS, Nat.reduceAdd, Nat.reduceMul, Nat.reduceEqDiff, ↓reduceIte, UT] at G
    simp only [LineD.cs] at hone
    (repeat with_reducible first | refine js ?_ | refine ja ?_ | (refine jT (id := 21) KL8 13 mixed (by kernel_rfl) (by kernel_rfl) (by kernel_rfl) fun _ => ?_; refine jw KL8 [] (aa TF8 (aa ho.s (aa hol o10))) fun _ => ?_) | refine jw KL8 [] (aa TF8 (aa ho.s (aa hol o10))) fun _ => ?_)
    refine SemW_allocT ti58 fun pe w11 h11 => ?_
    have b11 := h11.blk
    (repeat with_reducible first | refine js ?_ | refine ja ?_ | (refine jT (id := 21) KL8 13 mixed (by kernel_rfl) (by kernel_rfl) (by kernel_rfl) fun _ => ?_; refine jw KL8 [] TF8 fun _ => ?_) | refine jw KL8 [] TF8 fun _ => ?_)
    refine SemW_setW (by rw [cells58]; decide) (by rw [cells58]; rfl) h11.row (by rw [cells58]; rfl) (by simpa [Value.cells] using hone2) fun w12 r12 k12 z12 => ?_
    have r12 : Row w12 pe 58 (l[i].cs g) := by simpa [Value.cells, OrderD.cs] using r12
    have x12 : Ext w10 w12 := Keep.ext h11.ext k12 fun b hb => by omega
    obtain ⟨d1, d2, -⟩ := (hP.o).get hip
    (repeat with_reducible first | refine jq ?_ | refine jk ?_ | refine jc ?_ | refine jl ?_ | refine jb ?_ | refine jo ?_ | refine ji ?_ | refine jx rfl ?_)
    refine Run_ec (id := 13) KL8 (.first 0 (.first 1 (.first 2 (.first 3 (.first 4 (.first 5 (.first 6 (.first 7 (.first 8 (.first 9 (.first 10 (.first 11 (.first 12 (.first 13 (.alt 14 (.alt 15 .done .stop) .stop))))))))))))))) mixed (by kernel_rfl) (by kernel_rfl) fun w13 x13 _ => ?_
    have X13 := x12.trans x13
    have t13 := T _ (z10.trans X13)
    have p13 := P _ (z10.trans X13)
    have g13 := G _ (y10.trans X13)
    obtain ⟨d3, d4, -⟩ := (hP.o.ext (y10.trans X13)).get hip
    (try simp (maxSteps := 5000000) only [KS, Nat.reduceAdd, Nat.reduceMul, Nat.reduceEqDiff, ↓reduceIte, forall_const, Int.cast_ofNat_Int, Int.reduceToNat, List.take_succ_cons, List.take_zero, List.drop_succ_cons, List.drop_zero, TF8, KL8, ec, t13, p13, hP.r.s, hP.r.len, hP.o.s, hP.o.len, hl.s, hl.len, d3, d4, g13]); (try simp (disch := omega) only [wrapI, tmodI, tdivI])
    (try simp (maxSteps := 5000000) only [KS, Nat.reduceAdd, Nat.reduceMul, Nat.reduceEqDiff, ↓reduceIte, forall_const, Int.cast_ofNat_Int, Int.reduceToNat, List.take_succ_cons, List.take_zero, List.drop_succ_cons, List.drop_zero, TF8, KL8, ec, t13, p13, hP.r.s, hP.r.len, hP.o.s, hP.o.len, hl.s, hl.len, d3, d4, g13]); (try simp (disch := omega) only [wrapI, tmodI, tdivI])
    refine ⟨⟨by omega, by omega⟩, ⟨by omega, by omega⟩, ⟨by omega, by omega⟩, Ext.refl _, ?_⟩
    refine SemW_allocT ti52 fun pl w14 h14 => ?_
    have b14 := h14.blk
    refine ⟨h14.ext, ?_⟩
    refine SemW_setW (by rw [cells52]; decide) (by rw [cells52]; rfl) h14.row (by rw [cells52]; rfl) (by simpa [Value.cells] using hone) fun w15 r15 k15 z15 => ?_
    have r15 : Row w15 pl 52 (x.cs l0 l1 l2 l3) := by simpa [Value.cells, LineD.cs] using r15
    have x15 : Ext w13 w15 := Keep.ext h14.ext k15 fun b hb => by omega
    refine ⟨x15, ?_⟩
    have X15 := X13.trans x15
    have t15 := T _ (z10.trans X15)
    have f15 := F _ (z10.trans X15)
    have p15 := P _ (z10.trans X15)
    have pe15 := (r12.ext (x13.trans x15)).at_.n
    have pl15 := r15.at_.n
    simp only [OrderD.cs, LineD.cs, AtN, KS, Nat.reduceAdd, Nat.reduceMul, Nat.reduceEqDiff, ↓reduceIte, UT] at pe15 pl15
    (repeat with_reducible first | refine js ?_ | refine ja ?_ | (refine jT (id := 21) KL8 13 mixed (by kernel_rfl) (by kernel_rfl) (by kernel_rfl) fun _ => ?_; refine jw KL8 [] (aa TF8 (aa t15 (aa f15 (aa p15 (aa pe15 (aa pl15 (aa hRR.l.s hRR.l.len))))))) fun _ => ?_) | refine jw KL8 [] (aa TF8 (aa t15 (aa f15 (aa p15 (aa pe15 (aa pl15 (aa hRR.l.s hRR.l.len))))))) fun _ => ?_)
    refine priceW (hT.ext (y10.trans X15)) fun w16 x16 => ?_
    simp only [hwz]
    have X16 := X15.trans x16
    (repeat with_reducible first | refine js ?_ | refine ja ?_ | (refine jT (id := 21) KL8 13 mixed (by kernel_rfl) (by kernel_rfl) (by kernel_rfl) fun _ => ?_; refine jw KL8 [] (aa TF8 (aa @bne_self_eq_false.{0} KX)) fun _ => ?_) | refine jw KL8 [] (aa TF8 (aa @bne_self_eq_false.{0} KX)) fun _ => ?_)
    refine Run_condS (fun _ => rfl) (fun h => by cases h) (fun _ => ?_)
    have rs16 := rs.ext X16
    (repeat with_reducible first | refine js ?_ | refine ja ?_ | (refine jT (id := 21) KL8 13 mixed (by kernel_rfl) (by kernel_rfl) (by kernel_rfl) fun _ => ?_; refine jw KL8 [] TF8 fun _ => ?_) | refine jw KL8 [] TF8 fun _ => ?_)
    refine SemW_setAt (i := 51 + i) cells3 rs16 (by simp [ints]; omega) rfl rfl fun w17 r17 k17 s17 => ?_
    rw [ints_set, show (Au.startL t f l p i).set (51 + i) (Ec.priceP t f l p i) = Au.startL t f l p (i + 1) from rfl] at r17
    have s13 := x13.size
    have s11 := h11.size
    have s14 := h14.size
    have hps10 := rs.lt
    have hpO10 := rO.lt
    have x17 : Ext w7 w17 := Keep.ext (x10.trans X16) k17 fun b hb => by omega
    have rO17 := (rO.ext X16).keep k17 (by omega)
    have pl17 := (r15.ext x16).keep k17 (by omega)
    have pe17 := (r12.ext (x13.trans (x15.trans x16))).keep k17 (by omega)
    have y17 := y7.trans x17
    have z17 := z7.trans x17
    have p17 := P _ z17
    have f17 := F _ z17
    obtain ⟨d5, d6, -⟩ := (hP.o.ext y17).get hip
    obtain ⟨d7, d8, -⟩ := (hh.ext y17).get (show p.Of[i].toNat < hd.length by omega)
    clear rs16 pe15 pl15 t15 f15 p15 g13 t13 p13 d1 d2 d3 d4 o10
    (repeat with_reducible first | refine js ?_ | refine ja ?_ | (refine jT (id := 21) KL8 13 mixed (by kernel_rfl) (by kernel_rfl) (by kernel_rfl) fun _ => ?_; refine jw KL8 [] (aa TF8 (aa p17 (aa hP.o.s (aa hP.o.len (aa d5 (aa d6 (aa hh.s (aa hhl (aa d7 d8))))))))) fun _ => ?_) | refine jw KL8 [] (aa TF8 (aa p17 (aa hP.o.s (aa hP.o.len (aa d5 (aa d6 (aa hh.s (aa hhl (aa d7 d8))))))))) fun _ => ?_)
    have hob1 := fun j => offS_bd hok j i (by omega)
    generalize hnn : Au.hn hd p.Of[i].toNat = nn at *
    have hnl : nn ≤ x.Legs.length := by first | exact hhe | omega | exact hhk
    refine Run_loopV [23, 123, 124] (σ := Nat) (fun k => [(123, some (.int .i64 k))]) (fun k w' => k ≤ nn ∧ Row w' ps 3 (ints (Au.startL t f l p (i + 1))) ∧ Row w' pl 52 (x.cs l0 l1 l2 l3) ∧ Row w' pe 58 (l[i].cs g) ∧ (∃ O : List Int, Row w' pO 64 (ints O) ∧ O.length = 24 ∧ ∀ q : Int, 0 ≤ q → q < 24 → Bk.lo O q = Au.offS t f l p hd (3 + q) i + Ec.legG x (Tf.leg f l[i].Class) (3 + q) k) ∧ Ext w7 w') (fun k => nn - k) 0 (by simp [SubB, fnd]) ⟨by omega, r17, pl17, pe17, ⟨_, rO17, hOl, fun q a b => by rw [hO q a b]; simp [Ec.legG]⟩, x17⟩ ?_
    rintro k w18 ⟨hk, rs18, pl18, pe18, ⟨O2, rO18, hO2l, hO2⟩, x18⟩
    have y18 := y7.trans x18
    have z18 := z7.trans x18
    (repeat with_reducible first | refine js ?_ | refine ja ?_ | (refine jT (id := 21) KL8 13 mixed (by kernel_rfl) (by kernel_rfl) (by kernel_rfl) fun _ => ?_; refine jw KL8 [] TF8 fun _ => ?_) | refine jw KL8 [] TF8 fun _ => ?_)
    refine Run_condS (fun _ => rfl) (fun h => ?_) (fun h => ?_)
    · simp at h
      have hkn : k < nn := by omega
      have hko : k < x.Offices.length := by omega
      have hob := hxs x.Offices[k] (List.getElem_mem hko)
      have hgd : x.Offices.getD k 0 = x.Offices[k] := by simp [List.getD_eq_getElem?_getD, hko]
      have hlgS : ∀ j, Ec.legG x (Tf.leg f l[i].Class) j (k + 1) = Ec.legG x (Tf.leg f l[i].Class) j k + if 3 + x.Offices[k] = j then Tf.leg f l[i].Class else 0 := fun j => by simp only [Ec.legG]; rw [hgd]
      have hgb := fun j => Ec.legG_bd x hlb.1 j k
      have hgm : (k : Int) * Tf.leg f l[i].Class ≤ 8 * 1048576 := Int.mul_le_mul (by omega) hlb.2 hlb.1 (by omega)
      have pl19 := pl18.at_.n
      have pe19 := pe18.at_.n
      have f19 := F _ z18
      obtain ⟨e1, e2, -⟩ := (hRR.o.ext y18).get hko
      obtain ⟨e3, e4, -⟩ := (hT.l.ext y18).get hcx
      generalize x.Offices[k] = of at *
      obtain ⟨e5, e6⟩ := at_int rO18.at_ (i := of.toNat) (by omega)
      rw [lo_get (by omega) (by omega)] at e6
      have hb2 := hob1 (3 + of)
      have hb3 := hgb (3 + of)
      simp only [OrderD.cs, LineD.cs, AtN, KS, Nat.reduceAdd, Nat.reduceMul, Nat.reduceEqDiff, ↓reduceIte, UT] at pe19 pl19
      (repeat with_reducible first | refine js ?_ | refine ja ?_ | (refine jT (id := 21) KL8 13 mixed (by kernel_rfl) (by kernel_rfl) (by kernel_rfl) fun _ => ?_; refine jw KL8 [] (aa TF8 (aa f19 (aa pl19 (aa pe19 (aa hRR.o.s (aa hRR.o.len (aa e1 (aa e2 (aa hT.l.s (aa hT.l.len (aa e3 (aa e4 (aa e5 e6))))))))))))) fun _ => ?_) | refine jw KL8 [] (aa TF8 (aa f19 (aa pl19 (aa pe19 (aa hRR.o.s (aa hRR.o.len (aa e1 (aa e2 (aa hT.l.s (aa hT.l.len (aa e3 (aa e4 (aa e5 e6))))))))))))) fun _ => ?_)
      intro w19 x19
      refine ⟨by omega, ?_⟩
      have hlo2 := hO2 of hob.1 (by omega)
      rw [← hlg, wrapI (by omega) (by omega)]
      refine SemW_setAt (i := of.toNat) cells3 (rO18.ext x19) (by simp [ints]; omega) rfl rfl fun w20 r20 k20 s20 => ?_
      rw [ints_set] at r20
      have s19 := x19.size
      have x20 : Ext w7 w20 := Keep.ext (x18.trans x19) k20 fun b hb => by omega
      have rs20 := (rs18.ext x19).keep k20 (by omega)
      have pl20 := (pl18.ext x19).keep k20 (by omega)
      have pe20 := (pe18.ext x19).keep k20 (by omega)
      (repeat with_reducible first | refine js ?_ | refine ja ?_ | (refine jT (id := 21) KL8 13 mixed (by kernel_rfl) (by kernel_rfl) (by kernel_rfl) fun _ => ?_; refine jw KL8 [] TF8 fun _ => ?_) | refine jw KL8 [] TF8 fun _ => ?_)
      refine Run_lp ⟨k + 1, ?_, ⟨by omega, rs20, pl20, pe20, ⟨_, r20, by simpa using hO2l, fun q a b => ?_⟩, x20⟩, by omega⟩
      · simp [SubB, fnd, strike, has]
      · rw [Bk.lo_set a (by omega), hlgS, hO2 q a b, hlo2]
        by_cases e : q = of
        · subst e
          rw [if_pos (by omega), if_pos rfl]; omega
        · rw [if_neg (by omega), if_neg (by omega)]; omega
    · simp at h
      have hkn : k = nn := by omega
      subst hkn
      (repeat with_reducible first | refine js ?_ | refine ja ?_ | (refine jT (id := 21) KL8 13 mixed (by kernel_rfl) (by kernel_rfl) (by kernel_rfl) fun _ => ?_; refine jw KL8 [] TF8 fun _ => ?_) | refine jw KL8 [] TF8 fun _ => ?_)
      refine Run_lp ⟨i + 1, ?_, ⟨by omega, rs18, ⟨O2, rO18, hO2l, fun q a b => by rw [hO2 q a b, hofs]⟩, x18⟩, by omega⟩
      simp [SubB, fnd, strike, has]
  · simp at h
    have hil : i = l.length := by omega
    subst hil
    (repeat with_reducible first | refine js ?_ | refine ja ?_ | (refine jT (id := 21) KL8 13 mixed (by kernel_rfl) (by kernel_rfl) (by kernel_rfl) fun _ => ?_; refine jw KL8 [] TF8 fun _ => ?_) | refine jw KL8 [] TF8 fun _ => ?_)
    have hsl := Au.startL_len t f l p l.length
    have hI : ∀ x ∈ Au.startL t f l p l.length, I64 x := fun x hx => by
      obtain ⟨k, hk, rfl⟩ := List.getElem_of_mem hx
      have h2 := hlo0 (k : Int) (by omega)
      have h3 := Ec.price_bd t f l p (((k : Nat) : Int) - 51).toNat
      rw [show Bk.lo (Au.startL t f l p l.length) (k : Int) = (Au.startL t f l p l.length)[k] by unfold Bk.lo; simp [List.getD_eq_getElem?_getD, hk]] at h2
      rw [h2]
      unfold I64
      split <;> omega
    have hS := rowInts rs hI (by omega)
    rw [hsl] at hS
    refine CallW_gen call33 (bkBalances _ vm _ m w10 hS (hm.ext y10)) fun e w11 ⟨vb, he, x11, sb11⟩ => ⟨_, he, ?_⟩
    rw [hbal] at sb11 ⊢
    simp only at sb11
    have hbll := sb11.len
    have y11 := y10.trans x11
    have hgj : ∀ j : Nat, j < 115 → AF.getD j 0 = Bk.lo AF j := fun j hj => by unfold Bk.lo; simp
    have hG : ∀ w', Ext w11 w' → ∀ j : Nat, j < 115 → has1 w' ((slAt vb).add j) ∧ mem w' ((slAt vb).add j) = .int .i64 (Bk.lo AF j) := fun w' x' j hj => by
      obtain ⟨a1, a2, -⟩ := (sb11.ext x').get (show j < AF.length by omega)
      have e : AF[j]'(by omega) = Bk.lo AF j := by unfold Bk.lo; simp [List.getD_eq_getElem?_getD, show j < AF.length by omega]
      rw [e] at a1
      exact ⟨a2, a1⟩
    obtain ⟨b2, c2⟩ := hG w11 (Ext.refl _) 2 (by decide)
    obtain ⟨b1, c1⟩ := hG w11 (Ext.refl _) 1 (by decide)
    obtain ⟨b0, c0⟩ := hG w11 (Ext.refl _) 0 (by decide)
    rw [show Bk.lo AF ((2 : Nat) : Int) = 0 from v2] at c2
    rw [show Bk.lo AF ((1 : Nat) : Int) = 0 from v1] at c1
    rw [show Bk.lo AF ((0 : Nat) : Int) = 0 from v0'] at c0
    rw [show (slAt vb).add 0 = slAt vb by first | rfl | simp | simp [Addr.add]] at b0 c0
    have hb115 : slLen vb = 115 := by omega
    have rO11 := rO.ext x11
    (repeat with_reducible first | refine js ?_ | refine ja ?_ | (refine jT (id := 21) KL8 13 mixed (by kernel_rfl) (by kernel_rfl) (by kernel_rfl) fun _ => ?_; refine jw KL8 [] (aa TF8 (aa @bne_self_eq_false.{0} (aa sb11.s (aa hb115 (aa b2 (aa c2 (aa b1 (aa c1 (aa b0 (aa c0 KX)))))))))) fun _ => ?_) | refine jw KL8 [] (aa TF8 (aa @bne_self_eq_false.{0} (aa sb11.s (aa hb115 (aa b2 (aa c2 (aa b1 (aa c1 (aa b0 (aa c0 KX)))))))))) fun _ => ?_)
    refine Run_condS (fun _ => rfl) (fun h => by cases h) (fun _ => ?_)
    (repeat with_reducible first | refine js ?_ | refine ja ?_ | (refine jT (id := 21) KL8 13 mixed (by kernel_rfl) (by kernel_rfl) (by kernel_rfl) fun _ => ?_; refine jw KL8 [] TF8 fun _ => ?_) | refine jw KL8 [] TF8 fun _ => ?_)
    obtain ⟨m1, m2⟩ := at_memA42 rO11.at_ (n := 24) (by simp [ints]; omega)
    (repeat with_reducible first | refine js ?_ | refine ja ?_ | (refine jT (id := 21) KL8 13 mixed (by kernel_rfl) (by kernel_rfl) (by kernel_rfl) fun _ => ?_; refine jw KL8 [] (aa TF8 (aa m1 m2)) fun _ => ?_) | refine jw KL8 [] (aa TF8 (aa m1 m2)) fun _ => ?_)
    refine Run_loopV [12, 26, 27, 28, 30, 175, 176, 179, 180, 181, 182, 194, 208] (σ := Nat) (fun k => [(175, some (.int .i64 k))]) (fun k w' => k ≤ 24 ∧ Ext w11 w') (fun k => 24 - k) 0 (by simp [SubB, fnd]) ⟨by omega, Ext.refl _⟩ ?_
    rintro k w12 ⟨hk, x12⟩
    have y12 := y11.trans x12
    (repeat with_reducible first | refine js ?_ | refine ja ?_ | (refine jT (id := 21) KL8 13 mixed (by kernel_rfl) (by kernel_rfl) (by kernel_rfl) fun _ => ?_; refine jw KL8 [] TF8 fun _ => ?_) | refine jw KL8 [] TF8 fun _ => ?_)
    refine Run_condS (fun _ => rfl) (fun h => ?_) (fun h => ?_)
    · simp at h
      have hk24 : k < 24 := by omega
      (repeat with_reducible first | refine js ?_ | refine ja ?_ | (refine jT (id := 21) KL8 13 mixed (by kernel_rfl) (by kernel_rfl) (by kernel_rfl) fun _ => ?_; refine jw KL8 [] TF8 fun _ => ?_) | refine jw KL8 [] TF8 fun _ => ?_)
      have e27 : (ints O).getD k undef = .int .i64 (Bk.lo O k) := by
        unfold Bk.lo; simp [ints, List.getD_eq_getElem?_getD, show k < O.length by omega]
      refine ⟨⟨by simp [ints]; omega, by omega, by omega⟩, ?_⟩
      rw [e27]
      (repeat with_reducible first | refine js ?_ | refine ja ?_ | (refine jT (id := 21) KL8 13 mixed (by kernel_rfl) (by kernel_rfl) (by kernel_rfl) fun _ => ?_; refine jw KL8 [] (aa TF8 (aa hm.s hm.len)) fun _ => ?_) | refine jw KL8 [] (aa TF8 (aa hm.s hm.len)) fun _ => ?_)
      refine Run_loopV [28, 30, 181, 182, 194] (σ := Nat) (fun i => [(28, some (.int .i64 (Au.covS (3 + k) (m.take i)))), (181, some (.int .i64 i))]) (fun i w' => i ≤ m.length ∧ (0 ≤ Au.covS (3 + k) (m.take i) ∧ Au.covS (3 + k) (m.take i) ≤ i * 1099511627776) ∧ Ext w11 w') (fun i => m.length - i) 0 (by simp [SubB, fnd, Au.covS]) ⟨by omega, by simp [Au.covS], x12⟩ ?_
      rintro i w13 ⟨hi, hcb, x13⟩
      have y13 := y11.trans x13
      (repeat with_reducible first | refine js ?_ | refine ja ?_ | (refine jT (id := 21) KL8 13 mixed (by kernel_rfl) (by kernel_rfl) (by kernel_rfl) fun _ => ?_; refine jw KL8 [] (aa TF8 (aa hm.s hm.len)) fun _ => ?_) | refine jw KL8 [] (aa TF8 (aa hm.s hm.len)) fun _ => ?_)
      refine Run_condS (fun _ => rfl) (fun h => ?_) (fun h => ?_)
      · simp at h
        have him : i < m.length := h
        obtain ⟨g1, g2⟩ := (hm.ext y13).moveD him
        have hmo := hmm m[i] (List.getElem_mem him)
        have hct := Au.covS_take (j := 3 + k) him
        obtain ⟨_, _, ma, mb⟩ := hmo
        generalize m[i] = mv at *
        simp only [MoveD.cs, AtN, KS, Nat.reduceAdd, Nat.reduceMul, Nat.reduceEqDiff, ↓reduceIte, UT] at g1
        (repeat with_reducible first | refine js ?_ | refine ja ?_ | (refine jT (id := 21) KL8 13 mixed (by kernel_rfl) (by kernel_rfl) (by kernel_rfl) fun _ => ?_; refine jw KL8 [] (aa TF8 (aa hm.s (aa hm.len g1))) fun _ => ?_) | refine jw KL8 [] (aa TF8 (aa hm.s (aa hm.len g1))) fun _ => ?_)
        refine SemW_allocT ti70 fun py w14 h14 => ?_
        have b14 := h14.blk
        (repeat with_reducible first | refine js ?_ | refine ja ?_ | (refine jT (id := 21) KL8 13 mixed (by kernel_rfl) (by kernel_rfl) (by kernel_rfl) fun _ => ?_; refine jw KL8 [] TF8 fun _ => ?_) | refine jw KL8 [] TF8 fun _ => ?_)
        refine SemW_setW (by rw [cells70]; decide) (by rw [cells70]; rfl) h14.row (by rw [cells70]; rfl) rfl fun w15 r15 k15 z15 => ?_
        have r15 : Row w15 py 70 mv.cs := by simpa [Value.cells, MoveD.cs] using r15
        have x15 : Ext w13 w15 := Keep.ext h14.ext k15 fun b hb => by omega
        have m15 := r15.at_.n
        simp only [MoveD.cs, AtN, KS, Nat.reduceAdd, Nat.reduceMul, Nat.reduceEqDiff, ↓reduceIte, UT] at m15
        (repeat with_reducible first | refine js ?_ | refine ja ?_ | (refine jT (id := 21) KL8 13 mixed (by kernel_rfl) (by kernel_rfl) (by kernel_rfl) fun _ => ?_; refine jw KL8 [] (aa TF8 (aa m15 KX)) fun _ => ?_) | refine jw KL8 [] (aa TF8 (aa m15 KX)) fun _ => ?_)
        refine Run_condS (fun _ => rfl) (fun h => ?_) (fun h => ?_)
        · simp only [Bool.and_eq_true, beq_iff_eq] at h
          rw [if_pos h] at hct
          (repeat with_reducible first | refine js ?_ | refine ja ?_ | (refine jT (id := 21) KL8 13 mixed (by kernel_rfl) (by kernel_rfl) (by kernel_rfl) fun _ => ?_; refine jw KL8 [] (aa TF8 m15) fun _ => ?_) | refine jw KL8 [] (aa TF8 m15) fun _ => ?_)
          refine Run_lp ⟨i + 1, ?_, ⟨by omega, by omega, x13.trans x15⟩, by omega⟩
          rw [hct]
          simp [SubB, fnd, strike, has]
        · simp only [Bool.and_eq_false_iff, beq_eq_false_iff_ne] at h
          rw [if_neg (by rintro ⟨e1, e2⟩; rcases h with h | h <;> exact h (by assumption))] at hct
          (repeat with_reducible first | refine js ?_ | refine ja ?_ | (refine jT (id := 21) KL8 13 mixed (by kernel_rfl) (by kernel_rfl) (by kernel_rfl) fun _ => ?_; refine jw KL8 [] TF8 fun _ => ?_) | refine jw KL8 [] TF8 fun _ => ?_)
          refine Run_lp ⟨i + 1, ?_, ⟨by omega, by omega, x13.trans x15⟩, by omega⟩
          rw [hct]
          simp [SubB, fnd, strike, has]
      · simp at h
        have him : i = m.length := by omega
        subst him
        rw [List.take_length] at *
        have hv := vo' (3 + k) (by omega)
        have hO3 := hO k (by omega) (by omega)
        obtain ⟨q1, q2⟩ := hG w13 x13 (3 + (k : Int)).toNat (by omega)
        have hofb := offS_bd hok (3 + k) l.length (by omega)
        rw [show (((3 + (k : Int)).toNat : Nat) : Int) = 3 + k by omega, hv, ← hO3] at q2
        have hwr : IntKind.i64.wrap (Bk.lo O k + Au.covS (3 + k) m) = Bk.lo O k + Au.covS (3 + k) m := wrapI (by omega) (by omega)
        (repeat with_reducible first | refine js ?_ | refine ja ?_ | (refine jT (id := 21) KL8 13 mixed (by kernel_rfl) (by kernel_rfl) (by kernel_rfl) fun _ => ?_; refine jw KL8 [] (aa TF8 (aa sb11.s (aa hb115 (aa q1 (aa q2 (aa hwr (aa @bne_self_eq_false.{0} KX))))))) fun _ => ?_) | refine jw KL8 [] (aa TF8 (aa sb11.s (aa hb115 (aa q1 (aa q2 (aa hwr (aa @bne_self_eq_false.{0} KX))))))) fun _ => ?_)
        refine Run_condS (fun _ => rfl) (fun h => by cases h) (fun _ => ?_)
        (repeat with_reducible first | refine js ?_ | refine ja ?_ | (refine jT (id := 21) KL8 13 mixed (by kernel_rfl) (by kernel_rfl) (by kernel_rfl) fun _ => ?_; refine jw KL8 [] TF8 fun _ => ?_) | refine jw KL8 [] TF8 fun _ => ?_)
        refine Run_lp ⟨k + 1, ?_, ⟨by omega, x13⟩, by omega⟩
        simp [SubB, fnd, strike, has]
    · (repeat with_reducible first | refine js ?_ | refine ja ?_ | (refine jT (id := 21) KL8 13 mixed (by kernel_rfl) (by kernel_rfl) (by kernel_rfl) fun _ => ?_; refine jw KL8 [] TF8 fun _ => ?_) | refine jw KL8 [] TF8 fun _ => ?_)
      refine Run_ret ?_
      simp [Rets, RetM, resV, fnd, oneOr, y12]
end Go.Proofs.YtoadfmgnpmcbfaaGreat
