import Derived.Test.YtoadfmgnpmcbfaaGreatQoW39m
import Derived.Test.YtoadfmgnpmcbfaaGreatQoW39d
/- Chapter 39: Pay. -/
namespace Go.Proofs.YtoadfmgnpmcbfaaGreat
open Go Go.Fk
set_option linter.unusedSimpArgs false
set_option linter.unusedVariables false
set_option maxRecDepth 100000
theorem esPay1 (pr pp : Addr) (run : Int) (p : PlanD) (v0 v1 v2 : Value) (w : World) (hr : At w pr [.int .i64 run]) (hp : At w pp (p.cs v0 v1 v2)) (hP : PlanR w p v0 v1 v2) :
    Calls Tryz.prog 49 #[.pointer (some pr), .pointer (some pp)] w fun e w' => e = .returned (.bool (decide (0 ≤ run ∧ run < p.Runs.length))) ∧ Ext w w' := by
  have g1 := hr.n
  have g2 := hp.n
  simp only [PlanD.cs, AtN, KS, Nat.reduceAdd, Nat.reduceMul, Nat.reduceEqDiff, ↓reduceIte, UT] at g1 g2
  refine Calls_of_Run (args := [.pointer (some pr), .pointer (some pp)]) (n := 12) (rs := [.tmp 2]) Tryz.func49 rfl rfl rfl (by simp) ?_
  (repeat with_reducible first | refine js ?_ | refine ja ?_ | refine jw KL49 [] (aa TF49 (aa g1 (aa g2 (aa hP.r.s (aa hP.r.len KX))))) fun _ => ?_)
  refine Run_ret ?_
  simp [Rets, RetM, resV, fnd, oneOr, Ext.refl]
theorem esPay2 (ph pt pp pr : Addr) (vl : Value) (t : TimeD) (run handed : Int) (p : PlanD) (v0 v1 v2 : Value) (x : LineD) (w : World) (hh : At w ph [.int .i64 handed]) (ht : At w pt (t.cs vl)) (hp : At w pp (p.cs v0 v1 v2)) (hr : At w pr [.int .i64 run]) (hl : Sl w vl t.Lines) (hP : PlanR w p v0 v1 v2)
    (hrn : run.toNat < p.Runs.length) (h0 : 0 ≤ run) (hln : p.Runs[run.toNat].Line.toNat < t.Lines.length) (hl0 : 0 ≤ p.Runs[run.toNat].Line) (hx : x = t.Lines[p.Runs[run.toNat].Line.toNat]) :
    Calls Tryz.prog 50 #[.pointer (some ph), .pointer (some pt), .pointer (some pp), .pointer (some pr)] w fun e w' => e = .returned (.bool (decide (0 ≤ handed ∧ handed ≤ x.Legs.length))) ∧ Ext w w' := by
  have g0 := hh.n
  have g1 := ht.n
  have g2 := hp.n
  have g3 := hr.n
  have hrl := hP.r.len
  have hll := hl.len
  obtain ⟨e1, _⟩ := hP.r.runD hrn
  obtain ⟨l0, l1, l2, l3, a1, _, hR⟩ := hl.line hln
  rw [← hx] at a1 hR
  generalize hrr : p.Runs[run.toNat] = r at *
  simp only [TimeD.cs, PlanD.cs, RunD.cs, LineD.cs, AtN, KS, Nat.reduceAdd, Nat.reduceMul, Nat.reduceEqDiff, ↓reduceIte, UT] at g0 g1 g2 g3 e1 a1
  refine Calls_of_Run (args := [.pointer (some ph), .pointer (some pt), .pointer (some pp), .pointer (some pr)]) (n := 23) (rs := [.tmp 4]) Tryz.func50 rfl rfl rfl (by simp) ?_
  by_cases h : 0 ≤ handed
  · have e0 : decide (0 ≤ handed) = true := by simp [h]
    (repeat with_reducible first | refine js ?_ | refine ja ?_ | refine jw KL50 [1] (aa TF50 (aa g0 (aa g1 (aa g2 (aa g3 (aa e0 (aa hP.r.s (aa hP.r.len (aa e1 (aa hl.s (aa hl.len (aa a1 (aa hR.l.s (aa hR.l.len KX)))))))))))))) fun _ => ?_)
    intro w' hx'
    refine Run_ret ?_
    simp [Rets, RetM, resV, fnd, oneOr, hx', h]
  · have e0 : decide (0 ≤ handed) = false := by simp; omega
    (repeat with_reducible first | refine js ?_ | refine ja ?_ | refine jw KL50 [1] (aa TF50 (aa g0 (aa e0 KX))) fun _ => ?_)
    intro w' hx'
    refine Run_ret ?_
    simp [Rets, RetM, resV, fnd, oneOr, hx', h]
/-- the moves for some orders -/
def payL (t : TimeD) (f : TariffD) (l : List OrderD) (p : PlanD) (run : Int) (h : Nat) (ks : List Nat) : List MoveD := ks.foldl (fun a k => a ++ Ec.payO t f l p run h k a.length) []
theorem payL_snoc (t : TimeD) (f : TariffD) (l : List OrderD) (p : PlanD) (run : Int) (h : Nat) (ks : List Nat) (k : Nat) : payL t f l p run h (ks ++ [k]) = payL t f l p run h ks ++ Ec.payO t f l p run h k (payL t f l p run h ks).length := by simp [payL]
theorem pays_payL (t : TimeD) (f : TariffD) (l : List OrderD) (p : PlanD) (run : Int) (h : Nat) : ∀ n, Ec.pays t f l p run h n = payL t f l p run h (ofL p run n)
  | 0 => rfl
  | n + 1 => by
    simp only [Ec.pays, ofL, pays_payL t f l p run h n]
    split
    · rw [payL_snoc]
    · simp
theorem payL_len (t : TimeD) (f : TariffD) (l : List OrderD) (p : PlanD) (run : Int) (h : Nat) (ks : List Nat) : (payL t f l p run h ks).length = ks.length * (h + 1) := by
  have : ∀ n, (payL t f l p run h (ks.take n)).length = (ks.take n).length * (h + 1) := by
    intro n
    induction n with
    | zero => simp [payL]
    | succ n ih =>
      by_cases e : n < ks.length
      · rw [List.take_succ_eq_append_getElem e, payL_snoc, List.length_append, ih, Ec.payO_len, List.length_append, List.length_singleton, Nat.add_mul]; omega
      · rw [List.take_of_length_le (by omega)]; rwa [List.take_of_length_le (by omega)] at ih
  simpa using this ks.length
/-- what is left for the last move, by now -/
def leftA (f : TariffD) (o : OrderD) (h k : Nat) : Int := Tf.base f o.Class + Tf.extra f o.Crowd + ((k - h : Nat) : Int) * Tf.leg f o.Class
theorem leftA_zero (f : TariffD) (o : OrderD) (h : Nat) : leftA f o h 0 = Tf.base f o.Class + Tf.extra f o.Crowd := by simp [leftA]
theorem leftA_lo (f : TariffD) (o : OrderD) {h k : Nat} (hk : k < h) : leftA f o h (k + 1) = leftA f o h k := by
  unfold leftA; rw [show k + 1 - h = 0 by omega, show k - h = 0 by omega]
theorem leftA_hi (f : TariffD) (o : OrderD) {h k : Nat} (hk : h ≤ k) : leftA f o h (k + 1) = leftA f o h k + Tf.leg f o.Class := by
  unfold leftA; rw [show k + 1 - h = k - h + 1 by omega, Int.natCast_add, Int.add_mul]; simp; omega
theorem leftA_end (f : TariffD) (o : OrderD) {h n : Nat} (hn : h ≤ n) : leftA f o h n = Tf.base f o.Class + n * Tf.leg f o.Class + Tf.extra f o.Crowd - h * Tf.leg f o.Class := by
  unfold leftA; rw [show ((n - h : Nat) : Int) = (n : Int) - h by omega, Int.sub_mul]; omega
theorem leftA_bd {f : TariffD} (hf : Tf.chk f = 0) (o : OrderD) (h : Nat) {k : Nat} (hk : k ≤ 8) : 0 ≤ leftA f o h k ∧ leftA f o h k ≤ 16777216 := by
  have h1 := Tf.base_bd hf o.Class
  have h2 := Tf.extra_bd hf o.Crowd
  have h3 := Tf.leg_bd hf o.Class
  have h4 : 0 ≤ ((k - h : Nat) : Int) * Tf.leg f o.Class := Int.mul_nonneg (by omega) h3.1
  have h5 : ((k - h : Nat) : Int) * Tf.leg f o.Class ≤ 8 * 1048576 := Int.mul_le_mul (by omega) h3.2 h3.1 (by omega)
  unfold leftA; omega
theorem BkR.ext {B : Nat} {w w' : World} {pb : Addr} {run : Int} {ms : List MoveD} (h : BkR B w pb run ms) (x : Ext w w') : BkR B w' pb run ms := by
  obtain ⟨v, r, b⟩ := h.ex
  exact ⟨v, r.ext x, b.keep (Keep.of_ext (S := fun _ => True) x) fun _ _ _ => trivial⟩
theorem BkR.keep {B : Nat} {w w' : World} {pb : Addr} {run : Int} {ms : List MoveD} {S : Nat → Prop} (h : BkR B w pb run ms) (k : Keep S w w') (h1 : S pb.block) (h2 : ∀ g, B ≤ g → g < w.heap.size → S g) : BkR B w' pb run ms := by
  obtain ⟨v, r, b⟩ := h.ex
  exact ⟨v, r.keep k h1, b.keep k h2⟩
theorem BkR.lt {B : Nat} {w : World} {pb : Addr} {run : Int} {ms : List MoveD} (h : BkR B w pb run ms) : pb.block < w.heap.size := by
  obtain ⟨v, r, b⟩ := h.ex
  exact r.lt
theorem wrong_zero {t : TimeD} {f : TariffD} {l : List OrderD} {p : PlanD} (h : Ec.Ok t f l p) {i : Nat} (hi : i < l.length) : Tf.wrong f (l.getD i default).Class (Ec.lineP t p (p.Of.getD i 0)).Legs.length (l.getD i default).Crowd = 0 := by
  obtain ⟨_, _, hlo, _, hc, hk⟩ := Ec.price_eq h hi
  have hor := h.o.o (l.getD i default) (by rw [List.getD_eq_getElem?_getD, List.getElem?_eq_getElem hi]; exact List.getElem_mem hi)
  have a1 := hlo.o2
  have a2 := hlo.o9
  have a3 := hlo.l1
  unfold Tf.wrong
  rw [if_neg (by simp [h.o.f]), if_neg (by omega)]
set_option maxHeartbeats 8000000 in
theorem esPayO (vl u0 u1 u2 vo v0 v1 v2 : Value) (t : TimeD) (f : TariffD) (l : List OrderD) (p : PlanD) (run handed : Int) (w : World) (hl : Sl w vl t.Lines) (hT : TarR w f u0 u1 u2) (ho : Sl w vo l) (hP : PlanR w p v0 v1 v2) (hrI : I64 run) :
    Calls Tryz.prog 21 #[.agg (t.cs vl).toArray, .agg (f.cs u0 u1 u2).toArray, vo, .agg (p.cs v0 v1 v2).toArray, .int .i64 run, .int .i64 handed] w (MvRO w (Ec.pay t f l p run handed)) := by
  refine Calls_of_Run (args := [.agg (t.cs vl).toArray, .agg (f.cs u0 u1 u2).toArray, vo, .agg (p.cs v0 v1 v2).toArray, .int .i64 run, .int .i64 handed]) (n := 117) (rs := [.tmp 12, .tmp 13]) Tryz.func21 rfl rfl rfl (by simp) ?_
  (repeat with_reducible first | refine js ?_ | refine ja ?_ | refine jw KL21 [20] TF21 fun _ => ?_)
  refine SemW_box fun pt w1 h1 => SemW_box fun pf w2 h2 => SemW_box fun pp w3 h3 => SemW_box fun pr w3' h3' => SemW_box fun ph w3'' h3'' => ?_
  have x3 := h1.ext.trans (h2.ext.trans (h3.ext.trans (h3'.ext.trans h3''.ext)))
  have aT := h1.at_.ext (h2.ext.trans (h3.ext.trans (h3'.ext.trans h3''.ext)))
  have aF := h2.at_.ext (h3.ext.trans (h3'.ext.trans h3''.ext))
  have aP := h3.at_.ext (h3'.ext.trans h3''.ext)
  have aR := h3'.at_.ext h3''.ext
  have aH := h3''.at_
  have T : ∀ w', Ext w3'' w' → AtN w' pt 0 (t.cs vl) := fun w' x => (aT.ext x).n
  have F : ∀ w', Ext w3'' w' → AtN w' pf 0 (f.cs u0 u1 u2) := fun w' x => (aF.ext x).n
  have P : ∀ w', Ext w3'' w' → AtN w' pp 0 (p.cs v0 v1 v2) := fun w' x => (aP.ext x).n
  have R : ∀ w', Ext w3'' w' → AtN w' pr 0 [.int .i64 run] := fun w' x => (aR.ext x).n
  have H : ∀ w', Ext w3'' w' → AtN w' ph 0 [.int .i64 handed] := fun w' x => (aH.ext x).n
  simp only [TimeD.cs, TariffD.cs, PlanD.cs, AtN, KS, Nat.reduceAdd, Nat.reduceMul, Nat.reduceEqDiff, ↓reduceIte, UT] at T F P R H
  have t3 := T w3'' (Ext.refl _)
  have f3 := F w3'' (Ext.refl _)
  have p3 := P w3'' (Ext.refl _)
  (repeat with_reducible first | refine js ?_ | refine ja ?_ | refine jw KL21 [20] (aa TF21 (aa t3 (aa f3 p3))) fun _ => ?_)
  refine eschkW (hl.ext x3) (hT.ext x3) (ho.ext x3) (hP.ext x3) fun w4 x4 => ?_
  have y4 := x3.trans x4
  (repeat with_reducible first | refine js ?_ | refine ja ?_ | refine jw KL21 [20] TF21 fun _ => ?_)
  refine Run_condS (fun _ => rfl) (fun h => ?_) (fun h => ?_)
  · have hc : Ec.err t f l p ≠ 0 := by simpa using h
    (repeat with_reducible first | refine js ?_ | refine ja ?_ | refine jw KL21 [20] TF21 fun _ => ?_)
    refine Run_ret ?_
    simp [Rets, RetM, resV, fnd, oneOr, MvRO, Ec.pay, hc, y4]
    exact ⟨Sl.nil _, BufO.nil⟩
  have hc : Ec.err t f l p = 0 := by simpa using h
  clear h
  have ok := Ec.err_ok hc
  have hres : Ec.pay t f l p run handed = if run < 0 ∨ p.Runs.length ≤ run ∨ handed < 0 ∨ (Ec.lineP t p run).Legs.length < handed then ([], 1) else (Ec.pays t f l p run handed.toNat l.length, 0) := by unfold Ec.pay; rw [if_neg (by simp [hc])]
  have hn64 := ok.o.n
  (repeat with_reducible first | refine js ?_ | refine ja ?_ | refine jw KL21 [20] TF21 fun _ => ?_)
  let F0 : Value := .func (.func 49) #[] #[.pointer (some pr), .pointer (some pp)]
  let F1 : Value := .func (.func 50) #[] #[.pointer (some ph), .pointer (some pt), .pointer (some pp), .pointer (some pr)]
  refine SemW_buildSlice (vs := [F0, F1]) Tryz.underlying90 ti33 rfl rfl rfl (by simp [Value.cells, F0, F1]) (by simp) fun pc w5 hB => ?_
  have x5 := hB.ext
  (repeat with_reducible first | refine js ?_ | refine ja ?_ | refine jw KL21 [20] TF21 fun _ => ?_)
  let Q : Nat → Bool := fun k => match k with | 0 => decide (0 ≤ run ∧ run < p.Runs.length) | _ => decide (0 ≤ handed ∧ handed ≤ (Ec.lineP t p run).Legs.length)
  refine Run_loopV [12, 13, 15, 37, 38, 43] (σ := Nat) (fun k => [(37, some (.int .i64 k))]) (fun k w' => k ≤ 2 ∧ (∀ j, j < k → Q j = true) ∧ Ext w5 w') (fun k => 2 - k) 0 (by simp [SubB, fnd]) ⟨by omega, by simp, Ext.refl _⟩ ?_
  rintro k w6 ⟨hk, hf, x6⟩
  have z6 := x4.trans (x5.trans x6)
  have y6 := y4.trans (x5.trans x6)
  (repeat with_reducible first | refine js ?_ | refine ja ?_ | refine jw KL21 [20] TF21 fun _ => ?_)
  refine Run_condS (fun _ => rfl) (fun h => ?_) (fun h => ?_)
  · simp at h
    have hkl := h
    have hC : ∃ g cap, (mem w6 (pc.add k) = .func (.func g) #[] cap ∧ has1 w6 (pc.add k)) ∧ (∀ K : Value → World → Prop, (∀ w', Ext w6 w' → K (.bool (Q k)) w') → CallW Tryz.prog (.func (.func g) #[] cap) [] w6 K) := by
      have g3 := (hB.at_.ext x6).n
      simp only [AtN, KS, Nat.reduceAdd, Nat.reduceMul, Nat.reduceEqDiff, ↓reduceIte, UT, F0, F1, List.flatMap_cons, List.flatMap_nil, Value.cells, List.toList_toArray, List.append_nil, List.cons_append, List.nil_append] at g3
      have : k = 0 ∨ k = 1 := by omega
      rcases this with rfl | rfl
      · exact ⟨49, #[.pointer (some pr), .pointer (some pp)], ⟨by rw [add_zero]; exact g3.2.1, by rw [add_zero]; exact g3.1⟩, fun K hK => CallW_cl call49 (esPay1 pr pp run p v0 v1 v2 w6 (aR.ext z6) (aP.ext z6) (hP.ext y6)) fun e w' ⟨he, x⟩ => ⟨_, he, hK w' x⟩⟩
      · have h0 := hf 0 (by omega)
        simp only [Q, decide_eq_true_eq] at h0
        obtain ⟨hrn, hln, hL, hle, _⟩ := line_at ok h0.1 h0.2
        exact ⟨50, #[.pointer (some ph), .pointer (some pt), .pointer (some pp), .pointer (some pr)], ⟨g3.2.2.2, g3.2.2.1⟩, fun K hK => CallW_cl call50 (esPay2 ph pt pp pr vl t run handed p v0 v1 v2 (Ec.lineP t p run) w6 (aH.ext z6) (aT.ext z6) (aP.ext z6) (aR.ext z6) (hl.ext y6) (hP.ext y6) hrn h0.1 hln hL.1 hle) fun e w' ⟨he, x⟩ => ⟨_, he, hK w' x⟩⟩
    obtain ⟨g, cap, ⟨m1, m2⟩, hC⟩ := hC
    have hbad : Q k = false → Ec.pay t f l p run handed = ([], 1) := fun hq => by
      rw [hres, if_pos]
      have : k = 0 ∨ k = 1 := by omega
      rcases this with rfl | rfl
      · simp only [Q, decide_eq_false_iff_not] at hq; omega
      · simp only [Q, decide_eq_false_iff_not] at hq; omega
    (repeat with_reducible first | refine js ?_ | refine ja ?_ | refine jw KL21 [20] (aa TF21 (aa m1 m2)) fun _ => ?_)
    refine hC _ fun w7 x7 => ?_
    (repeat with_reducible first | refine js ?_ | refine ja ?_ | refine jw KL21 [20] TF21 fun _ => ?_)
    refine Run_condS (fun _ => rfl) (fun h => ?_) (fun h => ?_)
    · (repeat with_reducible first | refine js ?_ | refine ja ?_ | refine jw KL21 [20] TF21 fun _ => ?_)
      refine Run_ret ?_
      simp [Rets, RetM, resV, fnd, oneOr, MvRO, hbad (by simpa using h)]
      exact ⟨y6.trans x7, Sl.nil _, BufO.nil⟩
    · (repeat with_reducible first | refine js ?_ | refine ja ?_ | refine jw KL21 [20] TF21 fun _ => ?_)
      refine Run_lp ⟨k + 1, ?_, ⟨by omega, fun j hj => ?_, x6.trans x7⟩, by omega⟩
      · simp [SubB, fnd, strike, has]
      · by_cases e : j = k
        · subst e; simpa using h
        · exact hf j (by omega)
  simp at h
  obtain rfl : k = 2 := by omega
  have h0 := hf 0 (by omega)
  have h1' := hf 1 (by omega)
  simp only [Q, decide_eq_true_eq] at h0 h1'
  clear h hf hk
  rw [if_neg (by omega)] at hres
  rw [hres]
  obtain ⟨hrn, hln, hL, hle, hlo⟩ := line_at ok h0.1 h0.2
  obtain ⟨hh, hhd⟩ : ∃ hh : Nat, handed = (hh : Int) := ⟨handed.toNat, by omega⟩
  subst hhd
  rw [Int.toNat_natCast]
  have hrl := hP.r.len
  have hll := hl.len
  have hrs := hP.r.small
  have hnh : hh ≤ (Ec.lineP t p run).Legs.length := by omega
  have ox9 := hlo.o9
  have oxl := hlo.l1
  have hoff := (Tt.chk_ok ok.o.t).o
  have hxs := hlo.s
  have haR := aR.ext z6
  clear hL h1'
  (repeat with_reducible first | refine jq ?_ | refine jk ?_ | refine jc ?_ | refine jl ?_ | refine jb ?_ | refine jo ?_ | refine ji ?_ | refine jx rfl ?_)
  refine Run_ec (id := 10) KL21 (.first 0 (.first 1 (.first 2 (.first 3 (.first 4 (.first 5 (.first 6 (.first 7 (.first 8 (.first 9 (.alt 10 (.alt 11 .done .stop) .stop))))))))))) mixed (by kernel_rfl) (by kernel_rfl) fun w7 x7 _ => ?_
  have y7 := y6.trans x7
  have z7 := z6.trans x7
  have t7 := T w7 z7
  have p7 := P w7 z7
  have r7 := R w7 z7
  obtain ⟨e1, _⟩ := (hP.r.ext y7).runD hrn
  obtain ⟨l0, l1, l2, l3, a1, a2, hR⟩ := (hl.ext y7).line hln
  have hlL : 0 ≤ p.Runs[run.toNat].Line ∧ p.Runs[run.toNat].Line < t.Lines.length := by
    obtain ⟨_, _, hL, _⟩ := line_at ok h0.1 h0.2
    exact hL
  rw [← hle] at a1 a2 hR
  have hone := hR.one
  generalize hxx : Ec.lineP t p run = x at *
  generalize hrr : p.Runs[run.toNat] = r at *
  simp only [RunD.cs, LineD.cs, AtN, KS, Nat.reduceAdd, Nat.reduceMul, Nat.reduceEqDiff, ↓reduceIte, UT] at e1 a1
  simp only [LineD.cs] at hone
  (try simp (maxSteps := 5000000) only [KS, Nat.reduceAdd, Nat.reduceMul, Nat.reduceEqDiff, ↓reduceIte, forall_const, Int.cast_ofNat_Int, Int.reduceToNat, List.take_succ_cons, List.take_zero, List.drop_succ_cons, List.drop_zero, TF21, KL21, ec, t7, p7, r7, hP.r.s, hP.r.len, hl.s, hl.len, e1, a1]); (try simp (disch := omega) only [wrapI, tmodI, tdivI])
  (try simp (maxSteps := 5000000) only [KS, Nat.reduceAdd, Nat.reduceMul, Nat.reduceEqDiff, ↓reduceIte, forall_const, Int.cast_ofNat_Int, Int.reduceToNat, List.take_succ_cons, List.take_zero, List.drop_succ_cons, List.drop_zero, TF21, KL21, ec, t7, p7, r7, hP.r.s, hP.r.len, hl.s, hl.len, e1, a1]); (try simp (disch := omega) only [wrapI, tmodI, tdivI])
  refine ⟨by omega, by omega, Ext.refl _, SemW_allocT ti52 fun px w8 h8 => ⟨h8.ext, ?_⟩⟩
  have b8 := h8.blk
  refine SemW_setW (by rw [cells52]; decide) (by rw [cells52]; rfl) h8.row (by rw [cells52]; rfl) (by simpa [Value.cells] using hone) fun w9 r9 k9 z9 => ?_
  have r9 : Row w9 px 52 (x.cs l0 l1 l2 l3) := by simpa [Value.cells, LineD.cs] using r9
  have x9 : Ext w7 w9 := Keep.ext h8.ext k9 fun q hq => by omega
  refine ⟨x9, ?_⟩
  have y9 := y7.trans x9
  have z9' := z7.trans x9
  have R9 := R w9 z9'
  clear t7 p7 r7 e1 a1 a2 t3 f3 p3
  (repeat with_reducible first | refine js ?_ | refine ja ?_ | refine jw KL21 [20] (aa TF21 R9) fun _ => ?_)
  refine ⟨.agg #[.int .i64 run, .slice none 0 0], fun w' => by kernel_rfl, ?_⟩
  refine SemW_box fun pb w10 h10 => ?_
  have b10 := h10.blk
  have s10 := h10.size
  have hpxb : px.block < pb.block := by have := h8.size; omega
  have rb10 : Row w10 pb 87 [.int .i64 run, .slice none 0 0] := by simpa [Value.cells] using h10.row
  (repeat with_reducible first | refine js ?_ | refine ja ?_ | refine jw KL21 [20] TF21 fun _ => ?_)
  refine SemW_var ti85 rfl rfl (by decide) rfl fun pv w11 h11 => ?_
  have b11 := h11.blk
  have s11 := h11.size
  have r11 : Row w11 pv 85 [.pointer (some pb)] := by simpa [Value.cells] using h11.row
  have x11 := h10.ext.trans h11.ext
  have y11 := y9.trans x11
  have z11 := z9'.trans x11
  have p11 := P w11 z11
  have R11 := R w11 z11
  (repeat with_reducible first | refine js ?_ | refine ja ?_ | refine jw KL21 [20] (aa TF21 (aa p11 R11)) fun _ => ?_)
  refine CallW_gen call51 (esOf vo v0 v1 v2 p run w11 (isS_cells ho.s)) fun e w12 ⟨p1, p2, p3, he, x12, aa1, aa2, aa3, bb1, bb2, bb3⟩ => ⟨_, he, ?_⟩
  clear he R9 R11 p11
  (repeat with_reducible first | refine js ?_ | refine ja ?_ | refine jw KL21 [20] TF21 fun _ => ?_)
  have s12 := x12.size
  have s9 := x9.size
  have s7 := x7.size
  have sw6 := y6.size
  have dd1 := aa1.blk
  have dd2 := aa2.blk
  have dd3 := aa3.blk
  have ddF := aF.blk
  have ddH := aH.blk
  have sz6 := z6.size
  have zz12 := z11.trans x12
  have yy12 := y11.trans x12
  have E7 : Ext w7 w12 := x9.trans (x11.trans x12)
  have aF12 := aF.ext zz12
  have aH12 := aH.ext zz12
  have rx12 := r9.ext (x11.trans x12)
  have rv12 := r11.ext x12
  have rb12 := rb10.ext (h11.ext.trans x12)
  have hOf : OfS w6 p1 p2 p3 vo v0 v1 v2 p run w12 := ⟨x7.trans E7, aa1, aa2, aa3⟩
  have hnl8 : x.Legs.length ≤ 8 := by omega
  have hleg := Tf.leg_bd ok.o.f
  have hfc := ok.o.f
  obtain ⟨gv, hgv⟩ : ∃ gv : Nat → Value, ∀ k (h : k < l.length), At w6 ((slAt vo).add (k * 11)) (l[k].cs (gv k)) ∧ OrdR w6 l[k] (gv k) := by
    have : ∀ k, ∃ g, ∀ h : k < l.length, At w6 ((slAt vo).add (k * 11)) (l[k].cs g) ∧ OrdR w6 l[k] g := fun k => by
      by_cases h : k < l.length
      · obtain ⟨g, _, o2, hO⟩ := (ho.ext y6).ord h
        exact ⟨g, fun _ => ⟨o2, hO⟩⟩
      · exact ⟨undef, fun h' => (h h').elim⟩
    exact ⟨fun k => Classical.choose (this k), fun k h => Classical.choose_spec (this k) h⟩
  have hN := rb12.lt
  have hNx := rx12.lt
  have hNv := rv12.lt
  have hbk0 : BkR (w12.heap.size + 2) w12 pb run (payL t f l p run hh ((ofL p run l.length).take 0)) := by
    rw [List.take_zero]; exact ⟨_, rb12, BufO.nil⟩
  generalize hNN : w12.heap.size = N at *
  refine Run_iter [62, 63] (fun _ => rfl) call93 (by simp) (ofItems l gv p run) (fun x hx => by simp [ofItems, ofItem] at hx; obtain ⟨_, _, rfl⟩ := hx; rfl) (fun _ => False) (fun k => k < N ∧ k ≠ pb.block) (fun k hk => hk.elim) (fun k hk => by omega)
    (fun j w' => Keep (fun k => k < N ∧ k ≠ pb.block) w12 w' ∧ BkR (N + 2) w' pb run (payL t f l p run hh ((ofL p run l.length).take j)))
    (fun e w' => False)
    (fun yv J Jx w1 hcs hx1 hj0 => ofIter p1 p2 p3 vo v0 v1 v2 l gv p run w6 (ho.ext y6) (hP.ext y6) ok.ol hgv (fun k => k < N ∧ k ≠ pb.block) yv J Jx w1 (fun k hk => by omega) (by omega) (by omega) (by omega) hcs (hOf.ext hx1) hj0)
    (fun w1 hx1 _ => ⟨Keep.of_ext hx1, hbk0.ext hx1⟩)
    (fun j u1 u2 ⟨hS1, hS2⟩ hk => ⟨hS1.trans (hk.mono fun k _ hk => ⟨id, by omega, by omega⟩), hS2.keep hk ⟨id, by omega, by omega⟩ (fun g hg _ => ⟨id, by omega, by omega⟩)⟩)
    (fun e u1 u2 he hk => he.elim) ?_ ?_ ?_
  · intro j hj w13 ⟨k13, B13⟩ z13
    have hjl : j < (ofL p run l.length).length := by simpa [ofItems] using hj
    have hit : (ofItems l gv p run)[j] = ofItem l gv ((ofL p run l.length)[j]) := by simp [ofItems]
    have hjn := ofL_len p run l.length
    rw [hit]
    obtain ⟨hil, hir⟩ := ofL_mem (List.getElem_mem hjl)
    have htk := List.take_succ_eq_append_getElem hjl
    have hpl := payL_len t f l p run hh ((ofL p run l.length).take j)
    rw [List.length_take] at hpl
    generalize hii : (ofL p run l.length)[j] = i at *
    have hgl : l.getD i default = l[i] := by simp [List.getD_eq_getElem?_getD, hil]
    obtain ⟨_, hO⟩ := hgv i hil
    have hone := hO.one
    obtain ⟨_, _, _, hpe, _, _⟩ := Ec.price_eq ok hil
    have hwz := wrong_zero ok hil
    rw [hir, hxx, hgl] at hpe hwz
    have hsnoc := payL_snoc t f l p run hh ((ofL p run l.length).take j) i
    rw [← htk] at hsnoc
    unfold Ec.payO at hsnoc
    rw [hxx, hgl, hpe] at hsnoc
    generalize payL t f l p run hh ((ofL p run l.length).take j) = M at *
    simp only [ofItem, hgl, zipL]
    generalize gv i = g at *
    generalize l[i] = o at *
    have hML : M.length ≤ 64 * 9 := by
      have : min j (ofL p run l.length).length * (hh + 1) ≤ 64 * 9 := Nat.mul_le_mul (by omega) (by omega)
      omega
    simp only [OrderD.cs] at hone
    simp only [OrderD.cs]
    (repeat with_reducible first | refine js ?_ | refine ja ?_ | refine jw KL21 [20] TF21 fun _ => ?_)
    refine SemW_var ti58 rfl rfl (by decide) (by simpa [Value.cells] using hone) fun po w14 h14 => ?_
    have r14 : Row w14 po 58 (o.cs g) := by simpa [Value.cells, OrderD.cs] using h14.row
    have b14 := h14.blk
    have s14 := h14.size
    (repeat with_reducible first | refine js ?_ | refine ja ?_ | refine jw KL21 [20] TF21 fun _ => ?_)
    refine Run_lp ⟨Keep.of_ext h14.ext, fun w15 k15 z15 => ?_⟩
    have K15 : Keep (fun k => k < N ∧ k ≠ pb.block) w12 w15 := (k13.trans (Keep.of_ext h14.ext)).trans (k15.mono fun k _ hk => by omega)
    have B15 := (B13.ext h14.ext).keep k15 (by omega) (fun g hg _ => by omega)
    have r15 := r14.keep k15 (by omega)
    have E15 : Ext w w15 := Keep.ext yy12 K15 fun k hk => by omega
    have f15 := (aF12.keep K15 (by omega)).n
    have lx15 := (rx12.at_.keep K15 (by omega)).n
    have g15 := r15.n
    simp only [TariffD.cs, LineD.cs, OrderD.cs, AtN, KS, Nat.reduceAdd, Nat.reduceMul, Nat.reduceEqDiff, ↓reduceIte, UT] at f15 lx15 g15
    have hsh : shares f o.Class x.Legs.length o.Crowd = (List.replicate x.Legs.length (Tf.leg f o.Class), Tf.base f o.Class + Tf.extra f o.Crowd, 0) := by unfold shares; rw [if_neg (by rw [hwz]; simp)]; simp
    have hShr := tfShares f u0 u1 u2 o.Class x.Legs.length o.Crowd w15 (hT.ext E15)
    rw [hsh] at hShr
    (repeat with_reducible first | refine js ?_ | refine ja ?_ | refine jw KL21 [20] (aa TF21 (aa f15 (aa lx15 (aa g15 (aa hR.l.s hR.l.len))))) fun _ => ?_)
    refine CallW_gen call26 hShr fun e w16 ⟨v, he, hv⟩ => ⟨_, he, ?_⟩
    simp only at he hv
    have x16 := hv.ext0
    have hvs := hv.isS
    rw [List.length_replicate] at hvs
    (repeat with_reducible first | refine js ?_ | refine ja ?_ | refine jw KL21 [20] (aa TF21 (aa hvs.1 hvs.2)) fun _ => ?_)
    have sw15 := x16.size
    have hvO : BufO (α := Int) 3 0 w16 v (List.replicate x.Legs.length (Tf.leg f o.Class)) := hv.o.mono (by omega)
    have hlb := hleg o.Class
    refine Run_loopV [21, 23, 24, 79, 80, 86] (σ := Nat) (fun k => [(79, some (.int .i64 k)), (21, some (.int .i64 (leftA f o hh k)))]) (fun k w' => k ≤ x.Legs.length ∧ BkR (N + 2) w' pb run (M ++ Ec.legMs x (Tf.leg f o.Class) run M.length (min k hh)) ∧ Keep (fun b => b < N + 2 ∧ b ≠ pb.block) w15 w' ∧ BufO (α := Int) 3 0 w' v (List.replicate x.Legs.length (Tf.leg f o.Class)) ∧ N + 2 ≤ w'.heap.size) (fun k => x.Legs.length - k) 0 (by simp [SubB, fnd, leftA_zero]) ⟨by omega, by simpa [Ec.legMs] using B15.ext x16, Keep.of_ext x16, hvO, by omega⟩ ?_
    · rintro k w17 ⟨hk, B17, k17, v17, s17⟩
      (repeat with_reducible first | refine js ?_ | refine ja ?_ | refine jw KL21 [20] TF21 fun _ => ?_)
      refine Run_condS (fun _ => rfl) (fun h => ?_) (fun h => ?_)
      · simp at h
        have hkl := h
        have hkr : k < (List.replicate x.Legs.length (Tf.leg f o.Class)).length := by simpa using hkl
        obtain ⟨d1, d2, _⟩ := (v17.sl (by rw [List.length_replicate]; omega)).get hkr
        rw [List.getElem_replicate] at d1
        have hla := leftA_bd hfc o hh (show k ≤ 8 by omega)
        have K17 : Keep (fun k => k < N ∧ k ≠ pb.block) w12 w17 := K15.trans (k17.mono fun k _ hk => by omega)
        have E17 : Ext w7 w17 := Keep.ext E7 K17 fun k hk => by omega
        have h17 := (aH12.keep K17 (by omega)).n
        have v17' := (rv12.at_.keep K17 (by omega)).n
        have lx17 := rx12.at_.keep K17 (by omega)
        simp only [AtN, KS, Nat.reduceAdd, Nat.reduceMul, Nat.reduceEqDiff, ↓reduceIte, UT] at h17 v17'
        (repeat with_reducible first | refine js ?_ | refine ja ?_ | refine jw KL21 [20] (aa TF21 (aa hvs.1 (aa hvs.2 (aa d1 (aa d2 h17))))) fun _ => ?_)
        refine Run_condS (fun _ => rfl) (fun h => ?_) (fun h => ?_)
        · simp at h
          have hkh : k < hh := by omega
          have hko : k < x.Offices.length := by omega
          let S : Nat → Prop := fun _ => True
          (repeat with_reducible first | refine jq ?_ | refine jk ?_ | refine jc ?_ | refine jl ?_ | refine jb ?_ | refine jo ?_ | refine ji ?_ | refine jx rfl ?_)
          refine Run_eh S [8] [(0, [8]), (2, [4, 5, 6, 8]), (5, [6, 8])] (id := 20) KL21 (.first 0 (.first 1 (.first 2 (.first 3 (.first 4 (.first 5 (.first 6 (.first 7 (.alt true 8 (.done false) .stop))))))))) mixed (by kernel_rfl) (by kernel_rfl) fun w18 x18 _ => ?_
          have lx18 := (lx17.ext x18).n
          have v18 : AtN w18 pv 0 [.pointer (some pb)] := ((rv12.at_.keep K17 (by omega)).ext x18).n
          obtain ⟨e1, e2, e3⟩ := (hR.o.ext (E17.trans x18)).get hko
          have hob := hxs x.Offices[k] (List.getElem_mem hko)
          have hgd : x.Offices.getD k 0 = x.Offices[k] := by simp [List.getD_eq_getElem?_getD, hko]
          generalize x.Offices[k] = of at *
          simp only [LineD.cs, AtN, KS, Nat.reduceAdd, Nat.reduceMul, Nat.reduceEqDiff, ↓reduceIte, UT] at lx18 v18
          (try simp (maxSteps := 5000000) only [KS, Nat.reduceAdd, Nat.reduceMul, Nat.reduceEqDiff, ↓reduceIte, forall_const, Int.cast_ofNat_Int, Int.reduceToNat, List.take_succ_cons, List.take_zero, List.drop_succ_cons, List.drop_zero, TF21, KL21, eh, gres, qopS, putL, ung, lx18, v18, hR.o.s, hR.o.len, e1, e2]); (try simp (disch := omega) only [wrapI, tmodI, tdivI])
          have s18 := x18.size
          have B18 := B17.ext x18
          rw [show min k hh = k by omega] at B18
          obtain ⟨vb18, rb18, _⟩ := B18.ex
          have v18' := v17.keep (Keep.of_ext (S := fun _ => True) x18) fun _ _ _ => trivial
          have hml : (M ++ Ec.legMs x (Tf.leg f o.Class) run M.length k).length = M.length + k := by rw [List.length_append, Ec.legMs_len]
          have hmI : MoveD.I ⟨((M ++ Ec.legMs x (Tf.leg f o.Class) run M.length k).length : Nat), 2, 3 + of, Tf.leg f o.Class, 2, run⟩ := by
            rw [hml]; unfold I64 at hrI; simp only [MoveD.I, I64]; omega
          refine ⟨trivial, trivial, ⟨by omega, by omega⟩, trivial, Keep.refl _ _, ?_⟩
          refine CallW_gen call47 (bkMove pb run 2 (3 + of) (Tf.leg f o.Class) 2 _ (N + 2) w18 B18 (by omega) (by omega) hmI (by omega)) fun e w19 ⟨he, B19, k19⟩ => ⟨_, he, fun h => h.elim, ?_⟩
          have hE : M ++ Ec.legMs x (Tf.leg f o.Class) run M.length k ++ [⟨((M ++ Ec.legMs x (Tf.leg f o.Class) run M.length k).length : Nat), 2, 3 + of, Tf.leg f o.Class, 2, run⟩] = M ++ Ec.legMs x (Tf.leg f o.Class) run M.length (k + 1) := by
            rw [Ec.legMs_succ, hml, ← List.append_assoc, show Ec.legM x (Tf.leg f o.Class) run M.length k = ⟨(M.length + k : Nat), 2, 3 + of, Tf.leg f o.Class, 2, run⟩ by unfold Ec.legM; rw [hgd]]
          rw [hE] at B19
          have s19 := k19.size
          (repeat with_reducible first | refine js ?_ | refine ja ?_ | refine jw KL21 [20] TF21 fun _ => ?_)
          refine Run_lp ⟨k + 1, ?_, ⟨by omega, by rw [show min (k + 1) hh = k + 1 by omega]; exact B19, (k17.trans (Keep.of_ext x18)).trans (k19.mono fun b _ hb => ⟨hb.2, .inl hb.1⟩), intsKeep v18' rb18 (by decide) k19, by omega⟩, by omega⟩
          rw [leftA_lo f o hkh]
          simp [SubB, fnd, strike, has]
        · simp at h
          have hkh : hh ≤ k := by omega
          (repeat with_reducible first | refine js ?_ | refine ja ?_ | refine jw KL21 [20] TF21 fun _ => ?_)
          refine Run_lp ⟨k + 1, ?_, ⟨by omega, by rw [show min (k + 1) hh = min k hh by omega]; exact B17, k17, v17, s17⟩, by omega⟩
          rw [leftA_hi f o hkh]
          simp [SubB, fnd, strike, has]
      · simp at h
        obtain rfl : k = x.Legs.length := by omega
        have hlast := leftA_bd hfc o hh hnl8
        rw [leftA_end f o hnh] at hlast ⊢
        rw [show min x.Legs.length hh = hh by omega] at B17
        generalize Tf.base f o.Class + x.Legs.length * Tf.leg f o.Class + Tf.extra f o.Crowd - hh * Tf.leg f o.Class = lf at *
        have hml : (M ++ Ec.legMs x (Tf.leg f o.Class) run M.length hh).length = M.length + hh := by rw [List.length_append, Ec.legMs_len]
        have K17 : Keep (fun k => k < N ∧ k ≠ pb.block) w12 w17 := K15.trans (k17.mono fun k _ hk => by omega)
        have h17 := (aH12.keep K17 (by omega)).n
        have v17' := (rv12.at_.keep K17 (by omega)).n
        have lx17 := (rx12.at_.keep K17 (by omega)).n
        simp only [LineD.cs, AtN, KS, Nat.reduceAdd, Nat.reduceMul, Nat.reduceEqDiff, ↓reduceIte, UT] at h17 v17' lx17
        (repeat with_reducible first | refine js ?_ | refine ja ?_ | refine jw KL21 [20] (aa TF21 (aa h17 (aa lx17 (aa hR.l.s hR.l.len)))) fun _ => ?_)
        have hrr' : -9223372036854775808 ≤ run ∧ run ≤ 9223372036854775807 := hrI
        refine Run_condS (fun _ => rfl) (fun h => ?_) (fun h => ?_)
        · simp at h
          have hlM : Ec.lastM x run lf hh i (M.length + hh) = ⟨(M.length + hh : Nat), 2, 1, lf, 3, run⟩ := by unfold Ec.lastM; rw [if_pos (by omega)]
          (repeat with_reducible first | refine js ?_ | refine ja ?_ | refine jw KL21 [20] (aa TF21 v17') fun _ => ?_)
          refine CallW_gen call47 (bkMove pb run 2 1 lf 3 _ (N + 2) w17 B17 (by omega) (by omega) (by rw [hml]; simp only [MoveD.I, I64]; omega) (by omega)) fun e w18 ⟨he, B18, k18⟩ => ⟨_, he, ?_⟩
          (repeat with_reducible first | refine js ?_ | refine ja ?_ | refine jw KL21 [20] TF21 fun _ => ?_)
          have KK : Keep (fun b => b < N + 2 ∧ b ≠ pb.block) w15 w18 := k17.trans (k18.mono fun b _ hb => ⟨hb.2, .inl hb.1⟩)
          refine Run_nil ⟨KK.mono fun b _ hb => by omega, K15.trans (KK.mono fun b _ hb => by omega), ?_⟩
          rw [hsnoc, hlM, ← List.append_assoc]
          rw [hml] at B18
          exact B18
        · simp at h
          have hlM : Ec.lastM x run lf hh i (M.length + hh) = ⟨(M.length + hh : Nat), 2, 51 + i, lf, 4, run⟩ := by unfold Ec.lastM; rw [if_neg (by omega)]
          (repeat with_reducible first | refine js ?_ | refine ja ?_ | refine jw KL21 [20] (aa TF21 v17') fun _ => ?_)
          refine CallW_gen call47 (bkMove pb run 2 (51 + i) lf 4 _ (N + 2) w17 B17 (by omega) (by omega) (by rw [hml]; simp only [MoveD.I, I64]; omega) (by omega)) fun e w18 ⟨he, B18, k18⟩ => ⟨_, he, ?_⟩
          (repeat with_reducible first | refine js ?_ | refine ja ?_ | refine jw KL21 [20] TF21 fun _ => ?_)
          have KK : Keep (fun b => b < N + 2 ∧ b ≠ pb.block) w15 w18 := k17.trans (k18.mono fun b _ hb => ⟨hb.2, .inl hb.1⟩)
          refine Run_nil ⟨KK.mono fun b _ hb => by omega, K15.trans (KK.mono fun b _ hb => by omega), ?_⟩
          rw [hsnoc, hlM, ← List.append_assoc]
          rw [hml] at B18
          exact B18
  · intro w13 ⟨k13, B13⟩ hd
    rw [show (ofItems l gv p run).length = (ofL p run l.length).length by simp [ofItems], List.take_length, ← pays_payL] at B13
    obtain ⟨vb, rb, bb⟩ := B13.ex
    have gv13 := (rv12.at_.keep k13 (by omega)).n
    have gb13 := rb.n
    simp only [AtN, KS, Nat.reduceAdd, Nat.reduceMul, Nat.reduceEqDiff, ↓reduceIte, UT] at gv13 gb13
    (repeat with_reducible first | refine js ?_ | refine ja ?_ | refine jw KL21 [20] (aa TF21 (aa gv13 gb13)) fun _ => ?_)
    refine Run_ret (RetM_one (d := w12.heap.size) hd fun w14 k14 _ => ?_)
    simp only [resV]
    have hml := Ec.pays_len t f l p run hh l.length
    have hml2 : l.length * (hh + 1) ≤ 64 * 9 := Nat.mul_le_mul hn64 (by omega)
    have b14 := bb.keep k14 fun g hg _ => by omega
    refine ⟨vb, rfl, .int .i64 0, rfl, vb, rfl, ?_, b14.sl (by omega), b14.mono (by omega)⟩
    exact Keep.ext (Keep.ext yy12 k13 fun k hk => by omega) k14 fun k hk => by omega
  · intro e w13 he hd
    exact he.elim
end Go.Proofs.YtoadfmgnpmcbfaaGreat
