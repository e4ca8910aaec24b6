import Derived.Test.YtoadfmgnpmcbfaaGreatQnGd
namespace Go.Proofs.YtoadfmgnpmcbfaaGreat
open Go Go.Fk
set_option linter.unusedSimpArgs false
set_option linter.unusedVariables false
set_option maxRecDepth 100000
theorem range_pre {k n : Nat} (h : k ≤ n) : List.range k <+: List.range n := by
  induction n with
  | zero => have : k = 0 := by omega
            subst this; exact List.prefix_refl _
  | succ n ih =>
    by_cases e : k = n + 1
    · subst e; exact List.prefix_refl _
    · rw [List.range_succ]; exact (ih (by omega)).trans (List.prefix_append _ _)
structure ToC (W : World) (px : Addr) (q : PerV) (t : TimeD) (ms : List MoveD) (tv : Value) (Tk : Nat → World → Prop) (Jx : World → Prop) (Kq : Nat → Prop) (B : Nat) : Prop where
  ext : ∀ k w w', Tk k w → Ext w w' → Tk k w'
  row : ∀ k w, Tk k w → Row w px 112 (q.cs t (Ec.eff (ms.take k) 1)) ∧ Ext W w ∧ B ≤ w.heap.size
  new : ∀ b, B ≤ b → Kq b
  call : ∀ dn y w, dn ++ [y] <+: ms → Tk dn.length w → CallW Tryz.prog tv [.agg (⟨0, y.From, y.To, y.Amount, y.Why, y.Run⟩ : MoveD).cs.toArray] w fun v w' => ∃ b, v = .bool b ∧ Keep Kq w w' ∧ if b = true then Tk (dn.length + 1) w' else Jx w'
def PartR (Tk : Nat → World → Prop) (Jx : World → Prop) (Kq : Nat → Prop) (n : Nat) (w : World) (e : Ending) (w' : World) : Prop := ∃ b, e = .returned (.bool b) ∧ Keep Kq w w' ∧ if b = true then Tk n w' else Jx w'
section
variable {W : World} {px : Addr} {q : PerV} {t : TimeD} {f : TariffD} {l : List OrderD} {p : PlanD} {hd : List Int} {ms : List MoveD} {tv : Value} {Tk : Nat → World → Prop} {Jx : World → Prop} {Kq : Nat → Prop} {B : Nat}
theorem auPosts (hp : PerR W q t f l p hd) (hb : W.heap.size ≤ px.block) (ok : Ec.Ok t f l p) (C : ToC W px q t ms tv Tk Jx Kq B) (hpre : Ec.posts t f l p l.length <+: ms) (w : World) (hT : Tk 0 w) :
    Calls Tryz.prog 118 #[.pointer (some px), tv] w (PartR Tk Jx Kq l.length w) := by
  have hG : ∀ k w', Tk k w' → AtN w' px 0 (q.cs t (Ec.eff (ms.take k) 1)) := fun k w' h => (C.row k w' h).1.n
  simp only [PerV.cs, AtN, KS, Nat.reduceAdd, Nat.reduceMul, Nat.reduceEqDiff, ↓reduceIte, UT] at hG
  have hE : ∀ k w', Tk k w' → Ext W w' := fun k w' h => (C.row k w' h).2.1
  have hol := hp.O.len
  have hn64 := ok.o.n
  have hopl := hp.P.o.len
  have g0 := hG 0 w hT
  refine Calls_of_Run (args := [.pointer (some px), tv]) (n := 32) (rs := [.tmp 4]) Tryz.func118 rfl rfl rfl (by simp) ?_
  (repeat with_reducible first | refine js ?_ | refine ja ?_ | refine jw KL118 [4] (aa TF118 (aa g0 (aa hp.O.s hp.O.len))) fun _ => ?_)
  refine Run_loopV [4, 5, 11, 12, 30] (σ := Nat) (fun k => [(11, some (.int .i64 k)), (4, some (.bool false))]) (fun k w' => k ≤ l.length ∧ Tk k w' ∧ Keep Kq w w') (fun k => l.length - k) 0 (by simp [SubB, fnd]) ⟨by omega, hT, Keep.refl _ _⟩ ?_
  rintro k w1 ⟨hk, hT1, k1⟩
  (repeat with_reducible first | refine js ?_ | refine ja ?_ | refine jw KL118 [4] TF118 fun _ => ?_)
  refine Run_condS (fun _ => rfl) (fun h => ?_) (fun h => ?_)
  · simp at h
    have hkl := h
    have hkp : k < p.Of.length := by rw [ok.ol]; exact hkl
    have hgo : p.Of.getD k 0 = p.Of[k] := by simp [List.getD_eq_getElem?_getD, hkp]
    have hdn : Ec.posts t f l p k ++ [Ec.postM t f l p k] <+: ms := by
      rw [← Ec.posts_succ]
      refine List.IsPrefix.trans ?_ hpre
      unfold Ec.posts
      exact List.IsPrefix.map _ (range_pre (by omega))
    have hcall := fun w' h => C.call (Ec.posts t f l p k) _ w' hdn h
    rw [Ec.posts_len] at hcall
    have hpm : Ec.postM t f l p k = (⟨(k : Int), 51 + k, 2, Ec.priceP t f l p k, 1, p.Of[k]⟩ : MoveD) := by unfold Ec.postM; rw [hgo]
    rw [hpm] at hcall
    (repeat with_reducible first | refine jq ?_ | refine jk ?_ | refine jc ?_ | refine jl ?_ | refine jb ?_ | refine jo ?_ | refine ji ?_ | refine jx rfl ?_)
    refine Run_regionV KL118 (by kernel_rfl) fun _ => ?_
    (try simp (maxSteps := 5000000) only [KS, Nat.reduceAdd, Nat.reduceMul, Nat.reduceEqDiff, ↓reduceIte, forall_const, Int.cast_ofNat_Int, Int.reduceToNat, List.take_succ_cons, List.take_zero, List.drop_succ_cons, List.drop_zero, TF118, KL118]); (try simp (disch := omega) only [wrapI, tmodI, tdivI])
    let S : Nat → Prop := fun _ => True
    (repeat with_reducible first | refine jq ?_ | refine jk ?_ | refine jc ?_ | refine jl ?_ | refine jb ?_ | refine jo ?_ | refine ji ?_ | refine jx rfl ?_)
    refine Run_eh S [15] [(10, [12, 13, 14, 15]), (13, [14, 15])] (id := 4) KL118 (.first 0 (.first 1 (.first 2 (.first 3 (.first 4 (.first 6 (.first 7 (.first 8 (.first 9 (.first 10 (.first 11 (.first 12 (.first 13 (.alt true 5 (.first 14 (.alt true 15 (.free (.first 16 .done)) .stop)) .stop)))))))))))))) mixed (by kernel_rfl) (by kernel_rfl) fun w2 x2 _ => ?_
    have T2 := C.ext k _ _ hT1 x2
    have E2 := hE k w2 T2
    have g2 := hG k w2 T2
    obtain ⟨d1, d2, -⟩ := (hp.P.o.ext E2).get hkp
    (try simp (maxSteps := 5000000) only [KS, Nat.reduceAdd, Nat.reduceMul, Nat.reduceEqDiff, ↓reduceIte, forall_const, Int.cast_ofNat_Int, Int.reduceToNat, List.take_succ_cons, List.take_zero, List.drop_succ_cons, List.drop_zero, TF118, KL118, eh, gres, qopS, putL, ung, g2, hp.P.o.s, hp.P.o.len, d1, d2]); (try simp (disch := omega) only [wrapI, tmodI, tdivI])
    refine ⟨trivial, by omega, trivial, Keep.refl _ _, auPriceW (C.row _ _ T2).1 hp E2 hb ok hkl fun w3 x3 => ?_⟩
    refine ⟨.agg (⟨0, 51 + k, 2, Ec.priceP t f l p k, 1, p.Of[k]⟩ : MoveD).cs.toArray, fun _ => by kernel_rfl, Keep.of_ext x3, ?_⟩
    refine (hcall w3 (C.ext k _ _ T2 x3)).mono fun v w4 ⟨b, hb', k4, hj⟩ => ?_
    subst hb'
    refine ⟨rfl, ?_⟩
    have K4 : Keep Kq w w4 := k1.trans ((Keep.of_ext (x2.trans x3)).trans k4)
    simp only [bOf_mk]
    cases b with
    | true =>
      refine Run_condS (fun _ => rfl) (fun h => by cases h) (fun _ => ?_)
      (repeat with_reducible first | refine js ?_ | refine ja ?_ | refine jw KL118 [4] TF118 fun _ => ?_)
      refine Run_lp ⟨k + 1, ?_, ⟨by omega, hj, K4⟩, by omega⟩
      simp [SubB, fnd, strike, has]
    | false =>
      refine Run_condS (fun _ => rfl) (fun _ => ?_) (fun h => by cases h)
      (repeat with_reducible first | refine js ?_ | refine ja ?_ | refine jw KL118 [4] TF118 fun _ => ?_)
      refine Run_ret ?_
      simp only [Rets, RetM, resV, fnd, oneOr, ↓reduceIte]
      exact ⟨_, rfl, false, rfl, K4, hj⟩
  · simp at h
    obtain rfl : k = l.length := by omega
    (repeat with_reducible first | refine js ?_ | refine ja ?_ | refine jw KL118 [4] TF118 fun _ => ?_)
    refine Run_ret ?_
    simp only [Rets, RetM, resV, fnd, oneOr, ↓reduceIte]
    exact ⟨_, rfl, true, rfl, k1, hT1⟩
theorem pays_pre (t : TimeD) (f : TariffD) (l : List OrderD) (p : PlanD) (r : Int) (n : Nat) {k m : Nat} (h : k ≤ m) : Ec.pays t f l p r n k <+: Ec.pays t f l p r n m := by
  induction m with
  | zero => have : k = 0 := by omega
            subst this; exact List.prefix_refl _
  | succ m ih =>
    by_cases e : k = m + 1
    · subst e; exact List.prefix_refl _
    · exact (ih (by omega)).trans (List.prefix_append _ _)
set_option maxHeartbeats 2000000 in
theorem auLegs (hp : PerR W q t f l p hd) (hb : W.heap.size ≤ px.block) (hok : Au.Ok t f l p hd) (C : ToC W px q t ms tv Tk Jx Kq B) (hpre : Ec.posts t f l p l.length ++ Au.cat (Au.runPays t f l p hd) p.Runs.length <+: ms) (w : World) (hT : Tk l.length w) :
    Calls Tryz.prog 119 #[.pointer (some px), tv] w (PartR Tk Jx Kq (Ec.posts t f l p l.length ++ Au.cat (Au.runPays t f l p hd) p.Runs.length).length w) := by
  have ok := hok.e
  have hG : ∀ k w', Tk k w' → AtN w' px 0 (q.cs t (Ec.eff (ms.take k) 1)) := fun k w' h => (C.row k w' h).1.n
  simp only [PerV.cs, AtN, KS, Nat.reduceAdd, Nat.reduceMul, Nat.reduceEqDiff, ↓reduceIte, UT] at hG
  have hE : ∀ k w', Tk k w' → Ext W w' := fun k w' h => (C.row k w' h).2.1
  have hol := hp.O.len
  have hn64 := ok.o.n
  have hopl := hp.P.o.len
  have hrl := hp.P.r.len
  have hrs := hp.P.r.small
  have hhl := hp.H.len
  have hhd := hok.hl
  obtain ⟨CP, hCP⟩ : ∃ CP : Nat → List MoveD, ∀ r, CP r = Ec.posts t f l p l.length ++ Au.cat (Au.runPays t f l p hd) r := ⟨_, fun _ => rfl⟩
  have hCP0 : (CP 0).length = l.length := by simp [hCP, Au.cat, Ec.posts_len]
  have hCpre : ∀ r, r ≤ p.Runs.length → CP r <+: ms := fun r hr => by
    refine List.IsPrefix.trans ?_ hpre
    rw [hCP]
    exact List.prefix_append_right_inj _ |>.2 (Au.cat_pre _ hr)
  rw [← hCP]
  rw [← hCP0] at hT
  have g0 := hG _ w hT
  refine Calls_of_Run (args := [.pointer (some px), tv]) (n := 96) (rs := [.tmp 4]) Tryz.func119 rfl rfl rfl (by simp) ?_
  (repeat with_reducible first | refine js ?_ | refine ja ?_ | refine jw KL119 [9] (aa TF119 (aa g0 (aa hp.H.s hp.H.len))) fun _ => ?_)
  refine Run_loopV [4, 5, 6, 7, 8, 9, 10, 11, 12, 18, 19, 29, 30, 31, 32, 45, 55, 56, 57, 70, 87, 93] (σ := Nat) (fun r => [(18, some (.int .i64 r)), (4, some (.bool false))]) (fun r w' => r ≤ p.Runs.length ∧ Tk (CP r).length w' ∧ Keep Kq w w') (fun r => p.Runs.length - r) 0 (by simp [SubB, fnd]) ⟨by omega, hT, Keep.refl _ _⟩ ?_
  clear g0
  rintro r w1 ⟨hr, hT1, k1⟩
  (repeat with_reducible first | refine js ?_ | refine ja ?_ | refine jw KL119 [9] TF119 fun _ => ?_)
  refine Run_condS (fun _ => rfl) (fun h => ?_) (fun h => ?_)
  · simp at h
    have hrN : r < p.Runs.length := by omega
    obtain ⟨hhk, hhe⟩ := hok.h r hrN
    have hhg : hd.getD r 0 = hd[r]'(by omega) := by simp [List.getD_eq_getElem?_getD, show r < hd.length by omega]
    rw [hhg] at hhe
    obtain ⟨_, _, _, _, hlo⟩ := line_at ok (q := (r : Int)) (by omega) (by omega)
    have ox9 := hlo.o9
    have oxl := hlo.l1
    have hoff := (Tt.chk_ok ok.o.t).o
    have hxs := hlo.s
    obtain ⟨l0, l1, l2, l3, hC⟩ := lineC hp.L ok (q := (r : Int)) (by omega) (by omega)
    have hRR := hC.l
    have hrll := hRR.l.len
    have hone := hRR.one
    have hCPs : CP (r + 1) = CP r ++ Ec.pays t f l p r (Au.hn hd r) l.length := by simp only [hCP, Au.cat, List.append_assoc]; rfl
    have hCpr := hCpre (r + 1) (by omega)
    rw [hCPs] at hCpr
    have hsub : ∀ i, Ec.pays t f l p r (Au.hn hd r) (i + 1) = Ec.pays t f l p r (Au.hn hd r) i ++ if p.Of.getD i 0 = r then Ec.payO t f l p r (Au.hn hd r) i (Ec.pays t f l p r (Au.hn hd r) i).length else [] := fun i => rfl
    have hpo : ∀ i no, Ec.payO t f l p r (Au.hn hd r) i no = Ec.legMs (Ec.lineP t p r) (Tf.leg f (l.getD i default).Class) r no (Au.hn hd r) ++ [Ec.lastM (Ec.lineP t p r) r (Ec.priceP t f l p i - Au.hn hd r * Tf.leg f (l.getD i default).Class) (Au.hn hd r) i (no + Au.hn hd r)] := fun i no => rfl
    have hppre : ∀ i, i ≤ l.length → CP r ++ Ec.pays t f l p r (Au.hn hd r) i <+: ms := fun i hi => List.IsPrefix.trans (List.prefix_append_right_inj _ |>.2 (pays_pre t f l p r _ hi)) hCpr
    have hlq := fun w' k (h : Tk k w') (K : Value → World → Prop) hK => auLineW (K := K) (C.row k w' h).1 hp (hE k w' h) hb hC hK
    generalize hxx : Ec.lineP t p (r : Int) = x at *
    generalize hhn : Au.hn hd r = n at *
    obtain ⟨d1, d2, -⟩ := (hp.H.ext (hE _ _ hT1)).get (show r < hd.length by omega)
    rw [← hhe] at d1
    simp only [LineD.cs] at hone
    (repeat with_reducible first | refine js ?_ | refine ja ?_ | refine jw KL119 [9] (aa TF119 (aa hp.H.s (aa hp.H.len (aa d1 d2)))) fun _ => ?_)
    refine hlq w1 _ hT1 _ fun w2 x2 => ?_
    refine SemW_allocT ti52 fun pz w3 h3 => ?_
    have b3 := h3.blk
    refine SemW_setW (by rw [cells52]; decide) (by rw [cells52]; rfl) h3.row (by rw [cells52]; rfl) (by simpa [Value.cells] using hone) fun w4 r4 k4 z4 => ?_
    have r4 : Row w4 pz 52 (x.cs l0 l1 l2 l3) := by simpa [Value.cells, LineD.cs] using r4
    have x4 : Ext w1 w4 := Keep.ext (x2.trans h3.ext) k4 fun q hq => by have := x2.size; omega
    have T4 := C.ext _ _ _ hT1 x4
    have K4 : Keep Kq w w4 := k1.trans (Keep.of_ext x4)
    have hKz : Kq pz.block := C.new _ (by have := (C.row _ _ (C.ext _ _ _ hT1 x2)).2.2; omega)
    have g4 := hG _ w4 T4
    clear d1 d2
    (repeat with_reducible first | refine js ?_ | refine ja ?_ | refine jw KL119 [9] (aa TF119 (aa g4 (aa hp.O.s hp.O.len))) fun _ => ?_)
    refine Run_loopV [4, 8, 9, 10, 11, 12, 31, 32, 45, 55, 56, 57, 70, 87, 93] (σ := Nat) (fun i => [(31, some (.int .i64 i)), (4, some (.bool false))]) (fun i w' => i ≤ l.length ∧ Tk (CP r ++ Ec.pays t f l p r n i).length w' ∧ Row w' pz 52 (x.cs l0 l1 l2 l3) ∧ Keep Kq w w') (fun i => l.length - i) 0 (by simp [SubB, fnd]) ⟨by omega, by simpa [Ec.pays] using T4, r4, K4⟩ ?_
    clear g4
    rintro i w5 ⟨hi, T5, r5, k5⟩
    (repeat with_reducible first | refine js ?_ | refine ja ?_ | refine jw KL119 [9] TF119 fun _ => ?_)
    refine Run_condS (fun _ => rfl) (fun h => ?_) (fun h => ?_)
    · simp at h
      have hil := h
      have hip : i < p.Of.length := by rw [ok.ol]; exact hil
      have hgo : p.Of.getD i 0 = p.Of[i] := by simp [List.getD_eq_getElem?_getD, hip]
      have hgl : l.getD i default = l[i] := by simp [List.getD_eq_getElem?_getD, hil]
      have hsi := hsub i
      have hpi := hpo i (Ec.pays t f l p r n i).length
      have hps := hppre (i + 1) (by omega)
      have E5 := hE _ _ T5
      obtain ⟨g, _, gAt, hO⟩ := hp.O.ord hil
      have hone2 := hO.one
      have o5 := (gAt.ext E5).n
      simp only [OrderD.cs, AtN, KS, Nat.reduceAdd, Nat.reduceMul, Nat.reduceEqDiff, ↓reduceIte, UT] at o5
      simp only [OrderD.cs] at hone2
      (repeat with_reducible first | refine js ?_ | refine ja ?_ | refine jw KL119 [9] (aa TF119 (aa hp.O.s (aa hp.O.len o5))) fun _ => ?_)
      refine SemW_allocT ti58 fun pe w6 h6 => ?_
      have b6 := h6.blk
      (repeat with_reducible first | refine js ?_ | refine ja ?_ | refine jw KL119 [9] TF119 fun _ => ?_)
      refine SemW_setW (by rw [cells58]; decide) (by rw [cells58]; rfl) h6.row (by rw [cells58]; rfl) (by simpa [Value.cells] using hone2) fun w7 r7 k7 z7 => ?_
      have r7 : Row w7 pe 58 (l[i].cs g) := by simpa [Value.cells, OrderD.cs] using r7
      have x7 : Ext w5 w7 := Keep.ext h6.ext k7 fun q hq => by omega
      have T7 := C.ext _ _ _ T5 x7
      have K7 : Keep Kq w w7 := k5.trans (Keep.of_ext x7)
      have E7 := hE _ _ T7
      have rz7 := r5.ext x7
      have g7 := hG _ w7 T7
      obtain ⟨d1, d2, -⟩ := (hp.P.o.ext E7).get hip
      (repeat with_reducible first | refine js ?_ | refine ja ?_ | refine jw KL119 [9] (aa TF119 (aa g7 (aa hp.P.o.s (aa hp.P.o.len (aa d1 d2))))) fun _ => ?_)
      refine Run_condS (fun _ => rfl) (fun h => ?_) (fun h => ?_)
      · simp at h
        rw [hgo, if_neg h, List.append_nil] at hsi
        (repeat with_reducible first | refine js ?_ | refine ja ?_ | refine jw KL119 [9] TF119 fun _ => ?_)
        refine Run_lp ⟨i + 1, ?_, ⟨by omega, by rw [hsi]; exact T7, rz7, K7⟩, by omega⟩
        simp [SubB, fnd, strike, has]
      simp at h
      rw [hgo, if_pos h, hpi, hgl] at hsi
      obtain ⟨_, _, _, hpr, hcl, _⟩ := Ec.price_eq ok hil
      rw [hgl] at hcl hpr
      rw [hgo, h, hxx] at hpr
      have hfl := (Tf.chk_ok ok.o.f).n
      have hlg : Tf.leg f l[i].Class = f.Leg[l[i].Class.toNat]'(by omega) := by
        unfold Tf.leg; rw [List.getD_eq_getElem?_getD, List.getElem?_eq_getElem (by omega)]; rfl
      have hcx : l[i].Class.toNat < f.Leg.length := by omega
      have hlb := Tf.leg_bd ok.o.f l[i].Class
      have hpb := Ec.price_bd t f l p i
      have hnl := hp.T.l.len
      obtain ⟨m1, m2, -⟩ := (hp.T.l.ext E7).get hcx
      rw [← hlg] at m1
      have oe := r7.n
      simp only [OrderD.cs, AtN, KS, Nat.reduceAdd, Nat.reduceMul, Nat.reduceEqDiff, ↓reduceIte, UT] at oe
      have hsa : ∀ k, Ec.legMs x (Tf.leg f l[i].Class) r (Ec.pays t f l p r n i).length (k + 1) = Ec.legMs x (Tf.leg f l[i].Class) r (Ec.pays t f l p r n i).length k ++ [Ec.legM x (Tf.leg f l[i].Class) r (Ec.pays t f l p r n i).length k] := fun k => Ec.legMs_succ ..
      have hle := fun k => Ec.legMs_len x (Tf.leg f l[i].Class) r (Ec.pays t f l p r n i).length k
      have hmul : (n : Int) * Tf.leg f l[i].Class ≤ 8 * 1048576 := Int.mul_le_mul (by omega) hlb.2 hlb.1 (by omega)
      have hmul0 : 0 ≤ (n : Int) * Tf.leg f l[i].Class := Int.mul_nonneg (by omega) hlb.1
      rw [hsi] at hps
      have hlpre : ∀ k, k ≤ n → Ec.legMs x (Tf.leg f l[i].Class) r (Ec.pays t f l p r n i).length k <+: Ec.legMs x (Tf.leg f l[i].Class) r (Ec.pays t f l p r n i).length n := fun k hk => List.IsPrefix.map _ (range_pre hk)
      generalize hPP : Ec.pays t f l p r n i = PP at *
      generalize hpr' : Ec.priceP t f l p i = pri at *
      (repeat with_reducible first | refine js ?_ | refine ja ?_ | refine jw KL119 [9] (aa TF119 (aa g7 (aa oe (aa hp.T.l.s (aa hnl (aa m1 m2)))))) fun _ => ?_)
      intro w8 x8
      have T8 := C.ext _ _ _ T7 x8
      (repeat with_reducible first | refine js ?_ | refine ja ?_ | refine jw KL119 [9] TF119 fun _ => ?_)
      refine Run_loopV [4, 11, 56, 57, 70] (σ := Nat) (fun k => [(56, some (.int .i64 k)), (4, some (.bool false))]) (fun k w' => k ≤ n ∧ Tk (CP r ++ (PP ++ Ec.legMs x (Tf.leg f l[i].Class) r PP.length k)).length w' ∧ Row w' pz 52 (x.cs l0 l1 l2 l3) ∧ Keep Kq w w') (fun k => n - k) 0 (by simp [SubB, fnd]) ⟨by omega, by simpa [Ec.legMs] using T8, rz7.ext x8, K7.trans (Keep.of_ext x8)⟩ ?_
      clear g7 oe m1 m2 d1 d2 o5 T8 x8 rz7 T7 r7 K7 r5 T5 k5
      rintro k w9 ⟨hk, T9, r9, k9⟩
      (repeat with_reducible first | refine js ?_ | refine ja ?_ | refine jw KL119 [9] TF119 fun _ => ?_)
      refine Run_condS (fun _ => rfl) (fun h => ?_) (fun h => ?_)
      · simp at h
        have hkn := h
        have E9 := hE _ _ T9
        have hof := hxs (x.Offices[k]'(by omega)) (List.getElem_mem _)
        have hgd : x.Offices.getD k 0 = x.Offices[k]'(by omega) := by simp [List.getD_eq_getElem?_getD, show k < x.Offices.length by omega]
        have hlM : Ec.legM x (Tf.leg f l[i].Class) r PP.length k = (⟨(PP.length + k : Nat), 2, 3 + x.Offices[k]'(by omega), Tf.leg f l[i].Class, 2, r⟩ : MoveD) := by unfold Ec.legM; rw [hgd]
        obtain ⟨o1, o2, -⟩ := ((hRR.o.ext E9)).get (show k < x.Offices.length by omega)
        have lz := r9.n
        simp only [LineD.cs, AtN, KS, Nat.reduceAdd, Nat.reduceMul, Nat.reduceEqDiff, ↓reduceIte, UT] at lz
        have hnx : CP r ++ (PP ++ Ec.legMs x (Tf.leg f l[i].Class) r PP.length k) ++ [Ec.legM x (Tf.leg f l[i].Class) r PP.length k] <+: ms := by
          have e : CP r ++ (PP ++ Ec.legMs x (Tf.leg f l[i].Class) r PP.length k) ++ [Ec.legM x (Tf.leg f l[i].Class) r PP.length k] = CP r ++ (PP ++ Ec.legMs x (Tf.leg f l[i].Class) r PP.length (k + 1)) := by rw [hsa]; simp only [List.append_assoc]
          rw [e]
          refine List.IsPrefix.trans ?_ hps
          exact List.prefix_append_right_inj _ |>.2 (List.prefix_append_right_inj _ |>.2 ((hlpre (k + 1) (by omega)).trans (List.prefix_append _ _)))
        have hcall := C.call _ _ w9 hnx T9
        rw [hlM] at hcall
        have hls := hsa k
        (repeat with_reducible first | refine js ?_ | refine ja ?_ | refine jw KL119 [9] (aa TF119 (aa lz (aa hRR.o.s (aa hRR.o.len (aa o1 o2))))) fun _ => ?_)
        generalize x.Offices[k]'(by omega) = off at *
        refine ⟨.agg (⟨0, 2, 3 + off, Tf.leg f l[i].Class, 2, r⟩ : MoveD).cs.toArray, fun _ => by kernel_rfl, ?_⟩
        refine hcall.mono fun v w10 ⟨b, hb', k10, hj⟩ => ?_
        subst hb'
        refine ⟨rfl, ?_⟩
        have K10 : Keep Kq w w10 := k9.trans k10
        have r10 := r9.keep k10 hKz
        simp only [bOf_mk]
        cases b with
        | true =>
          refine Run_condS (fun _ => rfl) (fun h => by cases h) (fun _ => ?_)
          (repeat with_reducible first | refine js ?_ | refine ja ?_ | refine jw KL119 [9] TF119 fun _ => ?_)
          refine Run_lp ⟨k + 1, ?_, ⟨by omega, ?_, r10, K10⟩, by omega⟩
          · simp [SubB, fnd, strike, has]
          · rw [hls]
            simpa only [List.length_append, List.length_cons, List.length_nil, Nat.zero_add, Nat.add_assoc, if_true] using hj
        | false =>
          refine Run_condS (fun _ => rfl) (fun _ => ?_) (fun h => by cases h)
          (repeat with_reducible first | refine js ?_ | refine ja ?_ | refine jw KL119 [9] TF119 fun _ => ?_)
          refine Run_ret ?_
          simp only [Rets, RetM, resV, fnd, oneOr, ↓reduceIte]
          exact ⟨_, rfl, false, rfl, K10, hj⟩
      · simp at h
        obtain rfl : k = n := by omega
        have E9 := hE _ _ T9
        have hlek := hle k
        have hleft : 0 ≤ pri - k * Tf.leg f l[i].Class ∧ pri - k * Tf.leg f l[i].Class ≤ 10485760 := by
          have h1 := Tf.base_bd ok.o.f l[i].Class
          have h2 := Tf.extra_bd ok.o.f l[i].Crowd
          have h3 : (k : Int) * Tf.leg f l[i].Class ≤ x.Legs.length * Tf.leg f l[i].Class := Int.mul_le_mul_of_nonneg_right (by omega) hlb.1
          generalize (x.Legs.length : Int) * Tf.leg f l[i].Class = z at *
          omega
        have hnx : CP r ++ (PP ++ Ec.legMs x (Tf.leg f l[i].Class) r PP.length k) ++ [Ec.lastM x r (pri - k * Tf.leg f l[i].Class) k i (PP.length + k)] <+: ms := by
          refine List.IsPrefix.trans ?_ hps
          simp only [List.append_assoc]
          exact List.prefix_refl _
        have hcall := fun w' h => C.call _ _ w' hnx h
        have hprw := fun w' k (h : Tk k w') (K : Value → World → Prop) hK => auPriceW (K := K) (C.row k w' h).1 hp (hE k w' h) hb ok hil hK
        rw [hpr'] at hprw
        generalize hLM : Ec.legMs x (Tf.leg f l[i].Class) r PP.length k = LM at *
        generalize hkz : (k : Int) * Tf.leg f l[i].Class = z at *
        (repeat with_reducible first | refine js ?_ | refine ja ?_ | refine jw KL119 [9] TF119 fun _ => ?_)
        refine hprw w9 _ T9 _ fun w10 x10 => ?_
        (repeat with_reducible first | refine js ?_ | refine ja ?_ | refine jw KL119 [9] (aa TF119 hkz) fun _ => ?_)
        refine ⟨.agg (⟨0, 2, 51 + i, pri - z, 4, r⟩ : MoveD).cs.toArray, fun _ => by kernel_rfl, ?_⟩
        refine SemW_allocT ti70 fun pm w11 h11 => ?_
        have b11 := h11.blk
        refine SemW_setW (by rw [cells70]; decide) (by rw [cells70]; rfl) h11.row (by rw [cells70]; rfl) rfl fun w12 r12 k12 z12 => ?_
        have r12 : Row w12 pm 70 (⟨0, 2, 51 + i, pri - z, 4, r⟩ : MoveD).cs := r12
        have x12 : Ext w9 w12 := Keep.ext (x10.trans h11.ext) k12 fun q hq => by have := x10.size; omega
        have T12 := C.ext _ _ _ T9 x12
        have rz12 := r9.ext x12
        have K12 : Keep Kq w w12 := k9.trans (Keep.of_ext x12)
        have lz := rz12.n
        simp only [LineD.cs, AtN, KS, Nat.reduceAdd, Nat.reduceMul, Nat.reduceEqDiff, ↓reduceIte, UT] at lz
        (repeat with_reducible first | refine js ?_ | refine ja ?_ | refine jw KL119 [9] (aa TF119 (aa lz (aa hRR.l.s hRR.l.len))) fun _ => ?_)
        have hfin : ∀ w13, Tk (CP r ++ (PP ++ LM)).length w13 → Row w13 pz 52 (x.cs l0 l1 l2 l3) → Keep Kq w w13 → ∀ b w14, Keep Kq w13 w14 → (if b = true then Tk ((CP r ++ (PP ++ LM)).length + 1) w14 else Jx w14) → Keep Kq w w14 ∧ (b = true → Tk (CP r ++ Ec.pays t f l p (↑r) k (i + 1)).length w14 ∧ Row w14 pz 52 (x.cs l0 l1 l2 l3)) ∧ (b = false → Jx w14) := fun w13 hT13 hr13 hk13 b w14 hk14 hj => by
          refine ⟨hk13.trans hk14, fun e => ?_, fun e => ?_⟩
          · rw [if_pos e] at hj
            refine ⟨?_, hr13.keep hk14 hKz⟩
            rw [hsi]
            simpa only [List.length_append, List.length_cons, List.length_nil, Nat.zero_add, Nat.add_assoc] using hj
          · rw [e] at hj; simpa using hj
        refine Run_condS (fun _ => rfl) (fun h => ?_) (fun h => ?_)
        · simp at h
          have hlast : Ec.lastM x r (pri - z) k i (PP.length + k) = (⟨(PP.length + k : Nat), 2, 1, pri - z, 3, r⟩ : MoveD) := by unfold Ec.lastM; rw [if_pos (by omega)]
          rw [hlast] at hcall
          (repeat with_reducible first | refine js ?_ | refine ja ?_ | refine jw KL119 [9] TF119 fun _ => ?_)
          refine SemW_setAt (i := 2) (by rw [cells3]) r12 (by simp [MoveD.cs]) rfl rfl fun w13 r13 k13 z13 => ?_
          refine SemW_setAt (i := 4) (by rw [cells3]) r13 (by simp [MoveD.cs]) rfl rfl fun w14 r14 k14 z14 => ?_
          have r14 : Row w14 pm 70 (⟨0, 2, 1, pri - z, 3, r⟩ : MoveD).cs := r14
          have s10 := x10.size
          have x14 : Ext w9 w14 := Keep.ext (Keep.ext x12 k13 fun q hq => by omega) k14 fun q hq => by omega
          have T14 := C.ext _ _ _ T9 x14
          have rz14 := r9.ext x14
          have K14 : Keep Kq w w14 := k9.trans (Keep.of_ext x14)
          have m14 := r14.n
          simp only [MoveD.cs, AtN, KS, Nat.reduceAdd, Nat.reduceMul, Nat.reduceEqDiff, ↓reduceIte, UT] at m14
          (repeat with_reducible first | refine js ?_ | refine ja ?_ | refine jw KL119 [9] (aa TF119 m14) fun _ => ?_)
          refine (hcall w14 T14).mono fun v w16 ⟨b, hb', k16, hj⟩ => ?_
          subst hb'
          refine ⟨rfl, ?_⟩
          obtain ⟨f1, f2, f3⟩ := hfin w14 T14 rz14 K14 b w16 k16 hj
          simp only [bOf_mk]
          cases b with
          | true =>
            refine Run_condS (fun _ => rfl) (fun h => by cases h) (fun _ => ?_)
            (repeat with_reducible first | refine js ?_ | refine ja ?_ | refine jw KL119 [9] TF119 fun _ => ?_)
            refine Run_lp ⟨i + 1, ?_, ⟨by omega, (f2 rfl).1, (f2 rfl).2, f1⟩, by omega⟩
            simp [SubB, fnd, strike, has]
          | false =>
            refine Run_condS (fun _ => rfl) (fun _ => ?_) (fun h => by cases h)
            (repeat with_reducible first | refine js ?_ | refine ja ?_ | refine jw KL119 [9] TF119 fun _ => ?_)
            refine Run_ret ?_
            simp only [Rets, RetM, resV, fnd, oneOr, ↓reduceIte]
            exact ⟨_, rfl, false, rfl, f1, f3 rfl⟩
        · simp at h
          have hlast : Ec.lastM x r (pri - z) k i (PP.length + k) = (⟨(PP.length + k : Nat), 2, 51 + i, pri - z, 4, r⟩ : MoveD) := by unfold Ec.lastM; rw [if_neg (by omega)]
          rw [hlast] at hcall
          have m12 := r12.n
          simp only [MoveD.cs, AtN, KS, Nat.reduceAdd, Nat.reduceMul, Nat.reduceEqDiff, ↓reduceIte, UT] at m12
          (repeat with_reducible first | refine js ?_ | refine ja ?_ | refine jw KL119 [9] (aa TF119 m12) fun _ => ?_)
          refine (hcall w12 T12).mono fun v w16 ⟨b, hb', k16, hj⟩ => ?_
          subst hb'
          refine ⟨rfl, ?_⟩
          obtain ⟨f1, f2, f3⟩ := hfin w12 T12 rz12 K12 b w16 k16 hj
          simp only [bOf_mk]
          cases b with
          | true =>
            refine Run_condS (fun _ => rfl) (fun h => by cases h) (fun _ => ?_)
            (repeat with_reducible first | refine js ?_ | refine ja ?_ | refine jw KL119 [9] TF119 fun _ => ?_)
            refine Run_lp ⟨i + 1, ?_, ⟨by omega, (f2 rfl).1, (f2 rfl).2, f1⟩, by omega⟩
            simp [SubB, fnd, strike, has]
          | false =>
            refine Run_condS (fun _ => rfl) (fun _ => ?_) (fun h => by cases h)
            (repeat with_reducible first | refine js ?_ | refine ja ?_ | refine jw KL119 [9] TF119 fun _ => ?_)
            refine Run_ret ?_
            simp only [Rets, RetM, resV, fnd, oneOr, ↓reduceIte]
            exact ⟨_, rfl, false, rfl, f1, f3 rfl⟩
    · simp at h
      obtain rfl : i = l.length := by omega
      rw [← hCPs] at T5
      (repeat with_reducible first | refine js ?_ | refine ja ?_ | refine jw KL119 [9] TF119 fun _ => ?_)
      refine Run_lp ⟨r + 1, ?_, ⟨by omega, T5, k5⟩, by omega⟩
      simp [SubB, fnd, strike, has]
  · simp at h
    obtain rfl : r = p.Runs.length := by omega
    (repeat with_reducible first | refine js ?_ | refine ja ?_ | refine jw KL119 [9] TF119 fun _ => ?_)
    refine Run_ret ?_
    simp only [Rets, RetM, resV, fnd, oneOr, ↓reduceIte]
    exact ⟨_, rfl, true, rfl, k1, hT1⟩
set_option maxHeartbeats 2000000 in
theorem auCovers (hp : PerR W q t f l p hd) (hb : W.heap.size ≤ px.block) (hok : Au.Ok t f l p hd) (PA : List MoveD) (C : ToC W px q t ms tv Tk Jx Kq B) (hpre : PA ++ Au.cat (Au.runCovs t f p hd) p.Runs.length <+: ms) (w : World) (hT : Tk PA.length w) :
    Calls Tryz.prog 120 #[.pointer (some px), tv] w (PartR Tk Jx Kq (PA ++ Au.cat (Au.runCovs t f p hd) p.Runs.length).length w) := by
  have ok := hok.e
  have hG : ∀ k w', Tk k w' → AtN w' px 0 (q.cs t (Ec.eff (ms.take k) 1)) := fun k w' h => (C.row k w' h).1.n
  simp only [PerV.cs, AtN, KS, Nat.reduceAdd, Nat.reduceMul, Nat.reduceEqDiff, ↓reduceIte, UT] at hG
  have hE : ∀ k w', Tk k w' → Ext W w' := fun k w' h => (C.row k w' h).2.1
  have hrl := hp.P.r.len
  have hrs := hp.P.r.small
  have hhl := hp.H.len
  have hhd := hok.hl
  have hfk := Tf.chk_ok ok.o.f
  have hcvl := hp.P.c.len
  obtain ⟨CP, hCP⟩ : ∃ CP : Nat → List MoveD, ∀ r, CP r = PA ++ Au.cat (Au.runCovs t f p hd) r := ⟨_, fun _ => rfl⟩
  have hCP0 : (CP 0).length = PA.length := by simp [hCP, Au.cat]
  have hCpre : ∀ r, r ≤ p.Runs.length → CP r <+: ms := fun r hr => by
    refine List.IsPrefix.trans ?_ hpre
    rw [hCP]
    exact List.prefix_append_right_inj _ |>.2 (Au.cat_pre _ hr)
  rw [← hCP]
  rw [← hCP0] at hT
  have g0 := hG _ w hT
  refine Calls_of_Run (args := [.pointer (some px), tv]) (n := 73) (rs := [.tmp 4]) Tryz.func120 rfl rfl rfl (by simp) ?_
  (repeat with_reducible first | refine js ?_ | refine ja ?_ | refine jw KL120 [15] (aa TF120 (aa g0 (aa hp.H.s hp.H.len))) fun _ => ?_)
  refine Run_loopV [4, 5, 6, 7, 8, 9, 10, 11, 17, 18, 29, 30, 31, 32, 41, 46, 47, 48, 70] (σ := Nat) (fun r => [(17, some (.int .i64 r)), (4, some (.bool false))]) (fun r w' => r ≤ p.Runs.length ∧ Tk (CP r).length w' ∧ Keep Kq w w') (fun r => p.Runs.length - r) 0 (by simp [SubB, fnd]) ⟨by omega, hT, Keep.refl _ _⟩ ?_
  clear g0
  rintro r w1 ⟨hr, hT1, k1⟩
  (repeat with_reducible first | refine js ?_ | refine ja ?_ | refine jw KL120 [15] TF120 fun _ => ?_)
  refine Run_condS (fun _ => rfl) (fun h => ?_) (fun h => ?_)
  · simp at h
    have hrN : r < p.Runs.length := by omega
    obtain ⟨hhk, hhe⟩ := hok.h r hrN
    have hhg : hd.getD r 0 = hd[r]'(by omega) := by simp [List.getD_eq_getElem?_getD, show r < hd.length by omega]
    rw [hhg] at hhe
    obtain ⟨_, _, _, _, hlo⟩ := line_at ok (q := (r : Int)) (by omega) (by omega)
    have ox9 := hlo.o9
    have oxl := hlo.l1
    have hoff := (Tt.chk_ok ok.o.t).o
    have hxs := hlo.s
    obtain ⟨l0, l1, l2, l3, hC⟩ := lineC hp.L ok (q := (r : Int)) (by omega) (by omega)
    have hRR := hC.l
    have hone := hRR.one
    have hCPs : CP (r + 1) = CP r ++ (List.range (Au.hn hd r)).map (Au.covM t f p r) := by simp only [hCP, Au.cat, List.append_assoc]; rfl
    have hCpr := hCpre (r + 1) (by omega)
    rw [hCPs] at hCpr
    have hkc : r < p.Covers.length := by rw [ok.cl]; exact hrN
    have hcA := Au.covA_bd ok hrN
    have hcAe : Au.covA t f p r = p.Covers[r] * Au.cheap f (Ec.lineP t p r).Classes := by
      unfold Au.covA; simp [List.getD_eq_getElem?_getD, hkc]
    have hcM : ∀ k, Au.covM t f p r k = (⟨k, 1, 3 + (Ec.lineP t p r).Offices.getD k 0, Au.covA t f p r, 5, r⟩ : MoveD) := fun k => rfl
    have hms : ∀ k, (List.range (k + 1)).map (Au.covM t f p r) = (List.range k).map (Au.covM t f p r) ++ [Au.covM t f p r k] := fun k => by simp [List.range_succ]
    have hml : ∀ k, ((List.range k).map (Au.covM t f p r)).length = k := fun k => by simp
    have hlpre : ∀ k, k ≤ Au.hn hd r → (List.range k).map (Au.covM t f p r) <+: (List.range (Au.hn hd r)).map (Au.covM t f p r) := fun k hk => List.IsPrefix.map _ (range_pre hk)
    have hlq := fun w' k (h : Tk k w') (K : Value → World → Prop) hK => auLineW (K := K) (C.row k w' h).1 hp (hE k w' h) hb hC hK
    generalize hxx : Ec.lineP t p (r : Int) = x at *
    generalize hhn : Au.hn hd r = n at *
    generalize hcc : Au.covA t f p r = cA at *
    generalize hCM : Au.covM t f p r = CM at *
    obtain ⟨d1, d2, -⟩ := (hp.H.ext (hE _ _ hT1)).get (show r < hd.length by omega)
    rw [← hhe] at d1
    simp only [LineD.cs] at hone
    (repeat with_reducible first | refine js ?_ | refine ja ?_ | refine jw KL120 [15] (aa TF120 (aa hp.H.s (aa hp.H.len (aa d1 d2)))) fun _ => ?_)
    refine hlq w1 _ hT1 _ fun w2 x2 => ?_
    refine SemW_allocT ti52 fun pz w3 h3 => ?_
    have b3 := h3.blk
    refine SemW_setW (by rw [cells52]; decide) (by rw [cells52]; rfl) h3.row (by rw [cells52]; rfl) (by simpa [Value.cells] using hone) fun w4 r4 k4 z4 => ?_
    have r4 : Row w4 pz 52 (x.cs l0 l1 l2 l3) := by simpa [Value.cells, LineD.cs] using r4
    have x4 : Ext w1 w4 := Keep.ext (x2.trans h3.ext) k4 fun q hq => by have := x2.size; omega
    have T4 := C.ext _ _ _ hT1 x4
    have K4 : Keep Kq w w4 := k1.trans (Keep.of_ext x4)
    have hKz : Kq pz.block := C.new _ (by have := (C.row _ _ (C.ext _ _ _ hT1 x2)).2.2; omega)
    have g4 := hG _ w4 T4
    clear d1 d2
    have hfl := hp.T.l.len
    have hn8 := hfk.n8
    have hfn := hfk.n
    (repeat with_reducible first | refine js ?_ | refine ja ?_ | refine jw KL120 [15] (aa TF120 (aa g4 (aa hp.T.l.s hp.T.l.len))) fun _ => ?_)
    refine Run_loopV [8, 9, 10, 31, 32, 41] (σ := Nat × Int) (fun s => [(31, some (.int .i64 s.1)), (8, some (.int .i64 s.2))]) (fun s w' => s.1 ≤ f.Leg.length ∧ (0 ≤ s.2 ∧ s.2 ≤ 1099511627776) ∧ Au.cheap f x.Classes = Au.cheapF (Fd.bit x.Classes) s.1 (f.Leg.drop s.1) s.2 ∧ Ext w4 w') (fun s => f.Leg.length - s.1) (0, 1099511627776) (by simp [SubB, fnd]) ⟨by simp, by simp, by simp [Au.cheap], Ext.refl _⟩ ?_
    clear g4
    rintro ⟨c, a⟩ w5 ⟨hc, ha, hle, x5⟩
    simp only at hc ha hle
    have E5 := hE _ _ (C.ext _ _ _ T4 x5)
    (repeat with_reducible first | refine js ?_ | refine ja ?_ | refine jw KL120 [15] TF120 fun _ => ?_)
    refine Run_condS (fun _ => rfl) (fun h => ?_) (fun h => ?_)
    · simp at h
      have hcl := h
      have hx := hfk.l _ (List.getElem_mem hcl)
      rw [Au.cheapF_drop hcl] at hle
      obtain ⟨q1, q2, -⟩ := (hp.T.l.ext E5).get hcl
      have lz := (r4.ext x5).n
      simp only [LineD.cs, AtN, KS, Nat.reduceAdd, Nat.reduceMul, Nat.reduceEqDiff, ↓reduceIte, UT] at lz
      have hbit : (iand .i64 (x.Classes.fdiv (2 ^ (min c IntKind.i64.bits))) 1 == 1) = Fd.bit x.Classes c := rfl
      (repeat with_reducible first | refine js ?_ | refine ja ?_ | refine jw KL120 [15] (aa TF120 (aa hp.T.l.s (aa hp.T.l.len (aa q1 (aa q2 lz))))) fun _ => ?_)
      rw [hbit]
      refine Run_condS (fun _ => rfl) (fun h => ?_) (fun h => ?_)
      · rw [if_pos h] at hle
        (repeat with_reducible first | refine js ?_ | refine ja ?_ | refine jw KL120 [15] TF120 fun _ => ?_)
        refine Run_lp ⟨(c + 1, min a f.Leg[c]), ?_, ⟨by simp only; omega, by simp only; omega, hle, x5⟩, by simp only; omega⟩
        simp [SubB, fnd, strike, has]
      · rw [if_neg (by simp [h])] at hle
        (repeat with_reducible first | refine js ?_ | refine ja ?_ | refine jw KL120 [15] TF120 fun _ => ?_)
        refine Run_lp ⟨(c + 1, a), ?_, ⟨by simp only; omega, ha, hle, x5⟩, by simp only; omega⟩
        simp [SubB, fnd, strike, has]
    simp at h
    obtain rfl : c = f.Leg.length := by omega
    rw [List.drop_length] at hle
    simp only [Au.cheapF] at hle
    subst hle
    have T5 := C.ext _ _ _ T4 x5
    (repeat with_reducible first | refine js ?_ | refine ja ?_ | refine jw KL120 [15] TF120 fun _ => ?_)
    refine Run_loopV [4, 11, 47, 48, 70] (σ := Nat) (fun k => [(47, some (.int .i64 k)), (4, some (.bool false))]) (fun k w' => k ≤ n ∧ Tk (CP r ++ (List.range k).map CM).length w' ∧ Row w' pz 52 (x.cs l0 l1 l2 l3) ∧ Keep Kq w w') (fun k => n - k) 0 (by simp [SubB, fnd]) ⟨by omega, by simpa using T5, r4.ext x5, K4.trans (Keep.of_ext x5)⟩ ?_
    clear T5 K4 r4 T4
    rintro k w6 ⟨hk, T6, r6, k6⟩
    (repeat with_reducible first | refine js ?_ | refine ja ?_ | refine jw KL120 [15] TF120 fun _ => ?_)
    refine Run_condS (fun _ => rfl) (fun h => ?_) (fun h => ?_)
    · simp at h
      have hkn := h
      have hof := hxs (x.Offices[k]'(by omega)) (List.getElem_mem _)
      have hgd : x.Offices.getD k 0 = x.Offices[k]'(by omega) := by simp [List.getD_eq_getElem?_getD, show k < x.Offices.length by omega]
      have hMk := hcM k
      rw [hgd] at hMk
      have hmk := hms k
      have hnx : CP r ++ (List.range k).map CM ++ [CM k] <+: ms := by
        rw [List.append_assoc, ← hmk]
        refine List.IsPrefix.trans ?_ hCpr
        exact List.prefix_append_right_inj _ |>.2 (hlpre (k + 1) (by omega))
      have hcall := fun w' h => C.call _ _ w' hnx h
      rw [hMk] at hcall
      (repeat with_reducible first | refine jq ?_ | refine jk ?_ | refine jc ?_ | refine jl ?_ | refine jb ?_ | refine jo ?_ | refine ji ?_ | refine jx rfl ?_)
      refine Run_regionV KL120 (by kernel_rfl) fun _ => ?_
      (try simp (maxSteps := 5000000) only [KS, Nat.reduceAdd, Nat.reduceMul, Nat.reduceEqDiff, ↓reduceIte, forall_const, Int.cast_ofNat_Int, Int.reduceToNat, List.take_succ_cons, List.take_zero, List.drop_succ_cons, List.drop_zero, TF120, KL120]); (try simp (disch := omega) only [wrapI, tmodI, tdivI])
      let S : Nat → Prop := fun _ => True
      (repeat with_reducible first | refine jq ?_ | refine jk ?_ | refine jc ?_ | refine jl ?_ | refine jb ?_ | refine jo ?_ | refine ji ?_ | refine jx rfl ?_)
      refine Run_eh S [19] [(2, [4, 5, 6, 18, 19]), (5, [6, 18, 19]), (11, [13, 14, 16, 18, 19]), (14, [16, 18, 19])] (id := 15) KL120 (.first 0 (.first 1 (.first 2 (.first 3 (.first 4 (.first 5 (.first 6 (.first 7 (.first 8 (.first 9 (.first 10 (.first 11 (.first 12 (.first 13 (.first 14 (.first 15 (.first 16 (.first 17 (.first 18 (.alt true 19 (.free (.first 20 .done)) .stop)))))))))))))))))))) mixed (by kernel_rfl) (by kernel_rfl) fun w7 x7 _ => ?_
      have T7 := C.ext _ _ _ T6 x7
      have E7 := hE _ _ T7
      have g7 := hG _ w7 T7
      obtain ⟨o1, o2, -⟩ := (hRR.o.ext E7).get (show k < x.Offices.length by omega)
      obtain ⟨m1, m2, -⟩ := (hp.P.c.ext E7).get hkc
      have lz := (r6.ext x7).n
      simp only [LineD.cs, AtN, KS, Nat.reduceAdd, Nat.reduceMul, Nat.reduceEqDiff, ↓reduceIte, UT] at lz
      (try simp (maxSteps := 5000000) only [KS, Nat.reduceAdd, Nat.reduceMul, Nat.reduceEqDiff, ↓reduceIte, forall_const, Int.cast_ofNat_Int, Int.reduceToNat, List.take_succ_cons, List.take_zero, List.drop_succ_cons, List.drop_zero, TF120, KL120, eh, gres, qopS, putL, ung, g7, lz, hRR.o.s, hRR.o.len, o1, o2, hp.P.c.s, hcvl, m1, m2]); (try simp (disch := omega) only [wrapI, tmodI, tdivI])
      rw [← hcAe]
      generalize x.Offices[k]'(by omega) = off at *
      refine ⟨trivial, by omega, trivial, trivial, by omega, trivial, .agg (⟨0, 1, 3 + off, cA, 5, r⟩ : MoveD).cs.toArray, fun _ => by kernel_rfl, Keep.refl _ _, ?_⟩
      refine (hcall w7 T7).mono fun v w8 ⟨b, hb', k8, hj⟩ => ?_
      subst hb'
      refine ⟨rfl, ?_⟩
      have K8 : Keep Kq w w8 := k6.trans ((Keep.of_ext x7).trans k8)
      have r8 := (r6.ext x7).keep k8 hKz
      simp only [bOf_mk]
      cases b with
      | true =>
        refine Run_condS (fun _ => rfl) (fun h => by cases h) (fun _ => ?_)
        (repeat with_reducible first | refine js ?_ | refine ja ?_ | refine jw KL120 [15] TF120 fun _ => ?_)
        refine Run_lp ⟨k + 1, ?_, ⟨by omega, ?_, r8, K8⟩, by omega⟩
        · simp [SubB, fnd, strike, has]
        · simpa only [List.length_append, hml, Nat.add_assoc, if_true] using hj
      | false =>
        refine Run_condS (fun _ => rfl) (fun _ => ?_) (fun h => by cases h)
        (repeat with_reducible first | refine js ?_ | refine ja ?_ | refine jw KL120 [15] TF120 fun _ => ?_)
        refine Run_ret ?_
        simp only [Rets, RetM, resV, fnd, oneOr, ↓reduceIte]
        exact ⟨_, rfl, false, rfl, K8, hj⟩
    · simp at h
      obtain rfl : k = n := by omega
      rw [← hCPs] at T6
      (repeat with_reducible first | refine js ?_ | refine ja ?_ | refine jw KL120 [15] TF120 fun _ => ?_)
      refine Run_lp ⟨r + 1, ?_, ⟨by omega, T6, k6⟩, by omega⟩
      simp [SubB, fnd, strike, has]
  · simp at h
    obtain rfl : r = p.Runs.length := by omega
    (repeat with_reducible first | refine js ?_ | refine ja ?_ | refine jw KL120 [15] TF120 fun _ => ?_)
    refine Run_ret ?_
    simp only [Rets, RetM, resV, fnd, oneOr, ↓reduceIte]
    exact ⟨_, rfl, true, rfl, k1, hT1⟩
theorem tq_bd {a n M : Int} (hn : 0 < n) (ha : -M ≤ a ∧ a ≤ M) : (-M ≤ a.tdiv n ∧ a.tdiv n ≤ M) ∧ (-n < a.tmod n ∧ a.tmod n < n) := by
  by_cases h : 0 ≤ a
  · rw [Int.tdiv_eq_ediv_of_nonneg h, Int.tmod_eq_emod_of_nonneg h]
    have h1 := Int.ediv_nonneg h (show 0 ≤ n by omega)
    have h2 := Int.ediv_le_self n h
    have h3 := Int.emod_nonneg a (show n ≠ 0 by omega)
    have h4 := Int.emod_lt_of_pos a hn
    omega
  · obtain ⟨b, rfl⟩ : ∃ b, a = -b := ⟨-a, by omega⟩
    have hb : 0 ≤ b := by omega
    rw [Int.neg_tdiv, Int.neg_tmod, Int.tdiv_eq_ediv_of_nonneg hb, Int.tmod_eq_emod_of_nonneg hb]
    have h1 := Int.ediv_nonneg hb (show 0 ≤ n by omega)
    have h2 := Int.ediv_le_self n hb
    have h3 := Int.emod_nonneg b (show n ≠ 0 by omega)
    have h4 := Int.emod_lt_of_pos b hn
    omega
set_option maxHeartbeats 1000000 in
theorem auShares (hp : PerR W q t f l p hd) (PA : List MoveD) (C : ToC W px q t ms tv Tk Jx Kq B) (hl64 : l.length ≤ 64) (hbd : -1099511627776 ≤ Ec.eff PA 1 ∧ Ec.eff PA 1 ≤ 1099511627776) (hpre : PA ++ Au.shs (Ec.eff PA 1) l.length <+: ms) (w : World) (hT : Tk PA.length w) :
    Calls Tryz.prog 121 #[.pointer (some px), tv] w (PartR Tk Jx Kq (PA ++ Au.shs (Ec.eff PA 1) l.length).length w) := by
  have hG : ∀ k w', Tk k w' → AtN w' px 0 (q.cs t (Ec.eff (ms.take k) 1)) := fun k w' h => (C.row k w' h).1.n
  have htk : ms.take PA.length = PA := by
    obtain ⟨s, hs⟩ := hpre
    rw [← hs, List.append_assoc, List.take_left]
  have hol := hp.O.len
  have g0 := hG _ w hT
  rw [htk] at g0
  simp only [PerV.cs, AtN, KS, Nat.reduceAdd, Nat.reduceMul, Nat.reduceEqDiff, ↓reduceIte, UT] at g0
  have hms : ∀ k, (List.range (k + 1)).map (Au.shM (Ec.eff PA 1) l.length) = (List.range k).map (Au.shM (Ec.eff PA 1) l.length) ++ [Au.shM (Ec.eff PA 1) l.length k] := fun k => by simp [List.range_succ]
  have hml : ∀ k, ((List.range k).map (Au.shM (Ec.eff PA 1) l.length)).length = k := fun k => by simp
  have hlpre : ∀ k, k ≤ l.length → PA ++ (List.range k).map (Au.shM (Ec.eff PA 1) l.length) <+: ms := fun k hk => List.IsPrefix.trans (List.prefix_append_right_inj _ |>.2 (List.IsPrefix.map _ (range_pre hk))) hpre
  have hsl : (PA ++ Au.shs (Ec.eff PA 1) l.length).length = (PA ++ (List.range l.length).map (Au.shM (Ec.eff PA 1) l.length)).length := rfl
  rw [hsl]
  generalize hae : Ec.eff PA 1 = a at *
  refine Calls_of_Run (args := [.pointer (some px), tv]) (n := 44) (rs := [.tmp 4]) Tryz.func121 rfl rfl rfl (by simp) ?_
  (repeat with_reducible first | refine js ?_ | refine ja ?_ | refine jw KL121 [1] (aa TF121 (aa g0 (aa hp.O.s hp.O.len))) fun _ => ?_)
  intro w1 x1
  have T1 := C.ext _ _ _ hT x1
  have g1 := hG _ w1 T1
  rw [htk, hae] at g1
  simp only [PerV.cs, AtN, KS, Nat.reduceAdd, Nat.reduceMul, Nat.reduceEqDiff, ↓reduceIte, UT] at g1
  (repeat with_reducible first | refine js ?_ | refine ja ?_ | refine jw KL121 [1] (aa TF121 (aa g1 (aa hp.O.s hp.O.len))) fun _ => ?_)
  refine Run_loopV [4, 7, 8, 23, 24, 33, 42] (σ := Nat) (fun k => [(23, some (.int .i64 k)), (4, some (.bool false))]) (fun k w' => k ≤ l.length ∧ Tk (PA ++ (List.range k).map (Au.shM a l.length)).length w' ∧ Keep Kq w w') (fun k => l.length - k) 0 (by simp [SubB, fnd]) ⟨by omega, by simpa using T1, Keep.of_ext x1⟩ ?_
  clear g0 g1 T1
  rintro k w2 ⟨hk, T2, k2⟩
  (repeat with_reducible first | refine js ?_ | refine ja ?_ | refine jw KL121 [1] TF121 fun _ => ?_)
  refine Run_condS (fun _ => rfl) (fun h => ?_) (fun h => ?_)
  · simp at h
    have hkl := h
    obtain ⟨⟨b1, b2⟩, b3, b4⟩ := tq_bd (a := a) (n := l.length) (by omega) hbd
    have hnx : PA ++ (List.range k).map (Au.shM a l.length) ++ [Au.shM a l.length k] <+: ms := by
      rw [List.append_assoc, ← hms]; exact hlpre (k + 1) (by omega)
    have hcall := fun w' h => C.call _ _ w' hnx h
    have hsM : Au.shM a l.length k = (⟨k, 1, 51 + k, a.tdiv l.length + (if (k : Int) < a.tmod l.length then 1 else 0), 6, -1⟩ : MoveD) := rfl
    rw [hsM] at hcall
    (repeat with_reducible first | refine js ?_ | refine ja ?_ | refine jw KL121 [1] TF121 fun _ => ?_)
    refine Run_cutV [8, 33] (σ := Unit) (fun _ => [(8, some (.int .i64 (a.tdiv l.length + if (k : Int) < a.tmod l.length then 1 else 0)))]) (fun _ w' => w' = w2) ?_ ?_
    · refine Run_condS (fun _ => rfl) (fun h => ?_) (fun h => ?_)
      · simp only [decide_eq_true_eq] at h
        (repeat with_reducible first | refine js ?_ | refine ja ?_ | refine jw KL121 [1] TF121 fun _ => ?_)
        refine Run_lp ⟨(), ?_, rfl⟩
        rw [if_pos h]; simp [SubB, fnd, strike, has]
      · simp only [decide_eq_false_iff_not] at h
        (repeat with_reducible first | refine js ?_ | refine ja ?_ | refine jw KL121 [1] TF121 fun _ => ?_)
        refine Run_lp ⟨(), ?_, rfl⟩
        rw [if_neg h, Int.add_zero]; simp [SubB, fnd, strike, has]
    rintro _ w3 rfl
    generalize a.tdiv l.length + (if (k : Int) < a.tmod l.length then 1 else 0) = sh at *
    (repeat with_reducible first | refine js ?_ | refine ja ?_ | refine jw KL121 [1] TF121 fun _ => ?_)
    refine ⟨.agg (⟨0, 1, 51 + k, sh, 6, -1⟩ : MoveD).cs.toArray, fun _ => by kernel_rfl, ?_⟩
    refine (hcall w3 T2).mono fun v w8 ⟨b, hb', k8, hj⟩ => ?_
    subst hb'
    refine ⟨rfl, ?_⟩
    have K8 : Keep Kq w w8 := k2.trans k8
    simp only [bOf_mk]
    cases b with
    | true =>
      refine Run_condS (fun _ => rfl) (fun h => by cases h) (fun _ => ?_)
      (repeat with_reducible first | refine js ?_ | refine ja ?_ | refine jw KL121 [1] TF121 fun _ => ?_)
      refine Run_lp ⟨k + 1, ?_, ⟨by omega, ?_, K8⟩, by omega⟩
      · simp [SubB, fnd, strike, has]
      · simpa only [List.length_append, hml, Nat.add_assoc, if_true] using hj
    | false =>
      refine Run_condS (fun _ => rfl) (fun _ => ?_) (fun h => by cases h)
      (repeat with_reducible first | refine js ?_ | refine ja ?_ | refine jw KL121 [1] TF121 fun _ => ?_)
      refine Run_ret ?_
      simp only [Rets, RetM, resV, fnd, oneOr, ↓reduceIte]
      exact ⟨_, rfl, false, rfl, K8, hj⟩
  · simp at h
    obtain rfl : k = l.length := by omega
    (repeat with_reducible first | refine js ?_ | refine ja ?_ | refine jw KL121 [1] TF121 fun _ => ?_)
    refine Run_ret ?_
    simp only [Rets, RetM, resV, fnd, oneOr, ↓reduceIte]
    exact ⟨_, rfl, true, rfl, k2, T2⟩
end
end Go.Proofs.YtoadfmgnpmcbfaaGreat
