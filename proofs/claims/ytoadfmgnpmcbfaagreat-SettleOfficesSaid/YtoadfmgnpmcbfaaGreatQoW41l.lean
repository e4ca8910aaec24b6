import Derived.Test.YtoadfmgnpmcbfaaGreatQoG9
import Derived.Test.YtoadfmgnpmcbfaaGreatQoP41g
import Derived.Test.YtoadfmgnpmcbfaaGreatQoMpI
import Derived.Test.YtoadfmgnpmcbfaaGreatQoW39r
import Derived.Test.YtoadfmgnpmcbfaaGreatQoGe
/- Chapter 41: SettleOffices. -/
namespace Go.Proofs.YtoadfmgnpmcbfaaGreat
open Go Go.Fk
set_option linter.unusedSimpArgs false
set_option linter.unusedVariables false
set_option maxRecDepth 100000
/-- a map that holds ints: what it answers -/
structure MapW (w : World) (mb : Nat) (W : Int → Int) : Prop where
  ex : ∃ M, MapI w mb M ∧ ∀ j, (iget M j).getD (.int .i64 0) = .int .i64 (W j)
theorem MapW.keep {w w' : World} {mb : Nat} {W : Int → Int} {S : Nat → Prop} (h : MapW w mb W) (k : Keep S w w') (hs : S mb) : MapW w' mb W := by
  obtain ⟨M, h1, h2⟩ := h.ex
  exact ⟨M, h1.keep k hs, h2⟩
theorem MapW.ext {w w' : World} {mb : Nat} {W : Int → Int} (h : MapW w mb W) (x : Ext w w') : MapW w' mb W := h.keep (Keep.of_ext (S := fun _ => True) x) trivial
theorem MapW.congr {w : World} {mb : Nat} {W W' : Int → Int} (h : MapW w mb W) (e : ∀ j, W j = W' j) : MapW w mb W' := by
  obtain ⟨M, h1, h2⟩ := h.ex
  exact ⟨M, h1, fun j => by rw [h2, e]⟩
theorem MapW.lt {w : World} {mb : Nat} {W : Int → Int} (h : MapW w mb W) : mb < w.heap.size := by
  obtain ⟨M, h1, h2⟩ := h.ex
  exact h1.lt
theorem lookW {w : World} {mb : Nat} {W : Int → Int} {k : Int} {K : Value → World → Prop} (hM : MapW w mb W) (hK : K (.int .i64 (W k)) w) : SemW Tryz.prog (Instr.lookup 73 (.map (some mb)) (.int .i64 k) false) w K := by
  obtain ⟨M, h1, h2⟩ := hM.ex
  refine SemW_lookupI Tryz.underlying73 Tryz.underlying3 ti3 h1 ?_
  rw [h2]; exact hK
theorem updW {w : World} {mb : Nat} {W : Int → Int} {k x : Int} {K : Unit → World → Prop} (hM : MapW w mb W) (hK : ∀ w', MapW w' mb (fun j => if j = k then x else W j) → Keep (fun g => g ≠ mb) w w' → w'.heap.size = w.heap.size → K () w') : SemW Tryz.prog (Instr.mapUpdate 73 (.map (some mb)) (.int .i64 k) (.int .i64 x)) w K := by
  obtain ⟨M, h1, h2⟩ := hM.ex
  refine SemW_mapUpdateI Tryz.underlying73 Tryz.underlying3 h1 fun w' m' k' z' => hK w' ⟨_, m', fun j => ?_⟩ k' z'
  rw [iget_set]
  split
  · rfl
  · exact h2 j
def optM : Option Int → Int
  | none => -1
  | some a => a
set_option maxHeartbeats 16000000 in
theorem lawSettleOffices (vl u0 u1 u2 vo v0 v1 v2 vh : Value) (t : TimeD) (f : TariffD) (l : List OrderD) (p : PlanD) (hd : List Int) (w : World) (hl : Sl w vl t.Lines) (hT : TarR w f u0 u1 u2) (ho : Sl w vo l) (hP : PlanR w p v0 v1 v2) (hh : Sl w vh hd) :
    Calls Tryz.prog 10 #[.agg (t.cs vl).toArray, .agg (f.cs u0 u1 u2).toArray, vo, .agg (p.cs v0 v1 v2).toArray, vh] w fun e w' => e = .returned (.bool true) ∧ Ext w w' := by
  refine Calls_of_Run (args := [.agg (t.cs vl).toArray, .agg (f.cs u0 u1 u2).toArray, vo, .agg (p.cs v0 v1 v2).toArray, vh]) (n := 201) (rs := [.tmp 10]) Tryz.func10 rfl rfl rfl (by simp) ?_
  (repeat with_reducible first | refine js ?_ | refine ja ?_ | refine jw KL10 [22] TF10 fun _ => ?_)
  refine SemW_box fun pt w1 h1 => SemW_box fun pf w2 h2 => SemW_box fun pp w3 h3 => ?_
  have x3 := h1.ext.trans (h2.ext.trans h3.ext)
  have T : ∀ w', Ext w3 w' → AtN w' pt 0 (t.cs vl) := fun w' x => (h1.at_.ext (h2.ext.trans (h3.ext.trans x))).n
  have F : ∀ w', Ext w3 w' → AtN w' pf 0 (f.cs u0 u1 u2) := fun w' x => (h2.at_.ext (h3.ext.trans x)).n
  have P : ∀ w', Ext w3 w' → AtN w' pp 0 (p.cs v0 v1 v2) := fun w' x => (h3.at_.ext x).n
  simp only [TimeD.cs, TariffD.cs, PlanD.cs, AtN, KS, Nat.reduceAdd, Nat.reduceMul, Nat.reduceEqDiff, ↓reduceIte, UT] at T F P
  (repeat with_reducible first | refine js ?_ | refine ja ?_ | refine jw KL10 [22] TF10 fun _ => ?_)
  refine sane41W fun w4 x4 => ?_
  (repeat with_reducible first | refine js ?_ | refine ja ?_ | refine jw KL10 [22] TF10 fun _ => ?_)
  refine Run_condS (fun _ => rfl) (fun h => by cases h) (fun _ => ?_)
  have y4 := x3.trans x4
  have t4 := T w4 x4
  have f4 := F w4 x4
  have p4 := P w4 x4
  (repeat with_reducible first | refine js ?_ | refine ja ?_ | refine jw KL10 [22] (aa TF10 (aa t4 (aa f4 p4))) fun _ => ?_)
  refine few41W (hl.ext y4) (hT.ext y4) (ho.ext y4) (hP.ext y4) (hh.ext y4) fun b w5 x5 hb => ?_
  have y5 := y4.trans x5
  (repeat with_reducible first | refine js ?_ | refine ja ?_ | refine jw KL10 [22] TF10 fun _ => ?_)
  refine Run_condS (fun _ => rfl) (fun h => ?_) (fun h => ?_)
  · (repeat with_reducible first | refine js ?_ | refine ja ?_ | refine jw KL10 [22] TF10 fun _ => ?_)
    refine Run_ret ?_
    simp [Rets, RetM, resV, fnd, oneOr, y5]
  have hb := hb (by simpa using h)
  clear h
  have z5 := x4.trans x5
  have t5 := T w5 z5
  have f5 := F w5 z5
  have p5 := P w5 z5
  (repeat with_reducible first | refine js ?_ | refine ja ?_ | refine jw KL10 [22] (aa TF10 (aa t5 (aa f5 p5))) fun _ => ?_)
  refine allW rfl (hl.ext y5) (hT.ext y5) (ho.ext y5) (hP.ext y5) (hh.ext y5) hb.2.1 (by omega) fun vm w6 x6 sm => ?_
  have y6 := y5.trans x6
  have z6 := z5.trans x6
  have hrl := hP.r.len
  have hol := ho.len
  have hhl := hh.len
  have hll := hl.len
  have hfl := hT.l.len
  have hfsm := hT.l.small
  (repeat with_reducible first | refine js ?_ | refine ja ?_ | refine jw KL10 [22] TF10 fun _ => ?_)
  refine Run_condS (fun _ => rfl) (fun h => ?_) (fun h => ?_)
  · (repeat with_reducible first | refine js ?_ | refine ja ?_ | refine jw KL10 [22] TF10 fun _ => ?_)
    refine Run_ret ?_
    simp [Rets, RetM, resV, fnd, oneOr]
    exact y6
  have h0 : (Au.all t f l p hd).2 = 0 := by simpa using h
  clear h
  have hn70 := hb.2.1
  obtain ⟨he, hn, ha⟩ := Au.all_ok h0
  have hK := Au.err_ok he
  have ok := hK.e
  have hofl := ok.ol
  have hfn := (Tf.chk_ok ok.o.f).n
  have herr : Ec.err t f l p = 0 := Decidable.byContradiction fun e => by unfold Au.err at he; rw [if_pos e] at he; exact e he
  have hF : 0 ≤ Ec.eff (Au.pre t f l p hd) 1 := by
    have := Au.negAt_no hn (Au.pre t f l p hd).length
    rwa [List.take_length] at this
  have hwant := fun j hj => Au.asked_want hK hb.2.1 hF (j := j) hj
  have hfrom := Au.asked_from hK hb.2.1 (by omega) hF
  have hmv := Au.asked_mv hK hb.2.1 hF
  have hXl := Au.asked_len hK hb.2.1
  have hhlen := hK.hl
  rw [ha] at sm ⊢
  simp only at sm
  generalize Au.asked t f l p hd = X at *
  have t6 := T w6 z6
  have f6 := F w6 z6
  have p6 := P w6 z6
  (repeat with_reducible first | refine js ?_ | refine ja ?_ | refine jw KL10 [22] (aa TF10 (aa t6 (aa f6 p6))) fun _ => ?_)
  refine rerrW (hl.ext y6) (hT.ext y6) (ho.ext y6) (hP.ext y6) fun w7 x7 => ?_
  rw [herr]
  have y7 := y6.trans x7
  have z7 := z6.trans x7
  have t7 := T w7 z7
  have f7 := F w7 z7
  have p7 := P w7 z7
  (repeat with_reducible first | refine js ?_ | refine ja ?_ | refine jw KL10 [22] (aa TF10 (aa t7 (aa f7 (aa p7 (aa hh.s (aa hhl (aa hP.r.s (aa hrl (aa hhlen (aa @bne_self_eq_false.{0} KX)))))))))) fun _ => ?_)
  refine Run_condS (fun _ => rfl) (fun h => by cases h) (fun _ => ?_)
  (repeat with_reducible first | refine js ?_ | refine ja ?_ | refine jw KL10 [22] TF10 fun _ => ?_)
  refine SemW_makeMapI fun w8 m8 x8 zz8 => ?_
  generalize hmb : w7.heap.size = mb at *
  have M8 : MapW w8 mb (fun j => Au.sumK (Au.offW t f l p hd j) 0) := ⟨[], m8, fun j => rfl⟩
  have p8 := P w8 (z7.trans x8)
  (repeat with_reducible first | refine js ?_ | refine ja ?_ | refine jw KL10 [22] (aa TF10 (aa p8 (aa hP.r.s hrl))) fun _ => ?_)
  refine Run_loopV [10, 14, 15, 16, 17, 18, 19, 20, 21, 22, 23, 65, 66, 77, 78, 79, 80, 98, 119, 123, 124, 125, 145, 146, 147, 148, 154] (σ := Nat) (fun i => [(65, some (.int .i64 i))]) (fun i w' => i ≤ p.Runs.length ∧ MapW w' mb (fun j => Au.sumK (Au.offW t f l p hd j) i) ∧ Ext w7 w') (fun i => p.Runs.length - i) 0 (by simp [SubB, fnd]) ⟨by omega, M8, x8⟩ ?_
  rintro i w9 ⟨hi, M9, x9⟩
  have y9 := y7.trans x9
  have z9 := z7.trans x9
  (repeat with_reducible first | refine js ?_ | refine ja ?_ | refine jw KL10 [22] TF10 fun _ => ?_)
  refine Run_condS (fun _ => rfl) (fun h => ?_) (fun h => ?_)
  · simp at h
    have hil : i < p.Runs.length := by omega
    have hilc : (i : Int) < p.Runs.length := by omega
    clear h
    obtain ⟨l0, l1, l2, l3, hC⟩ := lineC hl ok (q := (i : Int)) (by omega) (by omega)
    obtain ⟨hrn, hr0, hlnn, hn0, hCa, hRR⟩ := hC
    simp only [Int.toNat_natCast] at hrn hlnn hn0 hCa
    obtain ⟨_, _, hLL, _, hlo⟩ := line_at ok (q := (i : Int)) (by omega) (by omega)
    simp only [Int.toNat_natCast] at hLL
    have hone := hRR.one
    have hrll := hRR.l.len
    have horl := hRR.o.len
    have ox9 := hlo.o9
    have oxl := hlo.l1
    have hxs := hlo.s
    obtain ⟨hhk, hhe⟩ := hK.h i hil
    have hihd : i < hd.length := by omega
    have hhg : hd.getD i 0 = hd[i] := by simp [List.getD_eq_getElem?_getD, hihd]
    rw [hhg] at hhe
    have hleast := Au.cheap_least ok hil
    have hcbd := Au.cheap_bd ok hil
    have hcov := Au.cov_bd ok hil
    have hcol : p.Covers.length = p.Runs.length := by
      have := Au.formed_ok ok
      simp only [Fd.formed, Bool.and_eq_true, decide_eq_true_eq] at this
      exact this.1.1.1
    have hic : i < p.Covers.length := by omega
    have hcg : p.Covers.getD i 0 = p.Covers[i] := by simp [List.getD_eq_getElem?_getD, hic]
    have hcA : Au.covA t f p i = p.Covers[i] * Au.cheap f (Ec.lineP t p i).Classes := by unfold Au.covA; rw [hcg]
    rw [hcg] at hcov
    have hoff : ∀ j, Au.offW t f l p hd j i = Ec.legG (Ec.lineP t p i) (Au.covA t f p i + Ec.gainR f l p i l.length) j (Au.hn hd i) := fun j => rfl
    have hsumB : ∀ j, 0 ≤ Au.sumK (Au.offW t f l p hd j) i ∧ Au.sumK (Au.offW t f l p hd j) i ≤ i * 1073741824 := fun j => Au.sumK_bd (by omega) i fun r hr => Au.offW_bd hK j (by omega) (by omega)
    have hcAb := Au.covA_bd ok hil
    have hgRb := fun k => Ec.gainR_bd ok (i : Int) k
    have G : ∀ w', Ext w w' → AtN w' ((slAt v0).add (i * 3)) 0 p.Runs[i].cs ∧ AtN w' ((slAt vl).add (p.Runs[i].Line.toNat * 6)) 0 ((Ec.lineP t p i).cs l0 l1 l2 l3) := fun w' x => ⟨((hP.r.ext x).runD hil).1, (hCa.ext x).n⟩
    clear hCa
    generalize hxx : Ec.lineP t p i = x at *
    generalize hrr : p.Runs[i] = rr at *
    simp only [RunD.cs, LineD.cs, AtN, KS, Nat.reduceAdd, Nat.reduceMul, Nat.reduceEqDiff, ↓reduceIte, UT] at G
    simp only [LineD.cs] at hone
    have g9 := G w9 y9
    (repeat with_reducible first | refine js ?_ | refine ja ?_ | refine jw KL10 [22] (aa TF10 (aa hP.r.s (aa hrl g9))) fun _ => ?_)
    refine SemW_allocT ti54 fun pr w10 h10 => ?_
    have b10 := h10.blk
    (repeat with_reducible first | refine js ?_ | refine ja ?_ | refine jw KL10 [22] TF10 fun _ => ?_)
    refine SemW_setW (by rw [cells54]; decide) (by rw [cells54]; rfl) h10.row (by rw [cells54]; rfl) rfl fun w11 r11 k11 zz11 => ?_
    have r11 : Row w11 pr 54 rr.cs := by simpa [Value.cells, RunD.cs] using r11
    have x11 : Ext w9 w11 := Keep.ext h10.ext k11 fun b hb => by omega
    have y11 := y9.trans x11
    have z11 := z9.trans x11
    have t11 := T w11 z11
    have g11 := G w11 y11
    have n11 := r11.n
    simp only [RunD.cs, AtN, KS, Nat.reduceAdd, Nat.reduceMul, Nat.reduceEqDiff, ↓reduceIte, UT] at n11
    have hlc : rr.Line < t.Lines.length := by omega
    (repeat with_reducible first | refine js ?_ | refine ja ?_ | refine jw KL10 [22] (aa TF10 (aa t11 (aa g11 (aa n11 (aa hl.s hll))))) fun _ => ?_)
    refine SemW_allocT ti52 fun pl w12 h12 => ?_
    have b12 := h12.blk
    (repeat with_reducible first | refine js ?_ | refine ja ?_ | refine jw KL10 [22] TF10 fun _ => ?_)
    refine SemW_setW (by rw [cells52]; decide) (by rw [cells52]; rfl) h12.row (by rw [cells52]; rfl) (by simpa [Value.cells] using hone) fun w13 r13 k13 zz13 => ?_
    have r13 : Row w13 pl 52 (x.cs l0 l1 l2 l3) := by simpa [Value.cells, LineD.cs] using r13
    have x13 : Ext w11 w13 := Keep.ext h12.ext k13 fun b hb => by omega
    have y13 := y11.trans x13
    have z13 := z11.trans x13
    have x913 := x11.trans x13
    have M13 := M9.ext x913
    have f13 := F w13 z13
    (repeat with_reducible first | refine js ?_ | refine ja ?_ | refine jw KL10 [22] (aa TF10 (aa f13 (aa hT.l.s hfl))) fun _ => ?_)
    refine Run_loopV [17, 18, 19, 79, 80, 98] (σ := Nat × Option Int) (fun q => [(79, some (.int .i64 q.1)), (17, some (.int .i64 (optM q.2)))]) (fun q w' => q.1 ≤ f.Leg.length ∧ Fd.leastF (Fd.bit x.Classes) q.1 (f.Leg.drop q.1) q.2 = some (Au.cheap f x.Classes) ∧ (∀ a, q.2 = some a → 0 ≤ a) ∧ Ext w13 w') (fun q => f.Leg.length - q.1) (0, none) (by simp [SubB, fnd, optM]) ⟨by omega, by simpa [Fd.least] using hleast, by simp, Ext.refl _⟩ ?_
    · rintro ⟨c, o⟩ w14 ⟨hc, hls, hop, x14⟩
      simp only at hc hls hop
      have y14 := y13.trans x14
      (repeat with_reducible first | refine js ?_ | refine ja ?_ | refine jw KL10 [22] TF10 fun _ => ?_)
      refine Run_condS (fun _ => rfl) (fun h => ?_) (fun h => ?_)
      · simp at h
        have hcl : c < f.Leg.length := by omega
        have hcc : (c : Int) < f.Leg.length := by omega
        clear h
        obtain ⟨m2, a2, i2⟩ := (hT.l.ext y14).get hcl
        have hlb := Tf.leg_bd ok.o.f (c : Int)
        have hlg : Tf.leg f (c : Int) = f.Leg[c] := by
          unfold Tf.leg; rw [Int.toNat_natCast, List.getD_eq_getElem?_getD, List.getElem?_eq_getElem hcl]; rfl
        rw [hlg] at hlb
        rw [Fd.leastF_drop hcl] at hls
        have hbet : (decide (optM o < 0) || decide (f.Leg[c] < optM o)) = Fd.better o f.Leg[c] := by
          cases o with
          | none => rfl
          | some v =>
            have := hop v rfl
            have e : optM (some v) = v := rfl
            rw [e, decide_eq_false (by omega)]
            simp [Fd.better]
        generalize f.Leg[c] = n at *
        have n14 := (r13.ext x14).n
        simp only [LineD.cs, AtN, KS, Nat.reduceAdd, Nat.reduceMul, Nat.reduceEqDiff, ↓reduceIte, UT] at n14
        (repeat with_reducible first | refine js ?_ | refine ja ?_ | refine jw KL10 [22] (aa TF10 (aa hT.l.s (aa hfl (aa m2 (aa a2 (aa n14 KX)))))) fun _ => ?_)
        rw [hbet, show (iand IntKind.i64 (x.Classes.fdiv (2 ^ min c IntKind.i64.bits)) 1 == 1) = Fd.bit x.Classes c from rfl]
        refine Run_condS (fun _ => rfl) (fun h => ?_) (fun h => ?_)
        · rw [if_pos h] at hls
          (repeat with_reducible first | refine js ?_ | refine ja ?_ | refine jw KL10 [22] TF10 fun _ => ?_)
          refine Run_lp ⟨(c + 1, some n), ?_, ⟨by simp only; omega, hls, fun a e => by cases e; omega, x14⟩, by simp only; omega⟩
          simp [SubB, fnd, strike, has, optM]
        · rw [if_neg (by simp [h])] at hls
          (repeat with_reducible first | refine js ?_ | refine ja ?_ | refine jw KL10 [22] TF10 fun _ => ?_)
          refine Run_lp ⟨(c + 1, o), by simp [SubB, fnd, strike, has], ⟨by simp only; omega, hls, hop, x14⟩, by simp only; omega⟩
      · simp at h
        obtain rfl : c = f.Leg.length := by omega
        clear h
        rw [List.drop_length] at hls
        simp only [Fd.leastF] at hls
        subst hls
        have z14 := z13.trans x14
        have M14 := M13.ext x14
        have n14 := (r13.ext x14).n
        simp only [LineD.cs, AtN, KS, Nat.reduceAdd, Nat.reduceMul, Nat.reduceEqDiff, ↓reduceIte, UT] at n14
        obtain ⟨d1, d2, -⟩ := (hh.ext y14).get hihd
        have hcast2 : (i : Int) < hd.length := by omega
        have hoc : optM (some (Au.cheap f x.Classes)) = Au.cheap f x.Classes := rfl
        have hl8 := Au.legs8 ok hil
        rw [hxx] at hl8
        generalize hnn : Au.hn hd i = nn at *
        rw [← hhe] at d1
        (repeat with_reducible first | refine js ?_ | refine ja ?_ | refine jw KL10 [22] (aa TF10 (aa hh.s (aa hhl (aa d1 (aa d2 (aa n14 (aa hcast2 (aa hoc (aa hRR.l.s (aa hrll KX)))))))))) fun _ => ?_)
        intro w15 x15
        refine Run_condS (fun _ => rfl) (fun h => ?_) (fun h => ?_)
        · exfalso
          simp only [Bool.or_eq_true, decide_eq_true_eq] at h
          omega
        clear h
        have z15 := z14.trans x15
        have y15 := y14.trans x15
        have x715 := x9.trans (x913.trans (x14.trans x15))
        have M15 := M14.ext x15
        have r15 := r13.ext (x14.trans x15)
        obtain ⟨d1, d2, -⟩ := (hh.ext y15).get hihd
        rw [← hhe] at d1
        have hppb : pp.block < mb := by have := h3.row.lt; have := z7.size; omega
        have hpfb : pf.block < mb := by have := h2.row.lt; have := h3.ext.size; have := z7.size; omega
        have hwmb : w.heap.size ≤ mb := by have := y7.size; omega
        have hv2 := hP.c.blk (by decide) hic
        have hoff24 := (Tt.chk_ok ok.o.t).o
        have hLB : ∀ j k, k ≤ 8 → 0 ≤ Ec.legG x (Au.covA t f p i + Ec.gainR f l p i l.length) j k ∧ Ec.legG x (Au.covA t f p i + Ec.gainR f l p i l.length) j k ≤ 1073741824 := fun j k hk => by
          have h1 := hgRb l.length
          have h2 := Ec.legG_bd x (show 0 ≤ Au.covA t f p i + Ec.gainR f l p i l.length by omega) j k
          have h3 : (k : Int) * (Au.covA t f p i + Ec.gainR f l p i l.length) ≤ 8 * 134217728 := Int.mul_le_mul (by omega) (by omega) (by omega) (by omega)
          omega
        have hmb7 : ∀ b, b < w7.heap.size → b ≠ mb := fun b hb => by omega
        have hplmb : pl.block ≠ mb := by have := M9.lt; have := x11.size; omega
        (repeat with_reducible first | refine js ?_ | refine ja ?_ | refine jw KL10 [22] (aa TF10 (aa hh.s (aa hhl (aa d1 (aa d2 hcast2))))) fun _ => ?_)
        have M15 : MapW w15 mb (fun j => Au.sumK (Au.offW t f l p hd j) i + Ec.legG x (Au.covA t f p i + Ec.gainR f l p i l.length) j 0) := M15.congr fun j => by simp [Ec.legG]
        refine Run_loopV [20, 21, 22, 23, 124, 125, 145, 146, 147, 148, 154] (σ := Nat) (fun k => [(124, some (.int .i64 k))]) (fun k w' => k ≤ nn ∧ MapW w' mb (fun j => Au.sumK (Au.offW t f l p hd j) i + Ec.legG x (Au.covA t f p i + Ec.gainR f l p i l.length) j k) ∧ Keep (fun b => b ≠ mb) w15 w') (fun k => nn - k) 0 (by simp [SubB, fnd]) ⟨by omega, M15, Keep.refl _ _⟩ ?_
        rintro k w16 ⟨hk, M16, k16⟩
        have x716 : Ext w7 w16 := Keep.ext x715 k16 hmb7
        have y16 := y7.trans x716
        have z16 := z7.trans x716
        (repeat with_reducible first | refine js ?_ | refine ja ?_ | refine jw KL10 [22] TF10 fun _ => ?_)
        refine Run_condS (fun _ => rfl) (fun h => ?_) (fun h => ?_)
        · simp at h
          have hkl : k < nn := by omega
          clear h
          have hko : k < x.Offices.length := by omega
          have hkoc : (k : Int) < x.Offices.length := by omega
          have hob := hxs x.Offices[k] (List.getElem_mem hko)
          have hog : x.Offices.getD k 0 = x.Offices[k] := by simp [List.getD_eq_getElem?_getD, hko]
          have n16 := (r15.keep k16 hplmb).n
          simp only [LineD.cs, AtN, KS, Nat.reduceAdd, Nat.reduceMul, Nat.reduceEqDiff, ↓reduceIte, UT] at n16
          obtain ⟨o1, o2, -⟩ := (hRR.o.ext y16).get hko
          (repeat with_reducible first | refine js ?_ | refine ja ?_ | refine jw KL10 [22] (aa TF10 (aa n16 (aa hRR.o.s (aa horl (aa o1 o2))))) fun _ => ?_)
          have hLk := hLB (3 + x.Offices[k]) k (by omega)
          have hsk := hsumB (3 + x.Offices[k])
          have hw3 : IntKind.i64.wrap (3 + x.Offices[k]) = 3 + x.Offices[k] := wrapI (by omega) (by omega)
          rw [hcA] at hcAb
          let S : Nat → Prop := fun q => q ≠ mb
          have hSp : ∀ b, b < mb → S b := fun b hb => by show b ≠ mb; omega
          (repeat with_reducible first | refine jq ?_ | refine jk ?_ | refine jc ?_ | refine jl ?_ | refine jb ?_ | refine jo ?_ | refine ji ?_ | refine jx rfl ?_)
          refine Run_es S (id := 28) KL10 (.first 0 (.first 1 (.first 3 (.first 4 (.first 5 (.first 6 (.first 7 (.first 8 (.first 9 (.alt 2 (.first 10 (.alt 11 .done .stop)) .stop)))))))))) mixed (by kernel_rfl) (by kernel_rfl) fun w17 x17 _ => ?_
          have z17 := z16.trans x17
          have y17 := y16.trans x17
          have p17 := P w17 z17
          obtain ⟨c1, c2, -⟩ := (hP.c.ext y17).get hic
          have M17 := M16.ext x17
          (try simp (maxSteps := 5000000) only [KS, Nat.reduceAdd, Nat.reduceMul, Nat.reduceEqDiff, ↓reduceIte, forall_const, Int.cast_ofNat_Int, Int.reduceToNat, List.take_succ_cons, List.take_zero, List.drop_succ_cons, List.drop_zero, TF10, KL10, es, qopS, putL, p17, hP.c.s, hP.c.len, c1, c2, hic]); (try simp (disch := omega) only [wrapI, tmodI, tdivI])
          refine ⟨(by show pp.block ≠ mb; omega), ⟨by omega, by omega⟩, hSp _ (by rw [blk_add]; omega), Keep.refl _ _, ?_⟩
          refine lookW M17 ⟨rfl, Keep.refl _ _, ?_⟩
          simp only [iOf_mk]
          rw [wrapI (by omega) (by omega)]
          refine updW M17 fun w18 M18 k18 zz18 => ⟨k18, ?_⟩
          have M18 : MapW w18 mb (fun j => Au.sumK (Au.offW t f l p hd j) i + Ec.legG x (Au.covA t f p i + Ec.gainR f l p i l.length) j k + if 3 + x.Offices[k] = j then Au.covA t f p i + Ec.gainR f l p i 0 else 0) := M18.congr fun j => by
            by_cases e : j = 3 + x.Offices[k]
            · subst e
              rw [if_pos rfl, if_pos rfl, hcA]
              simp only [Ec.gainR]; omega
            · rw [if_neg e, if_neg (fun h => e h.symm)]; omega
          have k1518 : Keep (fun b => b ≠ mb) w15 w18 := k16.trans ((Keep.of_ext x17).trans k18)
          have x718 : Ext w7 w18 := Keep.ext x715 k1518 hmb7
          have p18 := P w18 (z7.trans x718)
          have hollen := hP.o.len
          (repeat with_reducible first | refine js ?_ | refine ja ?_ | refine jw KL10 [22] (aa TF10 (aa p18 (aa hP.o.s hollen))) fun _ => ?_)
          refine Run_loopV [22, 23, 147, 148, 154] (σ := Nat) (fun q => [(147, some (.int .i64 q))]) (fun q w' => q ≤ l.length ∧ MapW w' mb (fun j => Au.sumK (Au.offW t f l p hd j) i + Ec.legG x (Au.covA t f p i + Ec.gainR f l p i l.length) j k + if 3 + x.Offices[k] = j then Au.covA t f p i + Ec.gainR f l p i q else 0) ∧ Keep (fun b => b ≠ mb) w15 w') (fun q => l.length - q) 0 (by simp [SubB, fnd]) ⟨by omega, M18, k1518⟩ ?_
          clear M18 k18 x718 p18 c1 c2 p17 M17 o1 o2 n16
          rintro q w19 ⟨hq, M19, k19⟩
          have x719 : Ext w7 w19 := Keep.ext x715 k19 hmb7
          have y19 := y7.trans x719
          have z19 := z7.trans x719
          (repeat with_reducible first | refine js ?_ | refine ja ?_ | refine jw KL10 [22] TF10 fun _ => ?_)
          refine Run_condS (fun _ => rfl) (fun h => ?_) (fun h => ?_)
          · simp at h
            have hql : q < l.length := by omega
            clear h
            have hqo : q < p.Of.length := by omega
            have hqoc : (q : Int) < p.Of.length := by omega
            obtain ⟨e1, e2, -⟩ := (hP.o.ext y19).get hqo
            have hgq : p.Of.getD q 0 = p.Of[q] := by simp [List.getD_eq_getElem?_getD, hqo]
            have hlq : l.getD q default = l[q] := by simp [List.getD_eq_getElem?_getD, hql]
            have hgs : Ec.gainR f l p i (q + 1) = Ec.gainR f l p i q + if p.Of[q] = (i : Int) then Tf.leg f l[q].Class else 0 := by
              simp only [Ec.gainR]; rw [hgq, hlq]
            (repeat with_reducible first | refine js ?_ | refine ja ?_ | refine jw KL10 [22] (aa TF10 (aa hP.o.s (aa hollen (aa e1 e2)))) fun _ => ?_)
            refine Run_condS (fun _ => rfl) (fun h => ?_) (fun h => ?_)
            · have hoi : p.Of[q] = (i : Int) := by simpa using h
              clear h
              rw [if_pos hoi] at hgs
              obtain ⟨_, _, _, _, hcl, _⟩ := Ec.price_eq ok hql
              rw [hlq] at hcl
              have hlg : Tf.leg f l[q].Class = f.Leg[l[q].Class.toNat]'(by omega) := by
                unfold Tf.leg; rw [List.getD_eq_getElem?_getD, List.getElem?_eq_getElem (by omega)]; rfl
              have hlb := Tf.leg_bd ok.o.f l[q].Class
              obtain ⟨g, _, gAt, hO2⟩ := ho.ord hql
              let S : Nat → Prop := fun q => q ≠ mb
              (repeat with_reducible first | refine jq ?_ | refine jk ?_ | refine jc ?_ | refine jl ?_ | refine jb ?_ | refine jo ?_ | refine ji ?_ | refine jx rfl ?_)
              refine Run_es S (id := 33) KL10 (.first 0 (.first 1 (.first 3 (.first 4 (.first 5 (.first 6 (.first 7 (.first 8 (.first 9 (.first 10 (.first 11 (.alt 2 (.first 12 (.alt 13 .done .stop)) .stop)))))))))))) mixed (by kernel_rfl) (by kernel_rfl) fun w20 x20 _ => ?_
              have z20 := z19.trans x20
              have y20 := y19.trans x20
              have f20 := F w20 z20
              have o20 := (gAt.ext y20).n
              simp only [OrderD.cs, AtN, KS, Nat.reduceAdd, Nat.reduceMul, Nat.reduceEqDiff, ↓reduceIte, UT] at o20
              obtain ⟨c1, c2, -⟩ := (hT.l.ext y20).get (show l[q].Class.toNat < f.Leg.length by omega)
              have M20 := M19.ext x20
              have hqlc : (q : Int) < l.length := by omega
              (try simp (maxSteps := 5000000) only [KS, Nat.reduceAdd, Nat.reduceMul, Nat.reduceEqDiff, ↓reduceIte, forall_const, Int.cast_ofNat_Int, Int.reduceToNat, List.take_succ_cons, List.take_zero, List.drop_succ_cons, List.drop_zero, TF10, KL10, es, qopS, putL, f20, hT.l.s, hfl, ho.s, hol, o20, hqlc, c1, c2]); (try simp (disch := omega) only [wrapI, tmodI, tdivI])
              have bvo := ho.blk (by decide) hql
              have bu1 := hT.l.blk (by decide) (show l[q].Class.toNat < f.Leg.length by omega)
              have hgq' := hgRb q
              rw [hlg] at hlb hgs
              refine ⟨(by show pf.block ≠ mb; omega), by omega, (by show ((slAt vo).add (q * 11 + 3)).block ≠ mb; rw [blk_add]; omega), ⟨by omega, by omega⟩, (by show ((slAt u1).add l[q].Class.toNat).block ≠ mb; rw [blk_add]; omega), Keep.refl _ _, ?_⟩
              refine lookW M20 ⟨rfl, Keep.refl _ _, ?_⟩
              simp only [iOf_mk, if_true]
              rw [wrapI (by omega) (by omega)]
              refine updW M20 fun w21 M21 k21 zz21 => ⟨k21, ?_⟩
              have k1521 : Keep (fun b => b ≠ mb) w15 w21 := k19.trans ((Keep.of_ext x20).trans k21)
              (repeat with_reducible first | refine js ?_ | refine ja ?_ | refine jw KL10 [22] TF10 fun _ => ?_)
              refine Run_lp ⟨q + 1, by simp [SubB, fnd, strike, has], ⟨by omega, M21.congr fun j => ?_, k1521⟩, by omega⟩
              rw [hgs]
              by_cases e : j = 3 + x.Offices[k]
              · subst e
                simp only [if_true]
                omega
              · rw [if_neg e, if_neg (fun h => e h.symm), if_neg (fun h => e h.symm)]
            · have hoi : p.Of[q] ≠ (i : Int) := by simpa using h
              clear h
              rw [if_neg hoi] at hgs
              (repeat with_reducible first | refine js ?_ | refine ja ?_ | refine jw KL10 [22] TF10 fun _ => ?_)
              refine Run_lp ⟨q + 1, by simp [SubB, fnd, strike, has], ⟨by omega, M19.congr fun j => by rw [hgs, Int.add_zero], k19⟩, by omega⟩
          · simp at h
            obtain rfl : q = l.length := by omega
            clear h
            (repeat with_reducible first | refine js ?_ | refine ja ?_ | refine jw KL10 [22] TF10 fun _ => ?_)
            refine Run_lp ⟨k + 1, by simp [SubB, fnd, strike, has], ⟨by omega, M19.congr fun j => by simp only [Ec.legG]; rw [hog]; omega, k19⟩, by omega⟩
        · simp at h
          obtain rfl : k = nn := by omega
          clear h
          (repeat with_reducible first | refine js ?_ | refine ja ?_ | refine jw KL10 [22] TF10 fun _ => ?_)
          refine Run_lp ⟨i + 1, by simp [SubB, fnd, strike, has], ⟨by omega, M16.congr fun j => by simp only [Au.sumK]; rw [hoff]; , x716⟩, by omega⟩
  · simp at h
    obtain rfl : i = p.Runs.length := by omega
    clear h
    have hWb : ∀ j, 0 ≤ Au.sumK (Au.offW t f l p hd j) p.Runs.length ∧ Au.sumK (Au.offW t f l p hd j) p.Runs.length ≤ 70 * 1073741824 := fun j => by
      have := Au.sumK_bd (g := Au.offW t f l p hd j) (c := 1073741824) (by omega) p.Runs.length fun r hr => Au.offW_bd hK j hr (by omega)
      omega
    generalize hWE : (fun j => Au.sumK (Au.offW t f l p hd j) p.Runs.length) = W at *
    have hWe : ∀ j, Au.sumK (Au.offW t f l p hd j) p.Runs.length = W j := fun j => by rw [← hWE]
    have hmA : ∀ m ∈ X, 0 ≤ m.Amount ∧ m.Amount ≤ 1099511627776 := fun m hm => (hmv m hm).2.2.2.1
    have sml := sm.len
    rw [Au.num_len] at sml
    have hmb7 : ∀ b, b < w7.heap.size → b ≠ mb := fun b hb => by omega
    have M9' : MapW w9 mb (fun j => W j - Au.inn j (X.take 0)) := M9.congr fun j => by simp [Au.inn]
    have sm9 := sm.ext (x7.trans x9)
    (repeat with_reducible first | refine js ?_ | refine ja ?_ | refine jw KL10 [22] (aa TF10 (aa sm9.s sml)) fun _ => ?_)
    refine Run_loopV [10, 25, 173, 174, 191] (σ := Nat) (fun k => [(173, some (.int .i64 k))]) (fun k w' => k ≤ X.length ∧ MapW w' mb (fun j => W j - Au.inn j (X.take k)) ∧ Keep (fun b => b ≠ mb) w9 w') (fun k => X.length - k) 0 (by simp [SubB, fnd]) ⟨by omega, M9', Keep.refl _ _⟩ ?_
    rintro k w10 ⟨hk, M10, k10⟩
    have x710 : Ext w7 w10 := Keep.ext x9 k10 hmb7
    have y10 := y7.trans x710
    have sm10 := sm.ext (x7.trans x710)
    (repeat with_reducible first | refine js ?_ | refine ja ?_ | refine jw KL10 [22] (aa TF10 (aa sm10.s sml)) fun _ => ?_)
    refine Run_condS (fun _ => rfl) (fun h => ?_) (fun h => ?_)
    · simp at h
      have hkl : k < X.length := by omega
      have hkc : (k : Int) < X.length := by omega
      clear h
      have hge : (Au.num 0 X)[k]'(by rw [Au.num_len]; exact hkl) = { X[k] with No := (k : Int) } := by
        have := Au.num_get X 0 k
        rw [List.getElem?_eq_getElem (by rw [Au.num_len]; exact hkl), List.getElem?_eq_getElem hkl] at this
        simpa using this
      obtain ⟨e1, mI⟩ := sm10.moveD (show k < (Au.num 0 X).length by rw [Au.num_len]; exact hkl)
      rw [hge] at e1
      have hsu := fun j => Au.inn_take1 hkl j
      have hbd := fun j => Au.inn_bd (X := X.take k) (fun m hm => hmA m (List.mem_of_mem_take hm)) j
      have hmk := hmA _ (List.getElem_mem hkl)
      have hfr := hfrom _ (List.getElem_mem hkl)
      simp only [List.length_take] at hbd
      generalize X[k] = mk at *
      have hbT := hbd mk.To
      have hWT := hWb mk.To
      rw [hWe] at hWT
      simp only [MoveD.cs, AtN, KS, Nat.reduceAdd, Nat.reduceMul, Nat.reduceEqDiff, ↓reduceIte, UT] at e1
      (repeat with_reducible first | refine js ?_ | refine ja ?_ | refine jw KL10 [22] (aa TF10 (aa sm10.s (aa sml e1))) fun _ => ?_)
      refine SemW_allocT ti70 fun pm w11 h11 => ?_
      have b11 := h11.blk
      (repeat with_reducible first | refine js ?_ | refine ja ?_ | refine jw KL10 [22] TF10 fun _ => ?_)
      refine SemW_setW (by rw [cells70]; decide) (by rw [cells70]; rfl) h11.row (by rw [cells70]; rfl) rfl fun w12 r12 k12 zz12 => ?_
      have r12 : Row w12 pm 70 ({ mk with No := (k : Int) } : MoveD).cs := by simpa [Value.cells, MoveD.cs] using r12
      have x12 : Ext w10 w12 := Keep.ext h11.ext k12 fun b hb => by omega
      have n12 := r12.n
      simp only [AtN, KS, Nat.reduceAdd, Nat.reduceMul, Nat.reduceEqDiff, ↓reduceIte, UT, MoveD.cs] at n12
      have M12 := M10.ext x12
      have hpm : pm.block ≠ mb := by have := M10.lt; omega
      (repeat with_reducible first | refine js ?_ | refine ja ?_ | refine jw KL10 [22] (aa TF10 n12) fun _ => ?_)
      refine lookW M12 ?_
      (repeat with_reducible first | refine js ?_ | refine ja ?_ | refine jw KL10 [22] (aa TF10 n12) fun _ => ?_)
      refine updW M12 fun w13 M13 k13 zz13 => ?_
      have n13 := (r12.keep k13 hpm).n
      simp only [AtN, KS, Nat.reduceAdd, Nat.reduceMul, Nat.reduceEqDiff, ↓reduceIte, UT, MoveD.cs] at n13
      (repeat with_reducible first | refine js ?_ | refine ja ?_ | refine jw KL10 [22] (aa TF10 (aa n13 KX)) fun _ => ?_)
      refine Run_condS (fun _ => rfl) (fun h => ?_) (fun h => ?_)
      · exfalso
        simp only [Bool.and_eq_true, decide_eq_true_eq] at h
        exact hfr h
      clear h
      (repeat with_reducible first | refine js ?_ | refine ja ?_ | refine jw KL10 [22] TF10 fun _ => ?_)
      refine Run_lp ⟨k + 1, by simp [SubB, fnd, strike, has], ⟨by omega, M13.congr fun j => ?_, k10.trans ((Keep.of_ext x12).trans k13)⟩, by omega⟩
      rw [hsu]
      by_cases e : j = mk.To
      · subst e
        rw [if_pos rfl, if_pos rfl]; omega
      · rw [if_neg e, if_neg (fun h => e h.symm)]; omega
    simp at h
    obtain rfl : k = X.length := by omega
    clear h
    rw [List.take_length] at M10
    (repeat with_reducible first | refine js ?_ | refine ja ?_ | refine jw KL10 [22] TF10 fun _ => ?_)
    refine Run_loopV [10, 26, 194, 200] (σ := Nat) (fun n => [(26, some (.int .i64 n))]) (fun n w' => (3 ≤ n ∧ n ≤ 27) ∧ w' = w10) (fun n => 27 - n) 3 (by simp [SubB, fnd]) ⟨by omega, rfl⟩ ?_
    rintro n w11 ⟨hn2, rfl⟩
    (repeat with_reducible first | refine js ?_ | refine ja ?_ | refine jw KL10 [22] TF10 fun _ => ?_)
    refine Run_condS (fun _ => rfl) (fun h => ?_) (fun h => ?_)
    · simp at h
      have hn3 : n < 27 := by omega
      clear h
      have hz := hwant (n : Int) (by omega)
      rw [hWe] at hz
      (repeat with_reducible first | refine js ?_ | refine ja ?_ | refine jw KL10 [22] TF10 fun _ => ?_)
      refine lookW M10 ?_
      rw [show W (n : Int) - Au.inn (n : Int) X = 0 by omega]
      (repeat with_reducible first | refine js ?_ | refine ja ?_ | refine jw KL10 [22] (aa TF10 (aa @bne_self_eq_false.{0} KX)) fun _ => ?_)
      refine Run_condS (fun _ => rfl) (fun h => by cases h) (fun _ => ?_)
      (repeat with_reducible first | refine js ?_ | refine ja ?_ | refine jw KL10 [22] TF10 fun _ => ?_)
      refine Run_lp ⟨n + 1, by simp [SubB, fnd, strike, has], ⟨by omega, rfl⟩, by omega⟩
    · simp at h
      (repeat with_reducible first | refine js ?_ | refine ja ?_ | refine jw KL10 [22] TF10 fun _ => ?_)
      refine Run_ret ?_
      simp [Rets, RetM, resV, fnd, oneOr]
      exact y10
end Go.Proofs.YtoadfmgnpmcbfaaGreat
