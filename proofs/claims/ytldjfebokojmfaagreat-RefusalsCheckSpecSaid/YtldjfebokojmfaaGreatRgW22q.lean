import Derived.Test.YtldjfebokojmfaaGreatRgGt
import Derived.Test.YtldjfebokojmfaaGreatRgW20s
import Derived.Test.YtldjfebokojmfaaGreatRgGs
namespace Go.Proofs.YtldjfebokojmfaaGreat
open Go Go.Fk
set_option linter.unusedSimpArgs false
set_option linter.unusedVariables false
set_option maxRecDepth 100000
theorem ordLit {o : OrderD} {g : Value} {w : World} {K : Value → World → Prop} (hO : OrdR w o g) (hK : ∀ v w', Sl w' v [o] → Ext w w' → K v w') : SemW Tryz.prog (Instr.buildSlice 29 1 #[(0, .agg (o.cs g).toArray)]) w K :=
  SemW_lit (α := OrderD) Tryz.underlying29 ti50 rfl (by decide) [.agg (o.cs g).toArray] [o] rfl rfl (Cs.one (by simpa [Value.cells] using hO.rep)) (by show 1 * 11 ≤ _; decide) hK
theorem ok_num {t : TimeD} {f : TariffD} {l : List OrderD} (h : Pl.Ok t f l) {o : OrderD} (ho : o ∈ l) : (0 ≤ o.Class ∧ o.Class < 8) ∧ (0 ≤ o.After ∧ o.After < o.By) ∧ o.By < 2097152 ∧ (1 ≤ o.Crowd ∧ o.Crowd ≤ 64) := by
  have := h.o o ho
  have hb := (Tf.chk_ok h.f).n8
  simp only [Pl.oright, Pl.oNum, Bool.and_eq_true, decide_eq_true_eq] at this
  omega
theorem plOpt1 (pt pf po : Addr) (vl : Value) (t : TimeD) (f : TariffD) (u0 u1 u2 : Value) (o : OrderD) (g : Value) (r : RunD) (w : World) (ht : At w pt (t.cs vl)) (hf : At w pf (f.cs u0 u1 u2)) (ho : At w po (o.cs g)) (hl : Sl w vl t.Lines) (hT : TarR w f u0 u1 u2) (hO : OrdR w o g) (hr : 0 ≤ r.Line ∧ r.Line < t.Lines.length) (hk : Tt.LOk (Pl.lineR t r) t.Offices) (hc : 0 ≤ o.Class) :
    Calls Tryz.prog 61 #[.agg r.cs.toArray, .pointer (some pt), .pointer (some pf), .pointer (some po)] w fun e w' => e = .returned (.bool (!Pl.fits t f o r)) ∧ Ext w w' := by
  refine Calls_of_Run (args := [.agg r.cs.toArray, .pointer (some pt), .pointer (some pf), .pointer (some po)]) (n := 12) (rs := [.tmp 5]) Tryz.func61 rfl rfl rfl (by simp) ?_
  (repeat with_reducible first | refine jy ?_ | refine jw KL61 [] TF61 fun _ => ?_)
  refine SemW_box fun pr w1 h1 => ?_
  have x1 := h1.ext
  have t1 := (ht.ext x1).n
  have f1 := (hf.ext x1).n
  have o1 := (ho.ext x1).n
  have r1 := h1.at_.n
  simp only [TimeD.cs, TariffD.cs, OrderD.cs, RunD.cs, AtN, KS, Nat.reduceAdd, Nat.reduceMul, Nat.reduceEqDiff, ↓reduceIte, UT] at t1 f1 o1 r1
  (repeat with_reducible first | refine jy ?_ | refine jw KL61 [] (aa TF61 (aa t1 (aa f1 (aa o1 r1)))) fun _ => ?_)
  refine fitsW (hl.ext x1) (hT.ext x1) (hO.ext x1) hr hk hc fun w2 x2 => ?_
  (repeat with_reducible first | refine jy ?_ | refine jw KL61 [] TF61 fun _ => ?_)
  refine Run_ret ?_
  simp [Rets, RetM, resV, fnd, oneOr]
  exact x1.trans x2
set_option maxHeartbeats 1000000 in
theorem plOptions (vl : Value) (t : TimeD) (f : TariffD) (u0 u1 u2 : Value) (o : OrderD) (g : Value) (w : World) (hl : Sl w vl t.Lines) (hT : TarR w f u0 u1 u2) (hO : OrdR w o g) :
    Calls Tryz.prog 34 #[.agg (t.cs vl).toArray, .agg (f.cs u0 u1 u2).toArray, .agg (o.cs g).toArray] w fun e w' => ∃ v, e = .returned (.tuple #[v, .int .i64 (Pl.options t f o).2]) ∧ Ext w w' ∧ Sl w' v (Pl.options t f o).1 := by
  refine Calls_of_Run (args := [.agg (t.cs vl).toArray, .agg (f.cs u0 u1 u2).toArray, .agg (o.cs g).toArray]) (n := 34) (rs := [.tmp 6, .tmp 7]) Tryz.func34 rfl rfl rfl (by simp) ?_
  (repeat with_reducible first | refine jy ?_ | refine jw KL34 [] TF34 fun _ => ?_)
  refine SemW_box fun pt w1 h1 => SemW_box fun pf w2 h2 => SemW_box fun po w3 h3 => ?_
  have x3 := h1.ext.trans (h2.ext.trans h3.ext)
  have T0 : ∀ w', Ext w3 w' → At w' pt (t.cs vl) := fun w' x => (h1.at_.ext (h2.ext.trans (h3.ext.trans x)))
  have F0 : ∀ w', Ext w3 w' → At w' pf (f.cs u0 u1 u2) := fun w' x => (h2.at_.ext (h3.ext.trans x))
  have O0 : ∀ w', Ext w3 w' → At w' po (o.cs g) := fun w' x => (h3.at_.ext x)
  have T := fun w' x => (T0 w' x).n
  have F := fun w' x => (F0 w' x).n
  have O := fun w' x => (O0 w' x).n
  simp only [TimeD.cs, TariffD.cs, OrderD.cs, RunD.cs, AtN, KS, Nat.reduceAdd, Nat.reduceMul, Nat.reduceEqDiff, ↓reduceIte, UT] at T F O
  have t3 := T w3 (Ext.refl _)
  have f3 := F w3 (Ext.refl _)
  have o3 := O w3 (Ext.refl _)
  have hone := hO.one
  (repeat with_reducible first | refine jy ?_ | refine jw KL34 [] (aa TF34 (aa t3 (aa f3 o3))) fun _ => ?_)
  refine ordLit (hO.ext x3) fun vo w5 so x5 => ?_
  have y5 := x3.trans x5
  (repeat with_reducible first | refine jy ?_ | refine jw KL34 [] TF34 fun _ => ?_)
  refine plerrW (l := [o]) (hl.ext y5) (hT.ext y5) so fun w6 x6 => ?_
  have y6 := y5.trans x6
  have z6 := x5.trans x6
  (repeat with_reducible first | refine jy ?_ | refine jw KL34 [] TF34 fun _ => ?_)
  refine Run_condS (fun _ => rfl) (fun h => ?_) (fun h => ?_)
  · have he : Pl.err t f [o] ≠ 0 := by simpa using h
    (repeat with_reducible first | refine jy ?_ | refine jw KL34 [] TF34 fun _ => ?_)
    refine Run_ret ?_
    simp [Rets, RetM, resV, fnd, oneOr, Pl.options, he, y6]
    exact Sl.nil _
  have he : Pl.err t f [o] = 0 := by simpa using h
  clear h
  have ok := Pl.err_ok he
  have onum := ok_num ok (List.mem_singleton.2 rfl)
  have t6 := T w6 z6
  have f6 := F w6 z6
  have o6 := O w6 z6
  (repeat with_reducible first | refine jy ?_ | refine jw KL34 [] (aa TF34 (aa t6 o6)) fun _ => ?_)
  refine CallW_gen call58 (ttRuns vl t _ _ w6 (hl.ext y6)) fun e w7 ⟨v7, he7, x7, s7⟩ => ⟨_, he7, ?_⟩
  have y7 := y6.trans x7
  have z7 := z6.trans x7
  (repeat with_reducible first | refine jy ?_ | refine jw KL34 [] TF34 fun _ => ?_)
  refine Run_condS (fun _ => rfl) (fun h => ?_) (fun h => ?_)
  · have he2 : (Tt.runs t o.After (o.By + 1)).2 ≠ 0 := by simpa using h
    (repeat with_reducible first | refine jy ?_ | refine jw KL34 [] TF34 fun _ => ?_)
    refine Run_ret ?_
    simp [Rets, RetM, resV, fnd, oneOr, Pl.options, he, he2, y7]
    exact Sl.nil _
  have he2 : (Tt.runs t o.After (o.By + 1)).2 = 0 := by simpa using h
  clear h
  obtain ⟨a1, a2, a3, a4, a5, a6⟩ := Pl.runs_ok he2
  have hmem : ∀ r ∈ (Tt.runs t o.After (o.By + 1)).1, 0 ≤ r.Line ∧ r.Line < t.Lines.length ∧ Tt.LOk (Pl.lineR t r) t.Offices := fun r hr => by
    rw [a5, (Tt.sortR_perm _).mem_iff, Tt.mem_isR a2 a3 a4] at hr
    exact isRunL (by unfold Tt.isRun; rw [decide_eq_true a1, Bool.true_and]; exact hr.1)
  (repeat with_reducible first | refine jy ?_ | refine jw KL34 [] TF34 fun _ => ?_)
  refine CallW_gen call60 (clnRuns v7 _ w7 s7 (by omega)) fun e w8 ⟨v8, he8, b8⟩ => ⟨_, he8, ?_⟩
  have x8 := b8.ext0
  (repeat with_reducible first | refine jy ?_ | refine jw KL34 [] TF34 fun _ => ?_)
  refine CallW_gen call59 (delR v8 _ _ (fun r => !Pl.fits t f o r) w7 w8 b8 (by omega) fun r hr w9 x9 K hK => ?_) fun e w9 ⟨v9, he9, x9, s9⟩ => ⟨_, he9, ?_⟩
  · obtain ⟨g1, g2, g3⟩ := hmem r hr
    have y9 := y7.trans x9
    have z9 := z7.trans x9
    exact CallW_cl call61 (plOpt1 pt pf po vl t f u0 u1 u2 o g r w9 (T0 w9 z9) (F0 w9 z9) (O0 w9 z9) (hl.ext y9) (hT.ext y9) (hO.ext y9) ⟨g1, g2⟩ g3 onum.1.1) fun e w' ⟨he, hx⟩ => ⟨_, he, hK w' hx⟩
  (repeat with_reducible first | refine jy ?_ | refine jw KL34 [] TF34 fun _ => ?_)
  refine Run_ret ?_
  simp [Rets, RetM, resV, fnd, oneOr, Pl.options, he, he2]
  refine ⟨y7.trans x9, ?_⟩
  simpa using s9
end Go.Proofs.YtldjfebokojmfaaGreat
