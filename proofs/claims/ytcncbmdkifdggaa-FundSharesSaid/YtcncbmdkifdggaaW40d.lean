/- Chapter 40: Cover, Share. -/
import Derived.Test.YtcncbmdkifdggaaW40c
namespace Go.Proofs.Ytcncbmdkifdggaa
open Go Go.Fk
set_option linter.unusedSimpArgs false
set_option linter.unusedVariables false
set_option maxRecDepth 100000

/-- a list of moves and an error -/
def MvRet (w : World) (r : List MoveD × Int) (e : Ending) (w' : World) : Prop := ∃ v, e = .returned (.tuple #[v, .int .i64 r.2]) ∧ Ext w w' ∧ Sl w' v r.1
theorem costW {vl v0 v1 v2 u0 u1 u2 : Value} {t : TimeD} {f : TariffD} {p : PlanD} {run : Int} {r : Int × Int} {w : World} {K : Value → World → Prop} (h : Fd.cost t f p run = r) (hl : Sl w vl t.Lines) (hT : TarR w f u0 u1 u2) (hP : PlanR w p v0 v1 v2)
    (hK : ∀ w', Ext w w' → K (.tuple #[.int .i64 r.1, .int .i64 r.2]) w') : CallW Try.prog (.func (.func 10) #[] #[]) [.agg #[.int .i64 t.Offices, vl], .agg #[u0, u1, u2], .agg #[v0, v1, v2], .int .i64 run] w K := by
  subst h; exact CallW_gen call10 (fdCost vl v0 v1 v2 u0 u1 u2 t f p run w hl hT hP) fun e w' ⟨he, x⟩ => ⟨_, he, hK w' x⟩
/-- what a price that could be reckoned says of its input -/
theorem cost_ok {t : TimeD} {f : TariffD} {p : PlanD} {run : Int} (h : (Fd.cost t f p run).2 = 0) : Tt.chk t = 0 ∧ Tf.chk f = 0 ∧ Fd.formed t p = true ∧ 0 ≤ run ∧ run < p.Runs.length ∧ 0 ≤ (Fd.cost t f p run).1 ∧ (Fd.cost t f p run).1 ≤ 67108864 ∧ ∃ x, (Fd.cost t f p run).1 = x * p.Covers.getD run.toNat 0 := by
  unfold Fd.cost at h ⊢
  by_cases h1 : Tt.chk t = 0
  · rw [if_neg (by simp [h1])] at h ⊢
    by_cases h2 : Tf.chk f = 0
    · rw [if_neg (by simp [h2])] at h ⊢
      by_cases h3 : Fd.formed t p = true
      · rw [if_neg (by simp [h3])] at h ⊢
        by_cases h4 : run < 0 ∨ p.Runs.length ≤ run
        · rw [if_pos h4] at h; cases h
        · rw [if_neg h4] at h ⊢
          obtain ⟨c1, c2, c3, c4⟩ := formed_ok h3
          cases hle : Fd.least (Fd.bit (Fd.lineOf t p run).Classes) f.Leg with
          | none => rw [hle] at h; cases h
          | some m =>
            have hm := (Tf.chk_ok h2).l _ (Fd.least_mem hle)
            have hlt : run.toNat < p.Covers.length := by omega
            have hg : p.Covers.getD run.toNat 0 = p.Covers[run.toNat] := by simp [List.getD_eq_getElem?_getD, hlt]
            have hcv := c4 _ (List.getElem_mem hlt)
            rw [← hg] at hcv
            refine ⟨h1, h2, h3, by omega, by omega, Int.mul_nonneg hm.1 hcv.1, ?_, m, rfl⟩
            exact Int.mul_le_mul hm.2 hcv.2 hcv.1 (by omega)
      · rw [if_pos (by simpa using h3)] at h; cases h
    · rw [if_pos h2] at h; exact (h2 h).elim
  · rw [if_pos h1] at h; exact (h1 h).elim
/-- the line of a run that is one -/
theorem line_ok {t : TimeD} {f : TariffD} {p : PlanD} {run : Int} (h : (Fd.cost t f p run).2 = 0) : ∃ h1 : run.toNat < p.Runs.length, ∃ h2 : p.Runs[run.toNat].Line.toNat < t.Lines.length, Fd.lineOf t p run = t.Lines[p.Runs[run.toNat].Line.toNat] ∧ 0 ≤ p.Runs[run.toNat].Line ∧ p.Runs[run.toNat].Line < t.Lines.length ∧ Tt.LOk (Fd.lineOf t p run) t.Offices := by
  obtain ⟨h1, h2, h3, h4, h5, _⟩ := cost_ok h
  obtain ⟨c1, c2, c3, c4⟩ := formed_ok h3
  have hrn : run.toNat < p.Runs.length := by omega
  have hrun := isRun_line (c2 _ (List.getElem_mem hrn))
  have hln : p.Runs[run.toNat].Line.toNat < t.Lines.length := by omega
  have hlo : Fd.lineOf t p run = t.Lines[p.Runs[run.toNat].Line.toNat] := by
    unfold Fd.lineOf; simp [List.getD_eq_getElem?_getD, hln, hrn]
  refine ⟨hrn, hln, hlo, hrun.2.1, hrun.2.2.1, ?_⟩
  rw [hlo]
  exact Tt.right_ok ((Tt.chk_ok h1).r _ (List.getElem_mem hln))
theorem mi_cov {n run : Int} {i : Nat} {o : Int} (h : 0 ≤ n ∧ n ≤ 67108864) (hr : I64 run) (ho : 0 ≤ o ∧ o ≤ 24) (hi : i ≤ 1000) : MI (Fd.covM n run i o) := by
  unfold I64 at hr
  simp only [MI, Fd.covM, I64]; omega
theorem covs_mi {n run : Int} {l : List Int} (h : 0 ≤ n ∧ n ≤ 67108864) (hr : I64 run) (ho : ∀ o ∈ l, 0 ≤ o ∧ o ≤ 24) (hl : l.length ≤ 1000) : ∀ m ∈ Fd.covs n run l, MI m := fun m hm => by
  obtain ⟨k, hk, rfl⟩ := List.getElem_of_mem hm
  rw [Fd.covs_len] at hk
  rw [Fd.covs_get _ hk]
  exact mi_cov h hr (ho _ (List.getElem_mem hk)) (by omega)
theorem fdCover (vl v0 v1 v2 u0 u1 u2 : Value) (t : TimeD) (f : TariffD) (p : PlanD) (run handed : Int) (w : World) (hl : Sl w vl t.Lines) (hT : TarR w f u0 u1 u2) (hP : PlanR w p v0 v1 v2) (hr : I64 run) :
    Calls Try.prog 12 #[.agg (t.cs vl).toArray, .agg (f.cs u0 u1 u2).toArray, .agg (p.cs v0 v1 v2).toArray, .int .i64 run, .int .i64 handed] w (MvRet w (Fd.cover t f p run handed)) := by
  have hlen := hl.len
  have rlen := hP.r.len
  refine Calls_of_Run (args := [.agg (t.cs vl).toArray, .agg (f.cs u0 u1 u2).toArray, .agg (p.cs v0 v1 v2).toArray, .int .i64 run, .int .i64 handed]) (n := 52) (rs := [.tmp 10, .tmp 11]) Try.func12 rfl rfl rfl (by simp) ?_
  (repeat first | with_reducible first | refine jq ?_ | refine jk ?_ | refine jc ?_ | refine jl ?_ | refine jb ?_ | refine jo ?_ | refine ji ?_ | refine jx rfl ?_ | refine And.intro (by first | assumption | omega | (intros; omega)) ?_ | ((first | refine jR KL12 (by kernel_rfl) fun _ => ?_ | skip); simp only [KS, Nat.reduceAdd, Nat.reduceMul, Nat.reduceEqDiff, ↓reduceIte, forall_const, Int.cast_ofNat_Int, Int.reduceToNat, TF12, KL12, List.take_succ_cons, List.take_zero, List.drop_succ_cons, List.drop_zero]; (try simp (disch := omega) only [wrapI, tmodI, tdivI]); (fail_if_success (with_reducible show False))))
  refine SemW_box fun pt w1 h1 => SemW_box fun pf w2 h2 => SemW_box fun pp w3 h3 => ?_
  have x3 := h1.ext.trans (h2.ext.trans h3.ext)
  have T : ∀ w', Ext w3 w' → AtN w' pt 0 (t.cs vl) := fun w' x => (h1.at_.ext (h2.ext.trans (h3.ext.trans x))).n
  have F : ∀ w', Ext w3 w' → AtN w' pf 0 (f.cs u0 u1 u2) := fun w' x => (h2.at_.ext (h3.ext.trans x)).n
  have P : ∀ w', Ext w3 w' → AtN w' pp 0 (p.cs v0 v1 v2) := fun w' x => (h3.at_.ext x).n
  simp only [TimeD.cs, TariffD.cs, PlanD.cs, AtN, KS, Nat.reduceAdd, Nat.reduceMul, Nat.reduceEqDiff, ↓reduceIte, UT] at T F P
  have t3 := T w3 (Ext.refl _)
  have f3 := F w3 (Ext.refl _)
  have p3 := P w3 (Ext.refl _)
  (repeat first | with_reducible first | refine jq ?_ | refine jk ?_ | refine jc ?_ | refine jl ?_ | refine jb ?_ | refine jo ?_ | refine ji ?_ | refine jx rfl ?_ | refine And.intro (by first | assumption | omega | (intros; omega)) ?_ | ((first | refine jR KL12 (by kernel_rfl) fun _ => ?_ | skip); simp only [KS, Nat.reduceAdd, Nat.reduceMul, Nat.reduceEqDiff, ↓reduceIte, forall_const, Int.cast_ofNat_Int, Int.reduceToNat, TF12, KL12, List.take_succ_cons, List.take_zero, List.drop_succ_cons, List.drop_zero, t3, f3, p3]; (try simp (disch := omega) only [wrapI, tmodI, tdivI]); (fail_if_success (with_reducible show False))))
  refine costW rfl (hl.ext x3) (hT.ext x3) (hP.ext x3) fun w4 x4 => ?_
  have y4 := x3.trans x4
  (repeat first | with_reducible first | refine jq ?_ | refine jk ?_ | refine jc ?_ | refine jl ?_ | refine jb ?_ | refine jo ?_ | refine ji ?_ | refine jx rfl ?_ | refine And.intro (by first | assumption | omega | (intros; omega)) ?_ | ((first | refine jR KL12 (by kernel_rfl) fun _ => ?_ | skip); simp only [KS, Nat.reduceAdd, Nat.reduceMul, Nat.reduceEqDiff, ↓reduceIte, forall_const, Int.cast_ofNat_Int, Int.reduceToNat, TF12, KL12, List.take_succ_cons, List.take_zero, List.drop_succ_cons, List.drop_zero]; (try simp (disch := omega) only [wrapI, tmodI, tdivI]); (fail_if_success (with_reducible show False))))
  refine Run_condS (fun _ => rfl) (fun h => ?_) (fun h => ?_)
  · simp at h
    (repeat first | with_reducible first | refine jq ?_ | refine jk ?_ | refine jc ?_ | refine jl ?_ | refine jb ?_ | refine jo ?_ | refine ji ?_ | refine jx rfl ?_ | refine And.intro (by first | assumption | omega | (intros; omega)) ?_ | ((first | refine jR KL12 (by kernel_rfl) fun _ => ?_ | skip); simp only [KS, Nat.reduceAdd, Nat.reduceMul, Nat.reduceEqDiff, ↓reduceIte, forall_const, Int.cast_ofNat_Int, Int.reduceToNat, TF12, KL12, List.take_succ_cons, List.take_zero, List.drop_succ_cons, List.drop_zero]; (try simp (disch := omega) only [wrapI, tmodI, tdivI]); (fail_if_success (with_reducible show False))))
    refine Run_ret ?_
    simp [Rets, RetM, resV, fnd, oneOr, MvRet, Fd.cover, h]
    exact ⟨y4, Sl.nil _⟩
  simp at h
  have hc := h
  obtain ⟨_, _, hfm, r0, r1, n0, n1, _⟩ := cost_ok hc
  obtain ⟨hrn, hln, hlo, q0, q1, hxo⟩ := line_ok hc
  have hres : Fd.cover t f p run handed = if handed < 0 ∨ (Fd.lineOf t p run).Legs.length < handed then ([], 1) else (Fd.covs (Fd.cost t f p run).1 run ((Fd.lineOf t p run).Offices.take handed.toNat), 0) := by
    unfold Fd.cover; rw [if_neg (by simp [hc])]
  obtain ⟨l0, l1, l2, l3, e1, e2, hR⟩ := (hl.ext y4).line hln
  have Q : ∀ w', Ext w w' → AtN w' ((slAt v0).add (run.toNat * 3)) 0 p.Runs[run.toNat].cs := fun w' x => ((hP.r.ext x).runD hrn).1
  have hone := hR.one
  rw [hlo] at hxo hres
  generalize hxx : t.Lines[p.Runs[run.toNat].Line.toNat] = x at *
  generalize hrr : p.Runs[run.toNat] = r at *
  generalize (Fd.cost t f p run).1 = n at *
  simp only [RunD.cs, AtN, KS, Nat.reduceAdd, Nat.reduceMul, Nat.reduceEqDiff, ↓reduceIte, UT] at Q
  simp only [LineD.cs] at hone
  (repeat with_reducible first | refine jq ?_ | refine jk ?_ | refine jc ?_ | refine jl ?_ | refine jb ?_ | refine jo ?_ | refine ji ?_ | refine jx rfl ?_)
  refine Run_ec (id := 4) KL12 (.first 0 (.first 1 (.first 2 (.first 3 (.first 4 (.first 5 (.first 6 (.first 7 (.first 8 (.first 9 (.alt 10 (.alt 11 .done .stop) .stop))))))))))) mixed (by kernel_rfl) (by kernel_rfl) fun w7 x7 _ => ?_
  have t7 := T w7 (x4.trans x7)
  have p7 := P w7 (x4.trans x7)
  have q7 := Q w7 (y4.trans x7)
  have e7 := (e2.ext x7).n
  simp only [LineD.cs, AtN, KS, Nat.reduceAdd, Nat.reduceMul, Nat.reduceEqDiff, ↓reduceIte, UT] at e7
  (try simp only [KS, Nat.reduceAdd, Nat.reduceMul, Nat.reduceEqDiff, ↓reduceIte, forall_const, Int.cast_ofNat_Int, Int.reduceToNat, List.take_succ_cons, List.take_zero, List.drop_succ_cons, List.drop_zero, TF12, KL12, ec, t7, p7, hP.r.s, hP.r.len, hl.s, hl.len, q7, e7]); (try simp (disch := omega) only [wrapI, tmodI, tdivI])
  (try simp only [KS, Nat.reduceAdd, Nat.reduceMul, Nat.reduceEqDiff, ↓reduceIte, forall_const, Int.cast_ofNat_Int, Int.reduceToNat, List.take_succ_cons, List.take_zero, List.drop_succ_cons, List.drop_zero, TF12, KL12, ec, t7, p7, hP.r.s, hP.r.len, hl.s, hl.len, q7, e7]); (try simp (disch := omega) only [wrapI, tmodI, tdivI])
  refine ⟨by omega, by omega, Ext.refl _, SemW_allocT ti55 fun px w8 h8 => ⟨h8.ext, ?_⟩⟩
  have b8 := h8.blk
  refine SemW_setW (by rw [cells55]; decide) (by rw [cells55]; rfl) h8.row (by rw [cells55]; rfl) (by simpa [Value.cells] using hone) fun w9 r9 k9 z9 => ?_
  have r9 : Row w9 px 55 (x.cs l0 l1 l2 l3) := by simpa [Value.cells, LineD.cs] using r9
  have x9 : Ext w7 w9 := Keep.ext h8.ext k9 fun q hq => by omega
  refine ⟨x9, ?_⟩
  have y9 := y4.trans (x7.trans x9)
  have hR9 := hR.ext (x7.trans x9)
  have q9 := r9.n
  have cap0 := hR9.o.cap
  have hll := hR9.l.len
  have hol := hR9.o.len
  simp only [LineD.cs, AtN, KS, Nat.reduceAdd, Nat.reduceMul, Nat.reduceEqDiff, ↓reduceIte, UT] at q9
  have ho2 := hxo.o9
  have ho1 := hxo.l1
  (repeat first | with_reducible first | refine jq ?_ | refine jk ?_ | refine jc ?_ | refine jl ?_ | refine jb ?_ | refine jo ?_ | refine ji ?_ | refine jx rfl ?_ | refine And.intro (by first | assumption | omega | (intros; omega)) ?_ | ((first | refine jR KL12 (by kernel_rfl) fun _ => ?_ | skip); simp only [KS, Nat.reduceAdd, Nat.reduceMul, Nat.reduceEqDiff, ↓reduceIte, forall_const, Int.cast_ofNat_Int, Int.reduceToNat, TF12, KL12, List.take_succ_cons, List.take_zero, List.drop_succ_cons, List.drop_zero, q9, hR9.l.s, hR9.l.len]; (try simp (disch := omega) only [wrapI, tmodI, tdivI]); (fail_if_success (with_reducible show False))))
  refine Run_condS (fun _ => rfl) (fun h => ?_) (fun h => ?_)
  · simp at h
    (repeat first | with_reducible first | refine jq ?_ | refine jk ?_ | refine jc ?_ | refine jl ?_ | refine jb ?_ | refine jo ?_ | refine ji ?_ | refine jx rfl ?_ | refine And.intro (by first | assumption | omega | (intros; omega)) ?_ | ((first | refine jR KL12 (by kernel_rfl) fun _ => ?_ | skip); simp only [KS, Nat.reduceAdd, Nat.reduceMul, Nat.reduceEqDiff, ↓reduceIte, forall_const, Int.cast_ofNat_Int, Int.reduceToNat, TF12, KL12, List.take_succ_cons, List.take_zero, List.drop_succ_cons, List.drop_zero]; (try simp (disch := omega) only [wrapI, tmodI, tdivI]); (fail_if_success (with_reducible show False))))
    refine Run_ret ?_
    rw [if_pos (by omega)] at hres
    simp [Rets, RetM, resV, fnd, oneOr, MvRet, hres]
    exact ⟨y9, Sl.nil _⟩
  · simp at h
    rw [if_neg (by omega)] at hres
    have hsub := hR9.o.sub (l := 0) (r := handed.toNat) (m := slCap l0) (by omega) (by omega) (by omega) (Nat.le_refl _)
    rw [List.drop_zero] at hsub
    have htake : ∀ o ∈ x.Offices.take handed.toNat, 0 ≤ o ∧ o ≤ 24 := fun o ho => by
      have := hxo.s o (List.mem_of_mem_take ho)
      have := (Tt.chk_ok (cost_ok hc).1).o
      omega
    (repeat first | with_reducible first | refine jq ?_ | refine jk ?_ | refine jc ?_ | refine jl ?_ | refine jb ?_ | refine jo ?_ | refine ji ?_ | refine jx rfl ?_ | refine And.intro (by first | assumption | omega | (intros; omega)) ?_ | ((first | refine jR KL12 (by kernel_rfl) fun _ => ?_ | skip); simp only [KS, Nat.reduceAdd, Nat.reduceMul, Nat.reduceEqDiff, ↓reduceIte, forall_const, Int.cast_ofNat_Int, Int.reduceToNat, TF12, KL12, List.take_succ_cons, List.take_zero, List.drop_succ_cons, List.drop_zero, q9, hR9.o.s, hR9.o.len]; (try simp (disch := omega) only [wrapI, tmodI, tdivI]); (fail_if_success (with_reducible show False))))
    refine CallW_gen call32 (fdCovers _ n run w9 (isS_cells hsub.s)) fun e w10 ⟨p1, p2, p3, he, x10, a1, a2, a3⟩ => ⟨_, he, ?_⟩
    (repeat first | with_reducible first | refine jq ?_ | refine jk ?_ | refine jc ?_ | refine jl ?_ | refine jb ?_ | refine jo ?_ | refine ji ?_ | refine jx rfl ?_ | refine And.intro (by first | assumption | omega | (intros; omega)) ?_ | ((first | refine jR KL12 (by kernel_rfl) fun _ => ?_ | skip); simp only [KS, Nat.reduceAdd, Nat.reduceMul, Nat.reduceEqDiff, ↓reduceIte, forall_const, Int.cast_ofNat_Int, Int.reduceToNat, TF12, KL12, List.take_succ_cons, List.take_zero, List.drop_succ_cons, List.drop_zero]; (try simp (disch := omega) only [wrapI, tmodI, tdivI]); (fail_if_success (with_reducible show False))))
    refine CallW_gen call31 (slCollect 63 _ _ w10 call63 (covIter p1 p2 p3 _ _ n run w10 (hsub.ext x10) a1 a2 a3 htake) (covs_mi ⟨n0, n1⟩ hr htake (by simp; omega)) (by rw [Fd.covs_len]; simp; omega)) fun e w11 ⟨v', he, x11, b11⟩ => ⟨_, he, ?_⟩
    (repeat first | with_reducible first | refine jq ?_ | refine jk ?_ | refine jc ?_ | refine jl ?_ | refine jb ?_ | refine jo ?_ | refine ji ?_ | refine jx rfl ?_ | refine And.intro (by first | assumption | omega | (intros; omega)) ?_ | ((first | refine jR KL12 (by kernel_rfl) fun _ => ?_ | skip); simp only [KS, Nat.reduceAdd, Nat.reduceMul, Nat.reduceEqDiff, ↓reduceIte, forall_const, Int.cast_ofNat_Int, Int.reduceToNat, TF12, KL12, List.take_succ_cons, List.take_zero, List.drop_succ_cons, List.drop_zero]; (try simp (disch := omega) only [wrapI, tmodI, tdivI]); (fail_if_success (with_reducible show False))))
    refine Run_ret ?_
    simp [Rets, RetM, resV, fnd, oneOr, MvRet, hres]
    exact ⟨y9.trans (x10.trans x11), b11.sl (by rw [Fd.covs_len]; simp; omega)⟩
end Go.Proofs.Ytcncbmdkifdggaa
