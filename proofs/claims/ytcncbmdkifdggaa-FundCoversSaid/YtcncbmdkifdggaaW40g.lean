/- Chapter 40: the reference's Cover; Few; Same. -/
import Derived.Test.YtcncbmdkifdggaaW40f
namespace Go.Proofs.Ytcncbmdkifdggaa
open Go Go.Fk
set_option linter.unusedSimpArgs false
set_option linter.unusedVariables false
set_option maxRecDepth 100000

theorem rcostW {vl v0 v1 v2 u0 u1 u2 : Value} {t : TimeD} {f : TariffD} {p : PlanD} {run : Int} {r : Int × Int} {w : World} {K : Value → World → Prop} (h : Fd.cost t f p run = r) (hl : Sl w vl t.Lines) (hT : TarR w f u0 u1 u2) (hP : PlanR w p v0 v1 v2)
    (hK : ∀ w', Ext w w' → K (.tuple #[.int .i64 r.1, .int .i64 r.2]) w') : CallW Try.prog (.func (.func 11) #[] #[]) [.agg #[.int .i64 t.Offices, vl], .agg #[u0, u1, u2], .agg #[v0, v1, v2], .int .i64 run] w K := by
  subst h; exact CallW_gen call11 (rfCost vl v0 v1 v2 u0 u1 u2 t f p run w hl hT hP) fun e w' ⟨he, x⟩ => ⟨_, he, hK w' x⟩
theorem rfCover (vl v0 v1 v2 u0 u1 u2 : Value) (t : TimeD) (f : TariffD) (p : PlanD) (run handed : Int) (w : World) (hl : Sl w vl t.Lines) (hT : TarR w f u0 u1 u2) (hP : PlanR w p v0 v1 v2) (hr : I64 run) :
    Calls Try.prog 13 #[.agg (t.cs vl).toArray, .agg (f.cs u0 u1 u2).toArray, .agg (p.cs v0 v1 v2).toArray, .int .i64 run, .int .i64 handed] w (MvRet w (Fd.cover t f p run handed)) := by
  have hlen := hl.len
  have rlen := hP.r.len
  refine Calls_of_Run (args := [.agg (t.cs vl).toArray, .agg (f.cs u0 u1 u2).toArray, .agg (p.cs v0 v1 v2).toArray, .int .i64 run, .int .i64 handed]) (n := 67) (rs := [.tmp 10, .tmp 11]) Try.func13 rfl rfl rfl (by simp) ?_
  (repeat first | with_reducible first | refine jq ?_ | refine jk ?_ | refine jc ?_ | refine jl ?_ | refine jb ?_ | refine jo ?_ | refine ji ?_ | refine jx rfl ?_ | refine And.intro (by first | assumption | omega | (intros; omega)) ?_ | ((first | refine jR KL13 (by kernel_rfl) fun _ => ?_ | skip); simp only [KS, Nat.reduceAdd, Nat.reduceMul, Nat.reduceEqDiff, ↓reduceIte, forall_const, Int.cast_ofNat_Int, Int.reduceToNat, TF13, KL13, List.take_succ_cons, List.take_zero, List.drop_succ_cons, List.drop_zero]; (try simp (disch := omega) only [wrapI, tmodI, tdivI]); (fail_if_success (with_reducible show False))))
  refine SemW_box fun pt w1 h1 => SemW_box fun pf w2 h2 => SemW_box fun pp w3 h3 => ?_
  have x3 := h1.ext.trans (h2.ext.trans h3.ext)
  have T : ∀ w', Ext w3 w' → AtN w' pt 0 (t.cs vl) := fun w' x => (h1.at_.ext (h2.ext.trans (h3.ext.trans x))).n
  have F : ∀ w', Ext w3 w' → AtN w' pf 0 (f.cs u0 u1 u2) := fun w' x => (h2.at_.ext (h3.ext.trans x)).n
  have P : ∀ w', Ext w3 w' → AtN w' pp 0 (p.cs v0 v1 v2) := fun w' x => (h3.at_.ext x).n
  simp only [TimeD.cs, TariffD.cs, PlanD.cs, AtN, KS, Nat.reduceAdd, Nat.reduceMul, Nat.reduceEqDiff, ↓reduceIte, UT] at T F P
  have t3 := T w3 (Ext.refl _)
  have f3 := F w3 (Ext.refl _)
  have p3 := P w3 (Ext.refl _)
  (repeat first | with_reducible first | refine jq ?_ | refine jk ?_ | refine jc ?_ | refine jl ?_ | refine jb ?_ | refine jo ?_ | refine ji ?_ | refine jx rfl ?_ | refine And.intro (by first | assumption | omega | (intros; omega)) ?_ | ((first | refine jR KL13 (by kernel_rfl) fun _ => ?_ | skip); simp only [KS, Nat.reduceAdd, Nat.reduceMul, Nat.reduceEqDiff, ↓reduceIte, forall_const, Int.cast_ofNat_Int, Int.reduceToNat, TF13, KL13, List.take_succ_cons, List.take_zero, List.drop_succ_cons, List.drop_zero, t3, f3, p3]; (try simp (disch := omega) only [wrapI, tmodI, tdivI]); (fail_if_success (with_reducible show False))))
  refine rcostW rfl (hl.ext x3) (hT.ext x3) (hP.ext x3) fun w4 x4 => ?_
  have y4 := x3.trans x4
  (repeat first | with_reducible first | refine jq ?_ | refine jk ?_ | refine jc ?_ | refine jl ?_ | refine jb ?_ | refine jo ?_ | refine ji ?_ | refine jx rfl ?_ | refine And.intro (by first | assumption | omega | (intros; omega)) ?_ | ((first | refine jR KL13 (by kernel_rfl) fun _ => ?_ | skip); simp only [KS, Nat.reduceAdd, Nat.reduceMul, Nat.reduceEqDiff, ↓reduceIte, forall_const, Int.cast_ofNat_Int, Int.reduceToNat, TF13, KL13, List.take_succ_cons, List.take_zero, List.drop_succ_cons, List.drop_zero]; (try simp (disch := omega) only [wrapI, tmodI, tdivI]); (fail_if_success (with_reducible show False))))
  refine Run_condS (fun _ => rfl) (fun h => ?_) (fun h => ?_)
  · simp at h
    (repeat first | with_reducible first | refine jq ?_ | refine jk ?_ | refine jc ?_ | refine jl ?_ | refine jb ?_ | refine jo ?_ | refine ji ?_ | refine jx rfl ?_ | refine And.intro (by first | assumption | omega | (intros; omega)) ?_ | ((first | refine jR KL13 (by kernel_rfl) fun _ => ?_ | skip); simp only [KS, Nat.reduceAdd, Nat.reduceMul, Nat.reduceEqDiff, ↓reduceIte, forall_const, Int.cast_ofNat_Int, Int.reduceToNat, TF13, KL13, List.take_succ_cons, List.take_zero, List.drop_succ_cons, List.drop_zero]; (try simp (disch := omega) only [wrapI, tmodI, tdivI]); (fail_if_success (with_reducible show False))))
    refine Run_ret ?_
    simp [Rets, RetM, resV, fnd, oneOr, MvRet, Fd.cover, h]
    exact ⟨y4, Sl.nil _⟩
  simp at h
  have hc := h
  obtain ⟨_, _, hfm, r0, r1, n0, n1, _⟩ := cost_ok hc
  obtain ⟨hrn, hln, hlo, q0, q1, hxo⟩ := line_ok hc
  have hres : Fd.cover t f p run handed = if handed < 0 ∨ (Fd.lineOf t p run).Legs.length < handed then ([], 1) else (Fd.covs (Fd.cost t f p run).1 run ((Fd.lineOf t p run).Offices.take handed.toNat), 0) := by
    unfold Fd.cover; rw [if_neg (by simp [hc])]
  obtain ⟨l0, l1, l2, l3, e1, e2, hR⟩ := (hl.ext y4).line hln
  have Q : ∀ w', Ext w w' → AtN w' ((slAt v0).add (run.toNat * 3)) 0 p.Runs[run.toNat].cs := fun w' x => ((hP.r.ext x).runD hrn).1
  have hone := hR.one
  rw [hlo] at hxo hres
  generalize hxx : t.Lines[p.Runs[run.toNat].Line.toNat] = x at *
  generalize hrr : p.Runs[run.toNat] = r at *
  generalize (Fd.cost t f p run).1 = n at *
  simp only [RunD.cs, AtN, KS, Nat.reduceAdd, Nat.reduceMul, Nat.reduceEqDiff, ↓reduceIte, UT] at Q
  simp only [LineD.cs] at hone
  (repeat with_reducible first | refine jq ?_ | refine jk ?_ | refine jc ?_ | refine jl ?_ | refine jb ?_ | refine jo ?_ | refine ji ?_ | refine jx rfl ?_)
  refine Run_ec (id := 4) KL13 (.first 0 (.first 1 (.first 2 (.first 3 (.first 4 (.first 5 (.first 6 (.first 7 (.first 8 (.first 9 (.alt 10 (.alt 11 .done .stop) .stop))))))))))) mixed (by kernel_rfl) (by kernel_rfl) fun w7 x7 _ => ?_
  have t7 := T w7 (x4.trans x7)
  have p7 := P w7 (x4.trans x7)
  have q7 := Q w7 (y4.trans x7)
  have e7 := (e2.ext x7).n
  simp only [LineD.cs, AtN, KS, Nat.reduceAdd, Nat.reduceMul, Nat.reduceEqDiff, ↓reduceIte, UT] at e7
  (try simp only [KS, Nat.reduceAdd, Nat.reduceMul, Nat.reduceEqDiff, ↓reduceIte, forall_const, Int.cast_ofNat_Int, Int.reduceToNat, List.take_succ_cons, List.take_zero, List.drop_succ_cons, List.drop_zero, TF13, KL13, ec, t7, p7, hP.r.s, hP.r.len, hl.s, hl.len, q7, e7]); (try simp (disch := omega) only [wrapI, tmodI, tdivI])
  (try simp only [KS, Nat.reduceAdd, Nat.reduceMul, Nat.reduceEqDiff, ↓reduceIte, forall_const, Int.cast_ofNat_Int, Int.reduceToNat, List.take_succ_cons, List.take_zero, List.drop_succ_cons, List.drop_zero, TF13, KL13, ec, t7, p7, hP.r.s, hP.r.len, hl.s, hl.len, q7, e7]); (try simp (disch := omega) only [wrapI, tmodI, tdivI])
  refine ⟨by omega, by omega, Ext.refl _, SemW_allocT ti55 fun px w8 h8 => ⟨h8.ext, ?_⟩⟩
  have b8 := h8.blk
  refine SemW_setW (by rw [cells55]; decide) (by rw [cells55]; rfl) h8.row (by rw [cells55]; rfl) (by simpa [Value.cells] using hone) fun w9 r9 k9 z9 => ?_
  have r9 : Row w9 px 55 (x.cs l0 l1 l2 l3) := by simpa [Value.cells, LineD.cs] using r9
  have x9 : Ext w7 w9 := Keep.ext h8.ext k9 fun q hq => by omega
  refine ⟨x9, ?_⟩
  have y9 := y4.trans (x7.trans x9)
  have hR9 := hR.ext (x7.trans x9)
  have q9 := r9.n
  have cap0 := hR9.o.cap
  have hll := hR9.l.len
  have hol := hR9.o.len
  simp only [LineD.cs, AtN, KS, Nat.reduceAdd, Nat.reduceMul, Nat.reduceEqDiff, ↓reduceIte, UT] at q9
  have ho2 := hxo.o9
  have ho1 := hxo.l1
  (repeat first | with_reducible first | refine jq ?_ | refine jk ?_ | refine jc ?_ | refine jl ?_ | refine jb ?_ | refine jo ?_ | refine ji ?_ | refine jx rfl ?_ | refine And.intro (by first | assumption | omega | (intros; omega)) ?_ | ((first | refine jR KL13 (by kernel_rfl) fun _ => ?_ | skip); simp only [KS, Nat.reduceAdd, Nat.reduceMul, Nat.reduceEqDiff, ↓reduceIte, forall_const, Int.cast_ofNat_Int, Int.reduceToNat, TF13, KL13, List.take_succ_cons, List.take_zero, List.drop_succ_cons, List.drop_zero, q9, hR9.l.s, hR9.l.len]; (try simp (disch := omega) only [wrapI, tmodI, tdivI]); (fail_if_success (with_reducible show False))))
  refine Run_condS (fun _ => rfl) (fun h => ?_) (fun h => ?_)
  · simp at h
    (repeat first | with_reducible first | refine jq ?_ | refine jk ?_ | refine jc ?_ | refine jl ?_ | refine jb ?_ | refine jo ?_ | refine ji ?_ | refine jx rfl ?_ | refine And.intro (by first | assumption | omega | (intros; omega)) ?_ | ((first | refine jR KL13 (by kernel_rfl) fun _ => ?_ | skip); simp only [KS, Nat.reduceAdd, Nat.reduceMul, Nat.reduceEqDiff, ↓reduceIte, forall_const, Int.cast_ofNat_Int, Int.reduceToNat, TF13, KL13, List.take_succ_cons, List.take_zero, List.drop_succ_cons, List.drop_zero]; (try simp (disch := omega) only [wrapI, tmodI, tdivI]); (fail_if_success (with_reducible show False))))
    refine Run_ret ?_
    rw [if_pos (by omega)] at hres
    simp [Rets, RetM, resV, fnd, oneOr, MvRet, hres]
    exact ⟨y9, Sl.nil _⟩
  · simp at h
    rw [if_neg (by omega)] at hres
    have htake : ∀ o ∈ x.Offices.take handed.toNat, 0 ≤ o ∧ o ≤ 24 := fun o ho => by
      have := hxo.s o (List.mem_of_mem_take ho)
      have := (Tt.chk_ok (cost_ok hc).1).o
      omega
    have hmi := covs_mi ⟨n0, n1⟩ hr htake (by simp; omega)
    have htl : (x.Offices.take handed.toNat).length = handed.toNat := by simp; omega
    (repeat first | with_reducible first | refine jq ?_ | refine jk ?_ | refine jc ?_ | refine jl ?_ | refine jb ?_ | refine jo ?_ | refine ji ?_ | refine jx rfl ?_ | refine And.intro (by first | assumption | omega | (intros; omega)) ?_ | ((first | refine jR KL13 (by kernel_rfl) fun _ => ?_ | skip); simp only [KS, Nat.reduceAdd, Nat.reduceMul, Nat.reduceEqDiff, ↓reduceIte, forall_const, Int.cast_ofNat_Int, Int.reduceToNat, TF13, KL13, List.take_succ_cons, List.take_zero, List.drop_succ_cons, List.drop_zero]; (try simp (disch := omega) only [wrapI, tmodI, tdivI]); (fail_if_success (with_reducible show False))))
    refine SemW_buildF (α := MoveD) (W := w9) Try.underlying37 ti45 rfl (by decide) (Ext.refl _) [] [] rfl rfl (Cs.nil _) (by decide) fun p0 w0 b0 _ x0 => ?_
    (repeat first | with_reducible first | refine jq ?_ | refine jk ?_ | refine jc ?_ | refine jl ?_ | refine jb ?_ | refine jo ?_ | refine ji ?_ | refine jx rfl ?_ | refine And.intro (by first | assumption | omega | (intros; omega)) ?_ | ((first | refine jR KL13 (by kernel_rfl) fun _ => ?_ | skip); simp only [KS, Nat.reduceAdd, Nat.reduceMul, Nat.reduceEqDiff, ↓reduceIte, forall_const, Int.cast_ofNat_Int, Int.reduceToNat, TF13, KL13, List.take_succ_cons, List.take_zero, List.drop_succ_cons, List.drop_zero]; (try simp (disch := omega) only [wrapI, tmodI, tdivI]); (fail_if_success (with_reducible show False))))
    refine Run_loopV [15, 16, 50] (σ := Nat × Value) (fun q => [(16, some (.int .i64 q.1)), (15, some q.2)]) (fun q w' => q.1 ≤ handed.toNat ∧ BufL (α := MoveD) 45 w9 w' q.2 ((Fd.covs n run (x.Offices.take handed.toNat)).take q.1)) (fun q => handed.toNat - q.1) (0, .slice (some p0) 0 0) (by simp [SubB, fnd]) ⟨by simp, by simpa using b0⟩ ?_
    rintro ⟨k, vm⟩ w2' ⟨hk, hb⟩
    simp only at hk hb
    have hbl := hb.isS
    rw [List.length_take, Fd.covs_len, htl] at hbl
    have xb := hb.ext0
    have qb := (r9.at_.ext xb).n
    simp only [LineD.cs, AtN, KS, Nat.reduceAdd, Nat.reduceMul, Nat.reduceEqDiff, ↓reduceIte, UT] at qb
    (repeat first | with_reducible first | refine jq ?_ | refine jk ?_ | refine jc ?_ | refine jl ?_ | refine jb ?_ | refine jo ?_ | refine ji ?_ | refine jx rfl ?_ | refine And.intro (by first | assumption | omega | (intros; omega)) ?_ | ((first | refine jR KL13 (by kernel_rfl) fun _ => ?_ | skip); simp only [KS, Nat.reduceAdd, Nat.reduceMul, Nat.reduceEqDiff, ↓reduceIte, forall_const, Int.cast_ofNat_Int, Int.reduceToNat, TF13, KL13, List.take_succ_cons, List.take_zero, List.drop_succ_cons, List.drop_zero]; (try simp (disch := omega) only [wrapI, tmodI, tdivI]); (fail_if_success (with_reducible show False))))
    refine Run_condS (fun _ => rfl) (fun h => ?_) (fun h => ?_)
    · simp at h
      have hkl : k < handed.toNat := by omega
      obtain ⟨g1, g2, g3⟩ := (hR9.o.ext xb).get (show k < x.Offices.length by omega)
      have hkt : k < (x.Offices.take handed.toNat).length := by omega
      have ho : x.Offices[k]'(by omega) = (x.Offices.take handed.toNat)[k] := by simp
      have hob := htake _ (List.getElem_mem hkt)
      rw [ho] at g1
      have hmk := hmi _ (List.getElem_mem (show k < (Fd.covs n run (x.Offices.take handed.toNat)).length by rw [Fd.covs_len]; exact hkt))
      rw [Fd.covs_get _ hkt] at hmk
      have htk := Fd.covs_take (n := n) (run := run) hkt
      generalize (x.Offices.take handed.toNat)[k] = o at *
      (repeat first | with_reducible first | refine jq ?_ | refine jk ?_ | refine jc ?_ | refine jl ?_ | refine jb ?_ | refine jo ?_ | refine ji ?_ | refine jx rfl ?_ | refine And.intro (by first | assumption | omega | (intros; omega)) ?_ | ((first | refine jR KL13 (by kernel_rfl) fun _ => ?_ | skip); simp only [KS, Nat.reduceAdd, Nat.reduceMul, Nat.reduceEqDiff, ↓reduceIte, forall_const, Int.cast_ofNat_Int, Int.reduceToNat, TF13, KL13, List.take_succ_cons, List.take_zero, List.drop_succ_cons, List.drop_zero, qb, hR9.o.s, hR9.o.len, g1, g2]; (try simp (disch := omega) only [wrapI, tmodI, tdivI]); (fail_if_success (with_reducible show False))))
      refine ⟨.agg (Fd.covM n run k o).cs.toArray, fun w' => by kernel_rfl, ?_⟩
      refine SemW_append1F (α := MoveD) (X := .agg (Fd.covM n run k o).cs.toArray) (x := Fd.covM n run k o) Try.underlying37 ti45 rfl (by decide) hb ⟨rfl, hmk⟩ (by simp [maxLen, Fd.covs_len]; omega) fun u v' w3' b3 _ x3' _ => ?_
      rw [← htk] at b3
      (repeat first | with_reducible first | refine jq ?_ | refine jk ?_ | refine jc ?_ | refine jl ?_ | refine jb ?_ | refine jo ?_ | refine ji ?_ | refine jx rfl ?_ | refine And.intro (by first | assumption | omega | (intros; omega)) ?_ | ((first | refine jR KL13 (by kernel_rfl) fun _ => ?_ | skip); simp only [KS, Nat.reduceAdd, Nat.reduceMul, Nat.reduceEqDiff, ↓reduceIte, forall_const, Int.cast_ofNat_Int, Int.reduceToNat, TF13, KL13, List.take_succ_cons, List.take_zero, List.drop_succ_cons, List.drop_zero]; (try simp (disch := omega) only [wrapI, tmodI, tdivI]); (fail_if_success (with_reducible show False))))
      refine Run_lp ⟨(k + 1, v'), ?_, ⟨by simp only; omega, b3⟩, by simp only; omega⟩
      simp [SubB, fnd, strike, has]
    · simp at h
      obtain rfl : k = handed.toNat := by omega
      rw [List.take_of_length_le (by rw [Fd.covs_len]; omega)] at hb
      (repeat first | with_reducible first | refine jq ?_ | refine jk ?_ | refine jc ?_ | refine jl ?_ | refine jb ?_ | refine jo ?_ | refine ji ?_ | refine jx rfl ?_ | refine And.intro (by first | assumption | omega | (intros; omega)) ?_ | ((first | refine jR KL13 (by kernel_rfl) fun _ => ?_ | skip); simp only [KS, Nat.reduceAdd, Nat.reduceMul, Nat.reduceEqDiff, ↓reduceIte, forall_const, Int.cast_ofNat_Int, Int.reduceToNat, TF13, KL13, List.take_succ_cons, List.take_zero, List.drop_succ_cons, List.drop_zero]; (try simp (disch := omega) only [wrapI, tmodI, tdivI]); (fail_if_success (with_reducible show False))))
      refine Run_ret ?_
      simp [Rets, RetM, resV, fnd, oneOr, MvRet, hres]
      exact ⟨y9.trans hb.ext0, hb.sl (by rw [Fd.covs_len]; omega)⟩
def few40 (t : TimeD) (f : TariffD) (p : PlanD) : Bool := few20 t 0 0 && decide (f.Base.length ≤ 20 ∧ f.Leg.length ≤ 20 ∧ f.Tiers.length ≤ 40 ∧ p.Runs.length ≤ 20 ∧ p.Covers.length ≤ 40)
theorem rfFew40 (vl v0 v1 v2 u0 u1 u2 : Value) (t : TimeD) (f : TariffD) (p : PlanD) (w : World) (hl : Sl w vl t.Lines) (hT : TarR w f u0 u1 u2) (hP : PlanR w p v0 v1 v2) :
    Calls Try.prog 9 #[.agg (t.cs vl).toArray, .agg (f.cs u0 u1 u2).toArray, .agg (p.cs v0 v1 v2).toArray] w fun e w' => e = .returned (.bool (few40 t f p)) ∧ Ext w w' := by
  have l1 := hT.b.len
  have l2 := hT.l.len
  have l3 := hT.t.len
  have l4 := hP.r.len
  have l5 := hP.c.len
  refine Calls_of_Run (args := [.agg (t.cs vl).toArray, .agg (f.cs u0 u1 u2).toArray, .agg (p.cs v0 v1 v2).toArray]) (n := 39) (rs := [.tmp 6]) Try.func9 rfl rfl rfl (by simp) ?_
  (repeat first | with_reducible first | refine jq ?_ | refine jk ?_ | refine jc ?_ | refine jl ?_ | refine jb ?_ | refine jo ?_ | refine ji ?_ | refine jx rfl ?_ | refine And.intro (by first | assumption | omega | (intros; omega)) ?_ | ((first | refine jR KL9 (by kernel_rfl) fun _ => ?_ | skip); simp only [KS, Nat.reduceAdd, Nat.reduceMul, Nat.reduceEqDiff, ↓reduceIte, forall_const, Int.cast_ofNat_Int, Int.reduceToNat, TF9, KL9]; (try simp (disch := omega) only [wrapI, tmodI, tdivI]); (fail_if_success (with_reducible show False))))
  refine SemW_box fun pt w1 h1 => SemW_box fun pf w2 h2 => SemW_box fun pp w3 h3 => ?_
  have x3 := h1.ext.trans (h2.ext.trans h3.ext)
  have T : ∀ w', Ext w3 w' → AtN w' pt 0 (t.cs vl) := fun w' x => (h1.at_.ext (h2.ext.trans (h3.ext.trans x))).n
  have F : ∀ w', Ext w3 w' → AtN w' pf 0 (f.cs u0 u1 u2) := fun w' x => (h2.at_.ext (h3.ext.trans x)).n
  have P : ∀ w', Ext w3 w' → AtN w' pp 0 (p.cs v0 v1 v2) := fun w' x => (h3.at_.ext x).n
  simp only [TimeD.cs, TariffD.cs, PlanD.cs, AtN, KS, Nat.reduceAdd, Nat.reduceMul, Nat.reduceEqDiff, ↓reduceIte, UT] at T F P
  have t3 := T w3 (Ext.refl _)
  (repeat first | with_reducible first | refine jq ?_ | refine jk ?_ | refine jc ?_ | refine jl ?_ | refine jb ?_ | refine jo ?_ | refine ji ?_ | refine jx rfl ?_ | refine And.intro (by first | assumption | omega | (intros; omega)) ?_ | ((first | refine jR KL9 (by kernel_rfl) fun _ => ?_ | skip); simp only [KS, Nat.reduceAdd, Nat.reduceMul, Nat.reduceEqDiff, ↓reduceIte, forall_const, Int.cast_ofNat_Int, Int.reduceToNat, TF9, KL9, t3]; (try simp (disch := omega) only [wrapI, tmodI, tdivI]); (fail_if_success (with_reducible show False))))
  refine CallW_pure call21 (rfFew20 vl t 0 0 w3 (hl.ext x3)) fun w4 x4 => ?_
  have f4 := F w4 x4
  have p4 := P w4 x4
  (repeat first | with_reducible first | refine jq ?_ | refine jk ?_ | refine jc ?_ | refine jl ?_ | refine jb ?_ | refine jo ?_ | refine ji ?_ | refine jx rfl ?_ | refine And.intro (by first | assumption | omega | (intros; omega)) ?_ | ((first | refine jR KL9 (by kernel_rfl) fun _ => ?_ | skip); simp only [KS, Nat.reduceAdd, Nat.reduceMul, Nat.reduceEqDiff, ↓reduceIte, forall_const, Int.cast_ofNat_Int, Int.reduceToNat, TF9, KL9, f4, p4, hT.b.s, hT.b.len, hT.l.s, hT.l.len, hT.t.s, hT.t.len, hP.r.s, hP.r.len, hP.c.s, hP.c.len]; (try simp (disch := omega) only [wrapI, tmodI, tdivI]); (fail_if_success (with_reducible show False))))
  refine Run_ret ?_
  simp only [Rets, RetM, resV, fnd, oneOr, ↓reduceIte]
  refine ⟨_, rfl, ?_, x3.trans x4⟩
  congr 2
  unfold few40
  cases few20 t 0 0 with
  | false => simp
  | true => rw [Bool.eq_iff_iff]; simp; omega
theorem eqM (a b : MoveD) : (a.No == b.No && (a.From == b.From && (a.To == b.To && (a.Amount == b.Amount && (a.Why == b.Why && (a.Run == b.Run && true)))))) = decide (a = b) := by
  rw [Bool.eq_iff_iff]
  cases a; cases b
  simp
theorem rfSame (va vb : Value) (l m : List MoveD) (w : World) (hx : Sl w va l) (hy : Sl w vb m) : Calls Try.prog 14 #[va, vb] w fun e w' => e = .returned (.bool (decide (l = m))) ∧ Ext w w' := by
  have hn := hx.small
  refine Calls_of_Run (args := [va, vb]) (n := 26) (rs := [.tmp 4]) Try.func14 rfl rfl rfl (by simp) ?_
  (repeat first | with_reducible first | refine jq ?_ | refine jk ?_ | refine jc ?_ | refine jl ?_ | refine jb ?_ | refine jo ?_ | refine ji ?_ | refine jx rfl ?_ | refine And.intro (by first | assumption | omega | (intros; omega)) ?_ | ((first | refine jR KL14 (by kernel_rfl) fun _ => ?_ | refine jD (id := 6) KL14 mixed (by kernel_rfl) (by kernel_rfl) fun _ => ?_ | skip); simp only [KS, Nat.reduceAdd, Nat.reduceMul, Nat.reduceEqDiff, ↓reduceIte, forall_const, Int.cast_ofNat_Int, Int.reduceToNat, TF14, KL14, hx.s, hx.len, hy.s, hy.len]; (try simp (disch := omega) only [wrapI, tmodI, tdivI]); (fail_if_success (with_reducible show False))))
  refine Run_condS (fun _ => rfl) (fun h => ?_) (fun h => ?_)
  · (repeat first | with_reducible first | refine jq ?_ | refine jk ?_ | refine jc ?_ | refine jl ?_ | refine jb ?_ | refine jo ?_ | refine ji ?_ | refine jx rfl ?_ | refine And.intro (by first | assumption | omega | (intros; omega)) ?_ | ((first | refine jR KL14 (by kernel_rfl) fun _ => ?_ | refine jD (id := 6) KL14 mixed (by kernel_rfl) (by kernel_rfl) fun _ => ?_ | skip); simp only [KS, Nat.reduceAdd, Nat.reduceMul, Nat.reduceEqDiff, ↓reduceIte, forall_const, Int.cast_ofNat_Int, Int.reduceToNat, TF14, KL14]; (try simp (disch := omega) only [wrapI, tmodI, tdivI]); (fail_if_success (with_reducible show False))))
    refine Run_ret ?_
    simp at h
    have : decide (l = m) = false := by simp; intro e; subst e; omega
    simp [Rets, RetM, resV, fnd, oneOr, this, Ext.refl]
  · simp at h
    have hl : l.length = m.length := by omega
    (repeat first | with_reducible first | refine jq ?_ | refine jk ?_ | refine jc ?_ | refine jl ?_ | refine jb ?_ | refine jo ?_ | refine ji ?_ | refine jx rfl ?_ | refine And.intro (by first | assumption | omega | (intros; omega)) ?_ | ((first | refine jR KL14 (by kernel_rfl) fun _ => ?_ | refine jD (id := 6) KL14 mixed (by kernel_rfl) (by kernel_rfl) fun _ => ?_ | skip); simp only [KS, Nat.reduceAdd, Nat.reduceMul, Nat.reduceEqDiff, ↓reduceIte, forall_const, Int.cast_ofNat_Int, Int.reduceToNat, TF14, KL14]; (try simp (disch := omega) only [wrapI, tmodI, tdivI]); (fail_if_success (with_reducible show False))))
    refine Run_loopV [4, 5, 14, 25] (σ := Nat) (fun k => [(5, some (.int .i64 k))]) (fun k w' => k ≤ l.length ∧ (∀ j (h : j < l.length), j < k → l[j] = m[j]) ∧ Ext w w') (fun k => l.length - k) 0 (by simp [SubB, fnd]) ⟨by omega, by simp, Ext.refl _⟩ ?_
    rintro k w3 ⟨hk, hf, x3⟩
    (repeat first | with_reducible first | refine jq ?_ | refine jk ?_ | refine jc ?_ | refine jl ?_ | refine jb ?_ | refine jo ?_ | refine ji ?_ | refine jx rfl ?_ | refine And.intro (by first | assumption | omega | (intros; omega)) ?_ | ((first | refine jR KL14 (by kernel_rfl) fun _ => ?_ | refine jD (id := 6) KL14 mixed (by kernel_rfl) (by kernel_rfl) fun _ => ?_ | skip); simp only [KS, Nat.reduceAdd, Nat.reduceMul, Nat.reduceEqDiff, ↓reduceIte, forall_const, Int.cast_ofNat_Int, Int.reduceToNat, TF14, KL14, hx.s, hx.len, hy.s, hy.len]; (try simp (disch := omega) only [wrapI, tmodI, tdivI]); (fail_if_success (with_reducible show False))))
    refine Run_condS (fun _ => rfl) (fun h => ?_) (fun h => ?_)
    · simp at h
      have hkl := h
      obtain ⟨f1, f2⟩ := (hx.ext x3).moveD h
      obtain ⟨g1, g2⟩ := (hy.ext x3).moveD (show k < m.length by omega)
      simp only [MoveD.cs, AtN, KS, Nat.reduceAdd, Nat.reduceMul, Nat.reduceEqDiff, ↓reduceIte, UT] at f1 g1
      (repeat first | with_reducible first | refine jq ?_ | refine jk ?_ | refine jc ?_ | refine jl ?_ | refine jb ?_ | refine jo ?_ | refine ji ?_ | refine jx rfl ?_ | refine And.intro (by first | assumption | omega | (intros; omega)) ?_ | ((first | refine jR KL14 (by kernel_rfl) fun _ => ?_ | refine jD (id := 6) KL14 mixed (by kernel_rfl) (by kernel_rfl) fun _ => ?_ | skip); simp only [KS, Nat.reduceAdd, Nat.reduceMul, Nat.reduceEqDiff, ↓reduceIte, forall_const, Int.cast_ofNat_Int, Int.reduceToNat, TF14, KL14, hx.s, hx.len, hy.s, hy.len, f1, g1]; (try simp (disch := omega) only [wrapI, tmodI, tdivI]); (fail_if_success (with_reducible show False))))
      refine ⟨by kernel_rfl, fun w4 x4 => ?_⟩
      rw [eqM]
      refine Run_condS (fun _ => rfl) (fun h => ?_) (fun h => ?_)
      · (repeat first | with_reducible first | refine jq ?_ | refine jk ?_ | refine jc ?_ | refine jl ?_ | refine jb ?_ | refine jo ?_ | refine ji ?_ | refine jx rfl ?_ | refine And.intro (by first | assumption | omega | (intros; omega)) ?_ | ((first | refine jR KL14 (by kernel_rfl) fun _ => ?_ | refine jD (id := 6) KL14 mixed (by kernel_rfl) (by kernel_rfl) fun _ => ?_ | skip); simp only [KS, Nat.reduceAdd, Nat.reduceMul, Nat.reduceEqDiff, ↓reduceIte, forall_const, Int.cast_ofNat_Int, Int.reduceToNat, TF14, KL14]; (try simp (disch := omega) only [wrapI, tmodI, tdivI]); (fail_if_success (with_reducible show False))))
        refine Run_ret ?_
        have : decide (l = m) = false := by
          simp at h ⊢; intro e; subst e; exact h rfl
        simp [Rets, RetM, resV, fnd, oneOr, this]
        exact x3.trans x4
      · (repeat first | with_reducible first | refine jq ?_ | refine jk ?_ | refine jc ?_ | refine jl ?_ | refine jb ?_ | refine jo ?_ | refine ji ?_ | refine jx rfl ?_ | refine And.intro (by first | assumption | omega | (intros; omega)) ?_ | ((first | refine jR KL14 (by kernel_rfl) fun _ => ?_ | refine jD (id := 6) KL14 mixed (by kernel_rfl) (by kernel_rfl) fun _ => ?_ | skip); simp only [KS, Nat.reduceAdd, Nat.reduceMul, Nat.reduceEqDiff, ↓reduceIte, forall_const, Int.cast_ofNat_Int, Int.reduceToNat, TF14, KL14]; (try simp (disch := omega) only [wrapI, tmodI, tdivI]); (fail_if_success (with_reducible show False))))
        refine Run_lp ⟨k + 1, ?_, ⟨by omega, fun j hj hjk => ?_, x3.trans x4⟩, by omega⟩
        · simp [SubB, fnd, strike, has]
        · by_cases e : j = k
          · subst e; simpa using h
          · exact hf j hj (by omega)
    · simp at h
      obtain rfl : k = l.length := by omega
      (repeat first | with_reducible first | refine jq ?_ | refine jk ?_ | refine jc ?_ | refine jl ?_ | refine jb ?_ | refine jo ?_ | refine ji ?_ | refine jx rfl ?_ | refine And.intro (by first | assumption | omega | (intros; omega)) ?_ | ((first | refine jR KL14 (by kernel_rfl) fun _ => ?_ | refine jD (id := 6) KL14 mixed (by kernel_rfl) (by kernel_rfl) fun _ => ?_ | skip); simp only [KS, Nat.reduceAdd, Nat.reduceMul, Nat.reduceEqDiff, ↓reduceIte, forall_const, Int.cast_ofNat_Int, Int.reduceToNat, TF14, KL14]; (try simp (disch := omega) only [wrapI, tmodI, tdivI]); (fail_if_success (with_reducible show False))))
      refine Run_ret ?_
      have : decide (l = m) = true := decide_eq_true (List.ext_getElem hl fun j h1 h2 => hf j h1 h1)
      simp [Rets, RetM, resV, fnd, oneOr, this, x3]
end Go.Proofs.Ytcncbmdkifdggaa
