import Derived.Test.YtbfhenoiienghaaGreatRbGx
import Derived.Test.YtbfhenoiienghaaGreatRbW22y
import Derived.Test.YtbfhenoiienghaaGreatRbGs
namespace Go.Proofs.YtbfhenoiienghaaGreat
open Go Go.Fk
set_option linter.unusedSimpArgs false
set_option linter.unusedVariables false
set_option maxRecDepth 100000
theorem OpB.at_ {W0 w w9 : World} {vb : Value} {opts : List (List RunD)} {q : Nat} (O : OpB W0 w vb opts q) (x : Ext w w9) : ∃ rs : List RawS, BufO (α := RawS) 30 W0.heap.size w9 vb rs ∧ rs.length = q ∧ (∀ k (h1 : k < rs.length) (h2 : k < opts.length), BufO (α := RunD) 50 0 w9 rs[k].v opts[k]) ∧ Ext W0 w9 ∧ W0.heap.size ≤ w9.heap.size := by
  obtain ⟨rs, c1, c2, c3⟩ := O.b
  have k := Keep.of_ext (S := fun _ => True) x
  exact ⟨rs, c1.keepQ k fun _ _ => trivial, c2, fun i h1 h2 => (c3 i h1 h2).keepQ k fun _ _ => trivial, O.e.trans x, (O.e.trans x).size⟩
theorem OpB.put {W0 w9 w10 : World} {vb v9 v10 : Value} {opts : List (List RunD)} {q : Nat} {rs : List RawS} {xs : List RunD} (x : Ext W0 w9) (c1 : BufO (α := RawS) 30 W0.heap.size w9 vb rs) (c2 : rs.length = q) (c3 : ∀ k (h1 : k < rs.length) (h2 : k < opts.length), BufO (α := RunD) 50 0 w9 rs[k].v opts[k])
    (b9 : BufO (α := RunD) 50 0 w9 v9 xs) (hx : ∀ h : q < opts.length, opts[q] = xs) (b10 : BufO (α := RawS) 30 W0.heap.size w10 v10 (rs ++ [⟨v9⟩])) (k10 : Keep (fun k => some k ≠ vb.ownBlock) w9 w10) : OpB W0 w10 v10 opts (q + 1) := by
  refine ⟨Keep.ext x k10 fun k hk e => by have := (c1.own_lt e.symm).1; omega, rs ++ [⟨v9⟩], b10, by simp [c2], fun k h1 h2 => ?_⟩
  by_cases hk : k < rs.length
  · rw [List.getElem_append_left hk]
    have d := c3 k hk h2
    exact d.keepQ k10 fun g hg => d.ne2 c1 (by decide) hg
  · have e : k = q := by simp at h1; omega
    subst e
    rw [hx h2, List.getElem_append_right (by omega)]
    simp only [c2, Nat.sub_self, List.getElem_cons_zero]
    exact b9.keepQ k10 fun g hg => b9.ne2 c1 (by decide) hg
theorem OpB.sl {W0 w : World} {vb : Value} {opts : List (List RunD)} {q : Nat} (O : OpB W0 w vb opts q) (hq : opts.length = q) (hn : q ≤ 1000000) (hs : ∀ o ∈ opts, o.length ≤ 1000000) : Sl w vb opts := by
  obtain ⟨rs, b1, b2, b3⟩ := O.b
  exact (b1.sl (by omega)).lists (by omega) fun i h1 h2 => (b3 i h1 h2).sl (by have := hs _ (List.getElem_mem h2); omega)
theorem opts_small {t : TimeD} {f : TariffD} {l : List OrderD} {p : PlanD} {run : Int} : ∀ o ∈ Rp.opts t f l p run l.length, o.length ≤ 1000000 := fun o ho => by
  unfold Rp.opts at ho
  obtain ⟨k, _, rfl⟩ := List.mem_map.1 ho
  unfold Rp.opt1
  split
  · have := opts_le (t := t) (f := f) (o := l.getD k default)
    have h2 := List.length_filter_le (fun y : RunD => decide ((Rp.runOf p k).At < y.At)) (Pl.options t f (l.getD k default)).1
    omega
  · simp
set_option maxHeartbeats 4000000 in
theorem rpOptions (vl u0 u1 u2 vo v0 v1 v2 : Value) (t : TimeD) (f : TariffD) (l : List OrderD) (p : PlanD) (run : Int) (w : World) (hl : Sl w vl t.Lines) (hT : TarR w f u0 u1 u2) (ho : Sl w vo l) (hP : PlanR w p v0 v1 v2) (hol : p.Of.length = l.length) (hin : ∀ k ∈ p.Of, 0 ≤ k ∧ k < p.Runs.length) (h64 : l.length ≤ 64) :
    Calls Tryz.prog 46 #[.agg (t.cs vl).toArray, .agg (f.cs u0 u1 u2).toArray, vo, .agg (p.cs v0 v1 v2).toArray, .int .i64 run] w fun e w' => ∃ v, e = .returned (.tuple #[v, .int .i64 (Rp.oErr t f l p run 0 l.length)]) ∧ Ext w w' ∧ (Rp.oErr t f l p run 0 l.length = 0 → Sl w' v (Rp.opts t f l p run l.length)) := by
  have hos := ho.s
  have hll := ho.len
  have rl := hP.r.len
  have ol := hP.o.len
  refine Calls_of_Run (args := [.agg (t.cs vl).toArray, .agg (f.cs u0 u1 u2).toArray, vo, .agg (p.cs v0 v1 v2).toArray, .int .i64 run]) (n := 60) (rs := [.tmp 10, .tmp 11]) Tryz.func46 rfl rfl rfl (by simp) ?_
  (repeat with_reducible first | refine js ?_ | refine ja ?_ | refine jw KL46 [] TF46 fun _ => ?_)
  refine SemW_box fun pt w1 h1 => SemW_box fun pf w2 h2 => SemW_box fun pp w3 h3 => ?_
  have x3 := h1.ext.trans (h2.ext.trans h3.ext)
  have T : ∀ w', Ext w3 w' → AtN w' pt 0 (t.cs vl) := fun w' x => (h1.at_.ext (h2.ext.trans (h3.ext.trans x))).n
  have F : ∀ w', Ext w3 w' → AtN w' pf 0 (f.cs u0 u1 u2) := fun w' x => (h2.at_.ext (h3.ext.trans x)).n
  have P : ∀ w', Ext w3 w' → AtN w' pp 0 (p.cs v0 v1 v2) := fun w' x => (h3.at_.ext x).n
  simp only [TimeD.cs, TariffD.cs, PlanD.cs, AtN, KS, Nat.reduceAdd, Nat.reduceMul, Nat.reduceEqDiff, ↓reduceIte, UT] at T F P
  (repeat with_reducible first | refine js ?_ | refine ja ?_ | refine jw KL46 [] (aa TF46 (aa hos hll)) fun _ => ?_)
  have hopl : (Rp.opts t f l p run l.length).length = l.length := by simp [Rp.opts]
  refine Run_loopV [10, 11, 12, 13, 14, 15, 18, 19, 40, 49] (σ := Nat × Value) (fun q => [(18, some (.int .i64 q.1)), (10, some q.2)]) (fun q w' => q.1 ≤ l.length ∧ OpB w3 w' q.2 (Rp.opts t f l p run l.length) q.1 ∧ Rp.oErr t f l p run q.1 (l.length - q.1) = Rp.oErr t f l p run 0 l.length) (fun q => l.length - q.1) (0, .slice none 0 0) (by simp [SubB, fnd]) ⟨by simp, ⟨Ext.refl _, [], BufO.nil, rfl, by simp⟩, rfl⟩ ?_
  rintro ⟨q, vb⟩ w7 ⟨hq, O7, hf⟩
  simp only at hq O7 hf
  (repeat with_reducible first | refine js ?_ | refine ja ?_ | refine jw KL46 [] TF46 fun _ => ?_)
  refine Run_condS (fun _ => rfl) (fun h => ?_) (fun h => ?_)
  · simp at h
    have hql : q < l.length := by omega
    have hqc : (q : Int) < l.length := by omega
    have hqo : q < p.Of.length := by omega
    have hqoc : (q : Int) < p.Of.length := by omega
    clear h
    have x7 := O7.e
    have y7 := x3.trans x7
    obtain ⟨g, oA, oB, hO⟩ := (ho.ext y7).ord hql
    have hone := hO.one
    have hOf := fun w' (x : Ext w7 w') => ((hP.o.ext (y7.trans x)).get hqo)
    have hk := hin _ (List.getElem_mem hqo)
    have hkg : p.Of.getD q 0 = p.Of[q] := by simp [List.getD_eq_getElem?_getD, hqo]
    have hrun : Rp.runOf p q = p.Runs.getD (p.Of[q]).toNat default := by unfold Rp.runOf; rw [hkg]
    have hlg : l.getD q default = l[q] := by simp [List.getD_eq_getElem?_getD, hql]
    have hoE : Rp.oErr t f l p run q (l.length - q) = if p.Of[q] = run ∧ (Pl.options t f l[q]).2 ≠ 0 then (Pl.options t f l[q]).2 else Rp.oErr t f l p run (q + 1) (l.length - (q + 1)) := by
      obtain ⟨m, hm⟩ : ∃ m, l.length - q = m + 1 := ⟨l.length - q - 1, by omega⟩
      rw [hm, show l.length - (q + 1) = m by omega]
      show (if p.Of.getD q 0 = run ∧ (Pl.options t f (l.getD q default)).2 ≠ 0 then _ else _) = _
      rw [hkg, hlg]
    rw [hoE] at hf
    have hget : ∀ h, (Rp.opts t f l p run l.length)[q]'h = if p.Of[q] = run then (Pl.options t f l[q]).1.filter (fun y => decide ((Rp.runOf p q).At < y.At)) else [Rp.runOf p q] := fun h => by
      simp only [Rp.opts, List.getElem_map, List.getElem_range]
      unfold Rp.opt1; rw [hkg, hlg]
    rw [hrun] at hget
    clear hoE
    generalize hke : p.Of[q] = k at *
    have hkl : k.toNat < p.Runs.length := by omega
    have hrg : p.Runs.getD k.toNat default = p.Runs[k.toNat] := by simp [List.getD_eq_getElem?_getD, hkl]
    rw [hrg] at hget
    have hRn := fun w' (x : Ext w7 w') => ((hP.r.ext (y7.trans x)).runD hkl)
    clear hrun hrg hlg hkg
    generalize p.Runs[k.toNat] = r at *
    generalize l[q] = o at *
    simp only [OrderD.cs, AtN, KS, Nat.reduceAdd, Nat.reduceMul, Nat.reduceEqDiff, ↓reduceIte, UT] at oA
    (repeat with_reducible first | refine js ?_ | refine ja ?_ | refine jw KL46 [] (aa TF46 (aa hos (aa hll oA))) fun _ => ?_)
    refine SemW_allocT ti48 fun pq w8 h8 => ?_
    have b8 := h8.blk
    (repeat with_reducible first | refine js ?_ | refine ja ?_ | refine jw KL46 [] TF46 fun _ => ?_)
    refine SemW_setW (by rw [cells48]; decide) (by rw [cells48]; rfl) h8.row (by rw [cells48]; rfl) (by exact hone) fun w9 r9 k9 z9 => ?_
    have r9 : Row w9 pq 48 (o.cs g) := r9
    have x9 : Ext w7 w9 := Keep.ext h8.ext k9 fun b hb => by omega
    let S : Nat → Prop := fun _ => True
    (repeat with_reducible first | refine jq ?_ | refine jk ?_ | refine jc ?_ | refine jl ?_ | refine jb ?_ | refine jo ?_ | refine ji ?_ | refine jx rfl ?_)
    refine Run_eh S [10] [(1, [10]), (3, [10]), (6, [10]), (8, [10])] (id := 4) KL46 (.first 0 (.first 1 (.first 2 (.first 3 (.first 4 (.first 5 (.first 6 (.first 7 (.first 8 (.alt true 9 (.alt true 10 (.done false) .stop) .stop)))))))))) mixed (by kernel_rfl) (by kernel_rfl) fun w10 x10 _ => ?_
    have z10 := x7.trans (x9.trans x10)
    have p10 := P w10 z10
    obtain ⟨c1, c2, c3⟩ := hOf w10 (x9.trans x10)
    have r10 := (hRn w10 (x9.trans x10)).1
    have rI := (hRn w10 (x9.trans x10)).2
    simp only [RunD.cs, AtN, KS, Nat.reduceAdd, Nat.reduceMul, Nat.reduceEqDiff, ↓reduceIte, UT] at r10
    (try simp (maxSteps := 5000000) only [KS, Nat.reduceAdd, Nat.reduceMul, Nat.reduceEqDiff, ↓reduceIte, forall_const, Int.cast_ofNat_Int, Int.reduceToNat, List.take_succ_cons, List.take_zero, List.drop_succ_cons, List.drop_zero, TF46, KL46, eh, gres, qopS, putL, ung, p10, hP.o.s, ol, hP.r.s, rl, c1, c2, r10]); (try simp (disch := omega) only [wrapI, tmodI, tdivI])
    refine ⟨trivial, trivial, ⟨by omega, by omega⟩, trivial, ⟨by omega, by omega⟩, trivial, Keep.refl _ _, ?_⟩
    refine SemW_allocT ti50 fun pr w11 h11 => ⟨Keep.of_ext h11.ext, ?_⟩
    have b11 := h11.blk
    refine SemW_setW (by rw [cells50]; decide) (by rw [cells50]; rfl) h11.row (by rw [cells50]; rfl) rfl fun w12 r12 k12 z12 => ⟨fun h => h.elim, ?_⟩
    have r12 : Row w12 pr 50 r.cs := r12
    have x12 : Ext w10 w12 := Keep.ext h11.ext k12 fun b hb => by omega
    have x712 := x9.trans (x10.trans x12)
    have n12 := r12.n
    simp only [RunD.cs, AtN, KS, Nat.reduceAdd, Nat.reduceMul, Nat.reduceEqDiff, ↓reduceIte, UT] at n12
    (repeat with_reducible first | refine js ?_ | refine ja ?_ | refine jw KL46 [] (aa TF46 n12) fun _ => ?_)
    refine SemW_buildSlice (vs := [.agg r.cs.toArray]) Tryz.underlying30 ti50 rfl rfl rfl (by simp [Value.cells, RunD.cs]) (by simp) fun pb w13 h13 => ?_
    have B13 : BufO (α := RunD) 50 0 w13 (.slice (some pb) 1 1) [r] := by
      have := BufL.new (α := RunD) (e := 50) (W := w12) (w := w12) (w' := w13) (p := pb) (css := [r.cs]) (xs := [r]) (by simpa [Value.cells] using h13) (Ext.refl _) (Cs.one ⟨rfl, rI⟩) (by simp [maxLen])
      exact this.o.mono (Nat.zero_le _)
    have x713 := x712.trans h13.ext
    have z13 := x7.trans x713
    have p13 := P w13 z13
    obtain ⟨d1, d2, d3⟩ := hOf w13 x713
    (repeat with_reducible first | refine js ?_ | refine ja ?_ | refine jw KL46 [] (aa TF46 (aa p13 (aa hP.o.s (aa ol (aa d1 d2))))) fun _ => ?_)
    by_cases hkr : k = run
    · subst hkr
      have hkk : (k == k) = true := by simp
      have t13 := T w13 z13
      have f13 := F w13 z13
      have o13 := (r9.ext (x10.trans (x12.trans h13.ext))).n
      simp only [OrderD.cs, AtN, KS, Nat.reduceAdd, Nat.reduceMul, Nat.reduceEqDiff, ↓reduceIte, UT] at o13
      refine Run_condS (fun _ => rfl) (fun _ => ?_) (fun h => by simp at h)
      (repeat with_reducible first | refine js ?_ | refine ja ?_ | refine jw KL46 [] (aa TF46 (aa t13 (aa f13 o13))) fun _ => ?_)
      have y13 := x3.trans z13
      refine CallW_gen call78 (plOptions vl t f u0 u1 u2 o g w13 (hl.ext y13) (hT.ext y13) (hO.ext x713)) fun e w14 ⟨v14, he14, x14, s14⟩ => ⟨_, he14, ?_⟩
      have x714 := x713.trans x14
      (repeat with_reducible first | refine js ?_ | refine ja ?_ | refine jw KL46 [] TF46 fun _ => ?_)
      refine Run_condS (fun _ => rfl) (fun h => ?_) (fun h => ?_)
      · have he2 : (Pl.options t f o).2 ≠ 0 := by simpa using h
        rw [if_pos ⟨rfl, he2⟩] at hf
        (repeat with_reducible first | refine js ?_ | refine ja ?_ | refine jw KL46 [] TF46 fun _ => ?_)
        refine Run_ret ?_
        simp only [Rets, RetM, resV, fnd, oneOr, ↓reduceIte, KS, Nat.reduceAdd, Nat.reduceMul, Nat.reduceEqDiff, ↓reduceIte, UT]
        refine ⟨_, rfl, _, rfl, ?_⟩
        exact ⟨.slice none 0 0, by rw [hf], y7.trans x714, fun h0 => (he2 (hf.trans h0)).elim⟩
      have he2 : (Pl.options t f o).2 = 0 := by simpa using h
      clear h
      rw [if_neg (by simp [he2])] at hf
      simp only [if_true] at hget
      (repeat with_reducible first | refine js ?_ | refine ja ?_ | refine jw KL46 [] TF46 fun _ => ?_)
      have rA : ∀ w', Ext w14 w' → At w' pr r.cs := fun w' x => (r12.ext (h13.ext.trans (x14.trans x))).at_
      refine CallW_gen call83 (rpKept v14 _ (Pl.options t f o).1 (fun y => decide (r.At < y.At)) w14 s14 (by have := opts_le (t := t) (f := f) (o := o); omega) fun y hy w' x' K hK => CallW_cl call84 (rpOpt1 pr r y w' (rA w' x')) fun e w'' ⟨he, hx⟩ => ⟨_, he, hK w'' hx⟩) fun e w15 ⟨v15, he15, x15, b15⟩ => ⟨_, he15, ?_⟩
      have x715 := x714.trans x15
      obtain ⟨rs, c1', c2', c3', xx, hB⟩ := O7.at_ x715
      (repeat with_reducible first | refine js ?_ | refine ja ?_ | refine jw KL46 [] TF46 fun _ => ?_)
      refine SemW_append1Q (α := RawS) Tryz.underlying82 ti30 rfl (by decide) c1' hB (x := ⟨v15⟩) (by rw [isS_c b15.isS.1]; exact ⟨rfl, b15.isS.1⟩) (by rw [c2']; simp only [maxLen]; omega) fun _ v16 w16 b16 k16 g16 => ?_
      (repeat with_reducible first | refine js ?_ | refine ja ?_ | refine jw KL46 [] TF46 fun _ => ?_)
      exact Run_lp ⟨(q + 1, v16), by simp [SubB, fnd, strike, has], ⟨by show q + 1 ≤ l.length; omega, OpB.put xx c1' c2' c3' (b15.mono (Nat.zero_le _)) hget b16 k16, hf⟩, by show l.length - (q + 1) < l.length - q; omega⟩
    · have hkk : (k == run) = false := by simpa using hkr
      rw [if_neg (by simp [hkr])] at hf
      simp only [if_neg hkr] at hget
      refine Run_condS (fun _ => rfl) (fun h => by simp [hkr] at h) (fun _ => ?_)
      obtain ⟨rs, c1', c2', c3', xx, hB⟩ := O7.at_ x713
      (repeat with_reducible first | refine js ?_ | refine ja ?_ | refine jw KL46 [] TF46 fun _ => ?_)
      refine SemW_append1Q (α := RawS) Tryz.underlying82 ti30 rfl (by decide) c1' hB (x := ⟨.slice (some pb) 1 1⟩) (by rw [isS_c B13.isS.1]; exact ⟨rfl, B13.isS.1⟩) (by rw [c2']; simp only [maxLen]; omega) fun _ v16 w16 b16 k16 g16 => ?_
      (repeat with_reducible first | refine js ?_ | refine ja ?_ | refine jw KL46 [] TF46 fun _ => ?_)
      exact Run_lp ⟨(q + 1, v16), by simp [SubB, fnd, strike, has], ⟨by show q + 1 ≤ l.length; omega, OpB.put xx c1' c2' c3' B13 hget b16 k16, hf⟩, by show l.length - (q + 1) < l.length - q; omega⟩
  · simp at h
    obtain rfl : q = l.length := by omega
    clear h
    rw [Nat.sub_self] at hf
    (repeat with_reducible first | refine js ?_ | refine ja ?_ | refine jw KL46 [] TF46 fun _ => ?_)
    refine Run_ret ?_
    simp only [Rets, RetM, resV, fnd, oneOr, ↓reduceIte, KS, Nat.reduceAdd, Nat.reduceMul, Nat.reduceEqDiff, ↓reduceIte, UT]
    refine ⟨_, rfl, _, rfl, ?_⟩
    exact ⟨vb, by rw [← hf]; rfl, x3.trans O7.e, fun _ => O7.sl hopl (by omega) opts_small⟩
end Go.Proofs.YtbfhenoiienghaaGreat
namespace Go.Fk
open Go
namespace Rp
section
variable {t : TimeD} {f : TariffD} {l : List OrderD} {covers : Int} {p : PlanD} {run : Int}
theorem repair_err (h : err t f l covers p ≠ 0) : repair t f l covers p run = (Pl.noPlan, false, err t f l covers p) := by unfold repair; rw [if_pos h]
theorem repair_arg (h : err t f l covers p = 0) (hr : run < 0 ∨ p.Runs.length ≤ run) : repair t f l covers p run = (Pl.noPlan, false, 1) := by unfold repair; rw [if_neg (by simp [h]), if_pos hr]
theorem repair_opt (h : err t f l covers p = 0) (hr : ¬ (run < 0 ∨ p.Runs.length ≤ run)) (ho : oErr t f l p run 0 l.length ≠ 0) : repair t f l covers p run = (Pl.noPlan, false, oErr t f l p run 0 l.length) := by unfold repair; rw [if_neg (by simp [h]), if_neg hr, if_pos ho]
theorem repair_ok (h : err t f l covers p = 0) (hr : ¬ (run < 0 ∨ p.Runs.length ≤ run)) (ho : oErr t f l p run 0 l.length = 0) : repair t f l covers p run = (mendPl l (mend t f l covers p run), (mend t f l covers p run).isSome, 0) := by
  unfold repair
  rw [if_neg (by simp [h]), if_neg hr, if_neg (by simp [ho])]
  cases mend t f l covers p run <;> rfl
theorem opts_run (h : err t f l covers p = 0) (ho : oErr t f l p run 0 l.length = 0) : ∀ o ∈ opts t f l p run l.length, ∀ r ∈ o, Tt.isRun t r = true := fun o ho' r hr => by
  have ok := opts_rok h ho
  obtain ⟨k, hk, rfl⟩ := List.getElem_of_mem ho'
  have := ok.m k (by rw [← ok.n]; exact hk) r (by rw [List.getD_eq_getElem?_getD, List.getElem?_eq_getElem hk]; exact hr)
  exact this.1
end
end Rp
theorem Rp.weakF_step {t : TimeD} {f : TariffD} {l : List OrderD} {covers : Int} {p : PlanD} {j n : Nat} (h : j < n) (a : List Int) : Rp.weakF t f l covers p j (n - j) a = if (Rp.repair t f l covers p j).2.2 ≠ 0 then ([], (Rp.repair t f l covers p j).2.2) else Rp.weakF t f l covers p (j + 1) (n - (j + 1)) (if (Rp.repair t f l covers p j).2.1 then a else a ++ [(j : Int)]) := by
  obtain ⟨m, hm⟩ : ∃ m, n - j = m + 1 := ⟨n - j - 1, by omega⟩
  rw [hm, show n - (j + 1) = m by omega]; rfl
end Go.Fk
namespace Go.Proofs.YtbfhenoiienghaaGreat
open Go Go.Fk
set_option linter.unusedSimpArgs false
set_option linter.unusedVariables false
set_option maxRecDepth 100000
set_option maxHeartbeats 4000000 in
theorem rpRepair (vl u0 u1 u2 vo v0 v1 v2 : Value) (t : TimeD) (f : TariffD) (l : List OrderD) (covers : Int) (p : PlanD) (run : Int) (w : World) (hl : Sl w vl t.Lines) (hT : TarR w f u0 u1 u2) (ho : Sl w vo l) (hP : PlanR w p v0 v1 v2) (hcv : I64 covers) :
    Calls Tryz.prog 16 #[.agg (t.cs vl).toArray, .agg (f.cs u0 u1 u2).toArray, vo, .int .i64 covers, .agg (p.cs v0 v1 v2).toArray, .int .i64 run] w fun e w' => ∃ a0 a1 a2, e = .returned (.tuple #[.agg ((Rp.repair t f l covers p run).1.cs a0 a1 a2).toArray, .bool (Rp.repair t f l covers p run).2.1, .int .i64 (Rp.repair t f l covers p run).2.2]) ∧ Ext w w' ∧ PlanR w' (Rp.repair t f l covers p run).1 a0 a1 a2 := by
  have rl := hP.r.len
  refine Calls_of_Run (args := [.agg (t.cs vl).toArray, .agg (f.cs u0 u1 u2).toArray, vo, .int .i64 covers, .agg (p.cs v0 v1 v2).toArray, .int .i64 run]) (n := 59) (rs := [.cell 12 32, .tmp 13, .tmp 14]) Tryz.func16 rfl rfl rfl (by simp) ?_
  (repeat with_reducible first | refine js ?_ | refine ja ?_ | refine jw KL16 [] TF16 fun _ => ?_)
  refine SemW_box fun pt w1 h1 => SemW_box fun pf w2 h2 => SemW_box fun pp w3 h3 => SemW_allocT ti32 fun pq w4 h4 => ?_
  have b4 := h4.blk
  have z1 := h1.size
  have z2 := h2.size
  have z3 := h3.size
  have z4 := h4.size
  have x4 := h1.ext.trans (h2.ext.trans (h3.ext.trans h4.ext))
  have T : ∀ w', Ext w4 w' → AtN w' pt 0 (t.cs vl) := fun w' x => (h1.at_.ext (h2.ext.trans (h3.ext.trans (h4.ext.trans x)))).n
  have F : ∀ w', Ext w4 w' → AtN w' pf 0 (f.cs u0 u1 u2) := fun w' x => (h2.at_.ext (h3.ext.trans (h4.ext.trans x))).n
  have P : ∀ w', Ext w4 w' → AtN w' pp 0 (p.cs v0 v1 v2) := fun w' x => (h3.at_.ext (h4.ext.trans x)).n
  have r4 : Row w4 pq 32 [.slice none 0 0, .slice none 0 0, .slice none 0 0] := h4.row
  have Q := fun w' x => (Row.ext r4 (w' := w') x).n
  simp only [TimeD.cs, TariffD.cs, PlanD.cs, AtN, KS, Nat.reduceAdd, Nat.reduceMul, Nat.reduceEqDiff, ↓reduceIte, UT] at T F P Q
  have t4 := T w4 (Ext.refl _)
  have f4 := F w4 (Ext.refl _)
  have p4 := P w4 (Ext.refl _)
  (repeat with_reducible first | refine js ?_ | refine ja ?_ | refine jw KL16 [] (aa TF16 (aa t4 (aa f4 p4))) fun _ => ?_)
  refine rpRightW (hl.ext x4) (hT.ext x4) (ho.ext x4) (hP.ext x4) fun w5 x5 => ?_
  (repeat with_reducible first | refine js ?_ | refine ja ?_ | refine jw KL16 [] TF16 fun _ => ?_)
  refine Run_condS (fun _ => rfl) (fun h => ?_) (fun h => ?_)
  · have he : Rp.err t f l covers p ≠ 0 := by simpa using h
    have q5 := Q w5 x5
    (repeat with_reducible first | refine js ?_ | refine ja ?_ | refine jw KL16 [] (aa TF16 q5) fun _ => ?_)
    refine SemW_setW (by rw [cells32]; decide) (by rw [cells32]; rfl) (r4.ext x5) (by rw [cells32]; rfl) rfl fun wz rz kz zz => ?_
    have ez := loadVar_at (P := Tryz.prog) (t := 32) (by kernel_rfl) (by rw [cells32]; decide) (by rw [cells32]; rfl) rz.at_
    (repeat with_reducible first | refine js ?_ | refine ja ?_ | refine jw KL16 [] TF16 fun _ => ?_)
    refine Run_ret ?_
    simp only [Rets, RetM, resV, fnd, oneOr, ↓reduceIte, KS, Nat.reduceAdd, Nat.reduceMul, Nat.reduceEqDiff, ↓reduceIte, UT]
    rw [Rp.repair_err he]
    refine ⟨pq, _, rfl, ez, ?_⟩
    simp [resV, oneOr, fnd, Pl.noPlan, PlanD.cs]
    exact ⟨.slice none 0 0, .slice none 0 0, .slice none 0 0, rfl, Keep.ext (x4.trans x5) kz fun k hk => by omega, Sl.nil _, Sl.nil _, Sl.nil _⟩
  have he : Rp.err t f l covers p = 0 := by simpa using h
  clear h
  obtain ⟨h0, hA⟩ := Rp.err_acc he
  have h64 := (Pl.err_ok h0).n
  have hcr := Pl.err_crowd h0
  have p5 := P w5 x5
  (repeat with_reducible first | refine js ?_ | refine ja ?_ | refine jw KL16 [] (aa TF16 (aa p5 (aa hP.r.s (aa rl KX)))) fun _ => ?_)
  refine Run_condS (fun _ => rfl) (fun h => ?_) (fun h => ?_)
  · have hr : run < 0 ∨ p.Runs.length ≤ run := by simpa using h
    have q5 := Q w5 x5
    (repeat with_reducible first | refine js ?_ | refine ja ?_ | refine jw KL16 [] (aa TF16 q5) fun _ => ?_)
    refine SemW_setW (by rw [cells32]; decide) (by rw [cells32]; rfl) (r4.ext x5) (by rw [cells32]; rfl) rfl fun wz rz kz zz => ?_
    have ez := loadVar_at (P := Tryz.prog) (t := 32) (by kernel_rfl) (by rw [cells32]; decide) (by rw [cells32]; rfl) rz.at_
    (repeat with_reducible first | refine js ?_ | refine ja ?_ | refine jw KL16 [] TF16 fun _ => ?_)
    refine Run_ret ?_
    simp only [Rets, RetM, resV, fnd, oneOr, ↓reduceIte, KS, Nat.reduceAdd, Nat.reduceMul, Nat.reduceEqDiff, ↓reduceIte, UT]
    rw [Rp.repair_arg he hr]
    refine ⟨pq, _, rfl, ez, ?_⟩
    simp [resV, oneOr, fnd, Pl.noPlan, PlanD.cs]
    exact ⟨.slice none 0 0, .slice none 0 0, .slice none 0 0, rfl, Keep.ext (x4.trans x5) kz fun k hk => by omega, Sl.nil _, Sl.nil _, Sl.nil _⟩
  have hr : ¬ (run < 0 ∨ p.Runs.length ≤ run) := by simpa using h
  clear h
  have t5 := T w5 x5
  have f5 := F w5 x5
  have y5 := x4.trans x5
  (repeat with_reducible first | refine js ?_ | refine ja ?_ | refine jw KL16 [] (aa TF16 (aa t5 (aa f5 p5))) fun _ => ?_)
  refine CallW_gen call46 (rpOptions vl u0 u1 u2 vo v0 v1 v2 t f l p run w5 (hl.ext y5) (hT.ext y5) (ho.ext y5) (hP.ext y5) hA.ol hA.ins h64) fun e w6 ⟨v6, he6, x6, s6⟩ => ⟨_, he6, ?_⟩
  have y6 := x5.trans x6
  (repeat with_reducible first | refine js ?_ | refine ja ?_ | refine jw KL16 [] TF16 fun _ => ?_)
  refine Run_condS (fun _ => rfl) (fun h => ?_) (fun h => ?_)
  · have hoe : Rp.oErr t f l p run 0 l.length ≠ 0 := by simpa using h
    have q6 := Q w6 y6
    (repeat with_reducible first | refine js ?_ | refine ja ?_ | refine jw KL16 [] (aa TF16 q6) fun _ => ?_)
    refine SemW_setW (by rw [cells32]; decide) (by rw [cells32]; rfl) (r4.ext y6) (by rw [cells32]; rfl) rfl fun wz rz kz zz => ?_
    have ez := loadVar_at (P := Tryz.prog) (t := 32) (by kernel_rfl) (by rw [cells32]; decide) (by rw [cells32]; rfl) rz.at_
    (repeat with_reducible first | refine js ?_ | refine ja ?_ | refine jw KL16 [] TF16 fun _ => ?_)
    refine Run_ret ?_
    simp only [Rets, RetM, resV, fnd, oneOr, ↓reduceIte, KS, Nat.reduceAdd, Nat.reduceMul, Nat.reduceEqDiff, ↓reduceIte, UT]
    rw [Rp.repair_opt he hr hoe]
    refine ⟨pq, _, rfl, ez, ?_⟩
    simp [resV, oneOr, fnd, Pl.noPlan, PlanD.cs]
    exact ⟨.slice none 0 0, .slice none 0 0, .slice none 0 0, rfl, Keep.ext (x4.trans y6) kz fun k hk => by omega, Sl.nil _, Sl.nil _, Sl.nil _⟩
  have hoe : Rp.oErr t f l p run 0 l.length = 0 := by simpa using h
  clear h
  have s6 := s6 hoe
  have t6 := T w6 y6
  (repeat with_reducible first | refine js ?_ | refine ja ?_ | refine jw KL16 [] (aa TF16 t6) fun _ => ?_)
  refine CallW_gen call47 (rpMend vl vo v6 t l covers (Rp.opts t f l p run l.length) w6 (hl.ext (x4.trans y6)) (ho.ext (x4.trans y6)) s6 (by simp [Rp.opts]) h64 hcr (Rp.opts_run he hoe) hcv) fun e w7 ⟨a0, a1, a2, he7, x7, P7⟩ => ⟨_, he7, ?_⟩
  have y7 := y6.trans x7
  rw [Rp.repair_ok he hr hoe]
  rw [show Rp.mend t f l covers p run = Pl.srch l (Pl.room t) (Pl.leafT l covers) (Rp.opts t f l p run l.length) [] from rfl]
  generalize Pl.srch l (Pl.room t) (Pl.leafT l covers) (Rp.opts t f l p run l.length) [] = res at *
  (repeat with_reducible first | refine js ?_ | refine ja ?_ | refine jw KL16 [] TF16 fun _ => ?_)
  have hone : ∀ u, ((mendPl l res).cs a0 a1 a2) = u → u.all Value.oneCell' = true := by
    rintro u rfl
    simp [PlanD.cs, isS_o P7.r.s, isS_o P7.o.s, isS_o P7.c.s]
  refine SemW_setW (by rw [cells32]; decide) (by rw [cells32]; rfl) (r4.ext y7) (by rw [cells32]; rfl) (by simp [Value.cells, PlanD.cs, isS_o P7.r.s, isS_o P7.o.s, isS_o P7.c.s]) fun w8 r8 k8 z8 => ?_
  have r8 : Row w8 pq 32 [a0, a1, a2] := r8
  have kR : ∀ (v : Value) (xs : List RunD), Sl w7 v xs → Sl w8 v xs := fun v xs hv => hv.keepD (r4.ext y7) (fun x _ cs' hc => ⟨.int .i64 x.Line, by rw [hc.1]; rfl, fun hm => by simp at hm⟩) k8
  have kI : ∀ (v : Value) (xs : List Int), Sl w7 v xs → Sl w8 v xs := fun v xs hv => hv.keepD (r4.ext y7) (fun x _ cs' hc => ⟨.int .i64 x, by rw [hc.1]; rfl, fun hm => by simp at hm⟩) k8
  have q0 := kR _ _ P7.r
  have q1 := kI _ _ P7.o
  have q2 := kI _ _ P7.c
  have r8n := r8.n
  simp only [AtN, KS, Nat.reduceAdd, Nat.reduceMul, Nat.reduceEqDiff, ↓reduceIte, UT] at r8n
  (repeat with_reducible first | refine js ?_ | refine ja ?_ | refine jw KL16 [] (aa TF16 r8n) fun _ => ?_)
  refine SemW_setW (by rw [cells32]; decide) (by rw [cells32]; rfl) r8 (by rw [cells32]; rfl) (by simp [Value.cells, isS_o P7.r.s, isS_o P7.o.s, isS_o P7.c.s]) fun wz rz kz zz => ?_
  have ez := loadVar_at (P := Tryz.prog) (t := 32) (by kernel_rfl) (by rw [cells32]; decide) (by rw [cells32]; rfl) rz.at_
  have slInt : ∀ (a : Value) (n : Int), IsS a → Value.int .i64 n ≠ a := fun a n h e => by subst e; rcases h.ex with h | ⟨_, _, _, h⟩ <;> cases h
  have hni : ∀ n : Int, Value.int .i64 n ∉ [a0, a1, a2] := fun n hm => by
    simp only [List.mem_cons, List.not_mem_nil, or_false] at hm
    rcases hm with h | h | h
    · exact slInt _ _ P7.r.s h
    · exact slInt _ _ P7.o.s h
    · exact slInt _ _ P7.c.s h
  have kR2 : ∀ (v : Value) (xs : List RunD), Sl w8 v xs → Sl wz v xs := fun v xs hv => hv.keepD r8 (fun x _ cs' hc => ⟨.int .i64 x.Line, by rw [hc.1]; rfl, hni _⟩) kz
  have kI2 : ∀ (v : Value) (xs : List Int), Sl w8 v xs → Sl wz v xs := fun v xs hv => hv.keepD r8 (fun x _ cs' hc => ⟨.int .i64 x, by rw [hc.1]; rfl, hni _⟩) kz
  (repeat with_reducible first | refine js ?_ | refine ja ?_ | refine jw KL16 [] TF16 fun _ => ?_)
  refine Run_ret ?_
  simp only [Rets, RetM, resV, fnd, oneOr, ↓reduceIte, KS, Nat.reduceAdd, Nat.reduceMul, Nat.reduceEqDiff, ↓reduceIte, UT]
  refine ⟨pq, _, rfl, ez, ?_⟩
  exact ⟨_, rfl, _, rfl, a0, a1, a2, rfl, Keep.ext (Keep.ext (x4.trans y7) k8 fun k hk => by omega) kz fun k hk => by omega, kR2 _ _ q0, kI2 _ _ q1, kI2 _ _ q2⟩
end Go.Proofs.YtbfhenoiienghaaGreat
namespace Go.Fk
open Go
def rpItem (t : TimeD) (f : TariffD) (l : List OrderD) (covers : Int) (p : PlanD) (k : Nat) : List Value := [.bool (Rp.repair t f l covers p k).2.1, .int .i64 (Rp.repair t f l covers p k).2.2]
def rpItems (t : TimeD) (f : TariffD) (l : List OrderD) (covers : Int) (p : PlanD) : List (List Value) := (List.range p.Runs.length).map (rpItem t f l covers p)
theorem rpItems_len (t : TimeD) (f : TariffD) (l : List OrderD) (covers : Int) (p : PlanD) : (rpItems t f l covers p).length = p.Runs.length := by simp [rpItems]
theorem rpItems_get {t : TimeD} {f : TariffD} {l : List OrderD} {covers : Int} {p : PlanD} {j : Nat} (h : j < (rpItems t f l covers p).length) : (rpItems t f l covers p)[j] = rpItem t f l covers p j := by simp [rpItems]
end Go.Fk
namespace Go.Proofs.YtbfhenoiienghaaGreat
open Go Go.Fk
set_option linter.unusedSimpArgs false
set_option linter.unusedVariables false
set_option maxRecDepth 100000
structure RpS (W : World) (p1 p2 p3 p4 p5 : Addr) (vl u0 u1 u2 vo v0 v1 v2 : Value) (t : TimeD) (f : TariffD) (covers : Int) (p : PlanD) (w : World) : Prop where
  e : Ext W w
  a1 : At w p1 (p.cs v0 v1 v2)
  a2 : At w p2 (t.cs vl)
  a3 : At w p3 (f.cs u0 u1 u2)
  a4 : At w p4 [vo]
  a5 : At w p5 [.int .i64 covers]
section
variable {W : World} {p1 p2 p3 p4 p5 : Addr} {vl u0 u1 u2 vo v0 v1 v2 : Value} {t : TimeD} {f : TariffD} {l : List OrderD} {covers : Int} {p : PlanD}
theorem RpS.ext {w w' : World} (h : RpS W p1 p2 p3 p4 p5 vl u0 u1 u2 vo v0 v1 v2 t f covers p w) (x : Ext w w') : RpS W p1 p2 p3 p4 p5 vl u0 u1 u2 vo v0 v1 v2 t f covers p w' := ⟨h.e.trans x, h.a1.ext x, h.a2.ext x, h.a3.ext x, h.a4.ext x, h.a5.ext x⟩
theorem RpS.keep {w w' : World} {S : Nat → Prop} (h : RpS W p1 p2 p3 p4 p5 vl u0 u1 u2 vo v0 v1 v2 t f covers p w) (k : Keep S w w') (hW : ∀ b, b < W.heap.size → S b) (h1 : S p1.block) (h2 : S p2.block) (h3 : S p3.block) (h4 : S p4.block) (h5 : S p5.block) : RpS W p1 p2 p3 p4 p5 vl u0 u1 u2 vo v0 v1 v2 t f covers p w' := ⟨Keep.ext h.e k hW, h.a1.keep k h1, h.a2.keep k h2, h.a3.keep k h3, h.a4.keep k h4, h.a5.keep k h5⟩
theorem rpRepaired (vl u0 u1 u2 vo v0 v1 v2 : Value) (t : TimeD) (f : TariffD) (covers : Int) (p : PlanD) (w : World) (hs : IsS vo) :
    Calls Tryz.prog 53 #[.agg (t.cs vl).toArray, .agg (f.cs u0 u1 u2).toArray, vo, .int .i64 covers, .agg (p.cs v0 v1 v2).toArray] w fun e w' => ∃ p1 p2 p3 p4 p5 : Addr, e = .returned (.func (.func 91) #[] #[.pointer (some p1), .pointer (some p2), .pointer (some p3), .pointer (some p4), .pointer (some p5)]) ∧ RpS w p1 p2 p3 p4 p5 vl u0 u1 u2 vo v0 v1 v2 t f covers p w' ∧ w.heap.size ≤ p1.block ∧ w.heap.size ≤ p2.block ∧ w.heap.size ≤ p3.block ∧ w.heap.size ≤ p4.block ∧ w.heap.size ≤ p5.block := by
  refine Calls_of_Run (args := [.agg (t.cs vl).toArray, .agg (f.cs u0 u1 u2).toArray, vo, .int .i64 covers, .agg (p.cs v0 v1 v2).toArray]) (n := 12) (rs := [.tmp 10]) Tryz.func53 rfl rfl rfl (by simp) ?_
  (repeat with_reducible first | refine js ?_ | refine ja ?_ | refine jw KL53 [] TF53 fun _ => ?_)
  refine SemW_box fun pt w1 h1 => SemW_box fun pf w2 h2 => SemW_box fun pl w3 h3 => SemW_box fun pc w4 h4 => SemW_box fun pp w5 h5 => ?_
  have b1 := h1.blk
  have b2 := h2.blk
  have b3 := h3.blk
  have b4 := h4.blk
  have b5 := h5.blk
  have z1 := h1.size
  have z2 := h2.size
  have z3 := h3.size
  have z4 := h4.size
  (repeat with_reducible first | refine js ?_ | refine ja ?_ | refine jw KL53 [] TF53 fun _ => ?_)
  refine Run_ret ?_
  simp only [Rets, RetM, resV, fnd, oneOr, ↓reduceIte]
  exact ⟨_, rfl, pp, pt, pf, pl, pc, rfl, ⟨h1.ext.trans (h2.ext.trans (h3.ext.trans (h4.ext.trans h5.ext))), h5.at_, h1.at_.ext (h2.ext.trans (h3.ext.trans (h4.ext.trans h5.ext))), h2.at_.ext (h3.ext.trans (h4.ext.trans h5.ext)), by simpa [isS_c hs] using h3.at_.ext (h4.ext.trans h5.ext), h4.at_.ext h5.ext⟩, by omega, by omega, by omega, by omega, by omega⟩
set_option maxHeartbeats 2000000 in
theorem rpIter (hl : Sl W vl t.Lines) (hT : TarR W f u0 u1 u2) (ho : Sl W vo l) (hP : PlanR W p v0 v1 v2) (hcv : I64 covers) (kp : Nat → Prop) (yv : Value) (J : Nat → World → Prop) (Jx : World → Prop) (w : World) (hW : ∀ b, b < W.heap.size → kp b) (k1 : kp p1.block) (k2 : kp p2.block) (k3 : kp p3.block) (k4 : kp p4.block) (k5 : kp p5.block)
    (hc : Cons Tryz.prog yv (rpItems t f l covers p) (fun _ => False) kp J Jx) (S : RpS W p1 p2 p3 p4 p5 vl u0 u1 u2 vo v0 v1 v2 t f covers p w) (h0 : J 0 w) :
    Calls Tryz.prog 91 #[yv, .pointer (some p1), .pointer (some p2), .pointer (some p3), .pointer (some p4), .pointer (some p5)] w fun e w' => e = .returned (.tuple #[]) ∧ (Jx w' ∨ J (rpItems t f l covers p).length w') := by
  have rl := hP.r.len
  have rs := hP.r.s
  have hsm := hP.r.small
  have a1 := S.a1.n
  simp only [PlanD.cs, AtN, KS, Nat.reduceAdd, Nat.reduceMul, Nat.reduceEqDiff, ↓reduceIte, UT] at a1
  refine Calls_of_Run (args := [yv, .pointer (some p1), .pointer (some p2), .pointer (some p3), .pointer (some p4), .pointer (some p5)]) (n := 34) (rs := []) Tryz.func91 rfl rfl rfl (by simp) ?_
  (repeat with_reducible first | refine js ?_ | refine ja ?_ | refine jw KL91 [] (aa TF91 (aa a1 (aa rs rl))) fun _ => ?_)
  refine Run_loopV [7, 9, 10, 14, 15, 32] (σ := Nat) (fun q => [(14, some (.int .i64 q))]) (fun q w' => q ≤ p.Runs.length ∧ RpS W p1 p2 p3 p4 p5 vl u0 u1 u2 vo v0 v1 v2 t f covers p w' ∧ J q w') (fun q => p.Runs.length - q) 0 (by simp [SubB, fnd]) ⟨by omega, S, h0⟩ ?_
  rintro q w1 ⟨hq, S1, J1⟩
  (repeat with_reducible first | refine js ?_ | refine ja ?_ | refine jw KL91 [] TF91 fun _ => ?_)
  refine Run_condS (fun _ => rfl) (fun h => ?_) (fun h => ?_)
  · simp at h
    have hql : q < p.Runs.length := by omega
    have hqc : (q : Int) < p.Runs.length := by omega
    clear h
    have a1 := S1.a1.n
    have a2 := S1.a2.n
    have a3 := S1.a3.n
    have a4 := S1.a4.n
    have a5 := S1.a5.n
    simp only [PlanD.cs, TimeD.cs, TariffD.cs, AtN, KS, Nat.reduceAdd, Nat.reduceMul, Nat.reduceEqDiff, ↓reduceIte, UT] at a1 a2 a3 a4 a5
    (repeat with_reducible first | refine js ?_ | refine ja ?_ | refine jw KL91 [] (aa TF91 (aa a1 (aa a2 (aa a3 (aa a4 a5))))) fun _ => ?_)
    refine CallW_gen call16 (rpRepair vl u0 u1 u2 vo v0 v1 v2 t f l covers p q w1 (hl.ext S1.e) (hT.ext S1.e) (ho.ext S1.e) (hP.ext S1.e) hcv) fun e w2 ⟨b0, b1, b2, he2, x2, P2⟩ => ⟨_, he2, ?_⟩
    have hqi : q < (rpItems t f l covers p).length := by rw [rpItems_len]; exact hql
    have hit := rpItems_get hqi
    unfold rpItem at hit
    generalize Rp.repair t f l covers p q = res at *
    (repeat with_reducible first | refine js ?_ | refine ja ?_ | refine jw KL91 [] TF91 fun _ => ?_)
    refine SemW_allocT ti32 fun px w3 h3 => ?_
    have b3 := h3.blk
    refine SemW_setW (by rw [cells32]; decide) (by rw [cells32]; rfl) h3.row (by rw [cells32]; rfl) (by simp [Value.cells, PlanD.cs, isS_o P2.r.s, isS_o P2.o.s, isS_o P2.c.s]) fun w4 r4 k4' z4 => ?_
    have x4 : Ext w1 w4 := Keep.ext (x2.trans h3.ext) k4' fun b hb => by have := x2.size; omega
    have S4 := S1.ext x4
    have J4 := hc.step _ _ _ J1 (Keep.of_ext x4)
    (repeat with_reducible first | refine js ?_ | refine ja ?_ | refine jw KL91 [] TF91 fun _ => ?_)
    have hy := hc.yield q w4 hqi J4
    rw [hit] at hy
    refine hy.mono fun v w5 ⟨b, hv, k5', hj⟩ => ?_
    subst hv
    have S5 := S4.keep k5' hW k1 k2 k3 k4 k5
    cases b with
    | true =>
      simp only [if_true] at hj
      (repeat with_reducible first | refine js ?_ | refine ja ?_ | refine jw KL91 [] (aa TF91 KX) fun _ => ?_)
      refine Run_condS (fun _ => rfl) (fun h => by cases h) (fun _ => ?_)
      (repeat with_reducible first | refine js ?_ | refine ja ?_ | refine jw KL91 [] TF91 fun _ => ?_)
      exact Run_lp ⟨q + 1, by simp [SubB, fnd, strike, has], ⟨by omega, S5, hj⟩, by omega⟩
    | false =>
      simp only [Bool.false_eq_true, if_false] at hj
      (repeat with_reducible first | refine js ?_ | refine ja ?_ | refine jw KL91 [] (aa TF91 KX) fun _ => ?_)
      refine Run_condS (fun _ => rfl) (fun _ => ?_) (fun h => by cases h)
      (repeat with_reducible first | refine js ?_ | refine ja ?_ | refine jw KL91 [] TF91 fun _ => ?_)
      refine Run_ret ?_
      simp only [Rets, RetM, resV, oneOr]
      exact ⟨trivial, .inl hj⟩
  · simp at h
    obtain rfl : q = p.Runs.length := by omega
    (repeat with_reducible first | refine js ?_ | refine ja ?_ | refine jw KL91 [] TF91 fun _ => ?_)
    refine Run_nil ?_
    simp only [Rets, RetM, resV, oneOr]
    exact ⟨trivial, .inr (by rw [rpItems_len]; exact J1)⟩
end
structure WkS (w : World) (N : Nat) (pr pe pi : Addr) (j : Nat) (a : List Int) (w' : World) : Prop where
  e : Ext w w'
  r : ∃ v, Row w' pr 25 [v] ∧ BufO (α := Int) 3 N w' v a
  x : ∃ e, Row w' pe 35 [.int .i64 e]
  i : Row w' pi 3 [.int .i64 j]
theorem WkS.keep {w w1 w2 : World} {N : Nat} {pr pe pi : Addr} {j : Nat} {a : List Int} {S : Nat → Prop} (h : WkS w N pr pe pi j a w1) (k : Keep S w1 w2) (h0 : ∀ b, b < w.heap.size → S b) (h1 : S pr.block) (h2 : S pe.block) (h3 : S pi.block) (h4 : ∀ b, N ≤ b → S b) : WkS w N pr pe pi j a w2 := by
  obtain ⟨v, r1, r2⟩ := h.r
  obtain ⟨e, e1⟩ := h.x
  exact ⟨Keep.ext h.e k h0, ⟨v, r1.keep k h1, r2.keepQ k fun g hg => h4 g (r2.own_lt hg).1⟩, ⟨e, e1.keep k h2⟩, h.i.keep k h3⟩
set_option maxHeartbeats 4000000 in
theorem rpWeak (vl u0 u1 u2 vo v0 v1 v2 : Value) (t : TimeD) (f : TariffD) (l : List OrderD) (covers : Int) (p : PlanD) (w : World) (hl : Sl w vl t.Lines) (hT : TarR w f u0 u1 u2) (ho : Sl w vo l) (hP : PlanR w p v0 v1 v2) (hcv : I64 covers) (hpn : p.Runs.length ≤ 1000000) :
    Calls Tryz.prog 19 #[.agg (t.cs vl).toArray, .agg (f.cs u0 u1 u2).toArray, vo, .int .i64 covers, .agg (p.cs v0 v1 v2).toArray] w fun e w' => ∃ v, e = .returned (.tuple #[v, .int .i64 (Rp.weak t f l covers p).2]) ∧ Ext w w' ∧ Sl w' v (Rp.weak t f l covers p).1 := by
  refine Calls_of_Run (args := [.agg (t.cs vl).toArray, .agg (f.cs u0 u1 u2).toArray, vo, .int .i64 covers, .agg (p.cs v0 v1 v2).toArray]) (n := 44) (rs := [.cell 10 25, .cell 11 35]) Tryz.func19 rfl rfl rfl (by simp) ?_
  (repeat with_reducible first | refine js ?_ | refine ja ?_ | refine jw KL19 [] TF19 fun _ => ?_)
  refine SemW_box fun pt w1 h1 => SemW_box fun pf w2 h2 => SemW_box fun pp w3 h3 => SemW_allocT ti25 fun pr w4 h4 => SemW_allocT ti35 fun pe w5 h5 => ?_
  have b4 := h4.blk
  have b5 := h5.blk
  have z1 := h1.size
  have z2 := h2.size
  have z3 := h3.size
  have z4 := h4.size
  have z5 := h5.size
  have x5 := h1.ext.trans (h2.ext.trans (h3.ext.trans (h4.ext.trans h5.ext)))
  have T0 : ∀ w', Ext w3 w' → At w' pt (t.cs vl) := fun w' x => (h1.at_.ext (h2.ext.trans (h3.ext.trans x)))
  have F0 : ∀ w', Ext w3 w' → At w' pf (f.cs u0 u1 u2) := fun w' x => (h2.at_.ext (h3.ext.trans x))
  have P0 : ∀ w', Ext w3 w' → At w' pp (p.cs v0 v1 v2) := fun w' x => (h3.at_.ext x)
  have T := fun w' x => (T0 w' x).n
  have F := fun w' x => (F0 w' x).n
  have P := fun w' x => (P0 w' x).n
  simp only [TimeD.cs, TariffD.cs, PlanD.cs, AtN, KS, Nat.reduceAdd, Nat.reduceMul, Nat.reduceEqDiff, ↓reduceIte, UT] at T F P
  have x35 := h4.ext.trans h5.ext
  have x3 := h1.ext.trans (h2.ext.trans h3.ext)
  have rr : Row w5 pr 25 [.slice none 0 0] := h4.row.ext h5.ext
  have re : Row w5 pe 35 [.int .i64 0] := by simpa [Value.cells] using h5.row
  have t5 := T w5 x35
  have f5 := F w5 x35
  have p5 := P w5 x35
  (repeat with_reducible first | refine js ?_ | refine ja ?_ | refine jw KL19 [] (aa TF19 (aa t5 (aa f5 p5))) fun _ => ?_)
  refine rpRightW (hl.ext x5) (hT.ext x5) (ho.ext x5) (hP.ext x5) fun w6 x6 => ?_
  have y6 := x5.trans x6
  have s6 := x6.size
  (repeat with_reducible first | refine js ?_ | refine ja ?_ | refine jw KL19 [] TF19 fun _ => ?_)
  refine SemW_set1 cells35 (re.ext x6) rfl rfl fun w7 r7 k7 z7 => ?_
  have r7 : Row w7 pe 35 [.int .i64 (Rp.err t f l covers p)] := r7
  have x37 : Ext w3 w7 := Keep.ext (x35.trans x6) k7 fun b hb => by omega
  have rr7 := (rr.ext x6).keep k7 (show pr.block ≠ pe.block by omega)
  have r7n := r7.n
  simp only [AtN, KS, Nat.reduceAdd, Nat.reduceMul, Nat.reduceEqDiff, ↓reduceIte, UT] at r7n
  (repeat with_reducible first | refine js ?_ | refine ja ?_ | refine jw KL19 [] (aa TF19 r7n) fun _ => ?_)
  refine Run_condS (fun _ => rfl) (fun h => ?_) (fun h => ?_)
  · have he : Rp.err t f l covers p ≠ 0 := by simpa using h
    have hm : Rp.weak t f l covers p = ([], Rp.err t f l covers p) := by unfold Rp.weak; rw [if_pos he]
    let S : Nat → Prop := fun b => b ≠ pr.block
    (repeat with_reducible first | refine jq ?_ | refine jk ?_ | refine jc ?_ | refine jl ?_ | refine jb ?_ | refine jo ?_ | refine ji ?_ | refine jx rfl ?_)
    refine Run_eh S [2] [(0, [2])] (id := 3) KL19 (.first 0 (.alt true 1 (.alt true 2 (.done false) .stop) .stop)) mixed (by kernel_rfl) (by kernel_rfl) fun w8 x8 _ => ?_
    have e8 := (r7.ext x8).n
    simp only [AtN, KS, Nat.reduceAdd, Nat.reduceMul, Nat.reduceEqDiff, ↓reduceIte, UT] at e8
    (try simp (maxSteps := 5000000) only [KS, Nat.reduceAdd, Nat.reduceMul, Nat.reduceEqDiff, ↓reduceIte, forall_const, Int.cast_ofNat_Int, Int.reduceToNat, List.take_succ_cons, List.take_zero, List.drop_succ_cons, List.drop_zero, TF19, KL19, eh, gres, qopS, putL, ung, e8]); (try simp (disch := omega) only [wrapI, tmodI, tdivI])
    refine ⟨by show pe.block ≠ pr.block; omega, Keep.refl _ _, ?_⟩
    refine SemW_set1 cells25 (rr7.ext x8) rfl rfl fun w9 r9 k9 z9 => ⟨k9, ?_⟩
    refine SemW_set1 cells35 ((r7.ext x8).keep k9 (show pe.block ≠ pr.block by omega)) rfl rfl fun w10 r10 k10 z10 => ⟨fun h => h.elim, ?_⟩
    refine Run_ret ?_
    simp only [Rets, RetM, resV]
    refine ⟨pr, _, rfl, loadVar_row (by kernel_rfl) (r9.keep k10 (show pr.block ≠ pe.block by omega)), pe, _, rfl, loadVar_row (by kernel_rfl) r10, ?_⟩
    rw [hm]
    exact ⟨_, rfl, Keep.ext (Keep.ext (x3.trans (x37.trans x8)) k9 fun k hk => by omega) k10 fun k hk => by omega, Sl.nil _⟩
  have he : Rp.err t f l covers p = 0 := by simpa using h
  clear h
  rw [he] at r7
  have hm : Rp.weak t f l covers p = Rp.weakF t f l covers p 0 p.Runs.length [] := by unfold Rp.weak; rw [if_neg (by simp [he])]
  (repeat with_reducible first | refine js ?_ | refine ja ?_ | refine jw KL19 [] TF19 fun _ => ?_)
  refine SemW_allocT ti3 fun pi w8 h8 => ?_
  have b8 := h8.blk
  have z8 := h8.size
  have h8r : Row w8 pi 3 [.int .i64 0] := by simpa [Value.cells] using h8.row
  refine SemW_set1 cells3 h8r rfl rfl fun w9 r9 k9 z9 => ?_
  have r9 : Row w9 pi 3 [.int .i64 0] := r9
  have x79 : Ext w7 w9 := Keep.ext h8.ext k9 fun b hb => by omega
  have x39 := x37.trans x79
  have t9 := T w9 x39
  have f9 := F w9 x39
  have p9 := P w9 x39
  (repeat with_reducible first | refine js ?_ | refine ja ?_ | refine jw KL19 [] (aa TF19 (aa t9 (aa f9 p9))) fun _ => ?_)
  refine CallW_gen call53 (rpRepaired vl u0 u1 u2 vo v0 v1 v2 t f covers p w9 ho.s) fun e w10 ⟨p1, p2, p3, p4, p5, he10, S10, c1, c2, c3, c4, c5⟩ => ⟨_, he10, ?_⟩
  have x10 := S10.e
  have y10 := x3.trans (x39.trans x10)
  have d1 := S10.a1.blk
  have d2 := S10.a2.blk
  have d3 := S10.a3.blk
  have d4 := S10.a4.blk
  have d5 := S10.a5.blk
  have Sw : RpS w p1 p2 p3 p4 p5 vl u0 u1 u2 vo v0 v1 v2 t f covers p w10 := ⟨y10, S10.a1, S10.a2, S10.a3, S10.a4, S10.a5⟩
  have q10 : Row w10 pr 25 [.slice none 0 0] := (rr7.ext x79).ext x10
  have e10 : Row w10 pe 35 [.int .i64 0] := (r7.ext x79).ext x10
  have i10 : Row w10 pi 3 [.int .i64 0] := r9.ext x10
  have s10 := x10.size
  have s37 := x37.size
  clear he10 t9 f9 p9 r9 r7 rr7 h8r b8 d1 d2 d3 d4 d5
  have d1 := Sw.a1.blk
  have d2 := Sw.a2.blk
  have d3 := Sw.a3.blk
  have d4 := Sw.a4.blk
  have d5 := Sw.a5.blk
  have bi := h8.blk
  (repeat with_reducible first | refine js ?_ | refine ja ?_ | refine jw KL19 [] TF19 fun _ => ?_)
  have hNw := y10.size
  generalize hNN : w10.heap.size = N at *
  refine Run_iter [30, 31] (fun _ => rfl) call91 (by simp) (rpItems t f l covers p) (fun x hx => by simp [rpItems, rpItem] at hx; obtain ⟨_, _, rfl⟩ := hx; rfl) (fun _ => False) (fun k => k < N ∧ k ≠ pr.block ∧ k ≠ pe.block ∧ k ≠ pi.block) (fun k hk => hk.elim) (fun k hk => by omega)
    (fun j w' => ∃ a, WkS w (N + 2) pr pe pi j a w' ∧ Rp.weakF t f l covers p j (p.Runs.length - j) a = Rp.weak t f l covers p ∧ a.length ≤ j)
    (fun e w' => e = none ∧ Ext w w' ∧ Row w' pr 25 [.slice none 0 0] ∧ Row w' pe 35 [.int .i64 (Rp.weak t f l covers p).2] ∧ (Rp.weak t f l covers p).1 = [])
    (fun yv J Jx w1 hcs hx1 hj0 => rpIter hl hT ho hP hcv (fun k => k < N ∧ k ≠ pr.block ∧ k ≠ pe.block ∧ k ≠ pi.block) yv J Jx w1 (fun b hb => by omega) (by omega) (by omega) (by omega) (by omega) (by omega) hcs (Sw.ext hx1) hj0)
    (fun w1 hx1 _ => ⟨[], ⟨y10.trans hx1, ⟨_, q10.ext hx1, BufO.nil⟩, ⟨_, e10.ext hx1⟩, i10.ext hx1⟩, by rw [hm, Nat.sub_zero], by simp⟩)
    (fun j u1 u2 ⟨a, g1, g2, g3⟩ hk => ⟨a, g1.keep hk (fun b hb => ⟨id, by omega, by omega⟩) ⟨id, by omega, by omega⟩ ⟨id, by omega, by omega⟩ ⟨id, by omega, by omega⟩ (fun b hb => ⟨id, by omega, by omega⟩), g2, g3⟩)
    (fun e u1 u2 ⟨he, a1, a2, a3, a4⟩ hk => ⟨he, Keep.ext a1 hk fun b hb => ⟨id, by omega, by omega⟩, a2.keep hk ⟨id, by omega, by omega⟩, a3.keep hk ⟨id, by omega, by omega⟩, a4⟩) ?_ ?_ ?_
  · intro j hj w13 ⟨a, S13, hf, ha⟩ z13
    have hjl := hj
    rw [rpItems_len] at hjl
    rw [rpItems_get hj]
    rw [Rp.weakF_step hjl] at hf
    simp only [rpItem, zipL]
    generalize Rp.repair t f l covers p j = res at *
    (repeat with_reducible first | refine js ?_ | refine ja ?_ | refine jw KL19 [] TF19 fun _ => ?_)
    refine Run_lp ⟨Keep.refl _ _, fun w11 k11 z11 => ?_⟩
    have S11 := S13.keep k11 (fun b hb => by omega) (by omega) (by omega) (by omega) (fun b hb => by omega)
    (repeat with_reducible first | refine js ?_ | refine ja ?_ | refine jw KL19 [] TF19 fun _ => ?_)
    refine Run_condS (fun _ => rfl) (fun h => ?_) (fun h => ?_)
    · have he2 : res.2.2 ≠ 0 := by simpa using h
      rw [if_pos he2] at hf
      obtain ⟨v, r1, r2⟩ := S11.r
      obtain ⟨ee, e1⟩ := S11.x
      (repeat with_reducible first | refine js ?_ | refine ja ?_ | refine jw KL19 [] TF19 fun _ => ?_)
      refine SemW_set1 cells25 r1 rfl rfl fun w12 r12 k12 z12 => ?_
      (repeat with_reducible first | refine js ?_ | refine ja ?_ | refine jw KL19 [] TF19 fun _ => ?_)
      refine SemW_set1 cells35 (e1.keep k12 (show pe.block ≠ pr.block by omega)) rfl rfl fun w14 r14 k14 z14 => ?_
      (repeat with_reducible first | refine js ?_ | refine ja ?_ | refine jw KL19 [] TF19 fun _ => ?_)
      refine Run_ret ⟨(k12.mono fun b _ hb => by omega).trans (k14.mono fun b _ hb => by omega), rfl, Keep.ext (Keep.ext S11.e k12 fun b hb => by omega) k14 fun b hb => by omega, r12.keep k14 (show pr.block ≠ pe.block by omega), ?_, ?_⟩
      · rw [← hf]; exact r14
      · rw [← hf]
    · have he2 : res.2.2 = 0 := by simpa using h
      clear h
      rw [if_neg (by simp [he2])] at hf
      obtain ⟨v, r1, r2⟩ := S11.r
      obtain ⟨q1, q2⟩ := row1 r1
      obtain ⟨i1, i2⟩ := row1 S11.i
      obtain ⟨_, ok, _⟩ := res
      simp only at hf he2
      cases ok with
      | true =>
        (repeat with_reducible first | refine js ?_ | refine ja ?_ | refine jw KL19 [] (aa TF19 KX) fun _ => ?_)
        refine Run_condS (fun _ => rfl) (fun h => by cases h) (fun _ => ?_)
        (repeat with_reducible first | refine js ?_ | refine ja ?_ | refine jw KL19 [] (aa TF19 (aa i1 i2)) fun _ => ?_)
        refine SemW_set1 cells3 S11.i rfl rfl fun w12 r12 k12 z12 => ?_
        (repeat with_reducible first | refine js ?_ | refine ja ?_ | refine jw KL19 [] TF19 fun _ => ?_)
        refine Run_nil ⟨k12.mono fun b _ hb => by omega, a, ?_, by simpa using hf, by omega⟩
        obtain ⟨ee, e1⟩ := S11.x
        exact ⟨Keep.ext S11.e k12 fun b hb => by omega, ⟨v, r1.keep k12 (show pr.block ≠ pi.block by omega), r2.keepQ k12 fun g hg => by have := (r2.own_lt hg).1; omega⟩, ⟨ee, e1.keep k12 (show pe.block ≠ pi.block by omega)⟩, r12⟩
      | false =>
        (repeat with_reducible first | refine js ?_ | refine ja ?_ | refine jw KL19 [] (aa TF19 KX) fun _ => ?_)
        refine Run_condS (fun _ => rfl) (fun _ => ?_) (fun h => by cases h)
        (repeat with_reducible first | refine js ?_ | refine ja ?_ | refine jw KL19 [] (aa TF19 (aa q1 (aa q2 (aa i1 i2)))) fun _ => ?_)
        have hB11 : N + 2 ≤ w11.heap.size := by omega
        refine SemW_append1Q (α := Int) Tryz.underlying25 ti3 rfl (by decide) r2 hB11 (x := (j : Int)) ⟨rfl, by unfold I64; omega⟩ (by simp only [maxLen]; omega) fun _ v12 w12 b12 k12 g12 => ?_
        have nown : ∀ g, g < N + 2 → some g ≠ v.ownBlock := fun g hg e => by have := (r2.own_lt e.symm).1; omega
        (repeat with_reducible first | refine js ?_ | refine ja ?_ | refine jw KL19 [] TF19 fun _ => ?_)
        refine SemW_set1 cells25 (r1.keep k12 (nown _ (by omega))) (by rw [isS_c b12.isS.1]; rfl) (by rw [isS_c b12.isS.1]; simpa using isS_o b12.isS.1) fun w14 r14 k14 z14 => ?_
        have r14 : Row w14 pr 25 [v12] := by simpa [isS_c b12.isS.1] using r14
        have i14 : Row w14 pi 3 [.int .i64 j] := (S11.i.keep k12 (nown _ (by omega))).keep k14 (show pi.block ≠ pr.block by omega)
        obtain ⟨j1, j2⟩ := row1 i14
        (repeat with_reducible first | refine js ?_ | refine ja ?_ | refine jw KL19 [] (aa TF19 (aa j1 j2)) fun _ => ?_)
        refine SemW_set1 cells3 i14 rfl rfl fun w15 r15 k15 z15 => ?_
        (repeat with_reducible first | refine js ?_ | refine ja ?_ | refine jw KL19 [] TF19 fun _ => ?_)
        refine Run_nil ⟨(k12.mono fun b _ hb => nown b (by omega)).trans ((k14.mono fun b _ hb => by omega).trans (k15.mono fun b _ hb => by omega)), a ++ [(j : Int)], ?_, by simpa using hf, by simp; omega⟩
        obtain ⟨ee, e1⟩ := S11.x
        exact ⟨Keep.ext (Keep.ext (Keep.ext S11.e k12 fun b hb => nown b (by omega)) k14 fun b hb => by omega) k15 fun b hb => by omega, ⟨v12, r14.keep k15 (show pr.block ≠ pi.block by omega), (b12.keepQ k14 fun g hg => by have := (b12.own_lt hg).1; omega).keepQ k15 fun g hg => by have := (b12.own_lt hg).1; omega⟩, ⟨ee, ((e1.keep k12 (nown _ (by omega))).keep k14 (show pe.block ≠ pr.block by omega)).keep k15 (show pe.block ≠ pi.block by omega)⟩, r15⟩
  · intro w13 ⟨a, S13, hf, ha⟩ hd
    rw [rpItems_len] at hf ha
    rw [Nat.sub_self] at hf
    have hf : (a, (0 : Int)) = Rp.weak t f l covers p := hf
    obtain ⟨v, r1, r2⟩ := S13.r
    obtain ⟨ee, e1⟩ := S13.x
    obtain ⟨q1, q2⟩ := row1 r1
    rw [hNN] at hd
    have hz : N < w13.heap.size := (Array.getElem?_eq_some_iff.1 hd).1
    (repeat with_reducible first | refine js ?_ | refine ja ?_ | refine jw KL19 [] (aa TF19 (aa q1 q2)) fun _ => ?_)
    refine SemW_set1 cells25 r1 (by rw [isS_c r2.isS.1]; rfl) (by rw [isS_c r2.isS.1]; simpa using isS_o r2.isS.1) fun w14 r14 k14 z14 => ?_
    have r14 : Row w14 pr 25 [v] := by simpa [isS_c r2.isS.1] using r14
    (repeat with_reducible first | refine js ?_ | refine ja ?_ | refine jw KL19 [] TF19 fun _ => ?_)
    refine SemW_set1 cells35 (e1.keep k14 (show pe.block ≠ pr.block by omega)) rfl rfl fun w15 r15 k15 z15 => ?_
    (repeat with_reducible first | refine js ?_ | refine ja ?_ | refine jw KL19 [] TF19 fun _ => ?_)
    refine Run_ret (RetM_one (d := w10.heap.size) (by rw [hNN]; exact (k15.block _ (by omega) (by omega)).trans ((k14.block _ hz (by omega)).trans hd)) fun w16 k16 _ => ?_)
    simp only [resV]
    refine ⟨pr, _, rfl, loadVar_row (by kernel_rfl) ((r14.keep k15 (show pr.block ≠ pe.block by omega)).keep k16 (by omega)), pe, _, rfl, loadVar_row (by kernel_rfl) (r15.keep k16 (by omega)), ?_⟩
    rw [← hf]
    exact ⟨v, rfl, Keep.ext (Keep.ext (Keep.ext S13.e k14 fun b hb => by omega) k15 fun b hb => by omega) k16 fun b hb => by omega, (((r2.keepQ k14 fun g hg => by have := (r2.own_lt hg).1; omega).keepQ k15 fun g hg => by have := (r2.own_lt hg).1; omega).keepQ k16 fun g hg => by have := (r2.own_lt hg).1; omega).sl (by omega)⟩
  · rintro e w13 ⟨rfl, a1, a2, a3, a4⟩ hd
    show Run _ _ _ _ (.code .ret :: _) _ _ _
    have hz : N < w13.heap.size := by
      rw [hNN] at hd
      exact (Array.getElem?_eq_some_iff.1 hd).1
    refine Run_ret (RetM_one (d := w10.heap.size) hd fun w16 k16 _ => ?_)
    simp only [resV]
    refine ⟨pr, _, rfl, loadVar_row (by kernel_rfl) (a2.keep k16 (by omega)), pe, _, rfl, loadVar_row (by kernel_rfl) (a3.keep k16 (by omega)), ?_⟩
    refine ⟨.slice none 0 0, rfl, Keep.ext a1 k16 fun b hb => by omega, ?_⟩
    rw [a4]
    exact Sl.nil _
end Go.Proofs.YtbfhenoiienghaaGreat
