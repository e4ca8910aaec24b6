import Derived.Test.YtldjfebokojmfaaGreatRgHj
import Derived.Test.YtldjfebokojmfaaGreatRgHe
import Derived.Test.YtldjfebokojmfaaGreatRgHa
namespace Go.Proofs.YtldjfebokojmfaaGreat
open Go Go.Fk
set_option linter.unusedSimpArgs false
set_option linter.unusedVariables false
set_option maxRecDepth 100000
theorem rgFullM (vl vo vof : Value) (t : TimeD) (l : List OrderD) (of : List RunD) (r : RunD) (w : World) (hl : Sl w vl t.Lines) (ho : Sl w vo l) (hof : Sl w vof of) (hn : of.length ≤ l.length) (h64 : l.length ≤ 64) (hcr : ∀ o ∈ l, 1 ≤ o.Crowd ∧ o.Crowd ≤ 64) (hI : RunI r) (hm : r ∈ of) (hr : Tt.isRun t r = true) :
    Calls Tryz.prog 45 #[.agg (t.cs vl).toArray, vo, vof, .agg r.cs.toArray] w fun e w' => e = .returned (.bool (Rf.full t l of r)) ∧ Ext w w' := by
  have hp := Pl.load_pos (l := l) of hn r hm
  have e : Rf.full t l of r = decide (Pl.room t r < max (Pl.load l of r).n (Pl.load l of r).c) := by
    unfold Rf.full
    rw [Bool.eq_iff_iff]; simp; omega
  obtain ⟨g1, g2, _⟩ := isRunL hr
  rw [e]
  exact rgFull vl vo vof t l of r w hl ho hof hn h64 hcr hI ⟨g1, g2⟩
abbrev aRun (r : RunD) : Value := .agg #[.int .i64 r.Line, .int .i64 r.At, .int .i64 r.Arrive]
theorem newRuns {wa wb : World} {pb : Addr} (h : NewB wa pb (([] : List Value).flatMap fun v => v.cells.toList) 34 wb) : BufO (α := RunD) 34 wa.heap.size wb (.slice (some pb) 0 0) [] := (BufL.new (α := RunD) (e := 34) (W := wa) (w := wa) (w' := wb) (p := pb) (css := []) (xs := ([] : List RunD)) h (Ext.refl _) (Cs.nil _) (by simp [maxLen])).o
theorem appFin {of : List RunD} {r : RunD} {w wc : World} {ps : Addr} {v : Value} (hn : of.length ≤ 1000) (hr : RunJ r) (xc : Ext w wc) (rs : Row wc ps 34 ([aRun r].flatMap fun v => v.cells.toList)) (b : BufO (α := RunD) 34 w.heap.size wc v of) {t3 : TypeId} {K : Value → World → Prop} (hK : ∀ v w', BufO (α := RunD) 34 w.heap.size w' v (of ++ [r]) → Ext w w' → K v w') :
    SemW Tryz.prog (Builtin.append_ #[59, 59] t3 #[v, .slice (some ps) 1 1]) wc K :=
  SemW_appendFO (α := RunD) Tryz.underlying59 ti34 rfl (by decide) b xc.size (Sl.of_row (α := RunD) (css := [[.int .i64 r.Line, .int .i64 r.At, .int .i64 r.Arrive]]) rs (Cs.one ⟨rfl, hr⟩) rfl (by show 1 ≤ 140737488355328; decide)) (by simp only [maxLen, List.length_singleton]; omega) fun v5 w5 b5 k5 => hK v5 w5 b5 (Keep.ext xc k5 fun g hg e => by have := (b.own_lt e.symm).1; omega)
theorem appAll {vof : Value} {of : List RunD} {r : RunD} {w : World} (hof : Sl w vof of) (hn : of.length ≤ 1000) (hr : RunJ r) {t2 t3 : TypeId} {G : World → Prop} (hG : ∀ w', Ext w w' → G w') {K : Value → World → Prop} (hK : ∀ v w', BufO (α := RunD) 34 w.heap.size w' v (of ++ [r]) → Ext w w' → K v w') :
    (SemW Tryz.prog (Instr.buildSlice 59 0 #[]) w fun v w1 => G w1 ∧
      (SemW Tryz.prog (Builtin.append_ #[59, 59] t2 #[v, vof]) w1 fun v w2 => G w2 ∧ SemW Tryz.prog (Instr.buildSlice 59 1 #[(0, aRun r)]) w2 fun s w3 => G w3 ∧ SemW Tryz.prog (Builtin.append_ #[59, 59] t3 #[v, s]) w3 K) ∧
      G w1 ∧ SemW Tryz.prog (Instr.buildSlice 59 1 #[(0, aRun r)]) w1 fun s w2 => G w2 ∧ SemW Tryz.prog (Builtin.append_ #[59, 59] t2 #[v, vof]) w2 fun v w3 => G w3 ∧ SemW Tryz.prog (Builtin.append_ #[59, 59] t3 #[v, s]) w3 K) ∧
    G w ∧ SemW Tryz.prog (Instr.buildSlice 59 1 #[(0, aRun r)]) w fun s w1 => G w1 ∧ SemW Tryz.prog (Instr.buildSlice 59 0 #[]) w1 fun v w2 => G w2 ∧ SemW Tryz.prog (Builtin.append_ #[59, 59] t2 #[v, vof]) w2 fun v w3 => G w3 ∧ SemW Tryz.prog (Builtin.append_ #[59, 59] t3 #[v, s]) w3 K := by
  have kq : ∀ {wa wb : World} {B : Nat} {v : Value} {xs : List RunD}, BufO (α := RunD) 34 B wa v xs → Ext wa wb → BufO (α := RunD) 34 B wb v xs := fun b x => b.keepQ (Keep.of_ext (S := fun _ => True) x) fun _ _ => trivial
  refine ⟨?_, hG _ (Ext.refl _), ?_⟩
  · refine SemW_buildSlice (vs := []) Tryz.underlying59 ti34 rfl rfl rfl (by simp) (by simp) fun pb w1 h1 => ?_
    have B1 := newRuns h1
    refine ⟨hG _ h1.ext, ?_, hG _ h1.ext, ?_⟩
    · refine SemW_appendFO (α := RunD) Tryz.underlying59 ti34 rfl (by decide) B1 h1.ext.size (hof.ext h1.ext) (by simp only [maxLen, List.length_nil]; omega) fun v2 w2 B2 k2 => ?_
      have e2 : Ext w w2 := Keep.ext h1.ext k2 fun b hb e => by have := (B1.own_lt e.symm).1; omega
      rw [List.nil_append] at B2
      refine ⟨hG _ e2, SemW_buildSlice (vs := [aRun r]) Tryz.underlying59 ti34 rfl rfl rfl (by simp [Value.cells]) (by show 1 * 3 ≤ 16777216; decide) fun ps w3 h3 => ⟨hG _ (e2.trans h3.ext), appFin hn hr (e2.trans h3.ext) h3.row (kq B2 h3.ext) hK⟩⟩
    · refine SemW_buildSlice (vs := [aRun r]) Tryz.underlying59 ti34 rfl rfl rfl (by simp [Value.cells]) (by show 1 * 3 ≤ 16777216; decide) fun ps w2 h2 => ⟨hG _ (h1.ext.trans h2.ext), ?_⟩
      have B2 := kq B1 h2.ext
      refine SemW_appendFO (α := RunD) Tryz.underlying59 ti34 rfl (by decide) B2 (h1.ext.trans h2.ext).size (hof.ext (h1.ext.trans h2.ext)) (by simp only [maxLen, List.length_nil]; omega) fun v3 w3 B3 k3 => ?_
      have e3 : Ext w w3 := Keep.ext (h1.ext.trans h2.ext) k3 fun b hb e => by have := (B2.own_lt e.symm).1; omega
      rw [List.nil_append] at B3
      exact ⟨hG _ e3, appFin hn hr e3 (h2.row.keep k3 fun e => by have := (B1.own_lt e.symm).2; have := h2.blk; omega) B3 hK⟩
  · refine SemW_buildSlice (vs := [aRun r]) Tryz.underlying59 ti34 rfl rfl rfl (by simp [Value.cells]) (by show 1 * 3 ≤ 16777216; decide) fun ps w1 h1 => ⟨hG _ h1.ext, ?_⟩
    refine SemW_buildSlice (vs := []) Tryz.underlying59 ti34 rfl rfl rfl (by simp) (by simp) fun pb w2 h2 => ⟨hG _ (h1.ext.trans h2.ext), ?_⟩
    have B2 := newRuns h2
    have z1 := h1.size
    have z2 := h1.blk
    refine SemW_appendFO (α := RunD) Tryz.underlying59 ti34 rfl (by decide) (B2.mono h1.ext.size) (h1.ext.trans h2.ext).size (hof.ext (h1.ext.trans h2.ext)) (by simp only [maxLen, List.length_nil]; omega) fun v3 w3 B3 k3 => ?_
    have e3 : Ext w w3 := Keep.ext (h1.ext.trans h2.ext) k3 fun b hb e => by have := (B2.own_lt e.symm).1; omega
    rw [List.nil_append] at B3
    exact ⟨hG _ e3, appFin hn hr e3 ((h1.row.ext h2.ext).keep k3 fun e => by have := (B2.own_lt e.symm).1; omega) B3 hK⟩
end Go.Proofs.YtldjfebokojmfaaGreat
namespace Go.Fk
open Go
namespace Rf
variable {t : TimeD} {l : List OrderD} {covers : Int} {rest : List (List RunD)} {of : List RunD} {p : RefusalD}
theorem right_kids (ho : p.o = -1) (hk : p.kids ≠ []) : rightF t l covers rest of p = false := by
  have hk2 : p.kids.isEmpty = false := by simpa [List.isEmpty_iff] using hk
  cases rest with
  | nil => unfold rightF; split <;> simp [hk2]
  | cons x r => unfold rightF; split <;> simp [hk2, ho]
theorem right_cov (ho : p.o = -1) (hk : p.kids = []) (hw : p.why = 2) (hs : of.length + rest.length = l.length) : rightF t l covers rest of p = (decide (p.run = zeroR) && decide (of.length = l.length) && short l covers of) := by
  cases rest with
  | nil =>
    simp only [List.length_nil, Nat.add_zero] at hs
    unfold rightF
    rw [if_neg (by simp [hw])]
    simp [ho, hw, hk, hs]
  | cons x r =>
    simp only [List.length_cons] at hs
    have : of.length ≠ l.length := by omega
    unfold rightF
    rw [if_neg (by simp [hw])]
    simp [ho, this]
theorem right_room (ho : p.o = -1) (hk : p.kids = []) (hw : p.why ≠ 2) (hn : of.length ≤ l.length) : rightF t l covers rest of p = (decide (p.why = 1) && decide (0 < (Pl.load l of p.run).n) && full t l of p.run) := by
  by_cases h1 : p.why = 1
  · have hc : of.contains p.run = decide (0 < (Pl.load l of p.run).n) := by
      rw [Bool.eq_iff_iff]
      simp only [List.contains_iff_mem, decide_eq_true_eq]
      constructor
      · intro h
        have := Pl.load_pos of hn _ h
        omega
      · intro h
        by_cases hm : p.run ∈ of
        · exact hm
        · rw [Rp.load_no of hn hm] at h
          simp [Pl.LoadD.zero] at h
    have e : rightF t l covers rest of p = (p.kids.isEmpty && of.contains p.run && full t l of p.run) := by cases rest <;> (unfold rightF; rw [if_pos ⟨ho, h1⟩])
    rw [e, hc, hk]
    simp [h1]
  · cases rest with
    | nil => unfold rightF; rw [if_neg (by simp [h1])]; simp [h1, hw]
    | cons x r => unfold rightF; rw [if_neg (by simp [h1])]; simp [ho, h1]
end Rf
end Go.Fk
namespace Go.Proofs.YtldjfebokojmfaaGreat
open Go Go.Fk
set_option linter.unusedSimpArgs false
set_option linter.unusedVariables false
set_option maxRecDepth 100000
set_option maxHeartbeats 4000000 in
theorem rgRight {t : TimeD} {l : List OrderD} {covers : Int} {vl vo vO : Value} {opts : List (List RunD)} (hcr : ∀ o ∈ l, 1 ≤ o.Crowd ∧ o.Crowd ≤ 64) (h64 : l.length ≤ 64) (hlen : opts.length = l.length) (hob : ∀ o ∈ opts, o.length ≤ 100000000 ∧ ∀ r ∈ o, Tt.isRun t r = true) :
    ∀ (n : Nat) (rest : List (List RunD)) (of : List RunD) (p : RefusalD) (vof u : Value) (w : World), rest.length = n → of.length + rest.length = l.length → rest = opts.drop of.length → (∀ r ∈ of, Tt.isRun t r = true) → Sl w vl t.Lines → Sl w vo l → Sl w vO opts → Sl w vof of → I64 p.o → I64 p.why → RunJ p.run → Sl w u p.kids →
    Calls Tryz.prog 29 #[.agg (t.cs vl).toArray, vo, vO, .int .i64 covers, vof, .agg (p.cs u).toArray] w fun e w' => e = .returned (.bool (Rf.rightF t l covers rest of p)) ∧ Ext w w' := by
  intro n
  induction n using Nat.strongRecOn with
  | _ n ih =>
  intro rest of p vof u w hn hsum hdrop hin hl ho hO hof io iw ir hkids
  have ofs := hof.s
  have ofl := hof.len
  have hos := ho.s
  have hol := ho.len
  have hOs := hO.s
  have hOl := hO.len
  have hus := hkids.s
  have hul := hkids.len
  have hrz : p.run = Rf.zeroR ↔ p.run.Line = 0 ∧ p.run.At = 0 ∧ p.run.Arrive = 0 := by
    cases p.run; simp [Rf.zeroR]
  refine Calls_of_Run (args := [.agg (t.cs vl).toArray, vo, vO, .int .i64 covers, vof, .agg (p.cs u).toArray]) (n := 131) (rs := [.tmp 12]) Tryz.func29 rfl rfl rfl (by simp) ?_
  (repeat with_reducible first | refine jy ?_ | refine jw KL29 [10] TF29 fun _ => ?_)
  refine SemW_box fun pt w1 h1 => SemW_box fun pp w2 h2 => ?_
  have x1 := h1.ext
  have x2 := x1.trans h2.ext
  have A : ∀ w', Ext w2 w' → AtN w' pt 0 (t.cs vl) := fun w' x => (h1.at_.ext (h2.ext.trans x)).n
  have B : ∀ w', Ext w2 w' → AtN w' pp 0 (p.cs u) := fun w' x => (h2.at_.ext x).n
  simp only [TimeD.cs, RefusalD.cs, AtN, KS, Nat.reduceAdd, Nat.reduceMul, Nat.reduceEqDiff, ↓reduceIte, UT] at A B
  have a2 := A w2 (Ext.refl _)
  have b2 := B w2 (Ext.refl _)
  (repeat with_reducible first | refine jy ?_ | refine jw KL29 [10] (aa TF29 (aa ofs (aa ofl (aa a2 b2)))) fun _ => ?_)
  refine ⟨.agg #[.int .i64 0, .int .i64 0, .int .i64 0], fun _ => by kernel_rfl, by kernel_rfl, ⟨by simp [IsA], by simp [agOf], by simp [agOf, allI]⟩, ?_⟩
  have hz : eqI [.int .i64 p.run.Line, .int .i64 p.run.At, .int .i64 p.run.Arrive] (agOf (.agg #[.int .i64 0, .int .i64 0, .int .i64 0])) = decide (p.run = Rf.zeroR) := by
    rw [Bool.eq_iff_iff, decide_eq_true_iff, hrz]
    simp [agOf, eqI]
  rw [hz]
  (repeat with_reducible first | refine jy ?_ | refine jw KL29 [10] (aa TF29 b2) fun _ => ?_)
  refine Run_condS (fun _ => rfl) (fun h => ?_) (fun h => ?_)
  · have ho1 : p.o = -1 := by simpa using h
    clear h
    (repeat with_reducible first | refine jy ?_ | refine jw KL29 [10] (aa TF29 (aa b2 (aa hus hul))) fun _ => ?_)
    refine Run_condS (fun _ => rfl) (fun h => ?_) (fun h => ?_)
    · have hk0 : p.kids ≠ [] := fun e => by rw [e] at h; simp at h
      rw [Rf.right_kids ho1 hk0]
      (repeat with_reducible first | refine jy ?_ | refine jw KL29 [10] TF29 fun _ => ?_)
      refine Run_ret ?_
      simp only [Rets, RetM, resV, fnd, oneOr, ↓reduceIte, KS, Nat.reduceAdd, Nat.reduceMul, Nat.reduceEqDiff, ↓reduceIte, UT]
      exact ⟨_, rfl, rfl, x2⟩
    have hk0 : p.kids = [] := by simpa using h
    clear h
    (repeat with_reducible first | refine jy ?_ | refine jw KL29 [10] (aa TF29 b2) fun _ => ?_)
    refine Run_condS (fun _ => rfl) (fun h => ?_) (fun h => ?_)
    · have hw : p.why = 2 := by simpa using h
      clear h
      rw [Rf.right_cov ho1 hk0 hw hsum]
      (repeat with_reducible first | refine jy ?_ | refine jw KL29 [10] (aa TF29 (aa hos hol)) fun _ => ?_)
      refine .inr ⟨.int .i64 (Pl.tot l of), fun _ => PC_pure call48 fun w3 x3 => rgNeeded vo vof t l of w3 (ho.ext (x2.trans x3)) (hof.ext (x2.trans x3)) (by omega) h64 hcr hin, fun w3 x3 => ?_⟩
      unfold hush
      (repeat with_reducible first | refine jy ?_ | refine jw KL29 [10] (aa TF29 (aa hos hol)) fun _ => ?_)
      refine Run_ret ?_
      simp only [Rets, RetM, resV, fnd, oneOr, ↓reduceIte, KS, Nat.reduceAdd, Nat.reduceMul, Nat.reduceEqDiff, ↓reduceIte, UT]
      refine ⟨_, rfl, ?_, x2.trans x3⟩
      congr 2
      rw [Bool.eq_iff_iff]
      simp [Rf.short]
      intros
      omega
    have hw : p.why ≠ 2 := by simpa using h
    clear h
    rw [Rf.right_room ho1 hk0 hw (by omega)]
    (repeat with_reducible first | refine jy ?_ | refine jw KL29 [10] (aa TF29 b2) fun _ => ?_)
    refine CallW_pure call49 (rfLoad vo vof l of p.run w2 (ho.ext x2) (hof.ext x2) (by omega) hcr (by omega) ir) fun w3 x3 => ?_
    refine ⟨⟨by simp [IsT], by simp [tpOf]⟩, ⟨by simp [IsT], by simp [tpOf]⟩, ?_⟩
    have y3 := x2.trans x3
    have a3 := A w3 x3
    have b3 := B w3 x3
    (try simp (maxSteps := 5000000) only [KS, Nat.reduceAdd, Nat.reduceMul, Nat.reduceEqDiff, ↓reduceIte, forall_const, Int.cast_ofNat_Int, Int.reduceToNat, List.take_succ_cons, List.take_zero, List.drop_succ_cons, List.drop_zero, TF29, KL29, tpOf]); (try simp (disch := omega) only [wrapI, tmodI, tdivI])
    (repeat with_reducible first | refine jy ?_ | refine jw KL29 [10] (aa TF29 (aa a3 b3)) fun _ => ?_)
    refine .inr ⟨.bool (Rf.full t l of p.run), fun hg => ?_, fun w4 x4 => ?_⟩
    · have hm : p.run ∈ of := Classical.byContradiction fun e => by
        rw [Rp.load_no of (by omega) e] at hg
        simp [Pl.LoadD.zero] at hg
      exact PC_pure call45 fun w4 x4 => rgFullM vl vo vof t l of p.run w4 (hl.ext (y3.trans x4)) (ho.ext (y3.trans x4)) (hof.ext (y3.trans x4)) (by omega) h64 hcr ir hm (hin _ hm)
    unfold hush
    (repeat with_reducible first | refine jy ?_ | refine jw KL29 [10] (aa TF29 (aa a3 b3)) fun _ => ?_)
    refine Run_ret ?_
    simp only [Rets, RetM, resV, fnd, oneOr, ↓reduceIte, KS, Nat.reduceAdd, Nat.reduceMul, Nat.reduceEqDiff, ↓reduceIte, UT]
    refine ⟨_, rfl, ?_, y3.trans x4⟩
    congr 2
  have ho1 : p.o ≠ -1 := by simpa using h
  clear h
  have hn1 : ¬ (p.o = -1 ∧ p.why = 1) := fun h => ho1 h.1
  have hrb : ∀ h : of.length ≠ l.length, ∃ o rest', rest = o :: rest' ∧ ∃ vk, Sl w vk o ∧ o ∈ opts ∧ rest' = opts.drop (of.length + 1) ∧ ∀ w', Ext w w' → has1 w' ((slAt vO).add of.length) ∧ mem w' ((slAt vO).add of.length) = vk := fun h => by
    have hkl : of.length < opts.length := by omega
    have hd2 := hdrop
    rw [List.drop_eq_getElem_cons hkl] at hd2
    obtain ⟨_, ⟨vk, rfl, hk⟩, ha⟩ := hO.at_ of.length hkl
    refine ⟨_, _, hd2, vk, hk, List.getElem_mem _, rfl, fun w' x => ?_⟩
    have hak := (ha.ext x).n
    simp only [AtN, KS, Nat.reduceAdd, Nat.reduceMul, Nat.reduceEqDiff, ↓reduceIte, UT] at hak
    simpa [show Enc.n (List RunD) = 1 from rfl] using hak
  (repeat with_reducible first | refine jy ?_ | refine jw KL29 [10] (aa TF29 (aa ofs (aa ofl (aa a2 (aa b2 (aa hus (aa hul (aa hos (aa hol (aa hOs hOl)))))))))) fun _ => ?_)
  refine ⟨fun h => ?_, fun h => ?_, fun h => ?_, fun w3 x3 => ?_⟩
  · simp at h
    omega
  · simp at h
    obtain ⟨o, rest', h1, vk, hk, hm, hr', hv⟩ := hrb (by omega)
    exact (hv w2 x2).1
  · simp at h
    obtain ⟨o, rest', h1, vk, hk, hm, hr', hv⟩ := hrb (by omega)
    rw [(hv w2 x2).2]; exact hk.s
  refine Run_condS (fun _ => rfl) (fun h => ?_) (fun h => ?_)
  · have hf : Rf.rightF t l covers rest of p = false := by
      by_cases hc : of.length = l.length
      · cases rest with
        | cons o rest => simp only [List.length_cons] at hsum; omega
        | nil =>
          unfold Rf.rightF
          rw [if_neg hn1]
          simp [ho1]
      · obtain ⟨o, rest', h1, vk, hk, hm, hr', hv⟩ := hrb hc
        subst h1
        unfold Rf.rightF
        rw [if_neg hn1]
        rw [(hv w2 x2).2, hk.len] at h
        have : ¬ (p.o = of.length ∧ p.o ≠ -1 ∧ p.why = 0 ∧ p.run = Rf.zeroR ∧ p.kids.length = o.length) := fun ⟨e1, e2, e3, e4, e5⟩ => by
          simp [e1, e3, e4, e5] at h
          omega
        rw [decide_eq_false this]; rfl
    rw [hf]
    (repeat with_reducible first | refine jy ?_ | refine jw KL29 [10] TF29 fun _ => ?_)
    refine Run_ret ?_
    simp only [Rets, RetM, resV, fnd, oneOr, ↓reduceIte, KS, Nat.reduceAdd, Nat.reduceMul, Nat.reduceEqDiff, ↓reduceIte, UT]
    exact ⟨_, rfl, rfl, x2.trans x3⟩
  have hc : of.length ≠ l.length := fun e => by simp [e] at h
  obtain ⟨o, rest', h1, vk, hk, hm, hr', hv⟩ := hrb hc
  subst h1
  rw [(hv w2 x2).2, hk.len] at h
  have hh : p.o = of.length ∧ p.why = 0 ∧ p.run = Rf.zeroR ∧ p.kids.length = o.length := by
    simp at h
    exact ⟨by omega, by omega, h.1.2, by omega⟩
  clear h
  obtain ⟨hpo, hw0, hrun, hkl⟩ := hh
  have a3 := A w3 x3
  have hks := hk.s
  have hkn := hk.len
  simp only [List.length_cons] at hsum hn
  have hob1 := hob o hm
  have hR : Rf.rightF t l covers (o :: rest') of p = (o.zip p.kids).all fun a => Rf.rightF t l covers rest' (of ++ [a.1]) a.2 := by
    rw [Rf.rightF, if_neg hn1]
    have : p.o = of.length ∧ p.o ≠ -1 ∧ p.why = 0 ∧ p.run = Rf.zeroR ∧ p.kids.length = o.length := ⟨hpo, ho1, hw0, hrun, hkl⟩
    rw [decide_eq_true this, Bool.true_and]
  rw [hR]
  generalize hFF : (fun a : RunD × RefusalD => Rf.rightF t l covers rest' (of ++ [a.1]) a.2) = FF
  have hzl : (o.zip p.kids).length = o.length := by simp [hkl]
  (repeat with_reducible first | refine jy ?_ | refine jw KL29 [10] TF29 fun _ => ?_)
  refine Run_loopV [12, 17, 105, 130] (σ := Nat) (fun q => [(17, some (.int .i64 q)), (12, some (.bool false))]) (fun q w' => q ≤ o.length ∧ Ext w2 w' ∧ ((o.zip p.kids).drop q).all FF = (o.zip p.kids).all FF) (fun q => o.length - q) 0 (by simp [SubB, fnd]) ⟨by omega, x3, rfl⟩ ?_
  rintro q w4 ⟨hq, x4, hf⟩
  have b4 := B w4 x4
  (repeat with_reducible first | refine jy ?_ | refine jw KL29 [10] (aa TF29 (aa b4 (aa hus hul))) fun _ => ?_)
  refine Run_condS (fun _ => rfl) (fun h => ?_) (fun h => ?_)
  · simp at h
    have hql : q < o.length := by omega
    have hqc : (q : Int) < o.length := by omega
    clear h
    have hqk : q < p.kids.length := by omega
    have hqkc : (q : Int) < p.kids.length := by omega
    have y4 := x2.trans x4
    have hr := fun w' x => ((hk.ext (w' := w') x).runD hql)
    have hor : o[q] ∈ o := List.getElem_mem _
    rw [List.drop_eq_getElem_cons (show q < (o.zip p.kids).length by omega), List.all_cons, List.getElem_zip, ← hFF] at hf
    simp only at hf
    rw [hFF] at hf
    have hkid := fun w' (x : Ext w4 w') => (hkids.ext (y4.trans x)).refusal hqk
    generalize o[q] = r at *
    generalize p.kids[q] = c at *
    let S : Nat → Prop := fun _ => True
    (repeat with_reducible refine js ?_)
    refine Run_eh S [21] [(0, [21]), (10, [12, 13, 14, 15, 21]), (13, [14, 15, 21]), (17, [19, 20, 21]), (20, [21])] (id := 15) KL29 (.first 0 (.first 1 (.first 2 (.first 3 (.first 5 (.first 7 (.first 8 (.first 9 (.first 10 (.first 11 (.first 12 (.first 13 (.first 16 (.first 17 (.first 18 (.first 19 (.first 20 (.alt true 4 (.alt true 6 (.alt true 14 (.alt true 15 (.alt true 21 (.free (.first 22 .done)) .stop) .stop) .stop) (.alt true 14 (.alt true 6 (.alt true 15 (.alt true 21 (.free (.first 22 .done)) .stop) .stop) .stop) .stop)) (.alt true 14 (.alt true 4 (.alt true 6 (.alt true 15 (.alt true 21 (.free (.first 22 .done)) .stop) .stop) .stop) .stop) .stop))))))))))))))))))) mixed (by kernel_rfl) (by kernel_rfl) fun w8 x8 _ => ?_
    have hS : ∀ w9, Ext w8 w9 → Keep S w8 w9 := fun w9 x => Keep.of_ext x
    have x48 := x4.trans x8
    have y8 := y4.trans x8
    have a8 := A w8 x48
    have b8 := B w8 x48
    have v8 := hv w8 y8
    obtain ⟨g1, g2⟩ := hr w8 y8
    obtain ⟨uc, c1, c2⟩ := hkid w8 x8
    obtain ⟨uc', hcs, i1, i2, i3, hsk⟩ := c2.op
    simp only [RefusalD.cs, RunD.cs, AtN, KS, Nat.reduceAdd, Nat.reduceMul, Nat.reduceEqDiff, ↓reduceIte, UT] at g1 c1
    (try simp (maxSteps := 5000000) only [KS, Nat.reduceAdd, Nat.reduceMul, Nat.reduceEqDiff, ↓reduceIte, forall_const, Int.cast_ofNat_Int, Int.reduceToNat, List.take_succ_cons, List.take_zero, List.drop_succ_cons, List.drop_zero, TF29, KL29, eh, gres, qopS, putL, ung, a8, b8, v8, g1, c1, ofs, ofl, hOs, hOl, hks, hkn, hus, hul]); (try simp (disch := omega) only [wrapI, tmodI, tdivI])
    have huc : uc = uc' := by simpa [RefusalD.cs] using hcs
    subst huc
    refine ⟨trivial, ⟨by omega, by omega⟩, trivial, ⟨by omega, by omega⟩, trivial, trivial, ⟨by omega, by omega⟩, trivial, Keep.refl _ _, ?_⟩
    refine appAll (G := fun w' => Keep S w8 w') (hof.ext y8) (by omega) g2 hS fun v9 w9 b9 x9 => ⟨hS _ x9, ?_⟩
    have y9 := y8.trans x9
    have sv9 := b9.sl (by rw [List.length_append, List.length_singleton]; omega)
    refine CallW_gen call29 (ih rest'.length (by omega) rest' (of ++ [r]) c v9 uc w9 rfl (by rw [List.length_append, List.length_singleton]; omega) (by rw [hr', List.length_append, List.length_singleton]) (fun x hx => by
      rcases List.mem_append.1 hx with hx | hx
      · exact hin _ hx
      · rw [List.mem_singleton.1 hx]; exact hob1.2 _ hor) (hl.ext y9) (ho.ext y9) (hO.ext y9) sv9 i1 i2 i3 (hsk.ext x9)) fun e w10 ⟨he, x10⟩ => ⟨_, he, by simp [IsB], ?_⟩
    have hFr : Rf.rightF t l covers rest' (of ++ [r]) c = FF (r, c) := by rw [← hFF]
    rw [hFr] at hf ⊢
    generalize FF (r, c) = bb at *
    refine Run_condS (fun _ => rfl) (fun h => ?_) (fun h => ?_)
    · have : bb = false := by simpa [bOf] using h
      subst this
      rw [Bool.false_and] at hf
      rw [← hf]
      (repeat with_reducible first | refine jy ?_ | refine jw KL29 [10] TF29 fun _ => ?_)
      refine Run_ret ?_
      simp only [Rets, RetM, resV, fnd, oneOr, ↓reduceIte, KS, Nat.reduceAdd, Nat.reduceMul, Nat.reduceEqDiff, ↓reduceIte, UT]
      exact ⟨_, rfl, rfl, y9.trans x10⟩
    · have : bb = true := by simpa [bOf] using h
      subst this
      rw [Bool.true_and] at hf
      (repeat with_reducible first | refine jy ?_ | refine jw KL29 [10] TF29 fun _ => ?_)
      exact Run_lp ⟨q + 1, by simp [SubB, fnd, strike, has], ⟨by omega, x48.trans (x9.trans x10), hf⟩, by omega⟩
  simp at h
  obtain rfl : q = o.length := by omega
  clear h
  rw [List.drop_eq_nil_of_le (by omega)] at hf
  rw [← hf]
  (repeat with_reducible first | refine jy ?_ | refine jw KL29 [10] TF29 fun _ => ?_)
  refine Run_ret ?_
  simp only [Rets, RetM, resV, fnd, oneOr, ↓reduceIte, KS, Nat.reduceAdd, Nat.reduceMul, Nat.reduceEqDiff, ↓reduceIte, UT]
  exact ⟨_, rfl, rfl, x2.trans x4⟩
end Go.Proofs.YtldjfebokojmfaaGreat
