import Derived.Test.YtldjfebokojmfaaGreatRgGt
import Derived.Test.YtldjfebokojmfaaGreatRgGs
import Derived.Test.YtldjfebokojmfaaGreatRgGv
namespace Go.Fk
open Go
theorem cptF_srt : ∀ (l : List RunD) (a : RunD), (a :: l).Pairwise (fun x y => Tt.before y x = false) → Pl.Dis (a :: l) → Tt.Srt (a :: cptF a l) ∧ ∀ r, r ∈ a :: cptF a l ↔ r ∈ a :: l
  | [], a, _, _ => ⟨List.pairwise_singleton _ _, fun r => by simp [cptF]⟩
  | b :: l, a, hp, hd => by
    have hpb := List.Pairwise.of_cons hp
    by_cases h : a = b
    · subst h
      have := cptF_srt l a hpb fun x hx y hy => hd x (List.mem_cons_of_mem _ hx) y (List.mem_cons_of_mem _ hy)
      have e : cptF a (a :: l) = cptF a l := by rw [cptF, if_pos rfl]
      rw [e]
      refine ⟨this.1, fun r => ?_⟩
      rw [this.2 r]; simp
    · obtain ⟨h1, h2⟩ := cptF_srt l b hpb fun x hx y hy => hd x (List.mem_cons_of_mem _ hx) y (List.mem_cons_of_mem _ hy)
      have e : cptF a (b :: l) = b :: cptF b l := by rw [cptF, if_neg h]
      rw [e]
      have hab : Tt.before a b = true := Tt.apart_or (hd a (by simp) b (by simp) h) (List.rel_of_pairwise_cons hp (by simp))
      refine ⟨List.Pairwise.cons (fun x hx => ?_) h1, fun r => ?_⟩
      · have hx := (h2 x).1 hx
        have hne : a ≠ x := by
          rintro rfl
          rcases List.mem_cons.1 hx with e | hx
          · exact h e
          · have := List.rel_of_pairwise_cons hpb hx
            rw [hab] at this; cases this
        exact Tt.apart_or (hd a (by simp) x (List.mem_cons_of_mem _ hx) hne) (List.rel_of_pairwise_cons hp hx)
      · rw [List.mem_cons, h2 r, List.mem_cons (a := r) (b := a)]
theorem cpt_dd {l of : List RunD} (hp : l.Perm of) (hs : l.Pairwise fun x y => Tt.before y x = false) (hd : Pl.Dis of) : cpt l = Pl.dd of := by
  obtain ⟨h1, h2⟩ := Pl.dd_spec hd
  cases l with
  | nil =>
    have : of = [] := List.nil_perm.1 hp
    subst this
    rfl
  | cons a l =>
    have hd' : Pl.Dis (a :: l) := fun x hx y hy => hd x (hp.mem_iff.1 hx) y (hp.mem_iff.1 hy)
    obtain ⟨g1, g2⟩ := cptF_srt l a hs hd'
    refine Pl.srt_ext g1 h1 fun r => ?_
    show r ∈ a :: cptF a l ↔ _
    rw [g2 r, h2 r, hp.mem_iff]
end Go.Fk
namespace Go.Proofs.YtldjfebokojmfaaGreat
open Go Go.Fk
set_option linter.unusedSimpArgs false
set_option linter.unusedVariables false
set_option maxRecDepth 100000
theorem plCmpS (a b : RunD) (w : World) : Calls Tryz.prog 56 #[.agg a.cs.toArray, .agg b.cs.toArray] w fun e w' => e = .returned (.int .i64 (Go.Fk.cmpR a b)) ∧ ∃ q os', w' = Sort.grow (w.drewN q) os' := by
  refine Calls_of_Run (args := [.agg a.cs.toArray, .agg b.cs.toArray]) (n := 17) (rs := [.tmp 4]) Tryz.func56 rfl rfl rfl (by simp) ?_
  (repeat with_reducible first | refine jy ?_ | (refine jT (id := 1) KL56 9 mixed (by kernel_rfl) (by kernel_rfl) (by kernel_rfl) fun _ => ?_; refine jw KL56 [] TF56 fun _ => ?_) | refine jw KL56 [] TF56 fun _ => ?_)
  refine SemW_box fun p w1 hN => SemW_box fun q w2 hQ => ?_
  have g1 := (hN.at_.ext hQ.ext).n
  have g2 := hQ.at_.n
  simp only [RunD.cs, AtN, KS, Nat.reduceAdd, Nat.reduceMul, Nat.reduceEqDiff, ↓reduceIte, UT] at g1 g2
  (repeat with_reducible refine js ?_)
  refine Run_tailC (C := fun w' => ∃ q, w' = w2.drewN q) (id := 1) KL56 10 (fun w' ⟨q, h⟩ => h ▸ drewN_ext w2 q) ⟨1, rfl⟩ mixed (by kernel_rfl) (by kernel_rfl) (by kernel_rfl) fun _ => ?_
  (try simp (maxSteps := 5000000) only [KS, Nat.reduceAdd, Nat.reduceMul, Nat.reduceEqDiff, ↓reduceIte, forall_const, Int.cast_ofNat_Int, Int.reduceToNat, List.take_succ_cons, List.take_zero, List.drop_succ_cons, List.drop_zero, TF56, KL56, g1, g2]); (try simp (disch := omega) only [wrapI, tmodI, tdivI])
  refine ⟨_, PC_same call84 (cmCompare _ _), ?_⟩
  refine ⟨_, PC_same call84 (cmCompare _ _), ?_⟩
  rintro w3 ⟨m, rfl⟩
  refine SemW_buildSlice (vs := [.int .i64 (cmpI a.At b.At), .int .i64 (cmpI a.Line b.Line)]) Tryz.underlying25 ti3 rfl rfl rfl (by simp [Value.cells]) (by simp) fun ph w3 hB => ?_
  have hA : At w3 ph [.int .i64 (cmpI a.At b.At), .int .i64 (cmpI a.Line b.Line)] := by simpa [Value.cells] using hB.at_
  refine CallW_gen call83 (cmOr ph _ _ w3 hA) fun e w' ⟨he, hw⟩ => ⟨_, he, ?_⟩
  subst hw
  refine Run_ret ?_
  simp only [Rets, RetM, resV, fnd, oneOr, ↓reduceIte]
  refine ⟨_, rfl, rfl, ?_⟩
  rw [hB.w, hQ.w, hN.w, Sort.alloc_eq_grow, Sort.alloc_eq_grow, Sort.alloc_eq_grow, Sort.grow_grow]
  exact ⟨m, _, Sort.grow_grow (w.drewN m) _ _⟩
theorem cmpPlLays (blk off size : Nat) (w : World) : Go.Proofs.CmpLays Tryz.prog 56 #[] RunD.cs 3 Go.Fk.cmpR blk off size w := fun m os dk _ x y => plCmpS x y _
theorem sortPl {v : Value} {l : List RunD} {w : World} {B : Nat} (hb : BufO (α := RunD) 34 B w v l) (hn : l.length ≤ 100000) :
    Calls Tryz.prog 67 #[v, .func (.func 56) #[] #[]] w fun e w' => e = .returned (.tuple #[]) ∧ (∃ l', l'.Perm l ∧ l'.Pairwise (fun x y => Tt.before y x = false) ∧ BufO (α := RunD) 34 B w' v l') ∧ Keep (fun k => some k ≠ v.ownBlock) w w' := by
  by_cases h0 : l = []
  · subst h0
    have hv : ∃ p cap, v = .slice p 0 cap := by
      obtain ⟨css, hc, hl, hv⟩ := hb.ex
      rcases hv with ⟨rfl, _⟩ | ⟨g, cap, cur, rfl, _⟩
      · exact ⟨_, _, rfl⟩
      · exact ⟨_, _, rfl⟩
    obtain ⟨p, cap, rfl⟩ := hv
    refine (AnyF.slices_SortFunc_none sortRun p cap _ w).mono fun e w' ⟨he, hw⟩ => ?_
    subst hw
    exact ⟨he, ⟨[], List.Perm.refl _, List.Pairwise.nil, hb⟩, Keep.refl _ _⟩
  obtain ⟨css, hc, hl, hv⟩ := hb.ex
  obtain ⟨e1, hr⟩ := hc.runs
  rcases hv with ⟨rfl, h0'⟩ | ⟨g, cap, cur, rfl, hbs, hg, h1, h2, h3, h4⟩
  · exact (h0 (List.eq_nil_of_length_eq_zero h0')).elim
  rw [e1] at h4
  have hlt : g < w.heap.size := (Array.getElem?_eq_some_iff.1 hg).1
  have eg : ∀ args w, (callFunc 56 args).run Tryz.prog w = .ok (.enter 56 args) w := enters_of Tryz.func56 (by kernel_rfl) rfl
  have hk : ∀ x : RunD, x.cs.length = 3 := fun _ => rfl
  refine (AnyQ.slices_SortFunc sortRun 3 Tryz.isAgg34 Tryz.sizeOf34 RunD.cs hk (fun x v hv => by simp [RunD.cs] at hv; rcases hv with rfl | rfl | rfl <;> rfl) Go.Fk.cmpR before_swo 56 #[] g 0 cap l.toArray w eg (cmpPlLays _ _ _ _) (holdsK_row hk hg h4) hlt (by simp; omega)).mono fun e w' ⟨he, d', n, os, hp, hs, hw⟩ => ?_
  obtain ⟨l', rfl⟩ : ∃ l' : List RunD, d' = l'.toArray := ⟨d'.toList, by simp⟩
  have hsz : l'.length = l.length := by simpa using hp.1
  have hpm : l'.Perm l := by
    have := hp.2.2
    simp at this
    rwa [List.take_of_length_le (Nat.le_of_eq hsz)] at this
  have hsrt : l'.Pairwise fun x y => Tt.before y x = false := by
    refine List.pairwise_iff_getElem.2 fun i j hi hj hij => ?_
    have := hs i j (Nat.zero_le _) hij (by simpa [hsz] using hj)
    rw [ltOf_before] at this
    simpa [List.getElem!_eq_getElem?_getD, List.getElem?_eq_getElem hi, List.getElem?_eq_getElem hj] using this
  obtain ⟨⟨cur', q1, q2, q3⟩, q4⟩ := sorted_row hk hg (l := l') (by rw [h3, hsz]; exact Nat.mul_le_mul_right 3 h1) n os
  rw [← hw] at q1 q4
  refine ⟨he, ⟨l', hpm, hsrt, l'.map RunD.cs, ?_, ?_, .inr ⟨g, cap, cur', by rw [hsz], hbs, q1, by rw [hsz]; exact h1, h2, by rw [q2]; exact h3, ?_⟩⟩, q4.mono fun k _ hk e => hk (by rw [e]; rfl)⟩
  · exact Cs.ofRuns fun x hx => hr x (hpm.mem_iff.1 hx) _
  · rw [← List.flatMap_def, flat_len hk]; rfl
  · rw [← List.flatMap_def]; exact q3
end Go.Proofs.YtldjfebokojmfaaGreat
