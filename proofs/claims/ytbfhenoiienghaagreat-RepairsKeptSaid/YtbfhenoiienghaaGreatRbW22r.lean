import Derived.Test.YtbfhenoiienghaaGreatRbGt
import Derived.Test.YtbfhenoiienghaaGreatRbGs
import Derived.Test.YtbfhenoiienghaaGreatRbGv
namespace Go.Fk
open Go
theorem cptF_srt : ∀ (l : List RunD) (a : RunD), (a :: l).Pairwise (fun x y => Tt.before y x = false) → Pl.Dis (a :: l) → Tt.Srt (a :: cptF a l) ∧ ∀ r, r ∈ a :: cptF a l ↔ r ∈ a :: l
  | [], a, _, _ => ⟨List.pairwise_singleton _ _, fun r => by simp [cptF]⟩
  | b :: l, a, hp, hd => by
    have hpb := List.Pairwise.of_cons hp
    by_cases h : a = b
    · subst h
      have := cptF_srt l a hpb fun x hx y hy => hd x (List.mem_cons_of_mem _ hx) y (List.mem_cons_of_mem _ hy)
      have e : cptF a (a :: l) = cptF a l := by rw [cptF, if_pos rfl]
      rw [e]
      refine ⟨this.1, fun r => ?_⟩
      rw [this.2 r]; simp
    · obtain ⟨h1, h2⟩ := cptF_srt l b hpb fun x hx y hy => hd x (List.mem_cons_of_mem _ hx) y (List.mem_cons_of_mem _ hy)
      have e : cptF a (b :: l) = b :: cptF b l := by rw [cptF, if_neg h]
      rw [e]
      have hab : Tt.before a b = true := Tt.apart_or (hd a (by simp) b (by simp) h) (List.rel_of_pairwise_cons hp (by simp))
      refine ⟨List.Pairwise.cons (fun x hx => ?_) h1, fun r => ?_⟩
      · have hx := (h2 x).1 hx
        have hne : a ≠ x := by
          rintro rfl
          rcases List.mem_cons.1 hx with e | hx
          · exact h e
          · have := List.rel_of_pairwise_cons hpb hx
            rw [hab] at this; cases this
        exact Tt.apart_or (hd a (by simp) x (List.mem_cons_of_mem _ hx) hne) (List.rel_of_pairwise_cons hp hx)
      · rw [List.mem_cons, h2 r, List.mem_cons (a := r) (b := a)]
theorem cpt_dd {l of : List RunD} (hp : l.Perm of) (hs : l.Pairwise fun x y => Tt.before y x = false) (hd : Pl.Dis of) : cpt l = Pl.dd of := by
  obtain ⟨h1, h2⟩ := Pl.dd_spec hd
  cases l with
  | nil =>
    have : of = [] := List.nil_perm.1 hp
    subst this
    rfl
  | cons a l =>
    have hd' : Pl.Dis (a :: l) := fun x hx y hy => hd x (hp.mem_iff.1 hx) y (hp.mem_iff.1 hy)
    obtain ⟨g1, g2⟩ := cptF_srt l a hs hd'
    refine Pl.srt_ext g1 h1 fun r => ?_
    show r ∈ a :: cptF a l ↔ _
    rw [g2 r, h2 r, hp.mem_iff]
end Go.Fk
namespace Go.Proofs.YtbfhenoiienghaaGreat
open Go Go.Fk
set_option linter.unusedSimpArgs false
set_option linter.unusedVariables false
set_option maxRecDepth 100000
end Go.Proofs.YtbfhenoiienghaaGreat
