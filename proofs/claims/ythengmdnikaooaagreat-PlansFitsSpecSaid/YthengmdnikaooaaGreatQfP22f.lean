import Derived.Test.YthengmdnikaooaaGreatQfP22e
set_option linter.unusedVariables false
set_option linter.unusedSimpArgs false
namespace Go.Fk
open Go
namespace Pl
def leafC (t : TimeD) (f : TariffD) (l : List OrderD) (covers : Int) (of : List RunD) : Bool := (check t f l covers (planOf l of)).1
theorem choose_eq {t : TimeD} {f : TariffD} {l : List OrderD} {covers : Int} (he : err t f l = 0) (ho : optsE t f l = 0) : srch l (room t) (leafC t f l covers) (optsOf t f l) [] = mkOf t f l covers := by
  unfold mkOf
  refine srch_congr fun s hp => ?_
  have okk := opts_okk ho
  have hn : s.length = l.length := by rw [path_len hp, okk.n]
  have hm : ∀ k (h : k < s.length), Tt.isRun t s[k] = true ∧ fits t f (l.getD k default) s[k] = true := fun k hk => okk.m k (by omega) _ (path_mem hp k hk)
  unfold leafC check
  rw [if_neg (by simp [he]), List.nil_append]
  refine good_planOf hn (fun r hr => ?_) (fun k hk => ?_) fun r hr => ?_
  · obtain ⟨k, hk, rfl⟩ := List.getElem_of_mem hr; exact (hm k hk).1
  · have := (hm k (by omega)).2
    rwa [show s.getD k default = s[k]'(by omega) by simp [List.getD_eq_getElem?_getD, show k < s.length by omega]]
  · have := path_room hp (by simp [okk.n]) (by simp)
    have := this r (by simpa using hr)
    rw [List.nil_append] at this
    exact this
end Pl
end Go.Fk
