import Derived.Test.YtldjfebokojmfaaGreatRgHl
import Derived.Test.YtldjfebokojmfaaGreatRgW22u
import Derived.Test.YtldjfebokojmfaaGreatRgGs
import Derived.Test.YtldjfebokojmfaaGreatRgGe
namespace Go.Proofs.YtldjfebokojmfaaGreat
open Go Go.Fk
set_option linter.unusedSimpArgs false
set_option linter.unusedVariables false
set_option maxRecDepth 100000
section
variable {vl u0 u1 u2 vo vO : Value} {t : TimeD} {f : TariffD} {l : List OrderD} {covers : Int} {opts : List (List RunD)}
end
end Go.Proofs.YtldjfebokojmfaaGreat
namespace Go.Fk
open Go
structure RawS where
  v : Value
instance : Enc RawS where
  n := 1
  rep _ cs x := cs = [x.v] ∧ IsS x.v
  len _ _ _ h := by rw [h.1]; rfl
  ext _ _ _ _ _ h := h
instance : Flat RawS := ⟨fun _ _ _ _ h => h, fun _ _ _ h => by rw [h.1]; simpa using isS_o h.2⟩
theorem Sl.lists {α : Type} [Enc α] {w : World} {v : Value} {rs : List RawS} {xs : List (List α)} (h : Sl w v rs) (hl : rs.length = xs.length) (hr : ∀ i (h1 : i < rs.length) (h2 : i < xs.length), Sl w rs[i].v xs[i]) : Sl w v xs :=
  ⟨h.s, by rw [← hl]; exact h.len, by rw [← hl]; exact h.cap, by rw [← hl]; exact h.big, h.capM, fun i hi => by
    obtain ⟨cs, ⟨rfl, _⟩, ha⟩ := h.at_ i (by omega)
    exact ⟨_, ⟨_, rfl, hr i (by omega) hi⟩, ha⟩⟩
end Go.Fk
namespace Go.Proofs.YtldjfebokojmfaaGreat
open Go Go.Fk
set_option linter.unusedSimpArgs false
set_option linter.unusedVariables false
set_option maxRecDepth 100000
structure OpB (W0 w : World) (vb : Value) (opts : List (List RunD)) (q : Nat) : Prop where
  e : Ext W0 w
  b : ∃ rs : List RawS, BufO (α := RawS) 59 W0.heap.size w vb rs ∧ rs.length = q ∧ ∀ k (h1 : k < rs.length) (h2 : k < opts.length), BufO (α := RunD) 34 0 w rs[k].v opts[k]
end Go.Proofs.YtldjfebokojmfaaGreat
