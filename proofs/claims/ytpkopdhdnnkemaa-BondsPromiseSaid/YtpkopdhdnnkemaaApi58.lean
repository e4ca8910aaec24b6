/- Verdicts, and claims about letters, as Lean data. -/
import Derived.Test.YtpkopdhdnnkemaaApiM
namespace Go.Fk
open Go
structure VerdictD where
  Office : Int
  Why : Int
  deriving DecidableEq
instance : Inhabited VerdictD := ⟨⟨0, 0⟩⟩
def VerdictD.cs (x : VerdictD) : List Value := [.int .i64 x.Office, .int .i64 x.Why]
instance : Enc VerdictD where
  n := 2
  rep _ cs x := cs = x.cs ∧ I64 x.Office ∧ I64 x.Why
  len _ _ _ h := by rw [h.1]; rfl
  ext _ _ _ _ _ h := h
instance : Flat VerdictD := ⟨fun _ _ _ _ h => h, fun _ _ _ h => by rw [h.1]; rfl⟩
theorem Sl.verdictD {w : World} {v : Value} {xs : List VerdictD} (h : Sl w v xs) {i : Nat} (hi : i < xs.length) :
    AtN w ((slAt v).add (i * 2)) 0 xs[i].cs ∧ I64 xs[i].Office ∧ I64 xs[i].Why := by
  obtain ⟨cs, ⟨rfl, h1⟩, ha⟩ := h.at_ i hi
  exact ⟨ha.n, h1⟩

structure ClaimD where
  Offices : List Int
  V : VerdictD
  Sender : Int
  Price : Int
  deriving DecidableEq
instance : Inhabited ClaimD := ⟨⟨[], default, 0, 0⟩⟩
def ClaimD.cs (x : ClaimD) (v0 : Value) : List Value := [v0, .int .i64 x.V.Office, .int .i64 x.V.Why, .int .i64 x.Sender, .int .i64 x.Price]
instance : Enc ClaimD where
  n := 5
  rep w cs x := ∃ v0, cs = x.cs v0 ∧ Sl w v0 x.Offices ∧ I64 x.V.Office ∧ I64 x.V.Why ∧ I64 x.Sender ∧ I64 x.Price
  len _ _ _ h := by obtain ⟨v0, rfl, _⟩ := h; rfl
  ext w w' cs x hx h := by
    obtain ⟨v0, rfl, h0, h1, h2, h3, h4⟩ := h
    exact ⟨v0, rfl, h0.ext hx, h1, h2, h3, h4⟩
theorem Sl.claimD {w : World} {v : Value} {xs : List ClaimD} (h : Sl w v xs) {i : Nat} (hi : i < xs.length) :
    ∃ u0, AtN w ((slAt v).add (i * 5)) 0 (xs[i].cs u0) ∧ At w ((slAt v).add (i * 5)) (xs[i].cs u0) ∧ Sl w u0 xs[i].Offices ∧ I64 xs[i].V.Office ∧ I64 xs[i].V.Why ∧ I64 xs[i].Sender ∧ I64 xs[i].Price := by
  obtain ⟨cs, ⟨v0, rfl, h1⟩, ha⟩ := h.at_ i hi
  exact ⟨v0, ha.n, ha, h1⟩

end Go.Fk
