/- The program's plain data as Lean data, and how cells stand for it. -/
import Derived.Test.YtpiijpgfgcbfaaaFk
namespace Go.Fk
open Go

structure Rule where
  First : Int
  Until : Int
  Every : Int
  deriving DecidableEq
structure Gap where
  From : Int
  Until : Int
  deriving DecidableEq

instance : Inhabited Rule := ⟨⟨0, 0, 0⟩⟩
instance : Inhabited Gap := ⟨⟨0, 0⟩⟩

def Rule.cs (r : Rule) : List Value := [.int .i64 r.First, .int .i64 r.Until, .int .i64 r.Every]
def Gap.cs (g : Gap) : List Value := [.int .i64 g.From, .int .i64 g.Until]
instance : Enc Rule where
  n := 3
  rep _ cs r := cs = r.cs ∧ I64 r.First ∧ I64 r.Until ∧ I64 r.Every
  len _ _ _ h := by rw [h.1]; rfl
  ext _ _ _ _ _ h := h
instance : Enc Gap where
  n := 2
  rep _ cs r := cs = r.cs ∧ I64 r.From ∧ I64 r.Until
  len _ _ _ h := by rw [h.1]; rfl
  ext _ _ _ _ _ h := h

instance : Flat Rule := ⟨fun _ _ _ _ h => h, fun _ _ _ h => by rw [h.1]; rfl⟩
instance : Flat Gap := ⟨fun _ _ _ _ h => h, fun _ _ _ h => by rw [h.1]; rfl⟩
theorem Sl.rule {w : World} {v : Value} {xs : List Rule} (h : Sl w v xs) {i : Nat} (hi : i < xs.length) :
    AtN w ((slAt v).add (i * 3)) 0 xs[i].cs ∧ I64 xs[i].First ∧ I64 xs[i].Until ∧ I64 xs[i].Every := by
  obtain ⟨cs, ⟨rfl, h1⟩, ha⟩ := h.at_ i hi
  exact ⟨ha.n, h1⟩
theorem Sl.gap {w : World} {v : Value} {xs : List Gap} (h : Sl w v xs) {i : Nat} (hi : i < xs.length) :
    AtN w ((slAt v).add (i * 2)) 0 xs[i].cs ∧ I64 xs[i].From ∧ I64 xs[i].Until := by
  obtain ⟨cs, ⟨rfl, h1⟩, ha⟩ := h.at_ i hi
  exact ⟨ha.n, h1⟩
end Go.Fk
