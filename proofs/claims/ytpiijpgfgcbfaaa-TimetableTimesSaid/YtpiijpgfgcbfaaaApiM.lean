/- Moves, as Lean data, and how cells stand for them; arrays of ints. -/
import Derived.Test.YtpiijpgfgcbfaaaFk
namespace Go.Fk
open Go
structure MoveD where
  No : Int
  From : Int
  To : Int
  Amount : Int
  Why : Int
  Run : Int
  deriving DecidableEq
instance : Inhabited MoveD := ⟨⟨0, 0, 0, 0, 0, 0⟩⟩
def MoveD.cs (x : MoveD) : List Value := [.int .i64 x.No, .int .i64 x.From, .int .i64 x.To, .int .i64 x.Amount, .int .i64 x.Why, .int .i64 x.Run]
instance : Enc MoveD where
  n := 6
  rep _ cs x := cs = x.cs ∧ I64 x.No ∧ I64 x.From ∧ I64 x.To ∧ I64 x.Amount ∧ I64 x.Why ∧ I64 x.Run
  len _ _ _ h := by rw [h.1]; rfl
  ext _ _ _ _ _ h := h
instance : Flat MoveD := ⟨fun _ _ _ _ h => h, fun _ _ _ h => by rw [h.1]; rfl⟩
theorem Sl.moveD {w : World} {v : Value} {xs : List MoveD} (h : Sl w v xs) {i : Nat} (hi : i < xs.length) :
    AtN w ((slAt v).add (i * 6)) 0 xs[i].cs ∧ I64 xs[i].No ∧ I64 xs[i].From ∧ I64 xs[i].To ∧ I64 xs[i].Amount ∧ I64 xs[i].Why ∧ I64 xs[i].Run := by
  obtain ⟨cs, ⟨rfl, h1⟩, ha⟩ := h.at_ i hi
  exact ⟨ha.n, h1⟩


/-- an array of ints -/
abbrev ints (l : List Int) : List Value := l.map (Value.int .i64)
theorem memN_at {w : World} {a : Addr} : ∀ (cs : List Value) (i : Nat), (∀ j v, cs[j]? = some v → w.cell? (a.add (i + j)) = some v) → hasN w a i cs.length ∧ memN w a i cs.length = cs
  | [], _, _ => ⟨trivial, rfl⟩
  | c :: cs, i, h => by
    have h0 := h 0 c rfl
    rw [Nat.add_zero] at h0
    obtain ⟨h1, h2⟩ := memN_at cs (i + 1) fun j v hj => by
      rw [show i + 1 + j = i + (j + 1) by omega]
      exact h (j + 1) v hj
    refine ⟨⟨by unfold has1; rw [h0]; rfl, h1⟩, ?_⟩
    show mem w (a.add i) :: memN w a (i + 1) cs.length = c :: cs
    rw [h2]; unfold mem; rw [h0]; rfl
theorem at_memA {w : World} {a : Addr} {cs : List Value} (h : At w a cs) {n : Nat} (hn : cs.length = n) : hasA w a n ∧ memA w a n = cs := by
  subst hn
  exact memN_at cs 0 fun j v hj => by rw [Nat.zero_add]; exact h j v hj
theorem at_int {w : World} {a : Addr} {l : List Int} (h : At w a (ints l)) {i : Nat} (hi : i < l.length) : has1 w (a.add i) ∧ mem w (a.add i) = .int .i64 l[i] := by
  have h1 := h.has (j := i) (by simpa using hi)
  have h2 := h.mem (j := i) (by simpa using hi)
  exact ⟨h1, by rw [h2]; simp⟩
theorem ints_len (l : List Int) : (ints l).length = l.length := by simp
theorem ints_set (l : List Int) (i : Nat) (x : Int) : (ints l).set i (.int .i64 x) = ints (l.set i x) := by simp [List.map_set]
end Go.Fk
