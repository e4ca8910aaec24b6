/- Chapter 40: the fund, in plain Lean. No program in sight. -/
import Derived.Test.YtoadfmgnpmcbfaaGreatP20
import Derived.Test.YtoadfmgnpmcbfaaGreatP21
import Derived.Test.YtoadfmgnpmcbfaaGreatP38
set_option linter.unusedVariables false
namespace Go.Fk
open Go
namespace Fd
def better : Option Int → Int → Bool
  | none, _ => true
  | some x, y => decide (y < x)
/-- the least of the elements that are accepted -/
def leastF (ok : Nat → Bool) : Nat → List Int → Option Int → Option Int
  | _, [], a => a
  | i, y :: r, a => leastF ok (i + 1) r (if ok i && better a y then some y else a)
def least (ok : Nat → Bool) (l : List Int) : Option Int := leastF ok 0 l none
theorem leastF_drop {ok : Nat → Bool} {l : List Int} {k : Nat} {a : Option Int} (h : k < l.length) : leastF ok k (l.drop k) a = leastF ok (k + 1) (l.drop (k + 1)) (if ok k && better a l[k] then some l[k] else a) := by
  rw [List.drop_eq_getElem_cons h]; rfl
theorem leastF_mem (ok : Nat → Bool) : ∀ (l : List Int) (i : Nat) (a : Option Int) (x : Int), leastF ok i l a = some x → x ∈ l ∨ a = some x
  | [], i, a, x, h => .inr h
  | y :: r, i, a, x, h => by
    unfold leastF at h
    rcases leastF_mem ok r (i + 1) _ x h with h | h
    · exact .inl (by simp [h])
    · generalize (ok i && better a y) = c at h
      cases c with
      | true => simp at h; exact .inl (by simp [h])
      | false => exact .inr (by simpa using h)
theorem least_mem {ok : Nat → Bool} {l : List Int} {x : Int} (h : least ok l = some x) : x ∈ l := by
  rcases leastF_mem ok l 0 none x h with h | h
  · exact h
  · cases h
/-- is a class among those of a line? -/
def bit (cl : Int) (i : Nat) : Bool := iand .i64 (cl.fdiv (2 ^ (min i 64))) 1 == 1
def ordOk (l : List RunD) : Bool := (List.range (l.length - 1)).all fun i => Tt.before (l.getD i default) (l.getD (i + 1) default)
def covOk (n : Int) : Bool := decide (0 ≤ n ∧ n ≤ 64)
def formed (t : TimeD) (p : PlanD) : Bool := decide (p.Covers.length = p.Runs.length) && p.Runs.all (Tt.isRun t) && ordOk p.Runs && p.Covers.all covOk
/-- the line of a run -/
def lineOf (t : TimeD) (p : PlanD) (run : Int) : LineD := t.Lines.getD (p.Runs.getD run.toNat default).Line.toNat default
def cost (t : TimeD) (f : TariffD) (p : PlanD) (run : Int) : Int × Int :=
  if Tt.chk t ≠ 0 then (0, Tt.chk t) else if Tf.chk f ≠ 0 then (0, Tf.chk f) else if formed t p = false then (0, 220) else if run < 0 ∨ p.Runs.length ≤ run then (0, 1)
  else match least (bit (lineOf t p run).Classes) f.Leg with
    | none => (0, 210)
    | some x => (x * p.Covers.getD run.toNat 0, 0)
def covM (n run : Int) (i : Nat) (o : Int) : MoveD := ⟨i, 1, 3 + o, n, 5, run⟩
def covs (n run : Int) (l : List Int) : List MoveD := (List.range l.length).map fun (i : Nat) => covM n run i (l.getD i 0)
theorem covs_len (n run : Int) (l : List Int) : (covs n run l).length = l.length := by simp [covs]
theorem covs_get {n run : Int} {l : List Int} {k : Nat} (h : k < (covs n run l).length) (h' : k < l.length) : (covs n run l)[k] = covM n run k l[k] := by simp [covs, h']
theorem covs_take {n run : Int} {l : List Int} {k : Nat} (h : k < l.length) : (covs n run l).take (k + 1) = (covs n run l).take k ++ [covM n run k l[k]] := by
  rw [List.take_succ_eq_append_getElem (by rw [covs_len]; exact h), covs_get _ h]
def cover (t : TimeD) (f : TariffD) (p : PlanD) (run handed : Int) : List MoveD × Int :=
  if (cost t f p run).2 ≠ 0 then ([], (cost t f p run).2) else if handed < 0 ∨ (lineOf t p run).Legs.length < handed then ([], 1)
  else (covs (cost t f p run).1 run ((lineOf t p run).Offices.take handed.toNat), 0)
def part (a s : Int) (i : Nat) : Int := a / s + if (i : Int) < a % s then 1 else 0
def shaM (a s : Int) (i : Nat) : MoveD := ⟨i, 1, 51 + i, part a s i, 6, -1⟩
def shares (a s : Int) (n : Nat) : List MoveD := (List.range n).map fun (i : Nat) => shaM a s i
theorem shares_len (a s : Int) (n : Nat) : (shares a s n).length = n := by simp [shares]
theorem shares_succ (a s : Int) (n : Nat) : shares a s (n + 1) = shares a s n ++ [shaM a s n] := by simp [shares, List.range_succ]
theorem shares_get {a s : Int} {n k : Nat} (h : k < (shares a s n).length) : (shares a s n)[k] = shaM a s k := by simp [shares]
def share (a s : Int) : List MoveD × Int := if a < 0 ∨ 1099511627776 < a ∨ s < 1 ∨ 64 < s then ([], 1) else (shares a s s.toNat, 0)
theorem part_eq {a s : Int} {i : Nat} (h0 : 0 ≤ a) (h1 : 1 ≤ s) (hi : (i : Int) < s) : (a + s - 1 - i) / s = part a s i := by
  unfold part
  have hd := Int.emod_add_mul_ediv a s
  have hm := Int.emod_nonneg a (show s ≠ 0 by omega)
  have hlt := Int.emod_lt_of_pos a (show 0 < s by omega)
  generalize hq : a / s = q at *
  generalize hr : a % s = r at *
  have e : a + s - 1 - i = (r + s - 1 - i) + s * q := by omega
  rw [e, Int.add_mul_ediv_left _ _ (by omega)]
  by_cases h : (i : Int) < r
  · rw [if_pos h]
    have : (r + s - 1 - i) / s = 1 := by
      rw [show r + s - 1 - i = (r - 1 - i) + s * 1 by omega, Int.add_mul_ediv_left _ _ (by omega), Int.ediv_eq_zero_of_lt (by omega) (by omega)]; rfl
    omega
  · rw [if_neg h]
    have : (r + s - 1 - i) / s = 0 := Int.ediv_eq_zero_of_lt (by omega) (by omega)
    omega
end Fd
end Go.Fk
