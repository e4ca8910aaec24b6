/- Chapter 39: the escrow, in plain Lean. No program in sight. -/
import Derived.Test.YtoadfmgnpmcbfaaGreatP22
import Derived.Test.YtoadfmgnpmcbfaaGreatApiM
set_option linter.unusedVariables false
set_option linter.unusedSimpArgs false
namespace Go.Fk
open Go
namespace Ec
/-- the error of what both functions are asked for -/
def err (t : TimeD) (f : TariffD) (l : List OrderD) (p : PlanD) : Int :=
  if (Pl.check t f l 1099511627776 p).2 ≠ 0 then (Pl.check t f l 1099511627776 p).2 else if (Pl.check t f l 1099511627776 p).1 then 0 else 220
def lineP (t : TimeD) (p : PlanD) (run : Int) : LineD := Pl.lineR t (p.Runs.getD run.toNat default)
def priceP (t : TimeD) (f : TariffD) (l : List OrderD) (p : PlanD) (i : Nat) : Int :=
  (Tf.pri f (l.getD i default).Class (lineP t p (p.Of.getD i 0)).Legs.length (l.getD i default).Crowd).1
def postM (t : TimeD) (f : TariffD) (l : List OrderD) (p : PlanD) (i : Nat) : MoveD := ⟨i, 51 + i, 2, priceP t f l p i, 1, p.Of.getD i 0⟩
def posts (t : TimeD) (f : TariffD) (l : List OrderD) (p : PlanD) (n : Nat) : List MoveD := (List.range n).map (postM t f l p)
theorem posts_len (t : TimeD) (f : TariffD) (l : List OrderD) (p : PlanD) (n : Nat) : (posts t f l p n).length = n := by simp [posts]
theorem posts_succ (t : TimeD) (f : TariffD) (l : List OrderD) (p : PlanD) (n : Nat) : posts t f l p (n + 1) = posts t f l p n ++ [postM t f l p n] := by simp [posts, List.range_succ]
def post (t : TimeD) (f : TariffD) (l : List OrderD) (p : PlanD) : List MoveD × Int := if err t f l p ≠ 0 then ([], err t f l p) else (posts t f l p l.length, 0)
/-- the moves for one order of a run -/
def legM (x : LineD) (a run : Int) (no k : Nat) : MoveD := ⟨(no + k : Nat), 2, 3 + x.Offices.getD k 0, a, 2, run⟩
def legMs (x : LineD) (a run : Int) (no n : Nat) : List MoveD := (List.range n).map (legM x a run no)
theorem legMs_succ (x : LineD) (a run : Int) (no n : Nat) : legMs x a run no (n + 1) = legMs x a run no n ++ [legM x a run no n] := by simp [legMs, List.range_succ]
theorem legMs_len (x : LineD) (a run : Int) (no n : Nat) : (legMs x a run no n).length = n := by simp [legMs]
def lastM (x : LineD) (run left : Int) (h : Nat) (i no : Nat) : MoveD := if h = x.Legs.length then ⟨no, 2, 1, left, 3, run⟩ else ⟨no, 2, 51 + i, left, 4, run⟩
def payO (t : TimeD) (f : TariffD) (l : List OrderD) (p : PlanD) (run : Int) (h : Nat) (i no : Nat) : List MoveD :=
  legMs (lineP t p run) (Tf.leg f (l.getD i default).Class) run no h ++ [lastM (lineP t p run) run (priceP t f l p i - h * Tf.leg f (l.getD i default).Class) h i (no + h)]
def pays (t : TimeD) (f : TariffD) (l : List OrderD) (p : PlanD) (run : Int) (h : Nat) : Nat → List MoveD
  | 0 => []
  | k + 1 => pays t f l p run h k ++ if p.Of.getD k 0 = run then payO t f l p run h k (pays t f l p run h k).length else []
def pay (t : TimeD) (f : TariffD) (l : List OrderD) (p : PlanD) (run handed : Int) : List MoveD × Int :=
  if err t f l p ≠ 0 then ([], err t f l p) else if run < 0 ∨ p.Runs.length ≤ run ∨ handed < 0 ∨ (lineP t p run).Legs.length < handed then ([], 1) else (pays t f l p run handed.toNat l.length, 0)
theorem payO_len (t : TimeD) (f : TariffD) (l : List OrderD) (p : PlanD) (run : Int) (h i no : Nat) : (payO t f l p run h i no).length = h + 1 := by simp [payO, legMs_len]
theorem pays_len (t : TimeD) (f : TariffD) (l : List OrderD) (p : PlanD) (run : Int) (h : Nat) : ∀ k, (pays t f l p run h k).length ≤ k * (h + 1)
  | 0 => by simp [pays]
  | k + 1 => by
    have := pays_len t f l p run h k
    simp only [pays, List.length_append]
    rw [Nat.add_mul]
    split
    · rw [payO_len]; omega
    · simp; omega
/-- what a right plan is -/
structure Ok (t : TimeD) (f : TariffD) (l : List OrderD) (p : PlanD) : Prop where
  o : Pl.Ok t f l
  ol : p.Of.length = l.length
  cl : p.Covers.length = p.Runs.length
  r : ∀ k, k < p.Runs.length → Pl.runP t p k = true
  f : ∀ k, k < l.length → Pl.ofP t f l p k = true
  c : ∀ k, k < p.Runs.length → Pl.covP t l p k = true
theorem err_ok {t : TimeD} {f : TariffD} {l : List OrderD} {p : PlanD} (h : err t f l p = 0) : Ok t f l p := by
  unfold err at h
  by_cases h1 : (Pl.check t f l 1099511627776 p).2 = 0
  · rw [if_neg (by simp [h1])] at h
    by_cases h2 : (Pl.check t f l 1099511627776 p).1 = true
    · unfold Pl.check at h1 h2
      by_cases h3 : Pl.err t f l = 0
      · rw [if_neg (by simp [h3])] at h2
        simp only [Pl.good, Bool.and_eq_true, decide_eq_true_eq] at h2
        obtain ⟨⟨⟨⟨⟨a1, a2⟩, a3⟩, a4⟩, a5⟩, a6⟩ := h2
        have R : ∀ {n : Nat} {q : Nat → Bool}, (List.range n).all q = true → ∀ k, k < n → q k = true := fun h k hk => List.all_eq_true.1 h k (by simpa using hk)
        exact ⟨Pl.err_ok h3, a1, a2, R a3, R a4, R a5⟩
      · rw [if_pos (by simpa using h3)] at h2; cases h2
    · rw [if_neg h2] at h; cases h
  · rw [if_pos (by simpa using h1)] at h; exact (h1 h).elim
end Ec
end Go.Fk
