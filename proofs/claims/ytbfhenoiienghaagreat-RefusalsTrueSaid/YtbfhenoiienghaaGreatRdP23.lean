import Derived.Test.YtbfhenoiienghaaGreatRdGs
set_option linter.unusedVariables false
set_option linter.unusedSimpArgs false
namespace Go.Fk
open Go
inductive RefusalD where
  | mk (o : Int) (kids : List RefusalD) (why : Int) (run : RunD)
namespace RefusalD
def o : RefusalD → Int | .mk a _ _ _ => a
def kids : RefusalD → List RefusalD | .mk _ a _ _ => a
def why : RefusalD → Int | .mk _ _ a _ => a
def run : RefusalD → RunD | .mk _ _ _ a => a
end RefusalD
namespace Rf
open Pl
def zeroR : RunD := ⟨0, 0, 0⟩
def full (t : TimeD) (l : List OrderD) (of : List RunD) (r : RunD) : Bool := decide (0 < (Pl.load l of r).n ∧ room t r < max (Pl.load l of r).n (Pl.load l of r).c)
def roomLeaf (r : RunD) : RefusalD := .mk (-1) [] 1 r
def covLeaf : RefusalD := .mk (-1) [] 2 zeroR
def lastR (of : List RunD) : RunD := of.getD (of.length - 1) default
def proofF (t : TimeD) (l : List OrderD) : List (List RunD) → List RunD → RefusalD
  | [], of => if 0 < of.length ∧ full t l of (lastR of) = true then roomLeaf (lastR of) else covLeaf
  | o :: rest, of => if 0 < of.length ∧ full t l of (lastR of) = true then roomLeaf (lastR of) else .mk of.length (o.map fun r => proofF t l rest (of ++ [r])) 0 zeroR
def short (l : List OrderD) (covers : Int) (of : List RunD) : Bool := decide (covers < tot l of)
def rightF (t : TimeD) (l : List OrderD) (covers : Int) : List (List RunD) → List RunD → RefusalD → Bool
  | [], of, p =>
    if p.o = -1 ∧ p.why = 1 then p.kids.isEmpty && of.contains p.run && full t l of p.run
    else decide (p.o = -1 ∧ p.why = 2 ∧ p.run = zeroR) && p.kids.isEmpty && short l covers of
  | x :: rest, of, p =>
    if p.o = -1 ∧ p.why = 1 then p.kids.isEmpty && of.contains p.run && full t l of p.run
    else decide (p.o = of.length ∧ p.o ≠ -1 ∧ p.why = 0 ∧ p.run = zeroR ∧ p.kids.length = x.length) && (x.zip p.kids).all fun a => rightF t l covers rest (of ++ [a.1]) a.2
def roomF : Nat → RefusalD → Bool
  | 0, _ => true
  | n + 1, p => p.kids.all (roomF n) && (decide (p.o ≠ -1) || decide (p.why ≠ 2))
section
variable {t : TimeD} {l : List OrderD} {covers : Int}
theorem room_leaf_no {of : List RunD} {r : RunD} (hr : r ∈ of) (hf : full t l of r = true) (h : ∀ r ∈ of, max (Pl.load l of r).n (Pl.load l of r).c ≤ room t r) : False := by
  simp only [full, decide_eq_true_eq] at hf
  have := h r hr
  omega
theorem right_no : ∀ {opts : List (List RunD)} {of : List RunD} {p : RefusalD}, rightF t l covers opts of p = true → of.length + opts.length ≤ l.length → (∀ r ∈ of, max (Pl.load l of r).n (Pl.load l of r).c ≤ room t r) → ∀ s, Path l (room t) opts of s → leafT l covers (of ++ s) = false
  | [], of, p, h, hl, hr, [], hp => by
    unfold rightF at h
    split at h
    · simp only [Bool.and_eq_true] at h
      exact (room_leaf_no (by simpa using h.1.2) h.2 hr).elim
    · simp only [Bool.and_eq_true, short, decide_eq_true_eq] at h
      simp only [leafT, List.append_nil, decide_eq_false_iff_not]; omega
  | [], _, _, _, _, _, _ :: _, hp => hp.elim
  | _ :: _, _, _, _, _, _, [], hp => hp.elim
  | x :: rest, of, p, h, hl, hr, r :: s, hp => by
    unfold rightF at h
    simp only [List.length_cons] at hl
    split at h
    · simp only [Bool.and_eq_true] at h
      exact (room_leaf_no (by simpa using h.1.2) h.2 hr).elim
    · simp only [Bool.and_eq_true, decide_eq_true_eq] at h
      obtain ⟨⟨h1, h2, h3, h4, h5⟩, h6⟩ := h
      obtain ⟨k, hk, rfl⟩ := List.getElem_of_mem hp.1
      have hk2 : k < p.kids.length := by omega
      have h7 := List.all_eq_true.1 h6 (x[k], p.kids[k]) (by
        have : k < (x.zip p.kids).length := by simp; omega
        have e := List.getElem_mem this
        rwa [List.getElem_zip] at e)
      have hst := hp.2.1
      simp only [Pl.step, decide_eq_true_eq] at hst
      have := right_no h7 (by simp; omega) (fun q hq => by
        by_cases e : x[k] = q
        · subst e; exact hst
        · rw [load_snoc (l := l) (of := of) (by omega) x[k] q, if_neg e]
          refine hr q ?_
          rcases List.mem_append.1 hq with h | h
          · exact h
          · exact (e (List.mem_singleton.1 h).symm).elim) s hp.2.2
      simpa using this
theorem right_fewer {c' : Int} : ∀ {opts : List (List RunD)} {of : List RunD} {p : RefusalD} {n : Nat}, rightF t l covers opts of p = true → opts.length < n → (c' ≤ covers ∨ roomF n p = true) → rightF t l c' opts of p = true
  | [], of, p, 0, _, hn, _ => by omega
  | _ :: _, of, p, 0, _, hn, _ => by omega
  | [], of, p, n + 1, h, hn, hc => by
    unfold rightF at h ⊢
    split
    · rename_i g; rw [if_pos g] at h; exact h
    · rename_i g
      rw [if_neg g] at h
      simp only [Bool.and_eq_true, short, decide_eq_true_eq] at h ⊢
      refine ⟨h.1, ?_⟩
      rcases hc with hc | hc
      · have := h.2; omega
      · simp only [roomF, Bool.and_eq_true, Bool.or_eq_true, decide_eq_true_eq] at hc
        have := hc.2; have := h.1.1; omega
  | x :: rest, of, p, n + 1, h, hn, hc => by
    unfold rightF at h ⊢
    split
    · rename_i g; rw [if_pos g] at h; exact h
    · rename_i g
      rw [if_neg g] at h
      simp only [Bool.and_eq_true] at h ⊢
      refine ⟨h.1, List.all_eq_true.2 fun a ha => ?_⟩
      refine right_fewer (n := n) (List.all_eq_true.1 h.2 a ha) (by simpa using hn) ?_
      rcases hc with hc | hc
      · exact .inl hc
      · right
        simp only [roomF, Bool.and_eq_true] at hc
        exact List.all_eq_true.1 hc.1 a.2 (List.of_mem_zip ha).2
end
def setsF : Nat → Nat → Nat → List (List Int)
  | _, _, 0 => [[]]
  | n, first, many + 1 => (List.range' first (n - first)).flatMap fun i => (setsF n (i + 1) many).map fun s => (i : Int) :: s
def someO (l : List OrderD) (s : List Int) : List OrderD := s.map fun i => l.getD i.toNat default
def allSets (n : Nat) : List (List Int) := (List.range (n + 1)).flatMap fun many => setsF n 0 many
def noSet (t : TimeD) (f : TariffD) (l : List OrderD) (covers : Int) (s : List Int) : Bool := !(make t f (someO l s) covers).2.1
def noRef : RefusalD := .mk 0 [] 0 zeroR
def least (t : TimeD) (f : TariffD) (l : List OrderD) (covers : Int) : List Int × RefusalD × Bool × Int :=
  if err t f l ≠ 0 then ([], noRef, false, err t f l) else if optsE t f l ≠ 0 then ([], noRef, false, optsE t f l) else if 16 < l.length then ([], noRef, false, 2) else
    if (make t f l covers).2.1 then ([], noRef, false, 0) else
      match (allSets l.length).find? (noSet t f l covers) with
      | none => ([], noRef, false, 0)
      | some s => (s, proofF t (someO l s) (optsOf t f (someO l s)) [], true, 0)
def check (t : TimeD) (f : TariffD) (l : List OrderD) (covers : Int) (p : RefusalD) : Bool × Int :=
  if err t f l ≠ 0 then (false, err t f l) else if optsE t f l ≠ 0 then (false, optsE t f l) else (rightF t l covers (optsOf t f l) [] p, 0)
end Rf
end Go.Fk
