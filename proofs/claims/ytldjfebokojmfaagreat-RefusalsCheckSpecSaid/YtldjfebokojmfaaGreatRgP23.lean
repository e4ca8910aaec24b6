import Derived.Test.YtldjfebokojmfaaGreatRgGs
set_option linter.unusedVariables false
set_option linter.unusedSimpArgs false
namespace Go.Fk
open Go
inductive RefusalD where
  | mk (o : Int) (kids : List RefusalD) (why : Int) (run : RunD)
namespace RefusalD
def o : RefusalD → Int | .mk a _ _ _ => a
def kids : RefusalD → List RefusalD | .mk _ a _ _ => a
def why : RefusalD → Int | .mk _ _ a _ => a
def run : RefusalD → RunD | .mk _ _ _ a => a
end RefusalD
namespace Rf
open Pl
def zeroR : RunD := ⟨0, 0, 0⟩
def full (t : TimeD) (l : List OrderD) (of : List RunD) (r : RunD) : Bool := decide (0 < (Pl.load l of r).n ∧ room t r < max (Pl.load l of r).n (Pl.load l of r).c)
def roomLeaf (r : RunD) : RefusalD := .mk (-1) [] 1 r
def covLeaf : RefusalD := .mk (-1) [] 2 zeroR
def lastR (of : List RunD) : RunD := of.getD (of.length - 1) default
def proofF (t : TimeD) (l : List OrderD) : List (List RunD) → List RunD → RefusalD
  | [], of => if 0 < of.length ∧ full t l of (lastR of) = true then roomLeaf (lastR of) else covLeaf
  | o :: rest, of => if 0 < of.length ∧ full t l of (lastR of) = true then roomLeaf (lastR of) else .mk of.length (o.map fun r => proofF t l rest (of ++ [r])) 0 zeroR
def short (l : List OrderD) (covers : Int) (of : List RunD) : Bool := decide (covers < tot l of)
def rightF (t : TimeD) (l : List OrderD) (covers : Int) : List (List RunD) → List RunD → RefusalD → Bool
  | [], of, p =>
    if p.o = -1 ∧ p.why = 1 then p.kids.isEmpty && of.contains p.run && full t l of p.run
    else decide (p.o = -1 ∧ p.why = 2 ∧ p.run = zeroR) && p.kids.isEmpty && short l covers of
  | x :: rest, of, p =>
    if p.o = -1 ∧ p.why = 1 then p.kids.isEmpty && of.contains p.run && full t l of p.run
    else decide (p.o = of.length ∧ p.o ≠ -1 ∧ p.why = 0 ∧ p.run = zeroR ∧ p.kids.length = x.length) && (x.zip p.kids).all fun a => rightF t l covers rest (of ++ [a.1]) a.2
section
variable {t : TimeD} {l : List OrderD} {covers : Int}
end
def setsF : Nat → Nat → Nat → List (List Int)
  | _, _, 0 => [[]]
  | n, first, many + 1 => (List.range' first (n - first)).flatMap fun i => (setsF n (i + 1) many).map fun s => (i : Int) :: s
def someO (l : List OrderD) (s : List Int) : List OrderD := s.map fun i => l.getD i.toNat default
def allSets (n : Nat) : List (List Int) := (List.range (n + 1)).flatMap fun many => setsF n 0 many
def noSet (t : TimeD) (f : TariffD) (l : List OrderD) (covers : Int) (s : List Int) : Bool := !(make t f (someO l s) covers).2.1
def noRef : RefusalD := .mk 0 [] 0 zeroR
def least (t : TimeD) (f : TariffD) (l : List OrderD) (covers : Int) : List Int × RefusalD × Bool × Int :=
  if err t f l ≠ 0 then ([], noRef, false, err t f l) else if optsE t f l ≠ 0 then ([], noRef, false, optsE t f l) else if 16 < l.length then ([], noRef, false, 2) else
    if (make t f l covers).2.1 then ([], noRef, false, 0) else
      match (allSets l.length).find? (noSet t f l covers) with
      | none => ([], noRef, false, 0)
      | some s => (s, proofF t (someO l s) (optsOf t f (someO l s)) [], true, 0)
def check (t : TimeD) (f : TariffD) (l : List OrderD) (covers : Int) (p : RefusalD) : Bool × Int :=
  if err t f l ≠ 0 then (false, err t f l) else if optsE t f l ≠ 0 then (false, optsE t f l) else (rightF t l covers (optsOf t f l) [] p, 0)
end Rf
end Go.Fk
