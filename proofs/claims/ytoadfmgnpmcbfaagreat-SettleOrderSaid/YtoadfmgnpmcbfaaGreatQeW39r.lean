import Derived.Test.YtoadfmgnpmcbfaaGreatQeW22j
import Derived.Test.YtoadfmgnpmcbfaaGreatQeW39m
import Derived.Test.YtoadfmgnpmcbfaaGreatQeGe
/- Chapter 39: the reference's Error, Line. -/
/- Chapter 39: the reference's Error, Line, Price, Post. -/
namespace Go.Proofs.YtoadfmgnpmcbfaaGreat
open Go Go.Fk
set_option linter.unusedSimpArgs false
set_option linter.unusedVariables false
set_option maxRecDepth 100000
/-- the cells of the line of a run -/
structure LineC (w : World) (vl : Value) (t : TimeD) (p : PlanD) (run : Int) (x : LineD) (l0 l1 l2 l3 : Value) : Prop where
  r : run.toNat < p.Runs.length
  r0 : 0 ≤ run
  n : p.Runs[run.toNat].Line.toNat < t.Lines.length
  n0 : 0 ≤ p.Runs[run.toNat].Line
  a : At w ((slAt vl).add (p.Runs[run.toNat].Line.toNat * 6)) (x.cs l0 l1 l2 l3)
  l : LineR w x l0 l1 l2 l3
theorem LineC.ext {w w' : World} {vl : Value} {t : TimeD} {p : PlanD} {run : Int} {x : LineD} {l0 l1 l2 l3 : Value} (h : LineC w vl t p run x l0 l1 l2 l3) (e : Ext w w') : LineC w' vl t p run x l0 l1 l2 l3 := ⟨h.r, h.r0, h.n, h.n0, h.a.ext e, h.l.ext e⟩
end Go.Proofs.YtoadfmgnpmcbfaaGreat
