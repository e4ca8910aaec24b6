import Derived.Test.YtoadfmgnpmcbfaaGreatQnG3
import Derived.Test.YtoadfmgnpmcbfaaGreatQnW39m
import Derived.Test.YtoadfmgnpmcbfaaGreatQnGe
namespace Go.Proofs.YtoadfmgnpmcbfaaGreat
open Go Go.Fk
set_option linter.unusedSimpArgs false
set_option linter.unusedVariables false
set_option maxRecDepth 100000
theorem rpchkW {vl u0 u1 u2 vo v0 v1 v2 : Value} {t : TimeD} {f : TariffD} {l : List OrderD} {covers : Int} {p : PlanD} {w : World} {K : Value → World → Prop} {r : Bool × Int} (h : Pl.check t f l covers p = r) (hl : Sl w vl t.Lines) (hT : TarR w f u0 u1 u2) (ho : Sl w vo l) (hP : PlanR w p v0 v1 v2)
    (hK : ∀ w', Ext w w' → K (.tuple #[.bool r.1, .int .i64 r.2]) w') : CallW Tryz.prog (.func (.func 59) #[] #[]) [.agg #[.int .i64 t.Offices, vl], .agg #[u0, u1, u2], vo, .int .i64 covers, .agg #[v0, v1, v2]] w K := by
  subst h; exact CallW_pure call59 (rfCheckP vl u0 u1 u2 vo v0 v1 v2 t f l covers p w hl hT ho hP) hK
structure LineC (w : World) (vl : Value) (t : TimeD) (p : PlanD) (run : Int) (x : LineD) (l0 l1 l2 l3 : Value) : Prop where
  r : run.toNat < p.Runs.length
  r0 : 0 ≤ run
  n : p.Runs[run.toNat].Line.toNat < t.Lines.length
  n0 : 0 ≤ p.Runs[run.toNat].Line
  a : At w ((slAt vl).add (p.Runs[run.toNat].Line.toNat * 6)) (x.cs l0 l1 l2 l3)
  l : LineR w x l0 l1 l2 l3
theorem LineC.ext {w w' : World} {vl : Value} {t : TimeD} {p : PlanD} {run : Int} {x : LineD} {l0 l1 l2 l3 : Value} (h : LineC w vl t p run x l0 l1 l2 l3) (e : Ext w w') : LineC w' vl t p run x l0 l1 l2 l3 := ⟨h.r, h.r0, h.n, h.n0, h.a.ext e, h.l.ext e⟩
theorem lineC {w : World} {vl : Value} {t : TimeD} {f : TariffD} {l : List OrderD} {p : PlanD} (hl : Sl w vl t.Lines) (h : Ec.Ok t f l p) {q : Int} (h0 : 0 ≤ q) (h1 : q < p.Runs.length) : ∃ l0 l1 l2 l3, LineC w vl t p q (Ec.lineP t p q) l0 l1 l2 l3 := by
  obtain ⟨hr, hn, hL, hle, _⟩ := line_at h h0 h1
  obtain ⟨l0, l1, l2, l3, _, a2, hR⟩ := hl.line hn
  rw [← hle] at a2 hR
  exact ⟨l0, l1, l2, l3, hr, h0, hn, hL.1, a2, hR⟩
end Go.Proofs.YtoadfmgnpmcbfaaGreat
