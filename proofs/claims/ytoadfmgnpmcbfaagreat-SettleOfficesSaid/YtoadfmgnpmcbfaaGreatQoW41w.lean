import Derived.Test.YtoadfmgnpmcbfaaGreatQoG8
/- Chapter 41: the call of settle.All. -/
namespace Go.Proofs.YtoadfmgnpmcbfaaGreat
open Go Go.Fk
set_option linter.unusedSimpArgs false
set_option linter.unusedVariables false
set_option maxRecDepth 100000
section
variable {vl u0 u1 u2 vo v0 v1 v2 vh : Value} {t : TimeD} {f : TariffD} {l : List OrderD} {p : PlanD} {hd : List Int} {r : List MoveD × Int} {w : World} {K : Value → World → Prop}
theorem allW (h : Au.all t f l p hd = r) (hl : Sl w vl t.Lines) (hT : TarR w f u0 u1 u2) (ho : Sl w vo l) (hP : PlanR w p v0 v1 v2) (hh : Sl w vh hd) (hR : p.Runs.length ≤ 70) (hl64 : l.length ≤ 64) (hK : ∀ v w', Ext w w' → Sl w' v r.1 → K (.tuple #[v, .int .i64 r.2]) w') :
    CallW Tryz.prog (.func (.func 36) #[] #[]) [.agg #[.int .i64 t.Offices, vl], .agg #[u0, u1, u2], vo, .agg #[v0, v1, v2], vh] w K := by
  subst h; exact CallW_gen call36 (stAllS vl u0 u1 u2 vo v0 v1 v2 vh t f l p hd w hl hT ho hP hh hR hl64) fun e w' ⟨v, he, x, hs, _⟩ => ⟨_, he, hK v w' x hs⟩
theorem allWO (h : Au.all t f l p hd = r) (hl : Sl w vl t.Lines) (hT : TarR w f u0 u1 u2) (ho : Sl w vo l) (hP : PlanR w p v0 v1 v2) (hh : Sl w vh hd) (hR : p.Runs.length ≤ 70) (hl64 : l.length ≤ 64) (hK : ∀ v w', Ext w w' → BufO (α := MoveD) 70 w.heap.size w' v r.1 → K (.tuple #[v, .int .i64 r.2]) w') :
    CallW Tryz.prog (.func (.func 36) #[] #[]) [.agg #[.int .i64 t.Offices, vl], .agg #[u0, u1, u2], vo, .agg #[v0, v1, v2], vh] w K := by
  subst h; exact CallW_gen call36 (stAllS vl u0 u1 u2 vo v0 v1 v2 vh t f l p hd w hl hT ho hP hh hR hl64) fun e w' ⟨v, he, x, hs, hb⟩ => ⟨_, he, hK v w' x hb⟩
end
end Go.Proofs.YtoadfmgnpmcbfaaGreat
