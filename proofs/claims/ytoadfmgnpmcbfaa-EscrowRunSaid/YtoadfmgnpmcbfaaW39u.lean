/- Chapter 39: EscrowSpec, EscrowPaySpec. -/
import Derived.Test.YtoadfmgnpmcbfaaW39t
namespace Go.Proofs.Ytoadfmgnpmcbfaa
open Go Go.Fk
set_option linter.unusedSimpArgs false
set_option linter.unusedVariables false
set_option maxRecDepth 100000

abbrev Yes (e : Ending) : Prop := e = .returned (.bool true)
theorem few39W {vl u0 u1 u2 vo v0 v1 v2 : Value} {t : TimeD} {f : TariffD} {l : List OrderD} {p : PlanD} {w : World} {K : Value → World → Prop} (hl : Sl w vl t.Lines) (hT : TarR w f u0 u1 u2) (ho : Sl w vo l) (hP : PlanR w p v0 v1 v2)
    (hK : ∀ (b : Bool) w', Ext w w' → (b = true → FewP t f l p) → K (.bool b) w') :
    CallW Try.prog (.func (.func 5) #[] #[]) [.agg #[.int .i64 t.Offices, vl], .agg #[u0, u1, u2], vo, .agg #[v0, v1, v2]] w K :=
  CallW_gen call5 (rfFew39 vl u0 u1 u2 vo v0 v1 v2 t f l p w hl hT ho hP) fun e w' ⟨b, he, x, hb⟩ => ⟨_, he, hK b w' x hb⟩
end Go.Proofs.Ytoadfmgnpmcbfaa
