import Derived.Test.YthengmdnikaooaaGreatQhX22a
import Derived.Test.YthengmdnikaooaaGreatQhW22k
namespace Go.Proofs.YthengmdnikaooaaGreat
open Go Go.Fk
set_option linter.unusedSimpArgs false
set_option linter.unusedVariables false
set_option maxRecDepth 100000
abbrev Yes22 (e : Ending) : Prop := e = .returned (.bool true)
section
variable {vl u0 u1 u2 vo v0 v1 v2 g : Value} {t : TimeD} {f : TariffD} {l : List OrderD} {o : OrderD} {r : RunD} {p : PlanD} {covers : Int} {w : World} {K : Value → World → Prop}
theorem few22W (hl : Sl w vl t.Lines) (hT : TarR w f u0 u1 u2) (ho : Sl w vo l) (hK : ∀ (b : Bool) w', Ext w w' → K (.bool b) w') : CallW Tryz.prog (.func (.func 12) #[] #[]) [.agg #[.int .i64 t.Offices, vl], .agg #[u0, u1, u2], vo] w K :=
  CallW_gen call12 (rfFew22 vl u0 u1 u2 vo t f l w hl hT ho) fun e w' ⟨b, he, x⟩ => ⟨_, he, hK b w' x⟩
end
end Go.Proofs.YthengmdnikaooaaGreat
