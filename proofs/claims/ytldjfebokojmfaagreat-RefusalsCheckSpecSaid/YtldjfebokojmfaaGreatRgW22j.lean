import Derived.Test.YtldjfebokojmfaaGreatRgG3
import Derived.Test.YtldjfebokojmfaaGreatRgW22f
import Derived.Test.YtldjfebokojmfaaGreatRgGe
import Derived.Test.YtldjfebokojmfaaGreatRgGb
namespace Go.Proofs.YtldjfebokojmfaaGreat
open Go Go.Fk
set_option linter.unusedSimpArgs false
set_option linter.unusedVariables false
set_option maxRecDepth 100000
theorem rferrW {vl u0 u1 u2 vo : Value} {t : TimeD} {f : TariffD} {l : List OrderD} {w : World} {K : Value → World → Prop} (hl : Sl w vl t.Lines) (hT : TarR w f u0 u1 u2) (ho : Sl w vo l) (hK : ∀ w', Ext w w' → K (.int .i64 (Pl.err t f l)) w') :
    CallW Tryz.prog (.func (.func 31) #[] #[]) [.agg #[.int .i64 t.Offices, vl], .agg #[u0, u1, u2], vo] w K := CallW_pure call31 (rfError22 vl u0 u1 u2 vo t f l w hl hT ho) hK
end Go.Proofs.YtldjfebokojmfaaGreat
