import Derived.Test.YthengmdnikaooaaGreatQgX22a
import Derived.Test.YthengmdnikaooaaGreatQgW22k
namespace Go.Proofs.YthengmdnikaooaaGreat
open Go Go.Fk
set_option linter.unusedSimpArgs false
set_option linter.unusedVariables false
set_option maxRecDepth 100000
abbrev Yes22 (e : Ending) : Prop := e = .returned (.bool true)
section
variable {vl u0 u1 u2 vo v0 v1 v2 g : Value} {t : TimeD} {f : TariffD} {l : List OrderD} {o : OrderD} {r : RunD} {p : PlanD} {covers : Int} {w : World} {K : Value → World → Prop}
theorem few22W (hl : Sl w vl t.Lines) (hT : TarR w f u0 u1 u2) (ho : Sl w vo l) (hK : ∀ (b : Bool) w', Ext w w' → K (.bool b) w') : CallW Tryz.prog (.func (.func 12) #[] #[]) [.agg #[.int .i64 t.Offices, vl], .agg #[u0, u1, u2], vo] w K :=
  CallW_gen call12 (rfFew22 vl u0 u1 u2 vo t f l w hl hT ho) fun e w' ⟨b, he, x⟩ => ⟨_, he, hK b w' x⟩
theorem planVar (hP : PlanR w p v0 v1 v2) {K : Value → World → Prop} (hK : ∀ q w', Ext w w' → PV w' q p → K (.pointer (some q)) w') :
    SemW Tryz.prog (Instr.alloc 45 true (.tuple #[])) w (fun v w' => SemW Tryz.prog (Instr.storeAt 45 v (.agg (p.cs v0 v1 v2).toArray)) w' fun _ w'' => K v w'') :=
  SemW_allocT ti45 fun q w1 h1 => putPV h1.row (hP.ext h1.ext) fun w2 k h => hK q w2 (extKeep h1.ext k (by have := h1.blk; omega)) h
end
end Go.Proofs.YthengmdnikaooaaGreat
