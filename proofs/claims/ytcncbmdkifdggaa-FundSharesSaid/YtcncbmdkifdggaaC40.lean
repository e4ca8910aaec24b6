/- Chapter 40: what arguments read as. -/
import Derived.Test.YtcncbmdkifdggaaW40k
import Derived.Test.YtcncbmdkifdggaaLaw
import Derived.Test.YtcncbmdkifdggaaRows
namespace Go.Proofs.Ytcncbmdkifdggaa
open Go Go.Fk Go.RowKit Go.ChangeShapes Go.WideShapes
theorem own : ownKnob Try.prog.godebug = none := by kernel_rfl
theorem laidOut : laidOutB Try.prog = true := by kernel_rfl
theorem opn3 : Opn Int Try.prog 3 := Opn.int Try.underlying3 cells3 (of_decide_eq_true (by kernel_rfl))
theorem opn25 : Opn (List Int) Try.prog 25 := Opn.slice Try.underlying25 cells25 (of_decide_eq_true (by kernel_rfl)) opn3
theorem okb {P : Program} {W : World} {base : Nat} {t : TypeId} {v : Value} (h : Value.okWide P W .any base t v) : Value.okWide P W .any 0 t v := Value.okWide_any_base h
theorem i64k {n : Int} (h : IntKind.i64.min ≤ n ∧ n ≤ IntKind.i64.max) : I64 n := by
  have h1 : IntKind.i64.min = -9223372036854775808 := by decide
  have h2 : IntKind.i64.max = 9223372036854775807 := by decide
  rw [h1, h2] at h; exact h
end Go.Proofs.Ytcncbmdkifdggaa
