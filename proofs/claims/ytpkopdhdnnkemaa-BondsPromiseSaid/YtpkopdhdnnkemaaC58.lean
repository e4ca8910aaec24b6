/- Chapter 58: what arguments read as. -/
import Derived.Test.YtpkopdhdnnkemaaW58e
import Derived.Test.YtpkopdhdnnkemaaLaw
import Derived.Test.YtpkopdhdnnkemaaRows
namespace Go.Proofs.Ytpkopdhdnnkemaa
open Go Go.Fk Go.RowKit Go.ChangeShapes Go.WideShapes
theorem own : ownKnob Try.prog.godebug = none := by kernel_rfl
theorem laidOut : laidOutB Try.prog = true := by kernel_rfl
theorem opn3 : Opn Int Try.prog 3 := Opn.int Try.underlying3 cells3 (of_decide_eq_true (by kernel_rfl))
theorem opn32 : Opn VerdictD Try.prog 32 := ⟨cells32, of_decide_eq_true (by kernel_rfl), fun enc W fuel cs y h hw => by
  obtain ⟨hl, n, hf⟩ := opn_fields Try.underlying32 h hw
  rw [cells32] at hl
  obtain ⟨z0, t0, w0⟩ := hf 0 _ rfl
  obtain ⟨x0, e0⟩ := opn3.op enc W n _ _ t0 w0
  obtain ⟨e0, b0⟩ := e0
  obtain ⟨z1, t1, w1⟩ := hf 1 _ rfl
  obtain ⟨x1, e1⟩ := opn3.op enc W n _ _ t1 w1
  obtain ⟨e1, b1⟩ := e1
  rcases cs with _ | ⟨c0, cs⟩
  · simp at hl
  rcases cs with _ | ⟨c1, cs⟩
  · simp at hl
  rcases cs with _ | ⟨c, cs⟩
  rotate_left
  · simp at hl
  simp [cells3] at e0
  simp [cells3] at e1
  exact ⟨⟨x0, x1⟩, by simp [VerdictD.cs, e0, e1], b0, b1⟩⟩
theorem opn22 : Opn (List Int) Try.prog 22 := Opn.slice Try.underlying22 cells22 (of_decide_eq_true (by kernel_rfl)) opn3
theorem okb {P : Program} {W : World} {base : Nat} {t : TypeId} {v : Value} (h : Value.okWide P W .any base t v) : Value.okWide P W .any 0 t v := Value.okWide_any_base h
theorem i64k {n : Int} (h : IntKind.i64.min ≤ n ∧ n ≤ IntKind.i64.max) : I64 n := by
  have h1 : IntKind.i64.min = -9223372036854775808 := by decide
  have h2 : IntKind.i64.max = 9223372036854775807 := by decide
  rw [h1, h2] at h; exact h
end Go.Proofs.Ytpkopdhdnnkemaa
