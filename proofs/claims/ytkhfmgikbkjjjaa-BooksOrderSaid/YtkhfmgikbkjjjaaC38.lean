/- Chapter 38: what arguments read as. -/
import Derived.Test.YtkhfmgikbkjjjaaW38i
import Derived.Test.YtkhfmgikbkjjjaaLaw
import Derived.Test.YtkhfmgikbkjjjaaRows
namespace Go.Proofs.Ytkhfmgikbkjjjaa
open Go Go.Fk Go.RowKit Go.ChangeShapes Go.WideShapes
theorem own : ownKnob Try.prog.godebug = none := by kernel_rfl
theorem laidOut : laidOutB Try.prog = true := by kernel_rfl
theorem opn3 : Opn Int Try.prog 3 := Opn.int Try.underlying3 cells3 (of_decide_eq_true (by kernel_rfl))
theorem opn35 : Opn MoveD Try.prog 35 := ⟨cells35, of_decide_eq_true (by kernel_rfl), fun enc W fuel cs y h hw => by
  obtain ⟨hl, n, hf⟩ := opn_fields Try.underlying35 h hw
  rw [cells35] at hl
  obtain ⟨z0, t0, w0⟩ := hf 0 _ rfl
  obtain ⟨x0, e0, b0⟩ := opn3.op enc W n _ _ t0 w0
  obtain ⟨z1, t1, w1⟩ := hf 1 _ rfl
  obtain ⟨x1, e1, b1⟩ := opn3.op enc W n _ _ t1 w1
  obtain ⟨z2, t2, w2⟩ := hf 2 _ rfl
  obtain ⟨x2, e2, b2⟩ := opn3.op enc W n _ _ t2 w2
  obtain ⟨z3, t3, w3⟩ := hf 3 _ rfl
  obtain ⟨x3, e3, b3⟩ := opn3.op enc W n _ _ t3 w3
  obtain ⟨z4, t4, w4⟩ := hf 4 _ rfl
  obtain ⟨x4, e4, b4⟩ := opn3.op enc W n _ _ t4 w4
  obtain ⟨z5, t5, w5⟩ := hf 5 _ rfl
  obtain ⟨x5, e5, b5⟩ := opn3.op enc W n _ _ t5 w5
  rcases cs with _ | ⟨c0, cs⟩
  · simp at hl
  rcases cs with _ | ⟨c1, cs⟩
  · simp at hl
  rcases cs with _ | ⟨c2, cs⟩
  · simp at hl
  rcases cs with _ | ⟨c3, cs⟩
  · simp at hl
  rcases cs with _ | ⟨c4, cs⟩
  · simp at hl
  rcases cs with _ | ⟨c5, cs⟩
  · simp at hl
  rcases cs with _ | ⟨c, cs⟩
  rotate_left
  · simp at hl
  simp [cells3] at e0 e1 e2 e3 e4 e5
  subst e0 e1 e2 e3 e4 e5
  exact ⟨⟨x0, x1, x2, x3, x4, x5⟩, rfl, b0, b1, b2, b3, b4, b5⟩⟩
theorem opn22 : Opn (List Int) Try.prog 22 := Opn.slice Try.underlying22 cells22 (of_decide_eq_true (by kernel_rfl)) opn3
theorem opn23 : Opn (List MoveD) Try.prog 23 := Opn.slice Try.underlying23 cells23 (of_decide_eq_true (by kernel_rfl)) opn35
theorem okb {P : Program} {W : World} {base : Nat} {t : TypeId} {v : Value} (h : Value.okWide P W .any base t v) : Value.okWide P W .any 0 t v := Value.okWide_any_base h
end Go.Proofs.Ytkhfmgikbkjjjaa
