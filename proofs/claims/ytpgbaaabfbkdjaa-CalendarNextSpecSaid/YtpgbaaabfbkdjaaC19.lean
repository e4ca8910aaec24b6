/- Chapter 19: what arguments read as. -/
import Derived.Test.YtpgbaaabfbkdjaaW19k
import Derived.Test.YtpgbaaabfbkdjaaLaw
import Derived.Test.YtpgbaaabfbkdjaaRows
namespace Go.Proofs.Ytpgbaaabfbkdjaa
open Go Go.Fk Go.RowKit Go.ChangeShapes Go.WideShapes
theorem own : ownKnob Try.prog.godebug = none := by kernel_rfl
theorem laidOut : laidOutB Try.prog = true := by kernel_rfl
theorem opn3 : Opn Int Try.prog 3 := Opn.int Try.underlying3 cells3 (of_decide_eq_true (by kernel_rfl))
theorem opn40 : Opn Rule Try.prog 40 := ⟨cells40, of_decide_eq_true (by kernel_rfl), fun enc W fuel cs y h hw => by
  obtain ⟨hl, n, hf⟩ := opn_fields Try.underlying40 h hw
  rw [cells40] at hl
  obtain ⟨z0, t0, w0⟩ := hf 0 _ rfl
  obtain ⟨x0, e0, b0⟩ := opn3.op enc W n _ _ t0 w0
  obtain ⟨z1, t1, w1⟩ := hf 1 _ rfl
  obtain ⟨x1, e1, b1⟩ := opn3.op enc W n _ _ t1 w1
  obtain ⟨z2, t2, w2⟩ := hf 2 _ rfl
  obtain ⟨x2, e2, b2⟩ := opn3.op enc W n _ _ t2 w2
  rcases cs with _ | ⟨c0, cs⟩
  · simp at hl
  rcases cs with _ | ⟨c1, cs⟩
  · simp at hl
  rcases cs with _ | ⟨c2, cs⟩
  · simp at hl
  rcases cs with _ | ⟨c, cs⟩
  rotate_left
  · simp at hl
  simp [cells3] at e0 e1 e2
  subst e0 e1 e2
  exact ⟨⟨x0, x1, x2⟩, rfl, b0, b1, b2⟩⟩
theorem opn37 : Opn Gap Try.prog 37 := ⟨cells37, of_decide_eq_true (by kernel_rfl), fun enc W fuel cs y h hw => by
  obtain ⟨hl, n, hf⟩ := opn_fields Try.underlying37 h hw
  rw [cells37] at hl
  obtain ⟨z0, t0, w0⟩ := hf 0 _ rfl
  obtain ⟨x0, e0, b0⟩ := opn3.op enc W n _ _ t0 w0
  obtain ⟨z1, t1, w1⟩ := hf 1 _ rfl
  obtain ⟨x1, e1, b1⟩ := opn3.op enc W n _ _ t1 w1
  rcases cs with _ | ⟨c0, cs⟩
  · simp at hl
  rcases cs with _ | ⟨c1, cs⟩
  · simp at hl
  rcases cs with _ | ⟨c, cs⟩
  rotate_left
  · simp at hl
  simp [cells3] at e0 e1
  subst e0 e1
  exact ⟨⟨x0, x1⟩, rfl, b0, b1⟩⟩
theorem opn22 : Opn (List Rule) Try.prog 22 := Opn.slice Try.underlying22 cells22 (of_decide_eq_true (by kernel_rfl)) opn40
theorem opn23 : Opn (List Gap) Try.prog 23 := Opn.slice Try.underlying23 cells23 (of_decide_eq_true (by kernel_rfl)) opn37
theorem okb {P : Program} {W : World} {base : Nat} {t : TypeId} {v : Value} (h : Value.okWide P W .any base t v) : Value.okWide P W .any 0 t v := Value.okWide_any_base h
end Go.Proofs.Ytpgbaaabfbkdjaa
