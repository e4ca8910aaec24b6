/- Chapter 20: what arguments read as. -/
import Derived.Test.YtpiijpgfgcbfaaaW20w
import Derived.Test.YtpiijpgfgcbfaaaLaw
import Derived.Test.YtpiijpgfgcbfaaaRows
namespace Go.Proofs.Ytpiijpgfgcbfaaa
open Go Go.Fk Go.RowKit Go.ChangeShapes Go.WideShapes
set_option linter.unusedVariables false
set_option linter.unusedSimpArgs false
theorem own : ownKnob Try.prog.godebug = none := by kernel_rfl
theorem laidOut : laidOutB Try.prog = true := by kernel_rfl
theorem opn3 : Opn Int Try.prog 3 := Opn.int Try.underlying3 cells3 (of_decide_eq_true (by kernel_rfl))
theorem opn35 : Opn (List Int) Try.prog 35 := Opn.slice Try.underlying35 cells35 (of_decide_eq_true (by kernel_rfl)) opn3
theorem okb {P : Program} {W : World} {base : Nat} {t : TypeId} {v : Value} (h : Value.okWide P W .any base t v) : Value.okWide P W .any 0 t v := Value.okWide_any_base h
theorem i64k {n : Int} (h : IntKind.i64.min ≤ n ∧ n ≤ IntKind.i64.max) : I64 n := by
  have h1 : IntKind.i64.min = -9223372036854775808 := by decide
  have h2 : IntKind.i64.max = 9223372036854775807 := by decide
  rw [h1, h2] at h; exact h
theorem opn70 : Opn Rule Try.prog 70 := ⟨cells70, of_decide_eq_true (by kernel_rfl), fun enc W fuel cs y h hw => by
  obtain ⟨hl, n, hf⟩ := opn_fields Try.underlying70 h hw
  rw [cells70] at hl
  obtain ⟨z0, t0, w0⟩ := hf 0 _ rfl
  obtain ⟨x0, e0⟩ := opn3.op enc W n _ _ t0 w0
  obtain ⟨e0, b0⟩ := e0
  obtain ⟨z1, t1, w1⟩ := hf 1 _ rfl
  obtain ⟨x1, e1⟩ := opn3.op enc W n _ _ t1 w1
  obtain ⟨e1, b1⟩ := e1
  obtain ⟨z2, t2, w2⟩ := hf 2 _ rfl
  obtain ⟨x2, e2⟩ := opn3.op enc W n _ _ t2 w2
  obtain ⟨e2, b2⟩ := e2
  rcases cs with _ | ⟨c0, cs⟩
  · simp at hl
  rcases cs with _ | ⟨c1, cs⟩
  · simp at hl
  rcases cs with _ | ⟨c2, cs⟩
  · simp at hl
  rcases cs with _ | ⟨c, cs⟩
  rotate_left
  · simp at hl
  simp [cells3] at e0
  simp [cells3] at e1
  simp [cells3] at e2
  exact ⟨⟨x0, x1, x2⟩, by simp [Rule.cs, e0, e1, e2], b0, b1, b2⟩⟩
theorem opn42 : Opn (List Rule) Try.prog 42 := Opn.slice Try.underlying42 cells42 (of_decide_eq_true (by kernel_rfl)) opn70
theorem opn79 : Opn Gap Try.prog 79 := ⟨cells79, of_decide_eq_true (by kernel_rfl), fun enc W fuel cs y h hw => by
  obtain ⟨hl, n, hf⟩ := opn_fields Try.underlying79 h hw
  rw [cells79] at hl
  obtain ⟨z0, t0, w0⟩ := hf 0 _ rfl
  obtain ⟨x0, e0⟩ := opn3.op enc W n _ _ t0 w0
  obtain ⟨e0, b0⟩ := e0
  obtain ⟨z1, t1, w1⟩ := hf 1 _ rfl
  obtain ⟨x1, e1⟩ := opn3.op enc W n _ _ t1 w1
  obtain ⟨e1, b1⟩ := e1
  rcases cs with _ | ⟨c0, cs⟩
  · simp at hl
  rcases cs with _ | ⟨c1, cs⟩
  · simp at hl
  rcases cs with _ | ⟨c, cs⟩
  rotate_left
  · simp at hl
  simp [cells3] at e0
  simp [cells3] at e1
  exact ⟨⟨x0, x1⟩, by simp [Gap.cs, e0, e1], b0, b1⟩⟩
theorem opn43 : Opn (List Gap) Try.prog 43 := Opn.slice Try.underlying43 cells43 (of_decide_eq_true (by kernel_rfl)) opn79
theorem opn45 : Opn LineD Try.prog 45 := ⟨cells45, of_decide_eq_true (by kernel_rfl), fun enc W fuel cs y h hw => by
  obtain ⟨hl, n, hf⟩ := opn_fields Try.underlying45 h hw
  rw [cells45] at hl
  obtain ⟨z0, t0, w0⟩ := hf 0 _ rfl
  obtain ⟨x0, e0⟩ := opn35.op enc W n _ _ t0 w0
  obtain ⟨u0, e0, b0⟩ := e0
  obtain ⟨z1, t1, w1⟩ := hf 1 _ rfl
  obtain ⟨x1, e1⟩ := opn35.op enc W n _ _ t1 w1
  obtain ⟨u1, e1, b1⟩ := e1
  obtain ⟨z2, t2, w2⟩ := hf 2 _ rfl
  obtain ⟨x2, e2⟩ := opn3.op enc W n _ _ t2 w2
  obtain ⟨e2, b2⟩ := e2
  obtain ⟨z3, t3, w3⟩ := hf 3 _ rfl
  obtain ⟨x3, e3⟩ := opn3.op enc W n _ _ t3 w3
  obtain ⟨e3, b3⟩ := e3
  obtain ⟨z4, t4, w4⟩ := hf 4 _ rfl
  obtain ⟨x4, e4⟩ := opn42.op enc W n _ _ t4 w4
  obtain ⟨u4, e4, b4⟩ := e4
  obtain ⟨z5, t5, w5⟩ := hf 5 _ rfl
  obtain ⟨x5, e5⟩ := opn43.op enc W n _ _ t5 w5
  obtain ⟨u5, e5, b5⟩ := e5
  rcases cs with _ | ⟨c0, cs⟩
  · simp at hl
  rcases cs with _ | ⟨c1, cs⟩
  · simp at hl
  rcases cs with _ | ⟨c2, cs⟩
  · simp at hl
  rcases cs with _ | ⟨c3, cs⟩
  · simp at hl
  rcases cs with _ | ⟨c4, cs⟩
  · simp at hl
  rcases cs with _ | ⟨c5, cs⟩
  · simp at hl
  rcases cs with _ | ⟨c, cs⟩
  rotate_left
  · simp at hl
  simp [cells35, cells3, cells42, cells43] at e0
  simp [cells35, cells3, cells42, cells43] at e1
  simp [cells35, cells3, cells42, cells43] at e2
  simp [cells35, cells3, cells42, cells43] at e3
  simp [cells35, cells3, cells42, cells43] at e4
  simp [cells35, cells3, cells42, cells43] at e5
  exact ⟨⟨x0, x1, x2, x3, x4, x5⟩, u0, u1, u4, u5, by simp [LineD.cs, e0, e1, e2, e3, e4, e5], b0, b1, b2, b3, b4, b5⟩⟩
theorem opn22 : Opn (List LineD) Try.prog 22 := Opn.slice Try.underlying22 cells22 (of_decide_eq_true (by kernel_rfl)) opn45
theorem opn24 : Opn TimeD Try.prog 24 := ⟨cells24, of_decide_eq_true (by kernel_rfl), fun enc W fuel cs y h hw => by
  obtain ⟨hl, n, hf⟩ := opn_fields Try.underlying24 h hw
  rw [cells24] at hl
  obtain ⟨z0, t0, w0⟩ := hf 0 _ rfl
  obtain ⟨x0, e0⟩ := opn3.op enc W n _ _ t0 w0
  obtain ⟨e0, b0⟩ := e0
  obtain ⟨z1, t1, w1⟩ := hf 1 _ rfl
  obtain ⟨x1, e1⟩ := opn22.op enc W n _ _ t1 w1
  obtain ⟨u1, e1, b1⟩ := e1
  rcases cs with _ | ⟨c0, cs⟩
  · simp at hl
  rcases cs with _ | ⟨c1, cs⟩
  · simp at hl
  rcases cs with _ | ⟨c, cs⟩
  rotate_left
  · simp at hl
  simp [cells3, cells22] at e0
  simp [cells3, cells22] at e1
  exact ⟨⟨x0, x1⟩, u1, by simp [TimeD.cs, e0, e1], b0, b1⟩⟩
theorem opn34 : Opn RunD Try.prog 34 := ⟨cells34, of_decide_eq_true (by kernel_rfl), fun enc W fuel cs y h hw => by
  obtain ⟨hl, n, hf⟩ := opn_fields Try.underlying34 h hw
  rw [cells34] at hl
  obtain ⟨z0, t0, w0⟩ := hf 0 _ rfl
  obtain ⟨x0, e0⟩ := opn3.op enc W n _ _ t0 w0
  obtain ⟨e0, b0⟩ := e0
  obtain ⟨z1, t1, w1⟩ := hf 1 _ rfl
  obtain ⟨x1, e1⟩ := opn3.op enc W n _ _ t1 w1
  obtain ⟨e1, b1⟩ := e1
  obtain ⟨z2, t2, w2⟩ := hf 2 _ rfl
  obtain ⟨x2, e2⟩ := opn3.op enc W n _ _ t2 w2
  obtain ⟨e2, b2⟩ := e2
  rcases cs with _ | ⟨c0, cs⟩
  · simp at hl
  rcases cs with _ | ⟨c1, cs⟩
  · simp at hl
  rcases cs with _ | ⟨c2, cs⟩
  · simp at hl
  rcases cs with _ | ⟨c, cs⟩
  rotate_left
  · simp at hl
  simp [cells3] at e0
  simp [cells3] at e1
  simp [cells3] at e2
  exact ⟨⟨x0, x1, x2⟩, by simp [RunD.cs, e0, e1, e2], b0, b1, b2⟩⟩
end Go.Proofs.Ytpiijpgfgcbfaaa
