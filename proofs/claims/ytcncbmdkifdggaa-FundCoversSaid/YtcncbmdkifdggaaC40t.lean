/- Chapter 40: what timetables, tariffs and plans read as. -/
import Derived.Test.YtcncbmdkifdggaaC40
namespace Go.Proofs.Ytcncbmdkifdggaa
open Go Go.Fk Go.RowKit Go.ChangeShapes Go.WideShapes
set_option linter.unusedVariables false
set_option linter.unusedSimpArgs false
theorem opn84 : Opn Rule Try.prog 84 := ⟨cells84, of_decide_eq_true (by kernel_rfl), fun enc W fuel cs y h hw => by
  obtain ⟨hl, n, hf⟩ := opn_fields Try.underlying84 h hw
  rw [cells84] at hl
  obtain ⟨z0, t0, w0⟩ := hf 0 _ rfl
  obtain ⟨x0, e0⟩ := opn3.op enc W n _ _ t0 w0
  obtain ⟨e0, b0⟩ := e0
  obtain ⟨z1, t1, w1⟩ := hf 1 _ rfl
  obtain ⟨x1, e1⟩ := opn3.op enc W n _ _ t1 w1
  obtain ⟨e1, b1⟩ := e1
  obtain ⟨z2, t2, w2⟩ := hf 2 _ rfl
  obtain ⟨x2, e2⟩ := opn3.op enc W n _ _ t2 w2
  obtain ⟨e2, b2⟩ := e2
  rcases cs with _ | ⟨c0, cs⟩
  · simp at hl
  rcases cs with _ | ⟨c1, cs⟩
  · simp at hl
  rcases cs with _ | ⟨c2, cs⟩
  · simp at hl
  rcases cs with _ | ⟨c, cs⟩
  rotate_left
  · simp at hl
  simp [cells3] at e0
  simp [cells3] at e1
  simp [cells3] at e2
  exact ⟨⟨x0, x1, x2⟩, by simp [Rule.cs, e0, e1, e2], b0, b1, b2⟩⟩
theorem opn52 : Opn (List Rule) Try.prog 52 := Opn.slice Try.underlying52 cells52 (of_decide_eq_true (by kernel_rfl)) opn84
theorem opn108 : Opn Gap Try.prog 108 := ⟨cells108, of_decide_eq_true (by kernel_rfl), fun enc W fuel cs y h hw => by
  obtain ⟨hl, n, hf⟩ := opn_fields Try.underlying108 h hw
  rw [cells108] at hl
  obtain ⟨z0, t0, w0⟩ := hf 0 _ rfl
  obtain ⟨x0, e0⟩ := opn3.op enc W n _ _ t0 w0
  obtain ⟨e0, b0⟩ := e0
  obtain ⟨z1, t1, w1⟩ := hf 1 _ rfl
  obtain ⟨x1, e1⟩ := opn3.op enc W n _ _ t1 w1
  obtain ⟨e1, b1⟩ := e1
  rcases cs with _ | ⟨c0, cs⟩
  · simp at hl
  rcases cs with _ | ⟨c1, cs⟩
  · simp at hl
  rcases cs with _ | ⟨c, cs⟩
  rotate_left
  · simp at hl
  simp [cells3] at e0
  simp [cells3] at e1
  exact ⟨⟨x0, x1⟩, by simp [Gap.cs, e0, e1], b0, b1⟩⟩
theorem opn53 : Opn (List Gap) Try.prog 53 := Opn.slice Try.underlying53 cells53 (of_decide_eq_true (by kernel_rfl)) opn108
theorem opn55 : Opn LineD Try.prog 55 := ⟨cells55, of_decide_eq_true (by kernel_rfl), fun enc W fuel cs y h hw => by
  obtain ⟨hl, n, hf⟩ := opn_fields Try.underlying55 h hw
  rw [cells55] at hl
  obtain ⟨z0, t0, w0⟩ := hf 0 _ rfl
  obtain ⟨x0, e0⟩ := opn25.op enc W n _ _ t0 w0
  obtain ⟨u0, e0, b0⟩ := e0
  obtain ⟨z1, t1, w1⟩ := hf 1 _ rfl
  obtain ⟨x1, e1⟩ := opn25.op enc W n _ _ t1 w1
  obtain ⟨u1, e1, b1⟩ := e1
  obtain ⟨z2, t2, w2⟩ := hf 2 _ rfl
  obtain ⟨x2, e2⟩ := opn3.op enc W n _ _ t2 w2
  obtain ⟨e2, b2⟩ := e2
  obtain ⟨z3, t3, w3⟩ := hf 3 _ rfl
  obtain ⟨x3, e3⟩ := opn3.op enc W n _ _ t3 w3
  obtain ⟨e3, b3⟩ := e3
  obtain ⟨z4, t4, w4⟩ := hf 4 _ rfl
  obtain ⟨x4, e4⟩ := opn52.op enc W n _ _ t4 w4
  obtain ⟨u4, e4, b4⟩ := e4
  obtain ⟨z5, t5, w5⟩ := hf 5 _ rfl
  obtain ⟨x5, e5⟩ := opn53.op enc W n _ _ t5 w5
  obtain ⟨u5, e5, b5⟩ := e5
  rcases cs with _ | ⟨c0, cs⟩
  · simp at hl
  rcases cs with _ | ⟨c1, cs⟩
  · simp at hl
  rcases cs with _ | ⟨c2, cs⟩
  · simp at hl
  rcases cs with _ | ⟨c3, cs⟩
  · simp at hl
  rcases cs with _ | ⟨c4, cs⟩
  · simp at hl
  rcases cs with _ | ⟨c5, cs⟩
  · simp at hl
  rcases cs with _ | ⟨c, cs⟩
  rotate_left
  · simp at hl
  simp [cells25, cells3, cells52, cells53] at e0
  simp [cells25, cells3, cells52, cells53] at e1
  simp [cells25, cells3, cells52, cells53] at e2
  simp [cells25, cells3, cells52, cells53] at e3
  simp [cells25, cells3, cells52, cells53] at e4
  simp [cells25, cells3, cells52, cells53] at e5
  exact ⟨⟨x0, x1, x2, x3, x4, x5⟩, u0, u1, u4, u5, by simp [LineD.cs, e0, e1, e2, e3, e4, e5], b0, b1, b2, b3, b4, b5⟩⟩
theorem opn22 : Opn (List LineD) Try.prog 22 := Opn.slice Try.underlying22 cells22 (of_decide_eq_true (by kernel_rfl)) opn55
theorem opn24 : Opn TimeD Try.prog 24 := ⟨cells24, of_decide_eq_true (by kernel_rfl), fun enc W fuel cs y h hw => by
  obtain ⟨hl, n, hf⟩ := opn_fields Try.underlying24 h hw
  rw [cells24] at hl
  obtain ⟨z0, t0, w0⟩ := hf 0 _ rfl
  obtain ⟨x0, e0⟩ := opn3.op enc W n _ _ t0 w0
  obtain ⟨e0, b0⟩ := e0
  obtain ⟨z1, t1, w1⟩ := hf 1 _ rfl
  obtain ⟨x1, e1⟩ := opn22.op enc W n _ _ t1 w1
  obtain ⟨u1, e1, b1⟩ := e1
  rcases cs with _ | ⟨c0, cs⟩
  · simp at hl
  rcases cs with _ | ⟨c1, cs⟩
  · simp at hl
  rcases cs with _ | ⟨c, cs⟩
  rotate_left
  · simp at hl
  simp [cells3, cells22] at e0
  simp [cells3, cells22] at e1
  exact ⟨⟨x0, x1⟩, u1, by simp [TimeD.cs, e0, e1], b0, b1⟩⟩
theorem opn91 : Opn TierD Try.prog 91 := ⟨cells91, of_decide_eq_true (by kernel_rfl), fun enc W fuel cs y h hw => by
  obtain ⟨hl, n, hf⟩ := opn_fields Try.underlying91 h hw
  rw [cells91] at hl
  obtain ⟨z0, t0, w0⟩ := hf 0 _ rfl
  obtain ⟨x0, e0⟩ := opn3.op enc W n _ _ t0 w0
  obtain ⟨e0, b0⟩ := e0
  obtain ⟨z1, t1, w1⟩ := hf 1 _ rfl
  obtain ⟨x1, e1⟩ := opn3.op enc W n _ _ t1 w1
  obtain ⟨e1, b1⟩ := e1
  rcases cs with _ | ⟨c0, cs⟩
  · simp at hl
  rcases cs with _ | ⟨c1, cs⟩
  · simp at hl
  rcases cs with _ | ⟨c, cs⟩
  rotate_left
  · simp at hl
  simp [cells3] at e0
  simp [cells3] at e1
  exact ⟨⟨x0, x1⟩, by simp [TierD.cs, e0, e1], b0, b1⟩⟩
theorem opn26 : Opn (List TierD) Try.prog 26 := Opn.slice Try.underlying26 cells26 (of_decide_eq_true (by kernel_rfl)) opn91
theorem opn28 : Opn TariffD Try.prog 28 := ⟨cells28, of_decide_eq_true (by kernel_rfl), fun enc W fuel cs y h hw => by
  obtain ⟨hl, n, hf⟩ := opn_fields Try.underlying28 h hw
  rw [cells28] at hl
  obtain ⟨z0, t0, w0⟩ := hf 0 _ rfl
  obtain ⟨x0, e0⟩ := opn25.op enc W n _ _ t0 w0
  obtain ⟨u0, e0, b0⟩ := e0
  obtain ⟨z1, t1, w1⟩ := hf 1 _ rfl
  obtain ⟨x1, e1⟩ := opn25.op enc W n _ _ t1 w1
  obtain ⟨u1, e1, b1⟩ := e1
  obtain ⟨z2, t2, w2⟩ := hf 2 _ rfl
  obtain ⟨x2, e2⟩ := opn26.op enc W n _ _ t2 w2
  obtain ⟨u2, e2, b2⟩ := e2
  rcases cs with _ | ⟨c0, cs⟩
  · simp at hl
  rcases cs with _ | ⟨c1, cs⟩
  · simp at hl
  rcases cs with _ | ⟨c2, cs⟩
  · simp at hl
  rcases cs with _ | ⟨c, cs⟩
  rotate_left
  · simp at hl
  simp [cells25, cells26] at e0
  simp [cells25, cells26] at e1
  simp [cells25, cells26] at e2
  exact ⟨⟨x0, x1, x2⟩, u0, u1, u2, by simp [TariffD.cs, e0, e1, e2], b0, b1, b2⟩⟩
theorem opn51 : Opn RunD Try.prog 51 := ⟨cells51, of_decide_eq_true (by kernel_rfl), fun enc W fuel cs y h hw => by
  obtain ⟨hl, n, hf⟩ := opn_fields Try.underlying51 h hw
  rw [cells51] at hl
  obtain ⟨z0, t0, w0⟩ := hf 0 _ rfl
  obtain ⟨x0, e0⟩ := opn3.op enc W n _ _ t0 w0
  obtain ⟨e0, b0⟩ := e0
  obtain ⟨z1, t1, w1⟩ := hf 1 _ rfl
  obtain ⟨x1, e1⟩ := opn3.op enc W n _ _ t1 w1
  obtain ⟨e1, b1⟩ := e1
  obtain ⟨z2, t2, w2⟩ := hf 2 _ rfl
  obtain ⟨x2, e2⟩ := opn3.op enc W n _ _ t2 w2
  obtain ⟨e2, b2⟩ := e2
  rcases cs with _ | ⟨c0, cs⟩
  · simp at hl
  rcases cs with _ | ⟨c1, cs⟩
  · simp at hl
  rcases cs with _ | ⟨c2, cs⟩
  · simp at hl
  rcases cs with _ | ⟨c, cs⟩
  rotate_left
  · simp at hl
  simp [cells3] at e0
  simp [cells3] at e1
  simp [cells3] at e2
  exact ⟨⟨x0, x1, x2⟩, by simp [RunD.cs, e0, e1, e2], b0, b1, b2⟩⟩
theorem opn29 : Opn (List RunD) Try.prog 29 := Opn.slice Try.underlying29 cells29 (of_decide_eq_true (by kernel_rfl)) opn51
theorem opn31 : Opn PlanD Try.prog 31 := ⟨cells31, of_decide_eq_true (by kernel_rfl), fun enc W fuel cs y h hw => by
  obtain ⟨hl, n, hf⟩ := opn_fields Try.underlying31 h hw
  rw [cells31] at hl
  obtain ⟨z0, t0, w0⟩ := hf 0 _ rfl
  obtain ⟨x0, e0⟩ := opn29.op enc W n _ _ t0 w0
  obtain ⟨u0, e0, b0⟩ := e0
  obtain ⟨z1, t1, w1⟩ := hf 1 _ rfl
  obtain ⟨x1, e1⟩ := opn25.op enc W n _ _ t1 w1
  obtain ⟨u1, e1, b1⟩ := e1
  obtain ⟨z2, t2, w2⟩ := hf 2 _ rfl
  obtain ⟨x2, e2⟩ := opn25.op enc W n _ _ t2 w2
  obtain ⟨u2, e2, b2⟩ := e2
  rcases cs with _ | ⟨c0, cs⟩
  · simp at hl
  rcases cs with _ | ⟨c1, cs⟩
  · simp at hl
  rcases cs with _ | ⟨c2, cs⟩
  · simp at hl
  rcases cs with _ | ⟨c, cs⟩
  rotate_left
  · simp at hl
  simp [cells29, cells25] at e0
  simp [cells29, cells25] at e1
  simp [cells29, cells25] at e2
  exact ⟨⟨x0, x1, x2⟩, u0, u1, u2, by simp [PlanD.cs, e0, e1, e2], b0, b1, b2⟩⟩
end Go.Proofs.Ytcncbmdkifdggaa
