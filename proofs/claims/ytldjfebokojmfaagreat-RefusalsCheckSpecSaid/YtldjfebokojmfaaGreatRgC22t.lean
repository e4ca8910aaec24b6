import Derived.Test.YtldjfebokojmfaaGreatRgFacts
import Derived.Test.YtldjfebokojmfaaGreatRgGa
import Derived.Test.YtldjfebokojmfaaGreatRgLaw
import Derived.Test.YtldjfebokojmfaaGreatRows
namespace Go.Proofs.YtldjfebokojmfaaGreat
open Go Go.Fk Go.RowKit Go.ChangeShapes Go.WideShapes
set_option linter.unusedVariables false
set_option linter.unusedSimpArgs false
instance : Enc Bool where
  n := 1
  rep _ cs x := cs = [.bool x]
  len _ _ _ h := by rw [h]; rfl
  ext _ _ _ _ _ h := h
theorem Opn.bool {P : Program} {t : TypeId} (hu : P.underlying t = some .bool) (hc : P.cellsOf t = 1) (hb : 0 < P.bytesOf t) : Opn Bool P t :=
  ⟨hc, hb, fun enc W fuel cs y h _ => by
    obtain ⟨b, rfl, rfl⟩ := DataW.trod_bool hu h
    exact ⟨b, rfl⟩⟩
theorem opn3 : Opn Int Tryz.prog 3 := Opn.int Tryz.underlying3 cells3 (of_decide_eq_true (by kernel_rfl))
theorem opn4 : Opn Bool Tryz.prog 4 := Opn.bool Tryz.underlying4 cells4 (of_decide_eq_true (by kernel_rfl))
theorem opn25 : Opn (List Int) Tryz.prog 25 := Opn.slice Tryz.underlying25 cells25 (of_decide_eq_true (by kernel_rfl)) opn3
theorem opn78 : Opn Rule Tryz.prog 78 := ⟨cells78, of_decide_eq_true (by kernel_rfl), fun enc W fuel cs y h hw => by
  obtain ⟨hl, n, hf⟩ := opn_fields Tryz.underlying78 h hw
  rw [cells78] at hl
  obtain ⟨z0, t0, w0⟩ := hf 0 _ rfl
  obtain ⟨x0, e0⟩ := opn3.op enc W n _ _ t0 w0
  obtain ⟨e0, b0⟩ := e0
  obtain ⟨z1, t1, w1⟩ := hf 1 _ rfl
  obtain ⟨x1, e1⟩ := opn3.op enc W n _ _ t1 w1
  obtain ⟨e1, b1⟩ := e1
  obtain ⟨z2, t2, w2⟩ := hf 2 _ rfl
  obtain ⟨x2, e2⟩ := opn3.op enc W n _ _ t2 w2
  obtain ⟨e2, b2⟩ := e2
  rcases cs with _ | ⟨c0, cs⟩
  · simp at hl
  rcases cs with _ | ⟨c1, cs⟩
  · simp at hl
  rcases cs with _ | ⟨c2, cs⟩
  · simp at hl
  rcases cs with _ | ⟨c, cs⟩
  rotate_left
  · simp at hl
  simp [cells3] at e0
  simp [cells3] at e1
  simp [cells3] at e2
  exact ⟨⟨x0, x1, x2⟩, by simp [Rule.cs, e0, e1, e2], b0, b1, b2⟩⟩
theorem opn79 : Opn (List Rule) Tryz.prog 79 := Opn.slice Tryz.underlying79 cells79 (of_decide_eq_true (by kernel_rfl)) opn78
theorem opn162 : Opn Gap Tryz.prog 162 := ⟨cells162, of_decide_eq_true (by kernel_rfl), fun enc W fuel cs y h hw => by
  obtain ⟨hl, n, hf⟩ := opn_fields Tryz.underlying162 h hw
  rw [cells162] at hl
  obtain ⟨z0, t0, w0⟩ := hf 0 _ rfl
  obtain ⟨x0, e0⟩ := opn3.op enc W n _ _ t0 w0
  obtain ⟨e0, b0⟩ := e0
  obtain ⟨z1, t1, w1⟩ := hf 1 _ rfl
  obtain ⟨x1, e1⟩ := opn3.op enc W n _ _ t1 w1
  obtain ⟨e1, b1⟩ := e1
  rcases cs with _ | ⟨c0, cs⟩
  · simp at hl
  rcases cs with _ | ⟨c1, cs⟩
  · simp at hl
  rcases cs with _ | ⟨c, cs⟩
  rotate_left
  · simp at hl
  simp [cells3] at e0
  simp [cells3] at e1
  exact ⟨⟨x0, x1⟩, by simp [Gap.cs, e0, e1], b0, b1⟩⟩
theorem opn80 : Opn (List Gap) Tryz.prog 80 := Opn.slice Tryz.underlying80 cells80 (of_decide_eq_true (by kernel_rfl)) opn162
theorem opn82 : Opn LineD Tryz.prog 82 := ⟨cells82, of_decide_eq_true (by kernel_rfl), fun enc W fuel cs y h hw => by
  obtain ⟨hl, n, hf⟩ := opn_fields Tryz.underlying82 h hw
  rw [cells82] at hl
  obtain ⟨z0, t0, w0⟩ := hf 0 _ rfl
  obtain ⟨x0, e0⟩ := opn25.op enc W n _ _ t0 w0
  obtain ⟨u0, e0, b0⟩ := e0
  obtain ⟨z1, t1, w1⟩ := hf 1 _ rfl
  obtain ⟨x1, e1⟩ := opn25.op enc W n _ _ t1 w1
  obtain ⟨u1, e1, b1⟩ := e1
  obtain ⟨z2, t2, w2⟩ := hf 2 _ rfl
  obtain ⟨x2, e2⟩ := opn3.op enc W n _ _ t2 w2
  obtain ⟨e2, b2⟩ := e2
  obtain ⟨z3, t3, w3⟩ := hf 3 _ rfl
  obtain ⟨x3, e3⟩ := opn3.op enc W n _ _ t3 w3
  obtain ⟨e3, b3⟩ := e3
  obtain ⟨z4, t4, w4⟩ := hf 4 _ rfl
  obtain ⟨x4, e4⟩ := opn79.op enc W n _ _ t4 w4
  obtain ⟨u4, e4, b4⟩ := e4
  obtain ⟨z5, t5, w5⟩ := hf 5 _ rfl
  obtain ⟨x5, e5⟩ := opn80.op enc W n _ _ t5 w5
  obtain ⟨u5, e5, b5⟩ := e5
  rcases cs with _ | ⟨c0, cs⟩
  · simp at hl
  rcases cs with _ | ⟨c1, cs⟩
  · simp at hl
  rcases cs with _ | ⟨c2, cs⟩
  · simp at hl
  rcases cs with _ | ⟨c3, cs⟩
  · simp at hl
  rcases cs with _ | ⟨c4, cs⟩
  · simp at hl
  rcases cs with _ | ⟨c5, cs⟩
  · simp at hl
  rcases cs with _ | ⟨c, cs⟩
  rotate_left
  · simp at hl
  simp [cells25, cells3, cells79, cells80] at e0
  simp [cells25, cells3, cells79, cells80] at e1
  simp [cells25, cells3, cells79, cells80] at e2
  simp [cells25, cells3, cells79, cells80] at e3
  simp [cells25, cells3, cells79, cells80] at e4
  simp [cells25, cells3, cells79, cells80] at e5
  exact ⟨⟨x0, x1, x2, x3, x4, x5⟩, u0, u1, u4, u5, by simp [LineD.cs, e0, e1, e2, e3, e4, e5], b0, b1, b2, b3, b4, b5⟩⟩
theorem opn22 : Opn (List LineD) Tryz.prog 22 := Opn.slice Tryz.underlying22 cells22 (of_decide_eq_true (by kernel_rfl)) opn82
theorem opn24 : Opn TimeD Tryz.prog 24 := ⟨cells24, of_decide_eq_true (by kernel_rfl), fun enc W fuel cs y h hw => by
  obtain ⟨hl, n, hf⟩ := opn_fields Tryz.underlying24 h hw
  rw [cells24] at hl
  obtain ⟨z0, t0, w0⟩ := hf 0 _ rfl
  obtain ⟨x0, e0⟩ := opn3.op enc W n _ _ t0 w0
  obtain ⟨e0, b0⟩ := e0
  obtain ⟨z1, t1, w1⟩ := hf 1 _ rfl
  obtain ⟨x1, e1⟩ := opn22.op enc W n _ _ t1 w1
  obtain ⟨u1, e1, b1⟩ := e1
  rcases cs with _ | ⟨c0, cs⟩
  · simp at hl
  rcases cs with _ | ⟨c1, cs⟩
  · simp at hl
  rcases cs with _ | ⟨c, cs⟩
  rotate_left
  · simp at hl
  simp [cells3, cells22] at e0
  simp [cells3, cells22] at e1
  exact ⟨⟨x0, x1⟩, u1, by simp [TimeD.cs, e0, e1], b0, b1⟩⟩
theorem opn126 : Opn TierD Tryz.prog 126 := ⟨cells126, of_decide_eq_true (by kernel_rfl), fun enc W fuel cs y h hw => by
  obtain ⟨hl, n, hf⟩ := opn_fields Tryz.underlying126 h hw
  rw [cells126] at hl
  obtain ⟨z0, t0, w0⟩ := hf 0 _ rfl
  obtain ⟨x0, e0⟩ := opn3.op enc W n _ _ t0 w0
  obtain ⟨e0, b0⟩ := e0
  obtain ⟨z1, t1, w1⟩ := hf 1 _ rfl
  obtain ⟨x1, e1⟩ := opn3.op enc W n _ _ t1 w1
  obtain ⟨e1, b1⟩ := e1
  rcases cs with _ | ⟨c0, cs⟩
  · simp at hl
  rcases cs with _ | ⟨c1, cs⟩
  · simp at hl
  rcases cs with _ | ⟨c, cs⟩
  rotate_left
  · simp at hl
  simp [cells3] at e0
  simp [cells3] at e1
  exact ⟨⟨x0, x1⟩, by simp [TierD.cs, e0, e1], b0, b1⟩⟩
theorem opn26 : Opn (List TierD) Tryz.prog 26 := Opn.slice Tryz.underlying26 cells26 (of_decide_eq_true (by kernel_rfl)) opn126
theorem opn28 : Opn TariffD Tryz.prog 28 := ⟨cells28, of_decide_eq_true (by kernel_rfl), fun enc W fuel cs y h hw => by
  obtain ⟨hl, n, hf⟩ := opn_fields Tryz.underlying28 h hw
  rw [cells28] at hl
  obtain ⟨z0, t0, w0⟩ := hf 0 _ rfl
  obtain ⟨x0, e0⟩ := opn25.op enc W n _ _ t0 w0
  obtain ⟨u0, e0, b0⟩ := e0
  obtain ⟨z1, t1, w1⟩ := hf 1 _ rfl
  obtain ⟨x1, e1⟩ := opn25.op enc W n _ _ t1 w1
  obtain ⟨u1, e1, b1⟩ := e1
  obtain ⟨z2, t2, w2⟩ := hf 2 _ rfl
  obtain ⟨x2, e2⟩ := opn26.op enc W n _ _ t2 w2
  obtain ⟨u2, e2, b2⟩ := e2
  rcases cs with _ | ⟨c0, cs⟩
  · simp at hl
  rcases cs with _ | ⟨c1, cs⟩
  · simp at hl
  rcases cs with _ | ⟨c2, cs⟩
  · simp at hl
  rcases cs with _ | ⟨c, cs⟩
  rotate_left
  · simp at hl
  simp [cells25, cells26] at e0
  simp [cells25, cells26] at e1
  simp [cells25, cells26] at e2
  exact ⟨⟨x0, x1, x2⟩, u0, u1, u2, by simp [TariffD.cs, e0, e1, e2], b0, b1, b2⟩⟩
theorem opn34 : Opn RunD Tryz.prog 34 := ⟨cells34, of_decide_eq_true (by kernel_rfl), fun enc W fuel cs y h hw => by
  obtain ⟨hl, n, hf⟩ := opn_fields Tryz.underlying34 h hw
  rw [cells34] at hl
  obtain ⟨z0, t0, w0⟩ := hf 0 _ rfl
  obtain ⟨x0, e0⟩ := opn3.op enc W n _ _ t0 w0
  obtain ⟨e0, b0⟩ := e0
  obtain ⟨z1, t1, w1⟩ := hf 1 _ rfl
  obtain ⟨x1, e1⟩ := opn3.op enc W n _ _ t1 w1
  obtain ⟨e1, b1⟩ := e1
  obtain ⟨z2, t2, w2⟩ := hf 2 _ rfl
  obtain ⟨x2, e2⟩ := opn3.op enc W n _ _ t2 w2
  obtain ⟨e2, b2⟩ := e2
  rcases cs with _ | ⟨c0, cs⟩
  · simp at hl
  rcases cs with _ | ⟨c1, cs⟩
  · simp at hl
  rcases cs with _ | ⟨c2, cs⟩
  · simp at hl
  rcases cs with _ | ⟨c, cs⟩
  rotate_left
  · simp at hl
  simp [cells3] at e0
  simp [cells3] at e1
  simp [cells3] at e2
  exact ⟨⟨x0, x1, x2⟩, by simp [RunD.cs, e0, e1, e2], b0, b1, b2⟩⟩
theorem opn50 : Opn OrderD Tryz.prog 50 := ⟨cells50, of_decide_eq_true (by kernel_rfl), fun enc W fuel cs y h hw => by
  obtain ⟨hl, n, hf⟩ := opn_fields Tryz.underlying50 h hw
  rw [cells50] at hl
  obtain ⟨z0, t0, w0⟩ := hf 0 _ rfl
  obtain ⟨x0, e0⟩ := opn3.op enc W n _ _ t0 w0
  obtain ⟨e0, b0⟩ := e0
  obtain ⟨z1, t1, w1⟩ := hf 1 _ rfl
  obtain ⟨x1, e1⟩ := opn3.op enc W n _ _ t1 w1
  obtain ⟨e1, b1⟩ := e1
  obtain ⟨z2, t2, w2⟩ := hf 2 _ rfl
  obtain ⟨x2, e2⟩ := opn3.op enc W n _ _ t2 w2
  obtain ⟨e2, b2⟩ := e2
  obtain ⟨z3, t3, w3⟩ := hf 3 _ rfl
  obtain ⟨x3, e3⟩ := opn3.op enc W n _ _ t3 w3
  obtain ⟨e3, b3⟩ := e3
  obtain ⟨z4, t4, w4⟩ := hf 4 _ rfl
  obtain ⟨x4, e4⟩ := opn3.op enc W n _ _ t4 w4
  obtain ⟨e4, b4⟩ := e4
  obtain ⟨z5, t5, w5⟩ := hf 5 _ rfl
  obtain ⟨x5, e5⟩ := opn3.op enc W n _ _ t5 w5
  obtain ⟨e5, b5⟩ := e5
  obtain ⟨z6, t6, w6⟩ := hf 6 _ rfl
  obtain ⟨x6, e6⟩ := opn3.op enc W n _ _ t6 w6
  obtain ⟨e6, b6⟩ := e6
  obtain ⟨z7, t7, w7⟩ := hf 7 _ rfl
  obtain ⟨x7, e7⟩ := opn3.op enc W n _ _ t7 w7
  obtain ⟨e7, b7⟩ := e7
  obtain ⟨z8, t8, w8⟩ := hf 8 _ rfl
  obtain ⟨x8, e8⟩ := opn25.op enc W n _ _ t8 w8
  obtain ⟨u8, e8, b8⟩ := e8
  obtain ⟨z9, t9, w9⟩ := hf 9 _ rfl
  obtain ⟨x9, e9⟩ := opn4.op enc W n _ _ t9 w9
  replace e9 : _ = [Value.bool x9] := e9
  obtain ⟨z10, t10, w10⟩ := hf 10 _ rfl
  obtain ⟨x10, e10⟩ := opn3.op enc W n _ _ t10 w10
  obtain ⟨e10, b10⟩ := e10
  rcases cs with _ | ⟨c0, cs⟩
  · simp at hl
  rcases cs with _ | ⟨c1, cs⟩
  · simp at hl
  rcases cs with _ | ⟨c2, cs⟩
  · simp at hl
  rcases cs with _ | ⟨c3, cs⟩
  · simp at hl
  rcases cs with _ | ⟨c4, cs⟩
  · simp at hl
  rcases cs with _ | ⟨c5, cs⟩
  · simp at hl
  rcases cs with _ | ⟨c6, cs⟩
  · simp at hl
  rcases cs with _ | ⟨c7, cs⟩
  · simp at hl
  rcases cs with _ | ⟨c8, cs⟩
  · simp at hl
  rcases cs with _ | ⟨c9, cs⟩
  · simp at hl
  rcases cs with _ | ⟨c10, cs⟩
  · simp at hl
  rcases cs with _ | ⟨c, cs⟩
  rotate_left
  · simp at hl
  simp [cells3, cells25, cells4] at e0
  simp [cells3, cells25, cells4] at e1
  simp [cells3, cells25, cells4] at e2
  simp [cells3, cells25, cells4] at e3
  simp [cells3, cells25, cells4] at e4
  simp [cells3, cells25, cells4] at e5
  simp [cells3, cells25, cells4] at e6
  simp [cells3, cells25, cells4] at e7
  simp [cells3, cells25, cells4] at e8
  simp [cells3, cells25, cells4] at e9
  simp [cells3, cells25, cells4] at e10
  exact ⟨⟨x0, x1, x2, x3, x4, x5, x6, x7, x8, x9, x10⟩, u8, by simp [OrderD.cs, e0, e1, e2, e3, e4, e5, e6, e7, e8, e9, e10], b0, b1, b2, b3, b4, b5, b6, b7, b8, b10⟩⟩
theorem opn29 : Opn (List OrderD) Tryz.prog 29 := Opn.slice Tryz.underlying29 cells29 (of_decide_eq_true (by kernel_rfl)) opn50
theorem own : ownKnob Tryz.prog.godebug = none := by kernel_rfl
theorem laidOut : laidOutB Tryz.prog = true := by kernel_rfl
theorem okb {P : Program} {W : World} {base : Nat} {t : TypeId} {v : Value} (h : Value.okWide P W .any base t v) : Value.okWide P W .any 0 t v := Value.okWide_any_base h
end Go.Proofs.YtldjfebokojmfaaGreat
