/- The statement BondsPromise of chapter 58, for all offices, amounts and claims. No condition. -/
import Derived.Test.YtpkopdhdnnkemaaC58
import Derived.Test.YtpkopdhdnnkemaaW58f
namespace Go.Proofs.Ytpkopdhdnnkemaa
open Go Go.Fk Go.RowKit Go.ChangeShapes Go.WideShapes
set_option linter.unusedVariables false
set_option linter.unusedSimpArgs false
theorem opn42 : Opn ClaimD Try.prog 42 := ⟨cells42, of_decide_eq_true (by kernel_rfl), fun enc W fuel cs y h hw => by
  obtain ⟨hl, n, hf⟩ := opn_fields Try.underlying42 h hw
  rw [cells42] at hl
  obtain ⟨z0, t0, w0⟩ := hf 0 _ rfl
  obtain ⟨x0, e0⟩ := opn22.op enc W n _ _ t0 w0
  obtain ⟨u0, e0, b0⟩ := e0
  obtain ⟨z1, t1, w1⟩ := hf 1 _ rfl
  obtain ⟨x1, e1⟩ := opn32.op enc W n _ _ t1 w1
  obtain ⟨e1, b1_0, b1_1⟩ := e1
  obtain ⟨z2, t2, w2⟩ := hf 2 _ rfl
  obtain ⟨x2, e2⟩ := opn3.op enc W n _ _ t2 w2
  obtain ⟨e2, b2⟩ := e2
  obtain ⟨z3, t3, w3⟩ := hf 3 _ rfl
  obtain ⟨x3, e3⟩ := opn3.op enc W n _ _ t3 w3
  obtain ⟨e3, b3⟩ := e3
  rcases cs with _ | ⟨c0, cs⟩
  · simp at hl
  rcases cs with _ | ⟨c1, cs⟩
  · simp at hl
  rcases cs with _ | ⟨c2, cs⟩
  · simp at hl
  rcases cs with _ | ⟨c3, cs⟩
  · simp at hl
  rcases cs with _ | ⟨c4, cs⟩
  · simp at hl
  rcases cs with _ | ⟨c, cs⟩
  rotate_left
  · simp at hl
  simp [cells22, cells32, VerdictD.cs, cells3] at e0
  simp [cells22, cells32, VerdictD.cs, cells3] at e1
  simp [cells22, cells32, VerdictD.cs, cells3] at e2
  simp [cells22, cells32, VerdictD.cs, cells3] at e3
  exact ⟨⟨x0, x1, x2, x3⟩, u0, by simp [ClaimD.cs, e0, e1, e2, e3], b0, b1_0, b1_1, b2, b3⟩⟩
theorem opn38 : Opn (List ClaimD) Try.prog 38 := Opn.slice Try.underlying38 cells38 (of_decide_eq_true (by kernel_rfl)) opn42
theorem u8k {n : Int} (h : IntKind.u8.min ≤ n ∧ n ≤ IntKind.u8.max) : 0 ≤ n ∧ n ≤ 255 := by
  have h1 : IntKind.u8.min = 0 := by decide
  have h2 : IntKind.u8.max = 255 := by decide
  rw [h1, h2] at h; exact h
set_option maxRecDepth 100000 in
theorem bondsPromise_lifted (os : Os) (started : os.Started) (H : Type) (enc : TypeId × Value → H) :
    ReturnsInHanded {} Try.checked os 6 .any (Rows.bondsPromiseSpec.pre6 enc Try.prog Try.f6 Rows.bondsPromiseRow.domain false) (Rows.bondsPromiseSpec.post enc Try.prog Try.f6 false true false false) := by
  refine law_lifted (C := Try.checked) (s := Rows.bondsPromiseSpec) own started (by kernel_rfl) Try.func6 laidOut (by kernel_rfl) rfl rfl Try.underlying4 (fun ds h => ?_)
    (ChangeSpec.witness6 (enc := enc) (C := Try.checked) false ⟨#[], #[.int .u8 0, .int .i64 0, .slice none 0 0], []⟩ 30 (by kernel_rfl) (by kernel_rfl) (by kernel_rfl) (by kernel_rfl)) fun W base args ds ps hval hA hw => ?_
  · have h : ds.length = 3 := h
    rcases ds with _ | ⟨d0, ds⟩
    · simp at h
    rcases ds with _ | ⟨d1, ds⟩
    · simp at h
    rcases ds with _ | ⟨d2, ds⟩
    · simp at h
    rcases ds with _ | ⟨d, ds⟩
    · exact ⟨rfl, rfl, rfl⟩
    · simp at h
  · have hval : ∀ (j : Nat) t v, Try.f6.params[j]? = some t → args[j]? = some v → Value.okWide Try.prog W .any base t v := hval
    replace hA : DataW.TrodAll enc Try.prog W 0 (fun _ => true) true Try.f6.params.toList args.toList ds ps := hA
    replace hw : (DataW.weightsEach Try.prog Try.f6.params.toList ds).all (· ≤ reachBytes) = true := hw
    rw [Try.params6] at hA hw hval
    obtain ⟨args⟩ := args
    simp only [List.size_toArray, List.getElem?_toArray] at hval hA
    obtain ⟨v0, args, d0, ds, q0, ps, rfl, rfl, rfl, g0, hA⟩ := trodAll_cons hA
    obtain ⟨u0, hw⟩ := trodAll_weights hw
    obtain ⟨v1, args, d1, ds, q1, ps, rfl, rfl, rfl, g1, hA⟩ := trodAll_cons hA
    obtain ⟨u1, hw⟩ := trodAll_weights hw
    obtain ⟨v2, args, d2, ds, q2, ps, rfl, rfl, rfl, g2, hA⟩ := trodAll_cons hA
    obtain ⟨u2, hw⟩ := trodAll_weights hw
    rcases args with _ | ⟨v, args⟩
    rotate_left
    · exact hA.elim
    obtain ⟨n0, rfl, r0⟩ := arg_int Try.underlying5 (okb (hval 0 5 v0 rfl rfl)) g0
    obtain ⟨n1, rfl, r1⟩ := arg_int Try.underlying3 (okb (hval 1 3 v1 rfl rfl)) g1
    obtain ⟨x2, s2⟩ := arg_slice Try.underlying38 opn38 (okb (hval 2 38 v2 rfl rfl)) g2 u2
    exact lawPromise n0 n1 v2 x2 W (u8k r0).1 (u8k r0).2 (i64k r1) s2
/-- the statement -/
theorem bondsPromise_holds : Rows.BondsPromiseSaid :=
  OpenClaim.holds_of_wide 6 Try.f6 rfl rfl rfl rfl rfl rfl rfl ⟨rfl, rfl, rfl, rfl, rfl⟩ rfl rfl rfl rfl rfl (by kernel_rfl) Try.func6 (by kernel_rfl)
    (of_decide_eq_true (by kernel_rfl)) (by unfold Func.isWrapper; first | (rw [if_pos (by decide +kernel)]; kernel_rfl) | (rw [if_neg (by decide +kernel)]; exact ⟨rfl, rfl⟩))
    (fun os started H enc _ => bondsPromise_lifted os started H enc)
end Go.Proofs.Ytpkopdhdnnkemaa
