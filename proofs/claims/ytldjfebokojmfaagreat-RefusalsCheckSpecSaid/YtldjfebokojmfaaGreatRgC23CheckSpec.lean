/- The statement RefusalsCheckSpec of chapter 23, for all inputs. No condition. -/
import Derived.Test.YtldjfebokojmfaaGreatRgHf
import Derived.Test.YtldjfebokojmfaaGreatRgHk
namespace Go.Proofs.YtldjfebokojmfaaGreat
open Go Go.Fk Go.RowKit Go.ChangeShapes Go.WideShapes
set_option linter.unusedVariables false
set_option linter.unusedSimpArgs false
set_option maxRecDepth 100000 in
theorem refusalsCheckSpec_lifted (os : Os) (started : os.Started) (H : Type) (enc : TypeId × Value → H) :
    ReturnsInHanded {} Tryz.checked os 4 .any (Rows.refusalsCheckSpecSpec.pre6 enc Tryz.prog Tryz.f4 Rows.refusalsCheckSpecRow.domain false) (Rows.refusalsCheckSpecSpec.post enc Tryz.prog Tryz.f4 false true false false) := by
  refine law_lifted (C := Tryz.checked) (s := Rows.refusalsCheckSpecSpec) own started (by kernel_rfl) Tryz.func4 laidOut (by kernel_rfl) rfl rfl Tryz.underlying4 (fun ds h => ?_)
    (ChangeSpec.witness6 (enc := enc) (C := Tryz.checked) false ⟨#[], #[.agg #[.int .i64 0, .slice none 0 0], .agg #[.slice none 0 0, .slice none 0 0, .slice none 0 0], .slice none 0 0, .int .i64 0, .agg #[.int .i64 0, .slice none 0 0, .int .i64 0, .int .i64 0, .int .i64 0, .int .i64 0]], []⟩ 30 (by kernel_rfl) (by kernel_rfl) (by kernel_rfl) (by kernel_rfl)) fun W base args ds ps hval hA hw => ?_
  · have h : ds.length = 5 := h
    rcases ds with _ | ⟨d0, ds⟩
    · simp at h
    rcases ds with _ | ⟨d1, ds⟩
    · simp at h
    rcases ds with _ | ⟨d2, ds⟩
    · simp at h
    rcases ds with _ | ⟨d3, ds⟩
    · simp at h
    rcases ds with _ | ⟨d4, ds⟩
    · simp at h
    rcases ds with _ | ⟨d, ds⟩
    · exact ⟨rfl, rfl, rfl⟩
    · simp at h
  · have hval : ∀ (j : Nat) t v, Tryz.f4.params[j]? = some t → args[j]? = some v → Value.okWide Tryz.prog W .any base t v := hval
    replace hA : DataW.TrodAll enc Tryz.prog W 0 (fun _ => true) true Tryz.f4.params.toList args.toList ds ps := hA
    replace hw : (DataW.weightsEach Tryz.prog Tryz.f4.params.toList ds).all (· ≤ reachBytes) = true := hw
    rw [Tryz.params4] at hA hw hval
    obtain ⟨args⟩ := args
    simp only [List.size_toArray, List.getElem?_toArray] at hval hA
    obtain ⟨v0, args, d0, ds, q0, ps, rfl, rfl, rfl, g0, hA⟩ := trodAll_cons hA
    obtain ⟨u0, hw⟩ := trodAll_weights hw
    obtain ⟨v1, args, d1, ds, q1, ps, rfl, rfl, rfl, g1, hA⟩ := trodAll_cons hA
    obtain ⟨u1, hw⟩ := trodAll_weights hw
    obtain ⟨v2, args, d2, ds, q2, ps, rfl, rfl, rfl, g2, hA⟩ := trodAll_cons hA
    obtain ⟨u2, hw⟩ := trodAll_weights hw
    obtain ⟨v3, args, d3, ds, q3, ps, rfl, rfl, rfl, g3, hA⟩ := trodAll_cons hA
    obtain ⟨u3, hw⟩ := trodAll_weights hw
    obtain ⟨v4, args, d4, ds, q4, ps, rfl, rfl, rfl, g4, hA⟩ := trodAll_cons hA
    obtain ⟨u4, hw⟩ := trodAll_weights hw
    rcases args with _ | ⟨v, args⟩
    rotate_left
    · exact hA.elim
    obtain ⟨c0, x0, rfl, s0⟩ := arg_struct Tryz.underlying24 opn24 (okb (hval 0 24 v0 rfl rfl)) g0 u0
    obtain ⟨c1, x1, rfl, s1⟩ := arg_struct Tryz.underlying28 opn28 (okb (hval 1 28 v1 rfl rfl)) g1 u1
    obtain ⟨x2, s2⟩ := arg_slice Tryz.underlying29 opn29 (okb (hval 2 29 v2 rfl rfl)) g2 u2
    obtain ⟨n3, rfl, r3⟩ := arg_int Tryz.underlying3 (okb (hval 3 3 v3 rfl rfl)) g3
    obtain ⟨c4, x4, rfl, s4⟩ := arg_struct Tryz.underlying36 opn36 (okb (hval 4 36 v4 rfl rfl)) g4 u4
    exact (by
      obtain ⟨_, rfl, _, q0⟩ := s0
      obtain ⟨_, _, _, rfl, p1, p2, p3⟩ := s1
      obtain ⟨u4, rfl, p4, p5, p6, p7⟩ := RefR.op s4
      exact (lawCheckSpec23 _ x0 x1 _ _ _ _ _ x2 n3 x4 W q0 ⟨p1, p2, p3⟩ s2 p4 p5 p6 p7))
theorem refusalsCheckSpec_holds : Rows.RefusalsCheckSpecSaid :=
  OpenClaim.holds_of_wide 4 Tryz.f4 rfl rfl rfl rfl rfl rfl rfl ⟨rfl, rfl, rfl, rfl, rfl⟩ rfl rfl rfl rfl rfl (by kernel_rfl) Tryz.func4 (by kernel_rfl)
    (of_decide_eq_true (by kernel_rfl)) (by unfold Func.isWrapper; first | (rw [if_pos (by decide +kernel)]; kernel_rfl) | (rw [if_neg (by decide +kernel)]; exact ⟨rfl, rfl⟩))
    (fun os started H enc _ => refusalsCheckSpec_lifted os started H enc)
end Go.Proofs.YtldjfebokojmfaaGreat
