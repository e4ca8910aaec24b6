/- The statement RefusalsSpec of chapter 23, for all inputs. No condition. -/
import Derived.Test.YtldjfebokojmfaaGreatRfHf
import Derived.Test.YtldjfebokojmfaaGreatRfHk
namespace Go.Proofs.YtldjfebokojmfaaGreat
open Go Go.Fk Go.RowKit Go.ChangeShapes Go.WideShapes
set_option linter.unusedVariables false
set_option linter.unusedSimpArgs false
set_option maxRecDepth 100000 in
theorem refusalsSpec_lifted (os : Os) (started : os.Started) (H : Type) (enc : TypeId × Value → H) :
    ReturnsInHanded {} Tryz.checked os 3 .any (Rows.refusalsSpecSpec.pre6 enc Tryz.prog Tryz.f3 Rows.refusalsSpecRow.domain false) (Rows.refusalsSpecSpec.post enc Tryz.prog Tryz.f3 false true false false) := by
  refine law_lifted (C := Tryz.checked) (s := Rows.refusalsSpecSpec) own started (by kernel_rfl) Tryz.func3 laidOut (by kernel_rfl) rfl rfl Tryz.underlying4 (fun ds h => ?_)
    (ChangeSpec.witness6 (enc := enc) (C := Tryz.checked) false ⟨#[], #[.agg #[.int .i64 0, .slice none 0 0], .agg #[.slice none 0 0, .slice none 0 0, .slice none 0 0], .slice none 0 0, .int .i64 0], []⟩ 30 (by kernel_rfl) (by kernel_rfl) (by kernel_rfl) (by kernel_rfl)) fun W base args ds ps hval hA hw => ?_
  · have h : ds.length = 4 := h
    rcases ds with _ | ⟨d0, ds⟩
    · simp at h
    rcases ds with _ | ⟨d1, ds⟩
    · simp at h
    rcases ds with _ | ⟨d2, ds⟩
    · simp at h
    rcases ds with _ | ⟨d3, ds⟩
    · simp at h
    rcases ds with _ | ⟨d, ds⟩
    · exact ⟨rfl, rfl, rfl⟩
    · simp at h
  · have hval : ∀ (j : Nat) t v, Tryz.f3.params[j]? = some t → args[j]? = some v → Value.okWide Tryz.prog W .any base t v := hval
    replace hA : DataW.TrodAll enc Tryz.prog W 0 (fun _ => true) true Tryz.f3.params.toList args.toList ds ps := hA
    replace hw : (DataW.weightsEach Tryz.prog Tryz.f3.params.toList ds).all (· ≤ reachBytes) = true := hw
    rw [Tryz.params3] at hA hw hval
    obtain ⟨args⟩ := args
    simp only [List.size_toArray, List.getElem?_toArray] at hval hA
    obtain ⟨v0, args, d0, ds, q0, ps, rfl, rfl, rfl, g0, hA⟩ := trodAll_cons hA
    obtain ⟨u0, hw⟩ := trodAll_weights hw
    obtain ⟨v1, args, d1, ds, q1, ps, rfl, rfl, rfl, g1, hA⟩ := trodAll_cons hA
    obtain ⟨u1, hw⟩ := trodAll_weights hw
    obtain ⟨v2, args, d2, ds, q2, ps, rfl, rfl, rfl, g2, hA⟩ := trodAll_cons hA
    obtain ⟨u2, hw⟩ := trodAll_weights hw
    obtain ⟨v3, args, d3, ds, q3, ps, rfl, rfl, rfl, g3, hA⟩ := trodAll_cons hA
    obtain ⟨u3, hw⟩ := trodAll_weights hw
    rcases args with _ | ⟨v, args⟩
    rotate_left
    · exact hA.elim
    obtain ⟨c0, x0, rfl, s0⟩ := arg_struct Tryz.underlying24 opn24 (okb (hval 0 24 v0 rfl rfl)) g0 u0
    obtain ⟨c1, x1, rfl, s1⟩ := arg_struct Tryz.underlying28 opn28 (okb (hval 1 28 v1 rfl rfl)) g1 u1
    obtain ⟨x2, s2⟩ := arg_slice Tryz.underlying29 opn29 (okb (hval 2 29 v2 rfl rfl)) g2 u2
    obtain ⟨n3, rfl, r3⟩ := arg_int Tryz.underlying3 (okb (hval 3 3 v3 rfl rfl)) g3
    exact (by
      obtain ⟨_, rfl, _, q0⟩ := s0
      obtain ⟨_, _, _, rfl, p1, p2, p3⟩ := s1
      exact (lawSpec23 _ x0 x1 _ _ _ _ x2 n3 W q0 ⟨p1, p2, p3⟩ s2 (i64k r3)))
theorem refusalsSpec_holds : Rows.RefusalsSpecSaid :=
  OpenClaim.holds_of_wide 3 Tryz.f3 rfl rfl rfl rfl rfl rfl rfl ⟨rfl, rfl, rfl, rfl, rfl⟩ rfl rfl rfl rfl rfl (by kernel_rfl) Tryz.func3 (by kernel_rfl)
    (of_decide_eq_true (by kernel_rfl)) (by unfold Func.isWrapper; first | (rw [if_pos (by decide +kernel)]; kernel_rfl) | (rw [if_neg (by decide +kernel)]; exact ⟨rfl, rfl⟩))
    (fun os started H enc _ => refusalsSpec_lifted os started H enc)
end Go.Proofs.YtldjfebokojmfaaGreat
