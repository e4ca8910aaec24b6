/- The statement TimetableTimes of chapter 20, for all inputs. No condition. -/
import Derived.Test.YtpiijpgfgcbfaaaC20
import Derived.Test.YtpiijpgfgcbfaaaW20p
namespace Go.Proofs.Ytpiijpgfgcbfaaa
open Go Go.Fk Go.RowKit Go.ChangeShapes Go.WideShapes
set_option linter.unusedVariables false
set_option linter.unusedSimpArgs false
set_option maxRecDepth 100000 in
theorem timetableTimes_lifted (os : Os) (started : os.Started) (H : Type) (enc : TypeId × Value → H) :
    ReturnsInHanded {} Try.checked os 7 .any (Rows.timetableTimesSpec.pre6 enc Try.prog Try.f7 Rows.timetableTimesRow.domain false) (Rows.timetableTimesSpec.post enc Try.prog Try.f7 false true false false) := by
  refine law_lifted (C := Try.checked) (s := Rows.timetableTimesSpec) own started (by kernel_rfl) Try.func7 laidOut (by kernel_rfl) rfl rfl Try.underlying4 (fun ds h => ?_)
    (ChangeSpec.witness6 (enc := enc) (C := Try.checked) false ⟨#[], #[.agg #[.int .i64 0, .slice none 0 0], .agg #[.int .i64 0, .int .i64 0, .int .i64 0]], []⟩ 30 (by kernel_rfl) (by kernel_rfl) (by kernel_rfl) (by kernel_rfl)) fun W base args ds ps hval hA hw => ?_
  · have h : ds.length = 2 := h
    rcases ds with _ | ⟨d0, ds⟩
    · simp at h
    rcases ds with _ | ⟨d1, ds⟩
    · simp at h
    rcases ds with _ | ⟨d, ds⟩
    · exact ⟨rfl, rfl, rfl⟩
    · simp at h
  · have hval : ∀ (j : Nat) t v, Try.f7.params[j]? = some t → args[j]? = some v → Value.okWide Try.prog W .any base t v := hval
    replace hA : DataW.TrodAll enc Try.prog W 0 (fun _ => true) true Try.f7.params.toList args.toList ds ps := hA
    replace hw : (DataW.weightsEach Try.prog Try.f7.params.toList ds).all (· ≤ reachBytes) = true := hw
    rw [Try.params7] at hA hw hval
    obtain ⟨args⟩ := args
    simp only [List.size_toArray, List.getElem?_toArray] at hval hA
    obtain ⟨v0, args, d0, ds, q0, ps, rfl, rfl, rfl, g0, hA⟩ := trodAll_cons hA
    obtain ⟨u0, hw⟩ := trodAll_weights hw
    obtain ⟨v1, args, d1, ds, q1, ps, rfl, rfl, rfl, g1, hA⟩ := trodAll_cons hA
    obtain ⟨u1, hw⟩ := trodAll_weights hw
    rcases args with _ | ⟨v, args⟩
    rotate_left
    · exact hA.elim
    obtain ⟨c0, x0, rfl, s0⟩ := arg_struct Try.underlying24 opn24 (okb (hval 0 24 v0 rfl rfl)) g0 u0
    obtain ⟨c1, x1, rfl, s1⟩ := arg_struct Try.underlying34 opn34 (okb (hval 1 34 v1 rfl rfl)) g1 u1
    exact (by
      obtain ⟨_, rfl, _, q0⟩ := s0
      obtain ⟨rfl, p1, p2, p3⟩ := s1
      exact lawTimes20 _ x0 x1 W q0 ⟨p1, p2, p3⟩)
/-- the statement -/
theorem timetableTimes_holds : Rows.TimetableTimesSaid :=
  OpenClaim.holds_of_wide 7 Try.f7 rfl rfl rfl rfl rfl rfl rfl ⟨rfl, rfl, rfl, rfl, rfl⟩ rfl rfl rfl rfl rfl (by kernel_rfl) Try.func7 (by kernel_rfl)
    (of_decide_eq_true (by kernel_rfl)) (by unfold Func.isWrapper; first | (rw [if_pos (by decide +kernel)]; kernel_rfl) | (rw [if_neg (by decide +kernel)]; exact ⟨rfl, rfl⟩))
    (fun os started H enc _ => timetableTimes_lifted os started H enc)
end Go.Proofs.Ytpiijpgfgcbfaaa
