/- The statement TimetableLines of chapter 20, for all inputs. No condition. -/
import Derived.Test.YtpiijpgfgcbfaaaC20
import Derived.Test.YtpiijpgfgcbfaaaW20q
namespace Go.Proofs.Ytpiijpgfgcbfaaa
open Go Go.Fk Go.RowKit Go.ChangeShapes Go.WideShapes
set_option linter.unusedVariables false
set_option linter.unusedSimpArgs false
set_option maxRecDepth 100000 in
theorem timetableLines_lifted (os : Os) (started : os.Started) (H : Type) (enc : TypeId × Value → H) :
    ReturnsInHanded {} Try.checked os 8 .any (Rows.timetableLinesSpec.pre6 enc Try.prog Try.f8 Rows.timetableLinesRow.domain false) (Rows.timetableLinesSpec.post enc Try.prog Try.f8 false true false false) := by
  refine law_lifted (C := Try.checked) (s := Rows.timetableLinesSpec) own started (by kernel_rfl) Try.func8 laidOut (by kernel_rfl) rfl rfl Try.underlying4 (fun ds h => ?_)
    (ChangeSpec.witness6 (enc := enc) (C := Try.checked) false ⟨#[], #[.agg #[.int .i64 0, .slice none 0 0], .int .i64 0, .int .i64 0, .int .i64 0], []⟩ 30 (by kernel_rfl) (by kernel_rfl) (by kernel_rfl) (by kernel_rfl)) fun W base args ds ps hval hA hw => ?_
  · have h : ds.length = 4 := h
    rcases ds with _ | ⟨d0, ds⟩
    · simp at h
    rcases ds with _ | ⟨d1, ds⟩
    · simp at h
    rcases ds with _ | ⟨d2, ds⟩
    · simp at h
    rcases ds with _ | ⟨d3, ds⟩
    · simp at h
    rcases ds with _ | ⟨d, ds⟩
    · exact ⟨rfl, rfl, rfl⟩
    · simp at h
  · have hval : ∀ (j : Nat) t v, Try.f8.params[j]? = some t → args[j]? = some v → Value.okWide Try.prog W .any base t v := hval
    replace hA : DataW.TrodAll enc Try.prog W 0 (fun _ => true) true Try.f8.params.toList args.toList ds ps := hA
    replace hw : (DataW.weightsEach Try.prog Try.f8.params.toList ds).all (· ≤ reachBytes) = true := hw
    rw [Try.params8] at hA hw hval
    obtain ⟨args⟩ := args
    simp only [List.size_toArray, List.getElem?_toArray] at hval hA
    obtain ⟨v0, args, d0, ds, q0, ps, rfl, rfl, rfl, g0, hA⟩ := trodAll_cons hA
    obtain ⟨u0, hw⟩ := trodAll_weights hw
    obtain ⟨v1, args, d1, ds, q1, ps, rfl, rfl, rfl, g1, hA⟩ := trodAll_cons hA
    obtain ⟨u1, hw⟩ := trodAll_weights hw
    obtain ⟨v2, args, d2, ds, q2, ps, rfl, rfl, rfl, g2, hA⟩ := trodAll_cons hA
    obtain ⟨u2, hw⟩ := trodAll_weights hw
    obtain ⟨v3, args, d3, ds, q3, ps, rfl, rfl, rfl, g3, hA⟩ := trodAll_cons hA
    obtain ⟨u3, hw⟩ := trodAll_weights hw
    rcases args with _ | ⟨v, args⟩
    rotate_left
    · exact hA.elim
    obtain ⟨c0, x0, rfl, s0⟩ := arg_struct Try.underlying24 opn24 (okb (hval 0 24 v0 rfl rfl)) g0 u0
    obtain ⟨n1, rfl, r1⟩ := arg_int Try.underlying3 (okb (hval 1 3 v1 rfl rfl)) g1
    obtain ⟨n2, rfl, r2⟩ := arg_int Try.underlying3 (okb (hval 2 3 v2 rfl rfl)) g2
    obtain ⟨n3, rfl, r3⟩ := arg_int Try.underlying3 (okb (hval 3 3 v3 rfl rfl)) g3
    exact (by
      obtain ⟨_, rfl, _, q0⟩ := s0
      exact lawLines20 _ x0 n1 n2 n3 W q0 (i64k r1))
/-- the statement -/
theorem timetableLines_holds : Rows.TimetableLinesSaid :=
  OpenClaim.holds_of_wide 8 Try.f8 rfl rfl rfl rfl rfl rfl rfl ⟨rfl, rfl, rfl, rfl, rfl⟩ rfl rfl rfl rfl rfl (by kernel_rfl) Try.func8 (by kernel_rfl)
    (of_decide_eq_true (by kernel_rfl)) (by unfold Func.isWrapper; first | (rw [if_pos (by decide +kernel)]; kernel_rfl) | (rw [if_neg (by decide +kernel)]; exact ⟨rfl, rfl⟩))
    (fun os started H enc _ => timetableLines_lifted os started H enc)
end Go.Proofs.Ytpiijpgfgcbfaaa
