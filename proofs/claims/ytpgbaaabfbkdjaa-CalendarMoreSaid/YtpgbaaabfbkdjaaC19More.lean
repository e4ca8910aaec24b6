/- The statement CalendarMore of chapter 19, for all rules, gaps and times. No condition. -/
import Derived.Test.YtpgbaaabfbkdjaaC19
import Derived.Test.YtpgbaaabfbkdjaaW19l
namespace Go.Proofs.Ytpgbaaabfbkdjaa
open Go Go.Fk Go.RowKit Go.ChangeShapes Go.WideShapes
set_option linter.unusedVariables false
set_option linter.unusedSimpArgs false
theorem u8 {n : Int} (h : IntKind.u8.min ≤ n ∧ n ≤ IntKind.u8.max) : 0 ≤ n ∧ n ≤ 255 := h
set_option maxRecDepth 100000 in
theorem calendarMore_lifted (os : Os) (started : os.Started) (H : Type) (enc : TypeId × Value → H) :
    ReturnsInHanded {} Try.checked os 8 .any (Rows.calendarMoreSpec.pre6 enc Try.prog Try.f8 Rows.calendarMoreRow.domain false) (Rows.calendarMoreSpec.post enc Try.prog Try.f8 false true false false) := by
  refine law_lifted (C := Try.checked) (s := Rows.calendarMoreSpec) own started (by kernel_rfl) Try.func8 laidOut (by kernel_rfl) rfl rfl Try.underlying4 (fun ds h => ?_)
    (ChangeSpec.witness6 (enc := enc) (C := Try.checked) false ⟨#[], #[.slice none 0 0, .slice none 0 0, .int .i64 0, .int .i64 0, .int .u8 0, .int .u8 0], []⟩ 30 (by kernel_rfl) (by kernel_rfl) (by kernel_rfl) (by kernel_rfl)) fun W base args ds ps hval hA hw => ?_
  · have h : ds.length = 6 := h
    rcases ds with _ | ⟨d0, ds⟩
    · simp at h
    rcases ds with _ | ⟨d1, ds⟩
    · simp at h
    rcases ds with _ | ⟨d2, ds⟩
    · simp at h
    rcases ds with _ | ⟨d3, ds⟩
    · simp at h
    rcases ds with _ | ⟨d4, ds⟩
    · simp at h
    rcases ds with _ | ⟨d5, ds⟩
    · simp at h
    rcases ds with _ | ⟨d, ds⟩
    · exact ⟨rfl, rfl, rfl⟩
    · simp at h
  · have hval : ∀ (j : Nat) t v, Try.f8.params[j]? = some t → args[j]? = some v → Value.okWide Try.prog W .any base t v := hval
    replace hA : DataW.TrodAll enc Try.prog W 0 (fun _ => true) true Try.f8.params.toList args.toList ds ps := hA
    replace hw : (DataW.weightsEach Try.prog Try.f8.params.toList ds).all (· ≤ reachBytes) = true := hw
    rw [Try.params8] at hA hw hval
    obtain ⟨args⟩ := args
    simp only [List.size_toArray, List.getElem?_toArray] at hval hA
    obtain ⟨v0, args, d0, ds, q0, ps, rfl, rfl, rfl, g0, hA⟩ := trodAll_cons hA
    obtain ⟨u0, hw⟩ := trodAll_weights hw
    obtain ⟨v1, args, d1, ds, q1, ps, rfl, rfl, rfl, g1, hA⟩ := trodAll_cons hA
    obtain ⟨u1, hw⟩ := trodAll_weights hw
    obtain ⟨v2, args, d2, ds, q2, ps, rfl, rfl, rfl, g2, hA⟩ := trodAll_cons hA
    obtain ⟨u2, hw⟩ := trodAll_weights hw
    obtain ⟨v3, args, d3, ds, q3, ps, rfl, rfl, rfl, g3, hA⟩ := trodAll_cons hA
    obtain ⟨u3, hw⟩ := trodAll_weights hw
    obtain ⟨v4, args, d4, ds, q4, ps, rfl, rfl, rfl, g4, hA⟩ := trodAll_cons hA
    obtain ⟨u4, hw⟩ := trodAll_weights hw
    obtain ⟨v5, args, d5, ds, q5, ps, rfl, rfl, rfl, g5, hA⟩ := trodAll_cons hA
    obtain ⟨u5, hw⟩ := trodAll_weights hw
    rcases args with _ | ⟨v, args⟩
    rotate_left
    · exact hA.elim
    obtain ⟨x0, s0⟩ := arg_slice Try.underlying22 opn22 (okb (hval 0 22 v0 rfl rfl)) g0 u0
    obtain ⟨x1, s1⟩ := arg_slice Try.underlying23 opn23 (okb (hval 1 23 v1 rfl rfl)) g1 u1
    obtain ⟨n2, rfl, r2⟩ := arg_int Try.underlying3 (okb (hval 2 3 v2 rfl rfl)) g2
    obtain ⟨n3, rfl, r3⟩ := arg_int Try.underlying3 (okb (hval 3 3 v3 rfl rfl)) g3
    obtain ⟨n4, rfl, r4⟩ := arg_int Try.underlying5 (okb (hval 4 5 v4 rfl rfl)) g4
    obtain ⟨n5, rfl, r5⟩ := arg_int Try.underlying5 (okb (hval 5 5 v5 rfl rfl)) g5
    exact lawMore v0 v1 x0 x1 n2 n3 n4 n5 W s0 s1 (u8 r4) (u8 r5)
/-- the statement -/
theorem calendarMore_holds : Rows.CalendarMoreSaid :=
  OpenClaim.holds_of_wide 8 Try.f8 rfl rfl rfl rfl rfl rfl rfl ⟨rfl, rfl, rfl, rfl, rfl⟩ rfl rfl rfl rfl rfl (by kernel_rfl) Try.func8 (by kernel_rfl)
    (of_decide_eq_true (by kernel_rfl)) (by unfold Func.isWrapper; first | (rw [if_pos (by decide +kernel)]; kernel_rfl) | (rw [if_neg (by decide +kernel)]; exact ⟨rfl, rfl⟩))
    (fun os started H enc _ => calendarMore_lifted os started H enc)
end Go.Proofs.Ytpgbaaabfbkdjaa
