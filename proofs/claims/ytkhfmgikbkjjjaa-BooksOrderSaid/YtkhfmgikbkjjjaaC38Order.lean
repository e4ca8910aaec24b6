/- The statement BooksOrder of chapter 38, for all balances, moves and orders. No condition. -/
import Derived.Test.YtkhfmgikbkjjjaaC38
import Derived.Test.YtkhfmgikbkjjjaaW38m
namespace Go.Proofs.Ytkhfmgikbkjjjaa
open Go Go.Fk Go.RowKit Go.ChangeShapes Go.WideShapes
set_option linter.unusedVariables false
set_option linter.unusedSimpArgs false
theorem opn8 : Opn U8 Try.prog 5 := ⟨cells5, of_decide_eq_true (by kernel_rfl), fun enc W fuel cs y h _ => by
  obtain ⟨n, rfl, rfl, hw⟩ := DataW.trod_int Try.underlying5 h
  simp only [Lit.wf, Bool.and_eq_true, decide_eq_true_eq] at hw
  exact ⟨⟨n⟩, rfl, hw⟩⟩
theorem opn39 : Opn (List U8) Try.prog 39 := Opn.slice Try.underlying39 cells39 (of_decide_eq_true (by kernel_rfl)) opn8
set_option maxRecDepth 100000 in
theorem booksOrder_lifted (os : Os) (started : os.Started) (H : Type) (enc : TypeId × Value → H) :
    ReturnsInHanded {} Try.checked os 7 .any (Rows.booksOrderSpec.pre6 enc Try.prog Try.f7 Rows.booksOrderRow.domain false) (Rows.booksOrderSpec.post enc Try.prog Try.f7 false true false false) := by
  refine law_lifted (C := Try.checked) (s := Rows.booksOrderSpec) own started (by kernel_rfl) Try.func7 laidOut (by kernel_rfl) rfl rfl Try.underlying4 (fun ds h => ?_)
    (ChangeSpec.witness6 (enc := enc) (C := Try.checked) false ⟨#[], #[.slice none 0 0, .slice none 0 0, .slice none 0 0], []⟩ 30 (by kernel_rfl) (by kernel_rfl) (by kernel_rfl) (by kernel_rfl)) fun W base args ds ps hval hA hw => ?_
  · have h : ds.length = 3 := h
    rcases ds with _ | ⟨d0, ds⟩
    · simp at h
    rcases ds with _ | ⟨d1, ds⟩
    · simp at h
    rcases ds with _ | ⟨d2, ds⟩
    · simp at h
    rcases ds with _ | ⟨d, ds⟩
    · exact ⟨rfl, rfl, rfl⟩
    · simp at h
  · have hval : ∀ (j : Nat) t v, Try.f7.params[j]? = some t → args[j]? = some v → Value.okWide Try.prog W .any base t v := hval
    replace hA : DataW.TrodAll enc Try.prog W 0 (fun _ => true) true Try.f7.params.toList args.toList ds ps := hA
    replace hw : (DataW.weightsEach Try.prog Try.f7.params.toList ds).all (· ≤ reachBytes) = true := hw
    rw [Try.params7] at hA hw hval
    obtain ⟨args⟩ := args
    simp only [List.size_toArray, List.getElem?_toArray] at hval hA
    obtain ⟨v0, args, d0, ds, q0, ps, rfl, rfl, rfl, g0, hA⟩ := trodAll_cons hA
    obtain ⟨u0, hw⟩ := trodAll_weights hw
    obtain ⟨v1, args, d1, ds, q1, ps, rfl, rfl, rfl, g1, hA⟩ := trodAll_cons hA
    obtain ⟨u1, hw⟩ := trodAll_weights hw
    obtain ⟨v2, args, d2, ds, q2, ps, rfl, rfl, rfl, g2, hA⟩ := trodAll_cons hA
    obtain ⟨u2, hw⟩ := trodAll_weights hw
    rcases args with _ | ⟨v, args⟩
    rotate_left
    · exact hA.elim
    obtain ⟨x0, s0⟩ := arg_slice Try.underlying22 opn22 (okb (hval 0 22 v0 rfl rfl)) g0 u0
    obtain ⟨x1, s1⟩ := arg_slice Try.underlying23 opn23 (okb (hval 1 23 v1 rfl rfl)) g1 u1
    obtain ⟨x2, s2⟩ := arg_slice Try.underlying39 opn39 (okb (hval 2 39 v2 rfl rfl)) g2 u2
    exact lawOrder v0 v1 v2 x0 x1 x2 W s0 s1 s2
/-- the statement -/
theorem booksOrder_holds : Rows.BooksOrderSaid :=
  OpenClaim.holds_of_wide 7 Try.f7 rfl rfl rfl rfl rfl rfl rfl ⟨rfl, rfl, rfl, rfl, rfl⟩ rfl rfl rfl rfl rfl (by kernel_rfl) Try.func7 (by kernel_rfl)
    (of_decide_eq_true (by kernel_rfl)) (by unfold Func.isWrapper; first | (rw [if_pos (by decide +kernel)]; kernel_rfl) | (rw [if_neg (by decide +kernel)]; exact ⟨rfl, rfl⟩))
    (fun os started H enc _ => booksOrder_lifted os started H enc)
end Go.Proofs.Ytkhfmgikbkjjjaa
