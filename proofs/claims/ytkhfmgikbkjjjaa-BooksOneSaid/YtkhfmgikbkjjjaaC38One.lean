/- The statement BooksOne of chapter 38, for all balances, moves and further moves. No condition. -/
import Derived.Test.YtkhfmgikbkjjjaaC38
import Derived.Test.YtkhfmgikbkjjjaaLen
import Derived.Test.YtkhfmgikbkjjjaaW38l
namespace Go.Proofs.Ytkhfmgikbkjjjaa
open Go Go.Fk Go.RowKit Go.ChangeShapes Go.WideShapes
set_option linter.unusedVariables false
set_option linter.unusedSimpArgs false
theorem bytesMove : Try.prog.bytesOf 35 = 48 := of_decide_eq_true (by kernel_rfl)
theorem lenMoves {H : Type} {enc : TypeId × Value → H} {W : World} {v : Value} {d : DataW H} {ps : List MemPlace} (hval : Value.okWide Try.prog W .any 0 23 v) (h : DataW.Trod enc Try.prog W 0 (fun _ => true) true 23 v d ps)
    (hw : (d.weights Try.prog 23).all (· ≤ reachBytes) = true) : slLen v * 48 ≤ 140737488351232 := by
  have := arg_len Try.underlying23 hval h hw
  rw [bytesMove] at this
  exact Nat.le_trans this (by decide)
set_option maxRecDepth 100000 in
theorem booksOne_lifted (os : Os) (started : os.Started) (H : Type) (enc : TypeId × Value → H) :
    ReturnsInHanded {} Try.checked os 8 .any (Rows.booksOneSpec.pre6 enc Try.prog Try.f8 Rows.booksOneRow.domain false) (Rows.booksOneSpec.post enc Try.prog Try.f8 false true false false) := by
  refine law_lifted (C := Try.checked) (s := Rows.booksOneSpec) own started (by kernel_rfl) Try.func8 laidOut (by kernel_rfl) rfl rfl Try.underlying4 (fun ds h => ?_)
    (ChangeSpec.witness6 (enc := enc) (C := Try.checked) false ⟨#[], #[.slice none 0 0, .slice none 0 0, .agg #[.int .i64 0, .int .i64 0, .int .i64 0, .int .i64 0, .int .i64 0, .int .i64 0]], []⟩ 30 (by kernel_rfl) (by kernel_rfl) (by kernel_rfl) (by kernel_rfl)) fun W base args ds ps hval hA hw => ?_
  · have h : ds.length = 3 := h
    rcases ds with _ | ⟨d0, ds⟩
    · simp at h
    rcases ds with _ | ⟨d1, ds⟩
    · simp at h
    rcases ds with _ | ⟨d2, ds⟩
    · simp at h
    rcases ds with _ | ⟨d, ds⟩
    · exact ⟨rfl, rfl, rfl⟩
    · simp at h
  · have hval : ∀ (j : Nat) t v, Try.f8.params[j]? = some t → args[j]? = some v → Value.okWide Try.prog W .any base t v := hval
    replace hA : DataW.TrodAll enc Try.prog W 0 (fun _ => true) true Try.f8.params.toList args.toList ds ps := hA
    replace hw : (DataW.weightsEach Try.prog Try.f8.params.toList ds).all (· ≤ reachBytes) = true := hw
    rw [Try.params8] at hA hw hval
    obtain ⟨args⟩ := args
    simp only [List.size_toArray, List.getElem?_toArray] at hval hA
    obtain ⟨v0, args, d0, ds, q0, ps, rfl, rfl, rfl, g0, hA⟩ := trodAll_cons hA
    obtain ⟨u0, hw⟩ := trodAll_weights hw
    obtain ⟨v1, args, d1, ds, q1, ps, rfl, rfl, rfl, g1, hA⟩ := trodAll_cons hA
    obtain ⟨u1, hw⟩ := trodAll_weights hw
    obtain ⟨v2, args, d2, ds, q2, ps, rfl, rfl, rfl, g2, hA⟩ := trodAll_cons hA
    obtain ⟨u2, hw⟩ := trodAll_weights hw
    rcases args with _ | ⟨v, args⟩
    rotate_left
    · exact hA.elim
    obtain ⟨x0, s0⟩ := arg_slice Try.underlying22 opn22 (okb (hval 0 22 v0 rfl rfl)) g0 u0
    obtain ⟨x1, s1⟩ := arg_slice Try.underlying23 opn23 (okb (hval 1 23 v1 rfl rfl)) g1 u1
    obtain ⟨c2, x2, rfl, s2⟩ := arg_struct Try.underlying35 opn35 (okb (hval 2 35 v2 rfl rfl)) g2 u2
    exact (by
      have hb := lenMoves (okb (hval 1 _ v1 rfl rfl)) g1 u1
      rw [s1.len] at hb
      obtain ⟨rfl, i0, i1⟩ := s2
      exact lawOne v0 v1 x0 x1 x2 W s0 s1 hb i1)
/-- the statement -/
theorem booksOne_holds : Rows.BooksOneSaid :=
  OpenClaim.holds_of_wide 8 Try.f8 rfl rfl rfl rfl rfl rfl rfl ⟨rfl, rfl, rfl, rfl, rfl⟩ rfl rfl rfl rfl rfl (by kernel_rfl) Try.func8 (by kernel_rfl)
    (of_decide_eq_true (by kernel_rfl)) (by unfold Func.isWrapper; first | (rw [if_pos (by decide +kernel)]; kernel_rfl) | (rw [if_neg (by decide +kernel)]; exact ⟨rfl, rfl⟩))
    (fun os started H enc _ => booksOne_lifted os started H enc)
end Go.Proofs.Ytkhfmgikbkjjjaa
