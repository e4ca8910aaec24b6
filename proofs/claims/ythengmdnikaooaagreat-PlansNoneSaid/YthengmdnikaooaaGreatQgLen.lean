import Derived.Test.YthengmdnikaooaaGreatQgLaw
namespace Go.Fk
open Go Go.RowKit Go.ChangeShapes Go.WideShapes
theorem arg_len {H : Type} {enc : TypeId × Value → H} {P : Program} {W : World} {t e : TypeId} {v : Value} {d : DataW H} {ps : List MemPlace} (ht : P.underlying t = some (.slice e)) (hval : Value.okWide P W .any 0 t v) (h : DataW.Trod enc P W 0 (fun _ => true) true t v d ps)
    (hw : (d.weights P t).all (· ≤ reachBytes) = true) : slLen v * P.bytesOf e ≤ reachBytes := by
  obtain ⟨a, len, cap, rfl⟩ := okWide_slice ht hval
  obtain ⟨fuel, hf⟩ := h
  rcases DataW.trod_slice ht hf with ⟨h1, h2⟩ | ⟨a', len', cap', elems, rest, n, h1, h2, h3, h4, h5, h6, h7⟩
  · have h1' : (Value.slice a len cap) = .slice none 0 0 := by simpa [Value.cells] using h1
    rw [h1']; simp [slLen]
  · have h2' : (Value.slice a len cap) = .slice (some a') len' cap' := by simpa [Value.cells] using h2
    rw [h2']
    obtain ⟨rfl, -⟩ := Prod.mk.inj h3
    simp only [DataW.weights, ht, List.all_cons, List.all_append, Bool.and_eq_true, decide_eq_true_eq, List.length_map] at hw
    have := Nat.mul_le_mul_right (P.bytesOf e) (show len' ≤ elems.length + rest.length by omega)
    have hw1 := hw.1
    simp only [slLen]
    omega
end Go.Fk
