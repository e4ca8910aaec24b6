import Derived.Test.YthengmdnikaooaaGreatQfGe
import Derived.Test.YthengmdnikaooaaGreatQfGb
set_option linter.unusedSimpArgs false
set_option linter.unusedVariables false
namespace Go.Fk
open Go Go.RowKit
theorem Run_lastClear {P : Program} {r : Option Nat} {n : Nat} {ds : List DF} {k : List Td} {L : FL} {w : World} {Q : Exit → List DF → FL → World → Prop} {id : Nat} {l : List Oper} (vs : List Nat) (m : Nat) {o : Oper} (x : Operand) (t : TypeId) (hl : l = l.take m ++ [o]) (ho : o.op = .call { callee := .builtin .clear, args := #[x], argTypes := #[t] }) (hg : o.guard = none) (hd : o.dst = none) (hu : useO [] [] x = true)
    (hs : stat n l (l.take m) [] = true)
    (h : ∀ t0, eg P l t0 (l.take m) [] L w fun L' w' => ∀ t1, SemW P (Builtin.clear_ #[t] o.type #[rho (lk t1 L') x]) w' fun _ w'' => Run P r n ds k (prune vs L') w'' Q) :
    Run P r n ds (.code (.region id l.toArray false) :: k) L w Q := fun a ha => by
  have key : wpListIn (fw r) 0 P (l.take m ++ [o]).toArray (after P r n k (QA n Q)) (l.take m ++ [o]) a w := by
    rw [← hl]
    have := wpListIn_append (P := P) (r := r) (ops := l.toArray) (Q' := NQ n ds _) (Q := after P r n k (QA n Q)) (l2 := [o]) (fun a1 w1 h1 => ?_) (fun e he a w h => by cases e <;> first | exact (he rfl).elim | exact h.elim) (l.take m) a w (eg_sound (l.take m) [] [] L a w (Inv.start ha) hs (h _))
    · rwa [← hl] at this
    · obtain ⟨L1, hL1, h1⟩ := h1
      have h1 := h1 (fun k => a1.tmps.getD k undef)
      have I := Inv.start hL1
      have ex : a1.eval x = rho (lk (fun k => a1.tmps.getD k undef) L1) x := I.useO (G := []) (by simp [hold]) hu
      rw [← ex] at h1
      unfold wpListIn
      rw [if_pos (by simp [Region.wanted, hg])]
      refine ⟨fun _ _ => trivial, ?_⟩
      rw [Oper.semAt_eq _ _ _ (by intro c' e; rw [ho] at e; cases e)]
      unfold SemW at h1
      split at h1
      · rename_i v w2 hr
        have hr2 : (execOp a1.eval o).run P w1 = .ok (.value v) w2 := by
          simp only [execOp, ho, resolve, Sem.run_bind, Sem.run_pure, Result.andThen_ok, invoke]
          simp [builtin, Sem.run_bind, hr]
        rw [hr2, Oper.uponIn_value]
        show after P r n k (QA n Q) .normal _ w2
        rw [hd]
        exact h1 _ hL1.prune
      · exact h1.elim
  rw [← hl] at key
  exact wpIn_region_lit key
theorem SemW_clear {P : Program} {w : World} {t ty e T : TypeId} {z : Value} {size bytes : Nat} (ht : P.underlying t = some (.slice e)) (hT : TI P e z size bytes) (hzs : z.cells.size = size) (hs0 : 0 < size) (hz1 : ∀ u ∈ z.cells.toList, u.oneCell' = true) {p : Addr} {vs : List Value} {o m c : Nat} (hg : Row w p T vs) (hfit : o + m * size ≤ vs.length) (hm : 0 < m) {K : Value → World → Prop}
    (hK : ∀ w', (∃ zs, Row w' p T (vs.take o ++ zs ++ vs.drop (o + m * size)) ∧ zs.length = m * size) → Keep (fun k => k ≠ p.block) w w' → w'.heap.size = w.heap.size → K (.tuple #[]) w') : SemW P (Builtin.clear_ #[t] ty #[.slice (some (p.add o)) m c]) w K := by
  obtain ⟨i, hi, hz, _, _⟩ := info_parts hT.h
  have hp := hg.p0
  have hlen : (Builtin.zeroCells z.cells m).toList.length = m * size := by simp [Builtin.zeroCells, hzs]
  have hone : ∀ u ∈ (Builtin.zeroCells z.cells m).toList, u.oneCell' = true := fun u hu => by
    simp only [Builtin.zeroCells, Array.toList_map, List.mem_map] at hu
    obtain ⟨j, hj, rfl⟩ := hu
    have hjm : j % z.cells.size < z.cells.size := Nat.mod_lt _ (by omega)
    refine hz1 _ ?_
    rw [getElem!_pos z.cells _ hjm]
    exact Array.getElem_mem_toList hjm
  have hst := run_storeCells_at P p.block o T (Builtin.zeroCells z.cells m).toList 0 vs.toArray w hg.heap (by simpa [hlen] using hfit) hone
  simp only [Nat.add_zero, Array.length_toList] at hst
  obtain ⟨m', rfl⟩ : ∃ k, m = k + 1 := ⟨m - 1, by omega⟩
  have hpa : p.add o = ⟨p.block, o, none⟩ := by rw [hp, mk_add]
  have hrun : (Builtin.clear_ #[t] ty #[.slice (some (p.add o)) (m' + 1) c]).run P w = .ok (.tuple #[]) (w.setRow p.block (vs.take o ++ (Builtin.zeroCells z.cells (m' + 1)).toList ++ vs.drop (o + (m' + 1) * size)).toArray) := by
    rw [hpa]
    simp only [← Array.length_toList, hlen] at hst
    simp [Builtin.clear_, run_underlying ht, zeroValue, typeInfo, hi, hz, hst]
  exact SemW.of_run hrun (hK _ ⟨_, ⟨hp, setRow_heap _ _ _ _ _ _ hg.heap⟩, hlen⟩ ⟨rfl, rfl, rfl, by simp, fun k _ hk => setRow_other _ _ _ _ hk⟩ (by simp))
end Go.Fk
