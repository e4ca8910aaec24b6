/- Chapter 39: the book's move. -/
import Derived.Test.YtoadfmgnpmcbfaaGreatFacts
import Derived.Test.YtoadfmgnpmcbfaaGreatApiM
import Derived.Test.YtoadfmgnpmcbfaaGreatApiT
import Derived.Test.YtoadfmgnpmcbfaaGreatBufO
import Derived.Test.YtoadfmgnpmcbfaaGreatFt
import Derived.Test.YtoadfmgnpmcbfaaGreatUt
namespace Go.Proofs.YtoadfmgnpmcbfaaGreat
open Go Go.Fk
set_option linter.unusedSimpArgs false
set_option linter.unusedVariables false
set_option maxRecDepth 100000

/-- the book of a run: its cell, and what it holds -/
structure BkR (B : Nat) (w : World) (pb : Addr) (run : Int) (ms : List MoveD) : Prop where
  ex : ∃ v, Row w pb 87 [.int .i64 run, v] ∧ BufO (α := MoveD) 70 B w v ms
/-- blocks that the book's list does not lie in -/
def NotMv (B : Nat) (w : World) (k : Nat) : Prop := k < B ∨ ∀ c T q, w.heap[k]? = some (.cells c T q) → T ≠ 70
theorem bufO_notMv {B : Nat} {w : World} {v : Value} {ms : List MoveD} (h : BufO (α := MoveD) 70 B w v ms) {k : Nat} (hk : NotMv B w k) : some k ≠ v.ownBlock := by
  obtain ⟨css, hc, hl, hb⟩ := h.ex
  rcases hb with ⟨rfl, _⟩ | ⟨g, cap, cur, rfl, hbs, hg, _⟩
  · intro e; cases e
  · intro e
    have e : k = g := by simpa [Value.ownBlock] using e
    subst e
    rcases hk with hk | hk
    · omega
    · exact hk _ _ _ hg rfl
theorem row_notMv {B : Nat} {w : World} {p : Addr} {T : TypeId} {vs : List Value} (r : Row w p T vs) (hT : T ≠ 70) : NotMv B w p.block := .inr fun c T' q h => by
  rw [r.heap] at h
  injection h with h
  injection h with _ h2
  rw [← h2]; exact hT
/-- a list of numbers beside the book's -/
theorem intsKeep {B B0 : Nat} {w w' : World} {v : Value} {xs : List Int} {pb : Addr} {T : TypeId} {vs : List Value} (h : BufO (α := Int) 3 B0 w v xs) (r : Row w pb T vs) (hT : T ≠ 3) (k : Keep (fun k => k ≠ pb.block ∧ NotMv B w k) w w') : BufO (α := Int) 3 B0 w' v xs := by
  have hne := h.ne r hT
  obtain ⟨css, hc, ho⟩ := h.ex
  refine ⟨css, hc.any, ownsRow_blk ho fun g hg => ?_⟩
  have hlt := (h.own_lt hg).2
  refine k.block g hlt ⟨fun e => hne (by rw [hg, e]), .inr fun c T' q h' => ?_⟩
  obtain ⟨hl, hb⟩ := ho
  rcases hb with ⟨rfl, _⟩ | ⟨g', cap, cur, rfl, hbs, hg', _⟩
  · cases hg
  · have e : g' = g := by simpa [Value.ownBlock] using hg
    subst e
    rw [hg'] at h'
    injection h' with h'
    injection h' with _ h2
    rw [← h2]; decide
def MoveD.I (m : MoveD) : Prop := I64 m.No ∧ I64 m.From ∧ I64 m.To ∧ I64 m.Amount ∧ I64 m.Why ∧ I64 m.Run
theorem bkMove (pb : Addr) (run a b c d : Int) (ms : List MoveD) (B : Nat) (w : World) (hB : BkR B w pb run ms) (hb : pb.block < B) (hbase : B ≤ w.heap.size) (hm : MoveD.I ⟨ms.length, a, b, c, d, run⟩) (hl : ms.length ≤ 1000000) :
    Calls Tryz.prog 47 #[.pointer (some pb), .int .i64 a, .int .i64 b, .int .i64 c, .int .i64 d] w fun e w' => e = .returned (.tuple #[]) ∧ BkR B w' pb run (ms ++ [⟨ms.length, a, b, c, d, run⟩]) ∧ Keep (fun k => k ≠ pb.block ∧ NotMv B w k) w w' := by
  obtain ⟨v, hr, hv⟩ := hB.ex
  have hs := hv.isS
  refine Calls_of_Run (args := [.pointer (some pb), .int .i64 a, .int .i64 b, .int .i64 c, .int .i64 d]) (n := 33) (rs := []) Tryz.func47 rfl rfl rfl (by simp) ?_
  let S : Nat → Prop := fun k => some k ≠ v.ownBlock
  (repeat with_reducible first | refine jq ?_ | refine jk ?_ | refine jc ?_ | refine jl ?_ | refine jb ?_ | refine jo ?_ | refine ji ?_ | refine jx rfl ?_)
  refine Run_ef S [23] [(4, [23]), (8, [23]), (17, [23])] (id := 0) KL47 (.first 0 (.first 1 (.first 2 (.first 3 (.first 4 (.first 5 (.first 6 (.first 7 (.first 8 (.first 9 (.first 10 (.first 11 (.first 12 (.first 13 (.first 14 (.first 15 (.first 16 (.first 17 (.first 18 (.alt 19 (.alt 20 (.first 21 (.first 22 (.alt 23 (.free .done) .stop))) .stop) .stop)))))))))))))))))))) mixed (by kernel_rfl) (by kernel_rfl) fun w1 x1 z1 => ?_
  have hr1 := hr.ext x1
  have g1 := hr1.n
  simp only [AtN, KS, Nat.reduceAdd, Nat.reduceMul, Nat.reduceEqDiff, ↓reduceIte, UT] at g1
  (try simp (maxSteps := 5000000) only [KS, Nat.reduceAdd, Nat.reduceMul, Nat.reduceEqDiff, ↓reduceIte, forall_const, Int.cast_ofNat_Int, Int.reduceToNat, List.take_succ_cons, List.take_zero, List.drop_succ_cons, List.drop_zero, TF47, KL47, ef, qopS, putL, g1, hs.1, hs.2]); (try simp (disch := omega) only [wrapI, tmodI, tdivI])
  have hne : S pb.block := hv.ne hr (by decide)
  have b1 := z1
  have hv1 := hv.keep (Keep.of_ext (S := fun _ => True) x1) fun _ _ _ => trivial
  refine ⟨hne, hne, hne, .agg (⟨ms.length, a, b, c, d, run⟩ : MoveD).cs.toArray, fun w' => by kernel_rfl, Keep.refl _ _, ?_⟩
  refine (SemW.and (SemW_append1FO (α := MoveD) (X := .agg (⟨ms.length, a, b, c, d, run⟩ : MoveD).cs.toArray) (x := ⟨ms.length, a, b, c, d, run⟩) Tryz.underlying35 ti70 rfl (by decide) hv1 (by omega) ⟨rfl, hm⟩ (by simp only [maxLen]; omega) fun s v' w3 b3 k3 => ⟨k3, ?_⟩) (SemW_build1 Tryz.underlying35 ti70 rfl rfl (by decide))).mono fun s w2 h => ⟨Keep.of_ext h.2, h.1⟩
  have r3 := hr1.keep k3 hne
  have hs3 := b3.isS
  refine SemW_setAt (i := 1) (by rw [cells35]) r3 (by simp) (isS_cells hs3.1) (isS_o hs3.1) fun w4 r4 k4 z4 => ?_
  have z3 := k3.size
  refine Run_nil ?_
  simp only [Rets, RetM, resV, fnd, oneOr, ↓reduceIte]
  refine ⟨trivial, ⟨v', r4, b3.keep k4 fun g hg _ => by show g ≠ pb.block; omega⟩, ?_⟩
  refine (Keep.of_ext x1).trans ((k3.mono fun k _ hk => bufO_notMv hv hk.2).trans (k4.mono fun k _ hk => hk.1))
end Go.Proofs.YtoadfmgnpmcbfaaGreat
