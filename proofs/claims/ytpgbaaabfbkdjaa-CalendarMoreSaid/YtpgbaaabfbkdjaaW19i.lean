/- Chapter 19: the program's Next. -/
import Derived.Test.YtpgbaaabfbkdjaaW19h
namespace Go.Proofs.Ytpgbaaabfbkdjaa
open Go Go.Fk
set_option linter.unusedSimpArgs false
set_option linter.unusedVariables false
set_option maxRecDepth 100000

structure NF (W : World) (pr po pa pm pb pe : Addr) (l d B : Nat) : Prop where
  h : W.heap.size ≤ pm.block ∧ W.heap.size ≤ pb.block ∧ W.heap.size ≤ pe.block ∧ W.heap.size ≤ pr.block ∧ W.heap.size ≤ po.block ∧ W.heap.size ≤ pa.block ∧
    pm.block ≠ pb.block ∧ pm.block ≠ pe.block ∧ pb.block ≠ pe.block ∧ pm.block < pr.block ∧ pb.block < pr.block ∧ pe.block < pr.block ∧ pm.block < po.block ∧ pb.block < po.block ∧ pe.block < po.block ∧ pm.block < pa.block ∧ pb.block < pa.block ∧ pe.block < pa.block ∧
    pr.block ≠ pa.block ∧ po.block ≠ pa.block ∧ pr.block < d ∧ po.block < d ∧ pa.block < d ∧ d < l ∧ l < B
structure NS (W : World) (pr po pa pm pb pe : Addr) (l d B : Nat) (va vb : Value) (m : Int) (k : Bool) (e : Int) (w : World) : Prop where
  ext : Ext W w
  r : Row w pr 22 [va]
  o : Row w po 23 [vb]
  m : Row w pm 3 [.int .i64 m]
  k : Row w pb 4 [.bool k]
  e : Row w pe 26 [.int .i64 e]
  d : w.heap[d]? = some (.deferred (some []))
  B : B ≤ w.heap.size
theorem NS.keep {W w w' : World} {pr po pa pm pb pe : Addr} {l d B : Nat} {va vb : Value} {m : Int} {b : Bool} {e : Int} {S : Nat → Prop} (hF : NF W pr po pa pm pb pe l d B) (h : NS W pr po pa pm pb pe l d B va vb m b e w) (hk : Keep S w w')
    (hS : ∀ k, k < B → k ≠ pa.block → k ≠ l → S k) : NS W pr po pa pm pb pe l d B va vb m b e w' := by
  have := hF.h
  refine ⟨hk.ext h.ext fun k hk => hS k (by omega) (by omega) (by omega), h.r.keep hk (hS _ ?_ ?_ ?_), h.o.keep hk (hS _ ?_ ?_ ?_), h.m.keep hk (hS _ ?_ ?_ ?_), h.k.keep hk (hS _ ?_ ?_ ?_), h.e.keep hk (hS _ ?_ ?_ ?_), (hk.block _ (by have := h.B; omega) (hS _ ?_ ?_ ?_)).trans h.d, Nat.le_trans h.B hk.size⟩
  all_goals omega
theorem NS.setm {W w w' : World} {pr po pa pm pb pe : Addr} {l d B : Nat} {va vb : Value} {m m' : Int} {b : Bool} {e : Int} (hF : NF W pr po pa pm pb pe l d B) (h : NS W pr po pa pm pb pe l d B va vb m b e w) (hk : Keep (fun k => k ≠ pm.block) w w')
    (hr : Row w' pm 3 [.int .i64 m']) : NS W pr po pa pm pb pe l d B va vb m' b e w' := by
  have := hF.h
  refine ⟨hk.ext h.ext fun k hk => ?_, h.r.keep hk ?_, h.o.keep hk ?_, hr, h.k.keep hk ?_, h.e.keep hk ?_, (hk.block _ (by have := h.B; omega) ?_).trans h.d, Nat.le_trans h.B hk.size⟩
  all_goals omega
theorem NS.setk {W w w' : World} {pr po pa pm pb pe : Addr} {l d B : Nat} {va vb : Value} {m : Int} {b b' : Bool} {e : Int} (hF : NF W pr po pa pm pb pe l d B) (h : NS W pr po pa pm pb pe l d B va vb m b e w) (hk : Keep (fun k => k ≠ pb.block) w w')
    (hr : Row w' pb 4 [.bool b']) : NS W pr po pa pm pb pe l d B va vb m b' e w' := by
  have := hF.h
  refine ⟨hk.ext h.ext fun k hk => ?_, h.r.keep hk ?_, h.o.keep hk ?_, h.m.keep hk ?_, hr, h.e.keep hk ?_, (hk.block _ (by have := h.B; omega) ?_).trans h.d, Nat.le_trans h.B hk.size⟩
  all_goals omega
theorem NS.sete {W w w' : World} {pr po pa pm pb pe : Addr} {l d B : Nat} {va vb : Value} {m : Int} {b : Bool} {e e' : Int} (hF : NF W pr po pa pm pb pe l d B) (h : NS W pr po pa pm pb pe l d B va vb m b e w) (hk : Keep (fun k => k ≠ pe.block) w w')
    (hr : Row w' pe 26 [.int .i64 e']) : NS W pr po pa pm pb pe l d B va vb m b e' w' := by
  have := hF.h
  refine ⟨hk.ext h.ext fun k hk => ?_, h.r.keep hk ?_, h.o.keep hk ?_, h.m.keep hk ?_, h.k.keep hk ?_, hr, (hk.block _ (by have := h.B; omega) ?_).trans h.d, Nat.le_trans h.B hk.size⟩
  all_goals omega
section
variable (W : World) (pr po pa pm pb pe : Addr) (l d B : Nat) (va vb : Value) (rc : Loop) (D : List Int)
def NJ0 (w : World) : Prop := NS W pr po pa pm pb pe l d B va vb 0 false 0 w ∧ Lp l rc .ready none w
def NJ (g : Nat) (pre : List Int) (w : World) : Prop := NS W pr po pa pm pb pe l d B va vb 0 false 0 w ∧ Lp l rc .ready none w ∧ pre = [] ∧ B ≤ g
def NJx (w : World) : Prop := ∃ x r, NS W pr po pa pm pb pe l d B va vb x true 0 w ∧ Lp l rc .done (some .ret) w ∧ D = x :: r
end
theorem NJ_mk {W : World} {pr po pa pm pb pe : Addr} {l d B : Nat} {va vb : Value} {rc : Loop} {D : List Int} {yv : Value} (hF : NF W pr po pa pm pb pe l d B)
    (h : ∀ g w x r, NJ W pr po pa pm pb pe l d B va vb rc g [] w → D = x :: r → CallW Try.prog yv [.int .i64 x] w fun v w' => ∃ b, v = .bool b ∧ Keep (fun k => k = pa.block ∨ k = g) w w' ∧ if b = true then NJ W pr po pa pm pb pe l d B va vb rc g [x] w' else NJx W pr po pa pm pb pe l d B va vb rc D w') :
    DepJ W pr po pa va vb yv D (NJ0 W pr po pa pm pb pe l d B va vb rc) (NJ W pr po pa pm pb pe l d B va vb rc) (NJx W pr po pa pm pb pe l d B va vb rc D) := by
  have hF' := hF.h
  refine ⟨fun w ⟨hM, hl⟩ => ⟨hM.ext, hM.r.at_, hM.o.at_⟩, fun w w' g ⟨hM, hl⟩ hw hg1 hg2 => ⟨hM.keep hF (Keep.of_ext (S := fun _ => True) hw) (fun _ _ _ _ => trivial), hl.keep (Keep.of_ext (S := fun _ => True) hw) trivial, rfl, by have := hM.B; omega⟩,
    fun g pre w ⟨hM, hl, ho⟩ => ⟨hM.ext, hM.r.at_, hM.o.at_⟩, fun g pre w w' ⟨hM, hl, ho, hg⟩ hk => ⟨hM.keep hF hk fun k h1 h2 _ => ?_, hl.keep hk ?_, ho, hg⟩, fun g pre w x r hJ hr => ?_⟩
  · omega
  · omega
  · obtain rfl := hJ.2.2.1
    exact h g w x r hJ hr

theorem calNext (va vb : Value) (rules : List Rule) (off : List Gap) (m : Int) (w : World) (hx : Sl w va rules) (hy : Sl w vb off) :
    Calls Try.prog 15 #[va, vb, .int .i64 m] w fun e w' => e = .returned (.tuple #[.int .i64 (Cal.next rules off m).1, .bool (Cal.next rules off m).2.1, .int .i64 (Cal.next rules off m).2.2]) ∧ Ext w w' := by
  refine Calls_of_Run (args := [va, vb, .int .i64 m]) (n := 28) (rs := [.cell 6 3, .cell 7 4, .cell 8 26]) Try.func15 rfl rfl rfl (by simp) ?_
  (repeat first | with_reducible refine Run_seq ?_ | with_reducible refine Run_skip ?_ | with_reducible refine Run_scope ?_ | with_reducible refine Run_label ?_ | with_reducible refine Run_sc ?_ | with_reducible refine Run_block ?_ | with_reducible refine Run_blk ?_ | with_reducible refine Run_exit rfl ?_ | (refine Run_region (by kernel_rfl) fun _ => ?_; simp only [KS, Nat.reduceAdd, Nat.reduceMul, Nat.reduceEqDiff, ↓reduceIte, UT]) | refine And.intro (by first | assumption | omega | (intros; omega)) ?_)
  refine SemW_allocT ti3 fun pm w1 h1 => SemW_allocT ti4 fun pb w2 h2 => SemW_allocT ti26 fun pe w3 h3 => ?_
  have m3 := h1.row.ext (h2.ext.trans h3.ext)
  have k3 := h2.row.ext h3.ext
  have e3 := h3.row
  have x3 := h1.ext.trans (h2.ext.trans h3.ext)
  have b1 := h1.blk
  have b2 := h2.blk
  have b3 := h3.blk
  have s1 := h1.size
  have s2 := h2.size
  have s3 := h3.size
  simp only [KS, Nat.reduceAdd, Nat.reduceMul, Nat.reduceEqDiff, ↓reduceIte, UT] at m3 k3 e3
  clear h1 h2 h3
  try simp only [KS, Nat.reduceAdd, Nat.reduceMul, Nat.reduceEqDiff, ↓reduceIte, UT]
  (repeat first | with_reducible refine Run_seq ?_ | with_reducible refine Run_skip ?_ | with_reducible refine Run_scope ?_ | with_reducible refine Run_label ?_ | with_reducible refine Run_sc ?_ | with_reducible refine Run_block ?_ | with_reducible refine Run_blk ?_ | with_reducible refine Run_exit rfl ?_ | (refine Run_region (by kernel_rfl) fun _ => ?_; simp only [KS, Nat.reduceAdd, Nat.reduceMul, Nat.reduceEqDiff, ↓reduceIte, UT]) | (refine Run_drawn mixed (by kernel_rfl) (by kernel_rfl) fun _ => ?_; simp only [KS, Nat.reduceAdd, Nat.reduceMul, Nat.reduceEqDiff, ↓reduceIte, UT]) | refine And.intro (by first | assumption | omega | (intros; omega)) ?_)
  refine CallW_pure call12 (calCheck va vb rules off w3 (hx.ext x3) (hy.ext x3)) fun w4 hw4 => ?_
  try simp only [KS, Nat.reduceAdd, Nat.reduceMul, Nat.reduceEqDiff, ↓reduceIte, UT]
  refine SemW_set1 cells26 (e3.ext hw4) rfl rfl fun w5 e5 k5 s5 => ?_
  simp only [KS, Nat.reduceAdd, Nat.reduceMul, Nat.reduceEqDiff, ↓reduceIte, UT] at e5
  have x5 : Ext w w5 := Keep.ext (x3.trans hw4) k5 fun k hk => by omega
  have m5 := (m3.ext hw4).keep k5 (by omega)
  have n5 := (k3.ext hw4).keep k5 (by omega)
  have s5' : w.heap.size + 3 ≤ w5.heap.size := by have := hw4.size; omega
  obtain ⟨e51, e52⟩ := at1 e5.at_
  try simp only [KS, Nat.reduceAdd, Nat.reduceMul, Nat.reduceEqDiff, ↓reduceIte, UT]
  (repeat first | with_reducible refine Run_seq ?_ | with_reducible refine Run_skip ?_ | with_reducible refine Run_scope ?_ | with_reducible refine Run_label ?_ | with_reducible refine Run_sc ?_ | with_reducible refine Run_block ?_ | with_reducible refine Run_blk ?_ | with_reducible refine Run_exit rfl ?_ | (refine Run_region (by kernel_rfl) fun _ => ?_; simp only [KS, Nat.reduceAdd, Nat.reduceMul, Nat.reduceEqDiff, ↓reduceIte, UT, e51, e52]) | (refine Run_drawn mixed (by kernel_rfl) (by kernel_rfl) fun _ => ?_; simp only [KS, Nat.reduceAdd, Nat.reduceMul, Nat.reduceEqDiff, ↓reduceIte, UT, e51, e52]) | refine And.intro (by first | assumption | omega | (intros; omega)) ?_)
  refine Run_cond (fun _ => rfl) (fun h => ?_) (fun h => ?_)
  · simp at h
    (repeat first | with_reducible refine Run_seq ?_ | with_reducible refine Run_skip ?_ | with_reducible refine Run_scope ?_ | with_reducible refine Run_label ?_ | with_reducible refine Run_sc ?_ | with_reducible refine Run_block ?_ | with_reducible refine Run_blk ?_ | with_reducible refine Run_exit rfl ?_ | (refine Run_region (by kernel_rfl) fun _ => ?_; simp only [KS, Nat.reduceAdd, Nat.reduceMul, Nat.reduceEqDiff, ↓reduceIte, UT]) | refine And.intro (by first | assumption | omega | (intros; omega)) ?_)
    refine Run_any (.alt 0 (.alt 1 (.alt 2 (.alt 3 .done .stop) .stop) .stop) (.alt 1 (.alt 0 (.alt 2 (.alt 3 .done .stop) .stop) (.alt 2 (.alt 0 (.alt 3 .done .stop) .stop) .stop)) .stop)) mixed (by kernel_rfl) fun w6 hw6 _ => ?_
    simp only [KS, Nat.reduceAdd, Nat.reduceMul, Nat.reduceEqDiff, ↓reduceIte, UT, et]
    have e6 := e5.ext hw6
    have m6 := m5.ext hw6
    have n6 := n5.ext hw6
    have x6 := x5.trans hw6
    clear e5 m5 n5 e3 m3 k3
    refine ⟨fun _ => ?_, fun _ => ?_⟩
    · obtain ⟨y1, y2⟩ := at1 e6.at_
      refine ⟨y2, fun _ => ?_⟩
      refine SemW_set1 cells3 m6 rfl rfl fun w7 r7 q7 _ _ => ?_
      simp only [KS, Nat.reduceAdd, Nat.reduceMul, Nat.reduceEqDiff, ↓reduceIte, UT] at r7
      have k7' := n6.keep q7 (by omega)
      have e7' := e6.keep q7 (by omega)
      have x7' := Keep.ext x6 q7 fun k hk => by omega
      refine SemW_set1 cells4 k7' rfl rfl fun w8 r8 q8 _ _ => ?_
      simp only [KS, Nat.reduceAdd, Nat.reduceMul, Nat.reduceEqDiff, ↓reduceIte, UT] at r8
      have m8' := r7.keep q8 (by omega)
      have e8' := e7'.keep q8 (by omega)
      have x8' := Keep.ext x7' q8 fun k hk => by omega
      refine SemW_set1 cells26 e8' (by rw [y1]; rfl) (by rw [y1]; rfl) fun w9 r9 q9 _ => ?_
      rw [y1] at r9
      simp only [KS, Nat.reduceAdd, Nat.reduceMul, Nat.reduceEqDiff, ↓reduceIte, UT] at r9
      have m9' := m8'.keep q9 (by omega)
      have k9' := r8.keep q9 (by omega)
      have x9' := Keep.ext x8' q9 fun k hk => by omega
      refine Run_ret ?_
      simp only [Rets, RetM, resV, fnd, oneOr, ↓reduceIte]
      refine ⟨_, _, rfl, loadVar_row rfl m9', _, _, rfl, loadVar_row rfl k9', _, _, rfl, loadVar_row rfl r9, ?_, x9'⟩
      simp [Cal.next, h]
    · refine SemW_set1 cells3 m6 rfl rfl fun w7 m7 q7 _ => ⟨fun _ => ?_, fun _ => ?_⟩
      all_goals
        simp only [KS, Nat.reduceAdd, Nat.reduceMul, Nat.reduceEqDiff, ↓reduceIte, UT] at m7
        have e7 := e6.keep q7 (by omega)
        have n7 := n6.keep q7 (by omega)
        have x7 := Keep.ext x6 q7 fun k hk => by omega
      · obtain ⟨y1, y2⟩ := at1 e7.at_
        refine ⟨y2, fun _ => ?_⟩
        refine SemW_set1 cells4 n7 rfl rfl fun w8 r8 q8 _ _ => ?_
        simp only [KS, Nat.reduceAdd, Nat.reduceMul, Nat.reduceEqDiff, ↓reduceIte, UT] at r8
        refine SemW_set1 cells26 (e7.keep q8 (by omega)) (by rw [y1]; rfl) (by rw [y1]; rfl) fun w9 r9 q9 _ => ?_
        rw [y1] at r9
        simp only [KS, Nat.reduceAdd, Nat.reduceMul, Nat.reduceEqDiff, ↓reduceIte, UT] at r9
        refine Run_ret ?_
        simp only [Rets, RetM, resV, fnd, oneOr, ↓reduceIte]
        refine ⟨_, _, rfl, loadVar_row rfl ((m7.keep q8 (by omega)).keep q9 (by omega)), _, _, rfl, loadVar_row rfl (r8.keep q9 (by omega)), _, _, rfl, loadVar_row rfl r9, ?_, Keep.ext (Keep.ext x7 q8 fun k hk => by omega) q9 fun k hk => by omega⟩
        simp [Cal.next, h]
      · refine SemW_set1 cells4 n7 rfl rfl fun w8 r8 q8 _ _ => ?_
        simp only [KS, Nat.reduceAdd, Nat.reduceMul, Nat.reduceEqDiff, ↓reduceIte, UT] at r8
        have e8 := e7.keep q8 (by omega)
        obtain ⟨y1, y2⟩ := at1 e8.at_
        refine ⟨y2, fun _ => ?_⟩
        refine SemW_set1 cells26 e8 (by rw [y1]; rfl) (by rw [y1]; rfl) fun w9 r9 q9 _ => ?_
        rw [y1] at r9
        simp only [KS, Nat.reduceAdd, Nat.reduceMul, Nat.reduceEqDiff, ↓reduceIte, UT] at r9
        refine Run_ret ?_
        simp only [Rets, RetM, resV, fnd, oneOr, ↓reduceIte]
        refine ⟨_, _, rfl, loadVar_row rfl ((m7.keep q8 (by omega)).keep q9 (by omega)), _, _, rfl, loadVar_row rfl (r8.keep q9 (by omega)), _, _, rfl, loadVar_row rfl r9, ?_, Keep.ext (Keep.ext x7 q8 fun k hk => by omega) q9 fun k hk => by omega⟩
        simp [Cal.next, h]
  · simp at h
    have hok := Cal.chk_ok h
    rw [h] at e5
    (repeat first | with_reducible refine Run_seq ?_ | with_reducible refine Run_skip ?_ | with_reducible refine Run_scope ?_ | with_reducible refine Run_label ?_ | with_reducible refine Run_sc ?_ | with_reducible refine Run_block ?_ | with_reducible refine Run_blk ?_ | with_reducible refine Run_exit rfl ?_ | (refine Run_region (by kernel_rfl) fun _ => ?_; simp only [KS, Nat.reduceAdd, Nat.reduceMul, Nat.reduceEqDiff, ↓reduceIte, UT]) | (refine Run_drawn mixed (by kernel_rfl) (by kernel_rfl) fun _ => ?_; simp only [KS, Nat.reduceAdd, Nat.reduceMul, Nat.reduceEqDiff, ↓reduceIte, UT]) | refine And.intro (by first | assumption | omega | (intros; omega)) ?_)
    refine Run_cond (fun _ => rfl) (fun h2 => ?_) (fun h2 => ?_)
    · simp at h2
      (repeat first | with_reducible refine Run_seq ?_ | with_reducible refine Run_skip ?_ | with_reducible refine Run_scope ?_ | with_reducible refine Run_label ?_ | with_reducible refine Run_sc ?_ | with_reducible refine Run_block ?_ | with_reducible refine Run_blk ?_ | with_reducible refine Run_exit rfl ?_ | (refine Run_region (by kernel_rfl) fun _ => ?_; simp only [KS, Nat.reduceAdd, Nat.reduceMul, Nat.reduceEqDiff, ↓reduceIte, UT]) | (refine Run_drawn mixed (by kernel_rfl) (by kernel_rfl) fun _ => ?_; simp only [KS, Nat.reduceAdd, Nat.reduceMul, Nat.reduceEqDiff, ↓reduceIte, UT]) | refine And.intro (by first | assumption | omega | (intros; omega)) ?_)
      refine SemW_set1 cells3 m5 rfl rfl fun w7 m7 q7 _ => ?_
      try simp only [KS, Nat.reduceAdd, Nat.reduceMul, Nat.reduceEqDiff, ↓reduceIte, UT]
      refine SemW_set1 cells4 (n5.keep q7 (by omega)) rfl rfl fun w8 r8 q8 _ => ?_
      try simp only [KS, Nat.reduceAdd, Nat.reduceMul, Nat.reduceEqDiff, ↓reduceIte, UT]
      refine SemW_set1 cells26 ((e5.keep q7 (by omega)).keep q8 (by omega)) rfl rfl fun w9 r9 q9 _ => ?_
      simp only [KS, Nat.reduceAdd, Nat.reduceMul, Nat.reduceEqDiff, ↓reduceIte, UT] at m7 r8 r9
      try simp only [KS, Nat.reduceAdd, Nat.reduceMul, Nat.reduceEqDiff, ↓reduceIte, UT]
      (repeat first | with_reducible refine Run_seq ?_ | with_reducible refine Run_skip ?_ | with_reducible refine Run_scope ?_ | with_reducible refine Run_label ?_ | with_reducible refine Run_sc ?_ | with_reducible refine Run_block ?_ | with_reducible refine Run_blk ?_ | with_reducible refine Run_exit rfl ?_ | (refine Run_region (by kernel_rfl) fun _ => ?_; simp only [KS, Nat.reduceAdd, Nat.reduceMul, Nat.reduceEqDiff, ↓reduceIte, UT]) | (refine Run_drawn mixed (by kernel_rfl) (by kernel_rfl) fun _ => ?_; simp only [KS, Nat.reduceAdd, Nat.reduceMul, Nat.reduceEqDiff, ↓reduceIte, UT]) | refine And.intro (by first | assumption | omega | (intros; omega)) ?_)
      refine Run_ret ?_
      simp only [Rets, RetM, resV, fnd, oneOr, ↓reduceIte]
      refine ⟨_, _, rfl, loadVar_row rfl ((m7.keep q8 (by omega)).keep q9 (by omega)), _, _, rfl, loadVar_row rfl (r8.keep q9 (by omega)), _, _, rfl, loadVar_row rfl r9, ?_, Keep.ext (Keep.ext (Keep.ext x5 q7 fun k hk => by omega) q8 fun k hk => by omega) q9 fun k hk => by omega⟩
      simp [Cal.next, h, h2]
    · simp at h2
      have h4 : ¬ (m < 0 ∨ 2097152 < m) := by omega
      (repeat first | with_reducible refine Run_seq ?_ | with_reducible refine Run_skip ?_ | with_reducible refine Run_scope ?_ | with_reducible refine Run_label ?_ | with_reducible refine Run_sc ?_ | with_reducible refine Run_block ?_ | with_reducible refine Run_blk ?_ | with_reducible refine Run_exit rfl ?_ | (refine Run_region (by kernel_rfl) fun _ => ?_; simp only [KS, Nat.reduceAdd, Nat.reduceMul, Nat.reduceEqDiff, ↓reduceIte, UT]) | (refine Run_drawn mixed (by kernel_rfl) (by kernel_rfl) fun _ => ?_; simp only [KS, Nat.reduceAdd, Nat.reduceMul, Nat.reduceEqDiff, ↓reduceIte, UT]) | refine And.intro (by first | assumption | omega | (intros; omega)) ?_)
      refine CallW_gen call19 (calDepartures va vb m w5 (isS_cells hx.s) (isS_cells hy.s)) fun e w6 ⟨pr, po, pa, he, hD⟩ => ⟨_, he, ?_⟩
      try simp only [KS, Nat.reduceAdd, Nat.reduceMul, Nat.reduceEqDiff, ↓reduceIte, UT]
      (repeat first | with_reducible refine Run_seq ?_ | with_reducible refine Run_skip ?_ | with_reducible refine Run_scope ?_ | with_reducible refine Run_label ?_ | with_reducible refine Run_sc ?_ | with_reducible refine Run_block ?_ | with_reducible refine Run_blk ?_ | with_reducible refine Run_exit rfl ?_ | (refine Run_region (by kernel_rfl) fun _ => ?_; simp only [KS, Nat.reduceAdd, Nat.reduceMul, Nat.reduceEqDiff, ↓reduceIte, UT]) | (refine Run_drawn mixed (by kernel_rfl) (by kernel_rfl) fun _ => ?_; simp only [KS, Nat.reduceAdd, Nat.reduceMul, Nat.reduceEqDiff, ↓reduceIte, UT]) | refine And.intro (by first | assumption | omega | (intros; omega)) ?_)
      refine Run_range (fun _ => rfl) call21 fun rc w7 hps has hbd hT hw7 => ?_
      obtain ⟨hx67, hs7, hl7, hd7⟩ := range_start hw7
      have hF : NF w pr po pa pm pb pe (w6.heap.size + 1) w6.heap.size (w6.heap.size + 2) := by
        have q1 := hD.nr
        have q2 := hD.no
        have q3 := hD.na
        have q4 := hD.ra
        have q5 := hD.oa
        have q6 := hD.r.lt
        have q7 := hD.o.lt
        have q8 := hD.a.lt
        exact ⟨by omega⟩
      have hM7 : NS w pr po pa pm pb pe (w6.heap.size + 1) w6.heap.size (w6.heap.size + 2) va vb 0 false 0 w7 :=
        ⟨x5.trans (hD.ext.trans hx67), hD.r.ext hx67, hD.o.ext hx67, (m5.ext hD.ext).ext hx67, (n5.ext hD.ext).ext hx67, (e5.ext hD.ext).ext hx67, hd7, by omega⟩
      have hF' := hF.h
      have hJ : DepJ w pr po pa va vb (.func (.yield (w6.heap.size + 1)) #[] #[]) (Cal.deps rules off m 2097152)
          (NJ0 w pr po pa pm pb pe (w6.heap.size + 1) w6.heap.size (w6.heap.size + 2) va vb rc) (NJ w pr po pa pm pb pe (w6.heap.size + 1) w6.heap.size (w6.heap.size + 2) va vb rc) (NJx w pr po pa pm pb pe (w6.heap.size + 1) w6.heap.size (w6.heap.size + 2) va vb rc (Cal.deps rules off m 2097152)) := by
        refine NJ_mk hF fun g w8 x r ⟨hM, hl, _, hBg⟩ hr => ?_
        have hM9 := hM.keep hF (lpSet_keep (l := w6.heap.size + 1) (rc := rc) (st := .busy) (pd := none)) fun k _ _ h => h
        have hl9 := hl.set .busy none
        have k9 : Keep (fun k => k = pa.block ∨ k = g) w8 (lpSet w8 (w6.heap.size + 1) rc .busy none) := lpSet_keep.mono fun k _ hk => by omega
        simp only [CallW, Array.empty_append, Array.append_empty]
        refine yield_round hl (ps := [26]) hps has hbd hT rfl (by simp) ?_
        simp only [zipL]
        (repeat first | with_reducible refine Run_seq ?_ | with_reducible refine Run_skip ?_ | with_reducible refine Run_scope ?_ | with_reducible refine Run_label ?_ | with_reducible refine Run_sc ?_ | with_reducible refine Run_block ?_ | with_reducible refine Run_blk ?_ | with_reducible refine Run_exit rfl ?_ | (refine Run_region (by kernel_rfl) fun _ => ?_; simp only [KS, Nat.reduceAdd, Nat.reduceMul, Nat.reduceEqDiff, ↓reduceIte, UT]) | (refine Run_drawn mixed (by kernel_rfl) (by kernel_rfl) fun _ => ?_; simp only [KS, Nat.reduceAdd, Nat.reduceMul, Nat.reduceEqDiff, ↓reduceIte, UT]) | refine And.intro (by first | assumption | omega | (intros; omega)) ?_)
        refine Run_lp ⟨hl, ?_⟩
        generalize lpSet w8 (w6.heap.size + 1) rc .busy none = w9 at *
        (repeat first | with_reducible refine Run_seq ?_ | with_reducible refine Run_skip ?_ | with_reducible refine Run_scope ?_ | with_reducible refine Run_label ?_ | with_reducible refine Run_sc ?_ | with_reducible refine Run_block ?_ | with_reducible refine Run_blk ?_ | with_reducible refine Run_exit rfl ?_ | (refine Run_region (by kernel_rfl) fun _ => ?_; simp only [KS, Nat.reduceAdd, Nat.reduceMul, Nat.reduceEqDiff, ↓reduceIte, UT]) | (refine Run_drawn mixed (by kernel_rfl) (by kernel_rfl) fun _ => ?_; simp only [KS, Nat.reduceAdd, Nat.reduceMul, Nat.reduceEqDiff, ↓reduceIte, UT]) | refine And.intro (by first | assumption | omega | (intros; omega)) ?_)
        refine SemW_set1 cells3 hM9.m rfl rfl fun w10 r10 q10 _ => ?_
        have hM10 := hM9.setm hF q10 r10
        try simp only [KS, Nat.reduceAdd, Nat.reduceMul, Nat.reduceEqDiff, ↓reduceIte, UT]
        refine SemW_set1 cells4 hM10.k rfl rfl fun w11 r11 q11 _ => ?_
        have hM11 := hM10.setk hF q11 r11
        try simp only [KS, Nat.reduceAdd, Nat.reduceMul, Nat.reduceEqDiff, ↓reduceIte, UT]
        refine SemW_set1 cells26 hM11.e rfl rfl fun w12 r12 q12 _ => ?_
        have hM12 := hM11.sete hF q12 r12
        have hl12 := ((hl9.keep q10 (by omega)).keep q11 (by omega)).keep q12 (by omega)
        try simp only [KS, Nat.reduceAdd, Nat.reduceMul, Nat.reduceEqDiff, ↓reduceIte, UT]
        (repeat first | with_reducible refine Run_seq ?_ | with_reducible refine Run_skip ?_ | with_reducible refine Run_scope ?_ | with_reducible refine Run_label ?_ | with_reducible refine Run_sc ?_ | with_reducible refine Run_block ?_ | with_reducible refine Run_blk ?_ | with_reducible refine Run_exit rfl ?_ | (refine Run_region (by kernel_rfl) fun _ => ?_; simp only [KS, Nat.reduceAdd, Nat.reduceMul, Nat.reduceEqDiff, ↓reduceIte, UT]) | (refine Run_drawn mixed (by kernel_rfl) (by kernel_rfl) fun _ => ?_; simp only [KS, Nat.reduceAdd, Nat.reduceMul, Nat.reduceEqDiff, ↓reduceIte, UT]) | refine And.intro (by first | assumption | omega | (intros; omega)) ?_)
        refine Run_ret ⟨hl12, false, rfl, (((k9.trans (q10.mono fun k _ hk => by omega)).trans (q11.mono fun k _ hk => by omega)).trans (q12.mono fun k _ hk => by omega)).trans (lpSet_keep.mono fun k _ hk => by omega), ?_⟩
        simp only [Bool.false_eq_true, if_false]
        exact ⟨x, r, hM12.keep hF lpSet_keep fun k _ _ h => h, hl12.set _ _, hr⟩
      refine (depIter rules off hx hy hok m hJ (by omega) (by omega) w7 (hD.a.ext hx67) ⟨hM7, hl7⟩).mono fun e w8 ⟨he, hend⟩ => ⟨_, he, ?_⟩
      have hdn := Cal.deps_nxt (rules := rules) (off := off) (a := m) (b := 2097152) (by omega)
      rcases hend with ⟨x, r, hM, hl, hr⟩ | ⟨g, hM, hl, hr, hBg⟩
      · refine ⟨.done, some .ret, hl, by simp, ?_⟩
        have hM9 := hM.keep hF (lpSet_keep (l := w6.heap.size + 1) (rc := rc) (st := .exhausted) (pd := some .ret)) fun k _ _ h => h
        simp only
        refine Run_ret ?_
        simp only [Rets, RetM, resV, fnd, oneOr, ↓reduceIte]
        refine ⟨hM9.d, _, _, rfl, loadVar_row rfl (hM9.m.keep putObj_keep (by omega)), _, _, rfl, loadVar_row rfl (hM9.k.keep putObj_keep (by omega)), _, _, rfl, loadVar_row rfl (hM9.e.keep putObj_keep (by omega)), ?_, Keep.ext hM9.ext putObj_keep fun k hk => by omega⟩
        rw [hr] at hdn
        split at hdn
        · rename_i hlt
          simp at hdn
          simp [Cal.next, h, h4, hlt, hdn.1]
        · simp at hdn
      · refine ⟨.ready, none, hl, by simp, ?_⟩
        have hM9 := hM.keep hF (lpSet_keep (l := w6.heap.size + 1) (rc := rc) (st := .exhausted) (pd := none)) fun k _ _ h => h
        simp only
        (repeat first | with_reducible refine Run_seq ?_ | with_reducible refine Run_skip ?_ | with_reducible refine Run_scope ?_ | with_reducible refine Run_label ?_ | with_reducible refine Run_sc ?_ | with_reducible refine Run_block ?_ | with_reducible refine Run_blk ?_ | with_reducible refine Run_exit rfl ?_ | (refine Run_region (by kernel_rfl) fun _ => ?_; simp only [KS, Nat.reduceAdd, Nat.reduceMul, Nat.reduceEqDiff, ↓reduceIte, UT]) | (refine Run_drawn mixed (by kernel_rfl) (by kernel_rfl) fun _ => ?_; simp only [KS, Nat.reduceAdd, Nat.reduceMul, Nat.reduceEqDiff, ↓reduceIte, UT]) | refine And.intro (by first | assumption | omega | (intros; omega)) ?_)
        refine SemW_set1 cells3 hM9.m rfl rfl fun w10 r10 q10 _ => ?_
        have hM10 := hM9.setm hF q10 r10
        try simp only [KS, Nat.reduceAdd, Nat.reduceMul, Nat.reduceEqDiff, ↓reduceIte, UT]
        refine SemW_set1 cells4 hM10.k rfl rfl fun w11 r11 q11 _ => ?_
        have hM11 := hM10.setk hF q11 r11
        try simp only [KS, Nat.reduceAdd, Nat.reduceMul, Nat.reduceEqDiff, ↓reduceIte, UT]
        refine SemW_set1 cells26 hM11.e rfl rfl fun w12 r12 q12 _ => ?_
        have hM12 := hM11.sete hF q12 r12
        try simp only [KS, Nat.reduceAdd, Nat.reduceMul, Nat.reduceEqDiff, ↓reduceIte, UT]
        (repeat first | with_reducible refine Run_seq ?_ | with_reducible refine Run_skip ?_ | with_reducible refine Run_scope ?_ | with_reducible refine Run_label ?_ | with_reducible refine Run_sc ?_ | with_reducible refine Run_block ?_ | with_reducible refine Run_blk ?_ | with_reducible refine Run_exit rfl ?_ | (refine Run_region (by kernel_rfl) fun _ => ?_; simp only [KS, Nat.reduceAdd, Nat.reduceMul, Nat.reduceEqDiff, ↓reduceIte, UT]) | (refine Run_drawn mixed (by kernel_rfl) (by kernel_rfl) fun _ => ?_; simp only [KS, Nat.reduceAdd, Nat.reduceMul, Nat.reduceEqDiff, ↓reduceIte, UT]) | refine And.intro (by first | assumption | omega | (intros; omega)) ?_)
        refine Run_ret ?_
        simp only [Rets, RetM, resV, fnd, oneOr, ↓reduceIte]
        refine ⟨hM12.d, _, _, rfl, loadVar_row rfl (hM12.m.keep putObj_keep (by omega)), _, _, rfl, loadVar_row rfl (hM12.k.keep putObj_keep (by omega)), _, _, rfl, loadVar_row rfl (hM12.e.keep putObj_keep (by omega)), ?_, Keep.ext hM12.ext putObj_keep fun k hk => by omega⟩
        rw [hr] at hdn
        split at hdn
        · simp at hdn
        · rename_i hlt
          simp [Cal.next, h, h4, hlt]
end Go.Proofs.Ytpgbaaabfbkdjaa
