/- Chapter 19: the program's Moments. -/
import Derived.Test.YtcncbmdkifdggaaD19g
import Derived.Test.YtcncbmdkifdggaaD19a
namespace Go.Proofs.Ytcncbmdkifdggaa
open Go Go.Fk
set_option linter.unusedSimpArgs false
set_option linter.unusedVariables false
set_option maxRecDepth 100000

theorem deps_below {rules : List Rule} {off : List Gap} {a u b : Int} (h1 : a ≤ u) (h2 : u ≤ b) : Cal.deps rules off a u = (Cal.deps rules off a b).filter (fun x => decide (x < u)) := by
  rw [Cal.deps_append h1 h2, List.filter_append]
  have e1 : (Cal.deps rules off a u).filter (fun x => decide (x < u)) = Cal.deps rules off a u := List.filter_eq_self.2 fun x hx => by
    have := (Cal.deps_mem h1).1 hx
    simp; omega
  have e2 : (Cal.deps rules off u b).filter (fun x => decide (x < u)) = [] := List.filter_eq_nil_iff.2 fun x hx => by
    have := (Cal.deps_mem h2).1 hx
    simp; omega
  rw [e1, e2, List.append_nil]
theorem deps_cut {rules : List Rule} {off : List Gap} {a u b x : Int} {pre r : List Int} (h1 : a ≤ u) (h2 : u ≤ b) (h : Cal.deps rules off a b = pre ++ x :: r) (hp : ∀ y ∈ pre, y < u) (hx : u ≤ x) : Cal.deps rules off a u = pre := by
  have hs := Cal.deps_sorted rules off a b
  rw [deps_below h1 h2, h, List.filter_append]
  rw [h] at hs
  have hs2 := (List.pairwise_append.1 hs).2.1
  have e1 : pre.filter (fun x => decide (x < u)) = pre := List.filter_eq_self.2 fun y hy => by simpa using hp y hy
  have e2 : (x :: r).filter (fun x => decide (x < u)) = [] := List.filter_eq_nil_iff.2 fun y hy => by
    rcases List.mem_cons.1 hy with rfl | hy
    · simp; omega
    · have := (List.pairwise_cons.1 hs2).1 y hy
      simp; omega
  rw [e1, e2, List.append_nil]
theorem deps_all {rules : List Rule} {off : List Gap} {a u b : Int} {pre : List Int} (h1 : a ≤ u) (h2 : u ≤ b) (h : Cal.deps rules off a b = pre) (hp : ∀ y ∈ pre, y < u) : Cal.deps rules off a u = pre := by
  rw [deps_below h1 h2, h]
  exact List.filter_eq_self.2 fun y hy => by simpa using hp y hy
theorem deps_more {rules : List Rule} {off : List Gap} {a u b x : Int} {pre r : List Int} (h1 : a ≤ u) (h2 : u ≤ b) (h : Cal.deps rules off a b = pre ++ x :: r) (hp : ∀ y ∈ pre, y < u) (hx : x < u) : pre.length < (Cal.deps rules off a u).length := by
  rw [deps_below h1 h2, h, List.filter_append]
  have e1 : pre.filter (fun x => decide (x < u)) = pre := List.filter_eq_self.2 fun y hy => by simpa using hp y hy
  rw [e1]
  simp [hx]

theorem own_ints {base : Nat} {w : World} {v : Value} {n : Nat} {xs : List Int} (h : w.ownsRow base 3 1 v n (xs.map (Value.int .i64))) (hI : ∀ x ∈ xs, I64 x) (hb : n ≤ 140737488355328) : Sl w v xs := by
  obtain ⟨h1, h2, h3, h4⟩ := ownsRow_val h
  have hn : xs.length = n := by simpa using h.1
  refine ⟨h1, by omega, by omega, by omega, h4, fun i hi => ⟨_, ⟨rfl, hI _ (List.getElem_mem hi)⟩, ?_⟩⟩
  have ha := ownsRow_at h (by simp; omega)
  intro j u hj
  rw [add_add]
  cases j with
  | zero => simp at hj; subst hj; exact ha _ _ (by simp [show i * Enc.n Int + 0 = i from Nat.mul_one i, hi])
  | succ j => simp at hj

/-- where the call's things lie; all of it stays -/
structure MF (W : World) (pr po pa pu pl pe : Addr) (l d B : Nat) : Prop where
  h : W.heap.size ≤ pu.block ∧ W.heap.size ≤ pl.block ∧ W.heap.size ≤ pe.block ∧ W.heap.size ≤ pr.block ∧ W.heap.size ≤ po.block ∧ W.heap.size ≤ pa.block ∧
    pu.block ≠ pl.block ∧ pu.block ≠ pe.block ∧ pl.block ≠ pe.block ∧ pu.block < pr.block ∧ pl.block < pr.block ∧ pe.block < pr.block ∧ pu.block < po.block ∧ pl.block < po.block ∧ pe.block < po.block ∧ pu.block < pa.block ∧ pl.block < pa.block ∧ pe.block < pa.block ∧
    pr.block ≠ pa.block ∧ po.block ≠ pa.block ∧ pr.block < d ∧ po.block < d ∧ pa.block < d ∧ d < l ∧ l < B

/-- how it stands: 'xs' the moments so far, 'ev' the fault -/
structure MS (W : World) (pr po pa pu pl pe : Addr) (l d B : Nat) (va vb : Value) (u : Int) (v : Value) (e : Int) (w : World) : Prop where
  ext : Ext W w
  r : Row w pr 52 [va]
  o : Row w po 53 [vb]
  u : Row w pu 3 [.int .i64 u]
  l : Row w pl 25 [v]
  e : Row w pe 34 [.int .i64 e]
  d : w.heap[d]? = some (.deferred (some []))
  B : B ≤ w.heap.size

theorem MS.keep {W w w' : World} {pr po pa pu pl pe : Addr} {l d B : Nat} {va vb : Value} {u : Int} {v : Value} {e : Int} {S : Nat → Prop} (hF : MF W pr po pa pu pl pe l d B) (h : MS W pr po pa pu pl pe l d B va vb u v e w) (hk : Keep S w w')
    (hS : ∀ k, k < B → k ≠ pa.block → k ≠ l → S k) : MS W pr po pa pu pl pe l d B va vb u v e w' := by
  have := hF.h
  refine ⟨hk.ext h.ext fun k hk => hS k (by omega) (by omega) (by omega), h.r.keep hk (hS _ ?_ ?_ ?_), h.o.keep hk (hS _ ?_ ?_ ?_), h.u.keep hk (hS _ ?_ ?_ ?_), h.l.keep hk (hS _ ?_ ?_ ?_), h.e.keep hk (hS _ ?_ ?_ ?_), (hk.block _ (by have := h.B; omega) (hS _ ?_ ?_ ?_)).trans h.d, Nat.le_trans h.B hk.size⟩
  all_goals omega
theorem MS.setl {W w w' : World} {pr po pa pu pl pe : Addr} {l d B : Nat} {va vb : Value} {u : Int} {v v' : Value} {e : Int} (hF : MF W pr po pa pu pl pe l d B) (h : MS W pr po pa pu pl pe l d B va vb u v e w) (hk : Keep (fun k => k ≠ pl.block) w w')
    (hr : Row w' pl 25 [v']) : MS W pr po pa pu pl pe l d B va vb u v' e w' := by
  have := hF.h
  refine ⟨hk.ext h.ext fun k hk => ?_, h.r.keep hk ?_, h.o.keep hk ?_, h.u.keep hk ?_, hr, h.e.keep hk ?_, (hk.block _ (by have := h.B; omega) ?_).trans h.d, Nat.le_trans h.B hk.size⟩
  all_goals omega
theorem MS.sete {W w w' : World} {pr po pa pu pl pe : Addr} {l d B : Nat} {va vb : Value} {u : Int} {v : Value} {e e' : Int} (hF : MF W pr po pa pu pl pe l d B) (h : MS W pr po pa pu pl pe l d B va vb u v e w) (hk : Keep (fun k => k ≠ pe.block) w w')
    (hr : Row w' pe 34 [.int .i64 e']) : MS W pr po pa pu pl pe l d B va vb u v e' w' := by
  have := hF.h
  refine ⟨hk.ext h.ext fun k hk => ?_, h.r.keep hk ?_, h.o.keep hk ?_, h.u.keep hk ?_, h.l.keep hk ?_, hr, (hk.block _ (by have := h.B; omega) ?_).trans h.d, Nat.le_trans h.B hk.size⟩
  all_goals omega

section
variable (W : World) (pr po pa pu pl pe : Addr) (l d B : Nat) (va vb : Value) (u : Int) (rc : Loop) (D : List Int)
def MJ0 (w : World) : Prop := MS W pr po pa pu pl pe l d B va vb u (.slice none 0 0) 0 w ∧ Lp l rc .ready none w
/-- the moments so far lie in a row of the call's own -/
def MJv (g : Nat) (v : Value) (pre : List Int) (w : World) : Prop := w.ownsRow (g + 1) 3 1 v pre.length (pre.map (Value.int .i64)) ∧ pre.length ≤ 2000 ∧ (∀ y ∈ pre, y < u) ∧ B ≤ g ∧ g < w.heap.size
def MJ (g : Nat) (pre : List Int) (w : World) : Prop := ∃ v, MS W pr po pa pu pl pe l d B va vb u v 0 w ∧ Lp l rc .ready none w ∧ MJv B u g v pre w
def MJx (w : World) : Prop := (∃ g v pre x r, MS W pr po pa pu pl pe l d B va vb u v 0 w ∧ Lp l rc .done (some (.exit 0)) w ∧ MJv B u g v pre w ∧ D = pre ++ x :: r ∧ u ≤ x) ∨
  (MS W pr po pa pu pl pe l d B va vb u (.slice none 0 0) 2 w ∧ Lp l rc .done (some .ret) w ∧ ∃ pre x r, pre.length = 2000 ∧ D = pre ++ x :: r ∧ (∀ y ∈ pre, y < u) ∧ x < u)
end
theorem MJv.keep {pa : Addr} {B : Nat} {u : Int} {g : Nat} {v : Value} {pre : List Int} {w w' : World} {S : Nat → Prop} (h : MJv B u g v pre w) (hk : Keep S w w') (hS : ∀ k, g < k → S k) : MJv B u g v pre w' :=
  ⟨ownsRow_blk h.1 fun g' hg' => hk.block _ (h.1.lt g' hg').2 (hS _ (h.1.lt g' hg').1), h.2.1, h.2.2.1, h.2.2.2.1, Nat.lt_of_lt_of_le h.2.2.2.2 hk.size⟩
theorem MJ_mk {W : World} {pr po pa pu pl pe : Addr} {l d B : Nat} {va vb : Value} {u : Int} {rc : Loop} {D : List Int} {yv : Value} (hF : MF W pr po pa pu pl pe l d B)
    (h : ∀ g pre w x r, MJ W pr po pa pu pl pe l d B va vb u rc g pre w → D = pre ++ x :: r → CallW Try.prog yv [.int .i64 x] w fun v w' => ∃ b, v = .bool b ∧ Keep (fun k => k = pa.block ∨ k = g) w w' ∧ if b = true then MJ W pr po pa pu pl pe l d B va vb u rc g (pre ++ [x]) w' else MJx W pr po pa pu pl pe l d B va vb u rc D w') :
    DepJ W pr po pa va vb yv D (MJ0 W pr po pa pu pl pe l d B va vb u rc) (MJ W pr po pa pu pl pe l d B va vb u rc) (MJx W pr po pa pu pl pe l d B va vb u rc D) := by
  have hF' := hF.h
  refine ⟨fun w ⟨hM, hl⟩ => ⟨hM.ext, hM.r.at_, hM.o.at_⟩, fun w w' g ⟨hM, hl⟩ hw hg1 hg2 => ⟨_, hM.keep hF (Keep.of_ext (S := fun _ => True) hw) (fun _ _ _ _ => trivial), hl.keep (Keep.of_ext (S := fun _ => True) hw) trivial, ?_⟩,
    fun g pre w ⟨v, hM, hl, ho⟩ => ⟨hM.ext, hM.r.at_, hM.o.at_⟩, fun g pre w w' ⟨v, hM, hl, ho⟩ hk => ⟨v, hM.keep hF hk fun k h1 h2 _ => ?_, hl.keep hk ?_, MJv.keep (pa := pa) ho hk fun k hk => ?_⟩, h⟩
  · exact ⟨World.ownsRow_nil _ _ _ _, by simp, by simp, by have := hM.B; omega, hg2⟩
  · have := ho.2.2.2.1; omega
  · have := ho.2.2.2.1; omega
  · have := ho.2.2.2.1; omega
theorem momRet {w w' : World} {ms : List Int × Int} {xs : List Int} {e : Int} {v : Value} (hm : ms = (xs, e)) (hx : Ext w w') (hs : Sl w' v xs) : MomRet w ms (.returned (.tuple #[v, .int .i64 e])) w' := by
  subst hm; exact ⟨v, rfl, hx, hs⟩

theorem calMoments (va vb : Value) (rules : List Rule) (off : List Gap) (a b : Int) (w : World) (hx : Sl w va rules) (hy : Sl w vb off) :
    Calls Try.prog 86 #[va, vb, .int .i64 a, .int .i64 b] w (MomRet w (Cal.moments rules off a b)) := by
  refine Calls_of_Run (args := [va, vb, .int .i64 a, .int .i64 b]) (n := 44) (rs := [.cell 8 25, .cell 9 34]) Try.func86 rfl rfl rfl (by simp) ?_
  (repeat first | with_reducible refine Run_seq ?_ | with_reducible refine Run_skip ?_ | with_reducible refine Run_scope ?_ | with_reducible refine Run_label ?_ | with_reducible refine Run_sc ?_ | with_reducible refine Run_block ?_ | with_reducible refine Run_blk ?_ | with_reducible refine Run_exit rfl ?_ | (refine Run_region (by kernel_rfl) fun _ => ?_; simp only [KS, Nat.reduceAdd, Nat.reduceMul, Nat.reduceEqDiff, ↓reduceIte, UT]) | refine And.intro (by first | assumption | omega | (intros; omega)) ?_)
  refine SemW_box fun pu w1 h1 => ?_
  try simp only [KS, Nat.reduceAdd, Nat.reduceMul, Nat.reduceEqDiff, ↓reduceIte, UT]
  refine SemW_allocT ti25 fun pl w2 h2 => SemW_allocT ti34 fun pe w3 h3 => ?_
  have u3 := h1.row.ext (h2.ext.trans h3.ext)
  have l3 := h2.row.ext h3.ext
  have e3 := h3.row
  have x3 := h1.ext.trans (h2.ext.trans h3.ext)
  have b1 := h1.blk
  have b2 := h2.blk
  have b3 := h3.blk
  have s1 := h1.size
  have s2 := h2.size
  have s3 := h3.size
  simp only [KS, Nat.reduceAdd, Nat.reduceMul, Nat.reduceEqDiff, ↓reduceIte, UT] at u3 l3 e3
  clear h1 h2 h3
  try simp only [KS, Nat.reduceAdd, Nat.reduceMul, Nat.reduceEqDiff, ↓reduceIte, UT]
  (repeat first | with_reducible refine Run_seq ?_ | with_reducible refine Run_skip ?_ | with_reducible refine Run_scope ?_ | with_reducible refine Run_label ?_ | with_reducible refine Run_sc ?_ | with_reducible refine Run_block ?_ | with_reducible refine Run_blk ?_ | with_reducible refine Run_exit rfl ?_ | (refine Run_region (by kernel_rfl) fun _ => ?_; simp only [KS, Nat.reduceAdd, Nat.reduceMul, Nat.reduceEqDiff, ↓reduceIte, UT]) | (refine Run_drawn mixed (by kernel_rfl) (by kernel_rfl) fun _ => ?_; simp only [KS, Nat.reduceAdd, Nat.reduceMul, Nat.reduceEqDiff, ↓reduceIte, UT]) | refine And.intro (by first | assumption | omega | (intros; omega)) ?_)
  refine CallW_pure call43 (calCheck va vb rules off w3 (hx.ext x3) (hy.ext x3)) fun w4 hw4 => ?_
  try simp only [KS, Nat.reduceAdd, Nat.reduceMul, Nat.reduceEqDiff, ↓reduceIte, UT]
  refine SemW_set1 cells34 (e3.ext hw4) rfl rfl fun w5 e5 k5 s5 => ?_
  simp only [KS, Nat.reduceAdd, Nat.reduceMul, Nat.reduceEqDiff, ↓reduceIte, UT] at e5
  have x5 : Ext w w5 := Keep.ext (x3.trans hw4) k5 fun k hk => by omega
  have u5 := (u3.ext hw4).keep k5 (by omega)
  have l5 := (l3.ext hw4).keep k5 (by omega)
  have s5' : w.heap.size + 3 ≤ w5.heap.size := by have := hw4.size; omega
  obtain ⟨e51, e52⟩ := at1 e5.at_
  try simp only [KS, Nat.reduceAdd, Nat.reduceMul, Nat.reduceEqDiff, ↓reduceIte, UT]
  (repeat first | with_reducible refine Run_seq ?_ | with_reducible refine Run_skip ?_ | with_reducible refine Run_scope ?_ | with_reducible refine Run_label ?_ | with_reducible refine Run_sc ?_ | with_reducible refine Run_block ?_ | with_reducible refine Run_blk ?_ | with_reducible refine Run_exit rfl ?_ | (refine Run_region (by kernel_rfl) fun _ => ?_; simp only [KS, Nat.reduceAdd, Nat.reduceMul, Nat.reduceEqDiff, ↓reduceIte, UT, e51, e52]) | (refine Run_drawn mixed (by kernel_rfl) (by kernel_rfl) fun _ => ?_; simp only [KS, Nat.reduceAdd, Nat.reduceMul, Nat.reduceEqDiff, ↓reduceIte, UT, e51, e52]) | refine And.intro (by first | assumption | omega | (intros; omega)) ?_)
  refine Run_cond (fun _ => rfl) (fun h => ?_) (fun h => ?_)
  · simp at h
    (repeat first | with_reducible refine Run_seq ?_ | with_reducible refine Run_skip ?_ | with_reducible refine Run_scope ?_ | with_reducible refine Run_label ?_ | with_reducible refine Run_sc ?_ | with_reducible refine Run_block ?_ | with_reducible refine Run_blk ?_ | with_reducible refine Run_exit rfl ?_ | (refine Run_region (by kernel_rfl) fun _ => ?_; simp only [KS, Nat.reduceAdd, Nat.reduceMul, Nat.reduceEqDiff, ↓reduceIte, UT]) | refine And.intro (by first | assumption | omega | (intros; omega)) ?_)
    refine Run_any (.alt 0 (.alt 1 (.alt 2 .done .stop) .stop) (.alt 1 (.alt 0 (.alt 2 .done .stop) .stop) .stop)) mixed (by kernel_rfl) fun w6 hw6 _ => ?_
    simp only [KS, Nat.reduceAdd, Nat.reduceMul, Nat.reduceEqDiff, ↓reduceIte, UT, et]
    have e6 := e5.ext hw6
    have l6 := l5.ext hw6
    obtain ⟨e61, e62⟩ := at1 e6.at_
    refine ⟨fun _ => ⟨e62, fun _ => ?_⟩, fun _ => ?_⟩
    · refine SemW_set1 cells25 l6 rfl rfl fun w7 l7 k7 s7 _ => ?_
      simp only [KS, Nat.reduceAdd, Nat.reduceMul, Nat.reduceEqDiff, ↓reduceIte, UT] at l7
      refine SemW_set1 cells34 (e6.keep k7 (by omega)) (by rw [e61]; rfl) (by rw [e61]; rfl) fun w8 e8 k8 s8 => ?_
      rw [e61] at e8
      simp only [KS, Nat.reduceAdd, Nat.reduceMul, Nat.reduceEqDiff, ↓reduceIte, UT] at e8
      refine Run_ret ?_
      simp only [Rets, RetM, resV, fnd, oneOr, ↓reduceIte]
      refine ⟨_, _, rfl, loadVar_row rfl (l7.keep k8 (by omega)), _, _, rfl, loadVar_row rfl e8, momRet (xs := []) (by simp [Cal.moments, h]) (Keep.ext (Keep.ext (x5.trans hw6) k7 fun k hk => by omega) k8 fun k hk => by omega) (Sl.nil _)⟩
    · refine SemW_set1 cells25 l6 rfl rfl fun w7 l7 k7 s7 _ => ?_
      simp only [KS, Nat.reduceAdd, Nat.reduceMul, Nat.reduceEqDiff, ↓reduceIte, UT] at l7
      have e7 := e6.keep k7 (by omega)
      obtain ⟨e71, e72⟩ := at1 e7.at_
      refine ⟨e72, fun _ => ?_⟩
      refine SemW_set1 cells34 e7 (by rw [e71]; rfl) (by rw [e71]; rfl) fun w8 e8 k8 s8 => ?_
      rw [e71] at e8
      simp only [KS, Nat.reduceAdd, Nat.reduceMul, Nat.reduceEqDiff, ↓reduceIte, UT] at e8
      refine Run_ret ?_
      simp only [Rets, RetM, resV, fnd, oneOr, ↓reduceIte]
      refine ⟨_, _, rfl, loadVar_row rfl (l7.keep k8 (by omega)), _, _, rfl, loadVar_row rfl e8, momRet (xs := []) (by simp [Cal.moments, h]) (Keep.ext (Keep.ext (x5.trans hw6) k7 fun k hk => by omega) k8 fun k hk => by omega) (Sl.nil _)⟩
  · simp at h
    have hok := Cal.chk_ok h
    rw [h] at e5
    obtain ⟨u51, u52⟩ := at1 u5.at_
    (repeat first | with_reducible refine Run_seq ?_ | with_reducible refine Run_skip ?_ | with_reducible refine Run_scope ?_ | with_reducible refine Run_label ?_ | with_reducible refine Run_sc ?_ | with_reducible refine Run_block ?_ | with_reducible refine Run_blk ?_ | with_reducible refine Run_exit rfl ?_ | (refine Run_region (by kernel_rfl) fun _ => ?_; simp only [KS, Nat.reduceAdd, Nat.reduceMul, Nat.reduceEqDiff, ↓reduceIte, UT, u51, u52]) | (refine Run_drawn mixed (by kernel_rfl) (by kernel_rfl) fun _ => ?_; simp only [KS, Nat.reduceAdd, Nat.reduceMul, Nat.reduceEqDiff, ↓reduceIte, UT, u51, u52]) | refine And.intro (by first | assumption | omega | (intros; omega)) ?_)
    refine Run_cond (fun _ => rfl) (fun h2 => ?_) (fun h2 => ?_)
    · simp at h2
      have h4 : a < 0 ∨ b < a ∨ 2097152 < b := by omega
      (repeat first | with_reducible refine Run_seq ?_ | with_reducible refine Run_skip ?_ | with_reducible refine Run_scope ?_ | with_reducible refine Run_label ?_ | with_reducible refine Run_sc ?_ | with_reducible refine Run_block ?_ | with_reducible refine Run_blk ?_ | with_reducible refine Run_exit rfl ?_ | (refine Run_region (by kernel_rfl) fun _ => ?_; simp only [KS, Nat.reduceAdd, Nat.reduceMul, Nat.reduceEqDiff, ↓reduceIte, UT]) | (refine Run_drawn mixed (by kernel_rfl) (by kernel_rfl) fun _ => ?_; simp only [KS, Nat.reduceAdd, Nat.reduceMul, Nat.reduceEqDiff, ↓reduceIte, UT]) | refine And.intro (by first | assumption | omega | (intros; omega)) ?_)
      refine SemW_set1 cells25 l5 rfl rfl fun w7 l7 k7 s7 => ?_
      simp only [KS, Nat.reduceAdd, Nat.reduceMul, Nat.reduceEqDiff, ↓reduceIte, UT] at l7
      try simp only [KS, Nat.reduceAdd, Nat.reduceMul, Nat.reduceEqDiff, ↓reduceIte, UT]
      refine SemW_set1 cells34 (e5.keep k7 (by omega)) rfl rfl fun w8 e8 k8 s8 => ?_
      simp only [KS, Nat.reduceAdd, Nat.reduceMul, Nat.reduceEqDiff, ↓reduceIte, UT] at e8
      try simp only [KS, Nat.reduceAdd, Nat.reduceMul, Nat.reduceEqDiff, ↓reduceIte, UT]
      (repeat first | with_reducible refine Run_seq ?_ | with_reducible refine Run_skip ?_ | with_reducible refine Run_scope ?_ | with_reducible refine Run_label ?_ | with_reducible refine Run_sc ?_ | with_reducible refine Run_block ?_ | with_reducible refine Run_blk ?_ | with_reducible refine Run_exit rfl ?_ | (refine Run_region (by kernel_rfl) fun _ => ?_; simp only [KS, Nat.reduceAdd, Nat.reduceMul, Nat.reduceEqDiff, ↓reduceIte, UT]) | (refine Run_drawn mixed (by kernel_rfl) (by kernel_rfl) fun _ => ?_; simp only [KS, Nat.reduceAdd, Nat.reduceMul, Nat.reduceEqDiff, ↓reduceIte, UT]) | refine And.intro (by first | assumption | omega | (intros; omega)) ?_)
      refine Run_ret ?_
      simp only [Rets, RetM, resV, fnd, oneOr, ↓reduceIte]
      refine ⟨_, _, rfl, loadVar_row rfl (l7.keep k8 (by omega)), _, _, rfl, loadVar_row rfl e8, momRet (xs := []) (by simp [Cal.moments, h, h4]) (Keep.ext (Keep.ext x5 k7 fun k hk => by omega) k8 fun k hk => by omega) (Sl.nil _)⟩
    · simp at h2
      have h4 : ¬ (a < 0 ∨ b < a ∨ 2097152 < b) := by omega
      (repeat first | with_reducible refine Run_seq ?_ | with_reducible refine Run_skip ?_ | with_reducible refine Run_scope ?_ | with_reducible refine Run_label ?_ | with_reducible refine Run_sc ?_ | with_reducible refine Run_block ?_ | with_reducible refine Run_blk ?_ | with_reducible refine Run_exit rfl ?_ | (refine Run_region (by kernel_rfl) fun _ => ?_; simp only [KS, Nat.reduceAdd, Nat.reduceMul, Nat.reduceEqDiff, ↓reduceIte, UT]) | (refine Run_drawn mixed (by kernel_rfl) (by kernel_rfl) fun _ => ?_; simp only [KS, Nat.reduceAdd, Nat.reduceMul, Nat.reduceEqDiff, ↓reduceIte, UT]) | refine And.intro (by first | assumption | omega | (intros; omega)) ?_)
      refine CallW_gen call88 (calDepartures va vb a w5 (isS_cells hx.s) (isS_cells hy.s)) fun e w6 ⟨pr, po, pa, he, hD⟩ => ⟨_, he, ?_⟩
      try simp only [KS, Nat.reduceAdd, Nat.reduceMul, Nat.reduceEqDiff, ↓reduceIte, UT]
      (repeat first | with_reducible refine Run_seq ?_ | with_reducible refine Run_skip ?_ | with_reducible refine Run_scope ?_ | with_reducible refine Run_label ?_ | with_reducible refine Run_sc ?_ | with_reducible refine Run_block ?_ | with_reducible refine Run_blk ?_ | with_reducible refine Run_exit rfl ?_ | (refine Run_region (by kernel_rfl) fun _ => ?_; simp only [KS, Nat.reduceAdd, Nat.reduceMul, Nat.reduceEqDiff, ↓reduceIte, UT]) | (refine Run_drawn mixed (by kernel_rfl) (by kernel_rfl) fun _ => ?_; simp only [KS, Nat.reduceAdd, Nat.reduceMul, Nat.reduceEqDiff, ↓reduceIte, UT]) | refine And.intro (by first | assumption | omega | (intros; omega)) ?_)
      refine Run_range (fun _ => rfl) call90 fun rc w7 hps has hbd hT hw7 => ?_
      obtain ⟨hx67, hs7, hl7, hd7⟩ := range_start hw7
      have hF : MF w pr po pa pu pl pe (w6.heap.size + 1) w6.heap.size (w6.heap.size + 2) := by
        have q1 := hD.nr
        have q2 := hD.no
        have q3 := hD.na
        have q4 := hD.ra
        have q5 := hD.oa
        have q6 := hD.r.lt
        have q7 := hD.o.lt
        have q8 := hD.a.lt
        exact ⟨by omega⟩
      have hM7 : MS w pr po pa pu pl pe (w6.heap.size + 1) w6.heap.size (w6.heap.size + 2) va vb b (.slice none 0 0) 0 w7 :=
        ⟨x5.trans (hD.ext.trans hx67), hD.r.ext hx67, hD.o.ext hx67, (u5.ext hD.ext).ext hx67, (l5.ext hD.ext).ext hx67, (e5.ext hD.ext).ext hx67, hd7, by omega⟩
      have hF' := hF.h
      have hJ : DepJ w pr po pa va vb (.func (.yield (w6.heap.size + 1)) #[] #[]) (Cal.deps rules off a 2097152)
          (MJ0 w pr po pa pu pl pe (w6.heap.size + 1) w6.heap.size (w6.heap.size + 2) va vb b rc) (MJ w pr po pa pu pl pe (w6.heap.size + 1) w6.heap.size (w6.heap.size + 2) va vb b rc) (MJx w pr po pa pu pl pe (w6.heap.size + 1) w6.heap.size (w6.heap.size + 2) va vb b rc (Cal.deps rules off a 2097152)) := by
        refine MJ_mk hF fun g pre w8 x r ⟨v, hM, hl, ho, hlen, hlt, hBg, hgs⟩ hr => ?_
        have hM9 := hM.keep hF (lpSet_keep (l := w6.heap.size + 1) (rc := rc) (st := .busy) (pd := none)) fun k _ _ h => h
        have hl9 := hl.set .busy none
        obtain ⟨u91, u92⟩ := at1 hM9.u.at_
        obtain ⟨l91, l92⟩ := at1 hM9.l.at_
        have ho9 := ownsRow_blk ho (w' := lpSet w8 (w6.heap.size + 1) rc .busy none) fun g' hg' => lpSet_keep.block _ (ho.lt g' hg').2 (by have := (ho.lt g' hg').1; omega)
        obtain ⟨i1, i2, i3, i4⟩ := ownsRow_val ho9
        have hs9 : (lpSet w8 (w6.heap.size + 1) rc .busy none).heap.size = w8.heap.size := lpSet_size
        have hk9 : Keep (fun k => k ≠ w6.heap.size + 1) w8 (lpSet w8 (w6.heap.size + 1) rc .busy none) := lpSet_keep
        have k9 : Keep (fun k => k = pa.block ∨ k = g) w8 (lpSet w8 (w6.heap.size + 1) rc .busy none) := lpSet_keep.mono fun k _ hk => by omega
        simp only [CallW, Array.empty_append, Array.append_empty]
        refine yield_round hl (ps := [32]) hps has hbd hT rfl (by simp) ?_
        simp only [zipL]
        (repeat first | with_reducible refine Run_seq ?_ | with_reducible refine Run_skip ?_ | with_reducible refine Run_scope ?_ | with_reducible refine Run_label ?_ | with_reducible refine Run_sc ?_ | with_reducible refine Run_block ?_ | with_reducible refine Run_blk ?_ | with_reducible refine Run_exit rfl ?_ | (refine Run_region (by kernel_rfl) fun _ => ?_; simp only [KS, Nat.reduceAdd, Nat.reduceMul, Nat.reduceEqDiff, ↓reduceIte, UT]) | (refine Run_drawn mixed (by kernel_rfl) (by kernel_rfl) fun _ => ?_; simp only [KS, Nat.reduceAdd, Nat.reduceMul, Nat.reduceEqDiff, ↓reduceIte, UT]) | refine And.intro (by first | assumption | omega | (intros; omega)) ?_)
        refine Run_lp ⟨hl, ?_⟩
        generalize lpSet w8 (w6.heap.size + 1) rc .busy none = w9 at *
        (repeat first | with_reducible refine Run_seq ?_ | with_reducible refine Run_skip ?_ | with_reducible refine Run_scope ?_ | with_reducible refine Run_label ?_ | with_reducible refine Run_sc ?_ | with_reducible refine Run_block ?_ | with_reducible refine Run_blk ?_ | with_reducible refine Run_exit rfl ?_ | (refine Run_region (by kernel_rfl) fun _ => ?_; simp only [KS, Nat.reduceAdd, Nat.reduceMul, Nat.reduceEqDiff, ↓reduceIte, UT, u91, u92]) | (refine Run_drawn mixed (by kernel_rfl) (by kernel_rfl) fun _ => ?_; simp only [KS, Nat.reduceAdd, Nat.reduceMul, Nat.reduceEqDiff, ↓reduceIte, UT, u91, u92]) | refine And.intro (by first | assumption | omega | (intros; omega)) ?_)
        refine Run_cond (fun _ => rfl) (fun h5 => ?_) (fun h5 => ?_)
        · simp at h5
          (repeat first | with_reducible refine Run_seq ?_ | with_reducible refine Run_skip ?_ | with_reducible refine Run_scope ?_ | with_reducible refine Run_label ?_ | with_reducible refine Run_sc ?_ | with_reducible refine Run_block ?_ | with_reducible refine Run_blk ?_ | with_reducible refine Run_exit rfl ?_ | (refine Run_region (by kernel_rfl) fun _ => ?_; simp only [KS, Nat.reduceAdd, Nat.reduceMul, Nat.reduceEqDiff, ↓reduceIte, UT]) | (refine Run_drawn mixed (by kernel_rfl) (by kernel_rfl) fun _ => ?_; simp only [KS, Nat.reduceAdd, Nat.reduceMul, Nat.reduceEqDiff, ↓reduceIte, UT]) | refine And.intro (by first | assumption | omega | (intros; omega)) ?_)
          refine Run_out rfl ⟨hl9, false, rfl, k9.trans (lpSet_keep.mono fun k _ hk => by omega), ?_⟩
          simp only [Bool.false_eq_true, if_false]
          exact .inl ⟨g, v, pre, x, r, hM9.keep hF lpSet_keep fun k _ _ h => h, hl9.set _ _, MJv.keep (pa := pa) (MJv.keep (pa := pa) ⟨ho, hlen, hlt, hBg, hgs⟩ hk9 fun k hk => by omega) lpSet_keep fun k hk => by omega, hr, h5⟩
        · simp at h5
          (repeat first | with_reducible refine Run_seq ?_ | with_reducible refine Run_skip ?_ | with_reducible refine Run_scope ?_ | with_reducible refine Run_label ?_ | with_reducible refine Run_sc ?_ | with_reducible refine Run_block ?_ | with_reducible refine Run_blk ?_ | with_reducible refine Run_exit rfl ?_ | (refine Run_region (by kernel_rfl) fun _ => ?_; simp only [KS, Nat.reduceAdd, Nat.reduceMul, Nat.reduceEqDiff, ↓reduceIte, UT, l91, l92, i1, i2]) | (refine Run_drawn mixed (by kernel_rfl) (by kernel_rfl) fun _ => ?_; simp only [KS, Nat.reduceAdd, Nat.reduceMul, Nat.reduceEqDiff, ↓reduceIte, UT, l91, l92, i1, i2]) | refine And.intro (by first | assumption | omega | (intros; omega)) ?_)
          refine Run_cond (fun _ => rfl) (fun h6 => ?_) (fun h6 => ?_)
          · simp at h6
            (repeat first | with_reducible refine Run_seq ?_ | with_reducible refine Run_skip ?_ | with_reducible refine Run_scope ?_ | with_reducible refine Run_label ?_ | with_reducible refine Run_sc ?_ | with_reducible refine Run_block ?_ | with_reducible refine Run_blk ?_ | with_reducible refine Run_exit rfl ?_ | (refine Run_region (by kernel_rfl) fun _ => ?_; simp only [KS, Nat.reduceAdd, Nat.reduceMul, Nat.reduceEqDiff, ↓reduceIte, UT]) | (refine Run_drawn mixed (by kernel_rfl) (by kernel_rfl) fun _ => ?_; simp only [KS, Nat.reduceAdd, Nat.reduceMul, Nat.reduceEqDiff, ↓reduceIte, UT]) | refine And.intro (by first | assumption | omega | (intros; omega)) ?_)
            refine SemW_set1 cells25 hM9.l rfl rfl fun w10 l10 k10 s10 => ?_
            have hM10 := hM9.setl hF k10 l10
            try simp only [KS, Nat.reduceAdd, Nat.reduceMul, Nat.reduceEqDiff, ↓reduceIte, UT]
            refine SemW_set1 cells34 hM10.e rfl rfl fun w11 e11 k11 s11 => ?_
            have hM11 := hM10.sete hF k11 e11
            have hl11 := (hl9.keep k10 (by omega)).keep k11 (by omega)
            try simp only [KS, Nat.reduceAdd, Nat.reduceMul, Nat.reduceEqDiff, ↓reduceIte, UT]
            (repeat first | with_reducible refine Run_seq ?_ | with_reducible refine Run_skip ?_ | with_reducible refine Run_scope ?_ | with_reducible refine Run_label ?_ | with_reducible refine Run_sc ?_ | with_reducible refine Run_block ?_ | with_reducible refine Run_blk ?_ | with_reducible refine Run_exit rfl ?_ | (refine Run_region (by kernel_rfl) fun _ => ?_; simp only [KS, Nat.reduceAdd, Nat.reduceMul, Nat.reduceEqDiff, ↓reduceIte, UT]) | (refine Run_drawn mixed (by kernel_rfl) (by kernel_rfl) fun _ => ?_; simp only [KS, Nat.reduceAdd, Nat.reduceMul, Nat.reduceEqDiff, ↓reduceIte, UT]) | refine And.intro (by first | assumption | omega | (intros; omega)) ?_)
            refine Run_ret ⟨hl11, false, rfl, ((k9.trans (k10.mono fun k _ hk => by omega)).trans (k11.mono fun k _ hk => by omega)).trans (lpSet_keep.mono fun k _ hk => by omega), ?_⟩
            simp only [Bool.false_eq_true, if_false]
            exact .inr ⟨hM11.keep hF lpSet_keep fun k _ _ h => h, hl11.set _ _, pre, x, r, by omega, hr, hlt, h5⟩
          · simp at h6
            (repeat first | with_reducible refine Run_seq ?_ | with_reducible refine Run_skip ?_ | with_reducible refine Run_scope ?_ | with_reducible refine Run_label ?_ | with_reducible refine Run_sc ?_ | with_reducible refine Run_block ?_ | with_reducible refine Run_blk ?_ | with_reducible refine Run_exit rfl ?_ | (refine Run_region (by kernel_rfl) fun _ => ?_; simp only [KS, Nat.reduceAdd, Nat.reduceMul, Nat.reduceEqDiff, ↓reduceIte, UT, l91, l92]) | (refine Run_drawn mixed (by kernel_rfl) (by kernel_rfl) fun _ => ?_; simp only [KS, Nat.reduceAdd, Nat.reduceMul, Nat.reduceEqDiff, ↓reduceIte, UT, l91, l92]) | refine And.intro (by first | assumption | omega | (intros; omega)) ?_)
            refine SemW_append1o (X := .int .i64 x) Try.underlying25 ti3 rfl (by decide) ho9 (by omega) rfl rfl (by unfold maxLen; omega) fun s v' w10 ho10 hg10 => ?_
            have k10 : Keep (fun k => k < g + 1) w9 w10 := Keep.grown hg10 fun k hk => by have := (ho9.lt k hk).1; omega
            have hM10 := hM9.keep hF k10 fun k _ _ _ => by omega
            have hl10 := hl9.keep k10 (by omega)
            obtain ⟨j1, j2, j3, j4⟩ := ownsRow_val ho10
            try simp only [KS, Nat.reduceAdd, Nat.reduceMul, Nat.reduceEqDiff, ↓reduceIte, UT]
            refine SemW_set1 cells25 hM10.l (isS_one j1).1 (isS_one j1).2 fun w11 l11 k11 s11 => ?_
            rw [isS_cells j1] at l11
            have hM11 := hM10.setl hF k11 l11
            have hl11 := hl10.keep k11 (by omega)
            have hs10 := k10.size
            have ho11 : MJv (w6.heap.size + 2) b g v' (pre ++ [x]) w11 := by
              refine ⟨?_, by simp; omega, fun y hy => ?_, hBg, by omega⟩
              · have := ownsRow_blk ho10 (w' := w11) fun g' hg' => k11.block _ (ho10.lt g' hg').2 (by have := (ho10.lt g' hg').1; omega)
                simpa [Value.cells] using this
              · rcases List.mem_append.1 hy with hy | hy
                · exact hlt y hy
                · simp at hy; subst hy; exact h5
            try simp only [KS, Nat.reduceAdd, Nat.reduceMul, Nat.reduceEqDiff, ↓reduceIte, UT]
            (repeat first | with_reducible refine Run_seq ?_ | with_reducible refine Run_skip ?_ | with_reducible refine Run_scope ?_ | with_reducible refine Run_label ?_ | with_reducible refine Run_sc ?_ | with_reducible refine Run_block ?_ | with_reducible refine Run_blk ?_ | with_reducible refine Run_exit rfl ?_ | (refine Run_region (by kernel_rfl) fun _ => ?_; simp only [KS, Nat.reduceAdd, Nat.reduceMul, Nat.reduceEqDiff, ↓reduceIte, UT]) | (refine Run_drawn mixed (by kernel_rfl) (by kernel_rfl) fun _ => ?_; simp only [KS, Nat.reduceAdd, Nat.reduceMul, Nat.reduceEqDiff, ↓reduceIte, UT]) | refine And.intro (by first | assumption | omega | (intros; omega)) ?_)
            refine Run_nil ⟨hl11, true, rfl, ((k9.trans (k10.mono fun k _ hk => by omega)).trans (k11.mono fun k _ hk => by omega)).trans (lpSet_keep.mono fun k _ hk => by omega), ?_⟩
            simp only [if_true]
            exact ⟨v', hM11.keep hF lpSet_keep fun k _ _ h => h, hl11.set _ _, MJv.keep (pa := pa) ho11 lpSet_keep fun k hk => by omega⟩
      refine (depIter rules off hx hy hok a hJ (by omega) (by omega) w7 (hD.a.ext hx67) ⟨hM7, hl7⟩).mono fun e w8 ⟨he, hend⟩ => ⟨_, he, ?_⟩
      rcases hend with (⟨g, v, pre, x, r, hM, hl, ho, hr, hx9⟩ | ⟨hM, hl, pre, x, r, hlen, hr, hlt, hx9⟩) | ⟨g, v, hM, hl, ho⟩
      · refine ⟨.done, some (.exit 0), hl, by simp, ?_⟩
        obtain ⟨_, hlen, hlt, hBg, hgs⟩ := id ho
        have hdep := deps_cut (a := a) (u := b) (b := 2097152) (by omega) (by omega) hr hlt hx9
        simp only
        have ho9 := MJv.keep (pa := pa) ho (lpSet_keep (l := w6.heap.size + 1) (rc := rc) (st := .exhausted) (pd := some (.exit 0))) fun k hk => by omega
        have hM9 := hM.keep hF (lpSet_keep (l := w6.heap.size + 1) (rc := rc) (st := .exhausted) (pd := some (.exit 0))) fun k _ _ h => h
        obtain ⟨l91, l92⟩ := at1 hM9.l.at_
        obtain ⟨i1, i2, i3, i4⟩ := ownsRow_val ho9.1
        (repeat first | with_reducible refine Run_seq ?_ | with_reducible refine Run_skip ?_ | with_reducible refine Run_scope ?_ | with_reducible refine Run_label ?_ | with_reducible refine Run_sc ?_ | with_reducible refine Run_block ?_ | with_reducible refine Run_blk ?_ | with_reducible refine Run_exit rfl ?_ | (refine Run_region (by kernel_rfl) fun _ => ?_; simp only [KS, Nat.reduceAdd, Nat.reduceMul, Nat.reduceEqDiff, ↓reduceIte, UT, l91, l92]) | (refine Run_drawn mixed (by kernel_rfl) (by kernel_rfl) fun _ => ?_; simp only [KS, Nat.reduceAdd, Nat.reduceMul, Nat.reduceEqDiff, ↓reduceIte, UT, l91, l92]) | refine And.intro (by first | assumption | omega | (intros; omega)) ?_)
        refine SemW_set1 cells25 hM9.l (isS_one i1).1 (isS_one i1).2 fun w10 l10 k10 s10 => ?_
        rw [isS_cells i1] at l10
        have hM10 := hM9.setl hF k10 l10
        have ho10 := MJv.keep (pa := pa) ho9 k10 fun k hk => by omega
        try simp only [KS, Nat.reduceAdd, Nat.reduceMul, Nat.reduceEqDiff, ↓reduceIte, UT]
        refine SemW_set1 cells34 hM10.e rfl rfl fun w11 e11 k11 s11 => ?_
        have hM11 := hM10.sete hF k11 e11
        have ho11 := MJv.keep (pa := pa) ho10 k11 fun k hk => by omega
        try simp only [KS, Nat.reduceAdd, Nat.reduceMul, Nat.reduceEqDiff, ↓reduceIte, UT]
        (repeat first | with_reducible refine Run_seq ?_ | with_reducible refine Run_skip ?_ | with_reducible refine Run_scope ?_ | with_reducible refine Run_label ?_ | with_reducible refine Run_sc ?_ | with_reducible refine Run_block ?_ | with_reducible refine Run_blk ?_ | with_reducible refine Run_exit rfl ?_ | (refine Run_region (by kernel_rfl) fun _ => ?_; simp only [KS, Nat.reduceAdd, Nat.reduceMul, Nat.reduceEqDiff, ↓reduceIte, UT]) | (refine Run_drawn mixed (by kernel_rfl) (by kernel_rfl) fun _ => ?_; simp only [KS, Nat.reduceAdd, Nat.reduceMul, Nat.reduceEqDiff, ↓reduceIte, UT]) | refine And.intro (by first | assumption | omega | (intros; omega)) ?_)
        refine Run_ret ?_
        simp only [Rets, RetM, resV, fnd, oneOr, ↓reduceIte]
        refine ⟨hM11.d, _, _, rfl, loadVar_row rfl (hM11.l.keep putObj_keep (by omega)), _, _, rfl, loadVar_row rfl (hM11.e.keep putObj_keep (by omega)), momRet (xs := pre) ?_ (Keep.ext hM11.ext putObj_keep fun k hk => by omega) (own_ints (MJv.keep (pa := pa) ho11 putObj_keep fun k hk => by omega).1 ?_ ?_)⟩
        · unfold Cal.moments
          rw [if_neg (by simp [h]), if_neg h4, hdep, if_neg (by omega)]
        · intro y hy
          rw [← hdep] at hy
          exact I64_dep (by omega) (by omega) (by omega) hy
        · omega
      · refine ⟨.done, some .ret, hl, by simp, ?_⟩
        have hM9 := hM.keep hF (lpSet_keep (l := w6.heap.size + 1) (rc := rc) (st := .exhausted) (pd := some .ret)) fun k _ _ h => h
        simp only
        refine Run_ret ?_
        simp only [Rets, RetM, resV, fnd, oneOr, ↓reduceIte]
        refine ⟨hM9.d, _, _, rfl, loadVar_row rfl (hM9.l.keep putObj_keep (by omega)), _, _, rfl, loadVar_row rfl (hM9.e.keep putObj_keep (by omega)), momRet (xs := []) ?_ (Keep.ext hM9.ext putObj_keep fun k hk => by omega) (Sl.nil _)⟩
        have hdep := deps_more (a := a) (u := b) (b := 2097152) (by omega) (by omega) hr hlt hx9
        unfold Cal.moments
        rw [if_neg (by simp [h]), if_neg h4, if_pos (by omega)]
      · refine ⟨.ready, none, hl, by simp, ?_⟩
        obtain ⟨_, hlen, hlt, hBg, hgs⟩ := id ho
        have hdep := deps_all (a := a) (u := b) (b := 2097152) (by omega) (by omega) rfl hlt
        generalize Cal.deps rules off a 2097152 = pre at *
        simp only
        have ho9 := MJv.keep (pa := pa) ho (lpSet_keep (l := w6.heap.size + 1) (rc := rc) (st := .exhausted) (pd := none)) fun k hk => by omega
        have hM9 := hM.keep hF (lpSet_keep (l := w6.heap.size + 1) (rc := rc) (st := .exhausted) (pd := none)) fun k _ _ h => h
        obtain ⟨l91, l92⟩ := at1 hM9.l.at_
        obtain ⟨i1, i2, i3, i4⟩ := ownsRow_val ho9.1
        (repeat first | with_reducible refine Run_seq ?_ | with_reducible refine Run_skip ?_ | with_reducible refine Run_scope ?_ | with_reducible refine Run_label ?_ | with_reducible refine Run_sc ?_ | with_reducible refine Run_block ?_ | with_reducible refine Run_blk ?_ | with_reducible refine Run_exit rfl ?_ | (refine Run_region (by kernel_rfl) fun _ => ?_; simp only [KS, Nat.reduceAdd, Nat.reduceMul, Nat.reduceEqDiff, ↓reduceIte, UT, l91, l92]) | (refine Run_drawn mixed (by kernel_rfl) (by kernel_rfl) fun _ => ?_; simp only [KS, Nat.reduceAdd, Nat.reduceMul, Nat.reduceEqDiff, ↓reduceIte, UT, l91, l92]) | refine And.intro (by first | assumption | omega | (intros; omega)) ?_)
        refine SemW_set1 cells25 hM9.l (isS_one i1).1 (isS_one i1).2 fun w10 l10 k10 s10 => ?_
        rw [isS_cells i1] at l10
        have hM10 := hM9.setl hF k10 l10
        have ho10 := MJv.keep (pa := pa) ho9 k10 fun k hk => by omega
        try simp only [KS, Nat.reduceAdd, Nat.reduceMul, Nat.reduceEqDiff, ↓reduceIte, UT]
        refine SemW_set1 cells34 hM10.e rfl rfl fun w11 e11 k11 s11 => ?_
        have hM11 := hM10.sete hF k11 e11
        have ho11 := MJv.keep (pa := pa) ho10 k11 fun k hk => by omega
        try simp only [KS, Nat.reduceAdd, Nat.reduceMul, Nat.reduceEqDiff, ↓reduceIte, UT]
        (repeat first | with_reducible refine Run_seq ?_ | with_reducible refine Run_skip ?_ | with_reducible refine Run_scope ?_ | with_reducible refine Run_label ?_ | with_reducible refine Run_sc ?_ | with_reducible refine Run_block ?_ | with_reducible refine Run_blk ?_ | with_reducible refine Run_exit rfl ?_ | (refine Run_region (by kernel_rfl) fun _ => ?_; simp only [KS, Nat.reduceAdd, Nat.reduceMul, Nat.reduceEqDiff, ↓reduceIte, UT]) | (refine Run_drawn mixed (by kernel_rfl) (by kernel_rfl) fun _ => ?_; simp only [KS, Nat.reduceAdd, Nat.reduceMul, Nat.reduceEqDiff, ↓reduceIte, UT]) | refine And.intro (by first | assumption | omega | (intros; omega)) ?_)
        refine Run_ret ?_
        simp only [Rets, RetM, resV, fnd, oneOr, ↓reduceIte]
        refine ⟨hM11.d, _, _, rfl, loadVar_row rfl (hM11.l.keep putObj_keep (by omega)), _, _, rfl, loadVar_row rfl (hM11.e.keep putObj_keep (by omega)), momRet (xs := pre) ?_ (Keep.ext hM11.ext putObj_keep fun k hk => by omega) (own_ints (MJv.keep (pa := pa) ho11 putObj_keep fun k hk => by omega).1 ?_ ?_)⟩
        · unfold Cal.moments
          rw [if_neg (by simp [h]), if_neg h4, hdep, if_neg (by omega)]
        · intro y hy
          rw [← hdep] at hy
          exact I64_dep (by omega) (by omega) (by omega) hy
        · omega
end Go.Proofs.Ytcncbmdkifdggaa
