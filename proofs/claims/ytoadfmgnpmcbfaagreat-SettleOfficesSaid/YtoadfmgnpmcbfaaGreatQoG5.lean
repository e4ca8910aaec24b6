import Derived.Test.YtoadfmgnpmcbfaaGreatQoG4
import Derived.Test.YtoadfmgnpmcbfaaGreatQoB38x
/- Chapter 40: covers, Collect, Cover, Share. -/
namespace Go.Proofs.YtoadfmgnpmcbfaaGreat
open Go Go.Fk
set_option linter.unusedSimpArgs false
set_option linter.unusedVariables false
set_option maxRecDepth 100000
def MI (m : MoveD) : Prop := I64 m.No ∧ I64 m.From ∧ I64 m.To ∧ I64 m.Amount ∧ I64 m.Why ∧ I64 m.Run
abbrev fCov (p1 p2 p3 : Addr) : Value := .func (.func 178) #[] #[.pointer (some p1), .pointer (some p2), .pointer (some p3)]
theorem fdCovers (v : Value) (n run : Int) (w : World) (hv : v.cells = #[v]) :
    Calls Tryz.prog 131 #[v, .int .i64 n, .int .i64 run] w fun e w' => ∃ p1 p2 p3, e = .returned (fCov p1 p2 p3) ∧ Ext w w' ∧ At w' p1 [v] ∧ At w' p2 [.int .i64 n] ∧ At w' p3 [.int .i64 run] := by
  refine Calls_of_Run (args := [v, .int .i64 n, .int .i64 run]) (n := 8) (rs := [.tmp 6]) Tryz.func131 rfl rfl rfl (by simp) ?_
  (repeat with_reducible first | refine js ?_ | refine ja ?_ | refine jw KL131 [] TF131 fun _ => ?_)
  refine SemW_box fun p1 w1 h1 => SemW_box fun p2 w2 h2 => SemW_box fun p3 w3 h3 => ?_
  (repeat with_reducible first | refine js ?_ | refine ja ?_ | refine jw KL131 [] TF131 fun _ => ?_)
  refine Run_ret ?_
  simp only [Rets, RetM, resV, fnd, oneOr, ↓reduceIte]
  rw [hv] at h1
  exact ⟨_, rfl, p1, p2, p3, rfl, h1.ext.trans (h2.ext.trans h3.ext), h1.at_.ext (h2.ext.trans h3.ext), h2.at_.ext h3.ext, h3.at_⟩
def mvItems (l : List MoveD) : List (List Value) := l.map fun m => [.agg m.cs.toArray]
theorem mvItems_len (l : List MoveD) : (mvItems l).length = l.length := by simp [mvItems]
theorem mvItems_get {l : List MoveD} {k : Nat} (h : k < (mvItems l).length) (h' : k < l.length) : (mvItems l)[k] = [.agg l[k].cs.toArray] := by simp [mvItems]
/-- a function that yields moves -/
def IterM (P : Program) (f : FuncId) (cap : Array Value) (items : List MoveD) (w : World) : Prop :=
  ∀ (kp : Nat → Prop) (yv : Value) (J : Nat → World → Prop) (Jx : World → Prop) (w1 : World), (∀ k, k < w.heap.size → kp k) → Cons P yv (mvItems items) (fun _ => False) kp J Jx → Ext w w1 → J 0 w1 →
    Calls P f (#[] ++ #[yv] ++ cap) w1 fun e w' => e = .returned (.tuple #[]) ∧ (Jx w' ∨ J (mvItems items).length w')
theorem covIter (p1 p2 p3 : Addr) (v : Value) (l : List Int) (n run : Int) (W : World) (hx : Sl W v l) (a1 : At W p1 [v]) (a2 : At W p2 [.int .i64 n]) (a3 : At W p3 [.int .i64 run]) (hb : ∀ o ∈ l, 0 ≤ o ∧ o ≤ 24) :
    IterM Tryz.prog 178 #[.pointer (some p1), .pointer (some p2), .pointer (some p3)] (Fd.covs n run l) W := by
  intro kp yv J Jx w hkp hc hW h0
  have hn := hx.small
  have R1 : ∀ w', Ext W w' → AtN w' p1 0 [v] := fun w' x => (a1.ext x).n
  have R2 : ∀ w', Ext W w' → AtN w' p2 0 [.int .i64 n] := fun w' x => (a2.ext x).n
  have R3 : ∀ w', Ext W w' → AtN w' p3 0 [.int .i64 run] := fun w' x => (a3.ext x).n
  simp only [AtN, add_zero] at R1 R2 R3
  have q1 := R1 w hW
  have e : (#[] ++ #[yv] ++ #[.pointer (some p1), .pointer (some p2), .pointer (some p3)] : Array Value) = [yv, .pointer (some p1), .pointer (some p2), .pointer (some p3)].toArray := rfl
  rw [e]
  refine Calls_of_Run (args := [yv, .pointer (some p1), .pointer (some p2), .pointer (some p3)]) (n := 24) (rs := []) Tryz.func178 rfl rfl rfl (by simp) ?_
  (repeat with_reducible first | refine js ?_ | refine ja ?_ | refine jw KL178 [] (aa TF178 (aa q1.1 (aa q1.2.1 (aa hx.s hx.len)))) fun _ => ?_)
  refine Run_loopV [5, 6, 9, 10, 22] (σ := Nat) (fun k => [(9, some (.int .i64 k))]) (fun k w' => k ≤ l.length ∧ J k w' ∧ Ext W w') (fun k => l.length - k) 0 (by simp [SubB, fnd]) ⟨by omega, h0, hW⟩ ?_
  rintro k w1 ⟨hk, hJ, hE⟩
  (repeat with_reducible first | refine js ?_ | refine ja ?_ | refine jw KL178 [] TF178 fun _ => ?_)
  refine Run_condS (fun _ => rfl) (fun h => ?_) (fun h => ?_)
  · simp at h
    have hkl := h
    obtain ⟨f1, f2, f3⟩ := (hx.ext hE).get h
    have hbo := hb _ (List.getElem_mem hkl)
    have q2 := R2 w1 hE
    have q3 := R3 w1 hE
    (repeat with_reducible first | refine js ?_ | refine ja ?_ | refine jw KL178 [] (aa TF178 (aa hx.s (aa hx.len (aa f1 (aa f2 (aa q2.1 (aa q2.2.1 (aa q3.1 q3.2.1)))))))) fun _ => ?_)
    refine ⟨.agg (Fd.covM n run k l[k]).cs.toArray, fun w' => by kernel_rfl, ?_⟩
    have hki : k < (mvItems (Fd.covs n run l)).length := by rw [mvItems_len, Fd.covs_len]; exact hkl
    have hy := hc.yield k w1 hki hJ
    rw [mvItems_get hki (by rw [Fd.covs_len]; exact hkl), Fd.covs_get _ hkl] at hy
    refine hy.mono fun u w7 ⟨b', hv, k7, hj⟩ => ?_
    subst hv
    have hE7 : Ext W w7 := Keep.ext hE k7 hkp
    cases b' with
    | true =>
      simp only [if_true] at hj
      (repeat with_reducible first | refine js ?_ | refine ja ?_ | refine jw KL178 [] TF178 fun _ => ?_)
      refine Run_condS (fun _ => rfl) (fun h => by cases h) (fun _ => ?_)
      (repeat with_reducible first | refine js ?_ | refine ja ?_ | refine jw KL178 [] TF178 fun _ => ?_)
      refine Run_lp ⟨k + 1, ?_, ⟨by omega, hj, hE7⟩, by omega⟩
      simp [SubB, fnd, strike, has]
    | false =>
      simp only [Bool.false_eq_true, if_false] at hj
      (repeat with_reducible first | refine js ?_ | refine ja ?_ | refine jw KL178 [] TF178 fun _ => ?_)
      refine Run_condS (fun _ => rfl) (fun _ => ?_) (fun h => by cases h)
      (repeat with_reducible first | refine js ?_ | refine ja ?_ | refine jw KL178 [] TF178 fun _ => ?_)
      refine Run_ret ?_
      simp only [Rets, RetM, resV, oneOr]
      exact ⟨trivial, .inl hj⟩
  · simp at h
    obtain rfl : k = l.length := by omega
    (repeat with_reducible first | refine js ?_ | refine ja ?_ | refine jw KL178 [] TF178 fun _ => ?_)
    refine Run_nil ?_
    simp only [Rets, RetM, resV, oneOr]
    exact ⟨trivial, .inr (by rw [mvItems_len, Fd.covs_len]; exact hJ)⟩
/-- where AppendSeq keeps its list -/
structure AS (w : World) (B : Nat) (ps : Addr) (ms : List MoveD) (w' : World) : Prop where
  ext : Ext w w'
  m : ∃ vm, Row w' ps 35 [vm] ∧ BufO (α := MoveD) 70 B w' vm ms
theorem AS.keep {w w1 w2 : World} {B : Nat} {ps : Addr} {ms : List MoveD} {S : Nat → Prop} (h : AS w B ps ms w1) (hk : Keep S w1 w2) (hw : ∀ k, k < w.heap.size → S k) (h2 : S ps.block) (h3 : ∀ g, B ≤ g → g < w1.heap.size → S g) : AS w B ps ms w2 := by
  obtain ⟨vm, hr, hb⟩ := h.m
  exact ⟨Keep.ext h.ext hk hw, vm, hr.keep hk h2, hb.keep hk h3⟩
theorem AS.lt {w w1 : World} {B : Nat} {ps : Addr} {ms : List MoveD} (h : AS w B ps ms w1) : ps.block < w1.heap.size := by
  obtain ⟨vm, hr, hb⟩ := h.m
  exact hr.lt
theorem slAppendSeq (f : FuncId) (cap : Array Value) (items : List MoveD) (w : World) (hc : callable Tryz.prog f = true) (hit : IterM Tryz.prog f cap items w) (hI : ∀ m ∈ items, MI m) (hn : items.length ≤ 100000) :
    Calls Tryz.prog 177 #[.slice none 0 0, .func (.func f) #[] cap] w fun e w' => ∃ v', e = .returned v' ∧ Ext w w' ∧ BufO (α := MoveD) 70 w.heap.size w' v' items := by
  refine Calls_of_Run (args := [.slice none 0 0, .func (.func f) #[] cap]) (n := 13) (rs := [.tmp 4]) Tryz.func177 rfl rfl rfl (by simp) ?_
  (repeat with_reducible first | refine js ?_ | refine ja ?_ | refine jw KL177 [] TF177 fun _ => ?_)
  refine SemW_box fun ps w2 h2 => ?_
  have b2 := h2.blk
  have z2 := h2.size
  have x2 := h2.ext
  have hS2 : AS w (w2.heap.size + 2) ps (items.take 0) w2 := ⟨x2, _, h2.row, by rw [List.take_zero]; exact BufO.nil⟩
  (repeat with_reducible first | refine js ?_ | refine ja ?_ | refine jw KL177 [] TF177 fun _ => ?_)
  refine Run_iter [7] (fun _ => rfl) hc (by simp) (mvItems items) (fun x hx => by simp [mvItems] at hx; obtain ⟨_, _, rfl⟩ := hx; rfl) (fun _ => False) (fun k => k < w.heap.size) (fun k hk => hk.elim) (fun k hk => by omega)
    (fun j w' => AS w (w2.heap.size + 2) ps (items.take j) w')
    (fun e w' => False)
    (fun yv J Jx w1 hcs hx1 h0 => hit (fun k => k < w.heap.size) yv J Jx w1 (fun k hk => hk) hcs (x2.trans hx1) h0)
    (fun w1 hx1 _ => hS2.keep (Keep.of_ext (S := fun _ => True) hx1) (fun _ _ => trivial) trivial fun _ _ _ => trivial)
    (fun j u1 u2 hS hk => hS.keep hk (fun k hk => ⟨id, by omega, by omega⟩) ⟨id, by omega, by omega⟩ (fun g hg _ => ⟨id, by omega, by omega⟩))
    (fun e u1 u2 he hk => he.elim) ?_ ?_ ?_
  · intro j hj w8 hS8 z8
    rw [mvItems_len] at hj
    rw [mvItems_get _ hj]
    simp only [zipL]
    have hmI := hI _ (List.getElem_mem hj)
    (repeat with_reducible first | refine js ?_ | refine ja ?_ | refine jw KL177 [] TF177 fun _ => ?_)
    refine SemW_var ti70 rfl (by simp [Value.cells, MoveD.cs]) (by decide) rfl fun pv w9 h9 => ?_
    have b9 := h9.blk
    have z9 := h9.size
    have r9 : Row w9 pv 70 items[j].cs := by simpa [Value.cells] using h9.row
    have hS9 := hS8.keep (Keep.of_ext (S := fun _ => True) h9.ext) (fun _ _ => trivial) trivial fun _ _ _ => trivial
    have lt8 := hS8.lt
    (repeat with_reducible first | refine js ?_ | refine ja ?_ | refine jw KL177 [] TF177 fun _ => ?_)
    refine Run_lp ⟨Keep.of_ext h9.ext, fun w10 k10 z10 => ?_⟩
    have hS10 := hS9.keep k10 (fun k hk => by omega) (by omega) (fun g hg _ => by omega)
    have r10 := r9.keep k10 (by omega)
    obtain ⟨vm, rm, bm⟩ := hS10.m
    obtain ⟨m1, m2⟩ := row1 rm
    have n1 := r10.n
    simp only [MoveD.cs, AtN, KS, Nat.reduceAdd, Nat.reduceMul, Nat.reduceEqDiff, ↓reduceIte, UT] at n1
    (repeat with_reducible first | refine js ?_ | refine ja ?_ | refine jw KL177 [] (aa TF177 (aa m1 (aa m2 n1))) fun _ => ?_)
    refine SemW_append1FO (α := MoveD) (X := .agg items[j].cs.toArray) (x := items[j]) Tryz.underlying35 ti70 rfl (by decide) bm (by omega) ⟨rfl, hmI⟩ (by simp [maxLen]; omega) fun s v' w15 b15 k15 => ?_
    have k15 := bm.below k15
    rw [← List.take_succ_eq_append_getElem hj] at b15
    (repeat with_reducible first | refine js ?_ | refine ja ?_ | refine jw KL177 [] TF177 fun _ => ?_)
    refine SemW_set1 cells35 (rm.keep k15 (by omega)) (isS_one b15.isS.1).1 (isS_one b15.isS.1).2 fun w16 r16 k16 s16 => ?_
    rw [isS_cells b15.isS.1] at r16
    (repeat with_reducible first | refine js ?_ | refine ja ?_ | refine jw KL177 [] TF177 fun _ => ?_)
    have z15 := k15.size
    have e16 : Ext w w16 := Keep.ext (Keep.ext hS10.ext k15 fun k hk => by omega) k16 fun k hk => by omega
    have kb : Keep (fun k => k < w2.heap.size + 2 ∧ k ≠ ps.block) w10 w16 := (k15.mono fun k _ hk => by omega).trans (k16.mono fun k _ hk => by omega)
    refine Run_nil ⟨kb.mono fun k _ hk' => by omega, e16, v', r16, b15.keep k16 (fun g hg _ => by omega)⟩
  · intro w8 hS8 hd
    rw [mvItems_len, List.take_length] at hS8
    obtain ⟨vm, rm, bm⟩ := hS8.m
    obtain ⟨m1, m2⟩ := row1 rm
    (repeat with_reducible first | refine js ?_ | refine ja ?_ | refine jw KL177 [] (aa TF177 (aa m1 m2)) fun _ => ?_)
    refine Run_ret (RetM_one (d := w2.heap.size) hd fun w10 k10 _ => ?_)
    simp only [resV]
    exact ⟨vm, rfl, vm, rfl, Keep.ext hS8.ext k10 fun k hk => by omega, (bm.keep k10 (fun g hg _ => by omega)).mono (by omega)⟩
  · intro e w8 he hd
    exact he.elim
theorem slCollect (f : FuncId) (cap : Array Value) (items : List MoveD) (w : World) (hc : callable Tryz.prog f = true) (hit : IterM Tryz.prog f cap items w) (hI : ∀ m ∈ items, MI m) (hn : items.length ≤ 100000) :
    Calls Tryz.prog 130 #[.func (.func f) #[] cap] w fun e w' => ∃ v', e = .returned v' ∧ Ext w w' ∧ BufO (α := MoveD) 70 w.heap.size w' v' items := by
  refine Calls_of_Run (args := [.func (.func f) #[] cap]) (n := 5) (rs := [.tmp 2]) Tryz.func130 rfl rfl rfl (by simp) ?_
  (repeat with_reducible first | refine js ?_ | refine ja ?_ | refine jw KL130 [] TF130 fun _ => ?_)
  refine CallW_gen call177 (slAppendSeq f cap items w hc hit hI hn) fun e w1 ⟨v, he, x1, b1⟩ => ⟨_, he, ?_⟩
  (repeat with_reducible first | refine js ?_ | refine ja ?_ | refine jw KL130 [] TF130 fun _ => ?_)
  refine Run_ret ?_
  simp [Rets, RetM, resV, fnd, oneOr]
  exact ⟨x1, b1⟩
end Go.Proofs.YtoadfmgnpmcbfaaGreat
/- Chapter 40: Cover, Share. -/
namespace Go.Proofs.YtoadfmgnpmcbfaaGreat
open Go Go.Fk
set_option linter.unusedSimpArgs false
set_option linter.unusedVariables false
set_option maxRecDepth 100000
/-- a list of moves and an error -/
def MvRet (w : World) (r : List MoveD × Int) (e : Ending) (w' : World) : Prop := ∃ v, e = .returned (.tuple #[v, .int .i64 r.2]) ∧ Ext w w' ∧ Sl w' v r.1
/-- the list is the call's own besides -/
def MvRetO (w : World) (r : List MoveD × Int) (e : Ending) (w' : World) : Prop := ∃ v, e = .returned (.tuple #[v, .int .i64 r.2]) ∧ Ext w w' ∧ Sl w' v r.1 ∧ BufO (α := MoveD) 70 w.heap.size w' v r.1
theorem MvRetO.r {w : World} {r : List MoveD × Int} {e : Ending} {w' : World} (h : MvRetO w r e w') : MvRet w r e w' := by
  obtain ⟨v, h1, h2, h3, _⟩ := h
  exact ⟨v, h1, h2, h3⟩
theorem costW {vl v0 v1 v2 u0 u1 u2 : Value} {t : TimeD} {f : TariffD} {p : PlanD} {run : Int} {r : Int × Int} {w : World} {K : Value → World → Prop} (h : Fd.cost t f p run = r) (hl : Sl w vl t.Lines) (hT : TarR w f u0 u1 u2) (hP : PlanR w p v0 v1 v2)
    (hK : ∀ w', Ext w w' → K (.tuple #[.int .i64 r.1, .int .i64 r.2]) w') : CallW Tryz.prog (.func (.func 129) #[] #[]) [.agg #[.int .i64 t.Offices, vl], .agg #[u0, u1, u2], .agg #[v0, v1, v2], .int .i64 run] w K := by
  subst h; exact CallW_gen call129 (fdCost vl v0 v1 v2 u0 u1 u2 t f p run w hl hT hP) fun e w' ⟨he, x⟩ => ⟨_, he, hK w' x⟩
/-- what a price that could be reckoned says of its input -/
theorem cost_ok {t : TimeD} {f : TariffD} {p : PlanD} {run : Int} (h : (Fd.cost t f p run).2 = 0) : Tt.chk t = 0 ∧ Tf.chk f = 0 ∧ Fd.formed t p = true ∧ 0 ≤ run ∧ run < p.Runs.length ∧ 0 ≤ (Fd.cost t f p run).1 ∧ (Fd.cost t f p run).1 ≤ 67108864 ∧ ∃ x, (Fd.cost t f p run).1 = x * p.Covers.getD run.toNat 0 := by
  unfold Fd.cost at h ⊢
  by_cases h1 : Tt.chk t = 0
  · rw [if_neg (by simp [h1])] at h ⊢
    by_cases h2 : Tf.chk f = 0
    · rw [if_neg (by simp [h2])] at h ⊢
      by_cases h3 : Fd.formed t p = true
      · rw [if_neg (by simp [h3])] at h ⊢
        by_cases h4 : run < 0 ∨ p.Runs.length ≤ run
        · rw [if_pos h4] at h; cases h
        · rw [if_neg h4] at h ⊢
          obtain ⟨c1, c2, c3, c4⟩ := formed_ok h3
          cases hle : Fd.least (Fd.bit (Fd.lineOf t p run).Classes) f.Leg with
          | none => rw [hle] at h; cases h
          | some m =>
            have hm := (Tf.chk_ok h2).l _ (Fd.least_mem hle)
            have hlt : run.toNat < p.Covers.length := by omega
            have hg : p.Covers.getD run.toNat 0 = p.Covers[run.toNat] := by simp [List.getD_eq_getElem?_getD, hlt]
            have hcv := c4 _ (List.getElem_mem hlt)
            rw [← hg] at hcv
            refine ⟨h1, h2, h3, by omega, by omega, Int.mul_nonneg hm.1 hcv.1, ?_, m, rfl⟩
            exact Int.mul_le_mul hm.2 hcv.2 hcv.1 (by omega)
      · rw [if_pos (by simpa using h3)] at h; cases h
    · rw [if_pos h2] at h; exact (h2 h).elim
  · rw [if_pos h1] at h; exact (h1 h).elim
/-- the line of a run that is one -/
theorem line_ok {t : TimeD} {f : TariffD} {p : PlanD} {run : Int} (h : (Fd.cost t f p run).2 = 0) : ∃ h1 : run.toNat < p.Runs.length, ∃ h2 : p.Runs[run.toNat].Line.toNat < t.Lines.length, Fd.lineOf t p run = t.Lines[p.Runs[run.toNat].Line.toNat] ∧ 0 ≤ p.Runs[run.toNat].Line ∧ p.Runs[run.toNat].Line < t.Lines.length ∧ Tt.LOk (Fd.lineOf t p run) t.Offices := by
  obtain ⟨h1, h2, h3, h4, h5, _⟩ := cost_ok h
  obtain ⟨c1, c2, c3, c4⟩ := formed_ok h3
  have hrn : run.toNat < p.Runs.length := by omega
  have hrun := isRun_line (c2 _ (List.getElem_mem hrn))
  have hln : p.Runs[run.toNat].Line.toNat < t.Lines.length := by omega
  have hlo : Fd.lineOf t p run = t.Lines[p.Runs[run.toNat].Line.toNat] := by
    unfold Fd.lineOf; simp [List.getD_eq_getElem?_getD, hln, hrn]
  refine ⟨hrn, hln, hlo, hrun.2.1, hrun.2.2.1, ?_⟩
  rw [hlo]
  exact Tt.right_ok ((Tt.chk_ok h1).r _ (List.getElem_mem hln))
theorem mi_cov {n run : Int} {i : Nat} {o : Int} (h : 0 ≤ n ∧ n ≤ 67108864) (hr : I64 run) (ho : 0 ≤ o ∧ o ≤ 24) (hi : i ≤ 1000) : MI (Fd.covM n run i o) := by
  unfold I64 at hr
  simp only [MI, Fd.covM, I64]; omega
theorem covs_mi {n run : Int} {l : List Int} (h : 0 ≤ n ∧ n ≤ 67108864) (hr : I64 run) (ho : ∀ o ∈ l, 0 ≤ o ∧ o ≤ 24) (hl : l.length ≤ 1000) : ∀ m ∈ Fd.covs n run l, MI m := fun m hm => by
  obtain ⟨k, hk, rfl⟩ := List.getElem_of_mem hm
  rw [Fd.covs_len] at hk
  rw [Fd.covs_get _ hk]
  exact mi_cov h hr (ho _ (List.getElem_mem hk)) (by omega)
theorem fdCoverO (vl v0 v1 v2 u0 u1 u2 : Value) (t : TimeD) (f : TariffD) (p : PlanD) (run handed : Int) (w : World) (hl : Sl w vl t.Lines) (hT : TarR w f u0 u1 u2) (hP : PlanR w p v0 v1 v2) (hr : I64 run) :
    Calls Tryz.prog 82 #[.agg (t.cs vl).toArray, .agg (f.cs u0 u1 u2).toArray, .agg (p.cs v0 v1 v2).toArray, .int .i64 run, .int .i64 handed] w (MvRetO w (Fd.cover t f p run handed)) := by
  have hlen := hl.len
  have rlen := hP.r.len
  refine Calls_of_Run (args := [.agg (t.cs vl).toArray, .agg (f.cs u0 u1 u2).toArray, .agg (p.cs v0 v1 v2).toArray, .int .i64 run, .int .i64 handed]) (n := 52) (rs := [.tmp 10, .tmp 11]) Tryz.func82 rfl rfl rfl (by simp) ?_
  (repeat with_reducible first | refine js ?_ | refine ja ?_ | refine jw KL82 [] TF82 fun _ => ?_)
  refine SemW_box fun pt w1 h1 => SemW_box fun pf w2 h2 => SemW_box fun pp w3 h3 => ?_
  have x3 := h1.ext.trans (h2.ext.trans h3.ext)
  have T : ∀ w', Ext w3 w' → AtN w' pt 0 (t.cs vl) := fun w' x => (h1.at_.ext (h2.ext.trans (h3.ext.trans x))).n
  have F : ∀ w', Ext w3 w' → AtN w' pf 0 (f.cs u0 u1 u2) := fun w' x => (h2.at_.ext (h3.ext.trans x)).n
  have P : ∀ w', Ext w3 w' → AtN w' pp 0 (p.cs v0 v1 v2) := fun w' x => (h3.at_.ext x).n
  simp only [TimeD.cs, TariffD.cs, PlanD.cs, AtN, KS, Nat.reduceAdd, Nat.reduceMul, Nat.reduceEqDiff, ↓reduceIte, UT] at T F P
  have t3 := T w3 (Ext.refl _)
  have f3 := F w3 (Ext.refl _)
  have p3 := P w3 (Ext.refl _)
  (repeat with_reducible first | refine js ?_ | refine ja ?_ | refine jw KL82 [] (aa TF82 (aa t3 (aa f3 p3))) fun _ => ?_)
  refine costW rfl (hl.ext x3) (hT.ext x3) (hP.ext x3) fun w4 x4 => ?_
  have y4 := x3.trans x4
  (repeat with_reducible first | refine js ?_ | refine ja ?_ | refine jw KL82 [] TF82 fun _ => ?_)
  refine Run_condS (fun _ => rfl) (fun h => ?_) (fun h => ?_)
  · simp at h
    (repeat with_reducible first | refine js ?_ | refine ja ?_ | refine jw KL82 [] TF82 fun _ => ?_)
    refine Run_ret ?_
    simp [Rets, RetM, resV, fnd, oneOr, MvRetO, Fd.cover, h]
    exact ⟨y4, Sl.nil _, BufO.nil⟩
  simp at h
  have hc := h
  obtain ⟨_, _, hfm, r0, r1, n0, n1, _⟩ := cost_ok hc
  obtain ⟨hrn, hln, hlo, q0, q1, hxo⟩ := line_ok hc
  have hres : Fd.cover t f p run handed = if handed < 0 ∨ (Fd.lineOf t p run).Legs.length < handed then ([], 1) else (Fd.covs (Fd.cost t f p run).1 run ((Fd.lineOf t p run).Offices.take handed.toNat), 0) := by
    unfold Fd.cover; rw [if_neg (by simp [hc])]
  obtain ⟨l0, l1, l2, l3, e1, e2, hR⟩ := (hl.ext y4).line hln
  have Q : ∀ w', Ext w w' → AtN w' ((slAt v0).add (run.toNat * 3)) 0 p.Runs[run.toNat].cs := fun w' x => ((hP.r.ext x).runD hrn).1
  have hone := hR.one
  rw [hlo] at hxo hres
  generalize hxx : t.Lines[p.Runs[run.toNat].Line.toNat] = x at *
  generalize hrr : p.Runs[run.toNat] = r at *
  generalize (Fd.cost t f p run).1 = n at *
  simp only [RunD.cs, AtN, KS, Nat.reduceAdd, Nat.reduceMul, Nat.reduceEqDiff, ↓reduceIte, UT] at Q
  simp only [LineD.cs] at hone
  (repeat with_reducible first | refine jq ?_ | refine jk ?_ | refine jc ?_ | refine jl ?_ | refine jb ?_ | refine jo ?_ | refine ji ?_ | refine jx rfl ?_)
  refine Run_ec (id := 4) KL82 (.first 0 (.first 1 (.first 2 (.first 3 (.first 4 (.first 5 (.first 6 (.first 7 (.first 8 (.first 9 (.alt 10 (.alt 11 .done .stop) .stop))))))))))) mixed (by kernel_rfl) (by kernel_rfl) fun w7 x7 _ => ?_
  have t7 := T w7 (x4.trans x7)
  have p7 := P w7 (x4.trans x7)
  have q7 := Q w7 (y4.trans x7)
  have e7 := (e2.ext x7).n
  simp only [LineD.cs, AtN, KS, Nat.reduceAdd, Nat.reduceMul, Nat.reduceEqDiff, ↓reduceIte, UT] at e7
  (try simp (maxSteps := 5000000) only [KS, Nat.reduceAdd, Nat.reduceMul, Nat.reduceEqDiff, ↓reduceIte, forall_const, Int.cast_ofNat_Int, Int.reduceToNat, List.take_succ_cons, List.take_zero, List.drop_succ_cons, List.drop_zero, TF82, KL82, ec, t7, p7, hP.r.s, hP.r.len, hl.s, hl.len, q7, e7]); (try simp (disch := omega) only [wrapI, tmodI, tdivI])
  (try simp (maxSteps := 5000000) only [KS, Nat.reduceAdd, Nat.reduceMul, Nat.reduceEqDiff, ↓reduceIte, forall_const, Int.cast_ofNat_Int, Int.reduceToNat, List.take_succ_cons, List.take_zero, List.drop_succ_cons, List.drop_zero, TF82, KL82, ec, t7, p7, hP.r.s, hP.r.len, hl.s, hl.len, q7, e7]); (try simp (disch := omega) only [wrapI, tmodI, tdivI])
  refine ⟨by omega, by omega, Ext.refl _, SemW_allocT ti52 fun px w8 h8 => ⟨h8.ext, ?_⟩⟩
  have b8 := h8.blk
  refine SemW_setW (by rw [cells52]; decide) (by rw [cells52]; rfl) h8.row (by rw [cells52]; rfl) (by simpa [Value.cells] using hone) fun w9 r9 k9 z9 => ?_
  have r9 : Row w9 px 52 (x.cs l0 l1 l2 l3) := by simpa [Value.cells, LineD.cs] using r9
  have x9 : Ext w7 w9 := Keep.ext h8.ext k9 fun q hq => by omega
  refine ⟨x9, ?_⟩
  have y9 := y4.trans (x7.trans x9)
  have hR9 := hR.ext (x7.trans x9)
  have q9 := r9.n
  have cap0 := hR9.o.cap
  have hll := hR9.l.len
  have hol := hR9.o.len
  simp only [LineD.cs, AtN, KS, Nat.reduceAdd, Nat.reduceMul, Nat.reduceEqDiff, ↓reduceIte, UT] at q9
  have ho2 := hxo.o9
  have ho1 := hxo.l1
  (repeat with_reducible first | refine js ?_ | refine ja ?_ | refine jw KL82 [] (aa TF82 (aa q9 (aa hR9.l.s hR9.l.len))) fun _ => ?_)
  refine Run_condS (fun _ => rfl) (fun h => ?_) (fun h => ?_)
  · simp at h
    (repeat with_reducible first | refine js ?_ | refine ja ?_ | refine jw KL82 [] TF82 fun _ => ?_)
    refine Run_ret ?_
    rw [if_pos (by omega)] at hres
    simp [Rets, RetM, resV, fnd, oneOr, MvRetO, hres]
    exact ⟨y9, Sl.nil _, BufO.nil⟩
  · simp at h
    rw [if_neg (by omega)] at hres
    have hsub := hR9.o.sub (l := 0) (r := handed.toNat) (m := slCap l0) (by omega) (by omega) (by omega) (Nat.le_refl _)
    rw [List.drop_zero] at hsub
    have htake : ∀ o ∈ x.Offices.take handed.toNat, 0 ≤ o ∧ o ≤ 24 := fun o ho => by
      have := hxo.s o (List.mem_of_mem_take ho)
      have := (Tt.chk_ok (cost_ok hc).1).o
      omega
    (repeat with_reducible first | refine js ?_ | refine ja ?_ | refine jw KL82 [] (aa TF82 (aa q9 (aa hR9.o.s hR9.o.len))) fun _ => ?_)
    refine CallW_gen call131 (fdCovers _ n run w9 (isS_cells hsub.s)) fun e w10 ⟨p1, p2, p3, he, x10, a1, a2, a3⟩ => ⟨_, he, ?_⟩
    (repeat with_reducible first | refine js ?_ | refine ja ?_ | refine jw KL82 [] TF82 fun _ => ?_)
    refine CallW_gen call130 (slCollect 178 _ _ w10 call178 (covIter p1 p2 p3 _ _ n run w10 (hsub.ext x10) a1 a2 a3 htake) (covs_mi ⟨n0, n1⟩ hr htake (by simp; omega)) (by rw [Fd.covs_len]; simp; omega)) fun e w11 ⟨v', he, x11, b11⟩ => ⟨_, he, ?_⟩
    (repeat with_reducible first | refine js ?_ | refine ja ?_ | refine jw KL82 [] TF82 fun _ => ?_)
    refine Run_ret ?_
    simp [Rets, RetM, resV, fnd, oneOr, MvRetO, hres]
    exact ⟨y9.trans (x10.trans x11), b11.sl (by rw [Fd.covs_len]; simp; omega), b11.mono (y9.trans x10).size⟩
end Go.Proofs.YtoadfmgnpmcbfaaGreat
/- Chapter 40: Share; the reference. -/
namespace Go.Proofs.YtoadfmgnpmcbfaaGreat
open Go Go.Fk
set_option linter.unusedSimpArgs false
set_option linter.unusedVariables false
set_option maxRecDepth 100000
theorem part_bd {a s : Int} {i : Nat} (h0 : 0 ≤ a) (h1 : a ≤ 1099511627776) (h2 : 1 ≤ s) : 0 ≤ Fd.part a s i ∧ Fd.part a s i ≤ 1099511627777 := by
  unfold Fd.part
  have := Int.ediv_le_self s h0
  have := Int.ediv_nonneg h0 (show 0 ≤ s by omega)
  split <;> omega
theorem sha_mi {a s : Int} {i : Nat} (h0 : 0 ≤ a) (h1 : a ≤ 1099511627776) (h2 : 1 ≤ s) (hi : i ≤ 64) : MI (Fd.shaM a s i) := by
  have := part_bd (i := i) h0 h1 h2
  simp only [MI, Fd.shaM, I64]; omega
theorem fdShareO (a s : Int) (w : World) : Calls Tryz.prog 84 #[.int .i64 a, .int .i64 s] w (MvRetO w (Fd.share a s)) := by
  refine Calls_of_Run (args := [.int .i64 a, .int .i64 s]) (n := 44) (rs := [.tmp 4, .tmp 5]) Tryz.func84 rfl rfl rfl (by simp) ?_
  (repeat with_reducible first | refine js ?_ | refine ja ?_ | refine jw KL84 [] TF84 fun _ => ?_)
  refine Run_condS (fun _ => rfl) (fun h => ?_) (fun h => ?_)
  · (repeat with_reducible first | refine js ?_ | refine ja ?_ | refine jw KL84 [] TF84 fun _ => ?_)
    refine Run_ret ?_
    have : Fd.share a s = ([], 1) := by unfold Fd.share; rw [if_pos]; simp at h; omega
    simp [Rets, RetM, resV, fnd, oneOr, MvRetO, this, Ext.refl]
    exact ⟨Sl.nil _, BufO.nil⟩
  simp at h
  have hd : Fd.share a s = (Fd.shares a s s.toNat, 0) := by unfold Fd.share; rw [if_neg]; omega
  (repeat with_reducible first | refine js ?_ | refine ja ?_ | refine jw KL84 [] TF84 fun _ => ?_)
  refine Run_loopV [4, 6, 7, 23, 24] (σ := Nat × Value) (fun q => [(23, some (.int .i64 q.1)), (4, some q.2), (5, some (.int .i64 0))]) (fun q w' => q.1 ≤ s.toNat ∧ BufL (α := MoveD) 70 w w' q.2 (Fd.shares a s q.1)) (fun q => s.toNat - q.1) (0, .slice none 0 0) (by simp [SubB, fnd]) ⟨by simp, by simpa [Fd.shares] using BufL.nil (Ext.refl _)⟩ ?_
  rintro ⟨k, vm⟩ w2 ⟨hk, hb⟩
  simp only at hk hb
  have hbl := hb.isS
  rw [Fd.shares_len] at hbl
  (repeat with_reducible first | refine js ?_ | refine ja ?_ | refine jw KL84 [] TF84 fun _ => ?_)
  refine Run_condS (fun _ => rfl) (fun h => ?_) (fun h => ?_)
  · simp at h
    have hp := Fd.part_eq (a := a) (s := s) (i := k) (by omega) (by omega) h
    have hpb := part_bd (a := a) (s := s) (i := k) (by omega) (by omega) (by omega)
    (repeat with_reducible first | refine js ?_ | refine ja ?_ | refine jw KL84 [] TF84 fun _ => ?_)
    rw [hp]
    refine ⟨.agg (Fd.shaM a s k).cs.toArray, fun w' => by kernel_rfl, ?_⟩
    refine SemW_append1F (α := MoveD) (X := .agg (Fd.shaM a s k).cs.toArray) (x := Fd.shaM a s k) Tryz.underlying35 ti70 rfl (by decide) hb ⟨rfl, sha_mi (by omega) (by omega) (by omega) (by omega)⟩ (by simp [maxLen, Fd.shares_len]; omega) fun u v' w3 b3 _ x3 _ => ?_
    rw [← Fd.shares_succ] at b3
    (repeat with_reducible first | refine js ?_ | refine ja ?_ | refine jw KL84 [] TF84 fun _ => ?_)
    refine Run_lp ⟨(k + 1, v'), ?_, ⟨by simp only; omega, b3⟩, by simp only; omega⟩
    simp [SubB, fnd, strike, has]
  · simp at h
    obtain rfl : k = s.toNat := by omega
    (repeat with_reducible first | refine js ?_ | refine ja ?_ | refine jw KL84 [] TF84 fun _ => ?_)
    refine Run_ret ?_
    simp [Rets, RetM, resV, fnd, oneOr, MvRetO, hd]
    exact ⟨hb.ext0, hb.sl (by rw [Fd.shares_len]; omega), hb.o⟩
/-! the reference's plan -/
end Go.Proofs.YtoadfmgnpmcbfaaGreat
