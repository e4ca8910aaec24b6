/- Books (chapter 38), for other seats: Balances and First. -/
import Derived.Test.YtcncbmdkifdggaaB38d
namespace Go.Proofs.Ytcncbmdkifdggaa
open Go Go.Fk
set_option linter.unusedSimpArgs false
set_option linter.unusedVariables false
set_option maxRecDepth 100000

theorem bkClone (v : Value) (xs : List Int) (w : World) (hx : Sl w v xs) (hb : xs.length ≤ 1000000) :
    Calls Try.prog 36 #[v] w fun e w' => ∃ v', e = .returned v' ∧ Ext w w' ∧ Sl w' v' xs ∧ (xs ≠ [] → w.heap.size ≤ (slAt v').block) := by
  refine Calls_of_Run (args := [v]) (n := 8) (rs := [.tmp 2]) Try.func36 rfl rfl rfl (by simp) ?_
  (repeat first | with_reducible first | refine jq ?_ | refine jk ?_ | refine jc ?_ | refine jl ?_ | refine jb ?_ | refine jo ?_ | refine ji ?_ | refine jx rfl ?_ | refine And.intro (by first | assumption | omega | (intros; omega)) ?_ | ((first | refine jR KL36 (by kernel_rfl) fun _ => ?_ | skip); simp only [KS, Nat.reduceAdd, Nat.reduceMul, Nat.reduceEqDiff, ↓reduceIte, forall_const, Int.cast_ofNat_Int, Int.reduceToNat, TF36, KL36, hx.s]; (try simp (disch := omega) only [wrapI, tmodI, tdivI]); (fail_if_success (with_reducible show False))))
  refine Run_condS (fun _ => rfl) (fun h => ?_) (fun h => ?_)
  · rcases hx.s.ex with rfl | ⟨a, n, c, rfl⟩
    · have : xs = [] := List.eq_nil_of_length_eq_zero (by have := hx.len; simpa using this.symm)
      subst this
      (repeat first | with_reducible first | refine jq ?_ | refine jk ?_ | refine jc ?_ | refine jl ?_ | refine jb ?_ | refine jo ?_ | refine ji ?_ | refine jx rfl ?_ | refine And.intro (by first | assumption | omega | (intros; omega)) ?_ | ((first | refine jR KL36 (by kernel_rfl) fun _ => ?_ | skip); simp only [KS, Nat.reduceAdd, Nat.reduceMul, Nat.reduceEqDiff, ↓reduceIte, forall_const, Int.cast_ofNat_Int, Int.reduceToNat, TF36, KL36]; (try simp (disch := omega) only [wrapI, tmodI, tdivI]); (fail_if_success (with_reducible show False))))
      refine Run_ret ?_
      simp [Rets, RetM, resV, fnd, oneOr, Ext.refl, Sl.nil]
    · cases h
  · (repeat first | with_reducible first | refine jq ?_ | refine jk ?_ | refine jc ?_ | refine jl ?_ | refine jb ?_ | refine jo ?_ | refine ji ?_ | refine jx rfl ?_ | refine And.intro (by first | assumption | omega | (intros; omega)) ?_ | ((first | refine jR KL36 (by kernel_rfl) fun _ => ?_ | skip); simp only [KS, Nat.reduceAdd, Nat.reduceMul, Nat.reduceEqDiff, ↓reduceIte, forall_const, Int.cast_ofNat_Int, Int.reduceToNat, TF36, KL36]; (try simp (disch := omega) only [wrapI, tmodI, tdivI]); (fail_if_success (with_reducible show False))))
    refine SemW_buildF (α := Int) (W := w) Try.underlying25 ti3 rfl (by decide) (Ext.refl _) [] [] rfl rfl (Cs.nil _) (by decide) fun p w1 b1 _ x1 => ?_
    refine SemW_appendF (α := Int) Try.underlying25 ti3 rfl (by decide) b1 (hx.ext x1) (by simp [maxLen]; omega) fun v2 w2 b2 _ x2 => ?_
    (repeat first | with_reducible first | refine jq ?_ | refine jk ?_ | refine jc ?_ | refine jl ?_ | refine jb ?_ | refine jo ?_ | refine ji ?_ | refine jx rfl ?_ | refine And.intro (by first | assumption | omega | (intros; omega)) ?_ | ((first | refine jR KL36 (by kernel_rfl) fun _ => ?_ | skip); simp only [KS, Nat.reduceAdd, Nat.reduceMul, Nat.reduceEqDiff, ↓reduceIte, forall_const, Int.cast_ofNat_Int, Int.reduceToNat, TF36, KL36]; (try simp (disch := omega) only [wrapI, tmodI, tdivI]); (fail_if_success (with_reducible show False))))
    refine Run_ret ?_
    simp [Rets, RetM, resV, fnd, oneOr]
    simp only [List.nil_append] at b2
    exact ⟨x2, b2.sl (by omega), fun h => (b2.blk (by decide) h).1⟩

theorem bad_prefix {s : List Int} {l : List MoveD} : ∀ (l : List MoveD) (b : List Int) (i : Nat), (∀ k (h : k < l.length), Bk.paid (Bk.after b (l.take (k + 1))) l[k] = true) → Bk.bad b i l = none
  | [], b, i, _ => rfl
  | m :: r, b, i, h => by
    unfold Bk.bad
    have h0 := h 0 (by simp)
    simp [Bk.after] at h0
    rw [if_pos h0]
    exact bad_prefix (s := s) (l := l) r (Bk.step b m) (i + 1) fun k hk => by
      have := h (k + 1) (by simpa using hk)
      simpa [Bk.after] using this
theorem bad_at : ∀ (l : List MoveD) (b : List Int) (i k : Nat) (hk : k < l.length), (∀ j (h : j < l.length), j < k → Bk.paid (Bk.after b (l.take (j + 1))) l[j] = true) → Bk.paid (Bk.after b (l.take (k + 1))) l[k] = false → Bk.bad b i l = some (i + k)
  | m :: r, b, i, 0, hk, _, hp => by
    unfold Bk.bad
    simp [Bk.after] at hp
    rw [if_neg (by simp [hp])]; rfl
  | m :: r, b, i, k + 1, hk, h, hp => by
    unfold Bk.bad
    have h0 := h 0 (by simp) (by omega)
    simp [Bk.after] at h0
    rw [if_pos h0, bad_at r (Bk.step b m) (i + 1) k (by simpa using hk) (fun j hj hjk => by
      have := h (j + 1) (by simpa using hj) (by omega)
      simpa [Bk.after] using this) (by simpa [Bk.after] using hp)]
    congr 1; omega

/-- where Balances keeps its things -/
structure BS (w : World) (pl pb pe pa : Addr) (vl : Value) (e : Int) (la : List Int) (w' : World) : Prop where
  ext : Ext w w'
  l : Row w' pl 37 [vl]
  b : Row w' pb 25 [.slice none 0 0]
  e : Row w' pe 34 [.int .i64 e]
  a : Row w' pa 71 (ints la)
theorem BS.keep {w w1 w2 : World} {pl pb pe pa : Addr} {vl : Value} {e : Int} {la : List Int} {S : Nat → Prop} (h : BS w pl pb pe pa vl e la w1) (hk : Keep S w1 w2) (hw : ∀ k, k < w.heap.size → S k) (h1 : S pl.block) (h2 : S pb.block) (h3 : S pe.block) (h4 : S pa.block) : BS w pl pb pe pa vl e la w2 :=
  ⟨Keep.ext h.ext hk hw, h.l.keep hk h1, h.b.keep hk h2, h.e.keep hk h3, h.a.keep hk h4⟩
def BalRet (w : World) (r : List Int × Int) (e : Ending) (w' : World) : Prop := ∃ v, e = .returned (.tuple #[v, .int .i64 r.2]) ∧ Ext w w' ∧ Sl w' v r.1

theorem rowInts {w : World} {p : Addr} {t : TypeId} {xs : List Int} (h : Row w p t (ints xs)) (hI : ∀ x ∈ xs, I64 x) (hb : xs.length ≤ 140737488355328) : Sl w (.slice (some p) xs.length xs.length) xs := by
  have e : ∀ xs : List Int, ints xs = (xs.map fun x => [Value.int .i64 x]).flatten := fun xs => by
    induction xs with
    | nil => rfl
    | cons x xs ih => simpa using ih
  rw [e xs] at h
  exact h.sl ⟨by simp, fun i h1 h2 => by simpa using ⟨rfl, hI _ (List.getElem_mem h2)⟩⟩ hb
theorem row1 {w : World} {p : Addr} {t : TypeId} {v : Value} (h : Row w p t [v]) : mem w p = v ∧ has1 w p := by
  have := h.n
  simp only [AtN, add_zero] at this
  exact ⟨this.2.1, this.1⟩
theorem moveAt {va : Value} {l : List MoveD} {w : World} (h : Sl w va l) {i : Nat} (hi : i < l.length) : AtN w ((slAt va).add (i * 6)) 0 l[i].cs := (h.moveD hi).1

theorem bkBalances (va vb : Value) (s : List Int) (l : List MoveD) (w : World) (hx : Sl w va s) (hy : Sl w vb l) :
    Calls Try.prog 17 #[va, vb] w (BalRet w (Bk.balances s l)) := by
  have hn := hy.small
  refine Calls_of_Run (args := [va, vb]) (n := 32) (rs := [.cell 4 25, .cell 5 34]) Try.func17 rfl rfl rfl (by simp) ?_
  (repeat first | with_reducible first | refine jq ?_ | refine jk ?_ | refine jc ?_ | refine jl ?_ | refine jb ?_ | refine jo ?_ | refine ji ?_ | refine jx rfl ?_ | refine And.intro (by first | assumption | omega | (intros; omega)) ?_ | ((first | refine jR KL17 (by kernel_rfl) fun _ => ?_ | skip); simp only [KS, Nat.reduceAdd, Nat.reduceMul, Nat.reduceEqDiff, ↓reduceIte, forall_const, Int.cast_ofNat_Int, Int.reduceToNat, TF17, KL17, List.take_succ_cons, List.take_zero, List.drop_succ_cons, List.drop_zero]; (try simp (disch := omega) only [wrapI, tmodI, tdivI]); (fail_if_success (with_reducible show False))))
  refine SemW_box fun pl w1 h1 => SemW_allocT ti25 fun pb w2 h2 => SemW_allocT ti34 fun pe w3 h3 => ?_
  have b1 := h1.blk
  have b2 := h2.blk
  have b3 := h3.blk
  have z1 := h1.size
  have z2 := h2.size
  have z3 := h3.size
  have x3 := h1.ext.trans (h2.ext.trans h3.ext)
  rw [isS_cells hy.s] at h1
  have rl := h1.row.ext (h2.ext.trans h3.ext)
  have rb := h2.row.ext h3.ext
  have re := h3.row
  simp only [KS, Nat.reduceAdd, Nat.reduceMul, Nat.reduceEqDiff, ↓reduceIte, UT] at rb re
  obtain ⟨q1, q2⟩ := row1 rl
  (repeat first | with_reducible first | refine jq ?_ | refine jk ?_ | refine jc ?_ | refine jl ?_ | refine jb ?_ | refine jo ?_ | refine ji ?_ | refine jx rfl ?_ | refine And.intro (by first | assumption | omega | (intros; omega)) ?_ | ((first | refine jR KL17 (by kernel_rfl) fun _ => ?_ | skip); simp only [KS, Nat.reduceAdd, Nat.reduceMul, Nat.reduceEqDiff, ↓reduceIte, forall_const, Int.cast_ofNat_Int, Int.reduceToNat, TF17, KL17, List.take_succ_cons, List.take_zero, List.drop_succ_cons, List.drop_zero, q1, q2]; (try simp (disch := omega) only [wrapI, tmodI, tdivI]); (fail_if_success (with_reducible show False))))
  refine CallW_gen call33 (bkOpen va vb s l w3 (hx.ext x3) (hy.ext x3)) fun e w4 ⟨b, he, hb, hbs, x4⟩ => ⟨_, he, ?_⟩
  (repeat first | with_reducible first | refine jq ?_ | refine jk ?_ | refine jc ?_ | refine jl ?_ | refine jb ?_ | refine jo ?_ | refine ji ?_ | refine jx rfl ?_ | refine And.intro (by first | assumption | omega | (intros; omega)) ?_ | ((first | refine jR KL17 (by kernel_rfl) fun _ => ?_ | skip); simp only [KS, Nat.reduceAdd, Nat.reduceMul, Nat.reduceEqDiff, ↓reduceIte, forall_const, Int.cast_ofNat_Int, Int.reduceToNat, TF17, KL17, List.take_succ_cons, List.take_zero, List.drop_succ_cons, List.drop_zero]; (try simp (disch := omega) only [wrapI, tmodI, tdivI]); (fail_if_success (with_reducible show False))))
  refine SemW_var ti71 rfl (by simp [Value.cells, hb]) (by decide) (by simpa [Value.cells] using one_ints b) fun pa w5 h5 => ?_
  have b5 := h5.blk
  have z4 := x4.size
  have z5 := h5.size
  have x45 := x4.trans h5.ext
  (repeat first | with_reducible first | refine jq ?_ | refine jk ?_ | refine jc ?_ | refine jl ?_ | refine jb ?_ | refine jo ?_ | refine ji ?_ | refine jx rfl ?_ | refine And.intro (by first | assumption | omega | (intros; omega)) ?_ | ((first | refine jR KL17 (by kernel_rfl) fun _ => ?_ | skip); simp only [KS, Nat.reduceAdd, Nat.reduceMul, Nat.reduceEqDiff, ↓reduceIte, forall_const, Int.cast_ofNat_Int, Int.reduceToNat, TF17, KL17, List.take_succ_cons, List.take_zero, List.drop_succ_cons, List.drop_zero]; (try simp (disch := omega) only [wrapI, tmodI, tdivI]); (fail_if_success (with_reducible show False))))
  refine SemW_set1 cells34 (re.ext x45) rfl rfl fun w6 r6 k6 s6 => ?_
  simp only [KS, Nat.reduceAdd, Nat.reduceMul, Nat.reduceEqDiff, ↓reduceIte, UT] at r6
  have hS6 : BS w pl pb pe pa vb (Bk.wrong s l) b w6 := by
    refine ⟨Keep.ext (x3.trans x45) k6 fun k hk => by omega, (rl.ext x45).keep k6 (by omega), (rb.ext x45).keep k6 (by omega), r6, ?_⟩
    have := h5.row.keep k6 (by omega)
    simpa [Value.cells] using this
  obtain ⟨q3, q4⟩ := row1 hS6.e
  have fin : ∀ (v : Value) (ec : Int) (ms : List Int) (w' : World) (L : FL) (ds : List Nat), Bk.balances s l = (ms, ec) → Ext w w' → Row w' pb 25 [v] → Row w' pe 34 [.int .i64 ec] → Sl w' v ms → fnd L 4 = some (.pointer (some pb)) → fnd L 5 = some (.pointer (some pe)) → (ds = [] ∨ ∃ d, ds = [d] ∧ w'.heap[d]? = some (.deferred (some [])) ∧ w.heap.size ≤ d ∧ d ≠ pb.block ∧ d ≠ pe.block ∧ True) → 
      (∀ d w'', ds = [d] → Keep (fun b => b ≠ d) w' w'' → Sl w'' v ms) → Rets Try.prog [.cell 4 25, .cell 5 34] (fun v w' => BalRet w (Bk.balances s l) (.returned v) w') .ret ds L w' := by
    intro v ec ms w' L ds hm hx' hb' he' hs' hL1 hL2 hds hsk
    rw [hm]
    simp only [Rets]
    rcases hds with rfl | ⟨d, rfl, hd, d1, d2, d3, _⟩
    · simp only [RetM, resV]
      exact ⟨pb, _, hL1, loadVar_row rfl hb', pe, _, hL2, loadVar_row rfl he', v, rfl, hx', hs'⟩
    · refine RetM_one hd fun w'' hk _ => ?_
      simp only [resV]
      exact ⟨pb, _, hL1, loadVar_row rfl (hb'.keep hk (by omega)), pe, _, hL2, loadVar_row rfl (he'.keep hk (by omega)), v, rfl, Keep.ext hx' hk fun k hk => by omega, hsk d w'' rfl hk⟩
  (repeat first | with_reducible first | refine jq ?_ | refine jk ?_ | refine jc ?_ | refine jl ?_ | refine jb ?_ | refine jo ?_ | refine ji ?_ | refine jx rfl ?_ | refine And.intro (by first | assumption | omega | (intros; omega)) ?_ | ((first | refine jR KL17 (by kernel_rfl) fun _ => ?_ | skip); simp only [KS, Nat.reduceAdd, Nat.reduceMul, Nat.reduceEqDiff, ↓reduceIte, forall_const, Int.cast_ofNat_Int, Int.reduceToNat, TF17, KL17, List.take_succ_cons, List.take_zero, List.drop_succ_cons, List.drop_zero, q3, q4]; (try simp (disch := omega) only [wrapI, tmodI, tdivI]); (fail_if_success (with_reducible show False))))
  refine Run_condS (fun _ => rfl) (fun h => ?_) (fun h => ?_)
  · simp at h
    (repeat first | with_reducible first | refine jq ?_ | refine jk ?_ | refine jc ?_ | refine jl ?_ | refine jb ?_ | refine jo ?_ | refine ji ?_ | refine jx rfl ?_ | refine And.intro (by first | assumption | omega | (intros; omega)) ?_ | ((first | refine jR KL17 (by kernel_rfl) fun _ => ?_ | skip); simp only [KS, Nat.reduceAdd, Nat.reduceMul, Nat.reduceEqDiff, ↓reduceIte, forall_const, Int.cast_ofNat_Int, Int.reduceToNat, TF17, KL17, List.take_succ_cons, List.take_zero, List.drop_succ_cons, List.drop_zero]; (try simp (disch := omega) only [wrapI, tmodI, tdivI]); (fail_if_success (with_reducible show False))))
    refine Run_ep (id := 3) [0, 1, 3, 4, 5, 6, 7, 8, 16, 20, 21, 22, 28] (.alt 0 (.alt 1 (.alt 2 .done .stop) .stop) (.alt 1 (.alt 0 (.alt 2 .done .stop) .stop) .stop)) mixed (by kernel_rfl) (by kernel_rfl) fun w7 x7 _ => ?_
    have hS7 := hS6.keep (Keep.of_ext (S := fun _ => True) x7) (fun _ _ => trivial) trivial trivial trivial trivial
    obtain ⟨q5, q6⟩ := row1 hS7.e
    have hm : Bk.balances s l = ([], Bk.wrong s l) := by unfold Bk.balances; rw [if_pos h]
    have done_ : ∀ w', BS w pl pb pe pa vb (Bk.wrong s l) b w' → ∀ L, fnd L 4 = some (.pointer (some pb)) → fnd L 5 = some (.pointer (some pe)) → Rets Try.prog [.cell 4 25, .cell 5 34] (fun v w' => BalRet w (Bk.balances s l) (.returned v) w') .ret [] L w' :=
      fun w' hS L h1 h2 => fin _ _ _ w' L [] hm hS.ext hS.b hS.e (Sl.nil _) h1 h2 (.inl rfl) (fun d _ e => by cases e)
    (try simp only [KS, Nat.reduceAdd, Nat.reduceMul, Nat.reduceEqDiff, ↓reduceIte, forall_const, Int.cast_ofNat_Int, Int.reduceToNat, List.take_succ_cons, List.take_zero, List.drop_succ_cons, List.drop_zero, TF17, KL17, q5, q6]); (try simp (disch := omega) only [wrapI, tmodI, tdivI])
    refine ⟨?_, ?_⟩
    · refine SemW_set1 cells25 hS7.b rfl rfl fun w8 r8 k8 s8 => ?_
      have hS8 : BS w pl pb pe pa vb (Bk.wrong s l) b w8 := ⟨Keep.ext hS7.ext k8 fun k hk => by omega, hS7.l.keep k8 (by omega), r8, hS7.e.keep k8 (by omega), hS7.a.keep k8 (by omega)⟩
      refine SemW_set1 cells34 hS8.e rfl rfl fun w9 r9 k9 s9 => ?_
      have hS9 : BS w pl pb pe pa vb (Bk.wrong s l) b w9 := ⟨Keep.ext hS8.ext k9 fun k hk => by omega, hS8.l.keep k9 (by omega), hS8.b.keep k9 (by omega), r9, hS8.a.keep k9 (by omega)⟩
      (repeat first | with_reducible first | refine jq ?_ | refine jk ?_ | refine jc ?_ | refine jl ?_ | refine jb ?_ | refine jo ?_ | refine ji ?_ | refine jx rfl ?_ | refine And.intro (by first | assumption | omega | (intros; omega)) ?_ | ((first | refine jR KL17 (by kernel_rfl) fun _ => ?_ | skip); simp only [KS, Nat.reduceAdd, Nat.reduceMul, Nat.reduceEqDiff, ↓reduceIte, forall_const, Int.cast_ofNat_Int, Int.reduceToNat, TF17, KL17, List.take_succ_cons, List.take_zero, List.drop_succ_cons, List.drop_zero]; (try simp (disch := omega) only [wrapI, tmodI, tdivI]); (fail_if_success (with_reducible show False))))
      exact Run_ret (done_ w9 hS9 _ rfl rfl)
    · refine SemW_set1 cells25 hS7.b rfl rfl fun w8 r8 k8 s8 => ?_
      have hS8 : BS w pl pb pe pa vb (Bk.wrong s l) b w8 := ⟨Keep.ext hS7.ext k8 fun k hk => by omega, hS7.l.keep k8 (by omega), r8, hS7.e.keep k8 (by omega), hS7.a.keep k8 (by omega)⟩
      obtain ⟨q7, q8⟩ := row1 hS8.e
      refine ⟨q8, ?_⟩
      rw [q7]
      refine SemW_set1 cells34 hS8.e rfl rfl fun w9 r9 k9 s9 => ?_
      have hS9 : BS w pl pb pe pa vb (Bk.wrong s l) b w9 := ⟨Keep.ext hS8.ext k9 fun k hk => by omega, hS8.l.keep k9 (by omega), hS8.b.keep k9 (by omega), r9, hS8.a.keep k9 (by omega)⟩
      (repeat first | with_reducible first | refine jq ?_ | refine jk ?_ | refine jc ?_ | refine jl ?_ | refine jb ?_ | refine jo ?_ | refine ji ?_ | refine jx rfl ?_ | refine And.intro (by first | assumption | omega | (intros; omega)) ?_ | ((first | refine jR KL17 (by kernel_rfl) fun _ => ?_ | skip); simp only [KS, Nat.reduceAdd, Nat.reduceMul, Nat.reduceEqDiff, ↓reduceIte, forall_const, Int.cast_ofNat_Int, Int.reduceToNat, TF17, KL17, List.take_succ_cons, List.take_zero, List.drop_succ_cons, List.drop_zero]; (try simp (disch := omega) only [wrapI, tmodI, tdivI]); (fail_if_success (with_reducible show False))))
      exact Run_ret (done_ w9 hS9 _ rfl rfl)
  · simp at h
    have hw0 := h
    obtain rfl := hbs hw0
    rw [hw0] at hS6
    have hck : Bk.chk l = 0 := by
      unfold Bk.wrong at hw0
      split at hw0
      · exact hw0
      · rename_i hh; simpa using hh
    have hs : Bk.startOk b = true := by
      unfold Bk.wrong at hw0
      rw [if_neg (by simp [hck])] at hw0
      split at hw0
      · assumption
      · cases hw0
    have h4 : l.length ≤ 4096 ∧ Bk.allOk 0 l = true := by
      unfold Bk.chk at hck
      split at hck
      · cases hck
      · split at hck
        · exact ⟨by omega, by assumption⟩
        · cases hck
    obtain ⟨d5, d6⟩ := at_memA hS6.a.at_ (n := 115) (by simpa using hb)
    obtain ⟨q5, q6⟩ := row1 hS6.l
    (repeat first | with_reducible first | refine jq ?_ | refine jk ?_ | refine jc ?_ | refine jl ?_ | refine jb ?_ | refine jo ?_ | refine ji ?_ | refine jx rfl ?_ | refine And.intro (by first | assumption | omega | (intros; omega)) ?_ | ((first | refine jR KL17 (by kernel_rfl) fun _ => ?_ | skip); simp only [KS, Nat.reduceAdd, Nat.reduceMul, Nat.reduceEqDiff, ↓reduceIte, forall_const, Int.cast_ofNat_Int, Int.reduceToNat, TF17, KL17, List.take_succ_cons, List.take_zero, List.drop_succ_cons, List.drop_zero, d5, d6, q5, q6]; (try simp (disch := omega) only [wrapI, tmodI, tdivI]); (fail_if_success (with_reducible show False))))
    refine CallW_gen call34 (bkSteps b vb w6 hb (isS_cells hy.s)) fun e w7 ⟨ql, qb, he, rl', rb', x7, n1, n2, n3⟩ => ⟨_, he, ?_⟩
    have hS7 := hS6.keep (Keep.of_ext (S := fun _ => True) x7) (fun _ _ => trivial) trivial trivial trivial trivial
    have z6 : w6.heap.size = w5.heap.size := s6
    have z7 := x7.size
    have nl := rl'.lt
    have nb := rb'.lt
    (repeat first | with_reducible first | refine jq ?_ | refine jk ?_ | refine jc ?_ | refine jl ?_ | refine jb ?_ | refine jo ?_ | refine ji ?_ | refine jx rfl ?_ | refine And.intro (by first | assumption | omega | (intros; omega)) ?_ | ((first | refine jR KL17 (by kernel_rfl) fun _ => ?_ | skip); simp only [KS, Nat.reduceAdd, Nat.reduceMul, Nat.reduceEqDiff, ↓reduceIte, forall_const, Int.cast_ofNat_Int, Int.reduceToNat, TF17, KL17, List.take_succ_cons, List.take_zero, List.drop_succ_cons, List.drop_zero]; (try simp (disch := omega) only [wrapI, tmodI, tdivI]); (fail_if_success (with_reducible show False))))
    refine Run_iter [21, 22] (fun _ => rfl) call66 (by simp) (items b l) (fun x hx => by simp [items] at hx; obtain ⟨_, _, rfl⟩ := hx; rfl) (fun k => k = qb.block) (fun k => k < w.heap.size ∨ k = qb.block ∨ k = ql.block) (fun k hk => .inr (.inl hk)) (fun k hk => by omega)
      (fun j w' => BS w pl pb pe pa vb 0 (Bk.after b (l.take j)) w' ∧ ∀ i (h : i < l.length), i < j → Bk.paid (Bk.after b (l.take (i + 1))) l[i] = true)
      (fun e w' => e = none ∧ (∃ la, BS w pl pb pe pa vb 381 la w') ∧ ∃ k, Bk.bad b 0 l = some k)
      (fun yv J Jx w1 hc hx1 h0 => by
        have := stepsIter w ql qb vb b l hy hs h4.2 h4.1 (fun k => k < w.heap.size ∨ k = qb.block ∨ k = ql.block) (.inr (.inl rfl)) (.inr (.inr rfl)) (fun k hk => .inl hk) yv J Jx w1 hc (hS7.ext.trans hx1) (rl'.ext hx1) (rb'.ext hx1) n3 (by omega) h0
        simpa using this)
      (fun w1 hx1 _ => ⟨hS7.keep (Keep.of_ext (S := fun _ => True) hx1) (fun _ _ => trivial) trivial trivial trivial trivial, fun i h hi => by omega⟩)
      (fun j w1 w2 ⟨hS, hp⟩ hk => ⟨hS.keep hk (fun k hk => by omega) (by omega) (by omega) (by omega) (by omega), hp⟩)
      (fun e w1 w2 ⟨he, ⟨la, hS⟩, hb'⟩ hk => ⟨he, ⟨la, hS.keep hk (fun k hk => by omega) (by omega) (by omega) (by omega) (by omega)⟩, hb'⟩) ?_ ?_ ?_
    · intro j hj w8 ⟨hS8, hp⟩ z8
      rw [items_get hj]
      rw [items_len] at hj
      simp only [zipL]
      have hlim := Bk.lim_after hs h4.2 (j + 1) (by omega)
      have hmv := Bk.allOk_get hj h4.2
      simp only [Bk.mOk, decide_eq_true_eq] at hmv
      (repeat first | with_reducible first | refine jq ?_ | refine jk ?_ | refine jc ?_ | refine jl ?_ | refine jb ?_ | refine jo ?_ | refine ji ?_ | refine jx rfl ?_ | refine And.intro (by first | assumption | omega | (intros; omega)) ?_ | ((first | refine jR KL17 (by kernel_rfl) fun _ => ?_ | skip); simp only [KS, Nat.reduceAdd, Nat.reduceMul, Nat.reduceEqDiff, ↓reduceIte, forall_const, Int.cast_ofNat_Int, Int.reduceToNat, TF17, KL17, List.take_succ_cons, List.take_zero, List.drop_succ_cons, List.drop_zero]; (try simp (disch := omega) only [wrapI, tmodI, tdivI]); (fail_if_success (with_reducible show False))))
      refine SemW_var ti71 rfl (by simp [Value.cells, hlim.2]) (by decide) (by simpa [Value.cells] using one_ints _) fun pn w9 h9 => ?_
      have b9 := h9.blk
      have z9 := h9.size
      have r9 : Row w9 pn 71 (ints (Bk.after b (l.take (j + 1)))) := by simpa [Value.cells] using h9.row
      have hS9 := hS8.keep (Keep.of_ext (S := fun _ => True) h9.ext) (fun _ _ => trivial) trivial trivial trivial trivial
      (repeat first | with_reducible first | refine jq ?_ | refine jk ?_ | refine jc ?_ | refine jl ?_ | refine jb ?_ | refine jo ?_ | refine ji ?_ | refine jx rfl ?_ | refine And.intro (by first | assumption | omega | (intros; omega)) ?_ | ((first | refine jR KL17 (by kernel_rfl) fun _ => ?_ | skip); simp only [KS, Nat.reduceAdd, Nat.reduceMul, Nat.reduceEqDiff, ↓reduceIte, forall_const, Int.cast_ofNat_Int, Int.reduceToNat, TF17, KL17, List.take_succ_cons, List.take_zero, List.drop_succ_cons, List.drop_zero]; (try simp (disch := omega) only [wrapI, tmodI, tdivI]); (fail_if_success (with_reducible show False))))
      refine Run_lp ⟨Keep.of_ext h9.ext, fun w10 k10 z10 => ?_⟩
      have hS10 := hS9.keep k10 (fun k hk => by omega) (by omega) (by omega) (by omega) (by omega)
      have r10 := r9.keep k10 (by omega)
      obtain ⟨q7, q8⟩ := row1 hS10.l
      have f1 := moveAt (hy.ext hS10.ext) hj
      simp only [MoveD.cs, AtN, KS, Nat.reduceAdd, Nat.reduceMul, Nat.reduceEqDiff, ↓reduceIte, UT] at f1
      (repeat first | with_reducible first | refine jq ?_ | refine jk ?_ | refine jc ?_ | refine jl ?_ | refine jb ?_ | refine jo ?_ | refine ji ?_ | refine jx rfl ?_ | refine And.intro (by first | assumption | omega | (intros; omega)) ?_ | ((first | refine jR KL17 (by kernel_rfl) fun _ => ?_ | skip); simp only [KS, Nat.reduceAdd, Nat.reduceMul, Nat.reduceEqDiff, ↓reduceIte, forall_const, Int.cast_ofNat_Int, Int.reduceToNat, TF17, KL17, List.take_succ_cons, List.take_zero, List.drop_succ_cons, List.drop_zero, q7, q8, hy.s, hy.len, f1]; (try simp (disch := omega) only [wrapI, tmodI, tdivI]); (fail_if_success (with_reducible show False))))
      refine CallW_pure call35 (bkPaid pn _ l[j] w10 r10.at_ hlim.2 (by omega) (by omega)) fun w11 x11 => ?_
      have hS11 := hS10.keep (Keep.of_ext (S := fun _ => True) x11) (fun _ _ => trivial) trivial trivial trivial trivial
      have r11 := r10.ext x11
      have z11 := x11.size
      (repeat first | with_reducible first | refine jq ?_ | refine jk ?_ | refine jc ?_ | refine jl ?_ | refine jb ?_ | refine jo ?_ | refine ji ?_ | refine jx rfl ?_ | refine And.intro (by first | assumption | omega | (intros; omega)) ?_ | ((first | refine jR KL17 (by kernel_rfl) fun _ => ?_ | skip); simp only [KS, Nat.reduceAdd, Nat.reduceMul, Nat.reduceEqDiff, ↓reduceIte, forall_const, Int.cast_ofNat_Int, Int.reduceToNat, TF17, KL17, List.take_succ_cons, List.take_zero, List.drop_succ_cons, List.drop_zero]; (try simp (disch := omega) only [wrapI, tmodI, tdivI]); (fail_if_success (with_reducible show False))))
      refine Run_condS (fun _ => rfl) (fun h => ?_) (fun h => ?_)
      · simp at h
        (repeat first | with_reducible first | refine jq ?_ | refine jk ?_ | refine jc ?_ | refine jl ?_ | refine jb ?_ | refine jo ?_ | refine ji ?_ | refine jx rfl ?_ | refine And.intro (by first | assumption | omega | (intros; omega)) ?_ | ((first | refine jR KL17 (by kernel_rfl) fun _ => ?_ | skip); simp only [KS, Nat.reduceAdd, Nat.reduceMul, Nat.reduceEqDiff, ↓reduceIte, forall_const, Int.cast_ofNat_Int, Int.reduceToNat, TF17, KL17, List.take_succ_cons, List.take_zero, List.drop_succ_cons, List.drop_zero]; (try simp (disch := omega) only [wrapI, tmodI, tdivI]); (fail_if_success (with_reducible show False))))
        refine SemW_set1 cells25 hS11.b rfl rfl fun w12 r12 k12 s12 => ?_
        have hS12 : BS w pl pb pe pa vb 0 (Bk.after b (l.take j)) w12 := ⟨Keep.ext hS11.ext k12 fun k hk => by omega, hS11.l.keep k12 (by omega), r12, hS11.e.keep k12 (by omega), hS11.a.keep k12 (by omega)⟩
        (repeat first | with_reducible first | refine jq ?_ | refine jk ?_ | refine jc ?_ | refine jl ?_ | refine jb ?_ | refine jo ?_ | refine ji ?_ | refine jx rfl ?_ | refine And.intro (by first | assumption | omega | (intros; omega)) ?_ | ((first | refine jR KL17 (by kernel_rfl) fun _ => ?_ | skip); simp only [KS, Nat.reduceAdd, Nat.reduceMul, Nat.reduceEqDiff, ↓reduceIte, forall_const, Int.cast_ofNat_Int, Int.reduceToNat, TF17, KL17, List.take_succ_cons, List.take_zero, List.drop_succ_cons, List.drop_zero]; (try simp (disch := omega) only [wrapI, tmodI, tdivI]); (fail_if_success (with_reducible show False))))
        refine SemW_set1 cells34 hS12.e rfl rfl fun w13 r13 k13 s13 => ?_
        have hS13 : BS w pl pb pe pa vb 381 (Bk.after b (l.take j)) w13 := ⟨Keep.ext hS12.ext k13 fun k hk => by omega, hS12.l.keep k13 (by omega), hS12.b.keep k13 (by omega), r13, hS12.a.keep k13 (by omega)⟩
        (repeat first | with_reducible first | refine jq ?_ | refine jk ?_ | refine jc ?_ | refine jl ?_ | refine jb ?_ | refine jo ?_ | refine ji ?_ | refine jx rfl ?_ | refine And.intro (by first | assumption | omega | (intros; omega)) ?_ | ((first | refine jR KL17 (by kernel_rfl) fun _ => ?_ | skip); simp only [KS, Nat.reduceAdd, Nat.reduceMul, Nat.reduceEqDiff, ↓reduceIte, forall_const, Int.cast_ofNat_Int, Int.reduceToNat, TF17, KL17, List.take_succ_cons, List.take_zero, List.drop_succ_cons, List.drop_zero]; (try simp (disch := omega) only [wrapI, tmodI, tdivI]); (fail_if_success (with_reducible show False))))
        refine Run_ret ⟨((Keep.of_ext x11).trans (k12.mono fun k _ hk => by omega)).trans (k13.mono fun k _ hk => by omega), rfl, ⟨_, hS13⟩, _, bad_at l b 0 j hj (fun i hi hij => hp i hi hij) h⟩
      · simp at h
        obtain ⟨d7, d8⟩ := at_memA r11.at_ (n := 115) (by simpa using hlim.2)
        (repeat first | with_reducible first | refine jq ?_ | refine jk ?_ | refine jc ?_ | refine jl ?_ | refine jb ?_ | refine jo ?_ | refine ji ?_ | refine jx rfl ?_ | refine And.intro (by first | assumption | omega | (intros; omega)) ?_ | ((first | refine jR KL17 (by kernel_rfl) fun _ => ?_ | skip); simp only [KS, Nat.reduceAdd, Nat.reduceMul, Nat.reduceEqDiff, ↓reduceIte, forall_const, Int.cast_ofNat_Int, Int.reduceToNat, TF17, KL17, List.take_succ_cons, List.take_zero, List.drop_succ_cons, List.drop_zero, d7, d8]; (try simp (disch := omega) only [wrapI, tmodI, tdivI]); (fail_if_success (with_reducible show False))))
        refine SemW_setW c45 (by simp [Value.cells, hlim.2, cells71]) hS11.a (by rw [ints_len, (Bk.lim_after hs h4.2 j (by omega)).2, cells71]) (by simpa [Value.cells] using one_ints _) fun w12 r12 k12 s12 => ?_
        have hS12 : BS w pl pb pe pa vb 0 (Bk.after b (l.take (j + 1))) w12 := ⟨Keep.ext hS11.ext k12 fun k hk => by omega, hS11.l.keep k12 (by omega), hS11.b.keep k12 (by omega), hS11.e.keep k12 (by omega), by simpa [Value.cells] using r12⟩
        (repeat first | with_reducible first | refine jq ?_ | refine jk ?_ | refine jc ?_ | refine jl ?_ | refine jb ?_ | refine jo ?_ | refine ji ?_ | refine jx rfl ?_ | refine And.intro (by first | assumption | omega | (intros; omega)) ?_ | ((first | refine jR KL17 (by kernel_rfl) fun _ => ?_ | skip); simp only [KS, Nat.reduceAdd, Nat.reduceMul, Nat.reduceEqDiff, ↓reduceIte, forall_const, Int.cast_ofNat_Int, Int.reduceToNat, TF17, KL17, List.take_succ_cons, List.take_zero, List.drop_succ_cons, List.drop_zero]; (try simp (disch := omega) only [wrapI, tmodI, tdivI]); (fail_if_success (with_reducible show False))))
        refine Run_nil ⟨(Keep.of_ext x11).trans (k12.mono fun k _ hk => by omega), hS12, fun i hi hij => ?_⟩
        by_cases e : i = j
        · subst e; exact h
        · exact hp i hi (by omega)
    · intro w8 ⟨hS8, hp⟩ hd
      rw [items_len, List.take_length] at hS8
      rw [items_len] at hp
      have hlim := Bk.lim_after hs h4.2 l.length (by omega)
      rw [List.take_length] at hlim
      have hI : ∀ x ∈ Bk.after b l, I64 x := fun x hx => by
        obtain ⟨k, hk, rfl⟩ := List.getElem_of_mem hx
        have := hlim.1 k (by omega)
        have e : Bk.lo (Bk.after b l) k = (Bk.after b l)[k] := by simp [Bk.lo, List.getD_eq_getElem?_getD, hk]
        rw [e] at this
        unfold I64; omega
      have sl8 : Sl w8 (.slice (some pa) 115 115) (Bk.after b l) := by
        have := rowInts hS8.a hI (by omega)
        rwa [hlim.2] at this
      (repeat first | with_reducible first | refine jq ?_ | refine jk ?_ | refine jc ?_ | refine jl ?_ | refine jb ?_ | refine jo ?_ | refine ji ?_ | refine jx rfl ?_ | refine And.intro (by first | assumption | omega | (intros; omega)) ?_ | ((first | refine jR KL17 (by kernel_rfl) fun _ => ?_ | skip); simp only [KS, Nat.reduceAdd, Nat.reduceMul, Nat.reduceEqDiff, ↓reduceIte, forall_const, Int.cast_ofNat_Int, Int.reduceToNat, TF17, KL17, List.take_succ_cons, List.take_zero, List.drop_succ_cons, List.drop_zero]; (try simp (disch := omega) only [wrapI, tmodI, tdivI]); (fail_if_success (with_reducible show False))))
      refine CallW_gen call36 (bkClone _ _ w8 sl8 (by omega)) fun e w9 ⟨v, he, x9, s9, hv⟩ => ⟨_, he, ?_⟩
      have hS9 := hS8.keep (Keep.of_ext (S := fun _ => True) x9) (fun _ _ => trivial) trivial trivial trivial trivial
      have hz8 : w7.heap.size < w8.heap.size := (Array.getElem?_eq_some_iff.1 hd).1
      have hd9 := (x9.block _ hz8).trans hd
      have hv := hv (fun e => by have := hlim.2; rw [e] at this; cases this)
      have u1 := hS8.b.lt
      have u2 := hS8.e.lt
      (repeat first | with_reducible first | refine jq ?_ | refine jk ?_ | refine jc ?_ | refine jl ?_ | refine jb ?_ | refine jo ?_ | refine ji ?_ | refine jx rfl ?_ | refine And.intro (by first | assumption | omega | (intros; omega)) ?_ | ((first | refine jR KL17 (by kernel_rfl) fun _ => ?_ | skip); simp only [KS, Nat.reduceAdd, Nat.reduceMul, Nat.reduceEqDiff, ↓reduceIte, forall_const, Int.cast_ofNat_Int, Int.reduceToNat, TF17, KL17, List.take_succ_cons, List.take_zero, List.drop_succ_cons, List.drop_zero]; (try simp (disch := omega) only [wrapI, tmodI, tdivI]); (fail_if_success (with_reducible show False))))
      refine SemW_set1 cells25 hS9.b (isS_one s9.s).1 (isS_one s9.s).2 fun w10 r10 k10 z10 => ?_
      rw [isS_cells s9.s] at r10
      refine SemW_set1 cells34 (hS9.e.keep k10 (by omega)) rfl rfl fun w11 r11 k11 z11 => ?_
      simp only [KS, Nat.reduceAdd, Nat.reduceMul, Nat.reduceEqDiff, ↓reduceIte, UT] at r11
      (repeat first | with_reducible first | refine jq ?_ | refine jk ?_ | refine jc ?_ | refine jl ?_ | refine jb ?_ | refine jo ?_ | refine ji ?_ | refine jx rfl ?_ | refine And.intro (by first | assumption | omega | (intros; omega)) ?_ | ((first | refine jR KL17 (by kernel_rfl) fun _ => ?_ | skip); simp only [KS, Nat.reduceAdd, Nat.reduceMul, Nat.reduceEqDiff, ↓reduceIte, forall_const, Int.cast_ofNat_Int, Int.reduceToNat, TF17, KL17, List.take_succ_cons, List.take_zero, List.drop_succ_cons, List.drop_zero]; (try simp (disch := omega) only [wrapI, tmodI, tdivI]); (fail_if_success (with_reducible show False))))
      have hm : Bk.balances b l = (Bk.after b l, 0) := by
        unfold Bk.balances
        rw [if_neg (by simp [hw0]), bad_prefix (s := b) (l := l) l b 0 fun k hk => hp k hk hk]
      refine Run_ret (fin v 0 (Bk.after b l) w11 _ [w7.heap.size] hm (Keep.ext (Keep.ext hS9.ext k10 fun k hk => by omega) k11 fun k hk => by omega) (r10.keep k11 (by omega)) r11 ((s9.keepF k10 fun _ => by omega).keepF k11 fun _ => by omega) rfl rfl (.inr ⟨_, rfl, ?_, by omega, by omega, by omega, trivial⟩) fun d w'' hdd hk => ?_)
      · rw [k11.block _ (by have := x9.size; omega) (by omega), k10.block _ (by have := x9.size; omega) (by omega)]; exact hd9
      · injection hdd with hdd
        exact ((s9.keepF k10 fun _ => by omega).keepF k11 fun _ => by omega).keepF hk fun _ => by omega
    · rintro e w8 ⟨rfl, ⟨la, hS8⟩, k, hk⟩ hd
      unfold xcode
      have hm : Bk.balances b l = ([], 381) := by
        unfold Bk.balances
        rw [if_neg (by simp [hw0]), hk]
      exact Run_ret (fin _ 381 [] w8 _ [w7.heap.size] hm hS8.ext hS8.b hS8.e (Sl.nil _) rfl rfl (.inr ⟨_, rfl, hd, by omega, by omega, by omega, trivial⟩) fun _ _ _ _ => Sl.nil _)
end Go.Proofs.Ytcncbmdkifdggaa
