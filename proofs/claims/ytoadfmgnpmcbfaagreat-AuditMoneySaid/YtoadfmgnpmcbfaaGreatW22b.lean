/- Chapter 21: prices and shares. -/
import Derived.Test.YtoadfmgnpmcbfaaGreatW21b
import Derived.Test.YtoadfmgnpmcbfaaGreatW22a
import Derived.Test.YtoadfmgnpmcbfaaGreatLit
import Derived.Test.YtoadfmgnpmcbfaaGreatOwn
import Derived.Test.YtoadfmgnpmcbfaaGreatBufO
namespace Go.Proofs.YtoadfmgnpmcbfaaGreat
open Go Go.Fk
set_option linter.unusedSimpArgs false
set_option linter.unusedVariables false
set_option maxRecDepth 100000

/-- 'copy' into a row of the call's own -/
theorem SemW_copyR {P : Program} {w : World} {t t' ty e T : TypeId} {z : Value} {bytes : Nat} (ht : P.underlying t = some (.slice e)) (hT : TI P e z 1 bytes) {p a : Addr} {vs cs : List Value} {o n c m d : Nat} {K : Value → World → Prop} (hg : Row w p T vs) (hn : cs.length = Nat.min m n)
    (hat : At w a cs) (hfit : o + cs.length ≤ vs.length) (h1 : ∀ v ∈ cs, v.oneCell' = true) (hK : ∀ w', Row w' p T (vs.take o ++ cs ++ vs.drop (o + cs.length)) → Keep (fun k => k ≠ p.block) w w' → w'.heap.size = w.heap.size → K (.int .i64 cs.length) w') :
    SemW P (Builtin.copy_ #[t, t'] ty #[.slice (some (p.add o)) n c, .slice (some a) m d]) w K := by
  obtain ⟨i, hi, hz, hsz, hb⟩ := info_parts hT.h
  have hp := hg.p0
  have hpa : p.add o = ⟨p.block, o, none⟩ := by rw [hp, mk_add]
  rw [hpa]
  have hr := run_copy_row (P := P) w t t' ty e p.block o n c a m d vs.toArray T cs ht (by simp [hi, hsz]) hg.heap hn (fun j v hj => hat j v hj) (by simpa using hfit) h1
  exact SemW.of_run hr (hK _ ⟨hp, setRow_heap _ _ _ _ _ _ hg.heap⟩ ⟨rfl, rfl, rfl, by simp, fun k _ hk => setRow_other _ _ _ _ hk⟩ (by simp))
theorem mul64 (c : Nat) (hc : c ≤ 8) (w : World) : Calls Tryz.prog 169 #[.int .u64 1, .int .u64 (c : Int)] w fun e w' => e = .returned (.tuple #[.int .u64 0, .int .u64 (c : Int)]) ∧ Ext w w' := by
  refine Calls_of_Run (args := [.int .u64 1, .int .u64 (c : Int)]) (n := 51) (rs := [.tmp 4, .tmp 5]) Tryz.func169 rfl rfl rfl (by simp) ?_
  have h : c = 0 ∨ c = 1 ∨ c = 2 ∨ c = 3 ∨ c = 4 ∨ c = 5 ∨ c = 6 ∨ c = 7 ∨ c = 8 := by omega
  (repeat with_reducible first | refine js ?_ | refine ja ?_ | refine jw KL169 [] TF169 fun _ => ?_)
  refine Run_ret ?_
  simp only [Rets, RetM, resV, fnd, oneOr, ↓reduceIte]
  refine ⟨_, rfl, _, rfl, ?_, Ext.refl _⟩
  rcases h with rfl | rfl | rfl | rfl | rfl | rfl | rfl | rfl | rfl <;> rfl
theorem bitsMul (c : Nat) (hc : c ≤ 8) (w : World) : Calls Tryz.prog 113 #[.int .u64 1, .int .u64 (c : Int)] w fun e w' => e = .returned (.tuple #[.int .u64 0, .int .u64 (c : Int)]) ∧ Ext w w' := by
  refine Calls_of_Run (args := [.int .u64 1, .int .u64 (c : Int)]) (n := 30) (rs := [.tmp 4, .tmp 5]) Tryz.func113 rfl rfl rfl (by simp) ?_
  (repeat with_reducible first | refine js ?_ | refine ja ?_ | refine jw KL113 [] TF113 fun _ => ?_)
  refine Run_cond (b := false) (fun _ => rfl) (fun h => by cases h) (fun _ => ?_)
  (repeat with_reducible first | refine js ?_ | refine ja ?_ | refine jw KL113 [] TF113 fun _ => ?_)
  refine CallW_pure call169 (mul64 c hc w) fun w1 x1 => ?_
  (repeat with_reducible first | refine js ?_ | refine ja ?_ | refine jw KL113 [] TF113 fun _ => ?_)
  refine Run_ret ?_
  simp [Rets, RetM, resV, fnd, oneOr, x1]
theorem wrapU {c : Nat} (hc : c ≤ 8) : IntKind.u64.wrap (c : Int) = c ∧ IntKind.i64.wrap (c : Int) = c := by
  have h : c = 0 ∨ c = 1 ∨ c = 2 ∨ c = 3 ∨ c = 4 ∨ c = 5 ∨ c = 6 ∨ c = 7 ∨ c = 8 := by omega
  rcases h with rfl | rfl | rfl | rfl | rfl | rfl | rfl | rfl | rfl <;> exact ⟨rfl, rfl⟩
/-- the first of a row are set -/
theorem slRepeat (v : Value) (x : Int) (n : Nat) (h1 : 1 ≤ n) (h8 : n ≤ 8) (w : World) (hx : Sl w v [x]) :
    Calls Tryz.prog 61 #[v, .int .i64 (n : Int)] w fun e w' => ∃ v', e = .returned v' ∧ BufL (α := Int) 3 w w' v' (List.replicate n x) := by
  obtain ⟨f1, f2, f3⟩ := hx.get (i := 0) (by simp)
  simp only [List.getElem_cons_zero, add_zero] at f1 f2 f3
  obtain ⟨u1, u2⟩ := wrapU h8
  have hu1 : IntKind.u64.wrap 1 = 1 := rfl
  have hl : slLen v = 1 := hx.len
  refine Calls_of_Run (args := [v, .int .i64 (n : Int)]) (n := 48) (rs := [.tmp 4]) Tryz.func61 rfl rfl rfl (by simp) ?_
  (repeat with_reducible first | refine js ?_ | refine ja ?_ | refine jw KL61 [] TF61 fun _ => ?_)
  refine Run_condS (fun _ => rfl) (fun h => ?_) (fun h => ?_)
  · exfalso; simp at h; omega
  (repeat with_reducible first | refine js ?_ | refine ja ?_ | refine jw KL61 [] (aa TF61 (aa hx.s (aa hl (aa u1 hu1)))) fun _ => ?_)
  refine CallW_pure call113 (bitsMul n h8 w) fun w1 x1 => ?_
  have hd : decide (9223372036854775807 < (n : Int)) = false := by simp; omega
  have hd0 : decide ((0 : Int) < 0) = false := rfl
  (repeat with_reducible first | refine js ?_ | refine ja ?_ | refine jw KL61 [] (aa TF61 (aa hd (aa hd0 KX))) fun _ => ?_)
  refine Run_condS (fun _ => rfl) (fun h => by cases h) (fun _ => ?_)
  (repeat with_reducible first | refine js ?_ | refine ja ?_ | refine jw KL61 [] (aa TF61 u2) fun _ => ?_)
  refine SemW_make (n := n) Tryz.underlying25 ti3 (by omega) (by omega) (by unfold maxLen; omega) fun p w2 cs hcs hN hz => ?_
  have e := hz rfl rfl
  subst e
  have e2 : (Value.int .i64 0).cells[0]! = Value.int .i64 0 := rfl
  rw [e2] at hN
  have r2 := hN.row
  have b2 := hN.blk
  have x2 := hN.ext
  obtain ⟨a, c, hv⟩ : ∃ a c, v = .slice (some a) 1 c := by
    rcases hx.s.ex with rfl | ⟨a, n, c, rfl⟩
    · simp at hl
    · simp at hl; subst hl; exact ⟨a, c, rfl⟩
  subst hv
  simp only [slAt_mk] at f1 f2
  (repeat with_reducible first | refine js ?_ | refine ja ?_ | refine jw KL61 [] TF61 fun _ => ?_)
  have ha : At w2 a [.int .i64 x] := fun j u hj => by
    have hj0 : j = 0 := by have := (List.getElem?_eq_some_iff.1 hj).1; simpa using this
    subst hj0
    simp at hj; subst hj
    rw [add_zero, (x1.trans x2).cell f2]
    simpa using f1
  have hcp := SemW_copyR (P := Tryz.prog) (T := 3) (t := 25) (t' := 25) (ty := 3) Tryz.underlying25 ti3 (o := 0) (n := n) (c := n) (m := 1) (d := c) r2 (cs := [.int .i64 x]) (by simp [Nat.min_def]; omega) ha (by simp; omega) (by simp; rfl)
    (K := fun v w' => v = .int .i64 1 ∧ Row w' p 3 (.int .i64 x :: List.replicate (n - 1) (.int .i64 0)) ∧ Keep (fun k => k ≠ p.block) w2 w') (fun w' r k _ => ⟨rfl, by
      have e : List.take 0 (List.replicate n (Value.int .i64 0)) ++ [Value.int .i64 x] ++ List.drop (0 + [Value.int .i64 x].length) (List.replicate n (Value.int .i64 0)) = .int .i64 x :: List.replicate (n - 1) (.int .i64 0) := by simp
      rw [e] at r; exact r, k⟩)
  rw [add_zero] at hcp
  refine hcp.mono fun v3 w3 ⟨e3, r3, k3⟩ => ?_
  subst e3
  have y3 : Ext w w3 := Keep.ext (x1.trans x2) k3 fun q hq => by have := x1.size; omega
  (repeat with_reducible first | refine js ?_ | refine ja ?_ | refine jw KL61 [] TF61 fun _ => ?_)
  refine Run_loopV [8, 37] (σ := Nat) (fun k => [(8, some (.int .i64 k))]) (fun k w' => 1 ≤ k ∧ k ≤ n ∧ Row w' p 3 (List.replicate k (.int .i64 x) ++ List.replicate (n - k) (.int .i64 0)) ∧ Ext w w') (fun k => n - k) 1 (by simp [SubB, fnd]) ⟨by omega, by omega, by simpa using r3, y3⟩ ?_
  rintro k w4 ⟨hk1, hkn, r4, y4⟩
  (repeat with_reducible first | refine js ?_ | refine ja ?_ | refine jw KL61 [] TF61 fun _ => ?_)
  refine Run_condS (fun _ => rfl) (fun h => ?_) (fun h => ?_)
  · simp at h
    have e5 : (k : Int).toNat = k := by omega
    have e6 : (n : Int).toNat = n := by omega
    (repeat with_reducible first | refine jq ?_ | refine jk ?_ | refine jc ?_ | refine jl ?_ | refine jb ?_ | refine jo ?_ | refine ji ?_ | refine jx rfl ?_)
    refine Run_ep (id := 9) [0, 1, 4, 5, 6, 7, 8, 10, 26, 37] (.first 0 (.first 1 (.first 2 (.first 3 (.first 4 (.first 5 (.first 6 (.alt 7 (.first 8 (.first 9 .done)) .stop)))))))) mixed (by kernel_rfl) (by kernel_rfl) fun w5 x5 _ => ?_
    (try simp (maxSteps := 5000000) only [KS, Nat.reduceAdd, Nat.reduceMul, Nat.reduceEqDiff, ↓reduceIte, forall_const, Int.cast_ofNat_Int, Int.reduceToNat, List.take_succ_cons, List.take_zero, List.drop_succ_cons, List.drop_zero, TF61, KL61, slSub, e5, e6]); (try simp (disch := omega) only [wrapI, tmodI, tdivI])
    have r5 := r4.ext x5
    have hne : ¬ n = k := by omega
    have hn0 : ¬ n = 0 := by omega
    rw [if_neg hne, if_neg hn0]
    refine ⟨⟨by omega, by omega, fun h => h.elim, fun h => h⟩, ⟨by omega, by omega, by omega, fun h => h.elim⟩, ?_⟩
    have hrep : (List.replicate k (Value.int .i64 x) ++ List.replicate (n - k) (Value.int .i64 0)).length = n := by simp; omega
    have ha : At w5 p (List.replicate (min k (n - k)) (Value.int .i64 x)) := fun j u hj => by
      have hj' : j < min k (n - k) := by have := (List.getElem?_eq_some_iff.1 hj).1; simpa using this
      refine r5.at_ j u ?_
      rw [List.getElem?_append_left (by simp; omega), List.getElem?_replicate, if_pos (by omega)]
      rw [List.getElem?_replicate, if_pos hj'] at hj
      exact hj
    refine SemW_copyR Tryz.underlying25 ti3 (o := k) (n := n - k) (c := n - k) (m := k - 0) (d := n - 0) r5 (cs := List.replicate (min k (n - k)) (Value.int .i64 x)) (by simp [Nat.min_def]) ha (by simp; omega) (fun v hv => by rw [(List.mem_replicate.1 hv).2]; rfl) fun w6 r6 k6 z6 => ?_
    have hx5 := y4.trans x5
    have y6 : Ext w w6 := Keep.ext hx5 k6 fun q hq => by have := x1.size; omega
    have hm : k + min k (n - k) ≤ n := by omega
    have e7 : (List.replicate k (Value.int .i64 x) ++ List.replicate (n - k) (Value.int .i64 0)).take k ++ List.replicate (min k (n - k)) (Value.int .i64 x) ++ (List.replicate k (Value.int .i64 x) ++ List.replicate (n - k) (Value.int .i64 0)).drop (k + (List.replicate (min k (n - k)) (Value.int .i64 x)).length) = List.replicate (k + min k (n - k)) (.int .i64 x) ++ List.replicate (n - (k + min k (n - k))) (.int .i64 0) := by
      rw [List.take_append_of_le_length (by simp), List.take_of_length_le (by simp), List.drop_append]
      simp only [List.length_replicate, List.drop_replicate]
      rw [List.replicate_append_replicate, show k - (k + min k (n - k)) = 0 by omega, show n - k - (k + min k (n - k) - k) = n - (k + min k (n - k)) by omega]
      simp
    rw [e7] at r6
    have hlen : ((List.replicate (min k (n - k)) (Value.int .i64 x)).length : Int) = (min k (n - k) : Nat) := by simp
    rw [hlen]
    (try simp (maxSteps := 5000000) only [KS, Nat.reduceAdd, Nat.reduceMul, Nat.reduceEqDiff, ↓reduceIte, forall_const, Int.cast_ofNat_Int, Int.reduceToNat, List.take_succ_cons, List.take_zero, List.drop_succ_cons, List.drop_zero, TF61, KL61]); (try simp (disch := omega) only [wrapI, tmodI, tdivI])
    (repeat with_reducible first | refine js ?_ | refine ja ?_ | refine jw KL61 [] TF61 fun _ => ?_)
    refine Run_lp ⟨k + min k (n - k), ?_, ⟨by omega, hm, r6, y6⟩, by omega⟩
    have e8 : (k : Int) + (min k (n - k) : Nat) = (k + min k (n - k) : Nat) := by omega
    rw [e8]
    simp [SubB, fnd, strike, has]
  · simp at h
    obtain rfl : k = n := by omega
    (repeat with_reducible first | refine js ?_ | refine ja ?_ | refine jw KL61 [] TF61 fun _ => ?_)
    refine Run_ret ?_
    simp only [Rets, RetM, resV, fnd, oneOr, ↓reduceIte]
    refine ⟨_, rfl, _, rfl, ?_⟩
    rw [Nat.sub_self, List.replicate_zero, List.append_nil] at r4
    refine BufL.back (css := (List.replicate k [Value.int .i64 x])) (rest := []) (cap := k) y4 ⟨by simp, fun i h1 h2 => by simp; exact ⟨rfl, f3⟩⟩ ?_ (by simp) (by simp) (by unfold maxLen; omega) (by simp [Enc.n]) (by simp; have := x1.size; omega)
    have e9 : (List.replicate k [Value.int .i64 x]).flatten ++ [] = List.replicate k (Value.int .i64 x) := by
      rw [List.append_nil]
      have : ∀ j : Nat, (List.replicate j [Value.int .i64 x]).flatten = List.replicate j (Value.int .i64 x) := fun j => by
        induction j with
        | zero => rfl
        | succ j ih => rw [List.replicate_succ, List.flatten_cons, ih]; rfl
      exact this k
    rw [e9]
    exact r4
end Go.Proofs.YtoadfmgnpmcbfaaGreat
