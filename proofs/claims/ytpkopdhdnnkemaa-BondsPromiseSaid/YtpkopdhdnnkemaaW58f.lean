/- Chapter 58: bonds pay exactly what was promised: BondsPromise. -/
import Derived.Test.YtpkopdhdnnkemaaW58e
import Derived.Test.YtpkopdhdnnkemaaP58b
namespace Go.Proofs.Ytpkopdhdnnkemaa
open Go Go.Fk
set_option linter.unusedSimpArgs false
set_option linter.unusedVariables false
set_option maxRecDepth 100000

/-- where the law keeps its things -/
structure PS (W : World) (pl pg : Addr) (vall : Value) (ms : List MoveD) (left got : List Int) (w : World) : Prop where
  ext : Ext W w
  l : Row w pl 39 (ints left)
  g : Row w pg 40 (ints got)
  a : BufO (α := MoveD) 36 W.heap.size w vall ms
theorem PS.keep {W w1 w2 : World} {pl pg : Addr} {vall : Value} {ms : List MoveD} {left got : List Int} {S : Nat → Prop} (h : PS W pl pg vall ms left got w1) (hk : Keep S w1 w2) (hw : ∀ k, k < W.heap.size → S k) (h1 : S pl.block) (h2 : S pg.block) (h3 : ∀ g, W.heap.size ≤ g → g < w1.heap.size → vall.ownBlock = some g → S g) : PS W pl pg vall ms left got w2 :=
  ⟨Keep.ext h.ext hk hw, h.l.keep hk h1, h.g.keep hk h2, by
    obtain ⟨css, hc, hb⟩ := h.a.ex
    exact ⟨css, hc.any, ownsRow_blk hb fun g hg => by
      obtain ⟨q1, q2⟩ := hb.lt g hg
      exact hk.block g q2 (h3 g q1 q2 hg)⟩⟩
theorem PS.more {W w1 w2 : World} {pl pg : Addr} {vall : Value} {ms : List MoveD} {left got : List Int} (h : PS W pl pg vall ms left got w1) (hx : Ext w1 w2) : PS W pl pg vall ms left got w2 :=
  h.keep (Keep.of_ext (S := fun _ => True) hx) (fun _ _ => trivial) trivial trivial fun _ _ _ _ => trivial
/-- what is known of the numbers -/
structure PN (n : Nat) (a : Int) (ms : List MoveD) (left got : List Int) (sum : Int) (k : Nat) : Prop where
  st : Bd.St ms left got (-(n * a))
  tot : Bd.sm left + sum = n * a
  len : ms.length ≤ n + k
  lb : ∀ x ∈ left, Bd.am x = true
  gb : ∀ x ∈ got, 0 ≤ x ∧ x ≤ 1099511627776 * k
  sb : 0 ≤ sum ∧ sum ≤ 1099511627776 * k
theorem PN.next {n : Nat} {a : Int} {ms : List MoveD} {left got : List Int} {sum : Int} {k : Nat} (h : PN n a ms left got sum k) : PN n a ms left got sum (k + 1) :=
  ⟨h.st, h.tot, by have := h.len; omega, h.lb, fun x hx => by have := h.gb x hx; omega, by have := h.sb; omega⟩
theorem PN.pay {n : Nat} {a : Int} {ms : List MoveD} {left got : List Int} {sum p : Int} {k o s : Nat} (h : PN n a ms left got sum k) (ho : o < 24) (hs : s < 64) (hp : 0 ≤ p) :
    PN n a (ms ++ [Bd.numb 0 (Bd.payM o s 0 (min p (Bk.lo left o)))]) (left.set o (Bk.lo left o - min p (Bk.lo left o))) (got.set s (Bk.lo got s + min p (Bk.lo left o))) (sum + min p (Bk.lo left o)) (k + 1) := by
  have hol : o < left.length := by rw [h.st.ll]; exact ho
  have hsl : s < got.length := by rw [h.st.gl]; exact hs
  have e1 := Bd.lo_get hol
  have e2 := Bd.lo_get hsl
  have b1 := h.lb _ (List.getElem_mem hol)
  have b2 := h.gb _ (List.getElem_mem hsl)
  rw [e1] at b1
  rw [e2] at b2
  simp only [Bd.am, decide_eq_true_eq] at b1
  refine ⟨h.st.pay (by simp only [Bd.am, decide_eq_true_eq]; omega) ho hs (by omega), ?_, ?_, fun x hx => ?_, fun x hx => ?_, ?_⟩
  · rw [Bd.sm_set _ _ hol, e1]; have := h.tot; omega
  · have := h.len; simp; omega
  · rcases List.mem_or_eq_of_mem_set hx with hx | rfl
    · exact h.lb x hx
    · simp only [Bd.am, decide_eq_true_eq]; omega
  · rcases List.mem_or_eq_of_mem_set hx with hx | rfl
    · have := h.gb x hx; omega
    · omega
  · have := h.sb; omega
theorem isS_o {v : Value} (h : IsS v) : v.oneCell' = true := by
  rcases h.ex with rfl | ⟨a, n, c, rfl⟩ <;> rfl
theorem BufO.keepO {α : Type} [Enc α] [Flat α] {e : TypeId} {B : Nat} {w w' : World} {v : Value} {xs : List α} {S : Nat → Prop} (h : BufO e B w v xs) (k : Keep S w w') (hS : ∀ g, v.ownBlock = some g → S g) : BufO e B w' v xs := by
  obtain ⟨css, hc, hb⟩ := h.ex
  exact ⟨css, hc.any, ownsRow_blk hb fun g hg => k.block g (hb.lt g hg).2 (hS g hg)⟩
theorem balW {va vb : Value} {s : List Int} {l : List MoveD} {r : List Int × Int} {w : World} {K : Value → World → Prop} (h : Bk.balances s l = r) (hx : Sl w va s) (hy : Sl w vb l) (hK : ∀ v w', Ext w w' → Sl w' v r.1 → K (.tuple #[v, .int .i64 r.2]) w') :
    CallW Try.prog (.func (.func 17) #[] #[]) [va, vb] w K := by
  subst h; exact CallW_gen call17 (bkBalances va vb s l w hx hy) fun e w' ⟨v, he, x, hs⟩ => ⟨_, he, hK v w' x hs⟩
theorem m39 : manyCell Try.prog 39 = true := by kernel_rfl

set_option maxHeartbeats 8000000 in
theorem lawPromise (o a : Int) (vc : Value) (cl : List ClaimD) (w : World) (h0 : 0 ≤ o) (h1 : o ≤ 255) (ha : I64 a) (hx : Sl w vc cl) :
    Calls Try.prog 6 #[.int .u8 o, .int .i64 a, vc] w fun e w' => Yes e ∧ Ext w w' := by
  have hcl := hx.len
  refine Calls_of_Run (args := [.int .u8 o, .int .i64 a, vc]) (n := 245) (rs := [.tmp 6]) Try.func6 rfl rfl rfl (by simp) ?_
  (repeat first | with_reducible first | refine jq ?_ | refine jk ?_ | refine jc ?_ | refine jl ?_ | refine jb ?_ | refine jo ?_ | refine ji ?_ | refine jx rfl ?_ | refine And.intro (by first | assumption | omega | (intros; omega)) ?_ | ((first | refine jR KL6 (by kernel_rfl) fun _ => ?_ | skip); simp only [KS, Nat.reduceAdd, Nat.reduceMul, Nat.reduceEqDiff, ↓reduceIte, forall_const, Int.cast_ofNat_Int, Int.reduceToNat, TF6, KL6]; (try simp (disch := omega) only [wrapI, tmodI, tdivI]); (fail_if_success (with_reducible show False))))
  refine saneW fun w1 x1 => ?_
  (repeat first | with_reducible first | refine jq ?_ | refine jk ?_ | refine jc ?_ | refine jl ?_ | refine jb ?_ | refine jo ?_ | refine ji ?_ | refine jx rfl ?_ | refine And.intro (by first | assumption | omega | (intros; omega)) ?_ | ((first | refine jR KL6 (by kernel_rfl) fun _ => ?_ | skip); simp only [KS, Nat.reduceAdd, Nat.reduceMul, Nat.reduceEqDiff, ↓reduceIte, forall_const, Int.cast_ofNat_Int, Int.reduceToNat, TF6, KL6]; (try simp (disch := omega) only [wrapI, tmodI, tdivI]); (fail_if_success (with_reducible show False))))
  refine Run_condS (fun _ => rfl) (fun h => by cases h) (fun _ => ?_)
  (repeat first | with_reducible first | refine jq ?_ | refine jk ?_ | refine jc ?_ | refine jl ?_ | refine jb ?_ | refine jo ?_ | refine ji ?_ | refine jx rfl ?_ | refine And.intro (by first | assumption | omega | (intros; omega)) ?_ | ((first | refine jR KL6 (by kernel_rfl) fun _ => ?_ | skip); simp only [KS, Nat.reduceAdd, Nat.reduceMul, Nat.reduceEqDiff, ↓reduceIte, forall_const, Int.cast_ofNat_Int, Int.reduceToNat, TF6, KL6, hx.s, hx.len]; (try simp (disch := omega) only [wrapI, tmodI, tdivI]); (fail_if_success (with_reducible show False))))
  obtain ⟨n, hn, hn24⟩ : ∃ n : Nat, o % 25 = (n : Int) ∧ n ≤ 24 := ⟨(o % 25).toNat, by omega, by omega⟩
  rw [hn]
  refine Run_condS (fun _ => rfl) (fun h => ?_) (fun h => ?_)
  · (repeat first | with_reducible first | refine jq ?_ | refine jk ?_ | refine jc ?_ | refine jl ?_ | refine jb ?_ | refine jo ?_ | refine ji ?_ | refine jx rfl ?_ | refine And.intro (by first | assumption | omega | (intros; omega)) ?_ | ((first | refine jR KL6 (by kernel_rfl) fun _ => ?_ | skip); simp only [KS, Nat.reduceAdd, Nat.reduceMul, Nat.reduceEqDiff, ↓reduceIte, forall_const, Int.cast_ofNat_Int, Int.reduceToNat, TF6, KL6]; (try simp (disch := omega) only [wrapI, tmodI, tdivI]); (fail_if_success (with_reducible show False))))
    refine Run_ret ?_
    simp [Rets, RetM, resV, fnd, oneOr, x1]
  simp only [Bool.or_eq_false_iff, decide_eq_false_iff_not] at h
  have hcn : cl.length ≤ 20 := by omega
  have ham : Bd.am a = true := by simp only [Bd.am, decide_eq_true_eq]; omega
  have hd : Bd.deposit n a = (Bd.mk (Bd.depM a) (List.replicate n 0), 0) := by unfold Bd.deposit; rw [if_pos ⟨by omega, by omega, ham⟩]; simp
  (repeat first | with_reducible first | refine jq ?_ | refine jk ?_ | refine jc ?_ | refine jl ?_ | refine jb ?_ | refine jo ?_ | refine ji ?_ | refine jx rfl ?_ | refine And.intro (by first | assumption | omega | (intros; omega)) ?_ | ((first | refine jR KL6 (by kernel_rfl) fun _ => ?_ | skip); simp only [KS, Nat.reduceAdd, Nat.reduceMul, Nat.reduceEqDiff, ↓reduceIte, forall_const, Int.cast_ofNat_Int, Int.reduceToNat, TF6, KL6]; (try simp (disch := omega) only [wrapI, tmodI, tdivI]); (fail_if_success (with_reducible show False))))
  refine depW hd ha fun v2 w2 x2 s2 b2 => ?_
  simp only at s2 b2
  (repeat first | with_reducible first | refine jq ?_ | refine jk ?_ | refine jc ?_ | refine jl ?_ | refine jb ?_ | refine jo ?_ | refine ji ?_ | refine jx rfl ?_ | refine And.intro (by first | assumption | omega | (intros; omega)) ?_ | ((first | refine jR KL6 (by kernel_rfl) fun _ => ?_ | skip); simp only [KS, Nat.reduceAdd, Nat.reduceMul, Nat.reduceEqDiff, ↓reduceIte, forall_const, Int.cast_ofNat_Int, Int.reduceToNat, TF6, KL6, s2.s, s2.len, Bd.mk_len, List.length_replicate, bne_self_eq_false, false_or, or_false, false_imp_iff, true_imp_iff, not_true_eq_false, not_false_eq_true, Bool.true_or, Bool.false_or, Bool.or_true, Bool.or_false, Bool.true_and, Bool.false_and, Bool.and_true, Bool.and_false]; (try simp (disch := omega) only [wrapI, tmodI, tdivI]); (fail_if_success (with_reducible show False))))
  refine Run_condS (fun _ => rfl) (fun h => by simp at h) (fun _ => ?_)
  (repeat first | with_reducible first | refine jq ?_ | refine jk ?_ | refine jc ?_ | refine jl ?_ | refine jb ?_ | refine jo ?_ | refine ji ?_ | refine jx rfl ?_ | refine And.intro (by first | assumption | omega | (intros; omega)) ?_ | ((first | refine jR KL6 (by kernel_rfl) fun _ => ?_ | skip); simp only [KS, Nat.reduceAdd, Nat.reduceMul, Nat.reduceEqDiff, ↓reduceIte, forall_const, Int.cast_ofNat_Int, Int.reduceToNat, TF6, KL6]; (try simp (disch := omega) only [wrapI, tmodI, tdivI]); (fail_if_success (with_reducible show False))))
  refine SemW_allocT ti39 fun pl w3 h3 => ?_
  have r3 : Row w3 pl 39 (ints (Bd.leftOf 0 a)) := h3.row
  have c3 := h3.blk
  have z3 := h3.size
  have z2 := x2.size
  (repeat first | with_reducible first | refine jq ?_ | refine jk ?_ | refine jc ?_ | refine jl ?_ | refine jb ?_ | refine jo ?_ | refine ji ?_ | refine jx rfl ?_ | refine And.intro (by first | assumption | omega | (intros; omega)) ?_ | ((first | refine jR KL6 (by kernel_rfl) fun _ => ?_ | skip); simp only [KS, Nat.reduceAdd, Nat.reduceMul, Nat.reduceEqDiff, ↓reduceIte, forall_const, Int.cast_ofNat_Int, Int.reduceToNat, TF6, KL6]; (try simp (disch := omega) only [wrapI, tmodI, tdivI]); (fail_if_success (with_reducible show False))))
  refine Run_loopV [11, 60, 61] (σ := Nat) (fun k => [(60, some (.int .i64 k))]) (fun k w' => k ≤ n ∧ Row w' pl 39 (ints (Bd.leftOf k a)) ∧ Ext w2 w') (fun k => n - k) 0 (by simp [SubB, fnd]) ⟨by omega, r3, h3.ext⟩ ?_
  rintro k w4 ⟨hk, r4, x4⟩
  (repeat first | with_reducible first | refine jq ?_ | refine jk ?_ | refine jc ?_ | refine jl ?_ | refine jb ?_ | refine jo ?_ | refine ji ?_ | refine jx rfl ?_ | refine And.intro (by first | assumption | omega | (intros; omega)) ?_ | ((first | refine jR KL6 (by kernel_rfl) fun _ => ?_ | skip); simp only [KS, Nat.reduceAdd, Nat.reduceMul, Nat.reduceEqDiff, ↓reduceIte, forall_const, Int.cast_ofNat_Int, Int.reduceToNat, TF6, KL6]; (try simp (disch := omega) only [wrapI, tmodI, tdivI]); (fail_if_success (with_reducible show False))))
  refine Run_condS (fun _ => rfl) (fun h => ?_) (fun h => ?_)
  · simp at h
    (repeat first | with_reducible first | refine jq ?_ | refine jk ?_ | refine jc ?_ | refine jl ?_ | refine jb ?_ | refine jo ?_ | refine ji ?_ | refine jx rfl ?_ | refine And.intro (by first | assumption | omega | (intros; omega)) ?_ | ((first | refine jR KL6 (by kernel_rfl) fun _ => ?_ | skip); simp only [KS, Nat.reduceAdd, Nat.reduceMul, Nat.reduceEqDiff, ↓reduceIte, forall_const, Int.cast_ofNat_Int, Int.reduceToNat, TF6, KL6]; (try simp (disch := omega) only [wrapI, tmodI, tdivI]); (fail_if_success (with_reducible show False))))
    refine SemW_setAt cells3 r4 (by simp [Bd.leftOf_len]; omega) rfl rfl fun w5 r5 k5 z5 => ?_
    rw [ints_set, Bd.leftOf_set] at r5
    (repeat first | with_reducible first | refine jq ?_ | refine jk ?_ | refine jc ?_ | refine jl ?_ | refine jb ?_ | refine jo ?_ | refine ji ?_ | refine jx rfl ?_ | refine And.intro (by first | assumption | omega | (intros; omega)) ?_ | ((first | refine jR KL6 (by kernel_rfl) fun _ => ?_ | skip); simp only [KS, Nat.reduceAdd, Nat.reduceMul, Nat.reduceEqDiff, ↓reduceIte, forall_const, Int.cast_ofNat_Int, Int.reduceToNat, TF6, KL6]; (try simp (disch := omega) only [wrapI, tmodI, tdivI]); (fail_if_success (with_reducible show False))))
    refine Run_lp ⟨k + 1, ?_, ⟨by omega, r5, Keep.ext x4 k5 fun q hq => by omega⟩, by omega⟩
    simp [SubB, fnd, strike, has]
  simp at h
  obtain rfl : n = k := by omega
  (repeat first | with_reducible first | refine jq ?_ | refine jk ?_ | refine jc ?_ | refine jl ?_ | refine jb ?_ | refine jo ?_ | refine ji ?_ | refine jx rfl ?_ | refine And.intro (by first | assumption | omega | (intros; omega)) ?_ | ((first | refine jR KL6 (by kernel_rfl) fun _ => ?_ | skip); simp only [KS, Nat.reduceAdd, Nat.reduceMul, Nat.reduceEqDiff, ↓reduceIte, forall_const, Int.cast_ofNat_Int, Int.reduceToNat, TF6, KL6]; (try simp (disch := omega) only [wrapI, tmodI, tdivI]); (fail_if_success (with_reducible show False))))
  refine SemW_allocT ti40 fun pg w5 h5 => ?_
  have r5 : Row w5 pg 40 (ints (List.replicate 64 0)) := h5.row
  have c5 := h5.blk
  have z5 := h5.size
  have z4 := x4.size
  have lt4 := r4.lt
  have S5 : PS w1 pl pg v2 (Bd.mk (Bd.depM a) (List.replicate n 0)) (Bd.leftOf n a) (List.replicate 64 0) w5 := ⟨x2.trans (x4.trans h5.ext), r4.ext h5.ext, r5, b2.keep (Keep.of_ext (S := fun _ => True) (x4.trans h5.ext)) fun _ _ _ => trivial⟩
  have hsm0 : Bd.sm (Bd.leftOf n a) = n * a := by
    have : ∀ n : Nat, n ≤ 24 → Bd.sm (Bd.leftOf n a) = n * a := by
      intro n
      induction n with
      | zero => intro _; simp [Bd.leftOf, Bd.sm, List.range, List.range.loop]
      | succ n ih =>
        intro hn
        rw [← Bd.leftOf_set, Bd.sm_set _ _ (by rw [Bd.leftOf_len]; omega), Bd.leftOf_get, ih (by omega)]
        push_cast
        rw [Int.add_mul]; simp
    exact this n hn24
  have N5 : PN n a (Bd.mk (Bd.depM a) (List.replicate n 0)) (Bd.leftOf n a) (List.replicate 64 0) 0 0 := by
    refine ⟨Bd.st_dep ham n hn24, by omega, by simp [Bd.mk_len], fun x hx => ?_, fun x hx => ?_, by omega⟩
    · obtain ⟨i, hi, rfl⟩ := List.getElem_of_mem hx
      rw [Bd.leftOf_get]
      split
      · exact ham
      · rfl
    · have := List.eq_of_mem_replicate hx; omega
  (repeat first | with_reducible first | refine jq ?_ | refine jk ?_ | refine jc ?_ | refine jl ?_ | refine jb ?_ | refine jo ?_ | refine ji ?_ | refine jx rfl ?_ | refine And.intro (by first | assumption | omega | (intros; omega)) ?_ | ((first | refine jR KL6 (by kernel_rfl) fun _ => ?_ | skip); simp only [KS, Nat.reduceAdd, Nat.reduceMul, Nat.reduceEqDiff, ↓reduceIte, forall_const, Int.cast_ofNat_Int, Int.reduceToNat, TF6, KL6, hx.s, hx.len]; (try simp (disch := omega) only [wrapI, tmodI, tdivI]); (fail_if_success (with_reducible show False))))
  refine Run_loopV [6, 8, 13, 15, 16, 17, 18, 19, 20, 69, 70, 104, 108, 146, 148] (σ := Nat × Value × Int) (fun s => [(69, some (.int .i64 s.1)), (8, some s.2.1), (13, some (.int .i64 s.2.2))]) (fun s w' => s.1 ≤ cl.length ∧ ∃ ms left got, PS w1 pl pg s.2.1 ms left got w' ∧ PN n a ms left got s.2.2 s.1) (fun s => cl.length - s.1) (0, v2, 0) (by simp [SubB, fnd]) ⟨by omega, _, _, _, S5, N5⟩ ?_
  rintro ⟨k, va, sum⟩ w6 ⟨hk, ms, left, got, S6, N6⟩
  simp only at hk S6 N6
  (repeat first | with_reducible first | refine jq ?_ | refine jk ?_ | refine jc ?_ | refine jl ?_ | refine jb ?_ | refine jo ?_ | refine ji ?_ | refine jx rfl ?_ | refine And.intro (by first | assumption | omega | (intros; omega)) ?_ | ((first | refine jR KL6 (by kernel_rfl) fun _ => ?_ | skip); simp only [KS, Nat.reduceAdd, Nat.reduceMul, Nat.reduceEqDiff, ↓reduceIte, forall_const, Int.cast_ofNat_Int, Int.reduceToNat, TF6, KL6]; (try simp (disch := omega) only [wrapI, tmodI, tdivI]); (fail_if_success (with_reducible show False))))
  refine Run_condS (fun _ => rfl) (fun h => ?_) (fun h => ?_)
  · simp at h
    have hkl : k < cl.length := by omega
    have y6 := x1.trans S6.ext
    obtain ⟨u0, f1, f2, su, i1, i2, i3, i4⟩ := (hx.ext y6).claimD hkl
    generalize cl[k] = c at *
    simp only [ClaimD.cs, AtN, KS, Nat.reduceAdd, Nat.reduceMul, Nat.reduceEqDiff, ↓reduceIte, UT] at f1
    (repeat first | with_reducible first | refine jq ?_ | refine jk ?_ | refine jc ?_ | refine jl ?_ | refine jb ?_ | refine jo ?_ | refine ji ?_ | refine jx rfl ?_ | refine And.intro (by first | assumption | omega | (intros; omega)) ?_ | ((first | refine jR KL6 (by kernel_rfl) fun _ => ?_ | skip); simp only [KS, Nat.reduceAdd, Nat.reduceMul, Nat.reduceEqDiff, ↓reduceIte, forall_const, Int.cast_ofNat_Int, Int.reduceToNat, TF6, KL6, hx.s, hx.len, f1]; (try simp (disch := omega) only [wrapI, tmodI, tdivI]); (fail_if_success (with_reducible show False))))
    refine SemW_var ti42 rfl rfl (by decide) ?_ fun pc w7 h7 => ?_
    · simp [Value.cells]; exact ⟨isS_o su.s, by simp [Value.oneCell']⟩
    have c7 := h7.blk
    have z7 := h7.size
    have S7 := S6.more h7.ext
    have su7 := su.ext h7.ext
    have q7 := h7.at_.n
    simp only [AtN, KS, Nat.reduceAdd, Nat.reduceMul, Nat.reduceEqDiff, ↓reduceIte, UT] at q7
    (repeat first | with_reducible first | refine jq ?_ | refine jk ?_ | refine jc ?_ | refine jl ?_ | refine jb ?_ | refine jo ?_ | refine ji ?_ | refine jx rfl ?_ | refine And.intro (by first | assumption | omega | (intros; omega)) ?_ | ((first | refine jR KL6 (by kernel_rfl) fun _ => ?_ | skip); simp only [KS, Nat.reduceAdd, Nat.reduceMul, Nat.reduceEqDiff, ↓reduceIte, forall_const, Int.cast_ofNat_Int, Int.reduceToNat, TF6, KL6, q7, su7.s, su7.len, false_or, or_false, false_imp_iff, true_imp_iff, not_true_eq_false, not_false_eq_true, Bool.true_or, Bool.false_or, Bool.or_true, Bool.or_false, Bool.true_and, Bool.false_and, Bool.and_true, Bool.and_false]; (try simp (disch := omega) only [wrapI, tmodI, tdivI]); (fail_if_success (with_reducible show False))))
    refine .inr ⟨.bool (Bd.formed c.Offices c.V), fun _ => PC_pure call16 fun w8 x8 => rfFormed u0 c.Offices c.V w8 (su7.ext x8), fun w8 x8 => ?_⟩
    unfold hush
    have z8 := x8.size
    have S8 := S7.more x8
    have su8 := su7.ext x8
    have q8 := (h7.at_.ext x8).n
    simp only [AtN, KS, Nat.reduceAdd, Nat.reduceMul, Nat.reduceEqDiff, ↓reduceIte, UT] at q8
    (repeat first | with_reducible first | refine jq ?_ | refine jk ?_ | refine jc ?_ | refine jl ?_ | refine jb ?_ | refine jo ?_ | refine ji ?_ | refine jx rfl ?_ | refine And.intro (by first | assumption | omega | (intros; omega)) ?_ | ((first | refine jR KL6 (by kernel_rfl) fun _ => ?_ | skip); simp only [KS, Nat.reduceAdd, Nat.reduceMul, Nat.reduceEqDiff, ↓reduceIte, forall_const, Int.cast_ofNat_Int, Int.reduceToNat, TF6, KL6, q7, q8, su7.s, su7.len, su8.s, su8.len, false_or, or_false, false_imp_iff, true_imp_iff, not_true_eq_false, not_false_eq_true, Bool.true_or, Bool.false_or, Bool.or_true, Bool.or_false, Bool.true_and, Bool.false_and, Bool.and_true, Bool.and_false]; (try simp (disch := omega) only [wrapI, tmodI, tdivI]); (fail_if_success (with_reducible show False))))
    refine Run_condS (fun _ => rfl) (fun h => ?_) (fun h => ?_)
    · (repeat first | with_reducible first | refine jq ?_ | refine jk ?_ | refine jc ?_ | refine jl ?_ | refine jb ?_ | refine jo ?_ | refine ji ?_ | refine jx rfl ?_ | refine And.intro (by first | assumption | omega | (intros; omega)) ?_ | ((first | refine jR KL6 (by kernel_rfl) fun _ => ?_ | skip); simp only [KS, Nat.reduceAdd, Nat.reduceMul, Nat.reduceEqDiff, ↓reduceIte, forall_const, Int.cast_ofNat_Int, Int.reduceToNat, TF6, KL6]; (try simp (disch := omega) only [wrapI, tmodI, tdivI]); (fail_if_success (with_reducible show False))))
      refine Run_ret ?_
      simp [Rets, RetM, resV, fnd, oneOr]
      exact x1.trans S8.ext
    simp only [Bool.or_eq_false_iff, decide_eq_false_iff_not, Bool.not_eq_false'] at h
    have hfm := h.2
    unfold Bd.formed at hfm
    rw [Bool.and_eq_true] at hfm
    have hof := offs_take.1 hfm.1
    (repeat first | with_reducible first | refine jq ?_ | refine jk ?_ | refine jc ?_ | refine jl ?_ | refine jb ?_ | refine jo ?_ | refine ji ?_ | refine jx rfl ?_ | refine And.intro (by first | assumption | omega | (intros; omega)) ?_ | ((first | refine jR KL6 (by kernel_rfl) fun _ => ?_ | skip); simp only [KS, Nat.reduceAdd, Nat.reduceMul, Nat.reduceEqDiff, ↓reduceIte, forall_const, Int.cast_ofNat_Int, Int.reduceToNat, TF6, KL6, q8, su8.s, su8.len, false_or, or_false, false_imp_iff, true_imp_iff, not_true_eq_false, not_false_eq_true, Bool.true_or, Bool.false_or, Bool.or_true, Bool.or_false, Bool.true_and, Bool.false_and, Bool.and_true, Bool.and_false]; (try simp (disch := omega) only [wrapI, tmodI, tdivI]); (fail_if_success (with_reducible show False))))
    by_cases ho : 0 ≤ c.V.Office
    · refine Run_condS (fun _ => rfl) (fun _ => ?_) (fun h => by simp at h; omega)
      have hlt : c.V.Office < c.Offices.length := by
        have := hfm.2
        split at this
        · have := of_decide_eq_true this; omega
        · have := of_decide_eq_true this; omega
      obtain ⟨f1, f2, f3⟩ := su8.get (show c.V.Office.toNat < c.Offices.length by omega)
      have hoo := (hof c.V.Office.toNat (by omega)).1
      have hgo : c.Offices.getD c.V.Office.toNat 0 = c.Offices[c.V.Office.toNat] := by simp [List.getD_eq_getElem?_getD, show c.V.Office.toNat < c.Offices.length by omega]
      obtain ⟨oo, e1, e2⟩ : ∃ oo : Nat, c.Offices[c.V.Office.toNat] = (oo : Int) ∧ oo < 24 := ⟨(c.Offices[c.V.Office.toNat]).toNat, by omega, by omega⟩
      obtain ⟨ss, g1, g2⟩ : ∃ ss : Nat, c.Sender = (ss : Int) ∧ ss < 64 := ⟨c.Sender.toNat, by omega, by omega⟩
      rw [e1] at f1 hgo
      have hll := N6.st.ll
      have hgl := N6.st.gl
      obtain ⟨d1, d2⟩ := at_int S8.l.at_ (i := oo) (by omega)
      rw [Bd.lo_get (by omega)] at d2
      have hlb := N6.lb _ (List.getElem_mem (show oo < left.length by omega))
      rw [Bd.lo_get (by omega)] at hlb
      have hgb := N6.gb _ (List.getElem_mem (show ss < got.length by omega))
      rw [Bd.lo_get (by omega)] at hgb
      have hlb' := hlb
      simp only [Bd.am, decide_eq_true_eq] at hlb'
      have hpay : Bd.pay c.Offices ⟨c.V.Office, c.V.Why⟩ c.Sender c.Price (Bk.lo left oo) = ([Bd.numb 0 (Bd.payM oo ss 0 (min c.Price (Bk.lo left oo)))], 0) := by
        unfold Bd.pay
        rw [if_pos ⟨by omega, by omega, by simp only [Bd.am, decide_eq_true_eq]; omega, hlb⟩, if_pos h.2, if_neg (by show ¬ c.V.Office < 0; omega)]
        show (Bd.mk (Bd.payM (c.Offices.getD c.V.Office.toNat 0) c.Sender) [min c.Price (Bk.lo left oo)], (0 : Int)) = _
        rw [hgo, g1]; rfl
      (repeat first | with_reducible first | refine jq ?_ | refine jk ?_ | refine jc ?_ | refine jl ?_ | refine jb ?_ | refine jo ?_ | refine ji ?_ | refine jx rfl ?_ | refine And.intro (by first | assumption | omega | (intros; omega)) ?_ | ((first | refine jR KL6 (by kernel_rfl) fun _ => ?_ | skip); simp only [KS, Nat.reduceAdd, Nat.reduceMul, Nat.reduceEqDiff, ↓reduceIte, forall_const, Int.cast_ofNat_Int, Int.reduceToNat, TF6, KL6, q8, su8.s, su8.len, f1, f2, d1, d2]; (try simp (disch := omega) only [wrapI, tmodI, tdivI]); (fail_if_success (with_reducible show False))))
      refine payW hpay su8 i4 (by unfold I64; omega) fun vm w9 x9 s9 b9 => ?_
      simp only at s9
      have z9 := x9.size
      have S9 := S8.more x9
      have q9 := (h7.at_.ext (x8.trans x9)).n
      simp only [AtN, KS, Nat.reduceAdd, Nat.reduceMul, Nat.reduceEqDiff, ↓reduceIte, UT] at q9
      have hd0 : decide (0 ≤ (oo : Int)) = true := by simp
      have N7 := N6.pay e2 g2 (show 0 ≤ c.Price by omega)
      have hnow : 0 ≤ min c.Price (Bk.lo left oo) ∧ min c.Price (Bk.lo left oo) ≤ 1099511627776 ∧ min c.Price (Bk.lo left oo) ≤ Bk.lo left oo := by omega
      have hsb := N6.sb
      generalize hmm : Bd.numb 0 (Bd.payM oo ss 0 (min c.Price (Bk.lo left oo))) = mm at *
      (repeat first | with_reducible first | refine jq ?_ | refine jk ?_ | refine jc ?_ | refine jl ?_ | refine jb ?_ | refine jo ?_ | refine ji ?_ | refine jx rfl ?_ | refine And.intro (by first | assumption | omega | (intros; omega)) ?_ | ((first | refine jR KL6 (by kernel_rfl) fun _ => ?_ | skip); simp only [KS, Nat.reduceAdd, Nat.reduceMul, Nat.reduceEqDiff, ↓reduceIte, forall_const, Int.cast_ofNat_Int, Int.reduceToNat, TF6, KL6, s9.s, s9.len, List.length_cons, List.length_nil, hd0, bne_self_eq_false, beq_self_eq_true, false_or, or_false, false_imp_iff, true_imp_iff, not_true_eq_false, not_false_eq_true, Bool.true_or, Bool.false_or, Bool.or_true, Bool.or_false, Bool.true_and, Bool.false_and, Bool.and_true, Bool.and_false]; (try simp (disch := omega) only [wrapI, tmodI, tdivI]); (fail_if_success (with_reducible show False))))
      refine Run_condS (fun _ => rfl) (fun h => by simp at h) (fun _ => ?_)
      (repeat first | with_reducible first | refine jq ?_ | refine jk ?_ | refine jc ?_ | refine jl ?_ | refine jb ?_ | refine jo ?_ | refine ji ?_ | refine jx rfl ?_ | refine And.intro (by first | assumption | omega | (intros; omega)) ?_ | ((first | refine jR KL6 (by kernel_rfl) fun _ => ?_ | skip); simp only [KS, Nat.reduceAdd, Nat.reduceMul, Nat.reduceEqDiff, ↓reduceIte, forall_const, Int.cast_ofNat_Int, Int.reduceToNat, TF6, KL6, hd0, false_or, or_false, false_imp_iff, true_imp_iff, not_true_eq_false, not_false_eq_true, Bool.true_or, Bool.false_or, Bool.or_true, Bool.or_false, Bool.true_and, Bool.false_and, Bool.and_true, Bool.and_false]; (try simp (disch := omega) only [wrapI, tmodI, tdivI]); (fail_if_success (with_reducible show False))))
      refine Run_condS (fun _ => rfl) (fun _ => ?_) (fun h => by simp at h)
      obtain ⟨d3, d4⟩ := at_int S9.l.at_ (i := oo) (by omega)
      rw [Bd.lo_get (by omega)] at d4
      have lt6l := S6.l.lt
      have lt6g := S6.g.lt
      generalize hnw : min c.Price (Bk.lo left oo) = now at *
      (repeat first | with_reducible first | refine jq ?_ | refine jk ?_ | refine jc ?_ | refine jl ?_ | refine jb ?_ | refine jo ?_ | refine ji ?_ | refine jx rfl ?_ | refine And.intro (by first | assumption | omega | (intros; omega)) ?_ | ((first | refine jR KL6 (by kernel_rfl) fun _ => ?_ | skip); simp only [KS, Nat.reduceAdd, Nat.reduceMul, Nat.reduceEqDiff, ↓reduceIte, forall_const, Int.cast_ofNat_Int, Int.reduceToNat, TF6, KL6, q9, d3, d4, hnw, false_or, or_false, false_imp_iff, true_imp_iff, not_true_eq_false, not_false_eq_true, Bool.true_or, Bool.false_or, Bool.or_true, Bool.or_false, Bool.true_and, Bool.false_and, Bool.and_true, Bool.and_false]; (try simp (disch := omega) only [wrapI, tmodI, tdivI]); (fail_if_success (with_reducible show False))))
      refine SemW_setAt cells3 S9.l (by simp [hll]; omega) rfl rfl fun w10 r10 k10 z10 => ?_
      rw [ints_set] at r10
      have q10 := ((h7.at_.ext (x8.trans x9)).keep k10 (by omega)).n
      simp only [AtN, KS, Nat.reduceAdd, Nat.reduceMul, Nat.reduceEqDiff, ↓reduceIte, UT] at q10
      have rg10 := S9.g.keep k10 (by omega)
      obtain ⟨d5, d6⟩ := at_int rg10.at_ (i := ss) (by omega)
      rw [Bd.lo_get (by omega)] at d6
      (repeat first | with_reducible first | refine jq ?_ | refine jk ?_ | refine jc ?_ | refine jl ?_ | refine jb ?_ | refine jo ?_ | refine ji ?_ | refine jx rfl ?_ | refine And.intro (by first | assumption | omega | (intros; omega)) ?_ | ((first | refine jR KL6 (by kernel_rfl) fun _ => ?_ | skip); simp only [KS, Nat.reduceAdd, Nat.reduceMul, Nat.reduceEqDiff, ↓reduceIte, forall_const, Int.cast_ofNat_Int, Int.reduceToNat, TF6, KL6, q10, g1, d5, d6]; (try simp (disch := omega) only [wrapI, tmodI, tdivI]); (fail_if_success (with_reducible show False))))
      refine SemW_setAt cells3 rg10 (by simp [hgl]; omega) rfl rfl fun w11 r11 k11 z11 => ?_
      rw [ints_set] at r11
      (repeat first | with_reducible first | refine jq ?_ | refine jk ?_ | refine jc ?_ | refine jl ?_ | refine jb ?_ | refine jo ?_ | refine ji ?_ | refine jx rfl ?_ | refine And.intro (by first | assumption | omega | (intros; omega)) ?_ | ((first | refine jR KL6 (by kernel_rfl) fun _ => ?_ | skip); simp only [KS, Nat.reduceAdd, Nat.reduceMul, Nat.reduceEqDiff, ↓reduceIte, forall_const, Int.cast_ofNat_Int, Int.reduceToNat, TF6, KL6]; (try simp (disch := omega) only [wrapI, tmodI, tdivI]); (fail_if_success (with_reducible show False))))
      have nl := S9.a.ne S9.l (by decide)
      have ng := S9.a.ne S9.g (by decide)
      have a11 := BufO.keepO (BufO.keepO S9.a k10 fun g hg e => nl (by rw [hg, e])) k11 fun g hg e => ng (by rw [hg, e])
      have hvb := b9.le (by decide) (by simp)
      have s11 := (s9.keepF k10 fun _ => by omega).keepF k11 fun _ => by omega
      have hlen := N6.len
      have y10 : Ext w1 w11 := Keep.ext (Keep.ext S9.ext k10 fun q hq => by omega) k11 fun q hq => by omega
      refine SemW_appendFO (α := MoveD) Try.underlying24 ti36 rfl (by decide) a11 (by have := y10.size; omega) s11 (by simp [maxLen]; omega) fun v' w12 b12 k12 => ?_
      have S12 : PS w1 pl pg v' (ms ++ [mm]) (left.set oo (Bk.lo left oo - now)) (got.set ss (Bk.lo got ss + now)) w12 :=
        ⟨Keep.ext y10 (a11.below k12) fun q hq => hq, (r10.keep k11 (by omega)).keep k12 (a11.ne (r10.keep k11 (by omega)) (by decide)), r11.keep k12 (a11.ne r11 (by decide)), b12⟩
      (repeat first | with_reducible first | refine jq ?_ | refine jk ?_ | refine jc ?_ | refine jl ?_ | refine jb ?_ | refine jo ?_ | refine ji ?_ | refine jx rfl ?_ | refine And.intro (by first | assumption | omega | (intros; omega)) ?_ | ((first | refine jR KL6 (by kernel_rfl) fun _ => ?_ | skip); simp only [KS, Nat.reduceAdd, Nat.reduceMul, Nat.reduceEqDiff, ↓reduceIte, forall_const, Int.cast_ofNat_Int, Int.reduceToNat, TF6, KL6]; (try simp (disch := omega) only [wrapI, tmodI, tdivI]); (fail_if_success (with_reducible show False))))
      refine Run_lp ⟨(k + 1, v', sum + now), ?_, ⟨by simp only; omega, _, _, _, S12, N7⟩, by simp only; omega⟩
      simp [SubB, fnd, strike, has]
    · refine Run_condS (fun _ => rfl) (fun h => by simp at h; omega) (fun _ => ?_)
      have hpay : Bd.pay c.Offices ⟨c.V.Office, c.V.Why⟩ c.Sender c.Price 0 = ([], 0) := by
        unfold Bd.pay
        rw [if_pos ⟨by omega, by omega, by simp only [Bd.am, decide_eq_true_eq]; omega, by rfl⟩, if_pos h.2, if_pos (by show c.V.Office < 0; omega)]
      (repeat first | with_reducible first | refine jq ?_ | refine jk ?_ | refine jc ?_ | refine jl ?_ | refine jb ?_ | refine jo ?_ | refine ji ?_ | refine jx rfl ?_ | refine And.intro (by first | assumption | omega | (intros; omega)) ?_ | ((first | refine jR KL6 (by kernel_rfl) fun _ => ?_ | skip); simp only [KS, Nat.reduceAdd, Nat.reduceMul, Nat.reduceEqDiff, ↓reduceIte, forall_const, Int.cast_ofNat_Int, Int.reduceToNat, TF6, KL6, q8, su8.s, su8.len]; (try simp (disch := omega) only [wrapI, tmodI, tdivI]); (fail_if_success (with_reducible show False))))
      refine payW hpay su8 i4 (by simp [I64]) fun vm w9 x9 s9 b9 => ?_
      simp only at s9
      have S9 := S8.more x9
      have e1 : ((0 : Int) == 1) = false := by decide
      have e2 : decide ((0 : Int) ≤ -1) = false := by decide
      have e3 : decide ((1 : Int) < 0) = false := by decide
      (repeat first | with_reducible first | refine jq ?_ | refine jk ?_ | refine jc ?_ | refine jl ?_ | refine jb ?_ | refine jo ?_ | refine ji ?_ | refine jx rfl ?_ | refine And.intro (by first | assumption | omega | (intros; omega)) ?_ | ((first | refine jR KL6 (by kernel_rfl) fun _ => ?_ | skip); simp only [KS, Nat.reduceAdd, Nat.reduceMul, Nat.reduceEqDiff, ↓reduceIte, forall_const, Int.cast_ofNat_Int, Int.reduceToNat, TF6, KL6, s9.s, s9.len, List.length_nil, bne_self_eq_false, e1, e2, e3, Int.cast_ofNat_Int, Int.natCast_zero, false_or, or_false, false_imp_iff, true_imp_iff, not_true_eq_false, not_false_eq_true, Bool.true_or, Bool.false_or, Bool.or_true, Bool.or_false, Bool.true_and, Bool.false_and, Bool.and_true, Bool.and_false]; (try simp (disch := omega) only [wrapI, tmodI, tdivI]); (fail_if_success (with_reducible show False))))
      refine Run_condS (fun _ => rfl) (fun h => by simp at h) (fun _ => ?_)
      (repeat first | with_reducible first | refine jq ?_ | refine jk ?_ | refine jc ?_ | refine jl ?_ | refine jb ?_ | refine jo ?_ | refine ji ?_ | refine jx rfl ?_ | refine And.intro (by first | assumption | omega | (intros; omega)) ?_ | ((first | refine jR KL6 (by kernel_rfl) fun _ => ?_ | skip); simp only [KS, Nat.reduceAdd, Nat.reduceMul, Nat.reduceEqDiff, ↓reduceIte, forall_const, Int.cast_ofNat_Int, Int.reduceToNat, TF6, KL6, e2, false_or, or_false, false_imp_iff, true_imp_iff, not_true_eq_false, not_false_eq_true, Bool.true_or, Bool.false_or, Bool.or_true, Bool.or_false, Bool.true_and, Bool.false_and, Bool.and_true, Bool.and_false]; (try simp (disch := omega) only [wrapI, tmodI, tdivI]); (fail_if_success (with_reducible show False))))
      refine Run_condS (fun _ => rfl) (fun h => by simp at h) (fun _ => ?_)
      have hlen := N6.len
      (repeat first | with_reducible first | refine jq ?_ | refine jk ?_ | refine jc ?_ | refine jl ?_ | refine jb ?_ | refine jo ?_ | refine ji ?_ | refine jx rfl ?_ | refine And.intro (by first | assumption | omega | (intros; omega)) ?_ | ((first | refine jR KL6 (by kernel_rfl) fun _ => ?_ | skip); simp only [KS, Nat.reduceAdd, Nat.reduceMul, Nat.reduceEqDiff, ↓reduceIte, forall_const, Int.cast_ofNat_Int, Int.reduceToNat, TF6, KL6]; (try simp (disch := omega) only [wrapI, tmodI, tdivI]); (fail_if_success (with_reducible show False))))
      refine SemW_appendFO (α := MoveD) Try.underlying24 ti36 rfl (by decide) S9.a (by have := S9.ext.size; omega) s9 (by simp [maxLen]; omega) fun v' w12 b12 k12 => ?_
      rw [List.append_nil] at b12
      have S12 : PS w1 pl pg v' ms left got w12 :=
        ⟨Keep.ext S9.ext (S9.a.below k12) fun q hq => hq, S9.l.keep k12 (S9.a.ne S9.l (by decide)), S9.g.keep k12 (S9.a.ne S9.g (by decide)), b12⟩
      (repeat first | with_reducible first | refine jq ?_ | refine jk ?_ | refine jc ?_ | refine jl ?_ | refine jb ?_ | refine jo ?_ | refine ji ?_ | refine jx rfl ?_ | refine And.intro (by first | assumption | omega | (intros; omega)) ?_ | ((first | refine jR KL6 (by kernel_rfl) fun _ => ?_ | skip); simp only [KS, Nat.reduceAdd, Nat.reduceMul, Nat.reduceEqDiff, ↓reduceIte, forall_const, Int.cast_ofNat_Int, Int.reduceToNat, TF6, KL6]; (try simp (disch := omega) only [wrapI, tmodI, tdivI]); (fail_if_success (with_reducible show False))))
      refine Run_lp ⟨(k + 1, v', sum), ?_, ⟨by simp only; omega, _, _, _, S12, N6.next⟩, by simp only; omega⟩
      simp [SubB, fnd, strike, has]
  · simp at h
    obtain rfl : k = cl.length := by omega
    have hlen := N6.len
    have hll := N6.st.ll
    have hsb := N6.sb
    have hI : ∀ x ∈ left, I64 x := fun x hx => by
      have := N6.lb x hx
      simp only [Bd.am, decide_eq_true_eq] at this
      unfold I64; omega
    have sl6 : Sl w6 (.slice (some pl) 24 24) left := by
      have := rowInts S6.l hI (by omega)
      rwa [hll] at this
    have hfr : Bd.free left = (Bd.mk Bd.freeM left, 0) := by
      unfold Bd.free; rw [if_pos ⟨by omega, List.all_eq_true.2 N6.lb⟩]
    obtain ⟨B, eB, lB, B0, BB, BS⟩ := Bd.promise_end N6.st (show -(n * a) = -(Bd.sm left + sum) by have := N6.tot; omega) N6.lb (by omega)
    (repeat first | with_reducible first | refine jq ?_ | refine jk ?_ | refine jc ?_ | refine jl ?_ | refine jb ?_ | refine jo ?_ | refine ji ?_ | refine jx rfl ?_ | refine And.intro (by first | assumption | omega | (intros; omega)) ?_ | ((first | refine jR KL6 (by kernel_rfl) fun _ => ?_ | skip); simp only [KS, Nat.reduceAdd, Nat.reduceMul, Nat.reduceEqDiff, ↓reduceIte, forall_const, Int.cast_ofNat_Int, Int.reduceToNat, TF6, KL6]; (try simp (disch := omega) only [wrapI, tmodI, tdivI]); (fail_if_success (with_reducible show False))))
    refine freeW hfr sl6 fun vf w7 x7 s7 b7 => ?_
    simp only at s7
    have y7 := S6.ext.trans x7
    have sa7 := (S6.a.sl (by omega)).ext x7
    (repeat first | with_reducible first | refine jq ?_ | refine jk ?_ | refine jc ?_ | refine jl ?_ | refine jb ?_ | refine jo ?_ | refine ji ?_ | refine jx rfl ?_ | refine And.intro (by first | assumption | omega | (intros; omega)) ?_ | ((first | refine jR KL6 (by kernel_rfl) fun _ => ?_ | skip); simp only [KS, Nat.reduceAdd, Nat.reduceMul, Nat.reduceEqDiff, ↓reduceIte, forall_const, Int.cast_ofNat_Int, Int.reduceToNat, TF6, KL6, s7.s, s7.len, Bd.mk_len, hll, bne_self_eq_false, false_or, or_false, false_imp_iff, true_imp_iff, not_true_eq_false, not_false_eq_true, Bool.true_or, Bool.false_or, Bool.or_true, Bool.or_false, Bool.true_and, Bool.false_and, Bool.and_true, Bool.and_false]; (try simp (disch := omega) only [wrapI, tmodI, tdivI]); (fail_if_success (with_reducible show False))))
    refine Run_condS (fun _ => rfl) (fun h => by simp at h) (fun _ => ?_)
    (repeat first | with_reducible first | refine jq ?_ | refine jk ?_ | refine jc ?_ | refine jl ?_ | refine jb ?_ | refine jo ?_ | refine ji ?_ | refine jx rfl ?_ | refine And.intro (by first | assumption | omega | (intros; omega)) ?_ | ((first | refine jR KL6 (by kernel_rfl) fun _ => ?_ | skip); simp only [KS, Nat.reduceAdd, Nat.reduceMul, Nat.reduceEqDiff, ↓reduceIte, forall_const, Int.cast_ofNat_Int, Int.reduceToNat, TF6, KL6]; (try simp (disch := omega) only [wrapI, tmodI, tdivI]); (fail_if_success (with_reducible show False))))
    refine SemW_buildF (α := MoveD) (W := w7) Try.underlying24 ti36 rfl (by decide) (Ext.refl _) [] [] rfl rfl (Cs.nil _) (by decide) fun p8 w8 b8 _ x8 => ?_
    refine SemW_appendF (α := MoveD) Try.underlying24 ti36 rfl (by decide) b8 (sa7.ext x8) (by simp [maxLen]; omega) fun v9 w9 b9 _ x9 => ?_
    simp only [List.nil_append] at b9
    refine SemW_appendF (α := MoveD) Try.underlying24 ti36 rfl (by decide) b9 (s7.ext x9) (by simp [maxLen, Bd.mk_len]; omega) fun v10 w10 b10 _ x10 => ?_
    generalize hL : ms ++ Bd.mk Bd.freeM left = L at *
    have hLl : L.length ≤ 100 := by rw [← hL, List.length_append, Bd.mk_len]; omega
    have i10 := b10.isS
    (repeat first | with_reducible first | refine jq ?_ | refine jk ?_ | refine jc ?_ | refine jl ?_ | refine jb ?_ | refine jo ?_ | refine ji ?_ | refine jx rfl ?_ | refine And.intro (by first | assumption | omega | (intros; omega)) ?_ | ((first | refine jR KL6 (by kernel_rfl) fun _ => ?_ | skip); simp only [KS, Nat.reduceAdd, Nat.reduceMul, Nat.reduceEqDiff, ↓reduceIte, forall_const, Int.cast_ofNat_Int, Int.reduceToNat, TF6, KL6, i10.1, i10.2]; (try simp (disch := omega) only [wrapI, tmodI, tdivI]); (fail_if_success (with_reducible show False))))
    rw [← Bd.renTo_zero L] at b10
    have y10 := y7.trans x10
    refine Run_loopV [23, 192, 193] (σ := Nat) (fun k => [(192, some (.int .i64 k))]) (fun k w' => k ≤ L.length ∧ BufL (α := MoveD) 36 w7 w' v10 (Bd.renTo k L)) (fun k => L.length - k) 0 (by simp [SubB, fnd]) ⟨by omega, b10⟩ ?_
    rintro j w11 ⟨hj, b11⟩
    (repeat first | with_reducible first | refine jq ?_ | refine jk ?_ | refine jc ?_ | refine jl ?_ | refine jb ?_ | refine jo ?_ | refine ji ?_ | refine jx rfl ?_ | refine And.intro (by first | assumption | omega | (intros; omega)) ?_ | ((first | refine jR KL6 (by kernel_rfl) fun _ => ?_ | skip); simp only [KS, Nat.reduceAdd, Nat.reduceMul, Nat.reduceEqDiff, ↓reduceIte, forall_const, Int.cast_ofNat_Int, Int.reduceToNat, TF6, KL6]; (try simp (disch := omega) only [wrapI, tmodI, tdivI]); (fail_if_success (with_reducible show False))))
    refine Run_condS (fun _ => rfl) (fun h => ?_) (fun h => ?_)
    · simp at h
      have hjl := h
      (repeat first | with_reducible first | refine jq ?_ | refine jk ?_ | refine jc ?_ | refine jl ?_ | refine jb ?_ | refine jo ?_ | refine ji ?_ | refine jx rfl ?_ | refine And.intro (by first | assumption | omega | (intros; omega)) ?_ | ((first | refine jR KL6 (by kernel_rfl) fun _ => ?_ | skip); simp only [KS, Nat.reduceAdd, Nat.reduceMul, Nat.reduceEqDiff, ↓reduceIte, forall_const, Int.cast_ofNat_Int, Int.reduceToNat, TF6, KL6, i10.1, i10.2]; (try simp (disch := omega) only [wrapI, tmodI, tdivI]); (fail_if_success (with_reducible show False))))
      refine SemW_setF (α := MoveD) b11 j 0 (by rw [Bd.renTo_len]; exact hjl) { (L[j]) with No := (j : Int) } cells3 (by decide) rfl rfl rfl ?_ fun w12 b12 k12 z12 x12 => ?_
      · rintro cs ⟨rfl, hh⟩
        simp only [Bd.renTo_get hjl] at hh ⊢
        exact ⟨rfl, (by unfold I64; omega : I64 (j : Int)), hh.2⟩
      rw [Bd.renTo_set hjl] at b12
      (repeat first | with_reducible first | refine jq ?_ | refine jk ?_ | refine jc ?_ | refine jl ?_ | refine jb ?_ | refine jo ?_ | refine ji ?_ | refine jx rfl ?_ | refine And.intro (by first | assumption | omega | (intros; omega)) ?_ | ((first | refine jR KL6 (by kernel_rfl) fun _ => ?_ | skip); simp only [KS, Nat.reduceAdd, Nat.reduceMul, Nat.reduceEqDiff, ↓reduceIte, forall_const, Int.cast_ofNat_Int, Int.reduceToNat, TF6, KL6]; (try simp (disch := omega) only [wrapI, tmodI, tdivI]); (fail_if_success (with_reducible show False))))
      refine Run_lp ⟨j + 1, ?_, ⟨by omega, b12⟩, by omega⟩
      simp [SubB, fnd, strike, has]
    simp at h
    obtain rfl : j = L.length := by omega
    rw [Bd.renTo_full] at b11
    have y11 := y7.trans b11.ext0
    have sr := b11.sl (by rw [Bd.ren_len]; omega)
    (repeat first | with_reducible first | refine jq ?_ | refine jk ?_ | refine jc ?_ | refine jl ?_ | refine jb ?_ | refine jo ?_ | refine ji ?_ | refine jx rfl ?_ | refine And.intro (by first | assumption | omega | (intros; omega)) ?_ | ((first | refine jR KL6 (by kernel_rfl) fun _ => ?_ | skip); simp only [KS, Nat.reduceAdd, Nat.reduceMul, Nat.reduceEqDiff, ↓reduceIte, forall_const, Int.cast_ofNat_Int, Int.reduceToNat, TF6, KL6]; (try simp (disch := omega) only [wrapI, tmodI, tdivI]); (fail_if_success (with_reducible show False))))
    refine makeInts (n := 115) (by omega) fun pz w12 h12 sz x12 => ?_
    (repeat first | with_reducible first | refine jq ?_ | refine jk ?_ | refine jc ?_ | refine jl ?_ | refine jb ?_ | refine jo ?_ | refine ji ?_ | refine jx rfl ?_ | refine And.intro (by first | assumption | omega | (intros; omega)) ?_ | ((first | refine jR KL6 (by kernel_rfl) fun _ => ?_ | skip); simp only [KS, Nat.reduceAdd, Nat.reduceMul, Nat.reduceEqDiff, ↓reduceIte, forall_const, Int.cast_ofNat_Int, Int.reduceToNat, TF6, KL6]; (try simp (disch := omega) only [wrapI, tmodI, tdivI]); (fail_if_success (with_reducible show False))))
    refine balW eB sz (sr.ext x12) fun vB w13 x13 sB => ?_
    simp only at sB
    have y13 := y11.trans (x12.trans x13)
    obtain ⟨f1, f2, f3⟩ := sB.get (i := 0) (by omega)
    rw [Bd.lo_get (by omega)] at f1
    simp only [Int.natCast_zero, B0] at f1
    rw [add_zero] at f1 f2
    have gl : ∀ i : Nat, i < 64 → Bk.lo got i = got.getD i 0 := fun i hi => by simp [Bk.lo]
    have hgl := N6.st.gl
    (repeat first | with_reducible first | refine jq ?_ | refine jk ?_ | refine jc ?_ | refine jl ?_ | refine jb ?_ | refine jo ?_ | refine ji ?_ | refine jx rfl ?_ | refine And.intro (by first | assumption | omega | (intros; omega)) ?_ | ((first | refine jR KL6 (by kernel_rfl) fun _ => ?_ | skip); simp only [KS, Nat.reduceAdd, Nat.reduceMul, Nat.reduceEqDiff, ↓reduceIte, forall_const, Int.cast_ofNat_Int, Int.reduceToNat, TF6, KL6, sB.s, sB.len, lB, f1, f2, bne_self_eq_false, false_or, or_false, false_imp_iff, true_imp_iff, not_true_eq_false, not_false_eq_true, Bool.true_or, Bool.false_or, Bool.or_true, Bool.or_false, Bool.true_and, Bool.false_and, Bool.and_true, Bool.and_false]; (try simp (disch := omega) only [wrapI, tmodI, tdivI]); (fail_if_success (with_reducible show False))))
    refine Run_condS (fun _ => rfl) (fun h => by simp at h) (fun _ => ?_)
    (repeat first | with_reducible first | refine jq ?_ | refine jk ?_ | refine jc ?_ | refine jl ?_ | refine jb ?_ | refine jo ?_ | refine ji ?_ | refine jx rfl ?_ | refine And.intro (by first | assumption | omega | (intros; omega)) ?_ | ((first | refine jR KL6 (by kernel_rfl) fun _ => ?_ | skip); simp only [KS, Nat.reduceAdd, Nat.reduceMul, Nat.reduceEqDiff, ↓reduceIte, forall_const, Int.cast_ofNat_Int, Int.reduceToNat, TF6, KL6]; (try simp (disch := omega) only [wrapI, tmodI, tdivI]); (fail_if_success (with_reducible show False))))
    refine Run_loopV [6, 26, 222, 223, 230] (σ := Nat) (fun k => [(222, some (.int .i64 k))]) (fun k w' => k ≤ 24 ∧ Ext w13 w') (fun k => 24 - k) 0 (by simp [SubB, fnd]) ⟨by omega, Ext.refl _⟩ ?_
    rintro j w14 ⟨hj, x14⟩
    (repeat first | with_reducible first | refine jq ?_ | refine jk ?_ | refine jc ?_ | refine jl ?_ | refine jb ?_ | refine jo ?_ | refine ji ?_ | refine jx rfl ?_ | refine And.intro (by first | assumption | omega | (intros; omega)) ?_ | ((first | refine jR KL6 (by kernel_rfl) fun _ => ?_ | skip); simp only [KS, Nat.reduceAdd, Nat.reduceMul, Nat.reduceEqDiff, ↓reduceIte, forall_const, Int.cast_ofNat_Int, Int.reduceToNat, TF6, KL6]; (try simp (disch := omega) only [wrapI, tmodI, tdivI]); (fail_if_success (with_reducible show False))))
    refine Run_condS (fun _ => rfl) (fun h => ?_) (fun h => ?_)
    · simp at h
      obtain ⟨f1, f2, f3⟩ := (sB.ext x14).get (i := 27 + j) (by omega)
      rw [Bd.lo_get (by omega)] at f1
      have e1 := BB j (by omega)
      push_cast at f1
      rw [e1] at f1
      have ht : (27 + (j : Int)).toNat = 27 + j := by omega
      (repeat first | with_reducible first | refine jq ?_ | refine jk ?_ | refine jc ?_ | refine jl ?_ | refine jb ?_ | refine jo ?_ | refine ji ?_ | refine jx rfl ?_ | refine And.intro (by first | assumption | omega | (intros; omega)) ?_ | ((first | refine jR KL6 (by kernel_rfl) fun _ => ?_ | skip); simp only [KS, Nat.reduceAdd, Nat.reduceMul, Nat.reduceEqDiff, ↓reduceIte, forall_const, Int.cast_ofNat_Int, Int.reduceToNat, TF6, KL6, sB.s, sB.len, lB, f1, f2, bne_self_eq_false, ht]; (try simp (disch := omega) only [wrapI, tmodI, tdivI]); (fail_if_success (with_reducible show False))))
      refine Run_condS (fun _ => rfl) (fun h => by simp at h) (fun _ => ?_)
      (repeat first | with_reducible first | refine jq ?_ | refine jk ?_ | refine jc ?_ | refine jl ?_ | refine jb ?_ | refine jo ?_ | refine ji ?_ | refine jx rfl ?_ | refine And.intro (by first | assumption | omega | (intros; omega)) ?_ | ((first | refine jR KL6 (by kernel_rfl) fun _ => ?_ | skip); simp only [KS, Nat.reduceAdd, Nat.reduceMul, Nat.reduceEqDiff, ↓reduceIte, forall_const, Int.cast_ofNat_Int, Int.reduceToNat, TF6, KL6]; (try simp (disch := omega) only [wrapI, tmodI, tdivI]); (fail_if_success (with_reducible show False))))
      refine Run_lp ⟨j + 1, ?_, ⟨by omega, x14⟩, by omega⟩
      simp [SubB, fnd, strike, has]
    simp at h
    obtain rfl : j = 24 := by omega
    have x614 : Ext w6 w14 := (x7.trans b11.ext0).trans (x12.trans (x13.trans x14))
    have rg := S6.g.ext x614
    obtain ⟨g1, g2⟩ := at_memA rg.at_ (n := 64) (by simp [hgl])
    (repeat first | with_reducible first | refine jq ?_ | refine jk ?_ | refine jc ?_ | refine jl ?_ | refine jb ?_ | refine jo ?_ | refine ji ?_ | refine jx rfl ?_ | refine And.intro (by first | assumption | omega | (intros; omega)) ?_ | ((first | refine jR KL6 (by kernel_rfl) fun _ => ?_ | skip); simp only [KS, Nat.reduceAdd, Nat.reduceMul, Nat.reduceEqDiff, ↓reduceIte, forall_const, Int.cast_ofNat_Int, Int.reduceToNat, TF6, KL6, g1, g2]; (try simp (disch := omega) only [wrapI, tmodI, tdivI]); (fail_if_success (with_reducible show False))))
    refine Run_loopV [6, 27, 28, 233, 234, 243] (σ := Nat) (fun k => [(233, some (.int .i64 k))]) (fun k w' => k ≤ 64 ∧ Ext w13 w') (fun k => 64 - k) 0 (by simp [SubB, fnd]) ⟨by omega, x14⟩ ?_
    rintro i w16 ⟨hi, x16⟩
    (repeat first | with_reducible first | refine jq ?_ | refine jk ?_ | refine jc ?_ | refine jl ?_ | refine jb ?_ | refine jo ?_ | refine ji ?_ | refine jx rfl ?_ | refine And.intro (by first | assumption | omega | (intros; omega)) ?_ | ((first | refine jR KL6 (by kernel_rfl) fun _ => ?_ | skip); simp only [KS, Nat.reduceAdd, Nat.reduceMul, Nat.reduceEqDiff, ↓reduceIte, forall_const, Int.cast_ofNat_Int, Int.reduceToNat, TF6, KL6]; (try simp (disch := omega) only [wrapI, tmodI, tdivI]); (fail_if_success (with_reducible show False))))
    refine Run_condS (fun _ => rfl) (fun h => ?_) (fun h => ?_)
    · simp at h
      obtain ⟨f1, f2, f3⟩ := (sB.ext x16).get (i := 51 + i) (by omega)
      rw [Bd.lo_get (by omega)] at f1
      have e1 := BS i (by omega)
      push_cast at f1
      rw [e1, ← Bd.lo_get (by omega)] at f1
      have ht : (51 + (i : Int)).toNat = 51 + i := by omega
      have hgi : (ints got).getD i undef = .int .i64 (got[i]'(by omega)) := by
        rw [List.getD_eq_getElem?_getD, List.getElem?_map, List.getElem?_eq_getElem (by omega)]; rfl
      (repeat first | with_reducible first | refine jq ?_ | refine jk ?_ | refine jc ?_ | refine jl ?_ | refine jb ?_ | refine jo ?_ | refine ji ?_ | refine jx rfl ?_ | refine And.intro (by first | assumption | omega | (intros; omega)) ?_ | ((first | refine jR KL6 (by kernel_rfl) fun _ => ?_ | skip); simp only [KS, Nat.reduceAdd, Nat.reduceMul, Nat.reduceEqDiff, ↓reduceIte, forall_const, Int.cast_ofNat_Int, Int.reduceToNat, TF6, KL6, sB.s, sB.len, lB, f1, f2, bne_self_eq_false, ht, hgi, ints_len, hgl]; (try simp (disch := omega) only [wrapI, tmodI, tdivI]); (fail_if_success (with_reducible show False))))
      refine Run_condS (fun _ => rfl) (fun h => by simp at h) (fun _ => ?_)
      (repeat first | with_reducible first | refine jq ?_ | refine jk ?_ | refine jc ?_ | refine jl ?_ | refine jb ?_ | refine jo ?_ | refine ji ?_ | refine jx rfl ?_ | refine And.intro (by first | assumption | omega | (intros; omega)) ?_ | ((first | refine jR KL6 (by kernel_rfl) fun _ => ?_ | skip); simp only [KS, Nat.reduceAdd, Nat.reduceMul, Nat.reduceEqDiff, ↓reduceIte, forall_const, Int.cast_ofNat_Int, Int.reduceToNat, TF6, KL6]; (try simp (disch := omega) only [wrapI, tmodI, tdivI]); (fail_if_success (with_reducible show False))))
      refine Run_lp ⟨i + 1, ?_, ⟨by omega, x16⟩, by omega⟩
      simp [SubB, fnd, strike, has]
    simp at h
    (repeat first | with_reducible first | refine jq ?_ | refine jk ?_ | refine jc ?_ | refine jl ?_ | refine jb ?_ | refine jo ?_ | refine ji ?_ | refine jx rfl ?_ | refine And.intro (by first | assumption | omega | (intros; omega)) ?_ | ((first | refine jR KL6 (by kernel_rfl) fun _ => ?_ | skip); simp only [KS, Nat.reduceAdd, Nat.reduceMul, Nat.reduceEqDiff, ↓reduceIte, forall_const, Int.cast_ofNat_Int, Int.reduceToNat, TF6, KL6]; (try simp (disch := omega) only [wrapI, tmodI, tdivI]); (fail_if_success (with_reducible show False))))
    refine Run_ret ?_
    simp [Rets, RetM, resV, fnd, oneOr]
    exact x1.trans (y13.trans x16)
end Go.Proofs.Ytpkopdhdnnkemaa
