/- Chapter 40: Share; the reference. -/
import Derived.Test.YtcncbmdkifdggaaW40d
namespace Go.Proofs.Ytcncbmdkifdggaa
open Go Go.Fk
set_option linter.unusedSimpArgs false
set_option linter.unusedVariables false
set_option maxRecDepth 100000

theorem part_bd {a s : Int} {i : Nat} (h0 : 0 ≤ a) (h1 : a ≤ 1099511627776) (h2 : 1 ≤ s) : 0 ≤ Fd.part a s i ∧ Fd.part a s i ≤ 1099511627777 := by
  unfold Fd.part
  have := Int.ediv_le_self s h0
  have := Int.ediv_nonneg h0 (show 0 ≤ s by omega)
  split <;> omega
theorem sha_mi {a s : Int} {i : Nat} (h0 : 0 ≤ a) (h1 : a ≤ 1099511627776) (h2 : 1 ≤ s) (hi : i ≤ 64) : MI (Fd.shaM a s i) := by
  have := part_bd (i := i) h0 h1 h2
  simp only [MI, Fd.shaM, I64]; omega
theorem fdShare (a s : Int) (w : World) : Calls Try.prog 15 #[.int .i64 a, .int .i64 s] w (MvRet w (Fd.share a s)) := by
  refine Calls_of_Run (args := [.int .i64 a, .int .i64 s]) (n := 44) (rs := [.tmp 4, .tmp 5]) Try.func15 rfl rfl rfl (by simp) ?_
  (repeat first | with_reducible first | refine jq ?_ | refine jk ?_ | refine jc ?_ | refine jl ?_ | refine jb ?_ | refine jo ?_ | refine ji ?_ | refine jx rfl ?_ | refine And.intro (by first | assumption | omega | (intros; omega)) ?_ | ((first | refine jR KL15 (by kernel_rfl) fun _ => ?_ | skip); simp only [KS, Nat.reduceAdd, Nat.reduceMul, Nat.reduceEqDiff, ↓reduceIte, forall_const, Int.cast_ofNat_Int, Int.reduceToNat, TF15, KL15]; (try simp (disch := omega) only [wrapI, tmodI, tdivI]); (fail_if_success (with_reducible show False))))
  refine Run_condS (fun _ => rfl) (fun h => ?_) (fun h => ?_)
  · (repeat first | with_reducible first | refine jq ?_ | refine jk ?_ | refine jc ?_ | refine jl ?_ | refine jb ?_ | refine jo ?_ | refine ji ?_ | refine jx rfl ?_ | refine And.intro (by first | assumption | omega | (intros; omega)) ?_ | ((first | refine jR KL15 (by kernel_rfl) fun _ => ?_ | skip); simp only [KS, Nat.reduceAdd, Nat.reduceMul, Nat.reduceEqDiff, ↓reduceIte, forall_const, Int.cast_ofNat_Int, Int.reduceToNat, TF15, KL15]; (try simp (disch := omega) only [wrapI, tmodI, tdivI]); (fail_if_success (with_reducible show False))))
    refine Run_ret ?_
    have : Fd.share a s = ([], 1) := by unfold Fd.share; rw [if_pos]; simp at h; omega
    simp [Rets, RetM, resV, fnd, oneOr, MvRet, this, Ext.refl]
    exact Sl.nil _
  simp at h
  have hd : Fd.share a s = (Fd.shares a s s.toNat, 0) := by unfold Fd.share; rw [if_neg]; omega
  (repeat first | with_reducible first | refine jq ?_ | refine jk ?_ | refine jc ?_ | refine jl ?_ | refine jb ?_ | refine jo ?_ | refine ji ?_ | refine jx rfl ?_ | refine And.intro (by first | assumption | omega | (intros; omega)) ?_ | ((first | refine jR KL15 (by kernel_rfl) fun _ => ?_ | skip); simp only [KS, Nat.reduceAdd, Nat.reduceMul, Nat.reduceEqDiff, ↓reduceIte, forall_const, Int.cast_ofNat_Int, Int.reduceToNat, TF15, KL15]; (try simp (disch := omega) only [wrapI, tmodI, tdivI]); (fail_if_success (with_reducible show False))))
  refine Run_loopV [4, 6, 7, 23, 24] (σ := Nat × Value) (fun q => [(23, some (.int .i64 q.1)), (4, some q.2), (5, some (.int .i64 0))]) (fun q w' => q.1 ≤ s.toNat ∧ BufL (α := MoveD) 45 w w' q.2 (Fd.shares a s q.1)) (fun q => s.toNat - q.1) (0, .slice none 0 0) (by simp [SubB, fnd]) ⟨by simp, by simpa [Fd.shares] using BufL.nil (Ext.refl _)⟩ ?_
  rintro ⟨k, vm⟩ w2 ⟨hk, hb⟩
  simp only at hk hb
  have hbl := hb.isS
  rw [Fd.shares_len] at hbl
  (repeat first | with_reducible first | refine jq ?_ | refine jk ?_ | refine jc ?_ | refine jl ?_ | refine jb ?_ | refine jo ?_ | refine ji ?_ | refine jx rfl ?_ | refine And.intro (by first | assumption | omega | (intros; omega)) ?_ | ((first | refine jR KL15 (by kernel_rfl) fun _ => ?_ | skip); simp only [KS, Nat.reduceAdd, Nat.reduceMul, Nat.reduceEqDiff, ↓reduceIte, forall_const, Int.cast_ofNat_Int, Int.reduceToNat, TF15, KL15]; (try simp (disch := omega) only [wrapI, tmodI, tdivI]); (fail_if_success (with_reducible show False))))
  refine Run_condS (fun _ => rfl) (fun h => ?_) (fun h => ?_)
  · simp at h
    have hp := Fd.part_eq (a := a) (s := s) (i := k) (by omega) (by omega) h
    have hpb := part_bd (a := a) (s := s) (i := k) (by omega) (by omega) (by omega)
    (repeat first | with_reducible first | refine jq ?_ | refine jk ?_ | refine jc ?_ | refine jl ?_ | refine jb ?_ | refine jo ?_ | refine ji ?_ | refine jx rfl ?_ | refine And.intro (by first | assumption | omega | (intros; omega)) ?_ | ((first | refine jR KL15 (by kernel_rfl) fun _ => ?_ | skip); simp only [KS, Nat.reduceAdd, Nat.reduceMul, Nat.reduceEqDiff, ↓reduceIte, forall_const, Int.cast_ofNat_Int, Int.reduceToNat, TF15, KL15]; (try simp (disch := omega) only [wrapI, tmodI, tdivI]); (fail_if_success (with_reducible show False))))
    rw [hp]
    refine ⟨.agg (Fd.shaM a s k).cs.toArray, fun w' => by kernel_rfl, ?_⟩
    refine SemW_append1F (α := MoveD) (X := .agg (Fd.shaM a s k).cs.toArray) (x := Fd.shaM a s k) Try.underlying37 ti45 rfl (by decide) hb ⟨rfl, sha_mi (by omega) (by omega) (by omega) (by omega)⟩ (by simp [maxLen, Fd.shares_len]; omega) fun u v' w3 b3 _ x3 _ => ?_
    rw [← Fd.shares_succ] at b3
    (repeat first | with_reducible first | refine jq ?_ | refine jk ?_ | refine jc ?_ | refine jl ?_ | refine jb ?_ | refine jo ?_ | refine ji ?_ | refine jx rfl ?_ | refine And.intro (by first | assumption | omega | (intros; omega)) ?_ | ((first | refine jR KL15 (by kernel_rfl) fun _ => ?_ | skip); simp only [KS, Nat.reduceAdd, Nat.reduceMul, Nat.reduceEqDiff, ↓reduceIte, forall_const, Int.cast_ofNat_Int, Int.reduceToNat, TF15, KL15]; (try simp (disch := omega) only [wrapI, tmodI, tdivI]); (fail_if_success (with_reducible show False))))
    refine Run_lp ⟨(k + 1, v'), ?_, ⟨by simp only; omega, b3⟩, by simp only; omega⟩
    simp [SubB, fnd, strike, has]
  · simp at h
    obtain rfl : k = s.toNat := by omega
    (repeat first | with_reducible first | refine jq ?_ | refine jk ?_ | refine jc ?_ | refine jl ?_ | refine jb ?_ | refine jo ?_ | refine ji ?_ | refine jx rfl ?_ | refine And.intro (by first | assumption | omega | (intros; omega)) ?_ | ((first | refine jR KL15 (by kernel_rfl) fun _ => ?_ | skip); simp only [KS, Nat.reduceAdd, Nat.reduceMul, Nat.reduceEqDiff, ↓reduceIte, forall_const, Int.cast_ofNat_Int, Int.reduceToNat, TF15, KL15]; (try simp (disch := omega) only [wrapI, tmodI, tdivI]); (fail_if_success (with_reducible show False))))
    refine Run_ret ?_
    simp [Rets, RetM, resV, fnd, oneOr, MvRet, hd]
    exact ⟨hb.ext0, hb.sl (by rw [Fd.shares_len]; omega)⟩
theorem rfShare (a s : Int) (w : World) : Calls Try.prog 16 #[.int .i64 a, .int .i64 s] w (MvRet w (Fd.share a s)) := by
  refine Calls_of_Run (args := [.int .i64 a, .int .i64 s]) (n := 48) (rs := [.tmp 4, .tmp 5]) Try.func16 rfl rfl rfl (by simp) ?_
  (repeat first | with_reducible first | refine jq ?_ | refine jk ?_ | refine jc ?_ | refine jl ?_ | refine jb ?_ | refine jo ?_ | refine ji ?_ | refine jx rfl ?_ | refine And.intro (by first | assumption | omega | (intros; omega)) ?_ | ((first | refine jR KL16 (by kernel_rfl) fun _ => ?_ | skip); simp only [KS, Nat.reduceAdd, Nat.reduceMul, Nat.reduceEqDiff, ↓reduceIte, forall_const, Int.cast_ofNat_Int, Int.reduceToNat, TF16, KL16]; (try simp (disch := omega) only [wrapI, tmodI, tdivI]); (fail_if_success (with_reducible show False))))
  refine Run_condS (fun _ => rfl) (fun h => ?_) (fun h => ?_)
  · (repeat first | with_reducible first | refine jq ?_ | refine jk ?_ | refine jc ?_ | refine jl ?_ | refine jb ?_ | refine jo ?_ | refine ji ?_ | refine jx rfl ?_ | refine And.intro (by first | assumption | omega | (intros; omega)) ?_ | ((first | refine jR KL16 (by kernel_rfl) fun _ => ?_ | skip); simp only [KS, Nat.reduceAdd, Nat.reduceMul, Nat.reduceEqDiff, ↓reduceIte, forall_const, Int.cast_ofNat_Int, Int.reduceToNat, TF16, KL16]; (try simp (disch := omega) only [wrapI, tmodI, tdivI]); (fail_if_success (with_reducible show False))))
    refine Run_ret ?_
    have : Fd.share a s = ([], 1) := by unfold Fd.share; rw [if_pos]; simp at h; omega
    simp [Rets, RetM, resV, fnd, oneOr, MvRet, this, Ext.refl]
    exact Sl.nil _
  simp at h
  have hd : Fd.share a s = (Fd.shares a s s.toNat, 0) := by unfold Fd.share; rw [if_neg]; omega
  (repeat first | with_reducible first | refine jq ?_ | refine jk ?_ | refine jc ?_ | refine jl ?_ | refine jb ?_ | refine jo ?_ | refine ji ?_ | refine jx rfl ?_ | refine And.intro (by first | assumption | omega | (intros; omega)) ?_ | ((first | refine jR KL16 (by kernel_rfl) fun _ => ?_ | skip); simp only [KS, Nat.reduceAdd, Nat.reduceMul, Nat.reduceEqDiff, ↓reduceIte, forall_const, Int.cast_ofNat_Int, Int.reduceToNat, TF16, KL16]; (try simp (disch := omega) only [wrapI, tmodI, tdivI]); (fail_if_success (with_reducible show False))))
  refine SemW_buildF (α := MoveD) (W := w) Try.underlying37 ti45 rfl (by decide) (Ext.refl _) [] [] rfl rfl (Cs.nil _) (by decide) fun p0 w0 b0 _ x0 => ?_
  (repeat first | with_reducible first | refine jq ?_ | refine jk ?_ | refine jc ?_ | refine jl ?_ | refine jb ?_ | refine jo ?_ | refine ji ?_ | refine jx rfl ?_ | refine And.intro (by first | assumption | omega | (intros; omega)) ?_ | ((first | refine jR KL16 (by kernel_rfl) fun _ => ?_ | skip); simp only [KS, Nat.reduceAdd, Nat.reduceMul, Nat.reduceEqDiff, ↓reduceIte, forall_const, Int.cast_ofNat_Int, Int.reduceToNat, TF16, KL16]; (try simp (disch := omega) only [wrapI, tmodI, tdivI]); (fail_if_success (with_reducible show False))))
  refine Run_loopV [6, 7, 8, 26, 36] (σ := Nat × Value) (fun q => [(7, some (.int .i64 q.1)), (6, some q.2)]) (fun q w' => q.1 ≤ s.toNat ∧ BufL (α := MoveD) 45 w w' q.2 (Fd.shares a s q.1)) (fun q => s.toNat - q.1) (0, .slice (some p0) 0 0) (by simp [SubB, fnd]) ⟨by simp, by simpa [Fd.shares] using b0⟩ ?_
  rintro ⟨k, vm⟩ w2 ⟨hk, hb⟩
  simp only at hk hb
  have hbl := hb.isS
  rw [Fd.shares_len] at hbl
  (repeat first | with_reducible first | refine jq ?_ | refine jk ?_ | refine jc ?_ | refine jl ?_ | refine jb ?_ | refine jo ?_ | refine ji ?_ | refine jx rfl ?_ | refine And.intro (by first | assumption | omega | (intros; omega)) ?_ | ((first | refine jR KL16 (by kernel_rfl) fun _ => ?_ | skip); simp only [KS, Nat.reduceAdd, Nat.reduceMul, Nat.reduceEqDiff, ↓reduceIte, forall_const, Int.cast_ofNat_Int, Int.reduceToNat, TF16, KL16]; (try simp (disch := omega) only [wrapI, tmodI, tdivI]); (fail_if_success (with_reducible show False))))
  refine Run_condS (fun _ => rfl) (fun h => ?_) (fun h => ?_)
  · simp at h
    have hpb := part_bd (a := a) (s := s) (i := k) (by omega) (by omega) (by omega)
    have hq0 := Int.ediv_le_self s (show 0 ≤ a by omega)
    have hq1 := Int.ediv_nonneg (show 0 ≤ a by omega) (show 0 ≤ s by omega)
    have hpe : Fd.part a s k = a / s + if (k : Int) < a % s then 1 else 0 := rfl
    (repeat first | with_reducible first | refine jq ?_ | refine jk ?_ | refine jc ?_ | refine jl ?_ | refine jb ?_ | refine jo ?_ | refine ji ?_ | refine jx rfl ?_ | refine And.intro (by first | assumption | omega | (intros; omega)) ?_ | ((first | refine jR KL16 (by kernel_rfl) fun _ => ?_ | skip); simp only [KS, Nat.reduceAdd, Nat.reduceMul, Nat.reduceEqDiff, ↓reduceIte, forall_const, Int.cast_ofNat_Int, Int.reduceToNat, TF16, KL16]; (try simp (disch := omega) only [wrapI, tmodI, tdivI]); (fail_if_success (with_reducible show False))))
    refine Run_cutV [8, 36] (σ := Unit) (fun _ => [(8, some (.int .i64 (Fd.part a s k)))]) (fun _ w' => w' = w2) ?_ ?_
    · refine Run_condS (fun _ => rfl) (fun h => ?_) (fun h => ?_)
      · simp at h
        rw [if_pos h] at hpe
        (repeat first | with_reducible first | refine jq ?_ | refine jk ?_ | refine jc ?_ | refine jl ?_ | refine jb ?_ | refine jo ?_ | refine ji ?_ | refine jx rfl ?_ | refine And.intro (by first | assumption | omega | (intros; omega)) ?_ | ((first | refine jR KL16 (by kernel_rfl) fun _ => ?_ | skip); simp only [KS, Nat.reduceAdd, Nat.reduceMul, Nat.reduceEqDiff, ↓reduceIte, forall_const, Int.cast_ofNat_Int, Int.reduceToNat, TF16, KL16]; (try simp (disch := omega) only [wrapI, tmodI, tdivI]); (fail_if_success (with_reducible show False))))
        refine Run_lp ⟨(), ?_, rfl⟩
        rw [hpe]
        simp [SubB, fnd, strike, has]
      · simp at h
        rw [if_neg (by omega), Int.add_zero] at hpe
        (repeat first | with_reducible first | refine jq ?_ | refine jk ?_ | refine jc ?_ | refine jl ?_ | refine jb ?_ | refine jo ?_ | refine ji ?_ | refine jx rfl ?_ | refine And.intro (by first | assumption | omega | (intros; omega)) ?_ | ((first | refine jR KL16 (by kernel_rfl) fun _ => ?_ | skip); simp only [KS, Nat.reduceAdd, Nat.reduceMul, Nat.reduceEqDiff, ↓reduceIte, forall_const, Int.cast_ofNat_Int, Int.reduceToNat, TF16, KL16]; (try simp (disch := omega) only [wrapI, tmodI, tdivI]); (fail_if_success (with_reducible show False))))
        refine Run_lp ⟨(), ?_, rfl⟩
        rw [hpe]
        simp [SubB, fnd, strike, has]
    rintro _ w3 rfl
    (repeat first | with_reducible first | refine jq ?_ | refine jk ?_ | refine jc ?_ | refine jl ?_ | refine jb ?_ | refine jo ?_ | refine ji ?_ | refine jx rfl ?_ | refine And.intro (by first | assumption | omega | (intros; omega)) ?_ | ((first | refine jR KL16 (by kernel_rfl) fun _ => ?_ | skip); simp only [KS, Nat.reduceAdd, Nat.reduceMul, Nat.reduceEqDiff, ↓reduceIte, forall_const, Int.cast_ofNat_Int, Int.reduceToNat, TF16, KL16]; (try simp (disch := omega) only [wrapI, tmodI, tdivI]); (fail_if_success (with_reducible show False))))
    refine ⟨.agg (Fd.shaM a s k).cs.toArray, fun w' => by kernel_rfl, ?_⟩
    refine SemW_append1F (α := MoveD) (X := .agg (Fd.shaM a s k).cs.toArray) (x := Fd.shaM a s k) Try.underlying37 ti45 rfl (by decide) hb ⟨rfl, sha_mi (by omega) (by omega) (by omega) (by omega)⟩ (by simp [maxLen, Fd.shares_len]; omega) fun u v' w4 b4 _ x4 _ => ?_
    rw [← Fd.shares_succ] at b4
    (repeat first | with_reducible first | refine jq ?_ | refine jk ?_ | refine jc ?_ | refine jl ?_ | refine jb ?_ | refine jo ?_ | refine ji ?_ | refine jx rfl ?_ | refine And.intro (by first | assumption | omega | (intros; omega)) ?_ | ((first | refine jR KL16 (by kernel_rfl) fun _ => ?_ | skip); simp only [KS, Nat.reduceAdd, Nat.reduceMul, Nat.reduceEqDiff, ↓reduceIte, forall_const, Int.cast_ofNat_Int, Int.reduceToNat, TF16, KL16]; (try simp (disch := omega) only [wrapI, tmodI, tdivI]); (fail_if_success (with_reducible show False))))
    refine Run_lp ⟨(k + 1, v'), ?_, ⟨by simp only; omega, b4⟩, by simp only; omega⟩
    simp [SubB, fnd, strike, has]
  · simp at h
    obtain rfl : k = s.toNat := by omega
    (repeat first | with_reducible first | refine jq ?_ | refine jk ?_ | refine jc ?_ | refine jl ?_ | refine jb ?_ | refine jo ?_ | refine ji ?_ | refine jx rfl ?_ | refine And.intro (by first | assumption | omega | (intros; omega)) ?_ | ((first | refine jR KL16 (by kernel_rfl) fun _ => ?_ | skip); simp only [KS, Nat.reduceAdd, Nat.reduceMul, Nat.reduceEqDiff, ↓reduceIte, forall_const, Int.cast_ofNat_Int, Int.reduceToNat, TF16, KL16]; (try simp (disch := omega) only [wrapI, tmodI, tdivI]); (fail_if_success (with_reducible show False))))
    refine Run_ret ?_
    simp [Rets, RetM, resV, fnd, oneOr, MvRet, hd]
    exact ⟨hb.ext0, hb.sl (by rw [Fd.shares_len]; omega)⟩
/-! the reference's plan -/
def formP (t : TimeD) (p : PlanD) (k : Nat) : Bool := Tt.isRun t (p.Runs.getD k default) && (decide (k = 0) || Tt.before (p.Runs.getD (k - 1) default) (p.Runs.getD k default)) && Fd.covOk (p.Covers.getD k 0)
theorem formed_at {t : TimeD} {p : PlanD} (hcl : p.Covers.length = p.Runs.length) : Fd.formed t p = true ↔ ∀ k, k < p.Runs.length → formP t p k = true := by
  have hg : ∀ {k}, k < p.Runs.length → p.Covers.getD k 0 ∈ p.Covers := fun {k} hk => by
    have hk' : k < p.Covers.length := by omega
    have e : p.Covers.getD k 0 = p.Covers[k] := by simp [List.getD_eq_getElem?_getD, hk']
    rw [e]; exact List.getElem_mem hk'
  have hr : ∀ {k}, k < p.Runs.length → p.Runs.getD k default ∈ p.Runs := fun {k} hk => by
    have e : p.Runs.getD k default = p.Runs[k] := by simp [List.getD_eq_getElem?_getD, hk]
    rw [e]; exact List.getElem_mem hk
  simp only [Fd.formed, Bool.and_eq_true, decide_eq_true_eq, List.all_eq_true, formP, Bool.or_eq_true, ord_iff]
  constructor
  · rintro ⟨⟨⟨_, h1⟩, h2⟩, h3⟩ k hk
    refine ⟨⟨h1 _ (hr hk), ?_⟩, h3 _ (hg hk)⟩
    by_cases k0 : k = 0
    · exact .inl k0
    · exact .inr (h2 k (by omega) hk)
  · intro h
    refine ⟨⟨⟨hcl, fun r hr => ?_⟩, fun k h1 h2 => ?_⟩, fun n hn => ?_⟩
    · obtain ⟨k, hk, rfl⟩ := List.getElem_of_mem hr
      have := (h k hk).1.1
      simpa [List.getD_eq_getElem?_getD, hk] using this
    · rcases (h k h2).1.2 with h | h
      · omega
      · exact h
    · obtain ⟨k, hk, rfl⟩ := List.getElem_of_mem hn
      have := (h k (by omega)).2
      simpa [List.getD_eq_getElem?_getD, hk] using this
theorem rfFormed (vl v0 v1 v2 : Value) (t : TimeD) (p : PlanD) (w : World) (hl : Sl w vl t.Lines) (hP : PlanR w p v0 v1 v2) :
    Calls Try.prog 29 #[.agg (t.cs vl).toArray, .agg (p.cs v0 v1 v2).toArray] w fun e w' => e = .returned (.bool (Fd.formed t p)) ∧ Ext w w' := by
  have hn := hP.r.small
  have hrl := hP.r.len
  have hcl' := hP.c.len
  refine Calls_of_Run (args := [.agg (t.cs vl).toArray, .agg (p.cs v0 v1 v2).toArray]) (n := 63) (rs := [.tmp 4]) Try.func29 rfl rfl rfl (by simp) ?_
  (repeat first | with_reducible first | refine jq ?_ | refine jk ?_ | refine jc ?_ | refine jl ?_ | refine jb ?_ | refine jo ?_ | refine ji ?_ | refine jx rfl ?_ | refine And.intro (by first | assumption | omega | (intros; omega)) ?_ | ((first | refine jR KL29 (by kernel_rfl) fun _ => ?_ | refine jD (id := 6) KL29 mixed (by kernel_rfl) (by kernel_rfl) fun _ => ?_ | skip); simp only [KS, Nat.reduceAdd, Nat.reduceMul, Nat.reduceEqDiff, ↓reduceIte, forall_const, Int.cast_ofNat_Int, Int.reduceToNat, TF29, KL29]; (try simp (disch := omega) only [wrapI, tmodI, tdivI]); (fail_if_success (with_reducible show False))))
  refine SemW_box fun pt w1 h1 => SemW_box fun pp w2 h2 => ?_
  have x2 := h1.ext.trans h2.ext
  have T : ∀ w', Ext w2 w' → AtN w' pt 0 (t.cs vl) := fun w' x => (h1.at_.ext (h2.ext.trans x)).n
  have P : ∀ w', Ext w2 w' → AtN w' pp 0 (p.cs v0 v1 v2) := fun w' x => (h2.at_.ext x).n
  simp only [TimeD.cs, PlanD.cs, AtN, KS, Nat.reduceAdd, Nat.reduceMul, Nat.reduceEqDiff, ↓reduceIte, UT] at T P
  have p2 := P w2 (Ext.refl _)
  (repeat first | with_reducible first | refine jq ?_ | refine jk ?_ | refine jc ?_ | refine jl ?_ | refine jb ?_ | refine jo ?_ | refine ji ?_ | refine jx rfl ?_ | refine And.intro (by first | assumption | omega | (intros; omega)) ?_ | ((first | refine jR KL29 (by kernel_rfl) fun _ => ?_ | refine jD (id := 6) KL29 mixed (by kernel_rfl) (by kernel_rfl) fun _ => ?_ | skip); simp only [KS, Nat.reduceAdd, Nat.reduceMul, Nat.reduceEqDiff, ↓reduceIte, forall_const, Int.cast_ofNat_Int, Int.reduceToNat, TF29, KL29, p2, hP.r.s, hP.r.len, hP.c.s, hP.c.len]; (try simp (disch := omega) only [wrapI, tmodI, tdivI]); (fail_if_success (with_reducible show False))))
  refine Run_condS (fun _ => rfl) (fun h => ?_) (fun h => ?_)
  · simp at h
    (repeat first | with_reducible first | refine jq ?_ | refine jk ?_ | refine jc ?_ | refine jl ?_ | refine jb ?_ | refine jo ?_ | refine ji ?_ | refine jx rfl ?_ | refine And.intro (by first | assumption | omega | (intros; omega)) ?_ | ((first | refine jR KL29 (by kernel_rfl) fun _ => ?_ | refine jD (id := 6) KL29 mixed (by kernel_rfl) (by kernel_rfl) fun _ => ?_ | skip); simp only [KS, Nat.reduceAdd, Nat.reduceMul, Nat.reduceEqDiff, ↓reduceIte, forall_const, Int.cast_ofNat_Int, Int.reduceToNat, TF29, KL29]; (try simp (disch := omega) only [wrapI, tmodI, tdivI]); (fail_if_success (with_reducible show False))))
    refine Run_ret ?_
    have : Fd.formed t p = false := by
      have : decide (p.Covers.length = p.Runs.length) = false := by simp; omega
      simp [Fd.formed, this]
    simp [Rets, RetM, resV, fnd, oneOr, this, x2]
  simp at h
  have hcl : p.Covers.length = p.Runs.length := by omega
  (repeat first | with_reducible first | refine jq ?_ | refine jk ?_ | refine jc ?_ | refine jl ?_ | refine jb ?_ | refine jo ?_ | refine ji ?_ | refine jx rfl ?_ | refine And.intro (by first | assumption | omega | (intros; omega)) ?_ | ((first | refine jR KL29 (by kernel_rfl) fun _ => ?_ | refine jD (id := 6) KL29 mixed (by kernel_rfl) (by kernel_rfl) fun _ => ?_ | skip); simp only [KS, Nat.reduceAdd, Nat.reduceMul, Nat.reduceEqDiff, ↓reduceIte, forall_const, Int.cast_ofNat_Int, Int.reduceToNat, TF29, KL29]; (try simp (disch := omega) only [wrapI, tmodI, tdivI]); (fail_if_success (with_reducible show False))))
  refine Run_loopV [4, 5, 17, 62] (σ := Nat) (fun k => [(5, some (.int .i64 k))]) (fun k w' => k ≤ p.Runs.length ∧ (∀ j, j < k → formP t p j = true) ∧ Ext w2 w') (fun k => p.Runs.length - k) 0 (by simp [SubB, fnd]) ⟨by omega, by simp, Ext.refl _⟩ ?_
  rintro k w4 ⟨hk, hf, x4⟩
  have y4 := x2.trans x4
  have p4 := P w4 x4
  have t4 := T w4 x4
  (repeat first | with_reducible first | refine jq ?_ | refine jk ?_ | refine jc ?_ | refine jl ?_ | refine jb ?_ | refine jo ?_ | refine ji ?_ | refine jx rfl ?_ | refine And.intro (by first | assumption | omega | (intros; omega)) ?_ | ((first | refine jR KL29 (by kernel_rfl) fun _ => ?_ | refine jD (id := 6) KL29 mixed (by kernel_rfl) (by kernel_rfl) fun _ => ?_ | skip); simp only [KS, Nat.reduceAdd, Nat.reduceMul, Nat.reduceEqDiff, ↓reduceIte, forall_const, Int.cast_ofNat_Int, Int.reduceToNat, TF29, KL29, p4, hP.r.s, hP.r.len]; (try simp (disch := omega) only [wrapI, tmodI, tdivI]); (fail_if_success (with_reducible show False))))
  refine Run_condS (fun _ => rfl) (fun h => ?_) (fun h => ?_)
  · simp at h
    have hkl := h
    obtain ⟨q1, q2⟩ := (hP.r.ext y4).runD hkl
    obtain ⟨c1, c2, c3⟩ := (hP.c.ext y4).get (show k < p.Covers.length by omega)
    have hgr : p.Runs.getD k default = p.Runs[k] := by simp [List.getD_eq_getElem?_getD, hkl]
    have hgc : p.Covers.getD k 0 = p.Covers[k]'(by omega) := by simp [List.getD_eq_getElem?_getD, show k < p.Covers.length by omega]
    have hcv : (!Fd.covOk (p.Covers[k]'(by omega))) = (decide (p.Covers[k]'(by omega) < 0) || decide (64 < p.Covers[k]'(by omega))) := by
      rw [Bool.eq_iff_iff]; simp [Fd.covOk]
    simp only [RunD.cs, AtN, KS, Nat.reduceAdd, Nat.reduceMul, Nat.reduceEqDiff, ↓reduceIte, UT] at q1
    by_cases k0 : k = 0
    · subst k0
      simp only [Nat.zero_mul, add_zero, Nat.zero_add] at q1 c1 c2
      have e0 : decide ((0 : Int) < 0) = false := by decide
      (repeat first | with_reducible first | refine jq ?_ | refine jk ?_ | refine jc ?_ | refine jl ?_ | refine jb ?_ | refine jo ?_ | refine ji ?_ | refine jx rfl ?_ | refine And.intro (by first | assumption | omega | (intros; omega)) ?_ | ((first | refine jR KL29 (by kernel_rfl) fun _ => ?_ | refine jD (id := 6) KL29 mixed (by kernel_rfl) (by kernel_rfl) fun _ => ?_ | skip); simp only [KS, Nat.reduceAdd, Nat.reduceMul, Nat.reduceEqDiff, ↓reduceIte, forall_const, Int.cast_ofNat_Int, Int.reduceToNat, TF29, KL29, t4, p4, hP.r.s, hP.r.len, hP.c.s, hP.c.len, q1, c1, c2, e0, Nat.zero_mul, add_zero, pk_true, pk_false, false_or, or_false, false_imp_iff, true_imp_iff, not_true_eq_false, not_false_eq_true, Bool.true_or, Bool.false_or, Bool.or_true, Bool.or_false, Bool.true_and, Bool.false_and, Bool.and_true, Bool.and_false]; (try simp (disch := omega) only [wrapI, tmodI, tdivI]); (fail_if_success (with_reducible show False))))
      refine ⟨.bool (Tt.isRun t p.Runs[0]), PC_pure call60 fun w5 x5 => rfIs vl t _ w5 (hl.ext (y4.trans x5)) (runI hP.r hkl), ?_⟩
      refine ⟨rfl, undef, (fun _ => ⟨by omega, by omega⟩), (fun _ => ⟨by omega, by omega⟩), fun w5 x5 => ?_⟩
      have hb : (!bOf (Value.bool (Tt.isRun t p.Runs[0])) || decide ((p.Covers[0]'(by omega)) < (0 : Int)) || decide ((64 : Int) < (p.Covers[0]'(by omega)))) = !formP t p 0 := by
        have e : formP t p 0 = (Tt.isRun t p.Runs[0] && Fd.covOk (p.Covers[0]'(by omega))) := by simp only [formP, hgr, hgc]; simp
        rw [e, Bool.not_and, hcv, bOf_mk, Bool.or_assoc]
      rw [hb]
      have y5 := y4.trans x5
      refine Run_condS (fun _ => rfl) (fun h => ?_) (fun h => ?_)
      · (repeat first | with_reducible first | refine jq ?_ | refine jk ?_ | refine jc ?_ | refine jl ?_ | refine jb ?_ | refine jo ?_ | refine ji ?_ | refine jx rfl ?_ | refine And.intro (by first | assumption | omega | (intros; omega)) ?_ | ((first | refine jR KL29 (by kernel_rfl) fun _ => ?_ | refine jD (id := 6) KL29 mixed (by kernel_rfl) (by kernel_rfl) fun _ => ?_ | skip); simp only [KS, Nat.reduceAdd, Nat.reduceMul, Nat.reduceEqDiff, ↓reduceIte, forall_const, Int.cast_ofNat_Int, Int.reduceToNat, TF29, KL29]; (try simp (disch := omega) only [wrapI, tmodI, tdivI]); (fail_if_success (with_reducible show False))))
        refine Run_ret ?_
        have : Fd.formed t p = false := by
          cases ho : Fd.formed t p with
          | false => rfl
          | true =>
            have := (formed_at hcl).1 ho 0 hkl
            rw [this] at h; cases h
        simp [Rets, RetM, resV, fnd, oneOr, this, y5]
      · have hpk : formP t p 0 = true := by simpa using h
        (repeat first | with_reducible first | refine jq ?_ | refine jk ?_ | refine jc ?_ | refine jl ?_ | refine jb ?_ | refine jo ?_ | refine ji ?_ | refine jx rfl ?_ | refine And.intro (by first | assumption | omega | (intros; omega)) ?_ | ((first | refine jR KL29 (by kernel_rfl) fun _ => ?_ | refine jD (id := 6) KL29 mixed (by kernel_rfl) (by kernel_rfl) fun _ => ?_ | skip); simp only [KS, Nat.reduceAdd, Nat.reduceMul, Nat.reduceEqDiff, ↓reduceIte, forall_const, Int.cast_ofNat_Int, Int.reduceToNat, TF29, KL29]; (try simp (disch := omega) only [wrapI, tmodI, tdivI]); (fail_if_success (with_reducible show False))))
        refine Run_lp ⟨0 + 1, ?_, ⟨by omega, fun j hj => ?_, x4.trans x5⟩, by omega⟩
        · simp [SubB, fnd, strike, has]
        · by_cases e : j = 0
          · rw [e]; exact hpk
          · exact hf j (by omega)
    · have e0 : decide (0 < (k : Int)) = true := by simp; omega
      have e1 : ((k : Int) - 1).toNat = k - 1 := by omega
      obtain ⟨u1, u2⟩ := (hP.r.ext y4).runD (show k - 1 < p.Runs.length by omega)
      simp only [RunD.cs, AtN, KS, Nat.reduceAdd, Nat.reduceMul, Nat.reduceEqDiff, ↓reduceIte, UT] at u1
      (repeat first | with_reducible first | refine jq ?_ | refine jk ?_ | refine jc ?_ | refine jl ?_ | refine jb ?_ | refine jo ?_ | refine ji ?_ | refine jx rfl ?_ | refine And.intro (by first | assumption | omega | (intros; omega)) ?_ | ((first | refine jR KL29 (by kernel_rfl) fun _ => ?_ | refine jD (id := 6) KL29 mixed (by kernel_rfl) (by kernel_rfl) fun _ => ?_ | skip); simp only [KS, Nat.reduceAdd, Nat.reduceMul, Nat.reduceEqDiff, ↓reduceIte, forall_const, Int.cast_ofNat_Int, Int.reduceToNat, TF29, KL29, t4, p4, hP.r.s, hP.r.len, hP.c.s, hP.c.len, q1, u1, c1, c2, e0, e1, pk_true, pk_false, false_or, or_false, false_imp_iff, true_imp_iff, not_true_eq_false, not_false_eq_true, Bool.true_or, Bool.false_or, Bool.or_true, Bool.or_false, Bool.true_and, Bool.false_and, Bool.and_true, Bool.and_false]; (try simp (disch := omega) only [wrapI, tmodI, tdivI]); (fail_if_success (with_reducible show False))))
      have hgr1 : p.Runs.getD (k - 1) default = p.Runs[k - 1] := by simp [List.getD_eq_getElem?_getD, show k - 1 < p.Runs.length by omega]
      refine ⟨.bool (Tt.isRun t p.Runs[k]), PC_pure call60 fun w5 x5 => rfIs vl t _ w5 (hl.ext (y4.trans x5)) (runI hP.r hkl), rfl, (fun _ => ⟨by omega, by omega⟩), (fun _ => ⟨by omega, by omega⟩), ?_⟩
      refine ⟨.bool (Tt.before p.Runs[k - 1] p.Runs[k]), (fun _ => PC_pure call61 fun w5 x5 => rfBefore _ _ w5), (fun _ => rfl), (fun _ => ⟨by omega, by omega⟩), (fun _ => ⟨by omega, by omega⟩), fun w5 x5 => ?_⟩
      have hb : (!bOf (Value.bool (Tt.isRun t p.Runs[k])) || !bOf (Value.bool (Tt.before p.Runs[k - 1] p.Runs[k])) || decide ((p.Covers[k]'(by omega)) < (0 : Int)) || decide ((64 : Int) < (p.Covers[k]'(by omega)))) = !formP t p k := by
        have e : formP t p k = (Tt.isRun t p.Runs[k] && Tt.before p.Runs[k - 1] p.Runs[k] && Fd.covOk (p.Covers[k]'(by omega))) := by simp only [formP, hgr, hgr1, hgc, decide_eq_false k0, Bool.false_or]
        rw [e, Bool.not_and, Bool.not_and, hcv, bOf_mk, bOf_mk, Bool.or_assoc]
      rw [hb]
      have y5 := y4.trans x5
      refine Run_condS (fun _ => rfl) (fun h => ?_) (fun h => ?_)
      · (repeat first | with_reducible first | refine jq ?_ | refine jk ?_ | refine jc ?_ | refine jl ?_ | refine jb ?_ | refine jo ?_ | refine ji ?_ | refine jx rfl ?_ | refine And.intro (by first | assumption | omega | (intros; omega)) ?_ | ((first | refine jR KL29 (by kernel_rfl) fun _ => ?_ | refine jD (id := 6) KL29 mixed (by kernel_rfl) (by kernel_rfl) fun _ => ?_ | skip); simp only [KS, Nat.reduceAdd, Nat.reduceMul, Nat.reduceEqDiff, ↓reduceIte, forall_const, Int.cast_ofNat_Int, Int.reduceToNat, TF29, KL29]; (try simp (disch := omega) only [wrapI, tmodI, tdivI]); (fail_if_success (with_reducible show False))))
        refine Run_ret ?_
        have : Fd.formed t p = false := by
          cases ho : Fd.formed t p with
          | false => rfl
          | true =>
            have := (formed_at hcl).1 ho k hkl
            rw [this] at h; cases h
        simp [Rets, RetM, resV, fnd, oneOr, this, y5]
      · have hpk : formP t p k = true := by simpa using h
        (repeat first | with_reducible first | refine jq ?_ | refine jk ?_ | refine jc ?_ | refine jl ?_ | refine jb ?_ | refine jo ?_ | refine ji ?_ | refine jx rfl ?_ | refine And.intro (by first | assumption | omega | (intros; omega)) ?_ | ((first | refine jR KL29 (by kernel_rfl) fun _ => ?_ | refine jD (id := 6) KL29 mixed (by kernel_rfl) (by kernel_rfl) fun _ => ?_ | skip); simp only [KS, Nat.reduceAdd, Nat.reduceMul, Nat.reduceEqDiff, ↓reduceIte, forall_const, Int.cast_ofNat_Int, Int.reduceToNat, TF29, KL29]; (try simp (disch := omega) only [wrapI, tmodI, tdivI]); (fail_if_success (with_reducible show False))))
        refine Run_lp ⟨k + 1, ?_, ⟨by omega, fun j hj => ?_, x4.trans x5⟩, by omega⟩
        · simp [SubB, fnd, strike, has]
        · by_cases e : j = k
          · rw [e]; exact hpk
          · exact hf j (by omega)
  · simp at h
    obtain rfl : k = p.Runs.length := by omega
    (repeat first | with_reducible first | refine jq ?_ | refine jk ?_ | refine jc ?_ | refine jl ?_ | refine jb ?_ | refine jo ?_ | refine ji ?_ | refine jx rfl ?_ | refine And.intro (by first | assumption | omega | (intros; omega)) ?_ | ((first | refine jR KL29 (by kernel_rfl) fun _ => ?_ | refine jD (id := 6) KL29 mixed (by kernel_rfl) (by kernel_rfl) fun _ => ?_ | skip); simp only [KS, Nat.reduceAdd, Nat.reduceMul, Nat.reduceEqDiff, ↓reduceIte, forall_const, Int.cast_ofNat_Int, Int.reduceToNat, TF29, KL29]; (try simp (disch := omega) only [wrapI, tmodI, tdivI]); (fail_if_success (with_reducible show False))))
    refine Run_ret ?_
    have : Fd.formed t p = true := (formed_at hcl).2 hf
    simp [Rets, RetM, resV, fnd, oneOr, this, y4]
end Go.Proofs.Ytcncbmdkifdggaa
