import Derived.Test.YthengmdnikaooaaGreatQfW22n
namespace Go.Proofs.YthengmdnikaooaaGreat
open Go Go.Fk
set_option linter.unusedSimpArgs false
set_option linter.unusedVariables false
set_option maxRecDepth 100000
theorem fstR_spec {p : RunD → Bool} : ∀ (l : List RunD) (k : Nat), (fstR p l k = -1 ∧ ∀ r ∈ l, p r = false) ∨ ∃ j, fstR p l k = ((k + j : Nat) : Int) ∧ ∃ h : j < l.length, p l[j] = true ∧ ∀ m (hm : m < j), p (l[m]'(by omega)) = false
  | [], k => .inl ⟨rfl, by simp⟩
  | r :: l, k => by
    unfold fstR
    by_cases h : p r = true
    · rw [if_pos h]
      exact .inr ⟨0, rfl, by simp, h, fun m hm => by omega⟩
    · rw [if_neg h]
      rcases fstR_spec l (k + 1) with ⟨h1, h2⟩ | ⟨j, h1, h2, h3, h4⟩
      · refine .inl ⟨h1, fun x hx => ?_⟩
        rcases List.mem_cons.1 hx with rfl | hx
        · simpa using h
        · exact h2 x hx
      · refine .inr ⟨j + 1, by rw [h1]; congr 1; omega, by simpa using h2, by simpa using h3, fun m hm => ?_⟩
        cases m with
        | zero => simpa using h
        | succ m => simpa using h4 m (by omega)
theorem DelI.start {p : RunD → Bool} {xs : List RunD} {j : Nat} (hj : j < xs.length) (h1 : p xs[j] = true) (h2 : ∀ m (hm : m < j), p (xs[m]'(by omega)) = false) : DelI p xs xs j (j + 1) := by
  refine ⟨rfl, ⟨by omega, hj⟩, ?_, fun m _ _ => rfl⟩
  rw [List.take_add_one, List.getElem?_eq_getElem hj, List.filter_append]
  have : (xs.take j).filter (fun r => !p r) = xs.take j := List.filter_eq_self.2 fun r hr => by
    obtain ⟨m, hm, rfl⟩ := List.getElem_of_mem hr
    rw [List.length_take] at hm
    simp [h2 m (by omega)]
  rw [this]
  simp [h1]
theorem flatten_take {n : Nat} : ∀ (css : List (List Value)) (i : Nat), i ≤ css.length → (∀ c ∈ css, c.length = n) → css.flatten.take (i * n) = (css.take i).flatten
  | css, 0, _, _ => by simp
  | [], i + 1, h, _ => by simp at h
  | c :: r, i + 1, h, hc => by
    have h1 := hc c (by simp)
    rw [List.flatten_cons, List.take_succ_cons, List.flatten_cons, show (i + 1) * n = c.length + i * n by rw [Nat.add_mul]; omega, List.take_length_add_append, flatten_take r i (by simpa using h) fun x hx => hc x (by simp [hx])]
set_option maxHeartbeats 4000000 in
theorem delR (v fv : Value) (xs : List RunD) (p : RunD → Bool) (W w : World) (hB : BufL (α := RunD) 32 W w v xs) (hn : xs.length ≤ 1000000) (hp : ∀ r ∈ xs, ∀ w', Ext W w' → ∀ K : Value → World → Prop, (∀ w'', Ext w' w'' → K (.bool (p r)) w'') → CallW Tryz.prog fv [.agg r.cs.toArray] w' K) :
    Calls Tryz.prog 41 #[v, fv] w fun e w' => ∃ v', e = .returned v' ∧ Ext W w' ∧ Sl w' v' (xs.filter fun r => !p r) := by
  have hx := hB.sl (by omega)
  refine Calls_of_Run (args := [v, fv]) (n := 42) (rs := [.tmp 4]) Tryz.func41 rfl rfl rfl (by simp) ?_
  (repeat with_reducible first | refine js ?_ | refine ja ?_ | refine jw KL41 [] TF41 fun _ => ?_)
  refine CallW_pure call79 (idxFR v fv xs p w hx fun r hr w' x K hK => hp r hr w' (hB.ext0.trans x) K hK) fun w1 x1 => ?_
  (repeat with_reducible first | refine js ?_ | refine ja ?_ | refine jw KL41 [] TF41 fun _ => ?_)
  rcases fstR_spec (p := p) xs 0 with ⟨h1, h2⟩ | ⟨j0, h1, h2, h3, h4⟩
  · rw [h1]
    refine Run_condS (fun _ => rfl) (fun h => ?_) (fun h => ?_)
    · (repeat with_reducible first | refine js ?_ | refine ja ?_ | refine jw KL41 [] TF41 fun _ => ?_)
      refine Run_ret ?_
      simp [Rets, RetM, resV, fnd, oneOr]
      refine ⟨hB.ext0.trans x1, ?_⟩
      rw [List.filter_eq_self.2 fun r hr => by simp [h2 r hr]]
      exact hx.ext x1
    · exact absurd h (by decide)
  rw [h1, Nat.zero_add]
  refine Run_condS (fun _ => rfl) (fun h => ?_) (fun h => ?_)
  · exfalso; simp at h
  clear h
  have B1 := hB.ext x1
  (repeat with_reducible first | refine js ?_ | refine ja ?_ | refine jw KL41 [] TF41 fun _ => ?_)
  refine Run_loopV [5, 6, 7, 19, 29] (σ := Nat × Nat × List RunD) (fun q => [(6, some (.int .i64 q.2.1)), (5, some (.int .i64 q.1))]) (fun q w' => q.1 < q.2.1 ∧ DelI p xs q.2.2 q.1 q.2.1 ∧ BufL (α := RunD) 32 W w' v q.2.2) (fun q => xs.length - q.2.1) (j0, j0 + 1, xs) (by simp [SubB, fnd]) ⟨by simp, DelI.start h2 h3 h4, B1⟩ ?_
  rintro ⟨i, j, ys⟩ w2 ⟨hij, D, B2⟩
  simp only at hij D B2
  have hyn := D.n
  have hD := D.ij
  obtain ⟨vs1, vs2⟩ := B2.isS
  rw [hyn] at vs2
  (repeat with_reducible first | refine js ?_ | refine ja ?_ | refine jw KL41 [] (aa TF41 (aa vs1 vs2)) fun _ => ?_)
  refine Run_condS (fun _ => rfl) (fun h => ?_) (fun h => ?_)
  · simp at h
    have hjl : j < xs.length := by omega
    have hjc : (j : Int) < xs.length := by omega
    clear h
    have s2 := B2.sl (by omega)
    obtain ⟨r1, r2⟩ := s2.runD (show j < ys.length by omega)
    have hyj : ys[j]'(by omega) = xs[j] := by
      have := D.r j (Nat.le_refl _) hjl
      rw [List.getElem?_eq_getElem (by omega), List.getElem?_eq_getElem hjl] at this
      exact Option.some.inj this
    rw [hyj] at r1 r2
    have hpj := hp _ (List.getElem_mem hjl)
    have hDs := D.skip hjl
    have hDp := D.put hjl
    generalize xs[j] = r at *
    simp only [RunD.cs, AtN, KS, Nat.reduceAdd, Nat.reduceMul, Nat.reduceEqDiff, ↓reduceIte, UT] at r1
    (repeat with_reducible first | refine js ?_ | refine ja ?_ | refine jw KL41 [] (aa TF41 (aa vs1 (aa vs2 r1))) fun _ => ?_)
    refine SemW_allocT ti32 fun pr w3 h3 => ?_
    have b3 := h3.blk
    (repeat with_reducible first | refine js ?_ | refine ja ?_ | refine jw KL41 [] TF41 fun _ => ?_)
    refine SemW_setW (by rw [cells32]; decide) (by rw [cells32]; rfl) h3.row (by rw [cells32]; rfl) rfl fun w4 q4 k4 z4 => ?_
    have q4 : Row w4 pr 32 r.cs := by simpa [Value.cells, RunD.cs] using q4
    have x4 : Ext w2 w4 := Keep.ext h3.ext k4 fun b hb => by omega
    have B4 := B2.ext x4
    have q4n := q4.n
    simp only [RunD.cs, AtN, KS, Nat.reduceAdd, Nat.reduceMul, Nat.reduceEqDiff, ↓reduceIte, UT] at q4n
    (repeat with_reducible first | refine js ?_ | refine ja ?_ | refine jw KL41 [] (aa TF41 q4n) fun _ => ?_)
    refine hpj w4 B4.ext0 _ fun w5 x5 => ?_
    have q5 := q4.ext x5
    have q5n := q5.n
    simp only [RunD.cs, AtN, KS, Nat.reduceAdd, Nat.reduceMul, Nat.reduceEqDiff, ↓reduceIte, UT] at q5n
    have B5 := B4.ext x5
    (repeat with_reducible first | refine js ?_ | refine ja ?_ | refine jw KL41 [] (aa TF41 q5n) fun _ => ?_)
    refine Run_condS (fun _ => rfl) (fun h => ?_) (fun h => ?_)
    · simp at h
      (repeat with_reducible first | refine js ?_ | refine ja ?_ | refine jw KL41 [] (aa TF41 (aa q5n (aa vs1 vs2))) fun _ => ?_)
      refine SemW_setE B5 i (by omega) r (by rw [cells32]; rfl) (by decide) ⟨rfl, r2⟩ rfl fun w6 B6 k6 z6 x6 => ?_
      (repeat with_reducible first | refine js ?_ | refine ja ?_ | refine jw KL41 [] TF41 fun _ => ?_)
      exact Run_lp ⟨(i + 1, j + 1, ys.set i r), by simp [SubB, fnd, strike, has], ⟨by show i + 1 < j + 1; omega, hDp h, B6⟩, by show xs.length - (j + 1) < xs.length - j; omega⟩
    · simp at h
      (repeat with_reducible first | refine js ?_ | refine ja ?_ | refine jw KL41 [] TF41 fun _ => ?_)
      exact Run_lp ⟨(i, j + 1, ys), by simp [SubB, fnd, strike, has], ⟨by show i < j + 1; omega, hDs h, B5⟩, by show xs.length - (j + 1) < xs.length - j; omega⟩
  · simp at h
    obtain rfl : j = xs.length := by omega
    (repeat with_reducible first | refine js ?_ | refine ja ?_ | refine jw KL41 [] (aa TF41 (aa vs1 vs2)) fun _ => ?_)
    (repeat with_reducible first | refine jq ?_ | refine jk ?_ | refine jc ?_ | refine jl ?_ | refine jb ?_ | refine jo ?_ | refine ji ?_ | refine jx rfl ?_)
    refine Run_lastClear (id := 11) KL41 3 _ _ rfl rfl rfl rfl (by kernel_rfl) (by kernel_rfl) fun _ => ?_
    (try simp (maxSteps := 5000000) only [KS, Nat.reduceAdd, Nat.reduceMul, Nat.reduceEqDiff, ↓reduceIte, forall_const, Int.cast_ofNat_Int, Int.reduceToNat, List.take_succ_cons, List.take_zero, List.drop_succ_cons, List.drop_zero, TF41, KL41, vs1, vs2]); (try simp (disch := omega) only [wrapI, tmodI, tdivI])
    refine ⟨⟨by omega, by omega, fun h => h.elim, fun h => h.elim⟩, ?_⟩
    obtain ⟨css, rest, cap, hcs, hr, hv, hc1, hc2, hc3, hc4, hc5⟩ := B2.rowA (i := i) (by omega)
    have hcl := hcs.flen
    have hcap : slCap v = cap := by rw [hv]; rfl
    rw [hcap]
    have hs1 : slSub 3 v i xs.length cap = .slice (some ((slAt v).add (i * 3))) (xs.length - i) (cap - i) := by
      rw [hv]; simp only [slSub, Option.map_some, slAt_mk]
      rw [if_neg (by omega)]
    rw [hs1]
    simp only [Enc.n] at hcl hc3
    rw [List.length_append, hcl] at hc3
    refine SemW_clear Tryz.underlying39 ti32 rfl (by decide) (by simp [Value.cells, Value.oneCell']) hr (by rw [List.length_append]; omega) (by omega) fun w3 ⟨zs, R3, hz⟩ k3 z3 => ?_
    have x3 : Ext W w3 := Keep.ext B2.ext0 k3 fun b hb => by omega
    (repeat with_reducible first | refine js ?_ | refine ja ?_ | refine jw KL41 [] (aa TF41 (aa vs1 vs2)) fun _ => ?_)
    refine Run_ret ?_
    simp [Rets, RetM, resV, fnd, oneOr]
    refine ⟨x3, ?_⟩
    have hk := D.k
    rw [List.take_length] at hk
    rw [← hk, hcap]
    have e0 : slSub 3 v 0 i cap = .slice (some (slAt v)) i cap := by
      rw [hv]; simp only [slSub, Option.map_some, slAt_mk]
      rw [if_neg (by omega), Nat.zero_mul, Nat.sub_zero, Nat.sub_zero, show (slAt v).add 0 = slAt v by rw [hr.p0, mk_add]]
    rw [e0]
    have hci := hcs.lens
    simp only [Enc.n] at hci
    have hft : (css.flatten ++ rest).take (i * 3) = (css.take i).flatten := by
      rw [List.take_append_of_le_length (by rw [hcl]; omega)]
      exact flatten_take css i (by rw [hcs.len]; omega) hci
    rw [hft, List.append_assoc] at R3
    have hct : Cs w3 (css.take i) (ys.take i) := ⟨by simp [hcs.len], fun m h1 h2 => by
      simp only [List.length_take] at h1 h2
      rw [List.getElem_take, List.getElem_take]
      exact Flat.any _ _ _ _ (hcs.rep m (by omega) (by omega))⟩
    have hlt : (ys.take i).length = i := by rw [List.length_take]; omega
    have := BufL.back (α := RunD) (e := 32) (v := .slice (some (slAt v)) i cap) (cap := cap) x3 hct R3 (by rw [hlt]; rfl) (by omega) hc2 (by
      rw [List.length_append, hct.flen, hlt, List.length_append, hz, List.length_drop, List.length_append, hcl]; simp only [Enc.n]; omega) hc4
    exact this.sl (by omega)
end Go.Proofs.YthengmdnikaooaaGreat
