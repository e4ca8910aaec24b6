import Derived.Test.YtldjfebokojmfaaGreatRgW22f
import Derived.Test.YtldjfebokojmfaaGreatRgGs
import Derived.Test.YtldjfebokojmfaaGreatRgGb
namespace Go.Proofs.YtldjfebokojmfaaGreat
open Go Go.Fk
set_option linter.unusedSimpArgs false
set_option linter.unusedVariables false
set_option maxRecDepth 100000
theorem clnRuns (v : Value) (xs : List RunD) (w : World) (hx : Sl w v xs) (hn : xs.length ≤ 1000000) :
    Calls Tryz.prog 60 #[v] w fun e w' => ∃ v', e = .returned v' ∧ BufL (α := RunD) 34 w w' v' xs := by
  have hs := hx.s
  refine Calls_of_Run (args := [v]) (n := 8) (rs := [.tmp 2]) Tryz.func60 rfl rfl rfl (by simp) ?_
  rcases hs.ex with rfl | ⟨a, n, c, rfl⟩
  · have : xs = [] := List.eq_nil_of_length_eq_zero (by have := hx.len; simpa using this.symm)
    subst this
    (repeat with_reducible first | refine jy ?_ | refine jw KL60 [] (aa TF60 KX) fun _ => ?_)
    refine Run_condS (fun _ => rfl) (fun _ => ?_) (fun h => by cases h)
    (repeat with_reducible first | refine jy ?_ | refine jw KL60 [] TF60 fun _ => ?_)
    refine Run_ret ?_
    simp [Rets, RetM, resV, fnd, oneOr]
    exact BufL.nil (Ext.refl _)
  · (repeat with_reducible first | refine jy ?_ | refine jw KL60 [] (aa TF60 KX) fun _ => ?_)
    refine Run_condS (fun _ => rfl) (fun h => by cases h) (fun _ => ?_)
    (repeat with_reducible first | refine jy ?_ | refine jw KL60 [] TF60 fun _ => ?_)
    refine SemW_buildF (α := RunD) (W := w) Tryz.underlying59 ti34 rfl (by decide) (Ext.refl _) [] [] rfl rfl (Cs.nil _) (by decide) fun p0 w1 b1 _ x1 => ?_
    refine SemW_appendF (α := RunD) Tryz.underlying59 ti34 rfl (by decide) b1 (hx.ext x1) (by simp only [maxLen, List.length_nil]; omega) fun v' w2 b2 _ x2 => ?_
    (repeat with_reducible first | refine jy ?_ | refine jw KL60 [] TF60 fun _ => ?_)
    refine Run_ret ?_
    simp [Rets, RetM, resV, fnd, oneOr]
    simpa using b2
def fstR (p : RunD → Bool) : List RunD → Nat → Int
  | [], _ => -1
  | r :: l, k => if p r then (k : Int) else fstR p l (k + 1)
theorem fstR_drop {p : RunD → Bool} {l : List RunD} {k : Nat} (h : k < l.length) : fstR p (l.drop k) k = if p l[k] then (k : Int) else fstR p (l.drop (k + 1)) (k + 1) := by
  rw [List.drop_eq_getElem_cons h]; rfl
set_option maxHeartbeats 1000000 in
theorem idxFR (v fv : Value) (xs : List RunD) (p : RunD → Bool) (w : World) (hx : Sl w v xs) (hp : ∀ r ∈ xs, ∀ w', Ext w w' → ∀ K : Value → World → Prop, (∀ w'', Ext w' w'' → K (.bool (p r)) w'') → CallW Tryz.prog fv [.agg r.cs.toArray] w' K) :
    Calls Tryz.prog 92 #[v, fv] w fun e w' => e = .returned (.int .i64 (fstR p xs 0)) ∧ Ext w w' := by
  have hs := hx.s
  have hl := hx.len
  have hsm := hx.small
  refine Calls_of_Run (args := [v, fv]) (n := 19) (rs := [.tmp 4]) Tryz.func92 rfl rfl rfl (by simp) ?_
  (repeat with_reducible first | refine jy ?_ | refine jw KL92 [] (aa TF92 (aa hs hl)) fun _ => ?_)
  refine Run_loopV [4, 5, 8, 9, 16] (σ := Nat) (fun k => [(8, some (.int .i64 k)), (4, some (.int .i64 0))]) (fun k w' => k ≤ xs.length ∧ fstR p (xs.drop k) k = fstR p xs 0 ∧ Ext w w') (fun k => xs.length - k) 0 (by simp [SubB, fnd]) ⟨by omega, rfl, Ext.refl _⟩ ?_
  rintro k w1 ⟨hk, hf, x1⟩
  (repeat with_reducible first | refine jy ?_ | refine jw KL92 [] TF92 fun _ => ?_)
  refine Run_condS (fun _ => rfl) (fun h => ?_) (fun h => ?_)
  · simp at h
    have hkl : k < xs.length := by omega
    have hkc : (k : Int) < xs.length := by omega
    clear h
    obtain ⟨r1, r2⟩ := (hx.ext x1).runD hkl
    rw [fstR_drop hkl] at hf
    have hpk := hp _ (List.getElem_mem hkl) w1 x1
    generalize xs[k] = r at *
    simp only [RunD.cs, AtN, KS, Nat.reduceAdd, Nat.reduceMul, Nat.reduceEqDiff, ↓reduceIte, UT] at r1
    (repeat with_reducible first | refine jy ?_ | refine jw KL92 [] (aa TF92 (aa hs (aa hl r1))) fun _ => ?_)
    refine hpk _ fun w2 x2 => ?_
    (repeat with_reducible first | refine jy ?_ | refine jw KL92 [] TF92 fun _ => ?_)
    refine Run_condS (fun _ => rfl) (fun h => ?_) (fun h => ?_)
    · rw [if_pos h] at hf
      (repeat with_reducible first | refine jy ?_ | refine jw KL92 [] TF92 fun _ => ?_)
      refine Run_ret ?_
      simp [Rets, RetM, resV, fnd, oneOr, hf]
      exact x1.trans x2
    · rw [if_neg (by simp [h])] at hf
      (repeat with_reducible first | refine jy ?_ | refine jw KL92 [] TF92 fun _ => ?_)
      exact Run_lp ⟨k + 1, by simp [SubB, fnd, strike, has], ⟨by omega, hf, x1.trans x2⟩, by omega⟩
  · simp at h
    obtain rfl : k = xs.length := by omega
    rw [List.drop_length] at hf
    (repeat with_reducible first | refine jy ?_ | refine jw KL92 [] TF92 fun _ => ?_)
    refine Run_ret ?_
    simp [Rets, RetM, resV, fnd, oneOr, ← hf, fstR, x1]
structure DelI (p : RunD → Bool) (xs ys : List RunD) (i j : Nat) : Prop where
  n : ys.length = xs.length
  ij : i ≤ j ∧ j ≤ xs.length
  k : ys.take i = (xs.take j).filter fun r => !p r
  r : ∀ m, j ≤ m → m < xs.length → ys[m]? = xs[m]?
theorem DelI.skip {p : RunD → Bool} {xs ys : List RunD} {i j : Nat} (h : DelI p xs ys i j) (hj : j < xs.length) (hp : p xs[j] = true) : DelI p xs ys i (j + 1) := by
  refine ⟨h.n, ⟨by have := h.ij; omega, hj⟩, ?_, fun m h1 h2 => h.r m (by omega) h2⟩
  rw [List.take_add_one, List.getElem?_eq_getElem hj, List.filter_append, h.k]
  simp [hp]
theorem DelI.put {p : RunD → Bool} {xs ys : List RunD} {i j : Nat} (h : DelI p xs ys i j) (hj : j < xs.length) (hp : p xs[j] = false) : DelI p xs (ys.set i xs[j]) (i + 1) (j + 1) := by
  have hi := h.ij
  have hn := h.n
  refine ⟨by rw [List.length_set]; exact hn, ⟨by omega, hj⟩, ?_, fun m h1 h2 => ?_⟩
  · rw [List.take_add_one, List.take_set_of_le (Nat.le_refl i), List.getElem?_set_self (by omega), h.k, List.take_add_one, List.getElem?_eq_getElem hj, List.filter_append]
    simp [hp]
  · rw [List.getElem?_set_ne (by omega)]
    exact h.r m (by omega) h2
theorem fstR_spec {p : RunD → Bool} : ∀ (l : List RunD) (k : Nat), (fstR p l k = -1 ∧ ∀ r ∈ l, p r = false) ∨ ∃ j, fstR p l k = ((k + j : Nat) : Int) ∧ ∃ h : j < l.length, p l[j] = true ∧ ∀ m (hm : m < j), p (l[m]'(by omega)) = false
  | [], k => .inl ⟨rfl, by simp⟩
  | r :: l, k => by
    unfold fstR
    by_cases h : p r = true
    · rw [if_pos h]
      exact .inr ⟨0, rfl, by simp, h, fun m hm => by omega⟩
    · rw [if_neg h]
      rcases fstR_spec l (k + 1) with ⟨h1, h2⟩ | ⟨j, h1, h2, h3, h4⟩
      · refine .inl ⟨h1, fun x hx => ?_⟩
        rcases List.mem_cons.1 hx with rfl | hx
        · simpa using h
        · exact h2 x hx
      · refine .inr ⟨j + 1, by rw [h1]; congr 1; omega, by simpa using h2, by simpa using h3, fun m hm => ?_⟩
        cases m with
        | zero => simpa using h
        | succ m => simpa using h4 m (by omega)
theorem DelI.start {p : RunD → Bool} {xs : List RunD} {j : Nat} (hj : j < xs.length) (h1 : p xs[j] = true) (h2 : ∀ m (hm : m < j), p (xs[m]'(by omega)) = false) : DelI p xs xs j (j + 1) := by
  refine ⟨rfl, ⟨by omega, hj⟩, ?_, fun m _ _ => rfl⟩
  rw [List.take_add_one, List.getElem?_eq_getElem hj, List.filter_append]
  have : (xs.take j).filter (fun r => !p r) = xs.take j := List.filter_eq_self.2 fun r hr => by
    obtain ⟨m, hm, rfl⟩ := List.getElem_of_mem hr
    rw [List.length_take] at hm
    simp [h2 m (by omega)]
  rw [this]
  simp [h1]
theorem flatten_take {n : Nat} : ∀ (css : List (List Value)) (i : Nat), i ≤ css.length → (∀ c ∈ css, c.length = n) → css.flatten.take (i * n) = (css.take i).flatten
  | css, 0, _, _ => by simp
  | [], i + 1, h, _ => by simp at h
  | c :: r, i + 1, h, hc => by
    have h1 := hc c (by simp)
    rw [List.flatten_cons, List.take_succ_cons, List.flatten_cons, show (i + 1) * n = c.length + i * n by rw [Nat.add_mul]; omega, List.take_length_add_append, flatten_take r i (by simpa using h) fun x hx => hc x (by simp [hx])]
set_option maxHeartbeats 4000000 in
theorem delR (v fv : Value) (xs : List RunD) (p : RunD → Bool) (W w : World) (hB : BufL (α := RunD) 34 W w v xs) (hn : xs.length ≤ 1000000) (hp : ∀ r ∈ xs, ∀ w', Ext W w' → ∀ K : Value → World → Prop, (∀ w'', Ext w' w'' → K (.bool (p r)) w'') → CallW Tryz.prog fv [.agg r.cs.toArray] w' K) :
    Calls Tryz.prog 59 #[v, fv] w fun e w' => ∃ v', e = .returned v' ∧ Ext W w' ∧ Sl w' v' (xs.filter fun r => !p r) := by
  have hx := hB.sl (by omega)
  refine Calls_of_Run (args := [v, fv]) (n := 42) (rs := [.tmp 4]) Tryz.func59 rfl rfl rfl (by simp) ?_
  (repeat with_reducible first | refine jy ?_ | refine jw KL59 [] TF59 fun _ => ?_)
  refine CallW_pure call92 (idxFR v fv xs p w hx fun r hr w' x K hK => hp r hr w' (hB.ext0.trans x) K hK) fun w1 x1 => ?_
  (repeat with_reducible first | refine jy ?_ | refine jw KL59 [] TF59 fun _ => ?_)
  rcases fstR_spec (p := p) xs 0 with ⟨h1, h2⟩ | ⟨j0, h1, h2, h3, h4⟩
  · rw [h1]
    refine Run_condS (fun _ => rfl) (fun h => ?_) (fun h => ?_)
    · (repeat with_reducible first | refine jy ?_ | refine jw KL59 [] TF59 fun _ => ?_)
      refine Run_ret ?_
      simp [Rets, RetM, resV, fnd, oneOr]
      refine ⟨hB.ext0.trans x1, ?_⟩
      rw [List.filter_eq_self.2 fun r hr => by simp [h2 r hr]]
      exact hx.ext x1
    · exact absurd h (by decide)
  rw [h1, Nat.zero_add]
  refine Run_condS (fun _ => rfl) (fun h => ?_) (fun h => ?_)
  · exfalso; simp at h
  clear h
  have B1 := hB.ext x1
  (repeat with_reducible first | refine jy ?_ | refine jw KL59 [] TF59 fun _ => ?_)
  refine Run_loopV [5, 6, 7, 19, 29] (σ := Nat × Nat × List RunD) (fun q => [(6, some (.int .i64 q.2.1)), (5, some (.int .i64 q.1))]) (fun q w' => q.1 < q.2.1 ∧ DelI p xs q.2.2 q.1 q.2.1 ∧ BufL (α := RunD) 34 W w' v q.2.2) (fun q => xs.length - q.2.1) (j0, j0 + 1, xs) (by simp [SubB, fnd]) ⟨by simp, DelI.start h2 h3 h4, B1⟩ ?_
  rintro ⟨i, j, ys⟩ w2 ⟨hij, D, B2⟩
  simp only at hij D B2
  have hyn := D.n
  have hD := D.ij
  obtain ⟨vs1, vs2⟩ := B2.isS
  rw [hyn] at vs2
  (repeat with_reducible first | refine jy ?_ | refine jw KL59 [] (aa TF59 (aa vs1 vs2)) fun _ => ?_)
  refine Run_condS (fun _ => rfl) (fun h => ?_) (fun h => ?_)
  · simp at h
    have hjl : j < xs.length := by omega
    have hjc : (j : Int) < xs.length := by omega
    clear h
    have s2 := B2.sl (by omega)
    obtain ⟨r1, r2⟩ := s2.runD (show j < ys.length by omega)
    have hyj : ys[j]'(by omega) = xs[j] := by
      have := D.r j (Nat.le_refl _) hjl
      rw [List.getElem?_eq_getElem (by omega), List.getElem?_eq_getElem hjl] at this
      exact Option.some.inj this
    rw [hyj] at r1 r2
    have hpj := hp _ (List.getElem_mem hjl)
    have hDs := D.skip hjl
    have hDp := D.put hjl
    generalize xs[j] = r at *
    simp only [RunD.cs, AtN, KS, Nat.reduceAdd, Nat.reduceMul, Nat.reduceEqDiff, ↓reduceIte, UT] at r1
    (repeat with_reducible first | refine jy ?_ | refine jw KL59 [] (aa TF59 (aa vs1 (aa vs2 r1))) fun _ => ?_)
    refine SemW_allocT ti34 fun pr w3 h3 => ?_
    have b3 := h3.blk
    (repeat with_reducible first | refine jy ?_ | refine jw KL59 [] TF59 fun _ => ?_)
    refine SemW_setW (by rw [cells34]; decide) (by rw [cells34]; rfl) h3.row (by rw [cells34]; rfl) rfl fun w4 q4 k4 z4 => ?_
    have q4 : Row w4 pr 34 r.cs := by simpa [Value.cells, RunD.cs] using q4
    have x4 : Ext w2 w4 := Keep.ext h3.ext k4 fun b hb => by omega
    have B4 := B2.ext x4
    have q4n := q4.n
    simp only [RunD.cs, AtN, KS, Nat.reduceAdd, Nat.reduceMul, Nat.reduceEqDiff, ↓reduceIte, UT] at q4n
    (repeat with_reducible first | refine jy ?_ | refine jw KL59 [] (aa TF59 q4n) fun _ => ?_)
    refine hpj w4 B4.ext0 _ fun w5 x5 => ?_
    have q5 := q4.ext x5
    have q5n := q5.n
    simp only [RunD.cs, AtN, KS, Nat.reduceAdd, Nat.reduceMul, Nat.reduceEqDiff, ↓reduceIte, UT] at q5n
    have B5 := B4.ext x5
    (repeat with_reducible first | refine jy ?_ | refine jw KL59 [] (aa TF59 q5n) fun _ => ?_)
    refine Run_condS (fun _ => rfl) (fun h => ?_) (fun h => ?_)
    · simp at h
      (repeat with_reducible first | refine jy ?_ | refine jw KL59 [] (aa TF59 (aa q5n (aa vs1 vs2))) fun _ => ?_)
      refine SemW_setE B5 i (by omega) r (by rw [cells34]; rfl) (by decide) ⟨rfl, r2⟩ rfl fun w6 B6 k6 z6 x6 => ?_
      (repeat with_reducible first | refine jy ?_ | refine jw KL59 [] TF59 fun _ => ?_)
      exact Run_lp ⟨(i + 1, j + 1, ys.set i r), by simp [SubB, fnd, strike, has], ⟨by show i + 1 < j + 1; omega, hDp h, B6⟩, by show xs.length - (j + 1) < xs.length - j; omega⟩
    · simp at h
      (repeat with_reducible first | refine jy ?_ | refine jw KL59 [] TF59 fun _ => ?_)
      exact Run_lp ⟨(i, j + 1, ys), by simp [SubB, fnd, strike, has], ⟨by show i < j + 1; omega, hDs h, B5⟩, by show xs.length - (j + 1) < xs.length - j; omega⟩
  · simp at h
    obtain rfl : j = xs.length := by omega
    (repeat with_reducible first | refine jy ?_ | refine jw KL59 [] (aa TF59 (aa vs1 vs2)) fun _ => ?_)
    (repeat with_reducible refine js ?_)
    refine Run_lastClear (id := 11) KL59 3 _ _ rfl rfl rfl rfl (by kernel_rfl) (by kernel_rfl) fun _ => ?_
    (try simp (maxSteps := 5000000) only [KS, Nat.reduceAdd, Nat.reduceMul, Nat.reduceEqDiff, ↓reduceIte, forall_const, Int.cast_ofNat_Int, Int.reduceToNat, List.take_succ_cons, List.take_zero, List.drop_succ_cons, List.drop_zero, TF59, KL59, vs1, vs2]); (try simp (disch := omega) only [wrapI, tmodI, tdivI])
    refine ⟨⟨by omega, by omega, fun h => h.elim, fun h => h.elim⟩, ?_⟩
    obtain ⟨css, rest, cap, hcs, hr, hv, hc1, hc2, hc3, hc4, hc5⟩ := B2.rowA (i := i) (by omega)
    have hcl := hcs.flen
    have hcap : slCap v = cap := by rw [hv]; rfl
    rw [hcap]
    have hs1 : slSub 3 v i xs.length cap = .slice (some ((slAt v).add (i * 3))) (xs.length - i) (cap - i) := by
      rw [hv]; simp only [slSub, Option.map_some, slAt_mk]
      rw [if_neg (by omega)]
    rw [hs1]
    simp only [Enc.n] at hcl hc3
    rw [List.length_append, hcl] at hc3
    refine SemW_clear Tryz.underlying59 ti34 rfl (by decide) (by simp [Value.cells, Value.oneCell']) hr (by rw [List.length_append]; omega) (by omega) fun w3 ⟨zs, R3, hz⟩ k3 z3 => ?_
    have x3 : Ext W w3 := Keep.ext B2.ext0 k3 fun b hb => by omega
    (repeat with_reducible first | refine jy ?_ | refine jw KL59 [] (aa TF59 (aa vs1 vs2)) fun _ => ?_)
    refine Run_ret ?_
    simp [Rets, RetM, resV, fnd, oneOr]
    refine ⟨x3, ?_⟩
    have hk := D.k
    rw [List.take_length] at hk
    rw [← hk, hcap]
    have e0 : slSub 3 v 0 i cap = .slice (some (slAt v)) i cap := by
      rw [hv]; simp only [slSub, Option.map_some, slAt_mk]
      rw [if_neg (by omega), Nat.zero_mul, Nat.sub_zero, Nat.sub_zero, show (slAt v).add 0 = slAt v by rw [hr.p0, mk_add]]
    rw [e0]
    have hci := hcs.lens
    simp only [Enc.n] at hci
    have hft : (css.flatten ++ rest).take (i * 3) = (css.take i).flatten := by
      rw [List.take_append_of_le_length (by rw [hcl]; omega)]
      exact flatten_take css i (by rw [hcs.len]; omega) hci
    rw [hft, List.append_assoc] at R3
    have hct : Cs w3 (css.take i) (ys.take i) := ⟨by simp [hcs.len], fun m h1 h2 => by
      simp only [List.length_take] at h1 h2
      rw [List.getElem_take, List.getElem_take]
      exact Flat.any _ _ _ _ (hcs.rep m (by omega) (by omega))⟩
    have hlt : (ys.take i).length = i := by rw [List.length_take]; omega
    have := BufL.back (α := RunD) (e := 34) (v := .slice (some (slAt v)) i cap) (cap := cap) x3 hct R3 (by rw [hlt]; rfl) (by omega) hc2 (by
      rw [List.length_append, hct.flen, hlt, List.length_append, hz, List.length_drop, List.length_append, hcl]; simp only [Enc.n]; omega) hc4
    exact this.sl (by omega)
end Go.Proofs.YtldjfebokojmfaaGreat
namespace Go.Fk
open Go
def cptF : RunD → List RunD → List RunD
  | _, [] => []
  | a, b :: r => if a = b then cptF a r else b :: cptF b r
def cpt : List RunD → List RunD
  | [] => []
  | a :: r => a :: cptF a r
def lstR : RunD → List RunD → RunD
  | p, [] => p
  | _, b :: r => lstR b r
theorem lstR_take : ∀ {r : List RunD} {a : RunD} {j : Nat} (h : j < r.length), lstR a (r.take j) = (a :: r)[j]'(by simp; omega)
  | [], _, _, h => by simp at h
  | b :: r, a, 0, _ => rfl
  | b :: r, a, j + 1, h => by
    rw [List.take_succ_cons]
    exact lstR_take (r := r) (a := b) (j := j) (by simpa using h)
theorem cptF_snoc (b : RunD) : ∀ (l : List RunD) (p : RunD), cptF p (l ++ [b]) = cptF p l ++ (if lstR p l = b then [] else [b])
  | [], p => rfl
  | c :: l, p => by
    have ih := cptF_snoc b l
    rw [List.cons_append]
    simp only [cptF, lstR]
    by_cases h : p = c
    · subst h
      rw [if_pos rfl, if_pos rfl, ih p]; rfl
    · rw [if_neg h, if_neg h, ih c, List.cons_append]; rfl
theorem cpt_step {l : List RunD} {J : Nat} (h1 : 1 ≤ J) (hJ : J < l.length) : cpt (l.take (J + 1)) = if l[J - 1] = l[J] then cpt (l.take J) else cpt (l.take J) ++ [l[J]] := by
  cases l with
  | nil => simp at hJ
  | cons a r =>
    obtain ⟨j, rfl⟩ : ∃ j, J = j + 1 := ⟨J - 1, by omega⟩
    have hj : j < r.length := by simpa using hJ
    rw [List.take_succ_cons, List.take_succ_cons]
    simp only [cpt, List.getElem_cons_succ, Nat.add_sub_cancel]
    rw [List.take_add_one, List.getElem?_eq_getElem hj, Option.toList_some, cptF_snoc, lstR_take hj]
    split <;> simp
structure CpI (xs ys : List RunD) (k J : Nat) : Prop where
  n : ys.length = xs.length
  b : 1 ≤ k ∧ k < J ∧ J ≤ xs.length
  t : ys.take k = cpt (xs.take J)
  r : ∀ m, J - 1 ≤ m → m < xs.length → ys[m]? = xs[m]?
theorem CpI.same {xs ys : List RunD} {k J : Nat} (h : CpI xs ys k J) (hJ : J < xs.length) (he : xs[J - 1] = xs[J]) : CpI xs ys k (J + 1) :=
  ⟨h.n, by have := h.b; omega, by rw [cpt_step (by have := h.b; omega) hJ, if_pos he, h.t], fun m h1 h2 => h.r m (by omega) h2⟩
theorem CpI.put {xs ys : List RunD} {k J : Nat} (h : CpI xs ys k J) (hJ : J < xs.length) (he : xs[J - 1] ≠ xs[J]) : CpI xs (ys.set k xs[J]) (k + 1) (J + 1) := by
  have hk := h.b
  have hn := h.n
  refine ⟨by rw [List.length_set]; exact hn, by omega, ?_, fun m h1 h2 => ?_⟩
  · rw [cpt_step (by omega) hJ, if_neg he, List.take_add_one, List.take_set_of_le (Nat.le_refl k), List.getElem?_set_self (by omega), h.t]; rfl
  · rw [List.getElem?_set_ne (by omega)]
    exact h.r m (by omega) h2
theorem CpI.start {xs : List RunD} {k : Nat} (h1 : 1 ≤ k) (hk : k < xs.length) (ht : cpt (xs.take k) = xs.take k) (he : xs[k - 1] = xs[k]) : CpI xs xs k (k + 1) :=
  ⟨rfl, by omega, by rw [cpt_step h1 hk, if_pos he, ht], fun m _ _ => rfl⟩
theorem cpt_next {xs : List RunD} {k : Nat} (h1 : 1 ≤ k) (hk : k < xs.length) (ht : cpt (xs.take k) = xs.take k) (he : xs[k - 1] ≠ xs[k]) : cpt (xs.take (k + 1)) = xs.take (k + 1) := by
  rw [cpt_step h1 hk, if_neg he, ht, List.take_add_one, List.getElem?_eq_getElem hk]; rfl
theorem cpt_small {xs : List RunD} (h : xs.length < 2) : cpt xs = xs := by
  match xs, h with
  | [], _ => rfl
  | [a], _ => rfl
theorem ridx_drop {r : RunD} {l : List RunD} {k : Nat} (h : k < l.length) : Pl.ridx r (l.drop k) k = if l[k] = r then (k : Int) else Pl.ridx r (l.drop (k + 1)) (k + 1) := by
  rw [List.drop_eq_getElem_cons h]; rfl
end Go.Fk
namespace Go.Proofs.YtldjfebokojmfaaGreat
open Go Go.Fk
set_option linter.unusedSimpArgs false
set_option linter.unusedVariables false
set_option maxRecDepth 100000
set_option maxHeartbeats 1000000 in
theorem idxR (v : Value) (r : RunD) (xs : List RunD) (w : World) (hx : Sl w v xs) :
    Calls Tryz.prog 69 #[v, .agg r.cs.toArray] w fun e w' => e = .returned (.int .i64 (Pl.ridx r xs 0)) ∧ Ext w w' := by
  have hs := hx.s
  have hl := hx.len
  have hsm := hx.small
  refine Calls_of_Run (args := [v, .agg r.cs.toArray]) (n := 19) (rs := [.tmp 4]) Tryz.func69 rfl rfl rfl (by simp) ?_
  (repeat with_reducible first | refine jy ?_ | refine jw KL69 [4] TF69 fun _ => ?_)
  refine SemW_box fun pv w0 h0 => ?_
  have V : ∀ w', Ext w0 w' → AtN w' pv 0 r.cs := fun w' x => (h0.at_.ext x).n
  simp only [RunD.cs, AtN, KS, Nat.reduceAdd, Nat.reduceMul, Nat.reduceEqDiff, ↓reduceIte, UT] at V
  have y0 := h0.ext
  (repeat with_reducible first | refine jy ?_ | refine jw KL69 [4] (aa TF69 (aa hs hl)) fun _ => ?_)
  refine Run_loopV [4, 5, 8, 9, 16] (σ := Nat) (fun k => [(8, some (.int .i64 k)), (4, some (.int .i64 0))]) (fun k w' => k ≤ xs.length ∧ Pl.ridx r (xs.drop k) k = Pl.ridx r xs 0 ∧ Ext w0 w') (fun k => xs.length - k) 0 (by simp [SubB, fnd]) ⟨by omega, rfl, Ext.refl _⟩ ?_
  rintro k w1 ⟨hk, hf, x1⟩
  (repeat with_reducible first | refine jy ?_ | refine jw KL69 [4] TF69 fun _ => ?_)
  refine Run_condS (fun _ => rfl) (fun h => ?_) (fun h => ?_)
  · simp at h
    have hkl : k < xs.length := by omega
    have hkc : (k : Int) < xs.length := by omega
    clear h
    obtain ⟨r1, r2⟩ := (hx.ext (y0.trans x1)).runD hkl
    rw [ridx_drop hkl] at hf
    generalize xs[k] = q at *
    simp only [RunD.cs, AtN, KS, Nat.reduceAdd, Nat.reduceMul, Nat.reduceEqDiff, ↓reduceIte, UT] at r1
    have v1 := V w1 x1
    (repeat with_reducible first | refine jy ?_ | refine jw KL69 [4] (aa TF69 (aa hs (aa hl (aa r1 v1)))) fun _ => ?_)
    refine ⟨by kernel_rfl, fun w2 x2 => ?_⟩
    refine Run_condS (fun _ => rfl) (fun h => ?_) (fun h => ?_)
    · have he : q = r := by
        cases q; cases r; simp at h; simp [h]
      rw [if_pos he] at hf
      (repeat with_reducible first | refine jy ?_ | refine jw KL69 [4] TF69 fun _ => ?_)
      refine Run_ret ?_
      simp [Rets, RetM, resV, fnd, oneOr, hf]
      exact y0.trans (x1.trans x2)
    · have he : q ≠ r := by
        rintro rfl; simp at h
      rw [if_neg he] at hf
      (repeat with_reducible first | refine jy ?_ | refine jw KL69 [4] TF69 fun _ => ?_)
      exact Run_lp ⟨k + 1, by simp [SubB, fnd, strike, has], ⟨by omega, hf, x1.trans x2⟩, by omega⟩
  · simp at h
    obtain rfl : k = xs.length := by omega
    rw [List.drop_length] at hf
    (repeat with_reducible first | refine jy ?_ | refine jw KL69 [4] TF69 fun _ => ?_)
    refine Run_ret ?_
    simp [Rets, RetM, resV, fnd, oneOr, ← hf, Pl.ridx]
    exact y0.trans x1
theorem clearCut {W w2 : World} {v : Value} {ys : List RunD} {i n : Nat} {ty : TypeId} (B2 : BufL (α := RunD) 34 W w2 v ys) (hi : i < ys.length) (hn : n = ys.length) {K : Value → World → Prop} (hK : ∀ w3, BufL (α := RunD) 34 W w3 (slSub 3 v 0 i (slCap v)) (ys.take i) → K (.tuple #[]) w3) :
    SemW Tryz.prog (Builtin.clear_ #[59] ty #[slSub 3 v i n (slCap v)]) w2 K := by
  subst hn
  obtain ⟨css, rest, cap, hcs, hr, hv, hc1, hc2, hc3, hc4, hc5⟩ := B2.rowA (i := i) (by omega)
  have hcl := hcs.flen
  have hcap : slCap v = cap := by rw [hv]; rfl
  rw [hcap] at hK ⊢
  have hs1 : slSub 3 v i ys.length cap = .slice (some ((slAt v).add (i * 3))) (ys.length - i) (cap - i) := by
    rw [hv]; simp only [slSub, Option.map_some, slAt_mk]
    rw [if_neg (by omega)]
  rw [hs1]
  simp only [Enc.n] at hcl hc3
  rw [List.length_append, hcl] at hc3
  refine SemW_clear Tryz.underlying59 ti34 rfl (by decide) (by simp [Value.cells, Value.oneCell']) hr (by rw [List.length_append]; omega) (by omega) fun w3 ⟨zs, R3, hz⟩ k3 z3 => hK w3 ?_
  have x3 : Ext W w3 := Keep.ext B2.ext0 k3 fun b hb => by omega
  have e0 : slSub 3 v 0 i cap = .slice (some (slAt v)) i cap := by
    rw [hv]; simp only [slSub, Option.map_some, slAt_mk]
    rw [if_neg (by omega), Nat.zero_mul, Nat.sub_zero, Nat.sub_zero, show (slAt v).add 0 = slAt v by rw [hr.p0, mk_add]]
  rw [e0]
  have hci := hcs.lens
  simp only [Enc.n] at hci
  have hft : (css.flatten ++ rest).take (i * 3) = (css.take i).flatten := by
    rw [List.take_append_of_le_length (by rw [hcl]; omega)]
    exact flatten_take css i (by rw [hcs.len]; omega) hci
  rw [hft, List.append_assoc] at R3
  have hct : Cs w3 (css.take i) (ys.take i) := ⟨by simp [hcs.len], fun m h1 h2 => by
    simp only [List.length_take] at h1 h2
    rw [List.getElem_take, List.getElem_take]
    exact Flat.any _ _ _ _ (hcs.rep m (by omega) (by omega))⟩
  have hlt : (ys.take i).length = i := by rw [List.length_take]; omega
  exact BufL.back (α := RunD) (e := 34) (v := .slice (some (slAt v)) i cap) (cap := cap) x3 hct R3 (by rw [hlt]; rfl) (by omega) hc2 (by
    rw [List.length_append, hct.flen, hlt, List.length_append, hz, List.length_drop, List.length_append, hcl]; simp only [Enc.n]; omega) hc4
set_option maxHeartbeats 4000000 in
theorem cptR (v : Value) (xs : List RunD) (W w : World) (hB : BufL (α := RunD) 34 W w v xs) (hn : xs.length ≤ 1000000) :
    Calls Tryz.prog 68 #[v] w fun e w' => ∃ v', e = .returned v' ∧ BufL (α := RunD) 34 W w' v' (cpt xs) := by
  have hx := hB.sl (by omega)
  obtain ⟨vs1, vs2⟩ := hB.isS
  refine Calls_of_Run (args := [v]) (n := 61) (rs := [.tmp 2]) Tryz.func68 rfl rfl rfl (by simp) ?_
  (repeat with_reducible first | refine jy ?_ | refine jw KL68 [6, 11] (aa TF68 (aa vs1 vs2)) fun _ => ?_)
  refine Run_condS (fun _ => rfl) (fun h => ?_) (fun h => ?_)
  · simp at h
    (repeat with_reducible first | refine jy ?_ | refine jw KL68 [6, 11] TF68 fun _ => ?_)
    refine Run_ret ?_
    simp [Rets, RetM, resV, fnd, oneOr]
    rw [cpt_small (by omega)]
    exact hB
  simp at h
  have h2 : 2 ≤ xs.length := by omega
  clear h
  (repeat with_reducible first | refine jy ?_ | refine jw KL68 [6, 11] TF68 fun _ => ?_)
  refine Run_loopV [2, 3, 4, 5, 13, 25, 32, 44] (σ := Nat) (fun k => [(3, some (.int .i64 k))]) (fun k w' => 1 ≤ k ∧ k ≤ xs.length ∧ cpt (xs.take k) = xs.take k ∧ BufL (α := RunD) 34 W w' v xs) (fun k => xs.length - k) 1 (by simp [SubB, fnd]) ⟨by omega, by omega, cpt_small (by simp; omega), hB⟩ ?_
  rintro k w1 ⟨hk1, hkn, hct, B1⟩
  have s1 := B1.sl (by omega)
  (repeat with_reducible first | refine jy ?_ | refine jw KL68 [6, 11] (aa TF68 (aa vs1 vs2)) fun _ => ?_)
  refine Run_condS (fun _ => rfl) (fun h => ?_) (fun h => ?_)
  · simp at h
    have hkl : k < xs.length := by omega
    have hkc : (k : Int) < xs.length := by omega
    clear h
    obtain ⟨r1, r2⟩ := s1.runD hkl
    obtain ⟨q1, q2⟩ := s1.runD (show k - 1 < xs.length by omega)
    have hst := CpI.start hk1 hkl hct
    have hnx := cpt_next hk1 hkl hct
    have ek : ((k : Int) - 1).toNat = k - 1 := by omega
    generalize xs[k] = r at *
    generalize xs[k - 1] = q at *
    simp only [RunD.cs, AtN, KS, Nat.reduceAdd, Nat.reduceMul, Nat.reduceEqDiff, ↓reduceIte, UT] at r1 q1
    (repeat with_reducible first | refine jy ?_ | refine jw KL68 [6, 11] (aa TF68 (aa vs1 (aa vs2 (aa r1 (aa q1 ek))))) fun _ => ?_)
    refine ⟨by kernel_rfl, fun w2 x2 => ?_⟩
    have B2 := B1.ext x2
    refine Run_condS (fun _ => rfl) (fun h => ?_) (fun h => ?_)
    · have he : q = r := by
        cases q; cases r; simp at h; simp [h]
      have D0 := hst he
      clear h
      (repeat with_reducible first | refine jy ?_ | refine jw KL68 [6, 11] (aa TF68 (aa vs1 vs2)) fun _ => ?_)
      refine ⟨⟨by omega, by omega, fun h => h.elim, fun h => h.elim⟩, ?_⟩
      (repeat with_reducible first | refine jy ?_ | refine jw KL68 [6, 11] TF68 fun _ => ?_)
      have hc := hx.cap
      refine Run_loopV [3, 5, 32, 44] (σ := Nat × Nat × List RunD) (fun q => [(3, some (.int .i64 q.1)), (5, some (.int .i64 ((q.2.1 : Int) + 1)))]) (fun q w' => CpI xs q.2.2 q.1 (k + q.2.1 + 1) ∧ BufL (α := RunD) 34 W w' v q.2.2) (fun q => xs.length - q.2.1) (k, 0, xs) (by simp [SubB, fnd]) ⟨D0, B2⟩ ?_
      rintro ⟨m, i, ys⟩ w3 ⟨D, B3⟩
      simp only at D B3
      have Dn := D.n
      have Db := D.b
      have hsub := (B3.sl (by omega)).sub (l := k) (r := xs.length) (m := slCap v) (by omega) (by omega) (by omega) (Nat.le_refl _)
      rw [show Enc.n RunD = 3 from rfl, ← Dn, List.take_length, Dn] at hsub
      have hss := hsub.s
      have hsl := hsub.len
      rw [List.length_drop, Dn] at hsl
      (repeat with_reducible first | refine jy ?_ | refine jw KL68 [6, 11] (aa TF68 (aa hss hsl)) fun _ => ?_)
      refine Run_condS (fun _ => rfl) (fun h => ?_) (fun h => ?_)
      · simp at h
        have hJ : k + i + 1 < xs.length := by omega
        clear h
        obtain ⟨r1, r2⟩ := hsub.runD (i := i + 1) (by rw [List.length_drop]; omega)
        obtain ⟨q1, q2⟩ := hsub.runD (i := i) (by rw [List.length_drop]; omega)
        have er : (ys.drop k)[i + 1]'(by rw [List.length_drop]; omega) = xs[k + i + 1] := by
          rw [List.getElem_drop]
          have := D.r (k + i + 1) (by omega) hJ
          rw [List.getElem?_eq_getElem (by omega), List.getElem?_eq_getElem hJ] at this
          exact Option.some.inj this
        have eq : (ys.drop k)[i]'(by rw [List.length_drop]; omega) = xs[k + i] := by
          rw [List.getElem_drop]
          have := D.r (k + i) (by omega) (by omega)
          rw [List.getElem?_eq_getElem (by omega), List.getElem?_eq_getElem (by omega)] at this
          exact Option.some.inj this
        have hR : ∀ w', Ext w3 w' → AtN w' ((slAt (slSub 3 v k xs.length (slCap v))).add ((i + 1) * 3)) 0 xs[k + i + 1].cs := fun w' x => by
          have := ((hsub.ext x).runD (i := i + 1) (by rw [List.length_drop]; omega)).1
          rwa [er] at this
        rw [er] at r1 r2
        rw [eq] at q1 q2
        have hsame := D.same hJ
        have hput := D.put hJ
        simp only [Nat.add_sub_cancel] at hsame hput
        generalize xs[k + i + 1] = r at *
        generalize xs[k + i] = q at *
        simp only [RunD.cs, AtN, KS, Nat.reduceAdd, Nat.reduceMul, Nat.reduceEqDiff, ↓reduceIte, UT] at r1 q1 hR
        have e1 : ((i : Int) + 1).toNat = i + 1 := by omega
        have e2 : ((i : Int) + 1 - 1) = i := by omega
        (repeat with_reducible first | refine jy ?_ | refine jw KL68 [6, 11] (aa TF68 (aa hss (aa hsl (aa r1 (aa q1 (aa e1 e2)))))) fun _ => ?_)
        refine ⟨by kernel_rfl, fun w4 x4 => ?_⟩
        have B4 := B3.ext x4
        have r1 := hR w4 x4
        refine Run_condS (fun _ => rfl) (fun h => ?_) (fun h => ?_)
        · have he : q ≠ r := by
            rintro rfl; simp at h
          clear h
          (repeat with_reducible first | refine jy ?_ | refine jw KL68 [6, 11] (aa TF68 (aa hss (aa hsl (aa r1 (aa vs1 (aa vs2 (aa Dn e1))))))) fun _ => ?_)
          refine SemW_setE B4 m (by omega) r (by rw [cells34]; rfl) (by decide) ⟨rfl, r2⟩ rfl fun w5 B5 k5 z5 x5 => ?_
          (repeat with_reducible first | refine jy ?_ | refine jw KL68 [6, 11] TF68 fun _ => ?_)
          exact Run_lp ⟨(m + 1, i + 1, ys.set m r), by simp [SubB, fnd, strike, has], ⟨hput he, B5⟩, by show xs.length - (i + 1) < xs.length - i; omega⟩
        · have he : q = r := by
            cases q; cases r; simp at h; simp [h]
          clear h
          (repeat with_reducible first | refine jy ?_ | refine jw KL68 [6, 11] TF68 fun _ => ?_)
          exact Run_lp ⟨(m, i + 1, ys), by simp [SubB, fnd, strike, has], ⟨hsame he, B4⟩, by show xs.length - (i + 1) < xs.length - i; omega⟩
      · simp at h
        have hJe : k + i + 1 = xs.length := by omega
        clear h
        have hDt := D.t
        rw [hJe, List.take_length] at hDt
        (repeat with_reducible refine js ?_)
        refine Run_lastClear (id := 14) KL68 3 _ _ rfl rfl rfl rfl (by kernel_rfl) (by kernel_rfl) fun _ => ?_
        (try simp (maxSteps := 5000000) only [KS, Nat.reduceAdd, Nat.reduceMul, Nat.reduceEqDiff, ↓reduceIte, forall_const, Int.cast_ofNat_Int, Int.reduceToNat, List.take_succ_cons, List.take_zero, List.drop_succ_cons, List.drop_zero, TF68, KL68, vs1, vs2]); (try simp (disch := omega) only [wrapI, tmodI, tdivI])
        refine ⟨⟨by omega, by omega, fun h => h.elim, fun h => h.elim⟩, ?_⟩
        refine clearCut B3 (by omega) Dn.symm fun w4 B4 => ?_
        (repeat with_reducible first | refine jy ?_ | refine jw KL68 [6, 11] (aa TF68 (aa vs1 vs2)) fun _ => ?_)
        refine Run_ret ?_
        simp [Rets, RetM, resV, fnd, oneOr]
        rw [← hDt]
        exact B4
    · have he : q ≠ r := by
        rintro rfl; simp at h
      clear h
      (repeat with_reducible first | refine jy ?_ | refine jw KL68 [6, 11] TF68 fun _ => ?_)
      exact Run_lp ⟨k + 1, by simp [SubB, fnd, strike, has], ⟨by omega, by omega, hnx he, B2⟩, by omega⟩
  · simp at h
    obtain rfl : k = xs.length := by omega
    rw [List.take_length] at hct
    (repeat with_reducible first | refine jy ?_ | refine jw KL68 [6, 11] TF68 fun _ => ?_)
    refine Run_ret ?_
    simp [Rets, RetM, resV, fnd, oneOr]
    rw [hct]
    exact B1
end Go.Proofs.YtldjfebokojmfaaGreat
