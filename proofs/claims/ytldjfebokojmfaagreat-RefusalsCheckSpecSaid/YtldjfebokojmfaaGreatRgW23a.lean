import Derived.Test.YtldjfebokojmfaaGreatRgW22q
namespace Go.Proofs.YtldjfebokojmfaaGreat
open Go Go.Fk
set_option linter.unusedSimpArgs false
set_option linter.unusedVariables false
set_option maxRecDepth 100000
set_option maxHeartbeats 4000000 in
theorem delRO (v fv : Value) (xs : List RunD) (p : RunD → Bool) (W w : World) (hB : BufL (α := RunD) 34 W w v xs) (hn : xs.length ≤ 1000000) (hp : ∀ r ∈ xs, ∀ w', Ext W w' → ∀ K : Value → World → Prop, (∀ w'', Ext w' w'' → K (.bool (p r)) w'') → CallW Tryz.prog fv [.agg r.cs.toArray] w' K) :
    Calls Tryz.prog 59 #[v, fv] w fun e w' => ∃ v', e = .returned v' ∧ BufL (α := RunD) 34 W w' v' (xs.filter fun r => !p r) := by
  have hx := hB.sl (by omega)
  refine Calls_of_Run (args := [v, fv]) (n := 42) (rs := [.tmp 4]) Tryz.func59 rfl rfl rfl (by simp) ?_
  (repeat with_reducible first | refine jy ?_ | refine jw KL59 [] TF59 fun _ => ?_)
  refine CallW_pure call92 (idxFR v fv xs p w hx fun r hr w' x K hK => hp r hr w' (hB.ext0.trans x) K hK) fun w1 x1 => ?_
  (repeat with_reducible first | refine jy ?_ | refine jw KL59 [] TF59 fun _ => ?_)
  rcases fstR_spec (p := p) xs 0 with ⟨h1, h2⟩ | ⟨j0, h1, h2, h3, h4⟩
  · rw [h1]
    refine Run_condS (fun _ => rfl) (fun h => ?_) (fun h => ?_)
    · (repeat with_reducible first | refine jy ?_ | refine jw KL59 [] TF59 fun _ => ?_)
      refine Run_ret ?_
      simp [Rets, RetM, resV, fnd, oneOr]
      rw [List.filter_eq_self.2 fun r hr => by simp [h2 r hr]]
      exact hB.ext x1
    · exact absurd h (by decide)
  rw [h1, Nat.zero_add]
  refine Run_condS (fun _ => rfl) (fun h => ?_) (fun h => ?_)
  · exfalso; simp at h
  clear h
  have B1 := hB.ext x1
  (repeat with_reducible first | refine jy ?_ | refine jw KL59 [] TF59 fun _ => ?_)
  refine Run_loopV [5, 6, 7, 19, 29] (σ := Nat × Nat × List RunD) (fun q => [(6, some (.int .i64 q.2.1)), (5, some (.int .i64 q.1))]) (fun q w' => q.1 < q.2.1 ∧ DelI p xs q.2.2 q.1 q.2.1 ∧ BufL (α := RunD) 34 W w' v q.2.2) (fun q => xs.length - q.2.1) (j0, j0 + 1, xs) (by simp [SubB, fnd]) ⟨by simp, DelI.start h2 h3 h4, B1⟩ ?_
  rintro ⟨i, j, ys⟩ w2 ⟨hij, D, B2⟩
  simp only at hij D B2
  have hyn := D.n
  have hD := D.ij
  obtain ⟨vs1, vs2⟩ := B2.isS
  rw [hyn] at vs2
  (repeat with_reducible first | refine jy ?_ | refine jw KL59 [] (aa TF59 (aa vs1 vs2)) fun _ => ?_)
  refine Run_condS (fun _ => rfl) (fun h => ?_) (fun h => ?_)
  · simp at h
    have hjl : j < xs.length := by omega
    have hjc : (j : Int) < xs.length := by omega
    clear h
    have s2 := B2.sl (by omega)
    obtain ⟨r1, r2⟩ := s2.runD (show j < ys.length by omega)
    have hyj : ys[j]'(by omega) = xs[j] := by
      have := D.r j (Nat.le_refl _) hjl
      rw [List.getElem?_eq_getElem (by omega), List.getElem?_eq_getElem hjl] at this
      exact Option.some.inj this
    rw [hyj] at r1 r2
    have hpj := hp _ (List.getElem_mem hjl)
    have hDs := D.skip hjl
    have hDp := D.put hjl
    generalize xs[j] = r at *
    simp only [RunD.cs, AtN, KS, Nat.reduceAdd, Nat.reduceMul, Nat.reduceEqDiff, ↓reduceIte, UT] at r1
    (repeat with_reducible first | refine jy ?_ | refine jw KL59 [] (aa TF59 (aa vs1 (aa vs2 r1))) fun _ => ?_)
    refine SemW_allocT ti34 fun pr w3 h3 => ?_
    have b3 := h3.blk
    (repeat with_reducible first | refine jy ?_ | refine jw KL59 [] TF59 fun _ => ?_)
    refine SemW_setW (by rw [cells34]; decide) (by rw [cells34]; rfl) h3.row (by rw [cells34]; rfl) rfl fun w4 q4 k4 z4 => ?_
    have q4 : Row w4 pr 34 r.cs := by simpa [Value.cells, RunD.cs] using q4
    have x4 : Ext w2 w4 := Keep.ext h3.ext k4 fun b hb => by omega
    have B4 := B2.ext x4
    have q4n := q4.n
    simp only [RunD.cs, AtN, KS, Nat.reduceAdd, Nat.reduceMul, Nat.reduceEqDiff, ↓reduceIte, UT] at q4n
    (repeat with_reducible first | refine jy ?_ | refine jw KL59 [] (aa TF59 q4n) fun _ => ?_)
    refine hpj w4 B4.ext0 _ fun w5 x5 => ?_
    have q5 := q4.ext x5
    have q5n := q5.n
    simp only [RunD.cs, AtN, KS, Nat.reduceAdd, Nat.reduceMul, Nat.reduceEqDiff, ↓reduceIte, UT] at q5n
    have B5 := B4.ext x5
    (repeat with_reducible first | refine jy ?_ | refine jw KL59 [] (aa TF59 q5n) fun _ => ?_)
    refine Run_condS (fun _ => rfl) (fun h => ?_) (fun h => ?_)
    · simp at h
      (repeat with_reducible first | refine jy ?_ | refine jw KL59 [] (aa TF59 (aa q5n (aa vs1 vs2))) fun _ => ?_)
      refine SemW_setE B5 i (by omega) r (by rw [cells34]; rfl) (by decide) ⟨rfl, r2⟩ rfl fun w6 B6 k6 z6 x6 => ?_
      (repeat with_reducible first | refine jy ?_ | refine jw KL59 [] TF59 fun _ => ?_)
      exact Run_lp ⟨(i + 1, j + 1, ys.set i r), by simp [SubB, fnd, strike, has], ⟨by show i + 1 < j + 1; omega, hDp h, B6⟩, by show xs.length - (j + 1) < xs.length - j; omega⟩
    · simp at h
      (repeat with_reducible first | refine jy ?_ | refine jw KL59 [] TF59 fun _ => ?_)
      exact Run_lp ⟨(i, j + 1, ys), by simp [SubB, fnd, strike, has], ⟨by show i < j + 1; omega, hDs h, B5⟩, by show xs.length - (j + 1) < xs.length - j; omega⟩
  · simp at h
    obtain rfl : j = xs.length := by omega
    (repeat with_reducible first | refine jy ?_ | refine jw KL59 [] (aa TF59 (aa vs1 vs2)) fun _ => ?_)
    (repeat with_reducible refine js ?_)
    refine Run_lastClear (id := 11) KL59 3 _ _ rfl rfl rfl rfl (by kernel_rfl) (by kernel_rfl) fun _ => ?_
    (try simp (maxSteps := 5000000) only [KS, Nat.reduceAdd, Nat.reduceMul, Nat.reduceEqDiff, ↓reduceIte, forall_const, Int.cast_ofNat_Int, Int.reduceToNat, List.take_succ_cons, List.take_zero, List.drop_succ_cons, List.drop_zero, TF59, KL59, vs1, vs2]); (try simp (disch := omega) only [wrapI, tmodI, tdivI])
    refine ⟨⟨by omega, by omega, fun h => h.elim, fun h => h.elim⟩, ?_⟩
    obtain ⟨css, rest, cap, hcs, hr, hv, hc1, hc2, hc3, hc4, hc5⟩ := B2.rowA (i := i) (by omega)
    have hcl := hcs.flen
    have hcap : slCap v = cap := by rw [hv]; rfl
    rw [hcap]
    have hs1 : slSub 3 v i xs.length cap = .slice (some ((slAt v).add (i * 3))) (xs.length - i) (cap - i) := by
      rw [hv]; simp only [slSub, Option.map_some, slAt_mk]
      rw [if_neg (by omega)]
    rw [hs1]
    simp only [Enc.n] at hcl hc3
    rw [List.length_append, hcl] at hc3
    refine SemW_clear Tryz.underlying59 ti34 rfl (by decide) (by simp [Value.cells, Value.oneCell']) hr (by rw [List.length_append]; omega) (by omega) fun w3 ⟨zs, R3, hz⟩ k3 z3 => ?_
    have x3 : Ext W w3 := Keep.ext B2.ext0 k3 fun b hb => by omega
    (repeat with_reducible first | refine jy ?_ | refine jw KL59 [] (aa TF59 (aa vs1 vs2)) fun _ => ?_)
    refine Run_ret ?_
    simp [Rets, RetM, resV, fnd, oneOr]
    have hk := D.k
    rw [List.take_length] at hk
    rw [← hk, hcap]
    have e0 : slSub 3 v 0 i cap = .slice (some (slAt v)) i cap := by
      rw [hv]; simp only [slSub, Option.map_some, slAt_mk]
      rw [if_neg (by omega), Nat.zero_mul, Nat.sub_zero, Nat.sub_zero, show (slAt v).add 0 = slAt v by rw [hr.p0, mk_add]]
    rw [e0]
    have hci := hcs.lens
    simp only [Enc.n] at hci
    have hft : (css.flatten ++ rest).take (i * 3) = (css.take i).flatten := by
      rw [List.take_append_of_le_length (by rw [hcl]; omega)]
      exact flatten_take css i (by rw [hcs.len]; omega) hci
    rw [hft, List.append_assoc] at R3
    have hct : Cs w3 (css.take i) (ys.take i) := ⟨by simp [hcs.len], fun m h1 h2 => by
      simp only [List.length_take] at h1 h2
      rw [List.getElem_take, List.getElem_take]
      exact Flat.any _ _ _ _ (hcs.rep m (by omega) (by omega))⟩
    have hlt : (ys.take i).length = i := by rw [List.length_take]; omega
    have := BufL.back (α := RunD) (e := 34) (v := .slice (some (slAt v)) i cap) (cap := cap) x3 hct R3 (by rw [hlt]; rfl) (by omega) hc2 (by
      rw [List.length_append, hct.flen, hlt, List.length_append, hz, List.length_drop, List.length_append, hcl]; simp only [Enc.n]; omega) hc4
    exact this
set_option maxHeartbeats 1000000 in
theorem plOptionsO (vl : Value) (t : TimeD) (f : TariffD) (u0 u1 u2 : Value) (o : OrderD) (g : Value) (w : World) (hl : Sl w vl t.Lines) (hT : TarR w f u0 u1 u2) (hO : OrdR w o g) :
    Calls Tryz.prog 34 #[.agg (t.cs vl).toArray, .agg (f.cs u0 u1 u2).toArray, .agg (o.cs g).toArray] w fun e w' => ∃ v, e = .returned (.tuple #[v, .int .i64 (Pl.options t f o).2]) ∧ Ext w w' ∧ BufO (α := RunD) 34 w.heap.size w' v (Pl.options t f o).1 := by
  refine Calls_of_Run (args := [.agg (t.cs vl).toArray, .agg (f.cs u0 u1 u2).toArray, .agg (o.cs g).toArray]) (n := 34) (rs := [.tmp 6, .tmp 7]) Tryz.func34 rfl rfl rfl (by simp) ?_
  (repeat with_reducible first | refine jy ?_ | refine jw KL34 [] TF34 fun _ => ?_)
  refine SemW_box fun pt w1 h1 => SemW_box fun pf w2 h2 => SemW_box fun po w3 h3 => ?_
  have x3 := h1.ext.trans (h2.ext.trans h3.ext)
  have T0 : ∀ w', Ext w3 w' → At w' pt (t.cs vl) := fun w' x => (h1.at_.ext (h2.ext.trans (h3.ext.trans x)))
  have F0 : ∀ w', Ext w3 w' → At w' pf (f.cs u0 u1 u2) := fun w' x => (h2.at_.ext (h3.ext.trans x))
  have O0 : ∀ w', Ext w3 w' → At w' po (o.cs g) := fun w' x => (h3.at_.ext x)
  have T := fun w' x => (T0 w' x).n
  have F := fun w' x => (F0 w' x).n
  have O := fun w' x => (O0 w' x).n
  simp only [TimeD.cs, TariffD.cs, OrderD.cs, RunD.cs, AtN, KS, Nat.reduceAdd, Nat.reduceMul, Nat.reduceEqDiff, ↓reduceIte, UT] at T F O
  have t3 := T w3 (Ext.refl _)
  have f3 := F w3 (Ext.refl _)
  have o3 := O w3 (Ext.refl _)
  have hone := hO.one
  (repeat with_reducible first | refine jy ?_ | refine jw KL34 [] (aa TF34 (aa t3 (aa f3 o3))) fun _ => ?_)
  refine ordLit (hO.ext x3) fun vo w5 so x5 => ?_
  have y5 := x3.trans x5
  (repeat with_reducible first | refine jy ?_ | refine jw KL34 [] TF34 fun _ => ?_)
  refine plerrW (l := [o]) (hl.ext y5) (hT.ext y5) so fun w6 x6 => ?_
  have y6 := y5.trans x6
  have z6 := x5.trans x6
  (repeat with_reducible first | refine jy ?_ | refine jw KL34 [] TF34 fun _ => ?_)
  refine Run_condS (fun _ => rfl) (fun h => ?_) (fun h => ?_)
  · have he : Pl.err t f [o] ≠ 0 := by simpa using h
    (repeat with_reducible first | refine jy ?_ | refine jw KL34 [] TF34 fun _ => ?_)
    refine Run_ret ?_
    simp [Rets, RetM, resV, fnd, oneOr, Pl.options, he, y6]
    exact BufO.nil
  have he : Pl.err t f [o] = 0 := by simpa using h
  clear h
  have ok := Pl.err_ok he
  have onum := ok_num ok (List.mem_singleton.2 rfl)
  have t6 := T w6 z6
  have f6 := F w6 z6
  have o6 := O w6 z6
  (repeat with_reducible first | refine jy ?_ | refine jw KL34 [] (aa TF34 (aa t6 o6)) fun _ => ?_)
  refine CallW_gen call58 (ttRuns vl t _ _ w6 (hl.ext y6)) fun e w7 ⟨v7, he7, x7, s7⟩ => ⟨_, he7, ?_⟩
  have y7 := y6.trans x7
  have z7 := z6.trans x7
  (repeat with_reducible first | refine jy ?_ | refine jw KL34 [] TF34 fun _ => ?_)
  refine Run_condS (fun _ => rfl) (fun h => ?_) (fun h => ?_)
  · have he2 : (Tt.runs t o.After (o.By + 1)).2 ≠ 0 := by simpa using h
    (repeat with_reducible first | refine jy ?_ | refine jw KL34 [] TF34 fun _ => ?_)
    refine Run_ret ?_
    simp [Rets, RetM, resV, fnd, oneOr, Pl.options, he, he2, y7]
    exact BufO.nil
  have he2 : (Tt.runs t o.After (o.By + 1)).2 = 0 := by simpa using h
  clear h
  obtain ⟨a1, a2, a3, a4, a5, a6⟩ := Pl.runs_ok he2
  have hmem : ∀ r ∈ (Tt.runs t o.After (o.By + 1)).1, 0 ≤ r.Line ∧ r.Line < t.Lines.length ∧ Tt.LOk (Pl.lineR t r) t.Offices := fun r hr => by
    rw [a5, (Tt.sortR_perm _).mem_iff, Tt.mem_isR a2 a3 a4] at hr
    exact isRunL (by unfold Tt.isRun; rw [decide_eq_true a1, Bool.true_and]; exact hr.1)
  (repeat with_reducible first | refine jy ?_ | refine jw KL34 [] TF34 fun _ => ?_)
  refine CallW_gen call60 (clnRuns v7 _ w7 s7 (by omega)) fun e w8 ⟨v8, he8, b8⟩ => ⟨_, he8, ?_⟩
  have x8 := b8.ext0
  (repeat with_reducible first | refine jy ?_ | refine jw KL34 [] TF34 fun _ => ?_)
  refine CallW_gen call59 (delRO v8 _ _ (fun r => !Pl.fits t f o r) w7 w8 b8 (by omega) fun r hr w9 x9 K hK => ?_) fun e w9 ⟨v9, he9, b9⟩ => ⟨_, he9, ?_⟩
  · obtain ⟨g1, g2, g3⟩ := hmem r hr
    have y9 := y7.trans x9
    have z9 := z7.trans x9
    exact CallW_cl call61 (plOpt1 pt pf po vl t f u0 u1 u2 o g r w9 (T0 w9 z9) (F0 w9 z9) (O0 w9 z9) (hl.ext y9) (hT.ext y9) (hO.ext y9) ⟨g1, g2⟩ g3 onum.1.1) fun e w' ⟨he, hx⟩ => ⟨_, he, hK w' hx⟩
  (repeat with_reducible first | refine jy ?_ | refine jw KL34 [] TF34 fun _ => ?_)
  refine Run_ret ?_
  simp [Rets, RetM, resV, fnd, oneOr, Pl.options, he, he2]
  refine ⟨y7.trans b9.ext0, ?_⟩
  have := b9.o.mono y7.size
  simpa using this
end Go.Proofs.YtldjfebokojmfaaGreat
