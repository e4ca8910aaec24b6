import Derived.Test.YtbfhenoiienghaaGreatRbX24b
import Derived.Test.YtbfhenoiienghaaGreatRbP24d
import Derived.Test.YtbfhenoiienghaaGreatRbX22h
namespace Go.Proofs.YtbfhenoiienghaaGreat
open Go Go.Fk
set_option linter.unusedSimpArgs false
set_option linter.unusedVariables false
set_option maxRecDepth 100000
set_option maxHeartbeats 4000000 in
theorem lawKept24 (vl : Value) (t : TimeD) (f : TariffD) (u0 u1 u2 vo v0 v1 v2 : Value) (l : List OrderD) (covers : Int) (p : PlanD) (run : Int) (w : World) (hl : Sl w vl t.Lines) (hT : TarR w f u0 u1 u2) (ho : Sl w vo l) (hP : PlanR w p v0 v1 v2) (hcv : I64 covers) :
    Calls Tryz.prog 5 #[.agg (t.cs vl).toArray, .agg (f.cs u0 u1 u2).toArray, vo, .int .i64 covers, .agg (p.cs v0 v1 v2).toArray, .int .i64 run] w fun e w' => e = .returned (.bool true) ∧ Ext w w' := by
  have hol := ho.len
  have hos := ho.s
  have prl := hP.r.len
  have pol := hP.o.len
  refine Calls_of_Run (args := [.agg (t.cs vl).toArray, .agg (f.cs u0 u1 u2).toArray, vo, .int .i64 covers, .agg (p.cs v0 v1 v2).toArray, .int .i64 run]) (n := 226) (rs := [.tmp 12]) Tryz.func5 rfl rfl rfl (by simp) ?_
  (repeat with_reducible first | refine js ?_ | refine ja ?_ | refine jw KL5 [21, 23, 24] TF5 fun _ => ?_)
  refine SemW_box fun pt w1 h1 => SemW_box fun pf w2 h2 => SemW_box fun pp w3 h3 => ?_
  have x3 := h1.ext.trans (h2.ext.trans h3.ext)
  have T : ∀ w', Ext w3 w' → AtN w' pt 0 (t.cs vl) := fun w' x => (h1.at_.ext (h2.ext.trans (h3.ext.trans x))).n
  have F : ∀ w', Ext w3 w' → AtN w' pf 0 (f.cs u0 u1 u2) := fun w' x => (h2.at_.ext (h3.ext.trans x)).n
  have P : ∀ w', Ext w3 w' → AtN w' pp 0 (p.cs v0 v1 v2) := fun w' x => (h3.at_.ext x).n
  simp only [TimeD.cs, TariffD.cs, PlanD.cs, AtN, KS, Nat.reduceAdd, Nat.reduceMul, Nat.reduceEqDiff, ↓reduceIte, UT] at T F P
  (repeat with_reducible first | refine js ?_ | refine ja ?_ | refine jw KL5 [21, 23, 24] TF5 fun _ => ?_)
  refine sane24W fun w5 x5 => ?_
  have y5 := x3.trans x5
  have t5 := T w5 x5
  have f5 := F w5 x5
  have p5 := P w5 x5
  (repeat with_reducible first | refine js ?_ | refine ja ?_ | refine jw KL5 [21, 23, 24] TF5 fun _ => ?_)
  refine Run_condS (fun _ => rfl) (fun h => by cases h) (fun _ => ?_)
  (repeat with_reducible first | refine js ?_ | refine ja ?_ | refine jw KL5 [21, 23, 24] (aa TF5 (aa t5 (aa f5 (aa p5 KX)))) fun _ => ?_)
  refine right24W (hl.ext y5) (hT.ext y5) (ho.ext y5) (hP.ext y5) fun b w7 x7 hb => ?_
  have y7 := y5.trans x7
  have z7 := x5.trans x7
  (repeat with_reducible first | refine js ?_ | refine ja ?_ | refine jw KL5 [21, 23, 24] (aa TF5 KX) fun _ => ?_)
  refine Run_condS (fun _ => rfl) (fun h => ?_) (fun h => ?_)
  · (repeat with_reducible first | refine js ?_ | refine ja ?_ | refine jw KL5 [21, 23, 24] TF5 fun _ => ?_)
    refine Run_ret ?_
    simp [Rets, RetM, resV, fnd, oneOr, y7]
  obtain rfl : b = true := by simpa using h
  clear h
  obtain ⟨hfp, he, hr0, hr1⟩ := hb rfl
  obtain ⟨h0, hA⟩ := Rp.err_acc he
  have ok := Pl.err_ok h0
  have h64 := ok.n
  have t7 := T w7 z7
  have f7 := F w7 z7
  have p7 := P w7 z7
  (repeat with_reducible first | refine js ?_ | refine ja ?_ | refine jw KL5 [21, 23, 24] (aa TF5 (aa t7 (aa f7 p7))) fun _ => ?_)
  rcases Rp.rep_cases he hr0 hr1 with ⟨hoe, hm⟩ | ⟨hoe, hmn, hm⟩ | ⟨of, hoe, hms, hm⟩
  · refine rpRepairW (hl.ext y7) (hT.ext y7) (ho.ext y7) (hP.ext y7) hcv hm fun b0 b1 b2 wB xB hR => ?_
    (try simp (maxSteps := 5000000) only [KS, Nat.reduceAdd, Nat.reduceMul, Nat.reduceEqDiff, ↓reduceIte, forall_const, Int.cast_ofNat_Int, Int.reduceToNat, List.take_succ_cons, List.take_zero, List.drop_succ_cons, List.drop_zero, TF5, KL5]); (try simp (disch := omega) only [wrapI, tmodI, tdivI])
    refine ⟨by decide, by decide, by decide, ?_⟩
    refine planVar (p := Pl.noPlan) hR fun px wC xC PX => ?_
    obtain ⟨c0, c1, c2, rx, hX⟩ := PX
    have rxn := rx.n
    simp only [PlanD.cs, AtN, KS, Nat.reduceAdd, Nat.reduceMul, Nat.reduceEqDiff, ↓reduceIte, UT] at rxn
    (repeat with_reducible first | refine js ?_ | refine ja ?_ | refine jw KL5 [21, 23, 24] (aa TF5 KX) fun _ => ?_)
    refine Run_condS (fun _ => rfl) (fun _ => ?_) (fun h => by cases h)
    (repeat with_reducible first | refine js ?_ | refine ja ?_ | refine jw KL5 [21, 23, 24] (aa TF5 (aa rxn KX)) fun _ => ?_)
    refine ⟨.agg #[.slice none 0 0, .slice none 0 0, .slice none 0 0], fun _ _ => by kernel_rfl, .inl (.inl ⟨by decide, same22W (p := Pl.noPlan) (q := Pl.noPlan) (b := true) (by decide) hX ⟨Sl.nil _, Sl.nil _, Sl.nil _⟩ fun wD xD => ?_⟩)⟩
    unfold hush
    (repeat with_reducible first | refine js ?_ | refine ja ?_ | refine jw KL5 [21, 23, 24] (aa TF5 KX) fun _ => ?_)
    refine Run_ret ?_
    simp [Rets, RetM, resV, fnd, oneOr]
    exact y7.trans (xB.trans (xC.trans xD))
  · refine rpRepairW (hl.ext y7) (hT.ext y7) (ho.ext y7) (hP.ext y7) hcv hm fun b0 b1 b2 wB xB hR => ?_
    (try simp (maxSteps := 5000000) only [KS, Nat.reduceAdd, Nat.reduceMul, Nat.reduceEqDiff, ↓reduceIte, forall_const, Int.cast_ofNat_Int, Int.reduceToNat, List.take_succ_cons, List.take_zero, List.drop_succ_cons, List.drop_zero, TF5, KL5]); (try simp (disch := omega) only [wrapI, tmodI, tdivI])
    refine ⟨by decide, by decide, by decide, ?_⟩
    refine planVar (p := Pl.noPlan) hR fun px wC xC PX => ?_
    obtain ⟨c0, c1, c2, rx, hX⟩ := PX
    have rxn := rx.n
    simp only [PlanD.cs, AtN, KS, Nat.reduceAdd, Nat.reduceMul, Nat.reduceEqDiff, ↓reduceIte, UT] at rxn
    (repeat with_reducible first | refine js ?_ | refine ja ?_ | refine jw KL5 [21, 23, 24] (aa TF5 KX) fun _ => ?_)
    refine Run_condS (fun _ => rfl) (fun _ => ?_) (fun h => by cases h)
    (repeat with_reducible first | refine js ?_ | refine ja ?_ | refine jw KL5 [21, 23, 24] (aa TF5 (aa rxn KX)) fun _ => ?_)
    refine ⟨.agg #[.slice none 0 0, .slice none 0 0, .slice none 0 0], fun _ _ => by kernel_rfl, .inl (.inl ⟨by decide, same22W (p := Pl.noPlan) (q := Pl.noPlan) (b := true) (by decide) hX ⟨Sl.nil _, Sl.nil _, Sl.nil _⟩ fun wD xD => ?_⟩)⟩
    unfold hush
    (repeat with_reducible first | refine js ?_ | refine ja ?_ | refine jw KL5 [21, 23, 24] (aa TF5 KX) fun _ => ?_)
    refine Run_ret ?_
    simp [Rets, RetM, resV, fnd, oneOr]
    exact y7.trans (xB.trans (xC.trans xD))
  have hk := Rp.mend_ok he hoe hms
  have pac := Pl.good_acc hk.good
  have his := Rp.mend_is hk
  refine rpRepairW (hl.ext y7) (hT.ext y7) (ho.ext y7) (hP.ext y7) hcv hm fun b0 b1 b2 wB xB hR => ?_
  (try simp (maxSteps := 5000000) only [KS, Nat.reduceAdd, Nat.reduceMul, Nat.reduceEqDiff, ↓reduceIte, forall_const, Int.cast_ofNat_Int, Int.reduceToNat, List.take_succ_cons, List.take_zero, List.drop_succ_cons, List.drop_zero, TF5, KL5]); (try simp (disch := omega) only [wrapI, tmodI, tdivI])
  refine ⟨by decide, by decide, by decide, ?_⟩
  refine planVar (p := Pl.planOf l of) hR fun px wC xC PX => ?_
  have zC := z7.trans (xB.trans xC)
  have yC := x3.trans zC
  obtain ⟨c0, c1, c2, rx, hX⟩ := PX
  have hchk : Pl.check t f l covers (Pl.planOf l of) = (true, 0) := by
    unfold Pl.check
    rw [if_neg (by simp [h0]), hk.good]
  have hqn : (Pl.planOf l of).Runs.length ≤ 64 := by
    show (Pl.dd of).length ≤ 64
    have := Pl.dd_lenle of
    have := hk.n
    omega
  generalize Pl.planOf l of = q at *
  clear hm hR hk
  have Q : ∀ w', Ext wC w' → AtN w' px 0 (q.cs c0 c1 c2) := fun w' x => (rx.ext x).n
  simp only [PlanD.cs, AtN, KS, Nat.reduceAdd, Nat.reduceMul, Nat.reduceEqDiff, ↓reduceIte, UT] at Q
  have rl := hX.r.len
  have ol := hX.o.len
  have cl := hX.c.len
  (repeat with_reducible first | refine js ?_ | refine ja ?_ | refine jw KL5 [21, 23, 24] (aa TF5 KX) fun _ => ?_)
  refine Run_condS (fun _ => rfl) (fun h => by cases h) (fun _ => ?_)
  have tC := T wC zC
  have fC := F wC zC
  have qC := Q wC (Ext.refl _)
  (repeat with_reducible first | refine js ?_ | refine ja ?_ | refine jw KL5 [21, 23, 24] (aa TF5 (aa tC (aa fC qC))) fun _ => ?_)
  refine plChkW (hl.ext yC) (hT.ext yC) (ho.ext yC) hX hchk fun wD xD => ?_
  (try simp (maxSteps := 5000000) only [KS, Nat.reduceAdd, Nat.reduceMul, Nat.reduceEqDiff, ↓reduceIte, forall_const, Int.cast_ofNat_Int, Int.reduceToNat, List.take_succ_cons, List.take_zero, List.drop_succ_cons, List.drop_zero, TF5, KL5]); (try simp (disch := omega) only [wrapI, tmodI, tdivI])
  refine ⟨by decide, by decide, ?_⟩
  have zD := zC.trans xD
  have yD := x3.trans zD
  have pD := P wD zD
  have qD := Q wD xD
  (repeat with_reducible first | refine js ?_ | refine ja ?_ | refine jw KL5 [21, 23, 24] (aa TF5 (aa pD (aa qD KX))) fun _ => ?_)
  have hPol := pac.ol
  have hPcl := pac.cl
  refine .inl (.inl ⟨by decide, is24W (b := true) (ho.ext yD) (hP.ext yD) (hX.ext xD) hA.ol hA.ins (by omega) his fun wE xE => ?_⟩)
  unfold hush
  have zE := zD.trans xE
  have yE := x3.trans zE
  have xCE := xD.trans xE
  have qE := Q wE xCE
  have ec : ((q.Covers.length : Int) != q.Runs.length) = false := by simp; omega
  (repeat with_reducible first | refine js ?_ | refine ja ?_ | refine jw KL5 [21, 23, 24] (aa TF5 (aa qE (aa hX.c.s (aa cl (aa hX.r.s (aa rl (aa ec KX))))))) fun _ => ?_)
  refine Run_condS (fun _ => rfl) (fun h => by cases h) (fun _ => ?_)
  (repeat with_reducible first | refine js ?_ | refine ja ?_ | refine jw KL5 [21, 23, 24] (aa TF5 (aa qE (aa hX.r.s rl))) fun _ => ?_)
  have hXE := hX.ext xCE
  have QE := fun w' (x : Ext wE w') => Q w' (xCE.trans x)
  have TE := fun w' (x : Ext wE w') => T w' (zE.trans x)
  have FE := fun w' (x : Ext wE w') => F w' (zE.trans x)
  have PE := fun w' (x : Ext wE w') => P w' (zE.trans x)
  refine SemW_make (n := q.Runs.length) Tryz.underlying25 ti3 (by show _ * 1 ≤ _; omega) (by omega) (by simp only [maxLen]; omega) fun pL w10 cs hcs hL hrep => ?_
  have hrep : cs = List.replicate q.Runs.length (.int .i64 0) := hrep rfl rfl
  have B10 : BufL (α := Int) 3 wE w10 (.slice (some pL) q.Runs.length q.Runs.length) (List.replicate q.Runs.length 0) := by
    have := BufL.new (α := Int) (e := 3) (W := wE) (w := wE) (w' := w10) (p := pL) (css := List.replicate q.Runs.length [Value.int .i64 0]) (xs := List.replicate q.Runs.length 0) (by rw [hrep] at hL; simpa using hL) (Ext.refl _) ⟨by simp, fun i h1 h2 => by simp only [List.getElem_replicate]; exact ⟨rfl, by simp [I64]⟩⟩ (by simp only [maxLen, List.length_replicate]; omega)
    simpa using this
  generalize hvL : Value.slice (some pL) q.Runs.length q.Runs.length = vL at *
  have x10 := hL.ext
  have q10 := QE w10 x10
  clear hL hrep hcs
  have hcr : ∀ o ∈ l, 1 ≤ o.Crowd ∧ o.Crowd ≤ 64 := fun o ho' => (ok_num ok ho').2.2.2
  have hcv0 : ∀ k (h : k < q.Covers.length), 0 ≤ q.Covers[k] ∧ q.Covers[k] ≤ 65 := fun k hk => by
    have e : q.Covers[k] = (q.Runs.map fun r => (Pl.load l (Pl.ofs q) r).covers)[k]'(by simp; omega) := by simp only [← pac.c]
    rw [e, List.getElem_map]
    exact Pl.cov_bd hcr _ _
  have vs1 : IsS vL := B10.isS.1
  have vs2 : slLen vL = q.Runs.length := by rw [← hvL]; rfl
  (repeat with_reducible first | refine js ?_ | refine ja ?_ | refine jw KL5 [21, 23, 24] (aa TF5 (aa q10 (aa hX.o.s ol))) fun _ => ?_)
  refine Run_loopV [20, 107, 108] (σ := Nat × List Int) (fun j => [(107, some (.int .i64 j.1))]) (fun j w' => j.1 ≤ q.Of.length ∧ j.2.length = q.Runs.length ∧ (∀ k (h1 : k < j.2.length), j.2[k] = ((q.Of.take j.1).count (k : Int) : Int)) ∧ BufL (α := Int) 3 wE w' vL j.2) (fun j => q.Of.length - j.1) (0, List.replicate q.Runs.length 0) (by simp [SubB, fnd]) ⟨by simp, by simp, by simp, B10⟩ ?_
  rintro ⟨j, ls⟩ w11 ⟨hj, hln, hls, B11⟩
  simp only at hj hln hls B11
  (repeat with_reducible first | refine js ?_ | refine ja ?_ | refine jw KL5 [21, 23, 24] TF5 fun _ => ?_)
  refine Run_condS (fun _ => rfl) (fun h => ?_) (fun h => ?_)
  · simp at h
    have hjl : j < q.Of.length := by omega
    have hjc : (j : Int) < q.Of.length := by omega
    clear h
    have x11 := B11.ext0
    obtain ⟨c1, c2, c3⟩ := (hXE.o.ext x11).get hjl
    have hin := pac.ins _ (List.getElem_mem hjl)
    have htk : ∀ k : Int, ((q.Of.take (j + 1)).count k : Int) = ((q.Of.take j).count k : Int) + if q.Of[j] = k then 1 else 0 := fun k => by
      rw [List.take_succ_eq_append_getElem hjl, List.count_append]
      by_cases e : q.Of[j] = k
      · simp [e]
      · simp [e]
    have hcb := List.count_le_length (a := q.Of[j]) (l := q.Of.take j)
    rw [List.length_take] at hcb
    generalize q.Of[j] = k at *
    have hkl : k.toNat < q.Runs.length := by omega
    have hkk : ((k.toNat : Nat) : Int) = k := by omega
    have hlk := hls k.toNat (by omega)
    rw [hkk] at hlk
    obtain ⟨d1, d2, d3⟩ := (B11.sl (by omega)).get (i := k.toNat) (by omega)
    rw [hlk] at d1
    (repeat with_reducible first | refine js ?_ | refine ja ?_ | refine jw KL5 [21, 23, 24] (aa TF5 (aa hX.o.s (aa ol (aa c1 (aa c2 (aa vs1 (aa vs2 (aa d1 d2)))))))) fun _ => ?_)
    refine SemW_setE (X := .int .i64 (((q.Of.take j).count k : Int) + 1)) B11 k.toNat (by omega) (((q.Of.take j).count k : Int) + 1) cells3 (by decide) ⟨rfl, by unfold I64; omega⟩ (by show _ = (slAt vL).add (k.toNat * 1); rw [Nat.mul_one]) fun w13 B13 k13 z13 x13 => ?_
    (repeat with_reducible first | refine js ?_ | refine ja ?_ | refine jw KL5 [21, 23, 24] TF5 fun _ => ?_)
    refine Run_lp ⟨(j + 1, ls.set k.toNat (((q.Of.take j).count k : Int) + 1)), by simp [SubB, fnd, strike, has], ⟨by show j + 1 ≤ q.Of.length; omega, by show (ls.set _ _).length = _; rw [List.length_set]; exact hln, fun i h1 => ?_, B13⟩, by show q.Of.length - (j + 1) < q.Of.length - j; omega⟩
    simp only at h1 ⊢
    rw [List.length_set] at h1
    rw [htk, List.getElem_set]
    by_cases e : k.toNat = i
    · subst e
      rw [if_pos rfl, if_pos hkk.symm, hkk]
    · rw [if_neg e, if_neg (by omega), hls i h1]; omega
  simp at h
  obtain rfl : j = q.Of.length := by omega
  rw [List.take_length] at hls
  clear h
  have hfin : ∀ k (hk : k < q.Runs.length) (h1 : k < ls.length) (h2 : k < q.Covers.length), ls[k] + q.Covers[k] = max (Pl.load l (Pl.ofs q) q.Runs[k]).n (Pl.load l (Pl.ofs q) q.Runs[k]).c := fun k hk h1 h2 => by
    rw [← pac.letters hk, hls k h1]; omega
  have hlsb : ∀ k (h1 : k < ls.length), 0 ≤ ls[k] ∧ ls[k] ≤ 64 := fun k h1 => by
    rw [hls k h1]
    have := List.count_le_length (a := (k : Int)) (l := q.Of)
    omega
  clear hls
  have sL := B11.sl (by omega)
  have x11 := B11.ext0
  clear B11
  (repeat with_reducible first | refine js ?_ | refine ja ?_ | refine jw KL5 [21, 23, 24] (aa TF5 (aa hos hol)) fun _ => ?_)
  refine Run_loopV [12, 21, 22, 23, 24, 25, 120, 121, 176, 224] (σ := Nat) (fun j => [(120, some (.int .i64 j))]) (fun j w' => j ≤ l.length ∧ Ext w11 w') (fun j => l.length - j) 0 (by simp [SubB, fnd]) ⟨by omega, Ext.refl _⟩ ?_
  rintro j w12 ⟨hj, x12⟩
  (repeat with_reducible first | refine js ?_ | refine ja ?_ | refine jw KL5 [21, 23, 24] TF5 fun _ => ?_)
  refine Run_condS (fun _ => rfl) (fun h => ?_) (fun h => ?_)
  · simp at h
    have hjl : j < l.length := by omega
    have hjc : (j : Int) < l.length := by omega
    have hjo : j < q.Of.length := by omega
    have hjoc : (j : Int) < q.Of.length := by omega
    have hjp : j < p.Of.length := by rw [hA.ol]; exact hjl
    have hjpc : (j : Int) < p.Of.length := by omega
    clear h
    have z12 := x11.trans x12
    have y12 := yE.trans z12
    obtain ⟨g, oA, oB, hO⟩ := (ho.ext y12).ord hjl
    have hone := hO.one
    have hOf := fun w' (x : Ext w12 w') => ((hXE.o.ext (z12.trans x)).get hjo)
    have hPo := fun w' (x : Ext w12 w') => ((hP.o.ext (y12.trans x)).get hjp)
    have hin := pac.ins _ (List.getElem_mem hjo)
    have hfit := pac.f j hjl
    have hog : (Pl.ofs q).getD j default = q.Runs.getD (q.Of[j]).toNat default := by
      rw [Pl.ofs_get hjo, List.getD_eq_getElem?_getD (l := q.Of), List.getElem?_eq_getElem hjo]; rfl
    have hofl : j < (Pl.ofs q).length := by rw [Pl.ofs_len]; exact hjo
    have hoi : (Pl.ofs q)[j] = q.Runs.getD (q.Of[j]).toNat default := by
      rw [← hog, List.getD_eq_getElem?_getD, List.getElem?_eq_getElem hofl]; rfl
    have hcc := Pl.loadF_c (q.Runs.getD (q.Of[j]).toNat default) l (Pl.ofs q) .zero j hofl hjl hoi
    rw [hog, Pl.getD_l hjl] at hfit
    have hom := List.getElem_mem hjl
    have hisj : Rp.isAt p q run j = true := by
      unfold Rp.isRep at his
      rw [Bool.and_eq_true] at his
      exact List.all_eq_true.1 his.2 j (by simpa using hjl)
    have hpg : p.Of.getD j 0 = p.Of[j] := by simp [List.getD_eq_getElem?_getD, hjp]
    have hqg : q.Of.getD j 0 = q.Of[j] := by simp [List.getD_eq_getElem?_getD, hjo]
    unfold Rp.isAt Rp.runOf at hisj
    rw [hpg, hqg, Bool.and_eq_true] at hisj
    have hisj := hisj.2
    have hpi := hA.ins _ (List.getElem_mem hjp)
    generalize p.Of[j] = a at *
    generalize hke : q.Of[j] = k at *
    have hkl : k.toNat < q.Runs.length := by omega
    have hklc : k < q.Runs.length := by omega
    have hrg : q.Runs.getD k.toNat default = q.Runs[k.toNat] := by simp [List.getD_eq_getElem?_getD, hkl]
    rw [hrg] at hfit hcc hisj
    have hrm := List.getElem_mem hkl
    have hlet := hfin k.toNat hkl (by omega) (by omega)
    have hlsk := hlsb k.toNat (by omega)
    have hcvk := hcv0 k.toNat (by omega)
    obtain ⟨g1, g2, g3⟩ := isRunL (pac.r _ hrm)
    have hRn := fun w' (x : Ext w12 w') => ((hXE.r.ext (z12.trans x)).runD hkl)
    have hLt := fun w' (x : Ext w12 w') => ((sL.ext (x12.trans x)).get (i := k.toNat) (by omega))
    have hCv := fun w' (x : Ext w12 w') => ((hXE.c.ext (z12.trans x)).get (i := k.toNat) (by omega))
    rw [show Pl.loadF q.Runs[k.toNat] l (Pl.ofs q) .zero = Pl.load l (Pl.ofs q) q.Runs[k.toNat] from rfl] at hcc
    generalize hre : q.Runs[k.toNat] = r at *
    generalize l[j] = o at *
    generalize hLe : ls[k.toNat] = L at *
    generalize hCe : q.Covers[k.toNat] = C at *
    have hkept := Pl.fits_kept ok hom hfit g3
    have hlt : r.Line.toNat < t.Lines.length := by omega
    have hline : Pl.lineR t r = t.Lines[r.Line.toNat] := by simp [Pl.lineR, List.getD_eq_getElem?_getD, hlt]
    have hL1 : o.Crowd + 1 ≤ L + C := by omega
    rw [hline] at hkept
    have hXn := fun w' (x : Ext w12 w') => ((hl.ext (y12.trans x)).line hlt)
    generalize t.Lines[r.Line.toNat] = X at *
    simp only [OrderD.cs, AtN, KS, Nat.reduceAdd, Nat.reduceMul, Nat.reduceEqDiff, ↓reduceIte, UT] at oA
    (repeat with_reducible first | refine js ?_ | refine ja ?_ | refine jw KL5 [21, 23, 24] (aa TF5 (aa hos (aa hol oA))) fun _ => ?_)
    refine SemW_allocT ti48 fun pq w13 h13 => ?_
    have b13 := h13.blk
    (repeat with_reducible first | refine js ?_ | refine ja ?_ | refine jw KL5 [21, 23, 24] TF5 fun _ => ?_)
    refine SemW_setW (by rw [cells48]; decide) (by rw [cells48]; rfl) h13.row (by rw [cells48]; rfl) (by exact hone) fun w14 r14 k14 z14 => ?_
    have r14 : Row w14 pq 48 (o.cs g) := r14
    have x14 : Ext w12 w14 := extKeep h13.ext k14 (by omega)
    have O14 := fun w' (x : Ext w14 w') => (r14.ext x).n
    simp only [OrderD.cs, AtN, KS, Nat.reduceAdd, Nat.reduceMul, Nat.reduceEqDiff, ↓reduceIte, UT] at O14
    let S : Nat → Prop := fun _ => True
    (repeat with_reducible first | refine jq ?_ | refine jk ?_ | refine jc ?_ | refine jl ?_ | refine jb ?_ | refine jo ?_ | refine ji ?_ | refine jx rfl ?_)
    refine Run_eh S [10] [(1, [10]), (3, [10]), (6, [10]), (8, [10])] (id := 20) KL5 (.first 0 (.first 1 (.first 2 (.first 3 (.first 4 (.first 5 (.first 6 (.first 7 (.first 8 (.alt true 9 (.alt true 10 (.done false) .stop) .stop)))))))))) mixed (by kernel_rfl) (by kernel_rfl) fun w15 x15 _ => ?_
    have z15 := z12.trans (x14.trans x15)
    have p15 := QE w15 z15
    obtain ⟨c1, c2, c3⟩ := hOf w15 (x14.trans x15)
    have r15 := (hRn w15 (x14.trans x15)).1
    simp only [RunD.cs, AtN, KS, Nat.reduceAdd, Nat.reduceMul, Nat.reduceEqDiff, ↓reduceIte, UT] at r15
    (try simp (maxSteps := 5000000) only [KS, Nat.reduceAdd, Nat.reduceMul, Nat.reduceEqDiff, ↓reduceIte, forall_const, Int.cast_ofNat_Int, Int.reduceToNat, List.take_succ_cons, List.take_zero, List.drop_succ_cons, List.drop_zero, TF5, KL5, eh, gres, qopS, putL, ung, p15, hX.o.s, ol, hX.r.s, rl, c1, c2, r15]); (try simp (disch := omega) only [wrapI, tmodI, tdivI])
    refine ⟨trivial, trivial, ⟨by omega, by omega⟩, trivial, ⟨by omega, by omega⟩, trivial, Keep.refl _ _, ?_⟩
    refine SemW_allocT ti50 fun pr w16 h16 => ⟨Keep.of_ext h16.ext, ?_⟩
    have b16 := h16.blk
    refine SemW_setW (by rw [cells50]; decide) (by rw [cells50]; rfl) h16.row (by rw [cells50]; rfl) rfl fun w17 r17 k17 z17 => ⟨fun h => h.elim, ?_⟩
    have r17 : Row w17 pr 50 r.cs := r17
    have x17 : Ext w15 w17 := extKeep h16.ext k17 (by omega)
    have x1417 := x15.trans x17
    have x1217 := x14.trans x1417
    have R17 := fun w' (x : Ext w17 w') => (r17.ext x).n
    simp only [RunD.cs, AtN, KS, Nat.reduceAdd, Nat.reduceMul, Nat.reduceEqDiff, ↓reduceIte, UT] at R17
    have t17 := TE w17 (z12.trans x1217)
    have p17 := PE w17 (z12.trans x1217)
    have o17 := O14 w17 x1417
    have r17n := R17 w17 (Ext.refl _)
    obtain ⟨m1, m2, m3⟩ := hPo w17 x1217
    have hrn : run.toNat < p.Runs.length := by omega
    obtain ⟨n1, n2⟩ := (hP.r.ext (y12.trans x1217)).runD hrn
    have hag : p.Runs.getD a.toNat default = p.Runs[a.toNat]'(by omega) := by simp [List.getD_eq_getElem?_getD, show a.toNat < p.Runs.length by omega]
    have hbad : ((r.Line == p.Runs[run.toNat].Line && (r.At == p.Runs[run.toNat].At && r.Arrive == p.Runs[run.toNat].Arrive)) && (a == run)) = false := by
      by_cases e : a = run
      · subst e
        rw [if_pos rfl, hag] at hisj
        have hlt' : (p.Runs[a.toNat]).At < r.At := by simpa using hisj
        have : (r.At == p.Runs[a.toNat].At) = false := by simp; omega
        simp [this]
      · simp [e]
    generalize p.Runs[run.toNat] = d at *
    simp only [RunD.cs, AtN, KS, Nat.reduceAdd, Nat.reduceMul, Nat.reduceEqDiff, ↓reduceIte, UT] at n1
    have eAt : decide (r.At < o.After) = false := by simp; have := hkept.a; omega
    have eArr : decide (o.By < r.Arrive) = false := by simp; have := hkept.b; omega
    have eL0 : decide (r.Line < 0) = false := by simp; omega
    have eLn : decide ((t.Lines.length : Int) ≤ r.Line) = false := by simp; omega
    (repeat with_reducible first | refine js ?_ | refine ja ?_ | refine jw KL5 [21, 23, 24] (aa TF5 (aa t17 (aa p17 (aa o17 (aa r17n (aa m1 (aa m2 (aa n1 (aa hP.r.s (aa prl (aa hP.o.s (aa pol (aa hl.s (aa hl.len (aa eAt (aa eArr (aa eL0 (aa eLn (aa hbad KX))))))))))))))))))) fun _ => ?_)
    refine ⟨by kernel_rfl, fun _ => ⟨by omega, by omega⟩, fun w18 x18 => ?_⟩
    refine Run_condS (fun _ => rfl) (fun h => by cases h) (fun _ => ?_)
    clear eAt eArr eL0 eLn hbad t17 p17 o17 r17n m1 m2 n1 p15 c1 c2 r15
    have x1218 := x1217.trans x18
    have t18 := TE w18 (z12.trans x1218)
    have f18 := FE w18 (z12.trans x1218)
    have o18 := O14 w18 (x1417.trans x18)
    have r18 := R17 w18 x18
    obtain ⟨l0, l1, l2, l3, f1, f2, hR⟩ := hXn w18 x1218
    simp only [LineD.cs, AtN, KS, Nat.reduceAdd, Nat.reduceMul, Nat.reduceEqDiff, ↓reduceIte, UT] at f1
    (repeat with_reducible first | refine js ?_ | refine ja ?_ | refine jw KL5 [21, 23, 24] (aa TF5 (aa f18 (aa o18 (aa t18 (aa r18 (aa hl.s (aa hl.len (aa f1 (aa hR.l.s (aa hR.l.len KX)))))))))) fun _ => ?_)
    obtain ⟨pr1, hpr⟩ : ∃ x, Tf.pri f o.Class X.Legs.length o.Crowd = (x, 0) := ⟨_, hkept.g⟩
    have hpp := hkept.p
    rw [hpr] at hpp
    refine ⟨.tuple #[.int .i64 pr1, .int .i64 0], PC_pure call25 fun w' x => ?_, ⟨rfl, by simp [tpOf]⟩, ⟨rfl, by simp [tpOf]⟩, fun w19 x19 => ?_⟩
    · have := tfPriceW f u0 u1 u2 o.Class X.Legs.length o.Crowd w' (hT.ext (y12.trans (x1218.trans x)))
      rw [hpr] at this
      exact this
    have x1219 := x1218.trans x19
    have o19 := O14 w19 (x1417.trans (x18.trans x19))
    have q19 := QE w19 (z12.trans x1219)
    obtain ⟨d1, d2, d3⟩ := hOf w19 x1219
    obtain ⟨m1, m2, m3⟩ := hLt w19 x1219
    obtain ⟨n1, n2, n3⟩ := hCv w19 x1219
    have hcl : k < q.Covers.length := by omega
    have ePay : decide (o.Pay < pr1) = false := by simp at hpp ⊢; omega
    have eLast : decide (L + C ≤ o.Crowd) = false := by simp; omega
    have hwl : IntKind.i64.wrap (L + C) = L + C := wrapI (by omega) (by omega)
    (repeat with_reducible first | refine js ?_ | refine ja ?_ | refine jw KL5 [21, 23, 24] (aa TF5 (aa o19 (aa q19 (aa d1 (aa d2 (aa m1 (aa m2 (aa n1 (aa n2 (aa hX.o.s (aa ol (aa hX.c.s (aa cl (aa vs1 (aa vs2 (aa ePay (aa eLast (aa hwl KX)))))))))))))))))) fun _ => ?_)
    intro w20 x20
    refine Run_condS (fun _ => rfl) (fun h => by cases h) (fun _ => ?_)
    (repeat with_reducible first | refine js ?_ | refine ja ?_ | refine jw KL5 [21, 23, 24] TF5 fun _ => ?_)
    exact Run_lp ⟨j + 1, by simp [SubB, fnd, strike, has], ⟨by omega, x12.trans (x1219.trans x20)⟩, by omega⟩
  simp at h
  (repeat with_reducible first | refine js ?_ | refine ja ?_ | refine jw KL5 [21, 23, 24] TF5 fun _ => ?_)
  refine Run_ret ?_
  simp [Rets, RetM, resV, fnd, oneOr]
  exact yE.trans (x11.trans x12)
end Go.Proofs.YtbfhenoiienghaaGreat
