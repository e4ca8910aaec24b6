import Derived.Test.YtldjfebokojmfaaGreatRgW22s
import Derived.Test.YtldjfebokojmfaaGreatRgW22j
import Derived.Test.YtldjfebokojmfaaGreatRgHm
import Derived.Test.YtldjfebokojmfaaGreatRgGt
import Derived.Test.YtldjfebokojmfaaGreatRgGs
namespace Go.Fk
open Go
theorem Pl.ddF_snoc (a of : List RunD) (r : RunD) : Pl.ddF a (of ++ [r]) = if (Pl.ddF a of).contains r then Pl.ddF a of else Tt.insR r (Pl.ddF a of) := by simp [Pl.ddF]
theorem Pl.dd_snoc (of : List RunD) (r : RunD) : Pl.dd (of ++ [r]) = if (Pl.dd of).contains r then Pl.dd of else Tt.insR r (Pl.dd of) := Pl.ddF_snoc [] of r
theorem Pl.dd_lenle (of : List RunD) : (Pl.dd of).length ≤ of.length := by
  refine Pl.snoc_ind (P := fun of => (Pl.dd of).length ≤ of.length) (by simp [Pl.dd, Pl.ddF]) (fun a r h => ?_) of
  rw [Pl.dd_snoc]
  split
  · simp; omega
  · rw [(Tt.insR_perm r _).length_eq]; simp; exact h
theorem Pl.dd_mem {r : RunD} {of : List RunD} (h : r ∈ of) : r ∈ Pl.dd of := by
  refine Pl.snoc_ind (P := fun of => ∀ r ∈ of, r ∈ Pl.dd of) (by simp) (fun a q ih r hr => ?_) of r h
  rw [Pl.dd_snoc]
  rcases List.mem_append.1 hr with h | h
  · split
    · exact ih r h
    · rw [(Tt.insR_perm q _).mem_iff]; exact List.mem_cons_of_mem _ (ih r h)
  · obtain rfl := List.mem_singleton.1 h
    split
    · rename_i hc; simpa using hc
    · rw [(Tt.insR_perm r _).mem_iff]; exact List.mem_cons_self ..
end Go.Fk
namespace Go.Proofs.YtldjfebokojmfaaGreat
open Go Go.Fk
set_option linter.unusedSimpArgs false
set_option linter.unusedVariables false
set_option maxRecDepth 100000
theorem rfFind (v : Value) (r : RunD) (xs : List RunD) (w : World) (hx : Sl w v xs) :
    Calls Tryz.prog 72 #[v, .agg r.cs.toArray] w fun e w' => e = .returned (.int .i64 (Pl.ridx r xs 0)) ∧ Ext w w' := by
  have hs := hx.s
  have hl := hx.len
  have hsm := hx.small
  refine Calls_of_Run (args := [v, .agg r.cs.toArray]) (n := 19) (rs := [.tmp 4]) Tryz.func72 rfl rfl rfl (by simp) ?_
  (repeat with_reducible first | refine jy ?_ | refine jw KL72 [4] TF72 fun _ => ?_)
  refine SemW_box fun pv w0 h0 => ?_
  have V : ∀ w', Ext w0 w' → AtN w' pv 0 r.cs := fun w' x => (h0.at_.ext x).n
  simp only [RunD.cs, AtN, KS, Nat.reduceAdd, Nat.reduceMul, Nat.reduceEqDiff, ↓reduceIte, UT] at V
  have y0 := h0.ext
  (repeat with_reducible first | refine jy ?_ | refine jw KL72 [4] (aa TF72 (aa hs hl)) fun _ => ?_)
  refine Run_loopV [4, 5, 9, 17] (σ := Nat) (fun k => [(5, some (.int .i64 k)), (4, some (.int .i64 0))]) (fun k w' => k ≤ xs.length ∧ Pl.ridx r (xs.drop k) k = Pl.ridx r xs 0 ∧ Ext w0 w') (fun k => xs.length - k) 0 (by simp [SubB, fnd]) ⟨by omega, rfl, Ext.refl _⟩ ?_
  rintro k w1 ⟨hk, hf, x1⟩
  (repeat with_reducible first | refine jy ?_ | refine jw KL72 [4] (aa TF72 (aa hs hl)) fun _ => ?_)
  refine Run_condS (fun _ => rfl) (fun h => ?_) (fun h => ?_)
  · simp at h
    have hkl : k < xs.length := by omega
    have hkc : (k : Int) < xs.length := by omega
    clear h
    obtain ⟨r1, r2⟩ := (hx.ext (y0.trans x1)).runD hkl
    rw [ridx_drop hkl] at hf
    generalize xs[k] = q at *
    simp only [RunD.cs, AtN, KS, Nat.reduceAdd, Nat.reduceMul, Nat.reduceEqDiff, ↓reduceIte, UT] at r1
    have v1 := V w1 x1
    (repeat with_reducible first | refine jy ?_ | refine jw KL72 [4] (aa TF72 (aa hs (aa hl (aa r1 v1)))) fun _ => ?_)
    refine ⟨by kernel_rfl, fun w2 x2 => ?_⟩
    refine Run_condS (fun _ => rfl) (fun h => ?_) (fun h => ?_)
    · have he : q = r := by
        cases q; cases r; simp at h; simp [h]
      rw [if_pos he] at hf
      (repeat with_reducible first | refine jy ?_ | refine jw KL72 [4] TF72 fun _ => ?_)
      refine Run_ret ?_
      simp [Rets, RetM, resV, fnd, oneOr, hf]
      exact y0.trans (x1.trans x2)
    · have he : q ≠ r := by
        rintro rfl; simp at h
      rw [if_neg he] at hf
      (repeat with_reducible first | refine jy ?_ | refine jw KL72 [4] TF72 fun _ => ?_)
      exact Run_lp ⟨k + 1, by simp [SubB, fnd, strike, has], ⟨by omega, hf, x1.trans x2⟩, by omega⟩
  · simp at h
    obtain rfl : k = xs.length := by omega
    rw [List.drop_length] at hf
    (repeat with_reducible first | refine jy ?_ | refine jw KL72 [4] TF72 fun _ => ?_)
    refine Run_ret ?_
    simp [Rets, RetM, resV, fnd, oneOr, ← hf, Pl.ridx]
    exact y0.trans x1
theorem PlW.put0 {W0 w w1 w3 : World} {pp : Addr} {v0 v0' : Value} {S S' : List RunD} {O C : List Int} (h : PlW W0 pp v0 S O C w) (x1 : Ext w w1) (b : BufO (α := RunD) 34 (pp.block + 1) w1 v0' S') {v1 v2 : Value} (p2 : BufO (α := Int) 3 (pp.block + 1) w v1 O) (p3 : BufO (α := Int) 3 (pp.block + 1) w v2 C) (p4 : ∀ g, v1.ownBlock = some g → v2.ownBlock ≠ some g)
    (r3 : Row w3 pp 61 ([v0, v1, v2].set 0 v0')) (k3 : Keep (fun k => k ≠ pp.block) w1 w3) : PlW W0 pp v0' S' O C w3 := by
  have K1 := Keep.of_ext (S := fun _ => True) x1
  have hb := h.b
  refine ⟨Keep.ext (h.e.trans x1) k3 fun k hk => by omega, hb, b.keepQ k3 fun g hg => by have := (b.own_lt hg).1; omega, v1, v2, r3, ?_, ?_, p4⟩
  · exact (p2.keepQ K1 fun _ _ => trivial).keepQ k3 fun g hg => by have := (p2.own_lt hg).1; omega
  · exact (p3.keepQ K1 fun _ _ => trivial).keepQ k3 fun g hg => by have := (p3.own_lt hg).1; omega
set_option maxHeartbeats 4000000 in
theorem rfPlan (vo vof : Value) (l : List OrderD) (of : List RunD) (w : World) (ho : Sl w vo l) (hof : Sl w vof of) (hn : of.length ≤ l.length) (hl : l.length ≤ 64) (hcr : ∀ o ∈ l, 1 ≤ o.Crowd ∧ o.Crowd ≤ 64) :
    Calls Tryz.prog 44 #[vo, vof] w fun e w' => ∃ v0 v1 v2, e = .returned (.agg ((Pl.planOf l of).cs v0 v1 v2).toArray) ∧ Ext w w' ∧ PlanR w' (Pl.planOf l of) v0 v1 v2 := by
  have hs := hof.s
  have hofl := hof.len
  refine Calls_of_Run (args := [vo, vof]) (n := 80) (rs := [.cell 4 61]) Tryz.func44 rfl rfl rfl (by simp) ?_
  (repeat with_reducible first | refine jy ?_ | (refine jT (id := 6) KL44 6 mixed (by kernel_rfl) (by kernel_rfl) (by kernel_rfl) fun _ => ?_; refine jw KL44 [5] TF44 fun _ => ?_) | refine jw KL44 [5] TF44 fun _ => ?_)
  refine SemW_allocT ti61 fun pr w1 h1 => ?_
  (repeat with_reducible first | refine jy ?_ | (refine jT (id := 6) KL44 6 mixed (by kernel_rfl) (by kernel_rfl) (by kernel_rfl) fun _ => ?_; refine jw KL44 [5] TF44 fun _ => ?_) | refine jw KL44 [5] TF44 fun _ => ?_)
  refine ⟨.agg #[.slice none 0 0, .slice none 0 0, .slice none 0 0], fun _ => by kernel_rfl, ?_⟩
  refine SemW_allocT ti61 fun pp w2 h2 => ?_
  have br := h1.blk
  have b2 := h2.blk
  have z1 := h1.size
  have z2 := h2.size
  have x1 := h1.ext
  refine SemW_setW (by rw [cells61]; decide) (by rw [cells61]; rfl) h2.row (by rw [cells61]; rfl) rfl fun w3 r3 k3 z3 => ?_
  have r3 : Row w3 pp 61 [.slice none 0 0, .slice none 0 0, .slice none 0 0] := r3
  have q1 : Row w1 pr 61 [.slice none 0 0, .slice none 0 0, .slice none 0 0] := h1.row
  have x3 : Ext w1 w3 := Keep.ext h2.ext k3 fun k hk => by omega
  have P3 : PlW w1 pp (.slice none 0 0) (Pl.dd []) [] [] w3 := ⟨x3, by omega, BufO.nil, _, _, r3, BufO.nil, BufO.nil, fun g hg => by cases hg⟩
  have hof1 := hof.ext x1
  have ho1 := ho.ext x1
  clear k3 z3 r3 x3
  (repeat with_reducible first | refine jy ?_ | (refine jT (id := 6) KL44 6 mixed (by kernel_rfl) (by kernel_rfl) (by kernel_rfl) fun _ => ?_; refine jw KL44 [5] TF44 fun _ => ?_) | refine jw KL44 [5] TF44 fun _ => ?_)
  refine Run_loopV [6, 15, 25] (σ := Nat × Value) (fun q => [(6, some (.int .i64 q.1))]) (fun q w' => q.1 ≤ of.length ∧ PlW w1 pp q.2 (Pl.dd (of.take q.1)) [] [] w') (fun q => of.length - q.1) (0, .slice none 0 0) (by simp [SubB, fnd]) ⟨by simp, P3⟩ ?_
  rintro ⟨q, v0⟩ w4 ⟨hq, P4⟩
  simp only at hq P4
  (repeat with_reducible first | refine jy ?_ | (refine jT (id := 6) KL44 6 mixed (by kernel_rfl) (by kernel_rfl) (by kernel_rfl) fun _ => ?_; refine jw KL44 [5] (aa TF44 (aa hs hofl)) fun _ => ?_) | refine jw KL44 [5] (aa TF44 (aa hs hofl)) fun _ => ?_)
  refine Run_condS (fun _ => rfl) (fun h => ?_) (fun h => ?_)
  · simp at h
    have hql : q < of.length := by omega
    have hqc : (q : Int) < of.length := by omega
    clear h
    obtain ⟨r1, r2⟩ := (hof1.ext P4.e).runD hql
    have htk : Pl.dd (of.take (q + 1)) = if (Pl.dd (of.take q)).contains of[q] then Pl.dd (of.take q) else Tt.insR of[q] (Pl.dd (of.take q)) := by rw [List.take_succ_eq_append_getElem hql, Pl.dd_snoc]
    have hlq := Pl.dd_lenle (of.take q)
    rw [List.length_take] at hlq
    have hR : ∀ w', Ext w4 w' → AtN w' ((slAt vof).add (q * 3)) 0 of[q].cs := fun w' x => (((hof1.ext P4.e).ext x).runD hql).1
    generalize Pl.dd (of.take q) = D at *
    generalize of[q] = r at *
    obtain ⟨v1, v2, p1, p2, p3, p4⟩ := P4.r
    have p5 := p1.n
    simp only [RunD.cs, AtN, KS, Nat.reduceAdd, Nat.reduceMul, Nat.reduceEqDiff, ↓reduceIte, UT] at r1 p5 hR
    have sD := P4.s.sl (by omega)
    (repeat with_reducible first | refine jy ?_ | (refine jT (id := 6) KL44 6 mixed (by kernel_rfl) (by kernel_rfl) (by kernel_rfl) fun _ => ?_; refine jw KL44 [5] (aa TF44 (aa hs (aa hofl (aa r1 p5)))) fun _ => ?_) | refine jw KL44 [5] (aa TF44 (aa hs (aa hofl (aa r1 p5)))) fun _ => ?_)
    refine ⟨.int .i64 (Pl.ridx r D 0), PC_pure call72 fun w6 x6 => rfFind v0 r D w6 (sD.ext x6), rfl, fun w5 x5 => ?_⟩
    have P5 := P4.ext x5
    simp only [iOf_mk]
    refine Run_condS (fun _ => rfl) (fun h => ?_) (fun h => ?_)
    · have hc : D.contains r = false := by
        have hn := Pl.ridx_mem (r := r) (S := D) (k := 0)
        have h : Pl.ridx r D 0 < 0 := of_decide_eq_true h
        have : ¬ r ∈ D := fun e => by have := hn.2 e; omega
        simpa using this
      rw [hc, if_neg (by simp)] at htk
      clear h
      let S : Nat → Prop := fun _ => True
      (repeat with_reducible refine js ?_)
      refine Run_eh S [8] [(1, [8]), (5, [8])] (id := 6) KL44 (.first 0 (.first 1 (.first 2 (.first 3 (.first 4 (.first 5 (.alt true 6 (.first 7 (.alt true 8 (.done false) .stop)) .stop))))))) mixed (by kernel_rfl) (by kernel_rfl) fun w6 x6 _ => ?_
      have p6 := (p1.ext (x5.trans x6)).n
      have r6 := hR w6 (x5.trans x6)
      simp only [AtN, KS, Nat.reduceAdd, Nat.reduceMul, Nat.reduceEqDiff, ↓reduceIte, UT] at p6
      (try simp (maxSteps := 5000000) only [KS, Nat.reduceAdd, Nat.reduceMul, Nat.reduceEqDiff, ↓reduceIte, forall_const, Int.cast_ofNat_Int, Int.reduceToNat, List.take_succ_cons, List.take_zero, List.drop_succ_cons, List.drop_zero, TF44, KL44, eh, gres, qopS, putL, ung, p6, r6, hs, hofl]); (try simp (disch := omega) only [wrapI, tmodI, tdivI])
      refine ⟨trivial, ⟨by omega, by omega⟩, trivial, Keep.refl _ _, ?_⟩
      refine CallW_gen call73 (rfInsertO v0 D r w6 (sD.ext (x5.trans x6)) r2 (by omega)) fun e w7 ⟨v7, he7, x7, b7⟩ => ⟨_, he7, Keep.of_ext x7, ?_⟩
      have x47 := x5.trans (x6.trans x7)
      have hB : pp.block + 1 ≤ w6.heap.size := (p1.ext (x5.trans x6)).lt
      refine SemW_set0 cells59 (p1.ext x47) (by simp) (isS_c b7.isS.1) (isS_o b7.isS.1) fun w8 r8 k8 z8 => ⟨fun h => h.elim, ?_⟩
      (repeat with_reducible first | refine jy ?_ | (refine jT (id := 6) KL44 6 mixed (by kernel_rfl) (by kernel_rfl) (by kernel_rfl) fun _ => ?_; refine jw KL44 [5] TF44 fun _ => ?_) | refine jw KL44 [5] TF44 fun _ => ?_)
      refine Run_lp ⟨(q + 1, v7), by simp [SubB, fnd, strike, has], ⟨by show q + 1 ≤ of.length; omega, ?_⟩, by show of.length - (q + 1) < of.length - q; omega⟩
      show PlW w1 pp v7 (Pl.dd (of.take (q + 1))) [] [] w8
      rw [htk]
      exact P4.put0 x47 (b7.mono hB) p2 p3 p4 r8 k8
    · have hc : D.contains r = true := by
        have hn := Pl.ridx_mem (r := r) (S := D) (k := 0)
        have h : ¬ Pl.ridx r D 0 < 0 := of_decide_eq_false h
        simpa using hn.1 (by omega)
      rw [hc, if_pos rfl] at htk
      (repeat with_reducible first | refine jy ?_ | (refine jT (id := 6) KL44 6 mixed (by kernel_rfl) (by kernel_rfl) (by kernel_rfl) fun _ => ?_; refine jw KL44 [5] TF44 fun _ => ?_) | refine jw KL44 [5] TF44 fun _ => ?_)
      refine Run_lp ⟨(q + 1, v0), by simp [SubB, fnd, strike, has], ⟨by show q + 1 ≤ of.length; omega, ?_⟩, by show of.length - (q + 1) < of.length - q; omega⟩
      show PlW w1 pp v0 (Pl.dd (of.take (q + 1))) [] [] w5
      rw [htk]; exact P5
  simp at h
  obtain rfl : q = of.length := by omega
  clear h
  rw [List.take_length] at P4
  have hS64 : (Pl.dd of).length ≤ 64 := Nat.le_trans (Pl.dd_lenle of) (by omega)
  have hmem : ∀ r ∈ of, r ∈ Pl.dd of := fun r hr => Pl.dd_mem hr
  generalize hSd : Pl.dd of = R at *
  (repeat with_reducible first | refine jy ?_ | (refine jT (id := 6) KL44 6 mixed (by kernel_rfl) (by kernel_rfl) (by kernel_rfl) fun _ => ?_; refine jw KL44 [5] TF44 fun _ => ?_) | refine jw KL44 [5] TF44 fun _ => ?_)
  refine Run_loopV [7, 37] (σ := Nat) (fun q => [(7, some (.int .i64 q))]) (fun q w' => q ≤ of.length ∧ PlW w1 pp v0 R ((of.take q).map fun r => Pl.ridx r R 0) [] w') (fun q => of.length - q) 0 (by simp [SubB, fnd]) ⟨by omega, P4⟩ ?_
  rintro q w7 ⟨hq, P7⟩
  (repeat with_reducible first | refine jy ?_ | (refine jT (id := 6) KL44 6 mixed (by kernel_rfl) (by kernel_rfl) (by kernel_rfl) fun _ => ?_; refine jw KL44 [5] (aa TF44 (aa hs hofl)) fun _ => ?_) | refine jw KL44 [5] (aa TF44 (aa hs hofl)) fun _ => ?_)
  refine Run_condS (fun _ => rfl) (fun h => ?_) (fun h => ?_)
  · simp at h
    have hql : q < of.length := by omega
    have hqc : (q : Int) < of.length := by omega
    clear h
    have htk : (of.take (q + 1)).map (fun r => Pl.ridx r R 0) = (of.take q).map (fun r => Pl.ridx r R 0) ++ [Pl.ridx of[q] R 0] := by rw [List.take_add_one, List.getElem?_eq_getElem hql, List.map_append]; rfl
    have hrd := Pl.ridx_getD (hmem _ (List.getElem_mem hql))
    have hlq : ((of.take q).map fun r => Pl.ridx r R 0).length = q := by rw [List.length_map, List.length_take]; omega
    have hR : ∀ w', Ext w7 w' → AtN w' ((slAt vof).add (q * 3)) 0 of[q].cs := fun w' x => (((hof1.ext P7.e).ext x).runD hql).1
    generalize (of.take q).map (fun r => Pl.ridx r R 0) = O at *
    generalize of[q] = r at *
    obtain ⟨v1, v2', p1, p2, p3, p4⟩ := P7.r
    simp only [RunD.cs, AtN, KS, Nat.reduceAdd, Nat.reduceMul, Nat.reduceEqDiff, ↓reduceIte, UT] at hR
    let S : Nat → Prop := fun b => some b ≠ v1.ownBlock
    have Sp : S pp.block := fun e => by have := (p2.own_lt e.symm).1; omega
    have bf : (slAt vof).block < w.heap.size := hof.blk (by decide) hql
    have Sf : S (slAt vof).block := fun e => by have := (p2.own_lt e.symm).1; omega
    (repeat with_reducible refine js ?_)
    refine Run_eh S [12] [(1, [12]), (3, [12]), (7, [12])] (id := 10) KL44 (.first 0 (.first 1 (.first 2 (.first 3 (.first 4 (.first 5 (.first 6 (.first 7 (.alt true 8 (.alt true 9 (.alt true 10 (.first 11 (.alt true 12 (.done false) .stop)) .stop) .stop) .stop))))))))) mixed (by kernel_rfl) (by kernel_rfl) fun w10 x710 _ => ?_
    have r10 := hR w10 x710
    have p10 := (p1.ext x710).n
    simp only [AtN, KS, Nat.reduceAdd, Nat.reduceMul, Nat.reduceEqDiff, ↓reduceIte, UT] at p10
    (try simp (maxSteps := 5000000) only [KS, Nat.reduceAdd, Nat.reduceMul, Nat.reduceEqDiff, ↓reduceIte, forall_const, Int.cast_ofNat_Int, Int.reduceToNat, List.take_succ_cons, List.take_zero, List.drop_succ_cons, List.drop_zero, TF44, KL44, eh, gres, qopS, putL, ung, r10, p10, hs, hofl]); (try simp (disch := omega) only [wrapI, tmodI, tdivI])
    refine ⟨Sp, Sp, ⟨by omega, by omega⟩, by rw [blk_add]; exact Sf, Keep.refl _ _, ?_⟩
    refine CallW_pure call72 (rfFind v0 r R w10 ((P7.s.keepQ (Keep.of_ext (S := fun _ => True) x710) fun _ _ => trivial).sl (by omega))) fun w11 x11 => ⟨Keep.of_ext x11, ?_⟩
    have x711 := x710.trans x11
    have k711 := Keep.of_ext (S := fun _ => True) x711
    have hB11 : pp.block + 1 ≤ w11.heap.size := (p1.ext x711).lt
    refine SemW_append1W (α := Int) Tryz.underlying25 ti3 rfl (by decide) (p2.keepQ k711 fun _ _ => trivial) hB11 (x := Pl.ridx r R 0) ⟨rfl, by unfold I64; omega⟩ (by rw [hlq]; simp only [maxLen]; omega) (G := fun w' => Keep S w10 w') (fun w' x => Keep.of_ext (x11.trans x)) fun _ v12 w12 b12 k12 g12 => ⟨(Keep.of_ext x11).trans k12, ?_⟩
    refine SemW_setAt (i := 1) cells25 (p1.ext x711 |>.keep k12 Sp) (by simp) (isS_c b12.isS.1) (isS_o b12.isS.1) fun w13 r13 k13 z13 => ⟨fun h => h.elim, ?_⟩
    (repeat with_reducible first | refine jy ?_ | (refine jT (id := 6) KL44 6 mixed (by kernel_rfl) (by kernel_rfl) (by kernel_rfl) fun _ => ?_; refine jw KL44 [5] TF44 fun _ => ?_) | refine jw KL44 [5] TF44 fun _ => ?_)
    refine Run_lp ⟨q + 1, by simp [SubB, fnd, strike, has], ⟨by omega, ?_⟩, by omega⟩
    rw [htk]
    exact P7.put1 x711 p1 p2 p3 p4 b12 k12 g12 r13 k13
  simp at h
  obtain rfl : q = of.length := by omega
  clear h
  rw [List.take_length] at P7
  have s5 := P7.s.isS.1
  have l5 := P7.s.isS.2
  (repeat with_reducible first | refine jy ?_ | (refine jT (id := 6) KL44 6 mixed (by kernel_rfl) (by kernel_rfl) (by kernel_rfl) fun _ => ?_; refine jw KL44 [5] TF44 fun _ => ?_) | refine jw KL44 [5] TF44 fun _ => ?_)
  refine Run_loopV [8, 9, 10, 56] (σ := Nat) (fun q => [(8, some (.int .i64 q))]) (fun q w' => q ≤ R.length ∧ PlW w1 pp v0 R (of.map fun r => Pl.ridx r R 0) ((R.take q).map fun r => (Pl.load l of r).covers) w') (fun q => R.length - q) 0 (by simp [SubB, fnd]) ⟨by omega, P7⟩ ?_
  rintro q w8 ⟨hq, P8⟩
  obtain ⟨v1, v2', p1, p2, p3, p4⟩ := P8.r
  have p8 := p1.n
  simp only [AtN, KS, Nat.reduceAdd, Nat.reduceMul, Nat.reduceEqDiff, ↓reduceIte, UT] at p8
  (repeat with_reducible first | refine jy ?_ | (refine jT (id := 6) KL44 6 mixed (by kernel_rfl) (by kernel_rfl) (by kernel_rfl) fun _ => ?_; refine jw KL44 [5] (aa TF44 (aa p8 (aa s5 l5))) fun _ => ?_) | refine jw KL44 [5] (aa TF44 (aa p8 (aa s5 l5))) fun _ => ?_)
  refine Run_condS (fun _ => rfl) (fun h => ?_) (fun h => ?_)
  · simp at h
    have hql : q < R.length := by omega
    have hqc : (q : Int) < R.length := by omega
    clear h
    obtain ⟨r1, r2⟩ := (P8.s.sl (by omega)).runD hql
    have htk : (R.take (q + 1)).map (fun r => (Pl.load l of r).covers) = (R.take q).map (fun r => (Pl.load l of r).covers) ++ [(Pl.load l of R[q]).covers] := by rw [List.take_add_one, List.getElem?_eq_getElem hql, List.map_append]; rfl
    have hlq : ((R.take q).map fun r => (Pl.load l of r).covers).length = q := by rw [List.length_map, List.length_take]; omega
    generalize (R.take q).map (fun r => (Pl.load l of r).covers) = C at *
    generalize R[q] = r at *
    have hlr := Pl.load_bd hcr of r
    have hcv := Pl.cov_bd hcr of r
    have hcd : (Pl.load l of r).covers = max 0 ((Pl.load l of r).c - (Pl.load l of r).n) := rfl
    simp only [RunD.cs, AtN, KS, Nat.reduceAdd, Nat.reduceMul, Nat.reduceEqDiff, ↓reduceIte, UT] at r1
    (repeat with_reducible first | refine jy ?_ | (refine jT (id := 6) KL44 6 mixed (by kernel_rfl) (by kernel_rfl) (by kernel_rfl) fun _ => ?_; refine jw KL44 [5] (aa TF44 (aa p8 (aa s5 (aa l5 r1)))) fun _ => ?_) | refine jw KL44 [5] (aa TF44 (aa p8 (aa s5 (aa l5 r1)))) fun _ => ?_)
    refine CallW_pure call49 (rfLoad vo vof l of r w8 (ho1.ext P8.e) (hof1.ext P8.e) hn hcr (by omega) r2) fun w9 x9 => ?_
    have p9 := (p1.ext x9).n
    simp only [AtN, KS, Nat.reduceAdd, Nat.reduceMul, Nat.reduceEqDiff, ↓reduceIte, UT] at p9
    have k9 := Keep.of_ext (S := fun _ => True) x9
    have hB9 : pp.block + 1 ≤ w9.heap.size := (p1.ext x9).lt
    (repeat with_reducible first | refine jy ?_ | (refine jT (id := 6) KL44 6 mixed (by kernel_rfl) (by kernel_rfl) (by kernel_rfl) fun _ => ?_; refine jw KL44 [5] (aa TF44 p9) fun _ => ?_) | refine jw KL44 [5] (aa TF44 p9) fun _ => ?_)
    rw [← hcd]
    refine SemW_append1Q (α := Int) Tryz.underlying25 ti3 rfl (by decide) (p3.keepQ k9 fun _ _ => trivial) hB9 (x := (Pl.load l of r).covers) ⟨rfl, by unfold I64; omega⟩ (by rw [hlq]; simp only [maxLen]; omega) fun _ v12 w12 b12 k12 g12 => ?_
    have Sp : some pp.block ≠ v2'.ownBlock := fun e => by have := (p3.own_lt e.symm).1; omega
    refine SemW_setAt (i := 2) cells25 ((p1.ext x9).keep k12 Sp) (by simp) (isS_c b12.isS.1) (isS_o b12.isS.1) fun w13 r13 k13 z13 => ?_
    (repeat with_reducible first | refine jy ?_ | (refine jT (id := 6) KL44 6 mixed (by kernel_rfl) (by kernel_rfl) (by kernel_rfl) fun _ => ?_; refine jw KL44 [5] TF44 fun _ => ?_) | refine jw KL44 [5] TF44 fun _ => ?_)
    refine Run_lp ⟨q + 1, by simp [SubB, fnd, strike, has], ⟨by omega, ?_⟩, by omega⟩
    rw [htk]
    exact P8.put2 x9 p1 p2 p3 p4 b12 k12 g12 r13 k13
  simp at h
  obtain rfl : q = R.length := by omega
  rw [List.take_length] at P8 p3
  (repeat with_reducible first | refine jy ?_ | (refine jT (id := 6) KL44 6 mixed (by kernel_rfl) (by kernel_rfl) (by kernel_rfl) fun _ => ?_; refine jw KL44 [5] (aa TF44 p8) fun _ => ?_) | refine jw KL44 [5] (aa TF44 p8) fun _ => ?_)
  refine SemW_setW (by rw [cells61]; decide) (by rw [cells61]; rfl) (q1.ext P8.e) (by rw [cells61]; rfl) (by simp [Value.cells, isS_o s5, isS_o p2.isS.1, isS_o p3.isS.1]) fun w9 r9 k9 z9 => ?_
  have e9 := loadVar_at (P := Tryz.prog) (t := 61) (by kernel_rfl) (by rw [cells61]; decide) (by rw [cells61]; rfl) r9.at_
  (repeat with_reducible first | refine jy ?_ | (refine jT (id := 6) KL44 6 mixed (by kernel_rfl) (by kernel_rfl) (by kernel_rfl) fun _ => ?_; refine jw KL44 [5] TF44 fun _ => ?_) | refine jw KL44 [5] TF44 fun _ => ?_)
  refine Run_ret ?_
  simp only [Rets, RetM, resV]
  refine ⟨pr, _, rfl, e9, ?_⟩
  simp only [oneOr]
  have hb := P8.b
  refine ⟨v0, v1, v2', rfl, Keep.ext (x1.trans P8.e) k9 fun k hk => by omega, ?_⟩
  refine ⟨?_, ?_, ?_⟩
  · exact (P8.s.keepQ k9 fun g hg => by have := (P8.s.own_lt hg).1; omega).sl (by omega) |> fun h => by unfold Pl.planOf; rw [hSd]; exact h
  · exact (p2.keepQ k9 fun g hg => by have := (p2.own_lt hg).1; omega).sl (by rw [List.length_map]; omega) |> fun h => by unfold Pl.planOf; rw [hSd]; exact h
  · exact (p3.keepQ k9 fun g hg => by have := (p3.own_lt hg).1; omega).sl (by rw [List.length_map]; omega) |> fun h => by unfold Pl.planOf; rw [hSd]; exact h
end Go.Proofs.YtldjfebokojmfaaGreat
