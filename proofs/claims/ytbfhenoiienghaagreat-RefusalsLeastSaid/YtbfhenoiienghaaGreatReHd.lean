import Derived.Test.YtbfhenoiienghaaGreatReHc
import Derived.Test.YtbfhenoiienghaaGreatReGs
import Derived.Test.YtbfhenoiienghaaGreatReHg
namespace Go.Fk
open Go
end Go.Fk
namespace Go.Proofs.YtbfhenoiienghaaGreat
open Go Go.Fk
set_option linter.unusedSimpArgs false
set_option linter.unusedVariables false
set_option maxRecDepth 100000
abbrev Yes23 (e : Ending) : Prop := e = .returned (.bool true)
theorem few23W {vl u0 u1 u2 vo : Value} {t : TimeD} {f : TariffD} {l : List OrderD} {w : World} {K : Value → World → Prop} (hl : Sl w vl t.Lines) (hT : TarR w f u0 u1 u2) (ho : Sl w vo l) (hK : ∀ (b : Bool) w', Ext w w' → (b = true → l.length ≤ 4) → K (.bool b) w') :
    CallW Tryz.prog (.func (.func 31) #[] #[]) [.agg #[.int .i64 t.Offices, vl], .agg #[u0, u1, u2], vo] w K :=
  CallW_gen call31 (rgFew vl u0 u1 u2 vo t f l w hl hT ho) fun e w' ⟨b, he, x, h⟩ => ⟨_, he, hK b w' x h⟩
theorem setsW {n many : Nat} {w : World} {K : Value → World → Prop} (hn : n ≤ 4) (hm : many ≤ 4) (hK : ∀ v w', Ext w w' → SetB w.heap.size w' v (Rf.setsF n 0 many) → K v w') :
    CallW Tryz.prog (.func (.func 40) #[] #[]) [.slice none 0 0, .int .i64 n, .int .i64 many] w K := by
  have h := rgSets hn many [] 0 (.slice none 0 0) w (by simpa using hm) (by omega) (fun _ => rfl) (fun h => (h rfl).elim) BufO.nil
  simp only [List.length_nil, Nat.zero_add, List.nil_append, List.map_id'] at h
  exact CallW_gen call40 h fun e w' ⟨v, he, x, hS⟩ => ⟨_, he, hK v w' x hS⟩
theorem someW {vo v : Value} {l : List OrderD} {s : List Int} {w : World} {K : Value → World → Prop} (ho : Sl w vo l) (hv : Sl w v s) (hs : ∀ x ∈ s, 0 ≤ x ∧ x < (l.length : Int)) (hn : s.length ≤ 1000) (hK : ∀ u w', Ext w w' → Sl w' u (Rf.someO l s) → K u w') :
    CallW Tryz.prog (.func (.func 41) #[] #[]) [vo, v] w K := CallW_gen call41 (rgSome vo v l s w ho hv hs hn) fun e w' ⟨u, he, x, h⟩ => ⟨_, he, hK u w' x h⟩
set_option maxHeartbeats 4000000 in
theorem lawLeast23 (vl : Value) (t : TimeD) (f : TariffD) (u0 u1 u2 vo : Value) (l : List OrderD) (covers : Int) (w : World) (hl : Sl w vl t.Lines) (hT : TarR w f u0 u1 u2) (ho : Sl w vo l) (hcv : I64 covers) :
    Calls Tryz.prog 12 #[.agg (t.cs vl).toArray, .agg (f.cs u0 u1 u2).toArray, vo, .int .i64 covers] w fun e w' => Yes23 e ∧ Ext w w' := by
  have hos := ho.s
  have hol := ho.len
  refine Calls_of_Run (args := [.agg (t.cs vl).toArray, .agg (f.cs u0 u1 u2).toArray, vo, .int .i64 covers]) (n := 151) (rs := [.tmp 8]) Tryz.func12 rfl rfl rfl (by simp) ?_
  (repeat with_reducible first | refine js ?_ | refine ja ?_ | refine jw KL12 [] TF12 fun _ => ?_)
  refine SemW_box fun pt w1 h1 => SemW_box fun pf w2 h2 => ?_
  have x2 := h1.ext.trans h2.ext
  have T : ∀ w', Ext w2 w' → AtN w' pt 0 (t.cs vl) := fun w' x => (h1.at_.ext (h2.ext.trans x)).n
  have F : ∀ w', Ext w2 w' → AtN w' pf 0 (f.cs u0 u1 u2) := fun w' x => (h2.at_.ext x).n
  simp only [TimeD.cs, TariffD.cs, AtN, KS, Nat.reduceAdd, Nat.reduceMul, Nat.reduceEqDiff, ↓reduceIte, UT] at T F
  (repeat with_reducible first | refine js ?_ | refine ja ?_ | refine jw KL12 [] TF12 fun _ => ?_)
  refine sane23W fun w5 x5 => ?_
  have y5 := x2.trans x5
  have t5 := T w5 x5
  have f5 := F w5 x5
  (repeat with_reducible first | refine js ?_ | refine ja ?_ | refine jw KL12 [] TF12 fun _ => ?_)
  refine Run_condS (fun _ => rfl) (fun h => by cases h) (fun _ => ?_)
  (repeat with_reducible first | refine js ?_ | refine ja ?_ | refine jw KL12 [] (aa TF12 (aa t5 f5)) fun _ => ?_)
  refine few23W (hl.ext y5) (hT.ext y5) (ho.ext y5) fun b w7 x7 h4 => ?_
  have y7 := y5.trans x7
  have z7 := x5.trans x7
  cases b with
  | false =>
    (repeat with_reducible first | refine js ?_ | refine ja ?_ | refine jw KL12 [] (aa TF12 KX) fun _ => ?_)
    refine Run_condS (fun _ => rfl) (fun _ => ?_) (fun h => by cases h)
    (repeat with_reducible first | refine js ?_ | refine ja ?_ | refine jw KL12 [] TF12 fun _ => ?_)
    refine Run_ret ?_
    simp [Rets, RetM, resV, fnd, oneOr, y7]
  | true =>
  have h4 := h4 rfl
  (repeat with_reducible first | refine js ?_ | refine ja ?_ | refine jw KL12 [] (aa TF12 KX) fun _ => ?_)
  refine Run_condS (fun _ => rfl) (fun h => by cases h) (fun _ => ?_)
  have t7 := T w7 z7
  have f7 := F w7 z7
  (repeat with_reducible first | refine js ?_ | refine ja ?_ | refine jw KL12 [] (aa TF12 (aa t7 f7)) fun _ => ?_)
  refine leastW (hl.ext y7) (hT.ext y7) (ho.ext y7) hcv rfl fun vc vd w8 x8 Sc hR => ?_
  generalize hq : Rf.least t f l covers = q at *
  (try simp (maxSteps := 5000000) only [KS, Nat.reduceAdd, Nat.reduceMul, Nat.reduceEqDiff, ↓reduceIte, forall_const, Int.cast_ofNat_Int, Int.reduceToNat, List.take_succ_cons, List.take_zero, List.drop_succ_cons, List.drop_zero, TF12, KL12]); (try simp (disch := omega) only [wrapI, tmodI, tdivI])
  refine ⟨by simp [tpOf], by simp [tpOf], by simp [tpOf], by simp [tpOf], ?_⟩
  refine refVar hR fun qp w9 x9 Rp => ?_
  have z9 := z7.trans (x8.trans x9)
  have y9 := x2.trans z9
  have Sc := Sc.ext x9
  have t9 := T w9 z9
  have f9 := F w9 z9
  (repeat with_reducible first | refine js ?_ | refine ja ?_ | refine jw KL12 [] (aa TF12 (aa t9 f9)) fun _ => ?_)
  refine plMakeW (hl.ext y9) (hT.ext y9) (ho.ext y9) hcv rfl fun a0 a1 a2 w10 x10 hM => ?_
  generalize hm : Pl.make t f l covers = m at *
  (try simp (maxSteps := 5000000) only [KS, Nat.reduceAdd, Nat.reduceMul, Nat.reduceEqDiff, ↓reduceIte, forall_const, Int.cast_ofNat_Int, Int.reduceToNat, List.take_succ_cons, List.take_zero, List.drop_succ_cons, List.drop_zero, TF12, KL12]); (try simp (disch := omega) only [wrapI, tmodI, tdivI])
  refine ⟨by simp [tpOf], by simp [tpOf], by simp [tpOf], ?_⟩
  refine planVar hM fun p11 w11 x11 _ => ?_
  have k911 := x10.trans x11
  have z11 := z9.trans k911
  have y11 := x2.trans z11
  have Sc := Sc.ext k911
  have Rp := Rp.ext k911
  have hLC := Rf.least_cases (t := t) (f := f) (covers := covers) h4
  rw [hq, hm] at hLC
  obtain ⟨m0, m1⟩ := m
  simp only at hLC
  have nn : IsS (.slice none 0 0) := .inl rfl
  rcases hLC with ⟨c1, rfl, rfl⟩ | ⟨c1, c2, rfl, rfl⟩ | ⟨c1, c2, rfl, core, hf, rfl⟩
  · generalize Rf.begE t f l = g at *
    have hg : (g != 0) = true := by simpa using c1
    obtain ⟨v1, n1, _, _, _, s1⟩ := Rp.n
    have scs := Sc.s
    have scl := Sc.len
    simp only [RefusalD.cs, AtN, KS, Nat.reduceAdd, Nat.reduceMul, Nat.reduceEqDiff, ↓reduceIte, UT, List.length_nil] at n1 scl
    (repeat with_reducible first | refine js ?_ | refine ja ?_ | refine jw KL12 [] (aa TF12 (aa hg KX)) fun _ => ?_)
    refine Run_condS (fun _ => rfl) (fun _ => ?_) (fun h => by simp at h)
    (repeat with_reducible first | refine js ?_ | refine ja ?_ | refine jw KL12 [] (aa TF12 (aa scs (aa scl (aa n1 KX)))) fun _ => ?_)
    refine ⟨.agg (Rf.noRef.cs (.slice none 0 0)).toArray, fun _ _ => by kernel_rfl, .inl (.inl ⟨by simp, sameW (p := Rf.noRef) s1 (Sl.nil _) fun w12 x12 => ?_⟩)⟩
    unfold hush
    (repeat with_reducible first | refine js ?_ | refine ja ?_ | refine jw KL12 [] (aa TF12 (aa scs (aa scl (aa n1 KX)))) fun _ => ?_)
    refine Run_ret ?_
    simp [Rets, RetM, resV, fnd, oneOr]
    exact y11.trans x12
  · obtain ⟨v1, n1, _, _, _, s1⟩ := Rp.n
    have scs := Sc.s
    have scl := Sc.len
    simp only [RefusalD.cs, AtN, KS, Nat.reduceAdd, Nat.reduceMul, Nat.reduceEqDiff, ↓reduceIte, UT, List.length_nil] at n1 scl
    (repeat with_reducible first | refine js ?_ | refine ja ?_ | refine jw KL12 [] (aa TF12 KX) fun _ => ?_)
    refine Run_condS (fun _ => rfl) (fun h => by cases h) (fun _ => ?_)
    (repeat with_reducible first | refine js ?_ | refine ja ?_ | refine jw KL12 [] (aa TF12 KX) fun _ => ?_)
    refine Run_condS (fun _ => rfl) (fun h => by cases h) (fun _ => ?_)
    (repeat with_reducible first | refine js ?_ | refine ja ?_ | refine jw KL12 [] (aa TF12 KX) fun _ => ?_)
    refine Run_condS (fun _ => rfl) (fun _ => ?_) (fun h => by cases h)
    (repeat with_reducible first | refine js ?_ | refine ja ?_ | refine jw KL12 [] (aa TF12 (aa scs (aa scl (aa n1 KX)))) fun _ => ?_)
    refine ⟨.agg (Rf.noRef.cs (.slice none 0 0)).toArray, fun _ _ => by kernel_rfl, .inl (.inl ⟨rfl, sameW (p := Rf.noRef) s1 (Sl.nil _) fun w12 x12 => ?_⟩)⟩
    unfold hush
    (repeat with_reducible first | refine js ?_ | refine ja ?_ | refine jw KL12 [] (aa TF12 (aa scs (aa scl (aa n1 KX)))) fun _ => ?_)
    refine Run_ret ?_
    simp [Rets, RetM, resV, fnd, oneOr]
    exact y11.trans x12
  have hcm : core ∈ Rf.allSets l.length := List.mem_of_find?_eq_some hf
  obtain ⟨hcl, hcr⟩ := Rf.allSets_mem hcm
  have scs := Sc.s
  have scl := Sc.len
  simp only at Sc scl scs
  (repeat with_reducible first | refine js ?_ | refine ja ?_ | refine jw KL12 [] (aa TF12 KX) fun _ => ?_)
  refine Run_condS (fun _ => rfl) (fun h => by cases h) (fun _ => ?_)
  (repeat with_reducible first | refine js ?_ | refine ja ?_ | refine jw KL12 [] (aa TF12 KX) fun _ => ?_)
  refine Run_condS (fun _ => rfl) (fun h => by cases h) (fun _ => ?_)
  (repeat with_reducible first | refine js ?_ | refine ja ?_ | refine jw KL12 [] (aa TF12 KX) fun _ => ?_)
  refine Run_condS (fun _ => rfl) (fun h => by cases h) (fun _ => ?_)
  (repeat with_reducible first | refine js ?_ | refine ja ?_ | refine jw KL12 [] (aa TF12 (aa scs (aa scl (aa hos (aa hol KX))))) fun _ => ?_)
  refine Run_condS (fun _ => rfl) (fun h => by simp at h; omega) (fun _ => ?_)
  (repeat with_reducible first | refine js ?_ | refine ja ?_ | refine jw KL12 [] TF12 fun _ => ?_)
  refine Run_loopV [8, 16, 17, 18, 19, 21, 22, 23, 24, 95, 105, 124, 130, 150] (σ := Nat) (fun m => [(16, some (.int .i64 m)), (8, some (.bool false))]) (fun m w' => m ≤ core.length + 1 ∧ Ext w11 w' ∧ ∃ pre, Rf.allSets l.length = pre ++ Rf.restSets l.length m ∧ core ∉ pre) (fun m => core.length + 1 - m) 0 (by simp [SubB, fnd]) ⟨by omega, Ext.refl _, [], by rw [Rf.restSets_zero]; rfl, by simp⟩ ?_
  rintro m w12 ⟨hm1, x12, pre, hpre, hcp⟩
  (repeat with_reducible first | refine js ?_ | refine ja ?_ | refine jw KL12 [] (aa TF12 (aa scs scl)) fun _ => ?_)
  refine Run_condS (fun _ => rfl) (fun h => ?_) (fun h => ?_)
  · simp at h
    have hmc : m ≤ core.length := by omega
    clear h
    (repeat with_reducible first | refine js ?_ | refine ja ?_ | refine jw KL12 [] (aa TF12 (aa hos hol)) fun _ => ?_)
    refine setsW (n := l.length) h4 (many := m) (by omega) fun vS w13 x13 hSB => ?_
    have y13 := x12.trans x13
    have hpre2 := hpre
    rw [Rf.restSets_succ (show m ≤ l.length by omega)] at hpre2
    have hSm : ∀ s ∈ Rf.setsF l.length 0 m, s.length ≤ 4 ∧ ∀ x ∈ s, 0 ≤ x ∧ x < (l.length : Int) := fun s hs => by
      obtain ⟨q1, q2, q3⟩ := Rf.setsF_mem hs
      exact ⟨by omega, fun x hx => by have := q2 x hx; omega⟩
    have hS16 := Rf.setsF_16 h4 0 m
    have hS := hSB.sl (by omega) (fun s hs => by have := (hSm s hs).1; omega)
    generalize Rf.setsF l.length 0 m = SS at *
    have hSs := hS.s
    have hSl := hS.len
    (repeat with_reducible first | refine js ?_ | refine ja ?_ | refine jw KL12 [] TF12 fun _ => ?_)
    refine Run_loopV [8, 18, 19, 21, 22, 23, 24, 105, 124, 130, 150] (σ := Nat) (fun i => [(18, some (.int .i64 i)), (8, some (.bool false))]) (fun i w' => i ≤ SS.length ∧ Ext w13 w' ∧ core ∉ pre ++ SS.take i) (fun i => SS.length - i) 0 (by simp [SubB, fnd]) ⟨by omega, Ext.refl _, by simpa using hcp⟩ ?_
    rintro i w14 ⟨hi, x14, hcn⟩
    (repeat with_reducible first | refine js ?_ | refine ja ?_ | refine jw KL12 [] (aa TF12 (aa hSs hSl)) fun _ => ?_)
    refine Run_condS (fun _ => rfl) (fun h => ?_) (fun h => ?_)
    · simp at h
      have hil : i < SS.length := by omega
      have hilc : (i : Int) < SS.length := by omega
      clear h
      obtain ⟨_, ⟨vk, rfl, hk⟩, ha⟩ := (hS.ext x14).at_ i hil
      have hak := ha.n
      simp only [AtN, KS, Nat.reduceAdd, Nat.reduceMul, Nat.reduceEqDiff, ↓reduceIte, UT] at hak
      have hak : has1 w14 ((slAt vS).add i) ∧ mem w14 ((slAt vS).add i) = vk := by simpa [show Enc.n (List Int) = 1 from rfl] using hak
      have hks := hk.s
      (repeat with_reducible first | refine js ?_ | refine ja ?_ | refine jw KL12 [] (aa TF12 (aa hSs (aa hSl (aa hak hks)))) fun _ => ?_)
      have hsm := hSm _ (List.getElem_mem hil)
      have hdec : Rf.allSets l.length = (pre ++ SS.take i) ++ SS[i] :: (SS.drop (i + 1) ++ Rf.restSets l.length (m + 1)) := by
        rw [hpre2]
        simp only [List.append_assoc]
        congr 1
        rw [← List.cons_append, ← List.append_assoc, List.getElem_cons_drop, List.take_append_drop]
      have htk : core ≠ SS[i] → core ∉ pre ++ SS.take (i + 1) := fun hne hm => by
        rw [List.take_succ_eq_append_getElem hil, ← List.append_assoc] at hm
        rcases List.mem_append.1 hm with hm | hm
        · exact hcn hm
        · exact hne (List.mem_singleton.1 hm)
      have hbc := fun hne : SS[i] ≠ core => Rf.before_core (p := Rf.noSet t f l covers) (by rw [← hdec]; exact hf) hcn hne
      generalize SS[i] = s at *
      have y14 := y11.trans (y13.trans x14)
      obtain ⟨hse, hso⟩ := Rf.some_ok c1 c2 hsm.2 (by omega)
      refine someW (ho.ext y14) hk hsm.2 (by omega) fun vx w15 x15 Sx => ?_
      have z15 := z11.trans ((y13.trans x14).trans x15)
      have y15 := y14.trans x15
      have t15 := T w15 z15
      have f15 := F w15 z15
      (repeat with_reducible first | refine js ?_ | refine ja ?_ | refine jw KL12 [] (aa TF12 (aa t15 f15)) fun _ => ?_)
      have hm0 := (Rf.make_ok (covers := covers) hse hso).1
      have hns : Rf.noSet t f l covers s = !(Pl.make t f (Rf.someO l s) covers).2.1 := rfl
      refine plMakeW (hl.ext y15) (hT.ext y15) Sx hcv rfl fun b0 b1 b2 w16 x16 hM2 => ?_
      have hcore := Rf.core_right (covers := covers) hse hso
      generalize hmm : Pl.make t f (Rf.someO l s) covers = mm at *
      (try simp (maxSteps := 5000000) only [KS, Nat.reduceAdd, Nat.reduceMul, Nat.reduceEqDiff, ↓reduceIte, forall_const, Int.cast_ofNat_Int, Int.reduceToNat, List.take_succ_cons, List.take_zero, List.drop_succ_cons, List.drop_zero, TF12, KL12]); (try simp (disch := omega) only [wrapI, tmodI, tdivI])
      refine ⟨by simp [tpOf], by simp [tpOf], by simp [tpOf], ?_⟩
      refine planVar hM2 fun p17 w17 x17 _ => ?_
      have x1517 := x16.trans x17
      obtain ⟨mp, mf, me⟩ := mm
      simp only at hm0
      subst hm0
      (repeat with_reducible first | refine js ?_ | refine ja ?_ | refine jw KL12 [] (aa TF12 KX) fun _ => ?_)
      refine Run_condS (fun _ => rfl) (fun h => by cases h) (fun _ => ?_)
      have hak17 := (ha.ext (x15.trans x1517)).n
      simp only [AtN, KS, Nat.reduceAdd, Nat.reduceMul, Nat.reduceEqDiff, ↓reduceIte, UT] at hak17
      have hak17 : has1 w17 ((slAt vS).add i) ∧ mem w17 ((slAt vS).add i) = vk := by simpa [show Enc.n (List Int) = 1 from rfl] using hak17
      (repeat with_reducible first | refine js ?_ | refine ja ?_ | refine jw KL12 [] (aa TF12 (aa hSs (aa hSl (aa hak17 hks)))) fun _ => ?_)
      have x1117 := (y13.trans x14).trans (x15.trans x1517)
      refine CallW_pure call34 (rgSameInts vk vc s core w17 (hk.ext (x15.trans x1517)) (Sc.ext x1117)) fun w18 x18 => ?_
      have x1118 := x1117.trans x18
      (repeat with_reducible first | refine js ?_ | refine ja ?_ | refine jw KL12 [] TF12 fun _ => ?_)
      refine Run_condS (fun _ => rfl) (fun h => ?_) (fun h => ?_)
      · have hsc : s = core := by simpa using h
        clear h
        subst hsc
        have hfm := List.find?_some hf
        have hmf : mf = false := by
          rw [hns] at hfm
          simpa using hfm
        subst hmf
        have hcr2 := hcore rfl
        obtain ⟨v1, n1, i1, i2, i3, s1⟩ := (Rp.ext x1118).n
        have t18 := T w18 (z11.trans x1118)
        have f18 := F w18 (z11.trans x1118)
        simp only [RefusalD.cs, AtN, KS, Nat.reduceAdd, Nat.reduceMul, Nat.reduceEqDiff, ↓reduceIte, UT] at n1
        (repeat with_reducible first | refine js ?_ | refine ja ?_ | refine jw KL12 [] (aa TF12 (aa t18 (aa f18 n1))) fun _ => ?_)
        refine checkW (hl.ext (y11.trans x1118)) (hT.ext (y11.trans x1118)) (Sx.ext (x1517.trans x18)) i1 i2 i3 s1 (covers := covers) hcr2 fun w19 x19 => ?_
        (try simp (maxSteps := 5000000) only [KS, Nat.reduceAdd, Nat.reduceMul, Nat.reduceEqDiff, ↓reduceIte, forall_const, Int.cast_ofNat_Int, Int.reduceToNat, List.take_succ_cons, List.take_zero, List.drop_succ_cons, List.drop_zero, TF12, KL12]); (try simp (disch := omega) only [wrapI, tmodI, tdivI])
        refine ⟨by simp [tpOf], by simp [tpOf], ?_⟩
        (repeat with_reducible first | refine js ?_ | refine ja ?_ | refine jw KL12 [] (aa TF12 KX) fun _ => ?_)
        refine Run_ret ?_
        simp [Rets, RetM, resV, fnd, oneOr]
        exact y11.trans (x1118.trans x19)
      · have hne : s ≠ core := by simpa using h
        clear h
        have := hbc hne
        have hmf : mf = true := by
          rw [hns] at this
          simpa using this
        subst hmf
        (repeat with_reducible first | refine js ?_ | refine ja ?_ | refine jw KL12 [] (aa TF12 KX) fun _ => ?_)
        refine Run_condS (fun _ => rfl) (fun h => by cases h) (fun _ => ?_)
        (repeat with_reducible first | refine js ?_ | refine ja ?_ | refine jw KL12 [] TF12 fun _ => ?_)
        exact Run_lp ⟨i + 1, by simp [SubB, fnd, strike, has], ⟨by omega, x14.trans ((x15.trans x1517).trans x18), htk (Ne.symm hne)⟩, by omega⟩
    simp at h
    obtain rfl : i = SS.length := by omega
    clear h
    rw [List.take_length] at hcn
    (repeat with_reducible first | refine js ?_ | refine ja ?_ | refine jw KL12 [] TF12 fun _ => ?_)
    exact Run_lp ⟨m + 1, by simp [SubB, fnd, strike, has], ⟨by omega, y13.trans x14, pre ++ SS, by rw [hpre2, List.append_assoc], hcn⟩, by omega⟩
  simp at h
  exfalso
  obtain rfl : m = core.length + 1 := by omega
  have h1 := hcm
  rw [hpre] at h1
  rcases List.mem_append.1 h1 with h1 | h1
  · exact hcp h1
  · unfold Rf.restSets at h1
    obtain ⟨k, hk, hs⟩ := List.mem_flatMap.1 h1
    rw [List.mem_range'_1] at hk
    obtain ⟨q1, _⟩ := Rf.setsF_mem hs
    omega
end Go.Proofs.YtbfhenoiienghaaGreat
