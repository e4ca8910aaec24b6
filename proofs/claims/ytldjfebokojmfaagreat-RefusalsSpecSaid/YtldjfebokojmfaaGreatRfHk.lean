import Derived.Test.YtldjfebokojmfaaGreatRfHc
import Derived.Test.YtldjfebokojmfaaGreatRfGs
import Derived.Test.YtldjfebokojmfaaGreatRfHi
import Derived.Test.YtldjfebokojmfaaGreatRfHg
import Derived.Test.YtldjfebokojmfaaGreatRfGu
namespace Go.Fk
open Go
end Go.Fk
namespace Go.Proofs.YtldjfebokojmfaaGreat
open Go Go.Fk
set_option linter.unusedSimpArgs false
set_option linter.unusedVariables false
set_option maxRecDepth 100000
abbrev Yes23 (e : Ending) : Prop := e = .returned (.bool true)
theorem few23W {vl u0 u1 u2 vo : Value} {t : TimeD} {f : TariffD} {l : List OrderD} {w : World} {K : Value → World → Prop} (hl : Sl w vl t.Lines) (hT : TarR w f u0 u1 u2) (ho : Sl w vo l) (hK : ∀ (b : Bool) w', Ext w w' → (b = true → l.length ≤ 4) → K (.bool b) w') :
    CallW Tryz.prog (.func (.func 6) #[] #[]) [.agg #[.int .i64 t.Offices, vl], .agg #[u0, u1, u2], vo] w K :=
  CallW_gen call6 (rgFew vl u0 u1 u2 vo t f l w hl hT ho) fun e w' ⟨b, he, x, h⟩ => ⟨_, he, hK b w' x h⟩
end Go.Proofs.YtldjfebokojmfaaGreat
namespace Go.Fk
open Go
theorem BufO.neRow {α : Type} [Enc α] {e T : TypeId} {B : Nat} {w : World} {v : Value} {xs : List α} {p : Addr} {vs : List Value} (h : BufO e B w v xs) (r : Row w p T vs) (hne : e ≠ T) (hx : xs ≠ []) : (slAt v).block ≠ p.block := by
  obtain ⟨css, hc, hb⟩ := h.ex
  rcases hb.2 with ⟨rfl, h2⟩ | ⟨g, cap, cur, rfl, hbs, hg, h1, h2, h3⟩
  · exact (hx (List.eq_nil_of_length_eq_zero h2)).elim
  · intro e'
    have e2 : g = p.block := e'
    rw [e2, r.heap] at hg
    injection hg with hg
    injection hg with _ hg
    exact hne hg.symm
end Go.Fk
namespace Go.Proofs.YtldjfebokojmfaaGreat
open Go Go.Fk
set_option linter.unusedSimpArgs false
set_option linter.unusedVariables false
set_option maxRecDepth 100000
theorem setsW23 {n many : Nat} {w : World} {K : Value → World → Prop} (hn : n ≤ 4) (hm : many ≤ 4) (hK : ∀ v w', Ext w w' → SetB w.heap.size w' v (Rf.setsF n 0 many) → K v w') :
    CallW Tryz.prog (.func (.func 23) #[] #[]) [.slice none 0 0, .int .i64 n, .int .i64 many] w K := by
  have h := rgSets hn many [] 0 (.slice none 0 0) w (by simpa using hm) (by omega) (fun _ => rfl) (fun h => (h rfl).elim) BufO.nil
  simp only [List.length_nil, Nat.zero_add, List.nil_append, List.map_id'] at h
  exact CallW_gen call23 h fun e w' ⟨v, he, x, hS⟩ => ⟨_, he, hK v w' x hS⟩
theorem SetB.get {B : Nat} {w : World} {v : Value} {S : List (List Int)} (h : SetB B w v S) (hn : S.length ≤ 100000000) {i : Nat} (hi : i < S.length) : ∃ vk, At w ((slAt v).add i) [vk] ∧ BufO (α := Int) 3 0 w vk S[i] := by
  obtain ⟨rs, a, b, c⟩ := h.ex
  have hi2 : i < rs.length := by omega
  obtain ⟨cs, hr, ha⟩ := (a.sl (by omega)).at_ i hi2
  obtain ⟨rfl, hs⟩ := hr
  exact ⟨rs[i].v, by simpa [show Enc.n RawS = 1 from rfl] using ha, c i hi2 hi⟩
theorem someW23 {vo v : Value} {l : List OrderD} {s : List Int} {w : World} {K : Value → World → Prop} (ho : Sl w vo l) (hv : Sl w v s) (hs : ∀ x ∈ s, 0 ≤ x ∧ x < (l.length : Int)) (hn : s.length ≤ 1000) (hK : ∀ u w', Ext w w' → Sl w' u (Rf.someO l s) → K u w') :
    CallW Tryz.prog (.func (.func 24) #[] #[]) [vo, v] w K := CallW_gen call24 (rgSome vo v l s w ho hv hs hn) fun e w' ⟨u, he, x, h⟩ => ⟨_, he, hK u w' x h⟩
theorem obRun {t : TimeD} {f : TariffD} {l : List OrderD} (he : Pl.err t f l = 0) (ho : Pl.optsE t f l = 0) : ∀ o ∈ Pl.optsOf t f l, o.length ≤ 100000000 ∧ ∀ r ∈ o, Tt.isRun t r = true := fun o h => by
  have K := Pl.opts_okk ho
  refine ⟨((sok he ho).ob o h).1, fun r hr => ?_⟩
  obtain ⟨k, hk, rfl⟩ := List.getElem_of_mem h
  have hk2 : k < l.length := by rw [← K.n]; exact hk
  exact (K.m k hk2 r (by rw [List.getD_eq_getElem?_getD, List.getElem?_eq_getElem hk]; exact hr)).1
set_option maxHeartbeats 8000000 in
theorem rgLeast (vl u0 u1 u2 vo : Value) (t : TimeD) (f : TariffD) (l : List OrderD) (covers : Int) (w : World) (hl : Sl w vl t.Lines) (hT : TarR w f u0 u1 u2) (ho : Sl w vo l) (h4 : l.length ≤ 4) :
    Calls Tryz.prog 8 #[.agg (t.cs vl).toArray, .agg (f.cs u0 u1 u2).toArray, vo, .int .i64 covers] w fun e w' => ∃ vc v, e = .returned (.tuple #[vc, .agg ((Rf.least t f l covers).2.1.cs v).toArray, .bool (Rf.least t f l covers).2.2.1, .int .i64 (Rf.least t f l covers).2.2.2]) ∧ Ext w w' ∧ Sl w' vc (Rf.least t f l covers).1 ∧ RefR (fun _ => True) w' ((Rf.least t f l covers).2.1.cs v) (Rf.least t f l covers).2.1 := by
  have hos := ho.s
  have hol := ho.len
  have nn : IsS (.slice none 0 0) := .inl rfl
  refine Calls_of_Run (args := [.agg (t.cs vl).toArray, .agg (f.cs u0 u1 u2).toArray, vo, .int .i64 covers]) (n := 101) (rs := [.tmp 8, .cell 9 36, .tmp 10, .tmp 11]) Tryz.func8 rfl rfl rfl (by simp) ?_
  (repeat with_reducible first | refine jy ?_ | (refine jT (id := 20) KL8 8 mixed (by kernel_rfl) (by kernel_rfl) (by kernel_rfl) fun _ => ?_; refine jw KL8 [] TF8 fun _ => ?_) | refine jw KL8 [] TF8 fun _ => ?_)
  refine SemW_box fun pt w1 h1 => SemW_box fun pf w2 h2 => SemW_allocT ti36 fun pp w3 h3 => ?_
  have x2 := h1.ext.trans h2.ext
  have x3 := x2.trans h3.ext
  have b3 := h3.blk
  have s2 := x2.size
  have s3 := h3.size
  have T : ∀ w', Ext w2 w' → AtN w' pt 0 (t.cs vl) := fun w' x => (h1.at_.ext (h2.ext.trans x)).n
  have F : ∀ w', Ext w2 w' → AtN w' pf 0 (f.cs u0 u1 u2) := fun w' x => (h2.at_.ext x).n
  simp only [TimeD.cs, TariffD.cs, AtN, KS, Nat.reduceAdd, Nat.reduceMul, Nat.reduceEqDiff, ↓reduceIte, UT] at T F
  have t3 := T w3 h3.ext
  have f3 := F w3 h3.ext
  have R3 : Row w3 pp 36 (Rf.noRef.cs (.slice none 0 0)) := h3.row
  (repeat with_reducible first | refine jy ?_ | (refine jT (id := 20) KL8 8 mixed (by kernel_rfl) (by kernel_rfl) (by kernel_rfl) fun _ => ?_; refine jw KL8 [] (aa TF8 (aa t3 f3)) fun _ => ?_) | refine jw KL8 [] (aa TF8 (aa t3 f3)) fun _ => ?_)
  refine CallW_gen call21 (rgOptions vl u0 u1 u2 vo t f l w3 (hl.ext x3) (hT.ext x3) (ho.ext x3)) fun e w4 ⟨vO, he, x4, hO⟩ => ⟨_, he, ?_⟩
  have y4 := x3.trans x4
  have R4 := R3.ext x4
  have hLC := Rf.least_cases (t := t) (f := f) (covers := covers) h4
  (repeat with_reducible first | refine jy ?_ | (refine jT (id := 20) KL8 8 mixed (by kernel_rfl) (by kernel_rfl) (by kernel_rfl) fun _ => ?_; refine jw KL8 [] TF8 fun _ => ?_) | refine jw KL8 [] TF8 fun _ => ?_)
  refine Run_condS (fun _ => rfl) (fun h => ?_) (fun h => ?_)
  · have hne : Rf.begE t f l ≠ 0 := by simpa using h
    clear h
    rcases hLC with ⟨c1, c2, _⟩ | ⟨c1, c2, _⟩ | ⟨c1, c2, _⟩
    · rw [c2]
      (repeat with_reducible first | refine jy ?_ | (refine jT (id := 20) KL8 8 mixed (by kernel_rfl) (by kernel_rfl) (by kernel_rfl) fun _ => ?_; refine jw KL8 [] TF8 fun _ => ?_) | refine jw KL8 [] TF8 fun _ => ?_)
      refine ⟨.agg (Rf.noRef.cs (.slice none 0 0)).toArray, fun _ => by kernel_rfl, ?_⟩
      refine SemW_setW (by rw [cells36]; decide) (by rw [cells36]; rfl) R4 (by rw [cells36]; rfl) (by simpa [Value.cells] using refOne (x := Rf.noRef) nn) fun wz rz kz zz => ?_
      have rz : Row wz pp 36 (Rf.noRef.cs (.slice none 0 0)) := rz
      (repeat with_reducible first | refine jy ?_ | (refine jT (id := 20) KL8 8 mixed (by kernel_rfl) (by kernel_rfl) (by kernel_rfl) fun _ => ?_; refine jw KL8 [] TF8 fun _ => ?_) | refine jw KL8 [] TF8 fun _ => ?_)
      refine Run_ret ?_
      simp only [Rets, RetM, resV, fnd, oneOr, ↓reduceIte, KS, Nat.reduceAdd, Nat.reduceMul, Nat.reduceEqDiff, ↓reduceIte, UT]
      exact ⟨_, rfl, pp, _, rfl, lsP rz, _, rfl, _, rfl, _, _, rfl, Keep.ext y4 kz fun b hb => by omega, Sl.nil _, leafNo⟩
    · exact (hne (by unfold Rf.begE; rw [if_neg (by simp [c1]), c2])).elim
    · exact (hne (by unfold Rf.begE; rw [if_neg (by simp [c1]), c2])).elim
  have hb0 : Rf.begE t f l = 0 := by simpa using h
  clear h
  (repeat with_reducible first | refine jy ?_ | (refine jT (id := 20) KL8 8 mixed (by kernel_rfl) (by kernel_rfl) (by kernel_rfl) fun _ => ?_; refine jw KL8 [] (aa TF8 (aa hos hol)) fun _ => ?_) | refine jw KL8 [] (aa TF8 (aa hos hol)) fun _ => ?_)
  refine Run_condS (fun _ => rfl) (fun h => by simp at h; omega) (fun _ => ?_)
  have t4 := T w4 (h3.ext.trans x4)
  have f4 := F w4 (h3.ext.trans x4)
  (repeat with_reducible first | refine jy ?_ | (refine jT (id := 20) KL8 8 mixed (by kernel_rfl) (by kernel_rfl) (by kernel_rfl) fun _ => ?_; refine jw KL8 [] (aa TF8 (aa t4 f4)) fun _ => ?_) | refine jw KL8 [] (aa TF8 (aa t4 f4)) fun _ => ?_)
  refine rMakeW (hl.ext y4) (hT.ext y4) (ho.ext y4) fun a0 a1 a2 w5 x5 hM => ?_
  generalize hm : Pl.make t f l covers = m at *
  (try simp (maxSteps := 5000000) only [KS, Nat.reduceAdd, Nat.reduceMul, Nat.reduceEqDiff, ↓reduceIte, forall_const, Int.cast_ofNat_Int, Int.reduceToNat, List.take_succ_cons, List.take_zero, List.drop_succ_cons, List.drop_zero, TF8, KL8]); (try simp (disch := omega) only [wrapI, tmodI, tdivI])
  refine ⟨by simp [tpOf], by simp [tpOf], by simp [tpOf], ?_⟩
  refine planVar hM fun p6 w6 x6 _ => ?_
  have x36 := x4.trans (x5.trans x6)
  have y6 := x3.trans x36
  have R6 := R3.ext x36
  (repeat with_reducible first | refine jy ?_ | (refine jT (id := 20) KL8 8 mixed (by kernel_rfl) (by kernel_rfl) (by kernel_rfl) fun _ => ?_; refine jw KL8 [] TF8 fun _ => ?_) | refine jw KL8 [] TF8 fun _ => ?_)
  rcases hLC with ⟨c1, _⟩ | ⟨c1, c2, c3, c4⟩ | ⟨c1, c2, c4, core, hf, c3⟩
  · exact (c1 hb0).elim
  · obtain ⟨m0, m1⟩ := m
    simp only at c4
    subst c4
    refine Run_condS (fun _ => rfl) (fun _ => ?_) (fun h => by cases h)
    rw [c3]
    (repeat with_reducible first | refine jy ?_ | (refine jT (id := 20) KL8 8 mixed (by kernel_rfl) (by kernel_rfl) (by kernel_rfl) fun _ => ?_; refine jw KL8 [] TF8 fun _ => ?_) | refine jw KL8 [] TF8 fun _ => ?_)
    refine ⟨.agg (Rf.noRef.cs (.slice none 0 0)).toArray, fun _ => by kernel_rfl, ?_⟩
    refine SemW_setW (by rw [cells36]; decide) (by rw [cells36]; rfl) R6 (by rw [cells36]; rfl) (by simpa [Value.cells] using refOne (x := Rf.noRef) nn) fun wz rz kz zz => ?_
    have rz : Row wz pp 36 (Rf.noRef.cs (.slice none 0 0)) := rz
    (repeat with_reducible first | refine jy ?_ | (refine jT (id := 20) KL8 8 mixed (by kernel_rfl) (by kernel_rfl) (by kernel_rfl) fun _ => ?_; refine jw KL8 [] TF8 fun _ => ?_) | refine jw KL8 [] TF8 fun _ => ?_)
    refine Run_ret ?_
    simp only [Rets, RetM, resV, fnd, oneOr, ↓reduceIte, KS, Nat.reduceAdd, Nat.reduceMul, Nat.reduceEqDiff, ↓reduceIte, UT]
    exact ⟨_, rfl, pp, _, rfl, lsP rz, _, rfl, _, rfl, _, _, rfl, Keep.ext y6 kz fun b hb => by omega, Sl.nil _, leafNo⟩
  obtain ⟨m0, m1⟩ := m
  simp only at c4
  subst c4
  refine Run_condS (fun _ => rfl) (fun h => by cases h) (fun _ => ?_)
  have hcm : core ∈ Rf.allSets l.length := List.mem_of_find?_eq_some hf
  rw [c3]
  (repeat with_reducible first | refine jy ?_ | (refine jT (id := 20) KL8 8 mixed (by kernel_rfl) (by kernel_rfl) (by kernel_rfl) fun _ => ?_; refine jw KL8 [] TF8 fun _ => ?_) | refine jw KL8 [] TF8 fun _ => ?_)
  refine Run_loopV [8, 10, 11, 17, 18, 19, 20, 22, 24, 55, 65, 84] (σ := Nat) (fun m => [(17, some (.int .i64 m)), (8, some (.slice none 0 0)), (10, some (.bool false)), (11, some (.int .i64 0))]) (fun m w' => m ≤ l.length + 1 ∧ Ext w6 w' ∧ ∃ pre, Rf.allSets l.length = pre ++ Rf.restSets l.length m ∧ core ∉ pre) (fun m => l.length + 1 - m) 0 (by simp [SubB, fnd]) ⟨by omega, Ext.refl _, [], by rw [Rf.restSets_zero]; rfl, by simp⟩ ?_
  rintro m w12 ⟨hm1, x12, pre, hpre, hcp⟩
  (repeat with_reducible first | refine jy ?_ | (refine jT (id := 20) KL8 8 mixed (by kernel_rfl) (by kernel_rfl) (by kernel_rfl) fun _ => ?_; refine jw KL8 [] (aa TF8 (aa hos hol)) fun _ => ?_) | refine jw KL8 [] (aa TF8 (aa hos hol)) fun _ => ?_)
  refine Run_condS (fun _ => rfl) (fun h => ?_) (fun h => ?_)
  · simp at h
    have hmc : m ≤ l.length := by omega
    clear h
    (repeat with_reducible first | refine jy ?_ | (refine jT (id := 20) KL8 8 mixed (by kernel_rfl) (by kernel_rfl) (by kernel_rfl) fun _ => ?_; refine jw KL8 [] (aa TF8 (aa hos hol)) fun _ => ?_) | refine jw KL8 [] (aa TF8 (aa hos hol)) fun _ => ?_)
    refine setsW23 (n := l.length) h4 (many := m) (by omega) fun vS w13 x13 hSB => ?_
    have y13 := x12.trans x13
    have hpre2 := hpre
    rw [Rf.restSets_succ (show m ≤ l.length by omega)] at hpre2
    have hSm : ∀ s ∈ Rf.setsF l.length 0 m, s.length ≤ 4 ∧ ∀ x ∈ s, 0 ≤ x ∧ x < (l.length : Int) := fun s hs => by
      obtain ⟨q1, q2, q3⟩ := Rf.setsF_mem hs
      exact ⟨by omega, fun x hx => by have := q2 x hx; omega⟩
    have hS16 := Rf.setsF_16 h4 0 m
    have hS := hSB.sl (by omega) (fun s hs => by have := (hSm s hs).1; omega)
    generalize Rf.setsF l.length 0 m = SS at *
    have hSs := hS.s
    have hSl := hS.len
    (repeat with_reducible first | refine jy ?_ | (refine jT (id := 20) KL8 8 mixed (by kernel_rfl) (by kernel_rfl) (by kernel_rfl) fun _ => ?_; refine jw KL8 [] TF8 fun _ => ?_) | refine jw KL8 [] TF8 fun _ => ?_)
    refine Run_loopV [8, 10, 11, 19, 20, 22, 24, 65, 84] (σ := Nat) (fun i => [(19, some (.int .i64 i)), (8, some (.slice none 0 0)), (10, some (.bool false)), (11, some (.int .i64 0))]) (fun i w' => i ≤ SS.length ∧ Ext w13 w' ∧ core ∉ pre ++ SS.take i) (fun i => SS.length - i) 0 (by simp [SubB, fnd]) ⟨by omega, Ext.refl _, by simpa using hcp⟩ ?_
    rintro i w14 ⟨hi, x14, hcn⟩
    (repeat with_reducible first | refine jy ?_ | (refine jT (id := 20) KL8 8 mixed (by kernel_rfl) (by kernel_rfl) (by kernel_rfl) fun _ => ?_; refine jw KL8 [] (aa TF8 (aa hSs hSl)) fun _ => ?_) | refine jw KL8 [] (aa TF8 (aa hSs hSl)) fun _ => ?_)
    refine Run_condS (fun _ => rfl) (fun h => ?_) (fun h => ?_)
    · simp at h
      have hil : i < SS.length := by omega
      have hilc : (i : Int) < SS.length := by omega
      clear h
      obtain ⟨vk, ha, hbk⟩ := (hSB.ext x14).get (by omega) hil
      have hk := hbk.sl (by have := (hSm _ (List.getElem_mem hil)).1; omega)
      have hak := ha.n
      simp only [AtN, KS, Nat.reduceAdd, Nat.reduceMul, Nat.reduceEqDiff, ↓reduceIte, UT] at hak
      have hks := hk.s
      (repeat with_reducible first | refine jy ?_ | (refine jT (id := 20) KL8 8 mixed (by kernel_rfl) (by kernel_rfl) (by kernel_rfl) fun _ => ?_; refine jw KL8 [] (aa TF8 (aa hSs (aa hSl (aa hak hks)))) fun _ => ?_) | refine jw KL8 [] (aa TF8 (aa hSs (aa hSl (aa hak hks)))) fun _ => ?_)
      have hsm := hSm _ (List.getElem_mem hil)
      have hdec : Rf.allSets l.length = (pre ++ SS.take i) ++ SS[i] :: (SS.drop (i + 1) ++ Rf.restSets l.length (m + 1)) := by
        rw [hpre2]
        simp only [List.append_assoc]
        congr 1
        rw [← List.cons_append, ← List.append_assoc, List.getElem_cons_drop, List.take_append_drop]
      have htk : core ≠ SS[i] → core ∉ pre ++ SS.take (i + 1) := fun hne hm => by
        rw [List.take_succ_eq_append_getElem hil, ← List.append_assoc] at hm
        rcases List.mem_append.1 hm with hm | hm
        · exact hcn hm
        · exact hne (List.mem_singleton.1 hm)
      have hbc := fun hne : SS[i] ≠ core => Rf.before_core (p := Rf.noSet t f l covers) (by rw [← hdec]; exact hf) hcn hne
      generalize SS[i] = s at *
      have y14 := y6.trans (y13.trans x14)
      obtain ⟨hse, hso⟩ := Rf.some_ok c1 c2 hsm.2 (by omega)
      refine someW23 (ho.ext y14) hk hsm.2 (by omega) fun vx w15 x15 Sx => ?_
      have z15 : Ext w2 w15 := h3.ext.trans (x36.trans ((y13.trans x14).trans x15))
      have y15 := y14.trans x15
      have t15 := T w15 z15
      have f15 := F w15 z15
      (repeat with_reducible first | refine jy ?_ | (refine jT (id := 20) KL8 8 mixed (by kernel_rfl) (by kernel_rfl) (by kernel_rfl) fun _ => ?_; refine jw KL8 [] (aa TF8 (aa t15 f15)) fun _ => ?_) | refine jw KL8 [] (aa TF8 (aa t15 f15)) fun _ => ?_)
      have hm0 := (Rf.make_ok (covers := covers) hse hso).1
      have hns : Rf.noSet t f l covers s = !(Pl.make t f (Rf.someO l s) covers).2.1 := rfl
      refine rMakeW (hl.ext y15) (hT.ext y15) Sx fun b0 b1 b2 w16 x16 hM2 => ?_
      generalize hmm : Pl.make t f (Rf.someO l s) covers = mm at *
      (try simp (maxSteps := 5000000) only [KS, Nat.reduceAdd, Nat.reduceMul, Nat.reduceEqDiff, ↓reduceIte, forall_const, Int.cast_ofNat_Int, Int.reduceToNat, List.take_succ_cons, List.take_zero, List.drop_succ_cons, List.drop_zero, TF8, KL8]); (try simp (disch := omega) only [wrapI, tmodI, tdivI])
      refine ⟨by simp [tpOf], by simp [tpOf], by simp [tpOf], ?_⟩
      refine planVar hM2 fun p17 w17 x17 _ => ?_
      have x1517 := x16.trans x17
      obtain ⟨mp, mf, me⟩ := mm
      simp only at hm0 hns
      subst hm0
      (repeat with_reducible first | refine jy ?_ | (refine jT (id := 20) KL8 8 mixed (by kernel_rfl) (by kernel_rfl) (by kernel_rfl) fun _ => ?_; refine jw KL8 [] (aa TF8 KX) fun _ => ?_) | refine jw KL8 [] (aa TF8 KX) fun _ => ?_)
      cases mf with
      | true =>
        have hne : core ≠ s := fun e => by
          have := List.find?_some hf
          rw [e, hns] at this
          cases this
        refine Run_condS (fun _ => rfl) (fun h => by cases h) (fun _ => ?_)
        (repeat with_reducible first | refine jy ?_ | (refine jT (id := 20) KL8 8 mixed (by kernel_rfl) (by kernel_rfl) (by kernel_rfl) fun _ => ?_; refine jw KL8 [] TF8 fun _ => ?_) | refine jw KL8 [] TF8 fun _ => ?_)
        exact Run_lp ⟨i + 1, by simp [SubB, fnd, strike, has], ⟨by omega, x14.trans (x15.trans x1517), htk hne⟩, by omega⟩
      | false =>
        have hsc : s = core := Classical.byContradiction fun hne => by
          have := hbc hne
          rw [hns] at this
          cases this
        subst hsc
        refine Run_condS (fun _ => rfl) (fun _ => ?_) (fun h => by cases h)
        have x617 := (y13.trans x14).trans (x15.trans x1517)
        have y17 := y6.trans x617
        have t17 := T w17 (z15.trans x1517)
        have f17 := F w17 (z15.trans x1517)
        (repeat with_reducible first | refine jy ?_ | (refine jT (id := 20) KL8 8 mixed (by kernel_rfl) (by kernel_rfl) (by kernel_rfl) fun _ => ?_; refine jw KL8 [] (aa TF8 (aa t17 f17)) fun _ => ?_) | refine jw KL8 [] (aa TF8 (aa t17 f17)) fun _ => ?_)
        refine CallW_gen call21 (rgOptions vl u0 u1 u2 vx t f (Rf.someO l s) w17 (hl.ext y17) (hT.ext y17) (Sx.ext x1517)) fun e w18 ⟨vO2, he, x18, hO2⟩ => ⟨_, he, ?_⟩
        have hb2 : Rf.begE t f (Rf.someO l s) = 0 := by unfold Rf.begE; rw [if_neg (by simp [hse]), hso]
        rw [hb2]
        have hO2 := hO2 hb2
        have K := sok hse hso
        (try simp (maxSteps := 5000000) only [KS, Nat.reduceAdd, Nat.reduceMul, Nat.reduceEqDiff, ↓reduceIte, forall_const, Int.cast_ofNat_Int, Int.reduceToNat, List.take_succ_cons, List.take_zero, List.drop_succ_cons, List.drop_zero, TF8, KL8]); (try simp (disch := omega) only [wrapI, tmodI, tdivI])
        refine ⟨by simp [tpOf], by simp [tpOf], ?_⟩
        let S : Nat → Prop := fun _ => True
        (repeat with_reducible refine js ?_)
        refine Run_eh S [9] [(3, [9]), (4, [9])] (id := 20) KL8 (.first 0 (.first 1 (.first 2 (.first 3 (.first 4 (.first 5 (.first 6 (.alt true 7 (.first 8 (.alt true 9 (.free (.first 10 (.first 11 .done))) .stop)) .stop)))))))) mixed (by kernel_rfl) (by kernel_rfl) fun w8 x8 _ => ?_
        have x158 := x1517.trans (x18.trans x8)
        have t8 := T w8 (z15.trans x158)
        have hak8 := (ha.ext (x15.trans x158)).n
        simp only [AtN, KS, Nat.reduceAdd, Nat.reduceMul, Nat.reduceEqDiff, ↓reduceIte, UT] at hak8
        (try simp (maxSteps := 5000000) only [KS, Nat.reduceAdd, Nat.reduceMul, Nat.reduceEqDiff, ↓reduceIte, forall_const, Int.cast_ofNat_Int, Int.reduceToNat, List.take_succ_cons, List.take_zero, List.drop_succ_cons, List.drop_zero, TF8, KL8, eh, gres, qopS, putL, ung, hSs, hSl, hak8, hks, t8]); (try simp (disch := omega) only [wrapI, tmodI, tdivI])
        have y8 := y15.trans x158
        have x68 := x617.trans (x18.trans x8)
        have z8 : Ext w w8 := y6.trans x68
        refine ⟨⟨by omega, by omega⟩, trivial, trivial, Keep.refl _ _, ?_⟩
        refine CallW_gen call25 (rgProof (t := t) (l := Rf.someO l s) (vl := vl) (vo := vx) (vO := vO2) (opts := Pl.optsOf t f (Rf.someO l s)) K.cr K.n K.len (obRun hse hso) (Rf.someO l s).length (Pl.optsOf t f (Rf.someO l s)) [] (.slice none 0 0) w8 K.len (by simp [K.len]) rfl (by simp) (hl.ext y8) (Sx.ext x158) (hO2.ext x8) (Sl.nil _)) fun e w9 ⟨vp, he, x9, hR⟩ => ⟨_, he, Keep.of_ext x9, ?_⟩
        have R9 := R6.ext (x68.trans x9)
        have hone := hR.one
        have z29 := (z15.trans (x158.trans x9)).size
        refine SemW_setW (by rw [cells36]; decide) (by rw [cells36]; rfl) R9 (by rw [cells36]; rfl) (by simpa [Value.cells] using hone) fun wz rz kz zz => ?_
        have rz : Row wz pp 36 ((Rf.proofF t (Rf.someO l s) (Pl.optsOf t f (Rf.someO l s)) []).cs vp) := by simpa [Value.cells] using rz
        have s68 := x68.size
        have s6 := x36.size
        refine Run_ret ?_
        simp only [Rets, RetM, resV, fnd, oneOr, ↓reduceIte, KS, Nat.reduceAdd, Nat.reduceMul, Nat.reduceEqDiff, ↓reduceIte, UT]
        refine ⟨_, rfl, pp, _, rfl, lsP rz, _, rfl, _, rfl, _, _, rfl, Keep.ext (z8.trans x9) kz fun b hb => by omega, (hk.ext (x15.trans (x158.trans x9))).keepF kz fun hne => ?_, (hR.keep kz fun b hb => ?_).mono fun _ _ => trivial⟩
        · exact hbk.neRow (R6.ext (y13.trans x14)) (by decide) hne
        · omega
    simp at h
    obtain rfl : i = SS.length := by omega
    clear h
    rw [List.take_length] at hcn
    (repeat with_reducible first | refine jy ?_ | (refine jT (id := 20) KL8 8 mixed (by kernel_rfl) (by kernel_rfl) (by kernel_rfl) fun _ => ?_; refine jw KL8 [] TF8 fun _ => ?_) | refine jw KL8 [] TF8 fun _ => ?_)
    exact Run_lp ⟨m + 1, by simp [SubB, fnd, strike, has], ⟨by omega, y13.trans x14, pre ++ SS, by rw [hpre2, List.append_assoc], hcn⟩, by omega⟩
  simp at h
  exfalso
  obtain rfl : m = l.length + 1 := by omega
  rw [hpre, Rf.restSets_end, List.append_nil] at hcm
  exact hcp hcm
section
variable {vl u0 u1 u2 vo u : Value} {t : TimeD} {f : TariffD} {l : List OrderD} {p : RefusalD} {covers : Int} {w : World} {K : Value → World → Prop}
theorem rLeastW23 (hl : Sl w vl t.Lines) (hT : TarR w f u0 u1 u2) (ho : Sl w vo l) (h4 : l.length ≤ 4) {q : List Int × RefusalD × Bool × Int} (h : Rf.least t f l covers = q) (hK : ∀ vc v w', Ext w w' → Sl w' vc q.1 → RefR (fun _ => True) w' (q.2.1.cs v) q.2.1 → K (.tuple #[vc, .agg (q.2.1.cs v).toArray, .bool q.2.2.1, .int .i64 q.2.2.2]) w') :
    CallW Tryz.prog (.func (.func 8) #[] #[]) [.agg #[.int .i64 t.Offices, vl], .agg #[u0, u1, u2], vo, .int .i64 covers] w K := by
  subst h
  exact CallW_gen call8 (rgLeast vl u0 u1 u2 vo t f l covers w hl hT ho h4) fun e w' ⟨vc, v, he, x, h1, h2⟩ => ⟨_, he, hK vc v w' x h1 h2⟩
end
set_option maxHeartbeats 2000000 in
theorem lawSpec23 (vl : Value) (t : TimeD) (f : TariffD) (u0 u1 u2 vo : Value) (l : List OrderD) (covers : Int) (w : World) (hl : Sl w vl t.Lines) (hT : TarR w f u0 u1 u2) (ho : Sl w vo l) (hcv : I64 covers) :
    Calls Tryz.prog 3 #[.agg (t.cs vl).toArray, .agg (f.cs u0 u1 u2).toArray, vo, .int .i64 covers] w fun e w' => Yes23 e ∧ Ext w w' := by
  refine Calls_of_Run (args := [.agg (t.cs vl).toArray, .agg (f.cs u0 u1 u2).toArray, vo, .int .i64 covers]) (n := 62) (rs := [.tmp 8]) Tryz.func3 rfl rfl rfl (by simp) ?_
  (repeat with_reducible first | refine jy ?_ | refine jw KL3 [] TF3 fun _ => ?_)
  refine SemW_box fun pt w1 h1 => SemW_box fun pf w2 h2 => ?_
  have x2 := h1.ext.trans h2.ext
  have T : ∀ w', Ext w2 w' → AtN w' pt 0 (t.cs vl) := fun w' x => (h1.at_.ext (h2.ext.trans x)).n
  have F : ∀ w', Ext w2 w' → AtN w' pf 0 (f.cs u0 u1 u2) := fun w' x => (h2.at_.ext x).n
  simp only [TimeD.cs, TariffD.cs, AtN, KS, Nat.reduceAdd, Nat.reduceMul, Nat.reduceEqDiff, ↓reduceIte, UT] at T F
  (repeat with_reducible first | refine jy ?_ | refine jw KL3 [] TF3 fun _ => ?_)
  refine sane23W fun w5 x5 => ?_
  have y5 := x2.trans x5
  have t5 := T w5 x5
  have f5 := F w5 x5
  (repeat with_reducible first | refine jy ?_ | refine jw KL3 [] TF3 fun _ => ?_)
  refine Run_condS (fun _ => rfl) (fun h => by cases h) (fun _ => ?_)
  (repeat with_reducible first | refine jy ?_ | refine jw KL3 [] (aa TF3 (aa t5 f5)) fun _ => ?_)
  refine few23W (hl.ext y5) (hT.ext y5) (ho.ext y5) fun b w7 x7 h4 => ?_
  have y7 := y5.trans x7
  have z7 := x5.trans x7
  cases b with
  | false =>
    (repeat with_reducible first | refine jy ?_ | refine jw KL3 [] (aa TF3 KX) fun _ => ?_)
    refine Run_condS (fun _ => rfl) (fun _ => ?_) (fun h => by cases h)
    (repeat with_reducible first | refine jy ?_ | refine jw KL3 [] TF3 fun _ => ?_)
    refine Run_ret ?_
    simp [Rets, RetM, resV, fnd, oneOr, y7]
  | true =>
  have h4 := h4 rfl
  (repeat with_reducible first | refine jy ?_ | refine jw KL3 [] (aa TF3 KX) fun _ => ?_)
  refine Run_condS (fun _ => rfl) (fun h => by cases h) (fun _ => ?_)
  have t7 := T w7 z7
  have f7 := F w7 z7
  (repeat with_reducible first | refine jy ?_ | refine jw KL3 [] (aa TF3 (aa t7 f7)) fun _ => ?_)
  generalize hq : Rf.least t f l covers = q
  refine leastW (hl.ext y7) (hT.ext y7) (ho.ext y7) hcv hq fun vc vd w8 x8 Sc hR => ?_
  (try simp (maxSteps := 5000000) only [KS, Nat.reduceAdd, Nat.reduceMul, Nat.reduceEqDiff, ↓reduceIte, forall_const, Int.cast_ofNat_Int, Int.reduceToNat, List.take_succ_cons, List.take_zero, List.drop_succ_cons, List.drop_zero, TF3, KL3]); (try simp (disch := omega) only [wrapI, tmodI, tdivI])
  refine ⟨by simp [tpOf], by simp [tpOf], by simp [tpOf], by simp [tpOf], ?_⟩
  refine refVar hR fun qp w9 x9 Rp => ?_
  have z9 := z7.trans (x8.trans x9)
  have y9 := x2.trans z9
  have Sc := Sc.ext x9
  have t9 := T w9 z9
  have f9 := F w9 z9
  (repeat with_reducible first | refine jy ?_ | refine jw KL3 [] (aa TF3 (aa t9 f9)) fun _ => ?_)
  refine rLeastW23 (hl.ext y9) (hT.ext y9) (ho.ext y9) h4 hq fun vc2 vd2 w10 x10 Sc2 hR2 => ?_
  (try simp (maxSteps := 5000000) only [KS, Nat.reduceAdd, Nat.reduceMul, Nat.reduceEqDiff, ↓reduceIte, forall_const, Int.cast_ofNat_Int, Int.reduceToNat, List.take_succ_cons, List.take_zero, List.drop_succ_cons, List.drop_zero, TF3, KL3]); (try simp (disch := omega) only [wrapI, tmodI, tdivI])
  refine ⟨by simp [tpOf], by simp [tpOf], by simp [tpOf], by simp [tpOf], ?_⟩
  refine refVar hR2 fun qp2 w11 x11 Rp2 => ?_
  have k911 := x10.trans x11
  have z11 := z9.trans k911
  have y11 := x2.trans z11
  have Sc := Sc.ext k911
  have Sc2 := Sc2.ext x11
  have Rp := Rp.ext k911
  (repeat with_reducible first | refine jy ?_ | refine jw KL3 [] (aa TF3 KX) fun _ => ?_)
  refine CallW_pure call9 (rgSameInts vc vc2 q.1 q.1 w11 Sc Sc2) fun w12 x12 => ?_
  obtain ⟨v1, n1, i1, i2, i3, s1⟩ := (Rp.ext x12).n
  obtain ⟨v2, n2, j1, j2, j3, s2⟩ := (Rp2.ext x12).n
  simp only [RefusalD.cs, AtN, KS, Nat.reduceAdd, Nat.reduceMul, Nat.reduceEqDiff, ↓reduceIte, UT] at n1 n2
  have hd : decide (q.1 = q.1) = true := decide_eq_true rfl
  rw [hd]
  (repeat with_reducible first | refine jy ?_ | refine jw KL3 [] (aa TF3 (aa n1 (aa n2 KX))) fun _ => ?_)
  refine .inl (sameW (p := q.2.1) s1 s2 fun w13 x13 => ?_)
  unfold hush
  (repeat with_reducible first | refine jy ?_ | refine jw KL3 [] (aa TF3 (aa n1 (aa n2 KX))) fun _ => ?_)
  refine Run_ret ?_
  simp [Rets, RetM, resV, fnd, oneOr]
  exact y11.trans (x12.trans x13)
end Go.Proofs.YtldjfebokojmfaaGreat
