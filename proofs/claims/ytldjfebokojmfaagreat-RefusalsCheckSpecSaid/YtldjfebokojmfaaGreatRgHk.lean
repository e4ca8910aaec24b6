import Derived.Test.YtldjfebokojmfaaGreatRgHc
import Derived.Test.YtldjfebokojmfaaGreatRgGs
import Derived.Test.YtldjfebokojmfaaGreatRgHi
import Derived.Test.YtldjfebokojmfaaGreatRgHg
import Derived.Test.YtldjfebokojmfaaGreatRgGu
namespace Go.Fk
open Go
theorem Rf.check_e (t : TimeD) (f : TariffD) (l : List OrderD) (covers : Int) (p : RefusalD) : (Rf.check t f l covers p = (false, Rf.begE t f l) ∧ Rf.begE t f l ≠ 0) ∨ (Rf.begE t f l = 0 ∧ Pl.err t f l = 0 ∧ Pl.optsE t f l = 0 ∧ Rf.check t f l covers p = (Rf.rightF t l covers (Pl.optsOf t f l) [] p, 0)) := by
  unfold Rf.check Rf.begE
  by_cases h1 : Pl.err t f l = 0
  · by_cases h2 : Pl.optsE t f l = 0
    · right
      simp [h1, h2]
    · left
      simp [h1, h2]
  · left
    simp [h1]
end Go.Fk
namespace Go.Proofs.YtldjfebokojmfaaGreat
open Go Go.Fk
set_option linter.unusedSimpArgs false
set_option linter.unusedVariables false
set_option maxRecDepth 100000
abbrev Yes23 (e : Ending) : Prop := e = .returned (.bool true)
theorem few23W {vl u0 u1 u2 vo : Value} {t : TimeD} {f : TariffD} {l : List OrderD} {w : World} {K : Value → World → Prop} (hl : Sl w vl t.Lines) (hT : TarR w f u0 u1 u2) (ho : Sl w vo l) (hK : ∀ (b : Bool) w', Ext w w' → (b = true → l.length ≤ 4) → K (.bool b) w') :
    CallW Tryz.prog (.func (.func 6) #[] #[]) [.agg #[.int .i64 t.Offices, vl], .agg #[u0, u1, u2], vo] w K :=
  CallW_gen call6 (rgFew vl u0 u1 u2 vo t f l w hl hT ho) fun e w' ⟨b, he, x, h⟩ => ⟨_, he, hK b w' x h⟩
theorem fewProofW {u : Value} {p : RefusalD} {w : World} {K : Value → World → Prop} (hk : Sl w u p.kids) (hK : ∀ (b : Bool) w', Ext w w' → K (.bool b) w') :
    CallW Tryz.prog (.func (.func 11) #[] #[]) [.agg #[.int .i64 p.o, u, .int .i64 p.why, .int .i64 p.run.Line, .int .i64 p.run.At, .int .i64 p.run.Arrive]] w K :=
  CallW_gen call11 (rgFewProof p u w hk) fun e w' ⟨b, he, x⟩ => ⟨_, he, hK b w' x⟩
end Go.Proofs.YtldjfebokojmfaaGreat
namespace Go.Fk
open Go
end Go.Fk
namespace Go.Proofs.YtldjfebokojmfaaGreat
open Go Go.Fk
set_option linter.unusedSimpArgs false
set_option linter.unusedVariables false
set_option maxRecDepth 100000
theorem obRun {t : TimeD} {f : TariffD} {l : List OrderD} (he : Pl.err t f l = 0) (ho : Pl.optsE t f l = 0) : ∀ o ∈ Pl.optsOf t f l, o.length ≤ 100000000 ∧ ∀ r ∈ o, Tt.isRun t r = true := fun o h => by
  have K := Pl.opts_okk ho
  refine ⟨((sok he ho).ob o h).1, fun r hr => ?_⟩
  obtain ⟨k, hk, rfl⟩ := List.getElem_of_mem h
  have hk2 : k < l.length := by rw [← K.n]; exact hk
  exact (K.m k hk2 r (by rw [List.getD_eq_getElem?_getD, List.getElem?_eq_getElem hk]; exact hr)).1
set_option maxHeartbeats 4000000 in
theorem rgCheck (vl u0 u1 u2 vo u : Value) (t : TimeD) (f : TariffD) (l : List OrderD) (covers : Int) (p : RefusalD) (w : World) (hl : Sl w vl t.Lines) (hT : TarR w f u0 u1 u2) (ho : Sl w vo l) (io : I64 p.o) (iw : I64 p.why) (ir : RunJ p.run) (hk : Sl w u p.kids) :
    Calls Tryz.prog 13 #[.agg (t.cs vl).toArray, .agg (f.cs u0 u1 u2).toArray, vo, .int .i64 covers, .agg (p.cs u).toArray] w fun e w' => e = .returned (.tuple #[.bool (Rf.check t f l covers p).1, .int .i64 (Rf.check t f l covers p).2]) ∧ Ext w w' := by
  refine Calls_of_Run (args := [.agg (t.cs vl).toArray, .agg (f.cs u0 u1 u2).toArray, vo, .int .i64 covers, .agg (p.cs u).toArray]) (n := 30) (rs := [.tmp 10, .tmp 11]) Tryz.func13 rfl rfl rfl (by simp) ?_
  (repeat with_reducible first | refine jy ?_ | refine jw KL13 [] TF13 fun _ => ?_)
  refine SemW_box fun pt w1 h1 => SemW_box fun pf w2 h2 => SemW_box fun pp w3 h3 => ?_
  have y3 := h1.ext.trans (h2.ext.trans h3.ext)
  have T : ∀ w', Ext w3 w' → AtN w' pt 0 (t.cs vl) := fun w' x => (h1.at_.ext (h2.ext.trans (h3.ext.trans x))).n
  have F3 := (h2.at_.ext h3.ext).n
  have P : ∀ w', Ext w3 w' → AtN w' pp 0 (p.cs u) := fun w' x => (h3.at_.ext x).n
  simp only [TimeD.cs, TariffD.cs, RefusalD.cs, AtN, KS, Nat.reduceAdd, Nat.reduceMul, Nat.reduceEqDiff, ↓reduceIte, UT] at T F3 P
  have t3 := T w3 (Ext.refl _)
  (repeat with_reducible first | refine jy ?_ | refine jw KL13 [] (aa TF13 (aa t3 F3)) fun _ => ?_)
  refine CallW_gen call21 (rgOptions vl u0 u1 u2 vo t f l w3 (hl.ext y3) (hT.ext y3) (ho.ext y3)) fun e w4 ⟨vO, he, x4, hO⟩ => ⟨_, he, ?_⟩
  have y4 := y3.trans x4
  have hce := Rf.check_e t f l covers p
  (repeat with_reducible first | refine jy ?_ | refine jw KL13 [] TF13 fun _ => ?_)
  refine Run_condS (fun _ => rfl) (fun h => ?_) (fun h => ?_)
  · have hne : Rf.begE t f l ≠ 0 := by simpa using h
    clear h
    rcases hce with ⟨c1, _⟩ | ⟨c0, _⟩
    · rw [c1]
      (repeat with_reducible first | refine jy ?_ | refine jw KL13 [] TF13 fun _ => ?_)
      refine Run_ret ?_
      simp only [Rets, RetM, resV, fnd, oneOr, ↓reduceIte, KS, Nat.reduceAdd, Nat.reduceMul, Nat.reduceEqDiff, ↓reduceIte, UT]
      exact ⟨_, rfl, _, rfl, rfl, y4⟩
    · exact (hne c0).elim
  have h0 : Rf.begE t f l = 0 := by simpa using h
  clear h
  rcases hce with ⟨_, c2⟩ | ⟨_, he0, ho0, c3⟩
  · exact (c2 h0).elim
  have K := sok he0 ho0
  rw [c3]
  have t4 := T w4 x4
  have p4 := P w4 x4
  (repeat with_reducible first | refine jy ?_ | refine jw KL13 [] (aa TF13 (aa t4 p4)) fun _ => ?_)
  refine CallW_pure call29 (rgRight (t := t) (l := l) (covers := covers) (vl := vl) (vo := vo) (vO := vO) (opts := Pl.optsOf t f l) K.cr K.n K.len (obRun he0 ho0) l.length (Pl.optsOf t f l) [] p (.slice none 0 0) u w4 K.len (by simp [K.len]) rfl (by simp) (hl.ext y4) (ho.ext y4) (hO h0) (Sl.nil _) io iw ir (hk.ext y4)) fun w7 x7 => ?_
  (repeat with_reducible first | refine jy ?_ | refine jw KL13 [] TF13 fun _ => ?_)
  refine Run_ret ?_
  simp only [Rets, RetM, resV, fnd, oneOr, ↓reduceIte, KS, Nat.reduceAdd, Nat.reduceMul, Nat.reduceEqDiff, ↓reduceIte, UT]
  exact ⟨_, rfl, _, rfl, rfl, y4.trans x7⟩
section
variable {vl u0 u1 u2 vo u : Value} {t : TimeD} {f : TariffD} {l : List OrderD} {p : RefusalD} {covers : Int} {w : World} {K : Value → World → Prop}
theorem rCheckW23 (hl : Sl w vl t.Lines) (hT : TarR w f u0 u1 u2) (ho : Sl w vo l) (io : I64 p.o) (iw : I64 p.why) (ir : RunJ p.run) (hk : Sl w u p.kids) {q : Bool × Int} (h : Rf.check t f l covers p = q) (hK : ∀ w', Ext w w' → K (.tuple #[.bool q.1, .int .i64 q.2]) w') :
    CallW Tryz.prog (.func (.func 13) #[] #[]) [.agg #[.int .i64 t.Offices, vl], .agg #[u0, u1, u2], vo, .int .i64 covers, .agg #[.int .i64 p.o, u, .int .i64 p.why, .int .i64 p.run.Line, .int .i64 p.run.At, .int .i64 p.run.Arrive]] w K := by
  subst h
  exact CallW_pure call13 (rgCheck vl u0 u1 u2 vo u t f l covers p w hl hT ho io iw ir hk) hK
end
set_option maxHeartbeats 2000000 in
theorem lawCheckSpec23 (vl : Value) (t : TimeD) (f : TariffD) (u0 u1 u2 vo u : Value) (l : List OrderD) (covers : Int) (p : RefusalD) (w : World) (hl : Sl w vl t.Lines) (hT : TarR w f u0 u1 u2) (ho : Sl w vo l) (io : I64 p.o) (iw : I64 p.why) (ir : RunJ p.run) (hk : Sl w u p.kids) :
    Calls Tryz.prog 4 #[.agg (t.cs vl).toArray, .agg (f.cs u0 u1 u2).toArray, vo, .int .i64 covers, .agg (p.cs u).toArray] w fun e w' => Yes23 e ∧ Ext w w' := by
  refine Calls_of_Run (args := [.agg (t.cs vl).toArray, .agg (f.cs u0 u1 u2).toArray, vo, .int .i64 covers, .agg (p.cs u).toArray]) (n := 53) (rs := [.tmp 10]) Tryz.func4 rfl rfl rfl (by simp) ?_
  (repeat with_reducible first | refine jy ?_ | refine jw KL4 [] TF4 fun _ => ?_)
  refine SemW_box fun pt w1 h1 => SemW_box fun pf w2 h2 => SemW_box fun pp w3 h3 => ?_
  have x3 := h1.ext.trans (h2.ext.trans h3.ext)
  have T : ∀ w', Ext w3 w' → AtN w' pt 0 (t.cs vl) := fun w' x => (h1.at_.ext (h2.ext.trans (h3.ext.trans x))).n
  have F : ∀ w', Ext w3 w' → AtN w' pf 0 (f.cs u0 u1 u2) := fun w' x => (h2.at_.ext (h3.ext.trans x)).n
  have P : ∀ w', Ext w3 w' → AtN w' pp 0 (p.cs u) := fun w' x => (h3.at_.ext x).n
  simp only [TimeD.cs, TariffD.cs, RefusalD.cs, AtN, KS, Nat.reduceAdd, Nat.reduceMul, Nat.reduceEqDiff, ↓reduceIte, UT] at T F P
  (repeat with_reducible first | refine jy ?_ | refine jw KL4 [] TF4 fun _ => ?_)
  refine sane23W fun w5 x5 => ?_
  have y5 := x3.trans x5
  have t5 := T w5 x5
  have f5 := F w5 x5
  have p5 := P w5 x5
  (repeat with_reducible first | refine jy ?_ | refine jw KL4 [] TF4 fun _ => ?_)
  refine Run_condS (fun _ => rfl) (fun h => by cases h) (fun _ => ?_)
  (repeat with_reducible first | refine jy ?_ | refine jw KL4 [] (aa TF4 (aa t5 (aa f5 p5))) fun _ => ?_)
  refine few23W (hl.ext y5) (hT.ext y5) (ho.ext y5) fun b w7 x7 _ => ?_
  have y7 := y5.trans x7
  have z7 := x5.trans x7
  have p7 := P w7 z7
  cases b with
  | false =>
    (repeat with_reducible first | refine jy ?_ | refine jw KL4 [] (aa TF4 (aa p7 KX)) fun _ => ?_)
    refine .inl ?_
    unfold hush
    (repeat with_reducible first | refine jy ?_ | refine jw KL4 [] (aa TF4 (aa p7 KX)) fun _ => ?_)
    refine Run_condS (fun _ => rfl) (fun _ => ?_) (fun h => by cases h)
    (repeat with_reducible first | refine jy ?_ | refine jw KL4 [] TF4 fun _ => ?_)
    refine Run_ret ?_
    simp [Rets, RetM, resV, fnd, oneOr, y7]
  | true =>
  (repeat with_reducible first | refine jy ?_ | refine jw KL4 [] (aa TF4 (aa p7 KX)) fun _ => ?_)
  refine .inl (fewProofW (hk.ext y7) fun b w8 x8 => ?_)
  unfold hush
  have y8 := y7.trans x8
  have z8 := z7.trans x8
  (repeat with_reducible first | refine jy ?_ | refine jw KL4 [] (aa TF4 (aa p7 KX)) fun _ => ?_)
  cases b with
  | false =>
    refine Run_condS (fun _ => rfl) (fun _ => ?_) (fun h => by cases h)
    (repeat with_reducible first | refine jy ?_ | refine jw KL4 [] TF4 fun _ => ?_)
    refine Run_ret ?_
    simp [Rets, RetM, resV, fnd, oneOr, y8]
  | true =>
  refine Run_condS (fun _ => rfl) (fun h => by cases h) (fun _ => ?_)
  have t8 := T w8 z8
  have f8 := F w8 z8
  have p8 := P w8 z8
  (repeat with_reducible first | refine jy ?_ | refine jw KL4 [] (aa TF4 (aa t8 (aa f8 p8))) fun _ => ?_)
  generalize hq : Rf.check t f l covers p = q
  refine checkW (hl.ext y8) (hT.ext y8) (ho.ext y8) io iw ir (hk.ext y8) (covers := covers) hq fun w9 x9 => ?_
  (try simp (maxSteps := 5000000) only [KS, Nat.reduceAdd, Nat.reduceMul, Nat.reduceEqDiff, ↓reduceIte, forall_const, Int.cast_ofNat_Int, Int.reduceToNat, List.take_succ_cons, List.take_zero, List.drop_succ_cons, List.drop_zero, TF4, KL4]); (try simp (disch := omega) only [wrapI, tmodI, tdivI])
  refine ⟨by simp [tpOf], by simp [tpOf], ?_⟩
  have y9 := y8.trans x9
  have z9 := z8.trans x9
  have t9 := T w9 z9
  have f9 := F w9 z9
  have p9 := P w9 z9
  (repeat with_reducible first | refine jy ?_ | refine jw KL4 [] (aa TF4 (aa t9 (aa f9 p9))) fun _ => ?_)
  refine rCheckW23 (hl.ext y9) (hT.ext y9) (ho.ext y9) io iw ir (hk.ext y9) (covers := covers) hq fun w10 x10 => ?_
  (try simp (maxSteps := 5000000) only [KS, Nat.reduceAdd, Nat.reduceMul, Nat.reduceEqDiff, ↓reduceIte, forall_const, Int.cast_ofNat_Int, Int.reduceToNat, List.take_succ_cons, List.take_zero, List.drop_succ_cons, List.drop_zero, TF4, KL4]); (try simp (disch := omega) only [wrapI, tmodI, tdivI])
  refine ⟨by simp [tpOf], by simp [tpOf], ?_⟩
  have y10 := y9.trans x10
  (repeat with_reducible first | refine jy ?_ | refine jw KL4 [] (aa TF4 KX) fun _ => ?_)
  refine Run_ret ?_
  simp [Rets, RetM, resV, fnd, oneOr]
  exact y10
end Go.Proofs.YtldjfebokojmfaaGreat
