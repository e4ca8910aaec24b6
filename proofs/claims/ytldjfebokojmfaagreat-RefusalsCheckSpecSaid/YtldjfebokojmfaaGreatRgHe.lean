import Derived.Test.YtldjfebokojmfaaGreatRgHa
import Derived.Test.YtldjfebokojmfaaGreatRgGb
import Derived.Test.YtldjfebokojmfaaGreatRgHf
import Derived.Test.YtldjfebokojmfaaGreatRgW22u
import Derived.Test.YtldjfebokojmfaaGreatRgHm
namespace Go.Fk
open Go
namespace Pl
theorem err_sub {t : TimeD} {f : TariffD} {l l' : List OrderD} (h : err t f l = 0) (hs : ∀ o ∈ l', o ∈ l) (hn : l'.length ≤ 64) : err t f l' = 0 := by
  have O := err_ok h
  unfold err
  rw [if_neg (by simp [O.t]), if_neg (by simp [O.f]), if_neg (by omega), if_pos]
  exact List.all_eq_true.2 fun o ho => O.o o (hs o ho)
theorem optsE_sub {t : TimeD} {f : TariffD} {l l' : List OrderD} (h : optsE t f l = 0) (hs : ∀ o ∈ l', o ∈ l) : optsE t f l' = 0 := optsE_iff.2 fun o ho => optsE_iff.1 h o (hs o ho)
structure Sok (t : TimeD) (f : TariffD) (l : List OrderD) : Prop where
  cr : ∀ o ∈ l, 1 ≤ o.Crowd ∧ o.Crowd ≤ 64
  n : l.length ≤ 64
  len : (optsOf t f l).length = l.length
  ob : ∀ o ∈ optsOf t f l, o.length ≤ 100000000 ∧ ∀ r ∈ o, 0 ≤ r.Line ∧ r.Line < t.Lines.length
end Pl
end Go.Fk
namespace Go.Proofs.YtldjfebokojmfaaGreat
open Go Go.Fk
set_option linter.unusedSimpArgs false
set_option linter.unusedVariables false
set_option maxRecDepth 100000
theorem sok {t : TimeD} {f : TariffD} {l : List OrderD} (he : Pl.err t f l = 0) (ho : Pl.optsE t f l = 0) : Pl.Sok t f l := by
  have O := Pl.err_ok he
  have K := Pl.opts_okk ho
  refine ⟨fun o h => (ok_num O h).2.2.2, O.n, K.n, fun o h => ⟨?_, fun r hr => ?_⟩⟩
  · unfold Pl.optsOf at h
    obtain ⟨x, _, rfl⟩ := List.mem_map.1 h
    have := opts_le (t := t) (f := f) (o := x)
    omega
  · obtain ⟨k, hk, rfl⟩ := List.getElem_of_mem h
    have hk2 : k < l.length := by rw [← K.n]; exact hk
    have := (K.m k hk2 r (by rw [List.getD_eq_getElem?_getD, List.getElem?_eq_getElem hk]; exact hr)).1
    obtain ⟨g1, g2, _⟩ := isRunL this
    exact ⟨g1, g2⟩
theorem askBuild {t : TimeD} {f : TariffD} {covers : Int} {vl u0 u1 u2 : Value} (w' : World) : (Instr.build 53 #[(0, .agg (t.cs vl).toArray), (1, .agg (f.cs u0 u1 u2).toArray), (2, .int .i64 covers)]).run Tryz.prog w' = .ok (.agg #[.int .i64 t.Offices, vl, u0, u1, u2, .int .i64 covers]) w' := by kernel_rfl
set_option maxHeartbeats 4000000 in
theorem rsCheck (vl u0 u1 u2 vo u : Value) (t : TimeD) (f : TariffD) (l : List OrderD) (covers : Int) (p : RefusalD) (w : World) (hl : Sl w vl t.Lines) (hT : TarR w f u0 u1 u2) (ho : Sl w vo l) (io : I64 p.o) (iw : I64 p.why) (ir : RunJ p.run) (hk : Sl w u p.kids) :
    Calls Tryz.prog 12 #[.agg (t.cs vl).toArray, .agg (f.cs u0 u1 u2).toArray, vo, .int .i64 covers, .agg (p.cs u).toArray] w fun e w' => e = .returned (.tuple #[.bool (Rf.check t f l covers p).1, .int .i64 (Rf.check t f l covers p).2]) ∧ Ext w w' := by
  have s0 := hT.b.s
  have s1 := hT.l.s
  have s2 := hT.t.s
  refine Calls_of_Run (args := [.agg (t.cs vl).toArray, .agg (f.cs u0 u1 u2).toArray, vo, .int .i64 covers, .agg (p.cs u).toArray]) (n := 28) (rs := [.tmp 10, .tmp 11]) Tryz.func12 rfl rfl rfl (by simp) ?_
  (repeat with_reducible first | refine jy ?_ | refine jw KL12 [] TF12 fun _ => ?_)
  refine SemW_box fun pt w1 h1 => SemW_box fun pf w2 h2 => SemW_box fun pp w3 h3 => ?_
  have y3 := h1.ext.trans (h2.ext.trans h3.ext)
  have T3 := (h1.at_.ext (h2.ext.trans h3.ext)).n
  have F3 := (h2.at_.ext h3.ext).n
  have P : ∀ w', Ext w3 w' → AtN w' pp 0 (p.cs u) := fun w' x => (h3.at_.ext x).n
  simp only [TimeD.cs, TariffD.cs, RefusalD.cs, AtN, KS, Nat.reduceAdd, Nat.reduceMul, Nat.reduceEqDiff, ↓reduceIte, UT] at T3 F3 P
  (repeat with_reducible first | refine jy ?_ | refine jw KL12 [] (aa TF12 (aa T3 F3)) fun _ => ?_)
  refine ⟨_, fun _ => askBuild (t := t) (f := f) _, ?_⟩
  refine CallW_gen call17 (rfBegin vl u0 u1 u2 vo t f l covers w3 (hl.ext y3) (hT.ext y3) (ho.ext y3)) fun e w4 ⟨vO, he, x4, sO, hO⟩ => ⟨_, he, ?_⟩
  (repeat with_reducible first | refine jy ?_ | refine jw KL12 [] TF12 fun _ => ?_)
  refine SemW_allocT ti56 fun ps w5 h5 => ?_
  have b5 := h5.blk
  (repeat with_reducible first | refine jy ?_ | refine jw KL12 [] TF12 fun _ => ?_)
  refine SemW_setW (by rw [cells56]; decide) (by rw [cells56]; rfl) h5.row (by rw [cells56]; rfl) (by simpa [Value.cells] using srOne (t := t) (covers := covers) hl.s s0 s1 s2 ho.s sO) fun w6 r6 k6 z6 => ?_
  have r6 : Row w6 ps 56 (srC t covers vl u0 u1 u2 vo vO) := r6
  have x46 : Ext w4 w6 := Keep.ext h5.ext k6 fun b hb => by omega
  have y6 := y3.trans (x4.trans x46)
  (repeat with_reducible first | refine jy ?_ | refine jw KL12 [] TF12 fun _ => ?_)
  have hb : Rf.begE t f l = if Pl.err t f l ≠ 0 then Pl.err t f l else Pl.optsE t f l := rfl
  refine Run_condS (fun _ => rfl) (fun h => ?_) (fun h => ?_)
  · have hne : Rf.begE t f l ≠ 0 := by simpa using h
    clear h
    have hc : Rf.check t f l covers p = (false, Rf.begE t f l) := by
      unfold Rf.check
      by_cases h1 : Pl.err t f l = 0
      · have h2 : Pl.optsE t f l ≠ 0 := fun e => hne (by rw [hb, if_neg (by simp [h1]), e])
        rw [if_neg (by simp [h1]), if_pos h2, hb, if_neg (by simp [h1])]
      · rw [if_pos h1, hb, if_pos h1]
    rw [hc]
    (repeat with_reducible first | refine jy ?_ | refine jw KL12 [] TF12 fun _ => ?_)
    refine Run_ret ?_
    simp only [Rets, RetM, resV, fnd, oneOr, ↓reduceIte, KS, Nat.reduceAdd, Nat.reduceMul, Nat.reduceEqDiff, ↓reduceIte, UT]
    exact ⟨_, rfl, _, rfl, rfl, y6⟩
  have h0 : Rf.begE t f l = 0 := by simpa using h
  clear h
  have he0 : Pl.err t f l = 0 := by
    by_cases h1 : Pl.err t f l = 0
    · exact h1
    · rw [hb, if_pos h1] at h0; exact h0
  have ho0 : Pl.optsE t f l = 0 := by rw [hb, if_neg (by simp [he0])] at h0; exact h0
  have K := sok he0 ho0
  have hc : Rf.check t f l covers p = (Rf.rightF t l covers (Pl.optsOf t f l) [] p, 0) := by
    unfold Rf.check
    rw [if_neg (by simp [he0]), if_neg (by simp [ho0])]
  rw [hc]
  have r6n := r6.n
  have p6 := P w6 (x4.trans x46)
  simp only [srC, AtN, KS, Nat.reduceAdd, Nat.reduceMul, Nat.reduceEqDiff, ↓reduceIte, UT] at r6n
  (repeat with_reducible first | refine jy ?_ | refine jw KL12 [] (aa TF12 (aa r6n p6)) fun _ => ?_)
  refine CallW_pure call28 (rsRight (t := t) (l := l) (covers := covers) (vl := vl) (u0 := u0) (u1 := u1) (u2 := u2) (vo := vo) (vO := vO) (opts := Pl.optsOf t f l) K.cr K.n K.len K.ob l.length (Pl.optsOf t f l) [] p (.slice none 0 0) u w6 K.len (by simp [K.len]) rfl (by simp) (hl.ext y6) (ho.ext y6) ((hO h0).ext x46) s0 s1 s2 (Sl.nil _) io iw ir (hk.ext y6)) fun w7 x7 => ?_
  (repeat with_reducible first | refine jy ?_ | refine jw KL12 [] TF12 fun _ => ?_)
  refine Run_ret ?_
  simp only [Rets, RetM, resV, fnd, oneOr, ↓reduceIte, KS, Nat.reduceAdd, Nat.reduceMul, Nat.reduceEqDiff, ↓reduceIte, UT]
  exact ⟨_, rfl, _, rfl, rfl, y6.trans x7⟩
end Go.Proofs.YtldjfebokojmfaaGreat
namespace Go.Fk
open Go
end Go.Fk
namespace Go.Proofs.YtldjfebokojmfaaGreat
open Go Go.Fk
set_option linter.unusedSimpArgs false
set_option linter.unusedVariables false
set_option maxRecDepth 100000
theorem rgSameInts (va vb : Value) (l m : List Int) (w : World) (hx : Sl w va l) (hy : Sl w vb m) : Calls Tryz.prog 9 #[va, vb] w fun e w' => e = .returned (.bool (decide (l = m))) ∧ Ext w w' := by
  refine Calls_of_Run (args := [va, vb]) (n := 8) (rs := [.tmp 4]) Tryz.func9 rfl rfl rfl (by simp) ?_
  (repeat with_reducible first | refine jy ?_ | refine jw KL9 [] TF9 fun _ => ?_)
  refine CallW_pure call26 (rfSameInts20 va vb l m w hx hy) fun w1 x1 => ?_
  (repeat with_reducible first | refine jy ?_ | refine jw KL9 [] TF9 fun _ => ?_)
  refine Run_ret ?_
  simp only [Rets, RetM, resV, fnd, oneOr, ↓reduceIte, KS, Nat.reduceAdd, Nat.reduceMul, Nat.reduceEqDiff, ↓reduceIte, UT]
  exact ⟨_, rfl, rfl, x1⟩
set_option maxHeartbeats 2000000 in
theorem rgSame : ∀ (n : Nat) (x : RefusalD) (va vb : Value) (w : World), SizeOf.sizeOf x ≤ n → Sl w va x.kids → Sl w vb x.kids → Calls Tryz.prog 10 #[.agg (x.cs va).toArray, .agg (x.cs vb).toArray] w fun e w' => e = .returned (.bool true) ∧ Ext w w' := by
  intro n
  induction n with
  | zero =>
    intro x va vb w hn
    cases x; simp only [RefusalD.mk.sizeOf_spec] at hn; omega
  | succ n ih =>
    intro x va vb w hn ha hb
    have has := ha.s
    have hal := ha.len
    have hbs := hb.s
    have hbl := hb.len
    refine Calls_of_Run (args := [.agg (x.cs va).toArray, .agg (x.cs vb).toArray]) (n := 53) (rs := [.tmp 4]) Tryz.func10 rfl rfl rfl (by simp) ?_
    (repeat with_reducible first | refine jy ?_ | refine jw KL10 [6] TF10 fun _ => ?_)
    refine SemW_box fun pa w1 h1 => SemW_box fun pb w2 h2 => ?_
    have y2 := h1.ext.trans h2.ext
    have A : ∀ w', Ext w2 w' → AtN w' pa 0 (x.cs va) := fun w' x => (h1.at_.ext (h2.ext.trans x)).n
    have B : ∀ w', Ext w2 w' → AtN w' pb 0 (x.cs vb) := fun w' x => (h2.at_.ext x).n
    simp only [RefusalD.cs, AtN, KS, Nat.reduceAdd, Nat.reduceMul, Nat.reduceEqDiff, ↓reduceIte, UT] at A B
    have a2 := A w2 (Ext.refl _)
    have b2 := B w2 (Ext.refl _)
    (repeat with_reducible first | refine jy ?_ | refine jw KL10 [6] (aa TF10 (aa a2 (aa b2 (aa has (aa hal (aa hbs (aa hbl KX))))))) fun _ => ?_)
    refine ⟨by kernel_rfl, ?_⟩
    refine Run_condS (fun _ => rfl) (fun h => by simp at h) (fun _ => ?_)
    (repeat with_reducible first | refine jy ?_ | refine jw KL10 [6] TF10 fun _ => ?_)
    refine Run_loopV [4, 5, 38, 52] (σ := Nat) (fun i => [(5, some (.int .i64 i)), (4, some (.bool false))]) (fun i w' => i ≤ x.kids.length ∧ Ext w2 w') (fun i => x.kids.length - i) 0 (by simp [SubB, fnd]) ⟨by omega, Ext.refl _⟩ ?_
    rintro i w3 ⟨hi, x3⟩
    have a3 := A w3 x3
    have hbig := ha.big
    (repeat with_reducible first | refine jy ?_ | refine jw KL10 [6] (aa TF10 (aa a3 (aa has hal))) fun _ => ?_)
    refine Run_condS (fun _ => rfl) (fun h => ?_) (fun h => ?_)
    · simp at h
      have hik : i < x.kids.length := by omega
      have hikc : (i : Int) < x.kids.length := by omega
      clear h
      have b3 := B w3 x3
      obtain ⟨u1, c1, c2⟩ := (ha.ext (y2.trans x3)).refusal hik
      obtain ⟨u2, d1, d2⟩ := (hb.ext (y2.trans x3)).refusal hik
      obtain ⟨u1', hc1, _, _, _, k1⟩ := c2.op
      obtain ⟨u2', hc2, _, _, _, k2⟩ := d2.op
      have e1 : u1 = u1' := by simpa [RefusalD.cs] using hc1
      have e2 : u2 = u2' := by simpa [RefusalD.cs] using hc2
      subst e1 e2
      have hlt := kid_lt hik
      generalize x.kids[i] = y at *
      simp only [RefusalD.cs, AtN, KS, Nat.reduceAdd, Nat.reduceMul, Nat.reduceEqDiff, ↓reduceIte, UT] at c1 d1
      (repeat with_reducible first | refine jy ?_ | refine jw KL10 [6] (aa TF10 (aa a3 (aa b3 (aa c1 (aa d1 (aa has (aa hal (aa hbs hbl)))))))) fun _ => ?_)
      refine ⟨.bool true, PC_pure call10 fun w4 x4 => ih y u1 u2 w4 (by omega) (k1.ext x4) (k2.ext x4), by simp [IsB], fun w4 x4 => ?_⟩
      refine Run_condS (fun _ => rfl) (fun h => by cases h) (fun _ => ?_)
      (repeat with_reducible first | refine jy ?_ | refine jw KL10 [6] TF10 fun _ => ?_)
      exact Run_lp ⟨i + 1, by simp [SubB, fnd, strike, has], ⟨by omega, x3.trans x4⟩, by omega⟩
    simp at h
    obtain rfl : i = x.kids.length := by omega
    (repeat with_reducible first | refine jy ?_ | refine jw KL10 [6] TF10 fun _ => ?_)
    refine Run_ret ?_
    simp only [Rets, RetM, resV, fnd, oneOr, ↓reduceIte, KS, Nat.reduceAdd, Nat.reduceMul, Nat.reduceEqDiff, ↓reduceIte, UT]
    exact ⟨_, rfl, rfl, y2.trans x3⟩
set_option maxHeartbeats 2000000 in
theorem rgSize : ∀ (n : Nat) (x : RefusalD) (va : Value) (m : Int) (w : World), SizeOf.sizeOf x ≤ n → 1 ≤ m ∧ m ≤ 100000 → Sl w va x.kids → Calls Tryz.prog 27 #[.agg (x.cs va).toArray, .int .i64 m] w fun e w' => ∃ k : Int, e = .returned (.int .i64 k) ∧ Ext w w' ∧ 1 ≤ k ∧ k ≤ m := by
  intro n
  induction n with
  | zero =>
    intro x va m w hn
    cases x; simp only [RefusalD.mk.sizeOf_spec] at hn; omega
  | succ n ih =>
    intro x va m w hn hm ha
    have has := ha.s
    have hal := ha.len
    refine Calls_of_Run (args := [.agg (x.cs va).toArray, .int .i64 m]) (n := 31) (rs := [.tmp 4]) Tryz.func27 rfl rfl rfl (by simp) ?_
    (repeat with_reducible first | refine jy ?_ | refine jw KL27 [] TF27 fun _ => ?_)
    refine SemW_box fun pa w2 h2 => ?_
    have y2 := h2.ext
    have A : ∀ w', Ext w2 w' → AtN w' pa 0 (x.cs va) := fun w' x => (h2.at_.ext x).n
    simp only [RefusalD.cs, AtN, KS, Nat.reduceAdd, Nat.reduceMul, Nat.reduceEqDiff, ↓reduceIte, UT] at A
    (repeat with_reducible first | refine jy ?_ | refine jw KL27 [] TF27 fun _ => ?_)
    refine Run_loopV [5, 6, 16] (σ := Nat × Int) (fun i => [(6, some (.int .i64 i.1)), (5, some (.int .i64 i.2))]) (fun i w' => i.1 ≤ x.kids.length ∧ Ext w2 w' ∧ 1 ≤ i.2 ∧ i.2 ≤ m) (fun i => x.kids.length - i.1) (0, 1) (by simp [SubB, fnd]) ⟨by simp, Ext.refl _, by simp, by simp; omega⟩ ?_
    rintro ⟨i, k⟩ w3 ⟨hi, x3, hk1, hk2⟩
    simp only at hi x3 hk1 hk2
    have a3 := A w3 x3
    have hbig := ha.big
    (repeat with_reducible first | refine jy ?_ | refine jw KL27 [] (aa TF27 (aa a3 (aa has hal))) fun _ => ?_)
    refine Run_condS (fun _ => rfl) (fun h => ?_) (fun h => ?_)
    · simp at h
      have hik : i < x.kids.length := by omega
      have hikc : (i : Int) < x.kids.length := by omega
      have hkm : k < m := by omega
      clear h
      obtain ⟨u1, c1, c2⟩ := (ha.ext (y2.trans x3)).refusal hik
      obtain ⟨u1', hc1, _, _, _, k1⟩ := c2.op
      have e1 : u1 = u1' := by simpa [RefusalD.cs] using hc1
      subst e1
      have hlt := kid_lt hik
      generalize x.kids[i] = y at *
      simp only [RefusalD.cs, AtN, KS, Nat.reduceAdd, Nat.reduceMul, Nat.reduceEqDiff, ↓reduceIte, UT] at c1
      (repeat with_reducible first | refine jy ?_ | refine jw KL27 [] (aa TF27 (aa a3 (aa c1 (aa has hal)))) fun _ => ?_)
      refine CallW_gen call27 (ih y u1 (m - k) w3 (by omega) (by omega) k1) fun e w4 ⟨k2, he, x4, g1, g2⟩ => ⟨_, he, ?_⟩
      (repeat with_reducible first | refine jy ?_ | refine jw KL27 [] TF27 fun _ => ?_)
      exact Run_lp ⟨(i + 1, k + k2), by simp [SubB, fnd, strike, has], ⟨by show i + 1 ≤ x.kids.length; omega, x3.trans x4, by show 1 ≤ k + k2; omega, by show k + k2 ≤ m; omega⟩, by show x.kids.length - (i + 1) < x.kids.length - i; omega⟩
    (repeat with_reducible first | refine jy ?_ | refine jw KL27 [] TF27 fun _ => ?_)
    refine Run_ret ?_
    simp only [Rets, RetM, resV, fnd, oneOr, ↓reduceIte, KS, Nat.reduceAdd, Nat.reduceMul, Nat.reduceEqDiff, ↓reduceIte, UT]
    exact ⟨_, rfl, _, rfl, y2.trans x3, hk1, hk2⟩
theorem rgFewProof (x : RefusalD) (va : Value) (w : World) (ha : Sl w va x.kids) : Calls Tryz.prog 11 #[.agg (x.cs va).toArray] w fun e w' => ∃ b : Bool, e = .returned (.bool b) ∧ Ext w w' := by
  refine Calls_of_Run (args := [.agg (x.cs va).toArray]) (n := 6) (rs := [.tmp 2]) Tryz.func11 rfl rfl rfl (by simp) ?_
  (repeat with_reducible first | refine jy ?_ | refine jw KL11 [] TF11 fun _ => ?_)
  refine SemW_box fun pa w2 h2 => ?_
  have a2 := h2.at_.n
  simp only [RefusalD.cs, AtN, KS, Nat.reduceAdd, Nat.reduceMul, Nat.reduceEqDiff, ↓reduceIte, UT] at a2
  (repeat with_reducible first | refine jy ?_ | refine jw KL11 [] (aa TF11 a2) fun _ => ?_)
  refine CallW_gen call27 (rgSize (SizeOf.sizeOf x) x va 5001 w2 (Nat.le_refl _) (by decide) (ha.ext h2.ext)) fun e w4 ⟨k2, he, x4, g1, g2⟩ => ⟨_, he, ?_⟩
  (repeat with_reducible first | refine jy ?_ | refine jw KL11 [] TF11 fun _ => ?_)
  refine Run_ret ?_
  simp only [Rets, RetM, resV, fnd, oneOr, ↓reduceIte, KS, Nat.reduceAdd, Nat.reduceMul, Nat.reduceEqDiff, ↓reduceIte, UT]
  exact ⟨_, rfl, _, rfl, h2.ext.trans x4⟩
theorem rgFew (vl u0 u1 u2 vo : Value) (t : TimeD) (f : TariffD) (l : List OrderD) (w : World) (hl : Sl w vl t.Lines) (hT : TarR w f u0 u1 u2) (ho : Sl w vo l) :
    Calls Tryz.prog 6 #[.agg (t.cs vl).toArray, .agg (f.cs u0 u1 u2).toArray, vo] w fun e w' => ∃ b : Bool, e = .returned (.bool b) ∧ Ext w w' ∧ (b = true → l.length ≤ 4) := by
  have hos := ho.s
  have hol := ho.len
  refine Calls_of_Run (args := [.agg (t.cs vl).toArray, .agg (f.cs u0 u1 u2).toArray, vo]) (n := 16) (rs := [.tmp 6]) Tryz.func6 rfl rfl rfl (by simp) ?_
  (repeat with_reducible first | refine jy ?_ | refine jw KL6 [] TF6 fun _ => ?_)
  refine SemW_box fun pt w1 h1 => SemW_box fun pf w2 h2 => ?_
  have y2 := h1.ext.trans h2.ext
  have T := (h1.at_.ext h2.ext).n
  have F := h2.at_.n
  simp only [TimeD.cs, TariffD.cs, AtN, KS, Nat.reduceAdd, Nat.reduceMul, Nat.reduceEqDiff, ↓reduceIte, UT] at T F
  (repeat with_reducible first | refine jy ?_ | refine jw KL6 [] (aa TF6 (aa hos (aa hol (aa T F)))) fun _ => ?_)
  by_cases h4 : l.length ≤ 4
  · have e4 : decide ((l.length : Int) ≤ 4) = true := decide_eq_true (by omega)
    refine .inl (.inl ⟨e4, CallW_gen call16 (rfFew22 vl u0 u1 u2 vo t f l w2 (hl.ext y2) (hT.ext y2) (ho.ext y2)) fun e w4 ⟨b, he, x4⟩ => ⟨_, he, ?_⟩⟩)
    unfold hush
    (repeat with_reducible first | refine jy ?_ | refine jw KL6 [] (aa TF6 (aa hos (aa hol (aa T (aa F (aa e4 KX)))))) fun _ => ?_)
    refine Run_ret ?_
    simp only [Rets, RetM, resV, fnd, oneOr, ↓reduceIte, KS, Nat.reduceAdd, Nat.reduceMul, Nat.reduceEqDiff, ↓reduceIte, UT]
    exact ⟨_, rfl, _, rfl, y2.trans x4, fun _ => h4⟩
  · have e4 : decide ((l.length : Int) ≤ 4) = false := decide_eq_false (by omega)
    refine .inl (.inr ⟨e4, ?_⟩)
    unfold hush
    (repeat with_reducible first | refine jy ?_ | refine jw KL6 [] (aa TF6 (aa hos (aa hol (aa T (aa F (aa e4 KX)))))) fun _ => ?_)
    refine Run_ret ?_
    simp only [Rets, RetM, resV, fnd, oneOr, ↓reduceIte, KS, Nat.reduceAdd, Nat.reduceMul, Nat.reduceEqDiff, ↓reduceIte, UT]
    exact ⟨_, rfl, _, rfl, y2, fun h => by cases h⟩
end Go.Proofs.YtldjfebokojmfaaGreat
