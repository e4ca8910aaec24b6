import Derived.Test.YtldjfebokojmfaaGreatRgW23a
import Derived.Test.YtldjfebokojmfaaGreatRgGx
import Derived.Test.YtldjfebokojmfaaGreatRgP23
namespace Go.Fk
open Go
def Rf.begE (t : TimeD) (f : TariffD) (l : List OrderD) : Int := if Pl.err t f l ≠ 0 then Pl.err t f l else Pl.optsE t f l
theorem Pl.check_snd (t : TimeD) (f : TariffD) (l : List OrderD) (covers : Int) (p : PlanD) : (Pl.check t f l covers p).2 = Pl.err t f l := by
  unfold Pl.check
  by_cases h : Pl.err t f l = 0
  · rw [if_neg (by simp [h]), h]
  · rw [if_pos h]
def srC (t : TimeD) (covers : Int) (vl u0 u1 u2 vo vO : Value) : List Value := [.int .i64 t.Offices, vl, u0, u1, u2, .int .i64 covers, vo, vO]
end Go.Fk
namespace Go.Proofs.YtldjfebokojmfaaGreat
open Go Go.Fk
set_option linter.unusedSimpArgs false
set_option linter.unusedVariables false
set_option maxRecDepth 100000
theorem OpB.keepB {W0 w w' : World} {vb : Value} {opts : List (List RunD)} {q : Nat} {p : Addr} {T : TypeId} {vs : List Value} (O : OpB W0 w vb opts q) (k : Keep (fun b => b ≠ p.block) w w') (r : Row w p T vs) (h1 : T ≠ 34) (h2 : T ≠ 59) (hp : W0.heap.size ≤ p.block) : OpB W0 w' vb opts q := by
  obtain ⟨rs, c1, c2, c3⟩ := O.b
  refine ⟨Keep.ext O.e k fun b hb => by omega, rs, c1.keepQ k fun g hg e => c1.ne r h2 (by rw [hg, e]), c2, fun i a1 a2 => (c3 i a1 a2).keepQ k fun g hg e => (c3 i a1 a2).ne r h1 (by rw [hg, e])⟩
theorem srBuild {t : TimeD} {covers : Int} {vl u0 u1 u2 vo : Value} (hl : IsS vl) (h0 : IsS u0) (h1 : IsS u1) (h2 : IsS u2) (ho : IsS vo) (w' : World) : (Instr.build 56 #[(0, .agg #[.int .i64 t.Offices, vl, u0, u1, u2, .int .i64 covers]), (1, vo)]).run Tryz.prog w' = .ok (.agg (srC t covers vl u0 u1 u2 vo (.slice none 0 0)).toArray) w' := by
  rcases ho.ex with rfl | ⟨_, _, _, rfl⟩ <;> kernel_rfl
theorem srOne {t : TimeD} {covers : Int} {vl u0 u1 u2 vo vO : Value} (hl : IsS vl) (h0 : IsS u0) (h1 : IsS u1) (h2 : IsS u2) (ho : IsS vo) (hO : IsS vO) : (srC t covers vl u0 u1 u2 vo vO).all Value.oneCell' = true := by
  simp only [srC, List.all_cons, List.all_nil, isS_o hl, isS_o h0, isS_o h1, isS_o h2, isS_o ho, isS_o hO]; rfl
set_option maxHeartbeats 4000000 in
theorem rfBegin (vl u0 u1 u2 vo : Value) (t : TimeD) (f : TariffD) (l : List OrderD) (covers : Int) (w : World) (hl : Sl w vl t.Lines) (hT : TarR w f u0 u1 u2) (ho : Sl w vo l) :
    Calls Tryz.prog 17 #[.agg #[.int .i64 t.Offices, vl, u0, u1, u2, .int .i64 covers], vo] w fun e w' => ∃ vO, e = .returned (.tuple #[.agg (srC t covers vl u0 u1 u2 vo vO).toArray, .int .i64 (Rf.begE t f l)]) ∧ Ext w w' ∧ IsS vO ∧ (Rf.begE t f l = 0 → Sl w' vO (Pl.optsOf t f l)) := by
  have hos := ho.s
  have hol := ho.len
  have s0 := hl.s
  have s1 := hT.b.s
  have s2 := hT.l.s
  have s3 := hT.t.s
  refine Calls_of_Run (args := [.agg #[.int .i64 t.Offices, vl, u0, u1, u2, .int .i64 covers], vo]) (n := 56) (rs := [.cell 4 56, .tmp 5]) Tryz.func17 rfl rfl rfl (by simp) ?_
  (repeat with_reducible first | refine jy ?_ | refine jw KL17 [] TF17 fun _ => ?_)
  refine SemW_box fun pa w1 h1 => SemW_allocT ti56 fun ps w2 h2 => ?_
  have b2 := h2.blk
  have A : ∀ w', Ext w1 w' → AtN w' pa 0 [.int .i64 t.Offices, vl, u0, u1, u2, .int .i64 covers] := fun w' x => (h1.at_.ext x).n
  simp only [AtN, KS, Nat.reduceAdd, Nat.reduceMul, Nat.reduceEqDiff, ↓reduceIte, UT] at A
  have a2 := A w2 h2.ext
  have x1 := h1.ext
  have nn : IsS (.slice none 0 0) := .inl rfl
  (repeat with_reducible first | refine jy ?_ | refine jw KL17 [] (aa TF17 a2) fun _ => ?_)
  refine ⟨_, srBuild s0 s1 s2 s3 hos, ?_⟩
  refine SemW_setW (by rw [cells56]; decide) (by rw [cells56]; rfl) h2.row (by rw [cells56]; rfl) (by simpa [Value.cells] using srOne s0 s1 s2 s3 hos nn) fun w3 r3 k3 z3 => ?_
  have r3 : Row w3 ps 56 (srC t covers vl u0 u1 u2 vo (.slice none 0 0)) := r3
  have x13 : Ext w1 w3 := Keep.ext h2.ext k3 fun b hb => by omega
  have a3 := A w3 x13
  have y3 := x1.trans x13
  (repeat with_reducible first | refine jy ?_ | refine jw KL17 [] (aa TF17 a3) fun _ => ?_)
  refine ⟨.agg #[.slice none 0 0, .slice none 0 0, .slice none 0 0], fun _ => by kernel_rfl, ?_⟩
  refine CallW_pure call33 (plCheckP vl u0 u1 u2 vo (.slice none 0 0) (.slice none 0 0) (.slice none 0 0) t f l covers Pl.noPlan w3 (hl.ext y3) (hT.ext y3) (ho.ext y3) ⟨Sl.nil _, Sl.nil _, Sl.nil _⟩) fun w4 x4 => ?_
  rw [Pl.check_snd]
  have x14 := x13.trans x4
  have r4 := r3.ext x4
  (repeat with_reducible first | refine jy ?_ | refine jw KL17 [] TF17 fun _ => ?_)
  refine Run_condS (fun _ => rfl) (fun h => ?_) (fun h => ?_)
  · have he : Pl.err t f l ≠ 0 := by simpa using h
    have hb : Rf.begE t f l = Pl.err t f l := by unfold Rf.begE; rw [if_pos he]
    have r4n := r4.n
    simp only [srC, AtN, KS, Nat.reduceAdd, Nat.reduceMul, Nat.reduceEqDiff, ↓reduceIte, UT] at r4n
    (repeat with_reducible first | refine jy ?_ | refine jw KL17 [] (aa TF17 r4n) fun _ => ?_)
    refine SemW_setW (by rw [cells56]; decide) (by rw [cells56]; rfl) r4 (by rw [cells56]; rfl) (by simpa [Value.cells, srC] using srOne (t := t) (covers := covers) s0 s1 s2 s3 hos nn) fun wz rz kz zz => ?_
    have ez := loadVar_at (P := Tryz.prog) (t := 56) (by kernel_rfl) (by rw [cells56]; decide) (by rw [cells56]; rfl) rz.at_
    (repeat with_reducible first | refine jy ?_ | refine jw KL17 [] TF17 fun _ => ?_)
    refine Run_ret ?_
    simp only [Rets, RetM, resV, fnd, oneOr, ↓reduceIte, KS, Nat.reduceAdd, Nat.reduceMul, Nat.reduceEqDiff, ↓reduceIte, UT]
    refine ⟨ps, _, rfl, ez, ?_⟩
    exact ⟨_, rfl, .slice none 0 0, by rw [hb]; rfl, Keep.ext (x1.trans x14) kz fun k hk => by have := x1.size; omega, nn, fun h0 => (he (hb.symm.trans h0)).elim⟩
  have he : Pl.err t f l = 0 := by simpa using h
  clear h
  have hb : Rf.begE t f l = Pl.optsE t f l := by unfold Rf.begE; rw [if_neg (by simp [he])]
  have h64 := (Pl.err_ok he).n
  have hoptl : (Pl.optsOf t f l).length = l.length := by simp [Pl.optsOf]
  (repeat with_reducible first | refine jy ?_ | refine jw KL17 [] (aa TF17 (aa hos hol)) fun _ => ?_)
  refine Run_loopV [5, 7, 8, 9, 31, 32, 45] (σ := Nat × Value) (fun q => [(31, some (.int .i64 q.1))]) (fun q w' => q.1 ≤ l.length ∧ OpB w1 w' q.2 (Pl.optsOf t f l) q.1 ∧ Row w' ps 56 (srC t covers vl u0 u1 u2 vo q.2) ∧ Pl.optsE t f (l.drop q.1) = Pl.optsE t f l) (fun q => l.length - q.1) (0, .slice none 0 0) (by simp [SubB, fnd]) ⟨by simp, ⟨x14, [], BufO.nil, rfl, by simp⟩, r4, rfl⟩ ?_
  rintro ⟨q, vb⟩ w5 ⟨hq, O5, r5, hf⟩
  simp only at hq O5 r5 hf
  have svb : IsS vb := by
    obtain ⟨rs, b1, _⟩ := O5.b
    exact b1.isS.1
  (repeat with_reducible first | refine jy ?_ | refine jw KL17 [] TF17 fun _ => ?_)
  refine Run_condS (fun _ => rfl) (fun h => ?_) (fun h => ?_)
  · simp at h
    have hql : q < l.length := by omega
    have hqc : (q : Int) < l.length := by omega
    clear h
    have x5 := O5.e
    have y5 := x1.trans x5
    obtain ⟨g, oA, oB, hO⟩ := (ho.ext y5).ord hql
    have hone := hO.one
    rw [Pl.optsE_drop hql] at hf
    have hget : ∀ h, (Pl.optsOf t f l)[q]'h = (Pl.options t f l[q]).1 := fun h => by simp [Pl.optsOf]
    generalize l[q] = o at *
    simp only [OrderD.cs, AtN, KS, Nat.reduceAdd, Nat.reduceMul, Nat.reduceEqDiff, ↓reduceIte, UT] at oA
    (repeat with_reducible first | refine jy ?_ | refine jw KL17 [] (aa TF17 (aa hos (aa hol oA))) fun _ => ?_)
    refine SemW_allocT ti50 fun pq w6 h6 => ?_
    have b6 := h6.blk
    (repeat with_reducible first | refine jy ?_ | refine jw KL17 [] TF17 fun _ => ?_)
    refine SemW_setW (by rw [cells50]; decide) (by rw [cells50]; rfl) h6.row (by rw [cells50]; rfl) (by exact hone) fun w7 r7 k7 z7 => ?_
    have r7 : Row w7 pq 50 (o.cs g) := r7
    have x57 : Ext w5 w7 := Keep.ext h6.ext k7 fun b hb => by omega
    have a7 := A w7 (x5.trans x57)
    have o7 := r7.n
    simp only [OrderD.cs, AtN, KS, Nat.reduceAdd, Nat.reduceMul, Nat.reduceEqDiff, ↓reduceIte, UT] at o7
    (repeat with_reducible first | refine jy ?_ | refine jw KL17 [] (aa TF17 (aa a7 o7)) fun _ => ?_)
    have y7 := y5.trans x57
    refine CallW_gen call34 (plOptionsO vl t f u0 u1 u2 o g w7 (hl.ext y7) (hT.ext y7) (hO.ext x57)) fun e w8 ⟨v8, he8, x8, b8⟩ => ⟨_, he8, ?_⟩
    have x58 := x57.trans x8
    have r8 := r5.ext x58
    have r8n := r8.n
    simp only [srC, AtN, KS, Nat.reduceAdd, Nat.reduceMul, Nat.reduceEqDiff, ↓reduceIte, UT] at r8n
    (repeat with_reducible first | refine jy ?_ | refine jw KL17 [] TF17 fun _ => ?_)
    refine Run_condS (fun _ => rfl) (fun h => ?_) (fun h => ?_)
    · have he2 : (Pl.options t f o).2 ≠ 0 := by simpa using h
      rw [if_pos he2] at hf
      (repeat with_reducible first | refine jy ?_ | refine jw KL17 [] (aa TF17 r8n) fun _ => ?_)
      refine SemW_setW (by rw [cells56]; decide) (by rw [cells56]; rfl) r8 (by rw [cells56]; rfl) (by simpa [Value.cells, srC] using srOne (t := t) (covers := covers) s0 s1 s2 s3 hos svb) fun wz rz kz zz => ?_
      have ez := loadVar_at (P := Tryz.prog) (t := 56) (by kernel_rfl) (by rw [cells56]; decide) (by rw [cells56]; rfl) rz.at_
      (repeat with_reducible first | refine jy ?_ | refine jw KL17 [] TF17 fun _ => ?_)
      refine Run_ret ?_
      simp only [Rets, RetM, resV, fnd, oneOr, ↓reduceIte, KS, Nat.reduceAdd, Nat.reduceMul, Nat.reduceEqDiff, ↓reduceIte, UT]
      refine ⟨ps, _, rfl, ez, ?_⟩
      exact ⟨_, rfl, vb, by rw [hb, ← hf]; rfl, Keep.ext (y5.trans x58) kz fun k hk => by have := x1.size; omega, svb, fun h0 => (he2 (by rw [hf, ← hb]; exact h0)).elim⟩
    have he2 : (Pl.options t f o).2 = 0 := by simpa using h
    clear h
    rw [if_neg (by simp [he2])] at hf
    obtain ⟨rs, c1, c2, c3, xx, hB⟩ := O5.at_ x58
    (repeat with_reducible first | refine jy ?_ | refine jw KL17 [] (aa TF17 r8n) fun _ => ?_)
    refine SemW_append1Q (α := RawS) Tryz.underlying54 ti59 rfl (by decide) c1 hB (x := ⟨v8⟩) (by rw [isS_c b8.isS.1]; exact ⟨rfl, b8.isS.1⟩) (by rw [c2]; simp only [maxLen]; omega) fun _ v9 w9 b9 k9 g9 => ?_
    have O9 : OpB w1 w9 v9 (Pl.optsOf t f l) (q + 1) := OpB.put xx c1 c2 c3 (b8.mono (Nat.zero_le _)) hget b9 k9
    have r9 := r8.keep k9 (c1.ne r8 (by decide))
    refine SemW_setAt (i := 7) cells54 r9 (by simp [srC]) (isS_c b9.isS.1) (isS_o b9.isS.1) fun w10 r10 k10 z10 => ?_
    have r10 : Row w10 ps 56 (srC t covers vl u0 u1 u2 vo v9) := r10
    (repeat with_reducible first | refine jy ?_ | refine jw KL17 [] TF17 fun _ => ?_)
    exact Run_lp ⟨(q + 1, v9), by simp [SubB, fnd, strike, has], ⟨by show q + 1 ≤ l.length; omega, O9.keepB k10 r9 (by decide) (by decide) (by omega), r10, hf⟩, by show l.length - (q + 1) < l.length - q; omega⟩
  simp at h
  obtain rfl : q = l.length := by omega
  clear h
  rw [List.drop_length] at hf
  have hE0 : Rf.begE t f l = 0 := hb.trans hf.symm
  have r5n := r5.n
  simp only [srC, AtN, KS, Nat.reduceAdd, Nat.reduceMul, Nat.reduceEqDiff, ↓reduceIte, UT] at r5n
  (repeat with_reducible first | refine jy ?_ | refine jw KL17 [] (aa TF17 r5n) fun _ => ?_)
  refine SemW_setW (by rw [cells56]; decide) (by rw [cells56]; rfl) r5 (by rw [cells56]; rfl) (by simpa [Value.cells, srC] using srOne (t := t) (covers := covers) s0 s1 s2 s3 hos svb) fun wz rz kz zz => ?_
  have ez := loadVar_at (P := Tryz.prog) (t := 56) (by kernel_rfl) (by rw [cells56]; decide) (by rw [cells56]; rfl) rz.at_
  (repeat with_reducible first | refine jy ?_ | refine jw KL17 [] TF17 fun _ => ?_)
  refine Run_ret ?_
  simp only [Rets, RetM, resV, fnd, oneOr, ↓reduceIte, KS, Nat.reduceAdd, Nat.reduceMul, Nat.reduceEqDiff, ↓reduceIte, UT]
  refine ⟨ps, _, rfl, ez, ?_⟩
  have Oz := O5.keepB kz r5 (by decide) (by decide) (by omega)
  exact ⟨_, rfl, vb, by rw [hE0]; rfl, x1.trans Oz.e, svb, fun _ => Oz.sl hoptl (by omega) fun o ho' => by
    unfold Pl.optsOf at ho'
    obtain ⟨x, _, rfl⟩ := List.mem_map.1 ho'
    have := opts_le (t := t) (f := f) (o := x)
    omega⟩
end Go.Proofs.YtldjfebokojmfaaGreat
