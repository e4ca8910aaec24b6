import Derived.Test.YtldjfebokojmfaaGreatRgW22f
import Derived.Test.YtldjfebokojmfaaGreatRgGs
import Derived.Test.YtldjfebokojmfaaGreatRgGb
import Derived.Test.YtldjfebokojmfaaGreatRgGe
import Derived.Test.YtldjfebokojmfaaGreatRgG7
namespace Go.Proofs.YtldjfebokojmfaaGreat
open Go Go.Fk
set_option linter.unusedSimpArgs false
set_option linter.unusedVariables false
set_option maxRecDepth 100000
structure PutE (W0 : World) (pL pC pO pT : Addr) (vl vO vt : Value) (l : List OrderD) (covers : Int) (opts : List (List RunD)) (t : TimeD) : Prop where
  l_ : At W0 pL [vl]
  hl : Sl W0 vl l
  c : At W0 pC [.int .i64 covers]
  o : At W0 pO [vO]
  ho : Sl W0 vO opts
  t_ : At W0 pT (t.cs vt)
  ht : Sl W0 vt t.Lines
def PutM (w : World) (mb : Nat) (l : List OrderD) (of : List RunD) : Prop := ∃ m, MapB w mb (Tryz.prog.cellsOf 34) m ∧ LoadsAre m (Pl.load l of)
structure PutW (W0 : World) (pS pM pU : Addr) (mb : Nat) (fv : Value) (l : List OrderD) (of : List RunD) (w : World) : Prop where
  e : Ext W0 w
  s : Row w pS 3 [.int .i64 (Pl.tot l of)]
  m : ∃ T, Row w pM T [.map (some mb)]
  u : ∃ T, Row w pU T [fv]
  l : PutM w mb l of
  b : W0.heap.size ≤ pS.block ∧ W0.heap.size ≤ mb ∧ pM.block ≠ pS.block ∧ pM.block ≠ mb ∧ pU.block ≠ pS.block ∧ pU.block ≠ mb ∧ pS.block ≠ mb
theorem PutM.keep {w w' : World} {mb : Nat} {l : List OrderD} {of : List RunD} {S : Nat → Prop} (h : PutM w mb l of) (k : Keep S w w') (hs : S mb) : PutM w' mb l of := by
  obtain ⟨m, h1, h2⟩ := h
  exact ⟨m, h1.keep k hs, h2⟩
theorem PutW.ext {W0 : World} {pS pM pU : Addr} {mb : Nat} {fv : Value} {l : List OrderD} {of : List RunD} {w w' : World} (h : PutW W0 pS pM pU mb fv l of w) (x : Ext w w') : PutW W0 pS pM pU mb fv l of w' := by
  obtain ⟨T1, h1⟩ := h.m
  obtain ⟨T2, h2⟩ := h.u
  exact ⟨h.e.trans x, h.s.ext x, ⟨T1, h1.ext x⟩, ⟨T2, h2.ext x⟩, h.l.keep (Keep.of_ext (S := fun _ => True) x) trivial, h.b⟩
def PutQ (W0 : World) (pS pM pU : Addr) (mb : Nat) (fv : Value) (l : List OrderD) (of : List RunD) (r : Option (List RunD)) (w : World) (e : Ending) (w' : World) : Prop := ∃ v, e = .returned v ∧ Keep (fun b => b ≠ pS.block ∧ b ≠ mb) w w' ∧ match r with
  | none => v = .slice none 0 0 ∧ PutW W0 pS pM pU mb fv l of w'
  | some x => (∃ p n c, v = .slice (some p) n c) ∧ Sl w' v x ∧ PutM w' mb l x
theorem putUpd {W0 : World} {pS pM pU : Addr} {mb : Nat} {fv : Value} {l : List OrderD} {of of' : List RunD} {w : World} (S : PutW W0 pS pM pU mb fv l of w) (r : RunD) (x : Pl.LoadD) (z : Int) (hL : ∀ s, (if r = s then x else Pl.load l of s) = Pl.load l of' s) (hz : z = Pl.tot l of') {K : World → Prop}
    (hK : ∀ w', PutW W0 pS pM pU mb fv l of' w' → Keep (fun b => b ≠ pS.block ∧ b ≠ mb) w w' → K w') :
    SemW Tryz.prog (Instr.mapUpdate 89 (.map (some mb)) (.agg #[.int .i64 r.Line, .int .i64 r.At, .int .i64 r.Arrive]) (.agg #[.int .i64 x.n, .int .i64 x.c])) w fun _ w' => Keep (fun b => b ≠ mb) w w' ∧ SemW Tryz.prog (Instr.storeAt 3 (.pointer (some pS)) (.int .i64 z)) w' fun _ w'' => (False → Keep (fun b => b ≠ mb) w w'') ∧ K w'' := by
  have hcell : Tryz.prog.cellsOf 34 = 3 := cells34
  have hflat : flatT Tryz.prog 34 = true := by kernel_rfl
  obtain ⟨b1, b2, b3, b4, b5, b6, b7⟩ := S.b
  obtain ⟨m, hM, hLd⟩ := S.l
  refine SemW_mapUpdate (k := rk r) Tryz.underlying89 hflat hM (by rw [hcell]; rfl) fun w1 m1 k1 z1 => ⟨k1, ?_⟩
  refine SemW_set0 (by rw [cells3]) (S.s.keep k1 b7) (by simp) rfl rfl fun w2 r2 k2 z2 => ⟨fun h => h.elim, ?_⟩
  obtain ⟨T1, h1⟩ := S.m
  obtain ⟨T2, h2⟩ := S.u
  have kk : Keep (fun b => b ≠ pS.block ∧ b ≠ mb) w w2 := (k1.mono fun b _ h => h.2).trans (k2.mono fun b _ h => h.1)
  subst hz
  refine hK w2 ⟨Keep.ext S.e kk fun b hb => ⟨by omega, by omega⟩, r2, ⟨T1, h1.keep kk ⟨b3, b4⟩⟩, ⟨T2, h2.keep kk ⟨b5, b6⟩⟩, ⟨_, m1.keep k2 (Ne.symm b7), ?_⟩, S.b⟩ kk
  intro s
  exact (loads_set hLd r x s).trans (congrArg ldv (hL s))
section
variable {W0 : World} {pS pL pC pO pM pT pU : Addr} {mb : Nat} {vl vO vt : Value} {l : List OrderD} {covers : Int} {opts : List (List RunD)} {t : TimeD}
set_option maxHeartbeats 16000000 in
theorem putC (E : PutE W0 pL pC pO pT vl vO vt l covers opts t) (hlen : opts.length = l.length) (hl64 : l.length ≤ 64) (hcr : ∀ o ∈ l, 1 ≤ o.Crowd ∧ o.Crowd ≤ 64) (hopt : ∀ o ∈ opts, ∀ r ∈ o, 0 ≤ r.Line ∧ r.Line < t.Lines.length) (hcv : I64 covers) :
    ∀ (rest : List (List RunD)) (of : List RunD) (vof : Value) (w : World), opts.drop of.length = rest → of.length + rest.length = l.length →
      PutW W0 pS pM pU mb (.func (.func 36) #[] #[.pointer (some pS), .pointer (some pL), .pointer (some pC), .pointer (some pO), .pointer (some pM), .pointer (some pT), .pointer (some pU)]) l of w → Sl w vof of → (∃ p n c, vof = .slice (some p) n c) → (of ≠ [] → (slAt vof).block ≠ pS.block ∧ (slAt vof).block ≠ mb) →
      Calls Tryz.prog 36 #[vof, .pointer (some pS), .pointer (some pL), .pointer (some pC), .pointer (some pO), .pointer (some pM), .pointer (some pT), .pointer (some pU)] w
        (PutQ W0 pS pM pU mb (.func (.func 36) #[] #[.pointer (some pS), .pointer (some pL), .pointer (some pC), .pointer (some pO), .pointer (some pM), .pointer (some pT), .pointer (some pU)]) l of (Pl.psrch l (Pl.room t) covers rest of) w) := by
  intro rest
  generalize hfv : (Value.func (.func 36) #[] #[.pointer (some pS), .pointer (some pL), .pointer (some pC), .pointer (some pO), .pointer (some pM), .pointer (some pT), .pointer (some pU)]) = fv
  induction rest with
  | nil =>
    intro of vof w hdr hn S hof hnn hvb
    have ofl := hof.len
    have s1 := S.s.n
    have l1 := (E.l_.ext S.e).n
    have c1 := (E.c.ext S.e).n
    have hls := E.hl.s
    have hll := E.hl.len
    simp only [List.length_nil, Nat.add_zero] at hn
    have htot := Pl.tot_bd hcr (show of.length ≤ l.length by omega)
    have hcv' : -9223372036854775808 ≤ covers ∧ covers ≤ 9223372036854775807 := hcv
    simp only [AtN, KS, Nat.reduceAdd, Nat.reduceMul, Nat.reduceEqDiff, ↓reduceIte, UT] at s1 l1 c1
    refine Calls_of_Run (args := [vof, .pointer (some pS), .pointer (some pL), .pointer (some pC), .pointer (some pO), .pointer (some pM), .pointer (some pT), .pointer (some pU)]) (n := 93) (rs := [.tmp 9]) Tryz.func36 rfl rfl rfl (by simp) ?_
    (repeat with_reducible first | refine jy ?_ | refine jw KL36 [11, 12] (aa TF36 (aa hof.s (aa ofl (aa s1 (aa l1 (aa c1 (aa hls hll))))))) fun _ => ?_)
    refine Run_condS (fun _ => rfl) (fun h => ?_) (fun h => ?_)
    · have hb : Pl.bad l covers of = true := h
      (repeat with_reducible first | refine jy ?_ | refine jw KL36 [11, 12] TF36 fun _ => ?_)
      refine Run_ret ?_
      simp only [Rets, RetM, resV, fnd, oneOr, ↓reduceIte]
      refine ⟨_, rfl, _, rfl, Keep.refl _ _, ?_⟩
      unfold Pl.psrch
      rw [if_pos hb]
      exact ⟨rfl, S⟩
    have hb : Pl.bad l covers of = false := h
    clear h
    (repeat with_reducible first | refine jy ?_ | refine jw KL36 [11, 12] (aa TF36 (aa l1 (aa hls hll))) fun _ => ?_)
    refine Run_condS (fun _ => rfl) (fun h => ?_) (fun h => ?_)
    · (repeat with_reducible first | refine jy ?_ | refine jw KL36 [11, 12] TF36 fun _ => ?_)
      refine Run_ret ?_
      simp only [Rets, RetM, resV, fnd, oneOr, ↓reduceIte]
      refine ⟨_, rfl, _, rfl, Keep.refl _ _, ?_⟩
      unfold Pl.psrch
      rw [hb, if_neg (by simp)]
      exact ⟨hnn, hof, S.l⟩
    · exact absurd h (by simp [hn])
  | cons o rest ih =>
    intro of vof w hdr hn S hof hnn hvb
    have ofl := hof.len
    have s1 := S.s.n
    have l1 := (E.l_.ext S.e).n
    have c1 := (E.c.ext S.e).n
    have o1 := (E.o.ext S.e).n
    have hls := E.hl.s
    have hll := E.hl.len
    have hos := E.ho.s
    have hol := E.ho.len
    simp only [List.length_cons] at hn
    have htot := Pl.tot_bd hcr (show of.length ≤ l.length by omega)
    have hcv' : -9223372036854775808 ≤ covers ∧ covers ≤ 9223372036854775807 := hcv
    simp only [AtN, KS, Nat.reduceAdd, Nat.reduceMul, Nat.reduceEqDiff, ↓reduceIte, UT] at s1 l1 c1 o1
    refine Calls_of_Run (args := [vof, .pointer (some pS), .pointer (some pL), .pointer (some pC), .pointer (some pO), .pointer (some pM), .pointer (some pT), .pointer (some pU)]) (n := 93) (rs := [.tmp 9]) Tryz.func36 rfl rfl rfl (by simp) ?_
    (repeat with_reducible first | refine jy ?_ | refine jw KL36 [11, 12] (aa TF36 (aa hof.s (aa ofl (aa s1 (aa l1 (aa c1 (aa hls hll))))))) fun _ => ?_)
    refine Run_condS (fun _ => rfl) (fun h => ?_) (fun h => ?_)
    · have hb : Pl.bad l covers of = true := h
      (repeat with_reducible first | refine jy ?_ | refine jw KL36 [11, 12] TF36 fun _ => ?_)
      refine Run_ret ?_
      simp only [Rets, RetM, resV, fnd, oneOr, ↓reduceIte]
      refine ⟨_, rfl, _, rfl, Keep.refl _ _, ?_⟩
      unfold Pl.psrch
      rw [if_pos hb]
      exact ⟨rfl, S⟩
    have hb : Pl.bad l covers of = false := h
    clear h
    (repeat with_reducible first | refine jy ?_ | refine jw KL36 [11, 12] (aa TF36 (aa l1 (aa hls hll))) fun _ => ?_)
    refine Run_condS (fun _ => rfl) (fun h => ?_) (fun h => ?_)
    · exact absurd h (by simp; omega)
    clear h
    have hk : of.length < opts.length := by omega
    have hkl : of.length < l.length := by omega
    have hkc : (of.length : Int) < opts.length := by omega
    have hko : opts[of.length] = o := by
      have := List.drop_eq_getElem_cons hk
      rw [hdr] at this
      exact (List.cons.inj this).1.symm
    have hdr2 : opts.drop (of.length + 1) = rest := by
      have := List.drop_eq_getElem_cons hk
      rw [hdr] at this
      exact (List.cons.inj this).2.symm
    have hps : Pl.psrch l (Pl.room t) covers (o :: rest) of = o.findSome? fun r => if Pl.step l (Pl.room t) of r then Pl.psrch l (Pl.room t) covers rest (of ++ [r]) else none := by
      conv => lhs; unfold Pl.psrch
      rw [hb, if_neg (by simp)]
    rw [hps]
    generalize hf : (fun r => if Pl.step l (Pl.room t) of r then Pl.psrch l (Pl.room t) covers rest (of ++ [r]) else none) = f
    obtain ⟨cs, ⟨vk, rfl, sk0⟩, ak⟩ := E.ho.at_ of.length hk
    rw [hko] at sk0
    rw [show of.length * Enc.n (List RunD) = of.length from Nat.mul_one _] at ak
    have ak1 := (ak.ext S.e).n
    simp only [AtN, KS, Nat.reduceAdd, Nat.reduceMul, Nat.reduceEqDiff, ↓reduceIte, UT] at ak1
    have skl := sk0.len
    (repeat with_reducible first | refine jy ?_ | refine jw KL36 [11, 12] (aa TF36 (aa o1 (aa hos (aa hol (aa ak1 (aa sk0.s skl)))))) fun _ => ?_)
    have hcell : Tryz.prog.cellsOf 34 = 3 := cells34
    have hflat : flatT Tryz.prog 34 = true := by kernel_rfl
    have osm := sk0.small
    have hoin : o ∈ opts := by rw [← hko]; exact List.getElem_mem hk
    refine Run_loopV [9, 12, 13, 14, 15, 16, 37, 38, 62, 84] (σ := Nat) (fun q => [(37, some (.int .i64 q))]) (fun q w' => q ≤ o.length ∧ (o.drop q).findSome? f = o.findSome? f ∧ PutW W0 pS pM pU mb fv l of w' ∧ Keep (fun b => b ≠ pS.block ∧ b ≠ mb) w w') (fun q => o.length - q) 0 (by simp [SubB, fnd]) ⟨by omega, rfl, S, Keep.refl _ _⟩ ?_
    rintro q w1 ⟨hq, hfs, S1, k1⟩
    (repeat with_reducible first | refine jy ?_ | refine jw KL36 [11, 12] TF36 fun _ => ?_)
    refine Run_condS (fun _ => rfl) (fun h => ?_) (fun h => ?_)
    · simp at h
      have hql : q < o.length := by omega
      have hqc : (q : Int) < o.length := by omega
      clear h
      obtain ⟨r1, r2⟩ := (sk0.ext S1.e).runD hql
      have hline := hopt o hoin o[q] (List.getElem_mem hql)
      have hfr : f o[q] = if Pl.step l (Pl.room t) of o[q] then Pl.psrch l (Pl.room t) covers rest (of ++ [o[q]]) else none := by rw [← hf]
      have hskip := fun e => Pl.findS_skip (f := f) hql e
      have hhit := fun x e => Pl.findS_hit (f := f) (x := x) hql e
      generalize o[q] = r at *
      simp only [RunD.cs, AtN, KS, Nat.reduceAdd, Nat.reduceMul, Nat.reduceEqDiff, ↓reduceIte, UT] at r1
      (repeat with_reducible first | refine jy ?_ | refine jw KL36 [11, 12] (aa TF36 (aa sk0.s (aa skl r1))) fun _ => ?_)
      refine SemW_allocT ti34 fun pr w2 h2 => ?_
      have b2 := h2.blk
      (repeat with_reducible first | refine jy ?_ | refine jw KL36 [11, 12] TF36 fun _ => ?_)
      refine SemW_setW (by rw [cells34]; decide) (by rw [cells34]; rfl) h2.row (by rw [cells34]; rfl) rfl fun w3 r3 k3 z3 => ?_
      have r3 : Row w3 pr 34 r.cs := by simpa [Value.cells, RunD.cs] using r3
      have x3 : Ext w1 w3 := Keep.ext h2.ext k3 fun b hb => by omega
      have S3 := S1.ext x3
      obtain ⟨T1, m3⟩ := S3.m
      have m3n := m3.n
      have r3n := r3.n
      simp only [RunD.cs, AtN, KS, Nat.reduceAdd, Nat.reduceMul, Nat.reduceEqDiff, ↓reduceIte, UT] at m3n r3n
      (repeat with_reducible first | refine jy ?_ | refine jw KL36 [11, 12] (aa TF36 (aa m3n r3n)) fun _ => ?_)
      obtain ⟨mm, hM, hL⟩ := S3.l
      refine SemW_lookup (k := rk r) Tryz.underlying89 hflat ti92 hM (by rw [hcell]; rfl) ?_
      simp only [Bool.false_eq_true, if_false]
      have hz' : (mget mm (rk r)).getD (.agg #[.int .i64 0, .int .i64 0]) = ldv (Pl.load l of r) := hL r
      rw [hz']
      have hxb := Pl.load_bd hcr of r
      have hsn := Pl.load_snoc (l := l) (of := of) hkl r r
      rw [if_pos rfl] at hsn
      have hst : Pl.step l (Pl.room t) of r = decide (max ((Pl.load l of r).wth l[of.length]).n ((Pl.load l of r).wth l[of.length]).c ≤ Pl.room t r) := by unfold Pl.step; rw [hsn]
      have htn := Pl.tot_snoc l of r
      rw [hsn] at htn
      have hcb := Pl.cov_bd hcr of r
      have hcb2 := Pl.cov_bd hcr (of ++ [r]) r
      rw [hsn] at hcb2
      have hxb2 := Pl.load_bd hcr (of ++ [r]) r
      rw [hsn] at hxb2
      have hcrk := hcr _ (List.getElem_mem hkl)
      clear hz' hM hL mm
      generalize hx : Pl.load l of r = x at hxb hsn hst htn hcb hcb2 hxb2 ⊢
      obtain ⟨g, _, gAt0, hO2⟩ := E.hl.ord hkl
      have hone2 := hO2.one
      generalize hok : l[of.length] = ok at *
      generalize hnw : x.wth ok = nw at *
      (repeat with_reducible first | refine jy ?_ | refine jw KL36 [11, 12] TF36 fun _ => ?_)
      refine SemW_allocT ti92 fun po w4 h4 => ?_
      have b4 := h4.blk
      refine SemW_setW (by rw [cells92]; decide) (by rw [cells92]; rfl) h4.row (by rw [cells92]; rfl) rfl fun w5 r5 k5 z5 => ?_
      have r5 : Row w5 po 92 [.int .i64 x.n, .int .i64 x.c] := by simpa [Value.cells, ldv] using r5
      have x5 : Ext w3 w5 := Keep.ext h4.ext k5 fun b hb => by omega
      have S5 := S3.ext x5
      have s5 := h4.row.lt
      (repeat with_reducible refine js ?_)
      refine Run_cutV [14] (σ := Addr) (fun a => [(14, some (.pointer (some a)))]) (fun a w' => Row w' a 92 [.int .i64 nw.n, .int .i64 nw.c] ∧ w5.heap.size ≤ a.block ∧ Ext w5 w') ?_ ?_
      · (repeat with_reducible refine js ?_)
        refine Run_ec (id := 10) KL36 (.first 0 (.first 1 (.first 2 (.first 3 (.first 4 (.alt 5 (.alt 6 (.alt 7 .done .stop) .stop) (.alt 6 (.alt 5 (.alt 7 .done .stop) .stop) .stop))))))) mixed (by kernel_rfl) (by kernel_rfl) fun w6 x6 _ => ?_
        have S6 := S5.ext x6
        have l6 := (E.l_.ext S6.e).n
        have g6 := (gAt0.ext S6.e).n
        have r6 := (r5.ext x6).n
        simp only [OrderD.cs, AtN, KS, Nat.reduceAdd, Nat.reduceMul, Nat.reduceEqDiff, ↓reduceIte, UT] at l6 g6 r6
        (try simp (maxSteps := 5000000) only [KS, Nat.reduceAdd, Nat.reduceMul, Nat.reduceEqDiff, ↓reduceIte, forall_const, Int.cast_ofNat_Int, Int.reduceToNat, List.take_succ_cons, List.take_zero, List.drop_succ_cons, List.drop_zero, TF36, KL36, ec, l6, g6, r6, hls, hll]); (try simp (disch := omega) only [wrapI, tmodI, tdivI])
        (try simp (maxSteps := 5000000) only [KS, Nat.reduceAdd, Nat.reduceMul, Nat.reduceEqDiff, ↓reduceIte, forall_const, Int.cast_ofNat_Int, Int.reduceToNat, List.take_succ_cons, List.take_zero, List.drop_succ_cons, List.drop_zero, TF36, KL36, ec, l6, g6, r6, hls, hll]); (try simp (disch := omega) only [wrapI, tmodI, tdivI])
        have hxn : 0 ≤ x.n ∧ x.n ≤ 1000000000000000 := by omega
        have hcall : ∀ w' (K : Value → World → Prop), (∀ w'', Ext w' w'' → K (.agg #[.int .i64 nw.n, .int .i64 nw.c]) w'') → CallW Tryz.prog (.func (.func 37) #[] #[]) [.agg #[.int .i64 x.n, .int .i64 x.c], .agg #[.int .i64 ok.From, .int .i64 ok.Person, .int .i64 ok.Dest, .int .i64 ok.Class, .int .i64 ok.After, .int .i64 ok.By, .int .i64 ok.Crowd, .int .i64 ok.Pay, g, .bool ok.Back, .int .i64 ok.Else]] w' K := fun w' K hK => by
          have := ldWith x ok g w' hxn hcrk
          rw [hnw] at this
          exact CallW_pure call37 this hK
        have s6 := x6.size
        refine ⟨⟨by omega, by omega⟩, Ext.refl _, hcall _ _ fun w7 x7 => ⟨x7, SemW_allocT ti92 fun pn w8 h8 => ⟨x7.trans h8.ext, ?_⟩⟩, Ext.refl _, SemW_allocT ti92 fun pn w8 h8 => ⟨h8.ext, hcall _ _ fun w9 x9 => ⟨h8.ext.trans x9, ?_⟩⟩⟩
        · have b8 := h8.blk
          have s7 := x7.size
          refine SemW_setW (by rw [cells92]; decide) (by rw [cells92]; rfl) h8.row (by rw [cells92]; rfl) rfl fun w9 r9 k9 z9 => ?_
          have r9 : Row w9 pn 92 [.int .i64 nw.n, .int .i64 nw.c] := by simpa [Value.cells] using r9
          have x69 : Ext w6 w9 := Keep.ext (x7.trans h8.ext) k9 fun b hb => by omega
          refine ⟨x69, ?_⟩
          (repeat with_reducible first | refine jy ?_ | refine jw KL36 [11, 12] TF36 fun _ => ?_)
          exact Run_lp ⟨pn, by simp [SubB, fnd, strike, has], r9, by omega, x6.trans x69⟩
        · have b8 := h8.blk
          refine SemW_setW (by rw [cells92]; decide) (by rw [cells92]; rfl) (h8.row.ext x9) (by rw [cells92]; rfl) rfl fun w10 r9 k9 z9 => ?_
          have r9 : Row w10 pn 92 [.int .i64 nw.n, .int .i64 nw.c] := by simpa [Value.cells] using r9
          have x69 : Ext w6 w10 := Keep.ext (h8.ext.trans x9) k9 fun b hb => by omega
          refine ⟨x69, ?_⟩
          (repeat with_reducible first | refine jy ?_ | refine jw KL36 [11, 12] TF36 fun _ => ?_)
          exact Run_lp ⟨pn, by simp [SubB, fnd, strike, has], r9, by omega, x6.trans x69⟩
      rintro pn w6 ⟨r6, b6, x6⟩
      have S6 := S5.ext x6
      have t6 := (E.t_.ext S6.e).n
      have n6 := r6.n
      have pr6 := ((r3.ext x5).ext x6).n
      have po6 := (r5.ext x6).n
      have hln : r.Line.toNat < t.Lines.length := by omega
      obtain ⟨l0, l1', l2, l3, _, lA, lR⟩ := (E.ht.ext S6.e).line hln
      have hroom : Pl.room t r = t.Lines[r.Line.toNat].Room := by
        unfold Pl.room Pl.lineR
        rw [List.getD_eq_getElem?_getD, List.getElem?_eq_getElem hln]; rfl
      have lAn := lA.n
      have hts := E.ht.s
      have htl := E.ht.len
      simp only [TimeD.cs, RunD.cs, LineD.cs, AtN, KS, Nat.reduceAdd, Nat.reduceMul, Nat.reduceEqDiff, ↓reduceIte, UT] at t6 n6 pr6 po6 lAn
      rw [← hroom] at lAn
      (repeat with_reducible first | refine jy ?_ | refine jw KL36 [11, 12] (aa TF36 (aa t6 (aa n6 (aa pr6 (aa hts (aa htl (aa lAn KX))))))) fun _ => ?_)
      intro w7 x7
      have S7 := S6.ext x7
      have k17 : Keep (fun b => b ≠ pS.block ∧ b ≠ mb) w w7 := k1.trans (Keep.of_ext (x3.trans (x5.trans (x6.trans x7))))
      refine Run_condS (fun _ => rfl) (fun h => ?_) (fun h => ?_)
      · have hno : Pl.step l (Pl.room t) of r = false := by rw [hst]; simp at h ⊢; omega
        clear h
        rw [hno, if_neg (by simp)] at hfr
        (repeat with_reducible first | refine jy ?_ | refine jw KL36 [11, 12] TF36 fun _ => ?_)
        exact Run_lp ⟨q + 1, by simp [SubB, fnd, strike, has], ⟨by omega, by rw [← hskip hfr]; exact hfs, S7, k17⟩, by omega⟩
      have hyes : Pl.step l (Pl.room t) of r = true := by rw [hst]; simp at h ⊢; omega
      clear h
      rw [hyes, if_pos rfl] at hfr
      have n7 := (r6.ext x7).n
      have po7 := (r5.ext (x6.trans x7)).n
      simp only [AtN, KS, Nat.reduceAdd, Nat.reduceMul, Nat.reduceEqDiff, ↓reduceIte, UT] at n7 po7
      (repeat with_reducible first | refine jy ?_ | refine jw KL36 [11, 12] (aa TF36 (aa n7 po7)) fun _ => ?_)
      have hnn' : 0 ≤ nw.n ∧ nw.n ≤ 1000000000000000 := by omega
      refine ⟨.int .i64 nw.covers, PC_pure call38 fun w8 x8 => ldCovers nw w8 hnn' (by omega), .int .i64 x.covers, PC_pure call38 fun w8 x8 => ldCovers x w8 (by omega) (by omega), ⟨rfl, rfl⟩, fun w8 x8 => ?_⟩
      simp only [iOf_mk]
      rw [wrapI (by omega) (by omega)]
      have S8 := S7.ext x8
      have k18 : Keep (fun b => b ≠ pS.block ∧ b ≠ mb) w w8 := k17.trans (Keep.of_ext x8)
      let S : Nat → Prop := fun b => b ≠ mb
      (repeat with_reducible refine js ?_)
      refine Run_eh S [7] [(0, [7]), (1, [7]), (2, [7]), (3, [7])] (id := 13) KL36 (.first 0 (.first 1 (.first 2 (.first 3 (.first 4 (.first 5 (.alt true 6 (.alt true 7 (.done false) .stop) .stop))))))) mixed (by kernel_rfl) (by kernel_rfl) fun w9 x9 _ => ?_
      have S9 := S8.ext x9
      obtain ⟨T9, m9⟩ := S9.m
      have m9n := m9.n
      have s9n := S9.s.n
      have pr9 := (r3.ext (x5.trans (x6.trans (x7.trans (x8.trans x9))))).n
      have n9 := (r6.ext (x7.trans (x8.trans x9))).n
      simp only [RunD.cs, AtN, KS, Nat.reduceAdd, Nat.reduceMul, Nat.reduceEqDiff, ↓reduceIte, UT] at m9n s9n pr9 n9
      (try simp (maxSteps := 5000000) only [KS, Nat.reduceAdd, Nat.reduceMul, Nat.reduceEqDiff, ↓reduceIte, forall_const, Int.cast_ofNat_Int, Int.reduceToNat, List.take_succ_cons, List.take_zero, List.drop_succ_cons, List.drop_zero, TF36, KL36, eh, gres, qopS, putL, ung, m9n, s9n, pr9, n9]); (try simp (disch := omega) only [wrapI, tmodI, tdivI])
      obtain ⟨B1, B2, B3, B4, B5, B6, B7⟩ := S9.b
      have hmb1 : mb < w1.heap.size := by
        obtain ⟨_, hM, _⟩ := S1.l
        exact hM.lt
      have s15 := x3.size
      have hprmb : pr.block ≠ mb := by omega
      have hpnmb : pn.block ≠ mb := by have := x5.size; omega
      have hpSl := S1.s.lt
      refine ⟨B4, hprmb, hpnmb, B7, Keep.refl _ _, ?_⟩
      refine putUpd (of' := of ++ [r]) S9 r nw _ (fun s => ?_) (by rw [htn]) fun w10 S10 k10 => ?_
      · rw [Pl.load_snoc hkl, hok]
        by_cases e : r = s
        · subst e; rw [if_pos rfl, if_pos rfl, hx, hnw]
        · rw [if_neg e, if_neg e]
      have k110 : Keep (fun b => b ≠ pS.block ∧ b ≠ mb) w w10 := (k18.trans (Keep.of_ext x9)).trans k10
      have k310 : Keep (fun b => b ≠ pS.block ∧ b ≠ mb) w3 w10 := (Keep.of_ext (x5.trans (x6.trans (x7.trans (x8.trans x9))))).trans k10
      have k510 : Keep (fun b => b ≠ pS.block ∧ b ≠ mb) w5 w10 := (Keep.of_ext (x6.trans (x7.trans (x8.trans x9)))).trans k10
      have k610 : Keep (fun b => b ≠ pS.block ∧ b ≠ mb) w6 w10 := (Keep.of_ext (x7.trans (x8.trans x9))).trans k10
      have hprS : pr.block ≠ pS.block ∧ pr.block ≠ mb := ⟨by omega, hprmb⟩
      have hpoS : po.block ≠ pS.block ∧ po.block ≠ mb := ⟨by omega, by omega⟩
      have pr10 := r3.keep k310 hprS
      have po10 := r5.keep k510 hpoS
      let S : Nat → Prop := fun b => True
      (repeat with_reducible refine js ?_)
      refine Run_eh S [8] [(0, [8]), (5, [6, 7, 8])] (id := 14) KL36 (.first 0 (.first 1 (.first 2 (.first 3 (.first 4 (.first 5 (.alt true 6 (.alt true 7 (.alt true 8 (.free (.first 9 .done)) .stop) .stop) .stop))))))) mixed (by kernel_rfl) (by kernel_rfl) fun w11 x11 _ => ?_
      have S11 := S10.ext x11
      obtain ⟨T11, u11⟩ := S11.u
      have u11n := u11.n
      have pr11 := (pr10.ext x11).n
      obtain ⟨pf, nf, cf, hvof⟩ := hnn
      have hofl : nf = of.length := by rw [hvof] at ofl; simpa using ofl
      have hofc := hof.cap
      simp only [RunD.cs, AtN, KS, Nat.reduceAdd, Nat.reduceMul, Nat.reduceEqDiff, ↓reduceIte, UT] at u11n pr11
      (try simp (maxSteps := 5000000) only [KS, Nat.reduceAdd, Nat.reduceMul, Nat.reduceEqDiff, ↓reduceIte, forall_const, Int.cast_ofNat_Int, Int.reduceToNat, List.take_succ_cons, List.take_zero, List.drop_succ_cons, List.drop_zero, TF36, KL36, eh, gres, qopS, putL, ung, u11n, pr11, hof.s, ofl]); (try simp (disch := omega) only [wrapI, tmodI, tdivI])
      have hslc : of.length ≤ slCap vof := hofc
      refine ⟨trivial, ⟨by omega, by omega, by omega, by omega⟩, trivial, Keep.refl _ _, ?_⟩
      refine SemW_lit (α := RunD) Tryz.underlying59 ti34 rfl (by decide) [_] [r] rfl rfl (Cs.one ⟨rfl, r2⟩) (by show 1 * 3 ≤ 16777216; decide) fun vs w12 ss x12 => ⟨Keep.of_ext x12, ?_⟩
      have k1112 : Keep (fun b => b ≠ pS.block ∧ b ≠ mb) w w12 := k110.trans (Keep.of_ext (x11.trans x12))
      have hof12 : Sl w12 vof of := hof.keepF k1112 hvb
      have hsub0 := hof12.sub (l := 0) (r := of.length) (m := of.length) (by omega) (by omega) (by omega) hslc
      rw [List.drop_zero, List.take_length] at hsub0
      have hsub1 : ∃ b, slSub 3 vof 0 of.length of.length = .slice (some b) of.length of.length := by rw [hvof]; simp [slSub]; split <;> exact ⟨_, rfl⟩
      obtain ⟨bf, hbf⟩ := hsub1
      have hbf' : slSub (Enc.n RunD) vof 0 of.length of.length = .slice (some bf) of.length of.length := hbf
      rw [hbf'] at hsub0
      rw [hbf]
      refine SemW_appendNew (α := RunD) Tryz.underlying59 ti34 rfl (by decide) hsub0 rfl ss (by simp) (by simp only [maxLen, List.length_singleton]; omega) fun v13 w13 b13 x13 hn13 => ⟨Keep.of_ext (x12.trans x13), ?_⟩
      have S13 := S11.ext (x12.trans x13)
      have sv13 := b13.sl (by rw [List.length_append, List.length_singleton]; omega)
      have hb13 := b13.le (by decide) (by simp)
      have hpS12 := (S11.ext x12).s.lt
      have hmb12 : mb < w12.heap.size := by
        obtain ⟨_, hM, _⟩ := (S11.ext x12).l
        exact hM.lt
      subst hfv
      refine CallW_cl call36 (ih (of ++ [r]) v13 w13 (by rw [List.length_append, List.length_singleton]; exact hdr2) (by rw [List.length_append, List.length_singleton]; omega) S13 sv13 hn13 (fun _ => ⟨by omega, by omega⟩)) fun e w14 hq => ?_
      obtain ⟨v14, he, k14, hm14⟩ := hq
      refine ⟨_, he, ?_⟩
      have k1314 : Keep (fun b => b ≠ pS.block ∧ b ≠ mb) w w14 := (k1112.trans (Keep.of_ext x13)).trans k14
      cases hres : Pl.psrch l (Pl.room t) covers rest (of ++ [r]) with
      | none =>
        rw [hres] at hm14 hfr
        obtain ⟨rfl, S14⟩ := hm14
        (repeat with_reducible first | refine jy ?_ | refine jw KL36 [11, 12] (aa TF36 KX) fun _ => ?_)
        refine Run_condS (fun _ => rfl) (fun h => by cases h) (fun _ => ?_)
        have k1014 : Keep (fun b => b ≠ pS.block ∧ b ≠ mb) w10 w14 := (Keep.of_ext (x11.trans (x12.trans x13))).trans k14
        have pr14 := pr10.keep k1014 hprS
        have po14 := po10.keep k1014 hpoS
        let S : Nat → Prop := fun b => b ≠ mb
        (repeat with_reducible refine js ?_)
        refine Run_eh S [7] [(0, [7]), (1, [7]), (2, [7]), (3, [7])] (id := 17) KL36 (.first 0 (.first 1 (.first 2 (.first 3 (.first 4 (.first 5 (.alt true 6 (.alt true 7 (.done false) .stop) .stop))))))) mixed (by kernel_rfl) (by kernel_rfl) fun w15 x15 _ => ?_
        have S15 := S14.ext x15
        obtain ⟨T15, m15⟩ := S15.m
        have m15n := m15.n
        have s15n := S15.s.n
        have pr15 := (pr14.ext x15).n
        have po15 := (po14.ext x15).n
        simp only [RunD.cs, AtN, KS, Nat.reduceAdd, Nat.reduceMul, Nat.reduceEqDiff, ↓reduceIte, UT] at m15n s15n pr15 po15
        rw [htn] at s15n
        (try simp (maxSteps := 5000000) only [KS, Nat.reduceAdd, Nat.reduceMul, Nat.reduceEqDiff, ↓reduceIte, forall_const, Int.cast_ofNat_Int, Int.reduceToNat, List.take_succ_cons, List.take_zero, List.drop_succ_cons, List.drop_zero, TF36, KL36, eh, gres, qopS, putL, ung, m15n, s15n, pr15, po15]); (try simp (disch := omega) only [wrapI, tmodI, tdivI])
        refine ⟨B4, hprmb, hpoS.2, B7, Keep.refl _ _, ?_⟩
        refine putUpd (of' := of) S15 r x _ (fun s => ?_) (by omega) fun w16 S16 k16 => ?_
        · rw [Pl.load_snoc hkl, hok]
          by_cases e : r = s
          · subst e; rw [if_pos rfl, hx]
          · rw [if_neg e, if_neg e]
        (repeat with_reducible first | refine jy ?_ | refine jw KL36 [11, 12] TF36 fun _ => ?_)
        exact Run_lp ⟨q + 1, by simp [SubB, fnd, strike, has], ⟨by omega, by rw [← hskip hfr]; exact hfs, S16, (k1314.trans (Keep.of_ext x15)).trans k16⟩, by omega⟩
      | some y =>
        rw [hres] at hm14 hfr
        obtain ⟨⟨py, ny, cy, rfl⟩, sy, My⟩ := hm14
        (repeat with_reducible first | refine jy ?_ | refine jw KL36 [11, 12] (aa TF36 KX) fun _ => ?_)
        refine Run_condS (fun _ => rfl) (fun _ => ?_) (fun h => by cases h)
        (repeat with_reducible first | refine jy ?_ | refine jw KL36 [11, 12] TF36 fun _ => ?_)
        refine Run_ret ?_
        simp only [Rets, RetM, resV, fnd, oneOr, ↓reduceIte]
        refine ⟨_, rfl, _, rfl, k1314, ?_⟩
        rw [← hfs, hhit y hfr]
        exact ⟨⟨_, _, _, rfl⟩, sy, My⟩
    · simp at h
      obtain rfl : q = o.length := by omega
      clear h
      rw [List.drop_length] at hfs
      (repeat with_reducible first | refine jy ?_ | refine jw KL36 [11, 12] TF36 fun _ => ?_)
      refine Run_ret ?_
      simp only [Rets, RetM, resV, fnd, oneOr, ↓reduceIte]
      refine ⟨_, rfl, _, rfl, k1, ?_⟩
      rw [← hfs]
      exact ⟨rfl, S1⟩
end
end Go.Proofs.YtldjfebokojmfaaGreat
