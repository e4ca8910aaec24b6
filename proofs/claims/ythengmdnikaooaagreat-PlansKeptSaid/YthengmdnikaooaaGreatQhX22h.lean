import Derived.Test.YthengmdnikaooaaGreatQhX22c
import Derived.Test.YthengmdnikaooaaGreatQhGs
import Derived.Test.YthengmdnikaooaaGreatQhGe
import Derived.Test.YthengmdnikaooaaGreatQhGb
set_option linter.unusedVariables false
set_option linter.unusedSimpArgs false
namespace Go.Fk
open Go
namespace Pl
theorem loadF_n (r : RunD) : ∀ (l : List OrderD) (of : List RunD) (a : LoadD), of.length ≤ l.length → (loadF r l of a).n = a.n + (of.count r : Int)
  | [], [], a, _ => by simp [loadF]
  | [], _ :: _, a, h => by simp at h
  | o :: l, [], a, _ => by simp [loadF]
  | o :: l, s :: of, a, h => by
    simp only [loadF]
    rw [loadF_n r l of _ (by simpa using h)]
    by_cases e : s = r
    · subst e; simp [LoadD.wth]; omega
    · simp [e]
theorem loadF_ge (r : RunD) : ∀ (l : List OrderD) (of : List RunD) (a : LoadD), a.c ≤ (loadF r l of a).c
  | [], of, a => by cases of <;> simp [loadF]
  | o :: l, [], a => by simp [loadF]
  | o :: l, s :: of, a => by
    simp only [loadF]
    have := loadF_ge r l of (if s = r then a.wth o else a)
    refine Int.le_trans ?_ this
    split
    · simp only [LoadD.wth]; omega
    · omega
theorem loadF_c (r : RunD) : ∀ (l : List OrderD) (of : List RunD) (a : LoadD) (i : Nat) (h1 : i < of.length) (h2 : i < l.length), of[i] = r → l[i].Crowd + 1 ≤ (loadF r l of a).c
  | [], _, _, _, _, h, _ => by simp at h
  | _ :: _, [], _, _, h, _, _ => by simp at h
  | o :: l, s :: of, a, 0, h1, h2, e => by
    simp only [List.getElem_cons_zero] at e ⊢
    simp only [loadF, if_pos e]
    refine Int.le_trans ?_ (loadF_ge r l of _)
    simp only [LoadD.wth]; omega
  | o :: l, s :: of, a, i + 1, h1, h2, e => by
    simp only [List.getElem_cons_succ] at e ⊢
    simp only [loadF]
    exact loadF_c r l of _ i (by simpa using h1) (by simpa using h2) e
section
variable {t : TimeD} {f : TariffD} {l : List OrderD} {covers : Int} {p : PlanD}
theorem count_map_inj {g : Int → RunD} {k : Int} : ∀ {L : List Int}, (∀ x ∈ L, g x = g k → x = k) → (L.map g).count (g k) = L.count k
  | [], _ => rfl
  | x :: L, h => by
    have ih := count_map_inj (g := g) (k := k) (L := L) fun y hy => h y (List.mem_cons_of_mem _ hy)
    have hx := h x (List.mem_cons_self ..)
    simp only [List.map_cons, List.count_cons, ih]
    by_cases e : x = k
    · subst e; simp
    · have : g x ≠ g k := fun e' => e (hx e')
      simp [e, this]
theorem Acc.cnt (h : Acc t f l covers p) {k : Nat} (hk : k < p.Runs.length) : (ofs p).count p.Runs[k] = p.Of.count (k : Int) := by
  have e : p.Runs[k] = (fun q : Int => p.Runs.getD q.toNat default) (k : Int) := by simp [List.getD_eq_getElem?_getD, hk]
  unfold ofs
  rw [e]
  refine count_map_inj (g := fun q : Int => p.Runs.getD q.toNat default) (k := (k : Int)) fun x hx hq => ?_
  have hin := h.ins x hx
  simp only [List.getD_eq_getElem?_getD] at hq
  rw [List.getElem?_eq_getElem (show x.toNat < p.Runs.length by omega), List.getElem?_eq_getElem (show ((k : Int)).toNat < p.Runs.length by simpa using hk)] at hq
  simp only [Option.getD_some] at hq
  have hnd := srt_nodup h.s
  have hpw := List.pairwise_iff_getElem.1 hnd
  simp only [Int.toNat_natCast] at hq
  rcases Nat.lt_trichotomy x.toNat k with h1 | h1 | h1
  · exact (hpw _ _ (by omega) hk h1 hq).elim
  · omega
  · exact (hpw _ _ hk (by omega) h1 hq.symm).elim
theorem Acc.letters (h : Acc t f l covers p) {k : Nat} (hk : k < p.Runs.length) : p.Covers[k]'(by rw [h.cl]; exact hk) + (p.Of.count (k : Int) : Int) = max (load l (ofs p) p.Runs[k]).n (load l (ofs p) p.Runs[k]).c := by
  have hc : p.Covers[k]'(by rw [h.cl]; exact hk) = (load l (ofs p) p.Runs[k]).covers := by
    have e := h.c
    have : p.Covers[k]'(by rw [h.cl]; exact hk) = (p.Runs.map fun r => (load l (ofs p) r).covers)[k]'(by simpa using hk) := by
      simp only [← e]
    rw [this, List.getElem_map]
  have hn : (load l (ofs p) p.Runs[k]).n = (p.Of.count (k : Int) : Int) := by
    unfold load
    rw [loadF_n _ _ _ _ (by rw [ofs_len, h.ol]; exact Nat.le_refl _), h.cnt hk]
    simp [LoadD.zero]
  rw [hc, ← hn]
  simp only [LoadD.covers]; omega
structure KeptI (t : TimeD) (f : TariffD) (o : OrderD) (r : RunD) (x : LineD) : Prop where
  g : Tf.pri f o.Class x.Legs.length o.Crowd = ((Tf.pri f o.Class x.Legs.length o.Crowd).1, 0)
  p : (Tf.pri f o.Class x.Legs.length o.Crowd).1 ≤ o.Pay
  a : o.After ≤ r.At
  b : r.Arrive ≤ o.By
  n : 2 ≤ x.Offices.length
  fr : ∀ h : 0 < x.Offices.length, x.Offices[0] = o.From
  de : ∀ h : x.Offices.length - 1 < x.Offices.length, x.Offices[x.Offices.length - 1] = o.Dest
  cl : 0 ≤ o.Class ∧ o.Class ≤ 7
  bit : iand .i64 (x.Classes.fdiv (2 ^ (min o.Class.toNat 64))) 1 = 1
  hid : x.Offices.any (fun k => !o.Against.contains k) = true
theorem fits_kept {o : OrderD} {r : RunD} (ok : Ok t f l) (ho : o ∈ l) (hf : fits t f o r = true) (hl : Tt.LOk (lineR t r) t.Offices) : KeptI t f o r (lineR t r) := by
  have hr := ok.o o ho
  have hb := (Tf.chk_ok ok.f).n8
  simp only [oright, oNum, Bool.and_eq_true, decide_eq_true_eq] at hr
  simp only [fits, c0, c1, c2, c3, c4, c5, Bool.and_eq_true, decide_eq_true_eq, beq_iff_eq] at hf
  obtain ⟨⟨⟨⟨⟨f0, f1⟩, f2⟩, f3⟩, f4⟩, f5⟩ := hf
  have hw : Tf.wrong f o.Class (lineR t r).Legs.length o.Crowd = 0 := by
    unfold Tf.wrong
    rw [if_neg (by simp [ok.f]), if_neg (by have := hl.o2; have := hl.o9; have := hl.l1; omega)]
  refine ⟨?_, f3, f2.1, f2.2, hl.o2, fun h => ?_, fun h => ?_, by omega, f0, f5⟩
  · unfold Tf.pri; rw [if_neg (by simp [hw])]
  · have := f1.1
    rwa [List.getD_eq_getElem?_getD, List.getElem?_eq_getElem h] at this
  · have := f1.2
    rwa [List.getD_eq_getElem?_getD, List.getElem?_eq_getElem h] at this
end
end Pl
end Go.Fk
namespace Go.Proofs.YthengmdnikaooaaGreat
open Go Go.Fk
set_option linter.unusedSimpArgs false
set_option linter.unusedVariables false
set_option maxRecDepth 100000
set_option maxHeartbeats 4000000 in
theorem lawKept22 (vl : Value) (t : TimeD) (f : TariffD) (u0 u1 u2 vo v0 v1 v2 : Value) (l : List OrderD) (covers : Int) (p : PlanD) (w : World) (hl : Sl w vl t.Lines) (hT : TarR w f u0 u1 u2) (ho : Sl w vo l) (hP : PlanR w p v0 v1 v2) (hcv : I64 covers) :
    Calls Tryz.prog 6 #[.agg (t.cs vl).toArray, .agg (f.cs u0 u1 u2).toArray, vo, .int .i64 covers, .agg (p.cs v0 v1 v2).toArray] w fun e w' => Yes22 e ∧ Ext w w' := by
  have hol := ho.len
  have rl := hP.r.len
  have ol := hP.o.len
  have cl := hP.c.len
  refine Calls_of_Run (args := [.agg (t.cs vl).toArray, .agg (f.cs u0 u1 u2).toArray, vo, .int .i64 covers, .agg (p.cs v0 v1 v2).toArray]) (n := 300) (rs := [.tmp 10]) Tryz.func6 rfl rfl rfl (by simp) ?_
  (repeat with_reducible first | refine js ?_ | refine ja ?_ | refine jw KL6 [15, 33] TF6 fun _ => ?_)
  refine SemW_box fun pt w1 h1 => SemW_box fun pf w2 h2 => SemW_box fun pp w3 h3 => ?_
  have x3 := h1.ext.trans (h2.ext.trans h3.ext)
  have T : ∀ w', Ext w3 w' → AtN w' pt 0 (t.cs vl) := fun w' x => (h1.at_.ext (h2.ext.trans (h3.ext.trans x))).n
  have F : ∀ w', Ext w3 w' → AtN w' pf 0 (f.cs u0 u1 u2) := fun w' x => (h2.at_.ext (h3.ext.trans x)).n
  have P : ∀ w', Ext w3 w' → AtN w' pp 0 (p.cs v0 v1 v2) := fun w' x => (h3.at_.ext x).n
  simp only [TimeD.cs, TariffD.cs, PlanD.cs, AtN, KS, Nat.reduceAdd, Nat.reduceMul, Nat.reduceEqDiff, ↓reduceIte, UT] at T F P
  (repeat with_reducible first | refine js ?_ | refine ja ?_ | refine jw KL6 [15, 33] TF6 fun _ => ?_)
  refine sane22W fun w5 x5 => ?_
  have y5 := x3.trans x5
  have t5 := T w5 x5
  have f5 := F w5 x5
  (repeat with_reducible first | refine js ?_ | refine ja ?_ | refine jw KL6 [15, 33] TF6 fun _ => ?_)
  refine Run_condS (fun _ => rfl) (fun h => by cases h) (fun _ => ?_)
  (repeat with_reducible first | refine js ?_ | refine ja ?_ | refine jw KL6 [15, 33] (aa TF6 (aa t5 (aa f5 KX))) fun _ => ?_)
  refine few22W (hl.ext y5) (hT.ext y5) (ho.ext y5) fun b w7 x7 => ?_
  have y7 := y5.trans x7
  have z7 := x5.trans x7
  have p7 := P w7 z7
  (repeat with_reducible first | refine js ?_ | refine ja ?_ | refine jw KL6 [15, 33] (aa TF6 (aa p7 KX)) fun _ => ?_)
  refine .inr ⟨.bool (fewPl p), fun _ => PC_pure call21 fun w8 x8 => rfFewPlan v0 v1 v2 p w8 (hP.ext (y7.trans x8)), fun w8 x8 => ?_⟩
  unfold hush
  have y8 := y7.trans x8
  have z8 := z7.trans x8
  (repeat with_reducible first | refine js ?_ | refine ja ?_ | refine jw KL6 [15, 33] (aa TF6 (aa p7 KX)) fun _ => ?_)
  refine Run_condS (fun _ => rfl) (fun h => ?_) (fun h => ?_)
  · (repeat with_reducible first | refine js ?_ | refine ja ?_ | refine jw KL6 [15, 33] TF6 fun _ => ?_)
    refine Run_ret ?_
    simp [Rets, RetM, resV, fnd, oneOr, y8]
  have hfp : p.Runs.length ≤ 70 ∧ p.Of.length ≤ 70 ∧ p.Covers.length ≤ 70 := by
    simp only [Bool.or_eq_false_iff, Bool.not_eq_false'] at h
    simpa [fewPl] using h.2
  clear h
  have t8 := T w8 z8
  have f8 := F w8 z8
  have p8 := P w8 z8
  (repeat with_reducible first | refine js ?_ | refine ja ?_ | refine jw KL6 [15, 33] (aa TF6 (aa t8 (aa f8 p8))) fun _ => ?_)
  cases hck : (Pl.check t f l covers p).1 with
  | false =>
    refine plChkW (hl.ext y8) (hT.ext y8) (ho.ext y8) (hP.ext y8) (q := (false, (Pl.check t f l covers p).2)) (by rw [← hck]) fun w9 x9 => ?_
    (try simp (maxSteps := 5000000) only [KS, Nat.reduceAdd, Nat.reduceMul, Nat.reduceEqDiff, ↓reduceIte, forall_const, Int.cast_ofNat_Int, Int.reduceToNat, List.take_succ_cons, List.take_zero, List.drop_succ_cons, List.drop_zero, TF6, KL6]); (try simp (disch := omega) only [wrapI, tmodI, tdivI])
    refine ⟨by simp [tpOf], by simp [tpOf], ?_⟩
    (repeat with_reducible first | refine js ?_ | refine ja ?_ | refine jw KL6 [15, 33] (aa TF6 KX) fun _ => ?_)
    refine Run_condS (fun _ => rfl) (fun _ => ?_) (fun h => by simp at h)
    (repeat with_reducible first | refine js ?_ | refine ja ?_ | refine jw KL6 [15, 33] (aa TF6 KX) fun _ => ?_)
    refine Run_ret ?_
    simp [Rets, RetM, resV, fnd, oneOr]
    exact y8.trans x9
  | true =>
  obtain ⟨he, pac, he2⟩ := Pl.check_yes hck
  have ok := Pl.err_ok he
  have hn64 := ok.n
  have hPol := pac.ol
  have hPcl := pac.cl
  refine plChkW (hl.ext y8) (hT.ext y8) (ho.ext y8) (hP.ext y8) (q := (true, 0)) (by rw [← hck, ← he2]) fun w9 x9 => ?_
  have y9 := y8.trans x9
  have z9 := z8.trans x9
  have p9 := P w9 z9
  (try simp (maxSteps := 5000000) only [KS, Nat.reduceAdd, Nat.reduceMul, Nat.reduceEqDiff, ↓reduceIte, forall_const, Int.cast_ofNat_Int, Int.reduceToNat, List.take_succ_cons, List.take_zero, List.drop_succ_cons, List.drop_zero, TF6, KL6]); (try simp (disch := omega) only [wrapI, tmodI, tdivI])
  refine ⟨by decide, by decide, ?_⟩
  (repeat with_reducible first | refine js ?_ | refine ja ?_ | refine jw KL6 [15, 33] (aa TF6 KX) fun _ => ?_)
  refine Run_condS (fun _ => rfl) (fun h => by cases h) (fun _ => ?_)
  have eo : ((p.Of.length : Int) != l.length) = false := by simp; omega
  have ec : ((p.Covers.length : Int) != p.Runs.length) = false := by simp; omega
  (repeat with_reducible first | refine js ?_ | refine ja ?_ | refine jw KL6 [15, 33] (aa TF6 (aa p9 (aa hP.o.s (aa ol (aa hP.c.s (aa cl (aa hP.r.s (aa rl (aa ho.s (aa hol (aa eo (aa ec KX)))))))))))) fun _ => ?_)
  refine Run_condS (fun _ => rfl) (fun h => by simp at h) (fun _ => ?_)
  (repeat with_reducible first | refine js ?_ | refine ja ?_ | refine jw KL6 [15, 33] (aa TF6 (aa p9 (aa hP.r.s rl))) fun _ => ?_)
  refine SemW_make (n := p.Runs.length) Tryz.underlying25 ti3 (by show _ * 1 ≤ _; omega) (by omega) (by simp only [maxLen]; omega) fun pL w10 cs hcs hL hrep => ?_
  have hrep : cs = List.replicate p.Runs.length (.int .i64 0) := hrep rfl rfl
  have B10 : BufL (α := Int) 3 w9 w10 (.slice (some pL) p.Runs.length p.Runs.length) (List.replicate p.Runs.length 0) := by
    have := BufL.new (α := Int) (e := 3) (W := w9) (w := w9) (w' := w10) (p := pL) (css := List.replicate p.Runs.length [Value.int .i64 0]) (xs := List.replicate p.Runs.length 0) (by rw [hrep] at hL; simpa using hL) (Ext.refl _) ⟨by simp, fun i h1 h2 => by simp only [List.getElem_replicate]; exact ⟨rfl, by simp [I64]⟩⟩ (by simp only [maxLen, List.length_replicate]; omega)
    simpa using this
  generalize hvL : Value.slice (some pL) p.Runs.length p.Runs.length = vL at *
  have x10 := hL.ext
  have y10 := y9.trans x10
  have z10 := z9.trans x10
  have p10 := P w10 z10
  clear hL hrep hcs
  have hcr : ∀ o ∈ l, 1 ≤ o.Crowd ∧ o.Crowd ≤ 64 := fun o ho' => (ok_num ok ho').2.2.2
  have hcv0 : ∀ k (h : k < p.Covers.length), 0 ≤ p.Covers[k] ∧ p.Covers[k] ≤ 65 := fun k hk => by
    have e : p.Covers[k] = (p.Runs.map fun r => (Pl.load l (Pl.ofs p) r).covers)[k]'(by simp; omega) := by simp only [← pac.c]
    rw [e, List.getElem_map]
    exact Pl.cov_bd hcr _ _
  have vs1 : IsS vL := B10.isS.1
  have vs2 : slLen vL = p.Runs.length := by rw [← hvL]; rfl
  (repeat with_reducible first | refine js ?_ | refine ja ?_ | refine jw KL6 [15, 33] (aa TF6 (aa p10 (aa hP.c.s cl))) fun _ => ?_)
  refine Run_loopV [10, 14, 15, 16, 79, 80, 116] (σ := Nat × List Int) (fun q => [(79, some (.int .i64 q.1)), (14, some (.int .i64 (Pl.sum (p.Covers.take q.1)))), (10, some (.bool false))]) (fun q w' => q.1 ≤ p.Covers.length ∧ q.2.length = p.Runs.length ∧ (∀ k (h : k < q.1) (h1 : k < q.2.length) (h2 : k < p.Covers.length), q.2[k] = p.Covers[k]) ∧ (0 ≤ Pl.sum (p.Covers.take q.1) ∧ Pl.sum (p.Covers.take q.1) ≤ 65 * q.1) ∧ BufL (α := Int) 3 w9 w' vL q.2) (fun q => p.Covers.length - q.1) (0, List.replicate p.Runs.length 0) (by simp [SubB, fnd, Pl.sum]) ⟨by simp, by simp, fun k h => by omega, by simp [Pl.sum], B10⟩ ?_
  rintro ⟨q, ls⟩ w11 ⟨hq, hln, hls, hsm, B11⟩
  simp only at hq hln hls hsm B11
  (repeat with_reducible first | refine js ?_ | refine ja ?_ | refine jw KL6 [15, 33] TF6 fun _ => ?_)
  refine Run_condS (fun _ => rfl) (fun h => ?_) (fun h => ?_)
  · simp at h
    have hql : q < p.Covers.length := by omega
    have hqc : (q : Int) < p.Covers.length := by omega
    have hqr : q < p.Runs.length := by omega
    have hqrc : (q : Int) < p.Runs.length := by omega
    clear h
    have x11 := B11.ext0
    have y11 := y9.trans x11
    have z11 := z9.trans x11
    obtain ⟨c1, c2, c3⟩ := (hP.c.ext y11).get hql
    have hcq := hcv0 q hql
    have hsum := Pl.sum_take p.Covers q hql
    have hset : ∀ k (h : k < q + 1) (h1 : k < (ls.set q p.Covers[q]).length) (h2 : k < p.Covers.length), (ls.set q p.Covers[q])[k] = p.Covers[k] := fun k hk h1 h2 => by
      rw [List.getElem_set]
      by_cases e : q = k
      · subst e; rw [if_pos rfl]
      · rw [if_neg e]; exact hls k (by omega) (by simpa using h1) h2
    generalize p.Covers[q] = n at *
    obtain ⟨r1, r2⟩ := (hP.r.ext y11).runD hqr
    have hir := pac.r _ (List.getElem_mem hqr)
    obtain ⟨g1, g2, g3⟩ := isRunL hir
    generalize p.Runs[q] = r at *
    have t11 := T w11 z11
    have p11 := P w11 z11
    simp only [RunD.cs, AtN, KS, Nat.reduceAdd, Nat.reduceMul, Nat.reduceEqDiff, ↓reduceIte, UT] at r1
    have e0 : decide (n < 0) = false := by simp; omega
    have e1 : decide (r.Line < 0) = false := by simp; omega
    have e2 : decide ((t.Lines.length : Int) ≤ r.Line) = false := by simp; omega
    (repeat with_reducible first | refine js ?_ | refine ja ?_ | refine jw KL6 [15, 33] (aa TF6 (aa hP.c.s (aa cl (aa c1 (aa c2 (aa t11 (aa p11 (aa hP.r.s (aa rl (aa r1 (aa hl.s (aa hl.len (aa e0 (aa e1 (aa e2 KX))))))))))))))) fun _ => ?_)
    refine ⟨.bool true, PC_pure call24 fun w' x => ?_, rfl, (fun _ => ⟨by omega, by omega⟩), (fun _ => ⟨by omega, by omega⟩), fun w12 x12 => ?_⟩
    · have := ttIs vl t r w' (hl.ext (y11.trans x)) r2
      rwa [hir] at this
    refine Run_condS (fun _ => rfl) (fun h => by cases h) (fun _ => ?_)
    have B12 := B11.ext x12
    (repeat with_reducible first | refine js ?_ | refine ja ?_ | refine jw KL6 [15, 33] (aa TF6 (aa vs1 vs2)) fun _ => ?_)
    refine SemW_setE (X := .int .i64 n) B12 q (by omega) n cells3 (by decide) ⟨rfl, c3⟩ (by show _ = (slAt vL).add (q * 1); rw [Nat.mul_one]) fun w13 B13 k13 z13 x13 => ?_
    (repeat with_reducible first | refine js ?_ | refine ja ?_ | refine jw KL6 [15, 33] TF6 fun _ => ?_)
    refine Run_lp ⟨(q + 1, ls.set q n), ?_, ⟨by show q + 1 ≤ p.Covers.length; omega, by show (ls.set q n).length = _; rw [List.length_set]; exact hln, hset, ?_, B13⟩, by show p.Covers.length - (q + 1) < p.Covers.length - q; omega⟩
    · simp [SubB, fnd, strike, has, hsum]
    · simp only [hsum]; omega
  simp at h
  obtain rfl : q = p.Covers.length := by omega
  rw [List.take_length] at hsm ⊢
  clear h
  have x11 := B11.ext0
  have y11 := y9.trans x11
  have z11 := z9.trans x11
  have p11 := P w11 z11
  have hlen2 : ∀ k (h1 : k < ls.length) (h2 : k < p.Covers.length), ls[k] = p.Covers[k] + ((p.Of.take 0).count (k : Int) : Int) := fun k h1 h2 => by
    rw [hls k h2 h1 h2]; simp
  clear hls
  (repeat with_reducible first | refine js ?_ | refine ja ?_ | refine jw KL6 [15, 33] (aa TF6 (aa p11 (aa hP.o.s ol))) fun _ => ?_)
  refine Run_loopV [10, 18, 128, 129, 140] (σ := Nat × List Int) (fun q => [(128, some (.int .i64 q.1)), (10, some (.bool false))]) (fun q w' => q.1 ≤ p.Of.length ∧ q.2.length = p.Runs.length ∧ (∀ k (h1 : k < q.2.length) (h2 : k < p.Covers.length), q.2[k] = p.Covers[k] + ((p.Of.take q.1).count (k : Int) : Int)) ∧ BufL (α := Int) 3 w9 w' vL q.2) (fun q => p.Of.length - q.1) (0, ls) (by simp [SubB, fnd]) ⟨by simp, hln, hlen2, B11⟩ ?_
  clear hlen2 p11 z11 y11 x11 B11 hln ls
  rintro ⟨q, ls⟩ w11 ⟨hq, hln, hls, B11⟩
  simp only at hq hln hls B11
  (repeat with_reducible first | refine js ?_ | refine ja ?_ | refine jw KL6 [15, 33] TF6 fun _ => ?_)
  refine Run_condS (fun _ => rfl) (fun h => ?_) (fun h => ?_)
  · simp at h
    have hql : q < p.Of.length := by omega
    have hqc : (q : Int) < p.Of.length := by omega
    clear h
    have x11 := B11.ext0
    have y11 := y9.trans x11
    have z11 := z9.trans x11
    obtain ⟨c1, c2, c3⟩ := (hP.o.ext y11).get hql
    have hin := pac.ins _ (List.getElem_mem hql)
    have htk : ∀ k : Int, ((p.Of.take (q + 1)).count k : Int) = ((p.Of.take q).count k : Int) + if p.Of[q] = k then 1 else 0 := fun k => by
      rw [List.take_succ_eq_append_getElem hql, List.count_append]
      by_cases e : p.Of[q] = k
      · simp [e]
      · simp [e]
    have hcb := List.count_le_length (a := p.Of[q]) (l := p.Of.take q)
    rw [List.length_take] at hcb
    generalize p.Of[q] = k at *
    have hkl : k.toNat < p.Runs.length := by omega
    have hkk : ((k.toNat : Nat) : Int) = k := by omega
    have hlk := hls k.toNat (by omega) (by omega)
    have hck0 := hcv0 k.toNat (by omega)
    rw [hkk] at hlk
    obtain ⟨d1, d2, d3⟩ := (B11.sl (by omega)).get (i := k.toNat) (by omega)
    rw [hlk] at d1
    have p11 := P w11 z11
    have e1 : decide (k < 0) = false := by simp; omega
    have e2 : decide ((p.Runs.length : Int) ≤ k) = false := by simp; omega
    (repeat with_reducible first | refine js ?_ | refine ja ?_ | refine jw KL6 [15, 33] (aa TF6 (aa hP.o.s (aa ol (aa c1 (aa c2 (aa p11 (aa hP.r.s (aa rl (aa e1 (aa e2 KX)))))))))) fun _ => ?_)
    refine Run_condS (fun _ => rfl) (fun h => by cases h) (fun _ => ?_)
    (repeat with_reducible first | refine js ?_ | refine ja ?_ | refine jw KL6 [15, 33] (aa TF6 (aa vs1 (aa vs2 (aa d1 d2)))) fun _ => ?_)
    refine SemW_setE (X := .int .i64 (p.Covers[k.toNat] + ((p.Of.take q).count k : Int) + 1)) B11 k.toNat (by omega) (p.Covers[k.toNat] + ((p.Of.take q).count k : Int) + 1) cells3 (by decide) ⟨rfl, by unfold I64; omega⟩ (by show _ = (slAt vL).add (k.toNat * 1); rw [Nat.mul_one]) fun w13 B13 k13 z13 x13 => ?_
    (repeat with_reducible first | refine js ?_ | refine ja ?_ | refine jw KL6 [15, 33] TF6 fun _ => ?_)
    refine Run_lp ⟨(q + 1, ls.set k.toNat (p.Covers[k.toNat] + ((p.Of.take q).count k : Int) + 1)), by simp [SubB, fnd, strike, has], ⟨by show q + 1 ≤ p.Of.length; omega, by show (ls.set _ _).length = _; rw [List.length_set]; exact hln, fun j h1 h2 => ?_, B13⟩, by show p.Of.length - (q + 1) < p.Of.length - q; omega⟩
    simp only at h1 ⊢
    rw [List.length_set] at h1
    rw [htk, List.getElem_set]
    by_cases e : k.toNat = j
    · subst e
      rw [if_pos rfl, if_pos hkk.symm, hkk]; omega
    · rw [if_neg e, if_neg (by omega), hls j h1 h2]; omega
  simp at h
  obtain rfl : q = p.Of.length := by omega
  rw [List.take_length] at hls
  clear h
  have hfin : ∀ k (hk : k < p.Runs.length) (h1 : k < ls.length), ls[k] = max (Pl.load l (Pl.ofs p) p.Runs[k]).n (Pl.load l (Pl.ofs p) p.Runs[k]).c := fun k hk h1 => by
    rw [hls k h1 (by omega), pac.letters hk]
  clear hls
  have sL := B11.sl (by omega)
  have x11 := B11.ext0
  have y11 := y9.trans x11
  have z11 := z9.trans x11
  clear B11
  (repeat with_reducible first | refine js ?_ | refine ja ?_ | refine jw KL6 [15, 33] (aa TF6 (aa ho.s hol)) fun _ => ?_)
  refine Run_loopV [10, 19, 20, 21, 22, 23, 24, 25, 27, 150, 151, 277, 279, 280, 281, 282, 295] (σ := Nat) (fun q => [(150, some (.int .i64 q)), (10, some (.bool false))]) (fun q w' => q ≤ l.length ∧ Ext w11 w') (fun q => l.length - q) 0 (by simp [SubB, fnd]) ⟨by omega, Ext.refl _⟩ ?_
  rintro q w12 ⟨hq, x12⟩
  (repeat with_reducible first | refine js ?_ | refine ja ?_ | refine jw KL6 [15, 33] TF6 fun _ => ?_)
  refine Run_condS (fun _ => rfl) (fun h => ?_) (fun h => ?_)
  · simp at h
    have hql : q < l.length := by omega
    have hqc : (q : Int) < l.length := by omega
    have hqo : q < p.Of.length := by omega
    have hqoc : (q : Int) < p.Of.length := by omega
    clear h
    have y12 := y11.trans x12
    have z12 := z11.trans x12
    obtain ⟨g, oA, oB, hO⟩ := (ho.ext y12).ord hql
    have hone := hO.one
    have hOf := fun w' (x : Ext w12 w') => ((hP.o.ext (y12.trans x)).get hqo)
    have hin := pac.ins _ (List.getElem_mem hqo)
    have hfit := pac.f q hql
    have hog : (Pl.ofs p).getD q default = p.Runs.getD (p.Of[q]).toNat default := by
      rw [Pl.ofs_get hqo, List.getD_eq_getElem?_getD (l := p.Of), List.getElem?_eq_getElem hqo]; rfl
    have hoi : ∀ h : q < (Pl.ofs p).length, (Pl.ofs p)[q] = p.Runs.getD (p.Of[q]).toNat default := fun h => by
      rw [← hog, List.getD_eq_getElem?_getD, List.getElem?_eq_getElem h]; rfl
    have hofl : q < (Pl.ofs p).length := by rw [Pl.ofs_len]; exact hqo
    have hcc := Pl.loadF_c (p.Runs.getD (p.Of[q]).toNat default) l (Pl.ofs p) .zero q hofl hql (hoi hofl)
    rw [hog, Pl.getD_l hql] at hfit
    have hom := List.getElem_mem hql
    generalize hke : p.Of[q] = k at *
    have hkl : k.toNat < p.Runs.length := by omega
    have hrg : p.Runs.getD k.toNat default = p.Runs[k.toNat] := by simp [List.getD_eq_getElem?_getD, hkl]
    rw [hrg] at hfit hcc
    have hrm := List.getElem_mem hkl
    have hroom := pac.x _ hrm
    have hlet := hfin k.toNat hkl (by omega)
    obtain ⟨g1, g2, g3⟩ := isRunL (pac.r _ hrm)
    have hRn := fun w' (x : Ext w12 w') => ((hP.r.ext (y12.trans x)).runD hkl)
    have hLt := fun w' (x : Ext w12 w') => ((sL.ext (x12.trans x)).get (i := k.toNat) (by omega))
    rw [show Pl.loadF p.Runs[k.toNat] l (Pl.ofs p) .zero = Pl.load l (Pl.ofs p) p.Runs[k.toNat] from rfl] at hcc
    generalize hre : p.Runs[k.toNat] = r at *
    generalize l[q] = o at *
    generalize hLe : ls[k.toNat] = L at *
    have hkept := Pl.fits_kept ok hom hfit g3
    have hlt : r.Line.toNat < t.Lines.length := by omega
    have hline : Pl.lineR t r = t.Lines[r.Line.toNat] := by simp [Pl.lineR, List.getD_eq_getElem?_getD, hlt]
    have hroomd : Pl.room t r = (Pl.lineR t r).Room := rfl
    rw [hroomd] at hroom
    have hL1 : o.Crowd + 1 ≤ L := by omega
    have hL2 : L ≤ (Pl.lineR t r).Room := by omega
    rw [hline] at hkept hL2 g3
    have hXn := fun w' (x : Ext w12 w') => ((hl.ext (y12.trans x)).line hlt)
    generalize t.Lines[r.Line.toNat] = X at *
    simp only [OrderD.cs, AtN, KS, Nat.reduceAdd, Nat.reduceMul, Nat.reduceEqDiff, ↓reduceIte, UT] at oA
    (repeat with_reducible first | refine js ?_ | refine ja ?_ | refine jw KL6 [15, 33] (aa TF6 (aa ho.s (aa hol oA))) fun _ => ?_)
    refine SemW_allocT ti30 fun pq w13 h13 => ?_
    have b13 := h13.blk
    (repeat with_reducible first | refine js ?_ | refine ja ?_ | refine jw KL6 [15, 33] TF6 fun _ => ?_)
    refine SemW_setW (by rw [cells30]; decide) (by rw [cells30]; rfl) h13.row (by rw [cells30]; rfl) (by exact hone) fun w14 r14 k14 z14 => ?_
    have r14 : Row w14 pq 30 (o.cs g) := r14
    have x14 : Ext w12 w14 := extKeep h13.ext k14 (by omega)
    have O14 := fun w' (x : Ext w14 w') => (r14.ext x).n
    simp only [OrderD.cs, AtN, KS, Nat.reduceAdd, Nat.reduceMul, Nat.reduceEqDiff, ↓reduceIte, UT] at O14
    let S : Nat → Prop := fun _ => True
    (repeat with_reducible first | refine jq ?_ | refine jk ?_ | refine jc ?_ | refine jl ?_ | refine jb ?_ | refine jo ?_ | refine ji ?_ | refine jx rfl ?_)
    refine Run_eh S [10] [(1, [10]), (3, [10]), (6, [10]), (8, [10])] (id := 30) KL6 (.first 0 (.first 1 (.first 2 (.first 3 (.first 4 (.first 5 (.first 6 (.first 7 (.first 8 (.alt true 9 (.alt true 10 (.done false) .stop) .stop)))))))))) mixed (by kernel_rfl) (by kernel_rfl) fun w15 x15 _ => ?_
    have z15 := z12.trans (x14.trans x15)
    have p15 := P w15 z15
    obtain ⟨c1, c2, c3⟩ := hOf w15 (x14.trans x15)
    have r15 := (hRn w15 (x14.trans x15)).1
    simp only [RunD.cs, AtN, KS, Nat.reduceAdd, Nat.reduceMul, Nat.reduceEqDiff, ↓reduceIte, UT] at r15
    (try simp (maxSteps := 5000000) only [KS, Nat.reduceAdd, Nat.reduceMul, Nat.reduceEqDiff, ↓reduceIte, forall_const, Int.cast_ofNat_Int, Int.reduceToNat, List.take_succ_cons, List.take_zero, List.drop_succ_cons, List.drop_zero, TF6, KL6, eh, gres, qopS, putL, ung, p15, hP.o.s, ol, hP.r.s, rl, c1, c2, r15]); (try simp (disch := omega) only [wrapI, tmodI, tdivI])
    refine ⟨trivial, trivial, ⟨by omega, by omega⟩, trivial, ⟨by omega, by omega⟩, trivial, Keep.refl _ _, ?_⟩
    refine SemW_allocT ti32 fun pr w16 h16 => ⟨Keep.of_ext h16.ext, ?_⟩
    have b16 := h16.blk
    refine SemW_setW (by rw [cells32]; decide) (by rw [cells32]; rfl) h16.row (by rw [cells32]; rfl) rfl fun w17 r17 k17 z17 => ⟨fun h => h.elim, ?_⟩
    have r17 : Row w17 pr 32 r.cs := r17
    have x17 : Ext w15 w17 := extKeep h16.ext k17 (by omega)
    have x1417 := x15.trans x17
    have x1217 := x14.trans x1417
    have R17 := fun w' (x : Ext w17 w') => (r17.ext x).n
    simp only [RunD.cs, AtN, KS, Nat.reduceAdd, Nat.reduceMul, Nat.reduceEqDiff, ↓reduceIte, UT] at R17
    have t17 := T w17 (z12.trans x1217)
    have r17n := R17 w17 (Ext.refl _)
    obtain ⟨l0, l1, l2, l3, f1, f2, hR⟩ := hXn w17 x1217
    have hXone := hR.one
    simp only [LineD.cs, AtN, KS, Nat.reduceAdd, Nat.reduceMul, Nat.reduceEqDiff, ↓reduceIte, UT] at f1
    (repeat with_reducible first | refine js ?_ | refine ja ?_ | refine jw KL6 [15, 33] (aa TF6 (aa t17 (aa r17n (aa hl.s (aa hl.len f1))))) fun _ => ?_)
    refine SemW_allocT ti57 fun px w18 h18 => ?_
    have b18 := h18.blk
    refine SemW_setW (by rw [cells57]; decide) (by rw [cells57]; rfl) h18.row (by rw [cells57]; rfl) (by exact hXone) fun w19 r19 k19 z19 => ?_
    have r19 : Row w19 px 57 (X.cs l0 l1 l2 l3) := r19
    have x19 : Ext w17 w19 := extKeep h18.ext k19 (by omega)
    have X19 := fun w' (x : Ext w19 w') => (r19.ext x).n
    simp only [LineD.cs, AtN, KS, Nat.reduceAdd, Nat.reduceMul, Nat.reduceEqDiff, ↓reduceIte, UT] at X19
    have x1219 := x1217.trans x19
    have f19 := F w19 (z12.trans x1219)
    have o19 := O14 w19 (x1417.trans x19)
    have X19n := X19 w19 (Ext.refl _)
    (repeat with_reducible first | refine js ?_ | refine ja ?_ | refine jw KL6 [15, 33] (aa TF6 (aa f19 (aa o19 (aa X19n (aa hR.l.s hR.l.len))))) fun _ => ?_)
    refine CallW_pure call25 (tfPriceW f u0 u1 u2 o.Class X.Legs.length o.Crowd w19 (hT.ext (y12.trans x1219))) fun w20 x20 => ?_
    have hg2 : (Tf.pri f o.Class X.Legs.length o.Crowd).2 = 0 := congrArg Prod.snd hkept.g
    have hp2 := hkept.p
    rw [hg2]
    generalize (Tf.pri f o.Class X.Legs.length o.Crowd).1 = pr1 at *
    (try simp (maxSteps := 5000000) only [KS, Nat.reduceAdd, Nat.reduceMul, Nat.reduceEqDiff, ↓reduceIte, forall_const, Int.cast_ofNat_Int, Int.reduceToNat, List.take_succ_cons, List.take_zero, List.drop_succ_cons, List.drop_zero, TF6, KL6]); (try simp (disch := omega) only [wrapI, tmodI, tdivI])
    try refine ⟨by decide, by decide, ?_⟩
    have hcro := hcr o hom
    have hkn := hkept.n
    have hcl := hkept.cl
    (repeat with_reducible first | refine jq ?_ | refine jk ?_ | refine jc ?_ | refine jl ?_ | refine jb ?_ | refine jo ?_ | refine ji ?_ | refine jx rfl ?_)
    have x1720 := x19.trans x20
    have x1220 := x1217.trans x1720
    have o21 := O14 w20 (x1417.trans x1720)
    have r21 := R17 w20 x1720
    have X21 := X19 w20 x20
    have p21 := P w20 (z12.trans x1220)
    obtain ⟨d1, d2, d3⟩ := hOf w20 x1220
    obtain ⟨m1, m2, m3⟩ := hLt w20 x1220
    obtain ⟨n1, n2, n3⟩ := (hR.o.ext x1720).get (i := 0) (by omega)
    obtain ⟨q1, q2, q3⟩ := (hR.o.ext x1720).get (i := X.Offices.length - 1) (by omega)
    rw [hkept.fr (by omega)] at n1
    rw [hkept.de (by omega)] at q1
    rw [add_zero] at n1 n2
    have hoff9 := g3.o9
    have ePay : decide (o.Pay < pr1) = false := by simp; omega
    have eAt : decide (r.At < o.After) = false := by simp; have := hkept.a; omega
    have eArr : decide (o.By < r.Arrive) = false := by simp; have := hkept.b; omega
    have eLet : decide (L < o.Crowd + 1) = false := by simp; omega
    have eRoom : decide (X.Room < L) = false := by simp; omega
    have eOff : decide ((X.Offices.length : Int) < 2) = false := by simp; omega
    have eC0 : decide (o.Class < 0) = false := by simp; omega
    have eC7 : decide (7 < o.Class) = false := by simp; omega
    have hwc : IntKind.i64.wrap (o.Crowd + 1) = o.Crowd + 1 := wrapI (by omega) (by omega)
    have hwl : IntKind.i64.wrap ((X.Offices.length : Int) - 1) = (X.Offices.length : Int) - 1 := wrapI (by omega) (by omega)
    have hnl : ((X.Offices.length : Int) - 1).toNat = X.Offices.length - 1 := by omega
    refine Run_drawnV (id := 33) KL6 mixed (lexB_ok (by kernel_rfl) (by kernel_rfl) (by kernel_rfl)) (by kernel_rfl) fun _ => ?_
    simp only [List.append_eq, List.cons_append, List.nil_append]
    (try simp (maxSteps := 5000000) only [KS, Nat.reduceAdd, Nat.reduceMul, Nat.reduceEqDiff, ↓reduceIte, forall_const, Int.cast_ofNat_Int, Int.reduceToNat, List.take_succ_cons, List.take_zero, List.drop_succ_cons, List.drop_zero, TF6, KL6, o21, r21, X21, p21, d1, d2, m1, m2, n1, n2, q1, q2, hP.o.s, ol, vs1, vs2, hR.o.s, hR.o.len, hwc, hwl, hnl, ePay, eAt, eArr, eLet, eRoom, eOff, eC0, eC7, hkept.bit, bne_self_eq_false]); (try simp (disch := omega) only [wrapI, tmodI, tdivI])
    refine ⟨fun _ => by omega, fun _ => by omega, fun _ => by omega, fun _ => by omega, fun _ => by omega, fun _ => by omega, fun _ => by omega, fun w21 x21 => ?_⟩
    have hbit : iand .i64 (X.Classes.fdiv (2 ^ min o.Class.toNat IntKind.i64.bits)) 1 = 1 := hkept.bit
    refine Run_condS (fun _ => rfl) (fun h => by simp [hbit] at h) (fun _ => ?_)
    have x1721 := x1720.trans x21
    have x1221 := x1217.trans x1721
    have X21n := X19 w21 (x20.trans x21)
    clear d1 d2 d3 m1 m2 m3 n1 n2 n3 q1 q2 q3 ePay eAt eArr eLet eRoom eOff eC0 eC7 o21 r21 X21 p21 c1 c2 c3 r15 p15
    (repeat with_reducible first | refine js ?_ | refine ja ?_ | refine jw KL6 [15, 33] (aa TF6 (aa X21n (aa hR.o.s hR.o.len))) fun _ => ?_)
    refine Run_loopV [25, 27, 281, 282] (σ := Nat) (fun j => [(281, some (.int .i64 j)), (25, some (.bool ((X.Offices.take j).any fun k => !o.Against.contains k)))]) (fun j w' => j ≤ X.Offices.length ∧ Ext w21 w') (fun j => X.Offices.length - j) 0 (by simp [SubB, fnd]) ⟨by omega, Ext.refl _⟩ ?_
    rintro j w22 ⟨hj, x22⟩
    (repeat with_reducible first | refine js ?_ | refine ja ?_ | refine jw KL6 [15, 33] TF6 fun _ => ?_)
    refine Run_condS (fun _ => rfl) (fun h => ?_) (fun h => ?_)
    · simp at h
      have hjl : j < X.Offices.length := by omega
      have hjc : (j : Int) < X.Offices.length := by omega
      clear h
      obtain ⟨e1, e2, e3⟩ := (hR.o.ext (x1721.trans x22)).get hjl
      have htk : ((X.Offices.take (j + 1)).any fun k => !o.Against.contains k) = (((X.Offices.take j).any fun k => !o.Against.contains k) || !o.Against.contains X.Offices[j]) := by
        rw [List.take_succ_eq_append_getElem hjl, List.any_append]; simp
      generalize ((X.Offices.take j).any fun k => !o.Against.contains k) = hb at *
      generalize X.Offices[j] = c at *
      have him : decide (idx c o.Against 0 < 0) = !o.Against.contains c := by
        rw [← idx_mem (k := 0) (by omega), Bool.eq_iff_iff]; simp
      have o22 := O14 w22 (x1417.trans (x1721.trans x22))
      (repeat with_reducible first | refine js ?_ | refine ja ?_ | refine jw KL6 [15, 33] (aa TF6 (aa hR.o.s (aa hR.o.len (aa e1 (aa e2 (aa o22 KX)))))) fun _ => ?_)
      refine .inr ⟨.int .i64 (idx c o.Against 0), fun _ => PC_pure call26 fun w' x => rfIndex g o.Against c w' (hO.g.ext (x1221.trans (x22.trans x))), fun w23 x23 => ?_⟩
      unfold hush
      (repeat with_reducible first | refine js ?_ | refine ja ?_ | refine jw KL6 [15, 33] (aa TF6 (aa hR.o.s (aa hR.o.len (aa e1 (aa e2 (aa o22 KX)))))) fun _ => ?_)
      rw [him, ← htk]
      exact Run_lp ⟨j + 1, by simp [SubB, fnd, strike, has], ⟨by omega, x22.trans x23⟩, by omega⟩
    simp at h
    obtain rfl : j = X.Offices.length := by omega
    rw [List.take_length, hkept.hid]
    (repeat with_reducible first | refine js ?_ | refine ja ?_ | refine jw KL6 [15, 33] TF6 fun _ => ?_)
    refine Run_condS (fun _ => rfl) (fun h => by cases h) (fun _ => ?_)
    (repeat with_reducible first | refine js ?_ | refine ja ?_ | refine jw KL6 [15, 33] TF6 fun _ => ?_)
    exact Run_lp ⟨q + 1, by simp [SubB, fnd, strike, has], ⟨by omega, x12.trans (x1221.trans x22)⟩, by omega⟩
  simp at h
  obtain rfl : q = l.length := by omega
  have hpe : decide (Pl.sum p.Covers ≤ covers) = true := decide_eq_true pac.e
  (repeat with_reducible first | refine js ?_ | refine ja ?_ | refine jw KL6 [15, 33] (aa TF6 (aa hpe KX)) fun _ => ?_)
  refine Run_ret ?_
  simp [Rets, RetM, resV, fnd, oneOr]
  exact y11.trans x12
end Go.Proofs.YthengmdnikaooaaGreat
