import Derived.Test.YtbfhenoiienghaaGreatRdHa
import Derived.Test.YtbfhenoiienghaaGreatRdGb
namespace Go.Fk
open Go
namespace Pl
theorem err_sub {t : TimeD} {f : TariffD} {l l' : List OrderD} (h : err t f l = 0) (hs : ∀ o ∈ l', o ∈ l) (hn : l'.length ≤ 64) : err t f l' = 0 := by
  have O := err_ok h
  unfold err
  rw [if_neg (by simp [O.t]), if_neg (by simp [O.f]), if_neg (by omega), if_pos]
  exact List.all_eq_true.2 fun o ho => O.o o (hs o ho)
theorem optsE_sub {t : TimeD} {f : TariffD} {l l' : List OrderD} (h : optsE t f l = 0) (hs : ∀ o ∈ l', o ∈ l) : optsE t f l' = 0 := optsE_iff.2 fun o ho => optsE_iff.1 h o (hs o ho)
structure Sok (t : TimeD) (f : TariffD) (l : List OrderD) : Prop where
  cr : ∀ o ∈ l, 1 ≤ o.Crowd ∧ o.Crowd ≤ 64
  n : l.length ≤ 64
  len : (optsOf t f l).length = l.length
  ob : ∀ o ∈ optsOf t f l, o.length ≤ 100000000 ∧ ∀ r ∈ o, 0 ≤ r.Line ∧ r.Line < t.Lines.length
end Pl
end Go.Fk
namespace Go.Proofs.YtbfhenoiienghaaGreat
open Go Go.Fk
set_option linter.unusedSimpArgs false
set_option linter.unusedVariables false
set_option maxRecDepth 100000
theorem sok {t : TimeD} {f : TariffD} {l : List OrderD} (he : Pl.err t f l = 0) (ho : Pl.optsE t f l = 0) : Pl.Sok t f l := by
  have O := Pl.err_ok he
  have K := Pl.opts_okk ho
  refine ⟨fun o h => (ok_num O h).2.2.2, O.n, K.n, fun o h => ⟨?_, fun r hr => ?_⟩⟩
  · unfold Pl.optsOf at h
    obtain ⟨x, _, rfl⟩ := List.mem_map.1 h
    have := opts_le (t := t) (f := f) (o := x)
    omega
  · obtain ⟨k, hk, rfl⟩ := List.getElem_of_mem h
    have hk2 : k < l.length := by rw [← K.n]; exact hk
    have := (K.m k hk2 r (by rw [List.getD_eq_getElem?_getD, List.getElem?_eq_getElem hk]; exact hr)).1
    obtain ⟨g1, g2, _⟩ := isRunL this
    exact ⟨g1, g2⟩
theorem askBuild {t : TimeD} {f : TariffD} {covers : Int} {vl u0 u1 u2 : Value} (w' : World) : (Instr.build 113 #[(0, .agg (t.cs vl).toArray), (1, .agg (f.cs u0 u1 u2).toArray), (2, .int .i64 covers)]).run Tryz.prog w' = .ok (.agg #[.int .i64 t.Offices, vl, u0, u1, u2, .int .i64 covers]) w' := by kernel_rfl
set_option maxHeartbeats 4000000 in
theorem rsCheck (vl u0 u1 u2 vo u : Value) (t : TimeD) (f : TariffD) (l : List OrderD) (covers : Int) (p : RefusalD) (w : World) (hl : Sl w vl t.Lines) (hT : TarR w f u0 u1 u2) (ho : Sl w vo l) (io : I64 p.o) (iw : I64 p.why) (ir : RunJ p.run) (hk : Sl w u p.kids) :
    Calls Tryz.prog 37 #[.agg (t.cs vl).toArray, .agg (f.cs u0 u1 u2).toArray, vo, .int .i64 covers, .agg (p.cs u).toArray] w fun e w' => e = .returned (.tuple #[.bool (Rf.check t f l covers p).1, .int .i64 (Rf.check t f l covers p).2]) ∧ Ext w w' := by
  have s0 := hT.b.s
  have s1 := hT.l.s
  have s2 := hT.t.s
  refine Calls_of_Run (args := [.agg (t.cs vl).toArray, .agg (f.cs u0 u1 u2).toArray, vo, .int .i64 covers, .agg (p.cs u).toArray]) (n := 28) (rs := [.tmp 10, .tmp 11]) Tryz.func37 rfl rfl rfl (by simp) ?_
  (repeat with_reducible first | refine js ?_ | refine ja ?_ | refine jw KL37 [] TF37 fun _ => ?_)
  refine SemW_box fun pt w1 h1 => SemW_box fun pf w2 h2 => SemW_box fun pp w3 h3 => ?_
  have y3 := h1.ext.trans (h2.ext.trans h3.ext)
  have T3 := (h1.at_.ext (h2.ext.trans h3.ext)).n
  have F3 := (h2.at_.ext h3.ext).n
  have P : ∀ w', Ext w3 w' → AtN w' pp 0 (p.cs u) := fun w' x => (h3.at_.ext x).n
  simp only [TimeD.cs, TariffD.cs, RefusalD.cs, AtN, KS, Nat.reduceAdd, Nat.reduceMul, Nat.reduceEqDiff, ↓reduceIte, UT] at T3 F3 P
  (repeat with_reducible first | refine js ?_ | refine ja ?_ | refine jw KL37 [] (aa TF37 (aa T3 F3)) fun _ => ?_)
  refine ⟨_, fun _ => askBuild (t := t) (f := f) _, ?_⟩
  refine CallW_gen call69 (rfBegin vl u0 u1 u2 vo t f l covers w3 (hl.ext y3) (hT.ext y3) (ho.ext y3)) fun e w4 ⟨vO, he, x4, sO, hO⟩ => ⟨_, he, ?_⟩
  (repeat with_reducible first | refine js ?_ | refine ja ?_ | refine jw KL37 [] TF37 fun _ => ?_)
  refine SemW_allocT ti115 fun ps w5 h5 => ?_
  have b5 := h5.blk
  (repeat with_reducible first | refine js ?_ | refine ja ?_ | refine jw KL37 [] TF37 fun _ => ?_)
  refine SemW_setW (by rw [cells115]; decide) (by rw [cells115]; rfl) h5.row (by rw [cells115]; rfl) (by simpa [Value.cells] using srOne (t := t) (covers := covers) hl.s s0 s1 s2 ho.s sO) fun w6 r6 k6 z6 => ?_
  have r6 : Row w6 ps 115 (srC t covers vl u0 u1 u2 vo vO) := r6
  have x46 : Ext w4 w6 := Keep.ext h5.ext k6 fun b hb => by omega
  have y6 := y3.trans (x4.trans x46)
  (repeat with_reducible first | refine js ?_ | refine ja ?_ | refine jw KL37 [] TF37 fun _ => ?_)
  have hb : Rf.begE t f l = if Pl.err t f l ≠ 0 then Pl.err t f l else Pl.optsE t f l := rfl
  refine Run_condS (fun _ => rfl) (fun h => ?_) (fun h => ?_)
  · have hne : Rf.begE t f l ≠ 0 := by simpa using h
    clear h
    have hc : Rf.check t f l covers p = (false, Rf.begE t f l) := by
      unfold Rf.check
      by_cases h1 : Pl.err t f l = 0
      · have h2 : Pl.optsE t f l ≠ 0 := fun e => hne (by rw [hb, if_neg (by simp [h1]), e])
        rw [if_neg (by simp [h1]), if_pos h2, hb, if_neg (by simp [h1])]
      · rw [if_pos h1, hb, if_pos h1]
    rw [hc]
    (repeat with_reducible first | refine js ?_ | refine ja ?_ | refine jw KL37 [] TF37 fun _ => ?_)
    refine Run_ret ?_
    simp only [Rets, RetM, resV, fnd, oneOr, ↓reduceIte, KS, Nat.reduceAdd, Nat.reduceMul, Nat.reduceEqDiff, ↓reduceIte, UT]
    exact ⟨_, rfl, _, rfl, rfl, y6⟩
  have h0 : Rf.begE t f l = 0 := by simpa using h
  clear h
  have he0 : Pl.err t f l = 0 := by
    by_cases h1 : Pl.err t f l = 0
    · exact h1
    · rw [hb, if_pos h1] at h0; exact h0
  have ho0 : Pl.optsE t f l = 0 := by rw [hb, if_neg (by simp [he0])] at h0; exact h0
  have K := sok he0 ho0
  have hc : Rf.check t f l covers p = (Rf.rightF t l covers (Pl.optsOf t f l) [] p, 0) := by
    unfold Rf.check
    rw [if_neg (by simp [he0]), if_neg (by simp [ho0])]
  rw [hc]
  have r6n := r6.n
  have p6 := P w6 (x4.trans x46)
  simp only [srC, AtN, KS, Nat.reduceAdd, Nat.reduceMul, Nat.reduceEqDiff, ↓reduceIte, UT] at r6n
  (repeat with_reducible first | refine js ?_ | refine ja ?_ | refine jw KL37 [] (aa TF37 (aa r6n p6)) fun _ => ?_)
  refine CallW_pure call76 (rsRight (t := t) (l := l) (covers := covers) (vl := vl) (u0 := u0) (u1 := u1) (u2 := u2) (vo := vo) (vO := vO) (opts := Pl.optsOf t f l) K.cr K.n K.len K.ob l.length (Pl.optsOf t f l) [] p (.slice none 0 0) u w6 K.len (by simp [K.len]) rfl (by simp) (hl.ext y6) (ho.ext y6) ((hO h0).ext x46) s0 s1 s2 (Sl.nil _) io iw ir (hk.ext y6)) fun w7 x7 => ?_
  (repeat with_reducible first | refine js ?_ | refine ja ?_ | refine jw KL37 [] TF37 fun _ => ?_)
  refine Run_ret ?_
  simp only [Rets, RetM, resV, fnd, oneOr, ↓reduceIte, KS, Nat.reduceAdd, Nat.reduceMul, Nat.reduceEqDiff, ↓reduceIte, UT]
  exact ⟨_, rfl, _, rfl, rfl, y6.trans x7⟩
end Go.Proofs.YtbfhenoiienghaaGreat
