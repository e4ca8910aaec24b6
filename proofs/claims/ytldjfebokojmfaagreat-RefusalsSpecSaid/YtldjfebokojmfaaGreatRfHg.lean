import Derived.Test.YtldjfebokojmfaaGreatRfW23h
import Derived.Test.YtldjfebokojmfaaGreatRfHh
import Derived.Test.YtldjfebokojmfaaGreatRfP23
import Derived.Test.YtldjfebokojmfaaGreatRfGs
import Derived.Test.YtldjfebokojmfaaGreatRfHe
import Derived.Test.YtldjfebokojmfaaGreatRfW23f
namespace Go.Fk
open Go
theorem Rf.setsF_len : ∀ (k n i m : Nat), n - i = k → (Rf.setsF n i m).length ≤ 2 ^ k
  | k, n, i, 0, _ => by
    rw [Rf.setsF]; exact Nat.one_le_two_pow
  | 0, n, i, m + 1, h => by
    rw [Rf.setsF_nil (by omega)]; simp
  | k + 1, n, i, m + 1, h => by
    rw [Rf.setsF_cons (by omega), List.length_append, List.length_map]
    have h1 := Rf.setsF_len k n (i + 1) m (by omega)
    have h2 := Rf.setsF_len k n (i + 1) (m + 1) (by omega)
    rw [Nat.pow_succ]; omega
theorem Rf.setsF_16 {n : Nat} (hn : n ≤ 4) (i m : Nat) : (Rf.setsF n i m).length ≤ 16 := by
  have h := Rf.setsF_len (n - i) n i m rfl
  have h2 : 2 ^ (n - i) ≤ 2 ^ 4 := Nat.pow_le_pow_right (by decide) (by omega)
  omega
end Go.Fk
namespace Go.Proofs.YtldjfebokojmfaaGreat
open Go Go.Fk
set_option linter.unusedSimpArgs false
set_option linter.unusedVariables false
set_option maxRecDepth 100000
set_option maxHeartbeats 1000000 in
theorem rgSome (vo v : Value) (l : List OrderD) (s : List Int) (w : World) (ho : Sl w vo l) (hv : Sl w v s) (hs : ∀ x ∈ s, 0 ≤ x ∧ x < (l.length : Int)) (hn : s.length ≤ 1000) :
    Calls Tryz.prog 24 #[vo, v] w fun e w' => ∃ u, e = .returned u ∧ Ext w w' ∧ Sl w' u (Rf.someO l s) := by
  have hos := ho.s
  have hol := ho.len
  have vs := hv.s
  have vl := hv.len
  have hsl : (Rf.someO l s).length = s.length := by simp [Rf.someO]
  refine Calls_of_Run (args := [vo, v]) (n := 24) (rs := [.tmp 4]) Tryz.func24 rfl rfl rfl (by simp) ?_
  (repeat with_reducible first | refine jy ?_ | refine jw KL24 [] TF24 fun _ => ?_)
  refine Run_loopV [5, 6, 10] (σ := Nat × Value) (fun q => [(6, some (.int .i64 q.1)), (5, some q.2)]) (fun q w' => q.1 ≤ s.length ∧ Ext w w' ∧ ∃ rs, BufO (α := RawO) 50 w.heap.size w' q.2 rs ∧ RR w rs ((Rf.someO l s).take q.1)) (fun q => s.length - q.1) (0, .slice none 0 0) (by simp [SubB, fnd]) ⟨by simp, Ext.refl _, [], BufO.nil, ⟨by simp, fun i h => by simp at h⟩⟩ ?_
  rintro ⟨q, vb⟩ w3 ⟨hq, x3, rs, c1, c2⟩
  simp only at hq x3 c1 c2
  have crl := c2.n
  rw [List.length_take, hsl] at crl
  (repeat with_reducible first | refine jy ?_ | refine jw KL24 [] (aa TF24 (aa vs vl)) fun _ => ?_)
  refine Run_condS (fun _ => rfl) (fun h => ?_) (fun h => ?_)
  · simp at h
    have hqs : q < s.length := by omega
    have hqc : (q : Int) < s.length := by omega
    clear h
    obtain ⟨d1, d2, d3⟩ := (hv.ext x3).get hqs
    obtain ⟨d4, d5⟩ := hs _ (List.getElem_mem hqs)
    have htk : (Rf.someO l s).take (q + 1) = (Rf.someO l s).take q ++ [l.getD s[q].toNat default] := by
      rw [List.take_succ_eq_append_getElem (by omega)]; simp [Rf.someO]
    generalize s[q] = ix at *
    have hixl : ix.toNat < l.length := by omega
    have hgd : l.getD ix.toNat default = l[ix.toNat] := by simp [List.getD_eq_getElem?_getD, hixl]
    rw [hgd] at htk
    obtain ⟨g, _, oB, hO'⟩ := ho.ord hixl
    have oA := (oB.ext x3).n
    have hone := hO'.one
    have hrp := hO'.rep
    generalize l[ix.toNat] = o at *
    simp only [OrderD.cs, AtN, KS, Nat.reduceAdd, Nat.reduceMul, Nat.reduceEqDiff, ↓reduceIte, UT] at oA
    (repeat with_reducible first | refine jy ?_ | refine jw KL24 [] (aa TF24 (aa vs (aa vl (aa d1 (aa d2 (aa hos (aa hol oA))))))) fun _ => ?_)
    have hB3 : w.heap.size ≤ w3.heap.size := x3.size
    refine SemW_append1Q (α := RawO) Tryz.underlying29 ti50 rfl (by decide) c1 hB3 (x := ⟨o.cs g⟩) ⟨rfl, repO hrp⟩ (by simp only [maxLen]; omega) fun _ v5 w5 b5 k5 g5 => ?_
    (repeat with_reducible first | refine jy ?_ | refine jw KL24 [] TF24 fun _ => ?_)
    exact Run_lp ⟨(q + 1, v5), by simp [SubB, fnd, strike, has], ⟨by show q + 1 ≤ s.length; omega, Keep.ext x3 k5 fun b hb e => by have := (c1.own_lt e.symm).1; omega, rs ++ [⟨o.cs g⟩], b5, by show RR w _ ((Rf.someO l s).take (q + 1)); rw [htk]; exact c2.app (RR.one hrp)⟩, by show s.length - (q + 1) < s.length - q; omega⟩
  simp at h
  obtain rfl : q = s.length := by omega
  clear h
  rw [← hsl, List.take_length] at c2
  (repeat with_reducible first | refine jy ?_ | refine jw KL24 [] TF24 fun _ => ?_)
  refine Run_ret ?_
  simp only [Rets, RetM, resV, fnd, oneOr, ↓reduceIte, KS, Nat.reduceAdd, Nat.reduceMul, Nat.reduceEqDiff, ↓reduceIte, UT]
  exact ⟨_, rfl, _, rfl, x3, (c1.sl (by omega)).unrawO (c2.ext x3)⟩
structure SetB (B : Nat) (w : World) (v : Value) (S : List (List Int)) : Prop where
  ex : ∃ rs : List RawS, BufO (α := RawS) 25 B w v rs ∧ rs.length = S.length ∧ ∀ i (h1 : i < rs.length) (h2 : i < S.length), BufO (α := Int) 3 0 w rs[i].v S[i]
theorem SetB.nil {B : Nat} {w : World} : SetB B w (.slice none 0 0) [] := ⟨[], BufO.nil, rfl, fun i h => by simp at h⟩
theorem SetB.ext {B : Nat} {w w' : World} {v : Value} {S : List (List Int)} (h : SetB B w v S) (x : Ext w w') : SetB B w' v S := by
  obtain ⟨rs, a, b, c⟩ := h.ex
  exact ⟨rs, a.keepQ (Keep.of_ext (S := fun _ => True) x) fun _ _ => trivial, b, fun i h1 h2 => (c i h1 h2).keepQ (Keep.of_ext (S := fun _ => True) x) fun _ _ => trivial⟩
theorem SetB.sl {B : Nat} {w : World} {v : Value} {S : List (List Int)} (h : SetB B w v S) (hn : S.length ≤ 100000000) (hm : ∀ s ∈ S, s.length ≤ 1000) : Sl w v S := by
  obtain ⟨rs, a, b, c⟩ := h.ex
  exact Sl.lists (a.sl (by omega)) b fun i h1 h2 => (c i h1 h2).sl (by have := hm _ (List.getElem_mem h2); omega)
theorem SetB.app {B : Nat} {w w2 : World} {v v3 : Value} {S S2 : List (List Int)} {rs rs2 : List RawS} (a : BufO (α := RawS) 25 B w v rs) (b : rs.length = S.length) (c : ∀ i (h1 : i < rs.length) (h2 : i < S.length), BufO (α := Int) 3 0 w rs[i].v S[i]) (b2 : rs2.length = S2.length) (c2 : ∀ i (h1 : i < rs2.length) (h2 : i < S2.length), BufO (α := Int) 3 0 w rs2[i].v S2[i])
    (a3 : BufO (α := RawS) 25 B w2 v3 (rs ++ rs2)) (k : Keep (fun k => some k ≠ v.ownBlock) w w2) : SetB B w2 v3 (S ++ S2) := by
  refine ⟨rs ++ rs2, a3, by simp [b, b2], fun i h1 h2 => ?_⟩
  simp only [List.length_append] at h1 h2
  by_cases e : i < rs.length
  · rw [List.getElem_append_left e, List.getElem_append_left (by omega)]
    exact (c i e (by omega)).keepQ k fun g hg => (c i e (by omega)).ne2 a (by decide) hg
  · rw [List.getElem_append_right (by omega), List.getElem_append_right (by omega)]
    have h := c2 (i - rs.length) (by omega) (by omega)
    simp only [b] at h ⊢
    exact h.keepQ k fun g hg => h.ne2 a (by decide) hg
set_option maxHeartbeats 2000000 in
theorem rgSets {n : Nat} (hn : n ≤ 4) : ∀ (left : Nat) (x : List Int) (at' : Nat) (vx : Value) (w : World), x.length + left ≤ 4 → at' ≤ 100 → (x = [] → at' = 0) → (∀ h : x ≠ [], x.getLast h + 1 = at') → BufO (α := Int) 3 0 w vx x →
    Calls Tryz.prog 23 #[vx, .int .i64 n, .int .i64 ((x.length + left : Nat) : Int)] w fun e w' => ∃ v, e = .returned v ∧ Ext w w' ∧ SetB w.heap.size w' v ((Rf.setsF n at' left).map fun s => x ++ s) := by
  intro left
  induction left with
  | zero =>
    intro x at' vx w hxl ha h0 hlast hB
    have xs := hB.isS.1
    have xl := hB.isS.2
    refine Calls_of_Run (args := [vx, .int .i64 n, .int .i64 ((x.length + 0 : Nat) : Int)]) (n := 44) (rs := [.tmp 6]) Tryz.func23 rfl rfl rfl (by simp) ?_
    (repeat with_reducible first | refine jy ?_ | refine jw KL23 [] (aa TF23 (aa xs xl)) fun _ => ?_)
    refine Run_condS (fun _ => rfl) (fun h => ?_) (fun h => ?_)
    · (repeat with_reducible first | refine jy ?_ | refine jw KL23 [] TF23 fun _ => ?_)
      refine SemW_buildSlice (vs := [vx]) Tryz.underlying70 ti25 rfl rfl rfl (by simp [isS_c xs]) (by simp) fun pb w1 h1 => ?_
      have hc1 : Cs w1 [[vx]] [(⟨vx⟩ : RawS)] := Cs.one (show Enc.rep w1 [vx] (⟨vx⟩ : RawS) from ⟨rfl, xs⟩)
      have B1 : BufO (α := RawS) 25 w.heap.size w1 (.slice (some pb) 1 1) [⟨vx⟩] := (BufL.new (α := RawS) (e := 25) (W := w) (w := w) (w' := w1) (p := pb) (css := [[vx]]) (xs := [(⟨vx⟩ : RawS)]) (by simpa [isS_c xs] using h1) (Ext.refl _) hc1 (by simp [maxLen])).o
      (repeat with_reducible first | refine jy ?_ | refine jw KL23 [] TF23 fun _ => ?_)
      refine Run_ret ?_
      simp only [Rets, RetM, resV, fnd, oneOr, ↓reduceIte, KS, Nat.reduceAdd, Nat.reduceMul, Nat.reduceEqDiff, ↓reduceIte, UT]
      refine ⟨_, rfl, _, rfl, h1.ext, [⟨vx⟩], B1, rfl, fun i h1' h2 => ?_⟩
      have : i = 0 := by simp at h1'; omega
      subst this
      simpa [Rf.setsF] using hB.keepQ (Keep.of_ext (S := fun _ => True) h1.ext) fun _ _ => trivial
    · simp at h
  | succ left ih =>
    intro x at' vx w hxl ha h0 hlast hB
    have xs := hB.isS.1
    have xl := hB.isS.2
    have hsx := hB.sl (by omega)
    refine Calls_of_Run (args := [vx, .int .i64 n, .int .i64 ((x.length + (left + 1) : Nat) : Int)]) (n := 44) (rs := [.tmp 6]) Tryz.func23 rfl rfl rfl (by simp) ?_
    (repeat with_reducible first | refine jy ?_ | refine jw KL23 [] (aa TF23 (aa xs xl)) fun _ => ?_)
    refine Run_condS (fun _ => rfl) (fun h => ?_) (fun h => ?_)
    · simp at h
      omega
    clear h
    (repeat with_reducible first | refine jy ?_ | refine jw KL23 [] TF23 fun _ => ?_)
    refine Run_cutV [7, 18] (σ := Unit) (fun _ => [(7, some (.int .i64 at'))]) (fun _ w' => w' = w) ?_ ?_
    · refine Run_condS (fun _ => rfl) (fun h => ?_) (fun h => ?_)
      · have hx0 : 0 < x.length := by simpa [xl] using h
        have hne : x ≠ [] := List.length_pos_iff.1 hx0
        have hl := hlast hne
        rw [List.getLast_eq_getElem] at hl
        have hi1 : ((x.length : Int) - 1).toNat = x.length - 1 := by omega
        obtain ⟨d1, d2, d3⟩ := hsx.get (i := ((x.length : Int) - 1).toNat) (by omega)
        have hxe : x[((x.length : Int) - 1).toNat]'(by omega) = x[x.length - 1]'(by omega) := by simp [hi1]
        rw [hxe] at d1
        generalize x[x.length - 1]'(by omega) = xz at *
        have hx0c : (0 : Int) < x.length := by omega
        (repeat with_reducible first | refine jy ?_ | refine jw KL23 [] (aa TF23 (aa xs (aa xl (aa d1 d2)))) fun _ => ?_)
        refine Run_lp ⟨(), ?_, rfl⟩
        simp [SubB, fnd, strike, has]
        omega
      · have hx0 : x.length = 0 := by simpa [xl] using h
        have hx : x = [] := List.eq_nil_of_length_eq_zero hx0
        have := h0 hx
        (repeat with_reducible first | refine jy ?_ | refine jw KL23 [] TF23 fun _ => ?_)
        exact Run_lp ⟨(), by simp [SubB, fnd, strike, has, this], rfl⟩
    rintro _ w' rfl
    (repeat with_reducible first | refine jy ?_ | refine jw KL23 [] TF23 fun _ => ?_)
    refine Run_loopV [8, 9, 29] (σ := Nat × Value) (fun q => [(9, some (.int .i64 q.1)), (8, some q.2)]) (fun q w1 => q.1 ≤ 100 ∧ Ext w' w1 ∧ ∃ P, (Rf.setsF n at' (left + 1)).map (fun s => x ++ s) = P ++ (Rf.setsF n q.1 (left + 1)).map (fun s => x ++ s) ∧ SetB w'.heap.size w1 q.2 P) (fun q => 100 - q.1) (at', .slice none 0 0) (by simp [SubB, fnd]) ⟨ha, Ext.refl _, [], by simp, SetB.nil⟩ ?_
    rintro ⟨q, vb⟩ w1 ⟨hq, x1, P, hP, hS⟩
    simp only at hq x1 hP hS
    (repeat with_reducible first | refine jy ?_ | refine jw KL23 [] TF23 fun _ => ?_)
    refine Run_condS (fun _ => rfl) (fun h => ?_) (fun h => ?_)
    · simp at h
      have hqn : q < n := by omega
      clear h
      have hsx1 := hsx.ext x1
      (repeat with_reducible first | refine jy ?_ | refine jw KL23 [] TF23 fun _ => ?_)
      refine SemW_buildSlice (vs := []) Tryz.underlying25 ti3 rfl rfl rfl (by simp) (by simp) fun pb w2 h2 => ?_
      have B2 : BufO (α := Int) 3 w1.heap.size w2 (.slice (some pb) 0 0) [] := (BufL.new (α := Int) (e := 3) (W := w1) (w := w1) (w' := w2) (p := pb) (css := []) (xs := ([] : List Int)) h2 (Ext.refl _) (Cs.nil _) (by simp [maxLen])).o
      refine SemW_appendFO (α := Int) Tryz.underlying25 ti3 rfl (by decide) B2 h2.ext.size (hsx1.ext h2.ext) (by simp only [maxLen, List.length_nil]; omega) fun v3 w3 B3 k3 => ?_
      have e13 : Ext w1 w3 := Keep.ext h2.ext k3 fun b hb e => by have := (B2.own_lt e.symm).1; omega
      refine SemW_append1FO (α := Int) Tryz.underlying25 ti3 rfl (by decide) B3 e13.size (x := (q : Int)) ⟨rfl, by constructor <;> omega⟩ (by simp only [maxLen, List.nil_append]; omega) fun _ v4 w4 B4 k4 => ?_
      have e14 : Ext w1 w4 := Keep.ext e13 k4 fun b hb e => by have := (B3.own_lt e.symm).1; omega
      rw [List.nil_append] at B4
      have ihq := ih (x ++ [(q : Int)]) (q + 1) v4 w4 (by rw [List.length_append, List.length_singleton]; omega) (by omega) (fun h => by simp at h) (fun h => by simp) (B4.mono (Nat.zero_le _))
      rw [List.length_append, List.length_singleton, show x.length + 1 + left = x.length + (left + 1) by omega] at ihq
      refine CallW_gen call23 ihq fun e w5 ⟨v5, he, x5, hS5⟩ => ⟨_, he, ?_⟩
      have e15 := e14.trans x5
      obtain ⟨rs, a, b, c⟩ := (hS.ext e15).ex
      have hS5s := hS5
      obtain ⟨rs2, a2, b2, c2⟩ := hS5.ex
      have hPl : P.length ≤ 1000 := by
        have e1 := congrArg List.length hP
        simp only [List.length_append, List.length_map] at e1
        have e2 := Rf.setsF_16 hn at' (left + 1)
        omega
      have hSl : ((Rf.setsF n (q + 1) left).map fun s => x ++ [(q : Int)] ++ s).length ≤ 1000 := by
        rw [List.length_map]
        have := Rf.setsF_16 hn (q + 1) left
        omega
      have hbase : w'.heap.size ≤ w5.heap.size := (x1.trans e15).size
      refine SemW_appendFO (α := RawS) Tryz.underlying70 ti25 rfl (by decide) a hbase (a2.sl (by omega)) (by rw [b, b2]; simp only [maxLen]; omega) fun v6 w6 B6 k6 => ?_
      have hS6 := SetB.app a b c b2 c2 B6 k6
      have e6 : Ext w' w6 := Keep.ext (x1.trans e15) k6 fun g hg e => by have := (a.own_lt e.symm).1; omega
      (repeat with_reducible first | refine jy ?_ | refine jw KL23 [] TF23 fun _ => ?_)
      exact Run_lp ⟨(q + 1, v6), by simp [SubB, fnd, strike, has], ⟨by show q + 1 ≤ 100; omega, e6, P ++ (Rf.setsF n (q + 1) left).map (fun s => x ++ [(q : Int)] ++ s), by
        rw [hP, Rf.setsF_cons hqn, List.map_append, List.map_map, List.append_assoc]
        congr 2
        exact List.map_congr_left fun s _ => by simp, hS6⟩, by show 100 - (q + 1) < 100 - q; omega⟩
    simp at h
    have hnq : n ≤ q := by omega
    clear h
    rw [Rf.setsF_nil hnq] at hP
    simp only [List.map_nil, List.append_nil] at hP
    (repeat with_reducible first | refine jy ?_ | refine jw KL23 [] TF23 fun _ => ?_)
    refine Run_ret ?_
    simp only [Rets, RetM, resV, fnd, oneOr, ↓reduceIte, KS, Nat.reduceAdd, Nat.reduceMul, Nat.reduceEqDiff, ↓reduceIte, UT]
    exact ⟨_, rfl, _, rfl, x1, by rw [hP]; exact hS⟩
end Go.Proofs.YtldjfebokojmfaaGreat
set_option linter.unusedVariables false
set_option linter.unusedSimpArgs false
namespace Go.Fk
open Go
namespace Rf
section
variable {t : TimeD} {f : TariffD} {l : List OrderD} {covers : Int}
theorem full_set (h : l.length ≤ 4) : ∃ s ∈ allSets l.length, someO l s = l := by
  match l, h with
  | [], _ => exact ⟨[], by show ([] : List Int) ∈ allSets 0; decide, rfl⟩
  | [a], _ => exact ⟨[0], by show [0] ∈ allSets 1; decide, rfl⟩
  | [a, b], _ => exact ⟨[0, 1], by show [0, 1] ∈ allSets 2; decide, rfl⟩
  | [a, b, c], _ => exact ⟨[0, 1, 2], by show [0, 1, 2] ∈ allSets 3; decide, rfl⟩
  | [a, b, c, d], _ => exact ⟨[0, 1, 2, 3], by show [0, 1, 2, 3] ∈ allSets 4; decide, rfl⟩
  | _ :: _ :: _ :: _ :: _ :: _, h => simp at h
theorem someO_mem {s : List Int} (hs : ∀ x ∈ s, 0 ≤ x ∧ x < (l.length : Int)) : ∀ o ∈ someO l s, o ∈ l := fun o ho => by
  unfold someO at ho
  obtain ⟨x, hx, rfl⟩ := List.mem_map.1 ho
  have := hs x hx
  have hxl : x.toNat < l.length := by omega
  rw [List.getD_eq_getElem?_getD, List.getElem?_eq_getElem hxl]
  exact List.getElem_mem _
theorem some_ok (he : Pl.err t f l = 0) (ho : Pl.optsE t f l = 0) {s : List Int} (hs : ∀ x ∈ s, 0 ≤ x ∧ x < (l.length : Int)) (hn : s.length ≤ 64) : Pl.err t f (someO l s) = 0 ∧ Pl.optsE t f (someO l s) = 0 :=
  ⟨Pl.err_sub he (someO_mem hs) (by simpa [someO] using hn), Pl.optsE_sub ho (someO_mem hs)⟩
theorem make_ok (he : Pl.err t f l = 0) (ho : Pl.optsE t f l = 0) : (Pl.make t f l covers).2.2 = 0 ∧ ((Pl.make t f l covers).2.1 = false → Pl.mkOf t f l covers = none) := by
  unfold Pl.make
  rw [if_neg (by simp [he]), if_neg (by simp [ho])]
  cases Pl.mkOf t f l covers with
  | none => exact ⟨rfl, fun _ => rfl⟩
  | some of => exact ⟨rfl, fun h => by cases h⟩
theorem least_cases (hl : l.length ≤ 4) : (begE t f l ≠ 0 ∧ least t f l covers = ([], noRef, false, begE t f l) ∧ (Pl.make t f l covers).2 = (false, begE t f l)) ∨
    (Pl.err t f l = 0 ∧ Pl.optsE t f l = 0 ∧ least t f l covers = ([], noRef, false, 0) ∧ (Pl.make t f l covers).2 = (true, 0)) ∨
    (Pl.err t f l = 0 ∧ Pl.optsE t f l = 0 ∧ (Pl.make t f l covers).2 = (false, 0) ∧ ∃ core, (allSets l.length).find? (noSet t f l covers) = some core ∧ least t f l covers = (core, proofF t (someO l core) (Pl.optsOf t f (someO l core)) [], true, 0)) := by
  by_cases h1 : Pl.err t f l = 0
  · by_cases h2 : Pl.optsE t f l = 0
    · right
      have hm := (make_ok (covers := covers) h1 h2).1
      by_cases h3 : (Pl.make t f l covers).2.1 = true
      · left
        refine ⟨h1, h2, ?_, Prod.ext h3 hm⟩
        unfold least
        rw [if_neg (by simp [h1]), if_neg (by simp [h2]), if_neg (by omega), if_pos h3]
      · right
        have h3' : (Pl.make t f l covers).2.1 = false := by simpa using h3
        refine ⟨h1, h2, Prod.ext h3' hm, ?_⟩
        cases hf : (allSets l.length).find? (noSet t f l covers) with
        | none =>
          obtain ⟨s, hs, e⟩ := full_set hl
          have := List.find?_eq_none.1 hf s hs
          unfold noSet at this
          rw [e, h3'] at this
          simp at this
        | some core =>
          refine ⟨core, rfl, ?_⟩
          unfold least
          rw [if_neg (by simp [h1]), if_neg (by simp [h2]), if_neg (by omega), if_neg (by simp [h3']), hf]
    · left
      have hb : begE t f l = Pl.optsE t f l := by unfold begE; rw [if_neg (by simp [h1])]
      refine ⟨by rw [hb]; exact h2, ?_, ?_⟩
      · unfold least
        rw [if_neg (by simp [h1]), if_pos h2, hb]
      · unfold Pl.make
        rw [if_neg (by simp [h1]), if_pos h2, hb]
  · left
    have hb : begE t f l = Pl.err t f l := by unfold begE; rw [if_pos h1]
    refine ⟨by rw [hb]; exact h1, ?_, ?_⟩
    · unfold least
      rw [if_pos h1, hb]
    · unfold Pl.make
      rw [if_pos h1, hb]
theorem before_core {pre post : List (List Int)} {s core : List Int} {p : List Int → Bool} (h : (pre ++ s :: post).find? p = some core) (hp : core ∉ pre) (hs : s ≠ core) : p s = false := by
  rw [List.find?_append] at h
  cases hf : pre.find? p with
  | some c =>
    rw [hf] at h
    have : c = core := by simpa using h
    subst this
    exact (hp (List.mem_of_find?_eq_some hf)).elim
  | none =>
    rw [hf] at h
    simp only [Option.none_or, List.find?_cons] at h
    cases hps : p s with
    | false => rfl
    | true =>
      rw [hps] at h
      exact (hs (by simpa using h)).elim
end
end Rf
end Go.Fk
