import Derived.Test.YtbfhenoiienghaaGreatRbGu
import Derived.Test.YtbfhenoiienghaaGreatRbGs
import Derived.Test.YtbfhenoiienghaaGreatRbGe
import Derived.Test.YtbfhenoiienghaaGreatRbGb
set_option linter.unusedVariables false
set_option linter.unusedSimpArgs false
namespace Go.Fk
open Go
namespace Pl
theorem loadF_n (r : RunD) : ∀ (l : List OrderD) (of : List RunD) (a : LoadD), of.length ≤ l.length → (loadF r l of a).n = a.n + (of.count r : Int)
  | [], [], a, _ => by simp [loadF]
  | [], _ :: _, a, h => by simp at h
  | o :: l, [], a, _ => by simp [loadF]
  | o :: l, s :: of, a, h => by
    simp only [loadF]
    rw [loadF_n r l of _ (by simpa using h)]
    by_cases e : s = r
    · subst e; simp [LoadD.wth]; omega
    · simp [e]
theorem loadF_ge (r : RunD) : ∀ (l : List OrderD) (of : List RunD) (a : LoadD), a.c ≤ (loadF r l of a).c
  | [], of, a => by cases of <;> simp [loadF]
  | o :: l, [], a => by simp [loadF]
  | o :: l, s :: of, a => by
    simp only [loadF]
    have := loadF_ge r l of (if s = r then a.wth o else a)
    refine Int.le_trans ?_ this
    split
    · simp only [LoadD.wth]; omega
    · omega
theorem loadF_c (r : RunD) : ∀ (l : List OrderD) (of : List RunD) (a : LoadD) (i : Nat) (h1 : i < of.length) (h2 : i < l.length), of[i] = r → l[i].Crowd + 1 ≤ (loadF r l of a).c
  | [], _, _, _, _, h, _ => by simp at h
  | _ :: _, [], _, _, h, _, _ => by simp at h
  | o :: l, s :: of, a, 0, h1, h2, e => by
    simp only [List.getElem_cons_zero] at e ⊢
    simp only [loadF, if_pos e]
    refine Int.le_trans ?_ (loadF_ge r l of _)
    simp only [LoadD.wth]; omega
  | o :: l, s :: of, a, i + 1, h1, h2, e => by
    simp only [List.getElem_cons_succ] at e ⊢
    simp only [loadF]
    exact loadF_c r l of _ i (by simpa using h1) (by simpa using h2) e
section
variable {t : TimeD} {f : TariffD} {l : List OrderD} {covers : Int} {p : PlanD}
theorem count_map_inj {g : Int → RunD} {k : Int} : ∀ {L : List Int}, (∀ x ∈ L, g x = g k → x = k) → (L.map g).count (g k) = L.count k
  | [], _ => rfl
  | x :: L, h => by
    have ih := count_map_inj (g := g) (k := k) (L := L) fun y hy => h y (List.mem_cons_of_mem _ hy)
    have hx := h x (List.mem_cons_self ..)
    simp only [List.map_cons, List.count_cons, ih]
    by_cases e : x = k
    · subst e; simp
    · have : g x ≠ g k := fun e' => e (hx e')
      simp [e, this]
theorem Acc.cnt (h : Acc t f l covers p) {k : Nat} (hk : k < p.Runs.length) : (ofs p).count p.Runs[k] = p.Of.count (k : Int) := by
  have e : p.Runs[k] = (fun q : Int => p.Runs.getD q.toNat default) (k : Int) := by simp [List.getD_eq_getElem?_getD, hk]
  unfold ofs
  rw [e]
  refine count_map_inj (g := fun q : Int => p.Runs.getD q.toNat default) (k := (k : Int)) fun x hx hq => ?_
  have hin := h.ins x hx
  simp only [List.getD_eq_getElem?_getD] at hq
  rw [List.getElem?_eq_getElem (show x.toNat < p.Runs.length by omega), List.getElem?_eq_getElem (show ((k : Int)).toNat < p.Runs.length by simpa using hk)] at hq
  simp only [Option.getD_some] at hq
  have hnd := srt_nodup h.s
  have hpw := List.pairwise_iff_getElem.1 hnd
  simp only [Int.toNat_natCast] at hq
  rcases Nat.lt_trichotomy x.toNat k with h1 | h1 | h1
  · exact (hpw _ _ (by omega) hk h1 hq).elim
  · omega
  · exact (hpw _ _ hk (by omega) h1 hq.symm).elim
theorem Acc.letters (h : Acc t f l covers p) {k : Nat} (hk : k < p.Runs.length) : p.Covers[k]'(by rw [h.cl]; exact hk) + (p.Of.count (k : Int) : Int) = max (load l (ofs p) p.Runs[k]).n (load l (ofs p) p.Runs[k]).c := by
  have hc : p.Covers[k]'(by rw [h.cl]; exact hk) = (load l (ofs p) p.Runs[k]).covers := by
    have e := h.c
    have : p.Covers[k]'(by rw [h.cl]; exact hk) = (p.Runs.map fun r => (load l (ofs p) r).covers)[k]'(by simpa using hk) := by
      simp only [← e]
    rw [this, List.getElem_map]
  have hn : (load l (ofs p) p.Runs[k]).n = (p.Of.count (k : Int) : Int) := by
    unfold load
    rw [loadF_n _ _ _ _ (by rw [ofs_len, h.ol]; exact Nat.le_refl _), h.cnt hk]
    simp [LoadD.zero]
  rw [hc, ← hn]
  simp only [LoadD.covers]; omega
structure KeptI (t : TimeD) (f : TariffD) (o : OrderD) (r : RunD) (x : LineD) : Prop where
  g : Tf.pri f o.Class x.Legs.length o.Crowd = ((Tf.pri f o.Class x.Legs.length o.Crowd).1, 0)
  p : (Tf.pri f o.Class x.Legs.length o.Crowd).1 ≤ o.Pay
  a : o.After ≤ r.At
  b : r.Arrive ≤ o.By
  n : 2 ≤ x.Offices.length
  fr : ∀ h : 0 < x.Offices.length, x.Offices[0] = o.From
  de : ∀ h : x.Offices.length - 1 < x.Offices.length, x.Offices[x.Offices.length - 1] = o.Dest
  cl : 0 ≤ o.Class ∧ o.Class ≤ 7
  bit : iand .i64 (x.Classes.fdiv (2 ^ (min o.Class.toNat 64))) 1 = 1
  hid : x.Offices.any (fun k => !o.Against.contains k) = true
theorem fits_kept {o : OrderD} {r : RunD} (ok : Ok t f l) (ho : o ∈ l) (hf : fits t f o r = true) (hl : Tt.LOk (lineR t r) t.Offices) : KeptI t f o r (lineR t r) := by
  have hr := ok.o o ho
  have hb := (Tf.chk_ok ok.f).n8
  simp only [oright, oNum, Bool.and_eq_true, decide_eq_true_eq] at hr
  simp only [fits, c0, c1, c2, c3, c4, c5, Bool.and_eq_true, decide_eq_true_eq, beq_iff_eq] at hf
  obtain ⟨⟨⟨⟨⟨f0, f1⟩, f2⟩, f3⟩, f4⟩, f5⟩ := hf
  have hw : Tf.wrong f o.Class (lineR t r).Legs.length o.Crowd = 0 := by
    unfold Tf.wrong
    rw [if_neg (by simp [ok.f]), if_neg (by have := hl.o2; have := hl.o9; have := hl.l1; omega)]
  refine ⟨?_, f3, f2.1, f2.2, hl.o2, fun h => ?_, fun h => ?_, by omega, f0, f5⟩
  · unfold Tf.pri; rw [if_neg (by simp [hw])]
  · have := f1.1
    rwa [List.getD_eq_getElem?_getD, List.getElem?_eq_getElem h] at this
  · have := f1.2
    rwa [List.getD_eq_getElem?_getD, List.getElem?_eq_getElem h] at this
end
end Pl
end Go.Fk
namespace Go.Proofs.YtbfhenoiienghaaGreat
open Go Go.Fk
set_option linter.unusedSimpArgs false
set_option linter.unusedVariables false
set_option maxRecDepth 100000
end Go.Proofs.YtbfhenoiienghaaGreat
