import Derived.Test.YthengmdnikaooaaGreatQfGp
set_option linter.unusedVariables false
set_option linter.unusedSimpArgs false
namespace Go.Fk
open Go
namespace Tt
theorem before_iff {a b : RunD} : before a b = true ↔ a.At < b.At ∨ a.At = b.At ∧ a.Line < b.Line := by simp [before]
theorem before_trans {a b c : RunD} (h : before a b = true) (k : before b c = true) : before a c = true := by
  rw [before_iff] at *; omega
theorem before_irr {a : RunD} (h : before a a = true) : False := by rw [before_iff] at h; omega
theorem before_asym {a b : RunD} (h : before a b = true) (k : before b a = true) : False := before_irr (before_trans h k)
def Apart (a b : RunD) : Prop := a.At ≠ b.At ∨ a.Line ≠ b.Line
theorem apart_or {a b : RunD} (h : Apart a b) (k : before b a = false) : before a b = true := by
  have k' : ¬ before b a = true := by simp [k]
  rw [before_iff] at *
  unfold Apart at h
  omega
def Srt (l : List RunD) : Prop := l.Pairwise fun a b => before a b = true
theorem srt_uniq : ∀ {a b : List RunD}, a.Perm b → Srt a → Srt b → a = b
  | [], b, h, _, _ => by rw [h.nil_eq]
  | x :: a, [], h, _, _ => by have := h.length_eq; simp at this
  | x :: a, y :: b, h, ha, hb => by
    have hx : x = y := by
      have h1 : x ∈ y :: b := h.mem_iff.1 (List.mem_cons_self ..)
      have h2 : y ∈ x :: a := h.mem_iff.2 (List.mem_cons_self ..)
      rcases List.mem_cons.1 h1 with e | h1
      · exact e
      · rcases List.mem_cons.1 h2 with e | h2
        · exact e.symm
        · exact (before_asym (List.rel_of_pairwise_cons hb h1) (List.rel_of_pairwise_cons ha h2)).elim
    subst hx
    rw [srt_uniq (List.perm_cons x |>.1 h) (List.Pairwise.of_cons ha) (List.Pairwise.of_cons hb)]
def insR (r : RunD) : List RunD → List RunD
  | [] => [r]
  | s :: l => if before s r then s :: insR r l else r :: s :: l
theorem insR_perm (r : RunD) : ∀ l : List RunD, (insR r l).Perm (r :: l)
  | [] => List.Perm.refl _
  | s :: l => by
    unfold insR
    split
    · exact ((insR_perm r l).cons s).trans (List.Perm.swap r s l)
    · exact List.Perm.refl _
theorem insR_srt {r : RunD} : ∀ {l : List RunD}, Srt l → (∀ s ∈ l, Apart r s) → Srt (insR r l)
  | [], _, _ => by simp [insR, Srt]
  | s :: l, h, ha => by
    unfold insR
    split
    · rename_i hb
      refine List.Pairwise.cons (fun x hx => ?_) (insR_srt (List.Pairwise.of_cons h) fun x hx => ha x (List.mem_cons_of_mem _ hx))
      rcases List.mem_cons.1 ((insR_perm r l).mem_iff.1 hx) with rfl | hx
      · exact hb
      · exact List.rel_of_pairwise_cons h hx
    · rename_i hb
      have hrs : before r s = true := apart_or (ha s (List.mem_cons_self ..)) (by simpa using hb)
      refine List.Pairwise.cons (fun x hx => ?_) h
      rcases List.mem_cons.1 hx with rfl | hx
      · exact hrs
      · exact before_trans hrs (List.rel_of_pairwise_cons h hx)
theorem insR_at (r : RunD) : ∀ (l : List RunD) (k : Nat), k ≤ l.length → (∀ j (h : j < l.length), j < k → before l[j] r = true) → (∀ h : k < l.length, before l[k] r = false) → insR r l = l.take k ++ r :: l.drop k
  | [], k, hk, _, _ => by
    have : k = 0 := by simpa using hk
    subst this; rfl
  | s :: l, 0, _, _, h => by
    have := h (by simp)
    simp only [List.getElem_cons_zero] at this
    simp [insR, this]
  | s :: l, k + 1, hk, h1, h2 => by
    have h0 := h1 0 (by simp) (by omega)
    simp only [List.getElem_cons_zero] at h0
    simp only [insR, h0, if_true, List.take_succ_cons, List.drop_succ_cons, List.cons_append]
    rw [insR_at r l k (by simpa using hk) (fun j hj hjk => by have := h1 (j + 1) (by simpa using hj) (by omega); simpa using this) fun h => by have := h2 (by simpa using h); simpa using this]
def sortF (a : List RunD) (l : List RunD) : List RunD := l.foldl (fun a r => insR r a) a
theorem sortF_perm : ∀ (l a : List RunD), (sortF a l).Perm (a ++ l)
  | [], a => by simp [sortF]
  | r :: l, a => by
    show (sortF (insR r a) l).Perm _
    refine (sortF_perm l (insR r a)).trans ?_
    refine ((insR_perm r a).append_right l).trans ?_
    simpa using (List.perm_middle (a := r) (l₁ := a) (l₂ := l)).symm
theorem apart_symm {a b : RunD} (h : Apart a b) : Apart b a := by unfold Apart at *; omega
theorem sortF_srt : ∀ {l a : List RunD}, Srt a → (a ++ l).Pairwise Apart → Srt (sortF a l)
  | [], a, h, _ => h
  | r :: l, a, h, hp => by
    show Srt (sortF (insR r a) l)
    refine sortF_srt (insR_srt h fun s hs => ?_) ?_
    · exact apart_symm ((List.pairwise_append.1 hp).2.2 s hs r (List.mem_cons_self ..))
    · have e : (insR r a ++ l).Perm (a ++ r :: l) := ((insR_perm r a).append_right l).trans (by simpa using (List.perm_middle (a := r) (l₁ := a) (l₂ := l)).symm)
      exact (e.symm.pairwise_iff (fun h => apart_symm h)).1 hp
def sortR (l : List RunD) : List RunD := sortF [] l
theorem sortR_perm (l : List RunD) : (sortR l).Perm l := by
  have := sortF_perm l []
  rwa [List.nil_append] at this
theorem sortR_srt {l : List RunD} (h : l.Pairwise Apart) : Srt (sortR l) := sortF_srt List.Pairwise.nil (by simpa using h)
theorem sortR_eq {l a : List RunD} (hp : a.Perm l) (ha : Srt a) (h : l.Pairwise Apart) : a = sortR l := srt_uniq (hp.trans (sortR_perm l).symm) ha (sortR_srt h)
def runAt (i : Nat) (x : LineD) (a : Int) : Option RunD := if a + leng x < 2097152 then some ⟨i, a, a + leng x⟩ else none
def runsL (i : Nat) (x : LineD) (l : List Int) : List RunD := l.filterMap (runAt i x)
def lineRuns (a b : Int) (i : Nat) (x : LineD) : List RunD := runsL i x (Cal.deps x.Rules x.Off a b)
def allRuns (a b : Int) : Nat → List LineD → List RunD
  | _, [] => []
  | i, x :: r => lineRuns a b i x ++ allRuns a b (i + 1) r
def anyErr (a b : Int) : List LineD → Bool
  | [] => false
  | x :: r => decide ((Cal.moments x.Rules x.Off a b).2 ≠ 0) || anyErr a b r
def runs (t : TimeD) (a b : Int) : List RunD × Int :=
  if chk t ≠ 0 then ([], chk t) else if a < 0 ∨ b < a ∨ 2097152 < b then ([], 1) else if anyErr a b t.Lines then ([], 2) else if 2000 < (allRuns a b 0 t.Lines).length then ([], 2) else (sortR (allRuns a b 0 t.Lines), 0)
theorem mem_runsL {i : Nat} {x : LineD} {l : List Int} {r : RunD} : r ∈ runsL i x l ↔ r.At ∈ l ∧ r.Line = i ∧ r.Arrive = r.At + leng x ∧ r.Arrive < 2097152 := by
  unfold runsL
  rw [List.mem_filterMap]
  constructor
  · rintro ⟨a, ha, h⟩
    unfold runAt at h
    split at h
    · cases h; exact ⟨ha, rfl, rfl, by assumption⟩
    · cases h
  · rintro ⟨h1, h2, h3, h4⟩
    refine ⟨r.At, h1, ?_⟩
    unfold runAt
    rw [if_pos (by omega), ← h2, ← h3]
theorem mem_all {a b : Int} : ∀ {l : List LineD} {i : Nat} {r : RunD}, r ∈ allRuns a b i l ↔ ∃ j, ∃ h : j < l.length, r ∈ lineRuns a b (i + j) l[j]
  | [], i, r => by simp [allRuns]
  | x :: l, i, r => by
    simp only [allRuns, List.mem_append, mem_all (l := l)]
    constructor
    · rintro (h | ⟨j, hj, h⟩)
      · exact ⟨0, by simp, by simpa using h⟩
      · exact ⟨j + 1, by simpa using hj, by simpa [Nat.add_assoc, Nat.add_comm 1 j] using h⟩
    · rintro ⟨j, hj, h⟩
      cases j with
      | zero => exact .inl (by simpa using h)
      | succ j => exact .inr ⟨j, by simpa using hj, by simpa [Nat.add_assoc, Nat.add_comm 1 j] using h⟩
theorem line_of {a b : Int} {i : Nat} {x : LineD} {r : RunD} (h : r ∈ lineRuns a b i x) : r.Line = i := (mem_runsL.1 h).2.1
theorem lineRuns_srt (a b : Int) (i : Nat) (x : LineD) : Srt (lineRuns a b i x) := by
  unfold lineRuns runsL Srt
  rw [List.pairwise_filterMap]
  refine (Cal.deps_sorted x.Rules x.Off a b).imp fun {p q} hpq => ?_
  intro r hr s hs
  unfold runAt at hr hs
  split at hr
  · split at hs
    · cases hr; cases hs; rw [before_iff]; exact .inl hpq
    · cases hs
  · cases hr
theorem all_apart (a b : Int) : ∀ (l : List LineD) (i : Nat), (allRuns a b i l).Pairwise Apart
  | [], i => List.Pairwise.nil
  | x :: l, i => by
    refine List.pairwise_append.2 ⟨(lineRuns_srt a b i x).imp fun {p q} h => ?_, all_apart a b l (i + 1), fun p hp q hq => ?_⟩
    · rw [before_iff] at h; unfold Apart; omega
    · have h1 := line_of hp
      obtain ⟨j, hj, h⟩ := mem_all.1 hq
      have h2 := line_of h
      right; omega
theorem lineRuns_append {a b c : Int} (h1 : a ≤ b) (h2 : b ≤ c) (i : Nat) (x : LineD) : lineRuns a c i x = lineRuns a b i x ++ lineRuns b c i x := by
  unfold lineRuns runsL
  rw [Cal.deps_append h1 h2, List.filterMap_append]
theorem perm_mid {α : Type} (a b c d : List α) : ((a ++ b) ++ (c ++ d)).Perm ((a ++ c) ++ (b ++ d)) := by
  rw [List.append_assoc, List.append_assoc]
  refine List.Perm.append_left a ?_
  rw [← List.append_assoc, ← List.append_assoc]
  exact List.Perm.append_right d List.perm_append_comm
theorem all_append {a b c : Int} (h1 : a ≤ b) (h2 : b ≤ c) : ∀ (l : List LineD) (i : Nat), (allRuns a c i l).Perm (allRuns a b i l ++ allRuns b c i l)
  | [], i => by simp [allRuns]
  | x :: l, i => by
    simp only [allRuns, lineRuns_append h1 h2]
    refine (List.Perm.append_left _ (all_append h1 h2 l (i + 1))).trans ?_
    exact perm_mid _ _ _ _
theorem mem_isR {t : TimeD} {a b : Int} (h0 : 0 ≤ a) (hab : a ≤ b) (hb : b ≤ 2097152) {r : RunD} : r ∈ allRuns a b 0 t.Lines ↔ isR t r = true ∧ a ≤ r.At ∧ r.At < b := by
  rw [mem_all]
  unfold isR
  simp only [Bool.and_eq_true, decide_eq_true_eq]
  constructor
  · rintro ⟨j, hj, h⟩
    obtain ⟨g1, g2, g3, g4⟩ := mem_runsL.1 h
    obtain ⟨g5, g6, g7⟩ := (Cal.deps_mem hab).1 g1
    rw [Nat.zero_add] at g2
    have e : t.Lines.getD r.Line.toNat default = t.Lines[j] := by
      rw [g2, Int.toNat_natCast, List.getD_eq_getElem?_getD, List.getElem?_eq_getElem hj]; rfl
    rw [e]
    exact ⟨⟨⟨by omega, by omega, by omega, by omega⟩, g7, g3, g4⟩, g5, g6⟩
  · rintro ⟨⟨⟨h1, h2, h3, h4⟩, h5, h6, h7⟩, h8, h9⟩
    have hj : r.Line.toNat < t.Lines.length := by omega
    have e : t.Lines.getD r.Line.toNat default = t.Lines[r.Line.toNat] := by rw [List.getD_eq_getElem?_getD, List.getElem?_eq_getElem hj]; rfl
    rw [e] at h5 h6
    exact ⟨r.Line.toNat, hj, mem_runsL.2 ⟨(Cal.deps_mem hab).2 ⟨h8, h9, h5⟩, by rw [Nat.zero_add]; omega, h6, h7⟩⟩
def shift (k : Nat) (r : RunD) : RunD := if (k : Int) < r.Line then ⟨r.Line - 1, r.At, r.Arrive⟩ else r
theorem all_split (a b : Int) : ∀ (l m : List LineD) (i : Nat), allRuns a b i (l ++ m) = allRuns a b i l ++ allRuns a b (i + l.length) m
  | [], m, i => by simp [allRuns]
  | x :: l, m, i => by
    simp only [List.cons_append, allRuns, all_split a b l m (i + 1), List.append_assoc, List.length_cons]
    rw [show i + 1 + l.length = i + (l.length + 1) by omega]
end Tt
end Go.Fk
