import Derived.Test.YthengmdnikaooaaGreatQfP22b
set_option linter.unusedVariables false
set_option linter.unusedSimpArgs false
namespace Go.Fk
open Go
namespace Pl
def fitsA (t : TimeD) (f : TariffD) (o : OrderD) (r : RunD) : Bool × Int := if err t f [o] ≠ 0 then (false, err t f [o]) else if Tt.isRun t r then (fits t f o r, 0) else (false, 1)
def options (t : TimeD) (f : TariffD) (o : OrderD) : List RunD × Int :=
  if err t f [o] ≠ 0 then ([], err t f [o]) else if (Tt.runs t o.After (o.By + 1)).2 ≠ 0 then ([], (Tt.runs t o.After (o.By + 1)).2) else ((Tt.runs t o.After (o.By + 1)).1.filter (fits t f o), 0)
def optsE (t : TimeD) (f : TariffD) : List OrderD → Int
  | [] => 0
  | o :: r => if (options t f o).2 ≠ 0 then (options t f o).2 else optsE t f r
def optsOf (t : TimeD) (f : TariffD) (l : List OrderD) : List (List RunD) := l.map fun o => (options t f o).1
def room (t : TimeD) (r : RunD) : Int := (lineR t r).Room
def mkOf (t : TimeD) (f : TariffD) (l : List OrderD) (covers : Int) : Option (List RunD) := srch l (room t) (leafT l covers) (optsOf t f l) []
def noPlan : PlanD := ⟨[], [], []⟩
def make (t : TimeD) (f : TariffD) (l : List OrderD) (covers : Int) : PlanD × Bool × Int :=
  if err t f l ≠ 0 then (noPlan, false, err t f l) else if optsE t f l ≠ 0 then (noPlan, false, optsE t f l) else
    match mkOf t f l covers with
    | none => (noPlan, false, 0)
    | some of => (planOf l of, true, 0)
theorem optsE_drop {t : TimeD} {f : TariffD} {l : List OrderD} {k : Nat} (h : k < l.length) : optsE t f (l.drop k) = if (options t f l[k]).2 ≠ 0 then (options t f l[k]).2 else optsE t f (l.drop (k + 1)) := by
  rw [List.drop_eq_getElem_cons h]; rfl
theorem optsE_iff {t : TimeD} {f : TariffD} : ∀ {l : List OrderD}, optsE t f l = 0 ↔ ∀ o ∈ l, (options t f o).2 = 0
  | [] => by simp [optsE]
  | o :: r => by
    unfold optsE
    by_cases h : (options t f o).2 = 0
    · rw [if_neg (by simp [h]), optsE_iff (l := r)]; simp [h]
    · rw [if_pos (by simpa using h)]; simp [h]
theorem runs_ok {t : TimeD} {a b : Int} (h : (Tt.runs t a b).2 = 0) : Tt.chk t = 0 ∧ 0 ≤ a ∧ a ≤ b ∧ b ≤ 2097152 ∧ (Tt.runs t a b).1 = Tt.sortR (Tt.allRuns a b 0 t.Lines) ∧ ((Tt.runs t a b).1.length ≤ 2000) := by
  unfold Tt.runs at h ⊢
  by_cases h1 : Tt.chk t = 0
  · rw [if_neg (by simp [h1])] at h ⊢
    by_cases h2 : a < 0 ∨ b < a ∨ 2097152 < b
    · rw [if_pos h2] at h; cases h
    · rw [if_neg h2] at h ⊢
      by_cases h3 : Tt.anyErr a b t.Lines = true
      · rw [if_pos h3] at h; cases h
      · rw [if_neg h3] at h ⊢
        by_cases h4 : 2000 < (Tt.allRuns a b 0 t.Lines).length
        · rw [if_pos h4] at h; cases h
        · rw [if_neg h4]
          refine ⟨h1, by omega, by omega, by omega, rfl, ?_⟩
          rw [(Tt.sortR_perm _).length_eq]; omega
  · rw [if_pos (by simpa using h1)] at h; exact (h1 h).elim
theorem isRun_le {t : TimeD} {r : RunD} (h : Tt.isRun t r = true) : r.At ≤ r.Arrive := by
  simp only [Tt.isRun, Tt.isR, Bool.and_eq_true, decide_eq_true_eq] at h
  obtain ⟨h0, ⟨h1, h2, _⟩, _, h3, _⟩ := h
  have hln : r.Line.toNat < t.Lines.length := by omega
  have e : t.Lines.getD r.Line.toNat default = t.Lines[r.Line.toNat] := by rw [List.getD_eq_getElem?_getD, List.getElem?_eq_getElem hln]; rfl
  have hlo := Tt.right_ok ((Tt.chk_ok h0).r _ (List.getElem_mem hln))
  have := Tt.sm_bd hlo.l _ (Nat.le_refl _)
  rw [List.take_length] at this
  rw [e] at h3
  unfold Tt.leng at h3
  omega
theorem opt_ok {t : TimeD} {f : TariffD} {o : OrderD} (h : (options t f o).2 = 0) : Tt.Srt (options t f o).1 ∧ (∀ r, r ∈ (options t f o).1 ↔ Tt.isRun t r = true ∧ fits t f o r = true) ∧ err t f [o] = 0 := by
  unfold options at h ⊢
  by_cases h1 : err t f [o] = 0
  · rw [if_neg (by simp [h1])] at h ⊢
    by_cases h2 : (Tt.runs t o.After (o.By + 1)).2 = 0
    · rw [if_neg (by simp [h2])]
      obtain ⟨a1, a2, a3, a4, a5, a6⟩ := runs_ok h2
      rw [a5]
      refine ⟨List.Pairwise.filter _ (Tt.sortR_srt (Tt.all_apart _ _ _ _)), fun r => ?_, h1⟩
      rw [List.mem_filter, (Tt.sortR_perm _).mem_iff, Tt.mem_isR a2 a3 a4]
      have hd : Tt.isRun t r = Tt.isR t r := by unfold Tt.isRun; rw [decide_eq_true a1, Bool.true_and]
      rw [hd]
      constructor
      · rintro ⟨⟨g1, _, _⟩, g2⟩; exact ⟨g1, g2⟩
      · rintro ⟨g1, g2⟩
        have g3 := g2
        simp only [fits, c2, Bool.and_eq_true, decide_eq_true_eq] at g3
        have := isRun_le (hd.trans g1)
        exact ⟨⟨g1, g3.1.1.1.2.1, by have := g3.1.1.1.2.2; omega⟩, g2⟩
    · rw [if_pos (by simpa using h2)] at h; exact (h2 h).elim
  · rw [if_pos (by simpa using h1)] at h; exact (h1 h).elim
section
variable {t : TimeD} {f : TariffD} {l : List OrderD} {covers : Int}
theorem opts_srt (h : optsE t f l = 0) : ∀ o ∈ optsOf t f l, Tt.Srt o := fun o ho => by
  unfold optsOf at ho
  obtain ⟨x, hx, rfl⟩ := List.mem_map.1 ho
  exact (opt_ok (optsE_iff.1 h x hx)).1
theorem opts_get {k : Nat} (hk : k < l.length) : (optsOf t f l).getD k [] = (options t f l[k]).1 := by
  unfold optsOf
  rw [List.getD_eq_getElem?_getD, List.getElem?_map, List.getElem?_eq_getElem hk]; rfl
structure Acc (t : TimeD) (f : TariffD) (l : List OrderD) (covers : Int) (p : PlanD) : Prop where
  ol : p.Of.length = l.length
  cl : p.Covers.length = p.Runs.length
  r : ∀ r ∈ p.Runs, Tt.isRun t r = true
  s : Tt.Srt p.Runs
  o : ∀ k, k < l.length → 0 ≤ p.Of.getD k 0 ∧ p.Of.getD k 0 < p.Runs.length
  f : ∀ k, k < l.length → fits t f (l.getD k default) ((ofs p).getD k default) = true
  m : ∀ r ∈ ofs p, r ∈ p.Runs
  n : ∀ r ∈ p.Runs, (load l (ofs p) r).n ≠ 0
  c : p.Covers = p.Runs.map fun r => (load l (ofs p) r).covers
  x : ∀ r ∈ p.Runs, max (load l (ofs p) r).n (load l (ofs p) r).c ≤ room t r
  e : sum p.Covers ≤ covers
theorem ofs_len (p : PlanD) : (ofs p).length = p.Of.length := by simp [ofs]
theorem Acc.tot {p : PlanD} (h : Acc t f l covers p) : Pl.tot l (ofs p) ≤ covers := by
  rw [← sum_tot (srt_nodup h.s) (ofs p) (by rw [ofs_len, h.ol]; exact Nat.le_refl _) h.m, ← h.c]; exact h.e
structure OptOk (t : TimeD) (f : TariffD) (l : List OrderD) (opts : List (List RunD)) : Prop where
  n : opts.length = l.length
  s : ∀ o ∈ opts, Tt.Srt o
  m : ∀ k, k < l.length → ∀ r ∈ opts.getD k [], Tt.isRun t r = true ∧ fits t f (l.getD k default) r = true
theorem getD_l {k : Nat} (hk : k < l.length) : l.getD k default = l[k] := by simp [List.getD_eq_getElem?_getD, hk]
theorem opts_okk (ho : optsE t f l = 0) : OptOk t f l (optsOf t f l) := ⟨by simp [optsOf], opts_srt ho, fun k hk r hr => by
  rw [opts_get hk] at hr
  rw [getD_l hk]
  exact ((opt_ok (optsE_iff.1 ho _ (List.getElem_mem hk))).2.1 r).1 hr⟩
structure Mk (t : TimeD) (f : TariffD) (l : List OrderD) (covers : Int) (opts : List (List RunD)) (of : List RunD) : Prop where
  p : Path l (room t) opts [] of
  c : Pl.tot l of ≤ covers
  n : of.length = l.length
  r : ∀ r ∈ of, Tt.isRun t r = true
  f : ∀ k, k < l.length → fits t f (l.getD k default) (of.getD k default) = true
  x : ∀ r ∈ of, max (load l of r).n (load l of r).c ≤ room t r
theorem mk_okG {opts : List (List RunD)} {of : List RunD} (ho : OptOk t f l opts) (h : srch l (room t) (leafT l covers) opts [] = some of) : Mk t f l covers opts of := by
  obtain ⟨s, hp, he, hl⟩ := srch_some h
  rw [List.nil_append] at he
  subst he
  have hn : of.length = l.length := by rw [path_len hp, ho.n]
  have hm : ∀ k (h : k < of.length), Tt.isRun t of[k] = true ∧ fits t f (l.getD k default) of[k] = true := fun k hk => ho.m k (by omega) _ (path_mem hp k hk)
  refine ⟨hp, by simpa [leafT] using hl, hn, fun r hr => ?_, fun k hk => ?_, ?_⟩
  · obtain ⟨k, hk, rfl⟩ := List.getElem_of_mem hr; exact (hm k hk).1
  · have := (hm k (by omega)).2
    rwa [show of.getD k default = of[k]'(by omega) by simp [List.getD_eq_getElem?_getD, show k < of.length by omega]]
  · have := path_room hp (by simp [ho.n]) (by simp)
    simpa using this
theorem mk_ok {of : List RunD} (ho : optsE t f l = 0) (h : mkOf t f l covers = some of) : Mk t f l covers (optsOf t f l) of := mk_okG (opts_okk ho) h
theorem Mk.good {opts : List (List RunD)} {of : List RunD} (h : Mk t f l covers opts of) : Pl.good t f l covers (planOf l of) = true := by
  rw [good_planOf h.n h.r h.f h.x]; simpa [leafT] using h.c
theorem Mk.ofs {opts : List (List RunD)} {of : List RunD} (h : Mk t f l covers opts of) : Pl.ofs (planOf l of) = of := ofs_planOf (isRun_dis h.r)
end
end Pl
end Go.Fk
