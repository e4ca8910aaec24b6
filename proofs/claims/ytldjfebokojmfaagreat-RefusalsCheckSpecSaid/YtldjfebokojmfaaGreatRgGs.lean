import Derived.Test.YtldjfebokojmfaaGreatRgGp
set_option linter.unusedVariables false
set_option linter.unusedSimpArgs false
namespace Go.Fk
open Go
namespace Tt
theorem before_iff {a b : RunD} : before a b = true ↔ a.At < b.At ∨ a.At = b.At ∧ a.Line < b.Line := by simp [before]
theorem before_trans {a b c : RunD} (h : before a b = true) (k : before b c = true) : before a c = true := by
  rw [before_iff] at *; omega
theorem before_irr {a : RunD} (h : before a a = true) : False := by rw [before_iff] at h; omega
theorem before_asym {a b : RunD} (h : before a b = true) (k : before b a = true) : False := before_irr (before_trans h k)
def Apart (a b : RunD) : Prop := a.At ≠ b.At ∨ a.Line ≠ b.Line
theorem apart_or {a b : RunD} (h : Apart a b) (k : before b a = false) : before a b = true := by
  have k' : ¬ before b a = true := by simp [k]
  rw [before_iff] at *
  unfold Apart at h
  omega
def Srt (l : List RunD) : Prop := l.Pairwise fun a b => before a b = true
theorem srt_uniq : ∀ {a b : List RunD}, a.Perm b → Srt a → Srt b → a = b
  | [], b, h, _, _ => by rw [h.nil_eq]
  | x :: a, [], h, _, _ => by have := h.length_eq; simp at this
  | x :: a, y :: b, h, ha, hb => by
    have hx : x = y := by
      have h1 : x ∈ y :: b := h.mem_iff.1 (List.mem_cons_self ..)
      have h2 : y ∈ x :: a := h.mem_iff.2 (List.mem_cons_self ..)
      rcases List.mem_cons.1 h1 with e | h1
      · exact e
      · rcases List.mem_cons.1 h2 with e | h2
        · exact e.symm
        · exact (before_asym (List.rel_of_pairwise_cons hb h1) (List.rel_of_pairwise_cons ha h2)).elim
    subst hx
    rw [srt_uniq (List.perm_cons x |>.1 h) (List.Pairwise.of_cons ha) (List.Pairwise.of_cons hb)]
def insR (r : RunD) : List RunD → List RunD
  | [] => [r]
  | s :: l => if before s r then s :: insR r l else r :: s :: l
theorem insR_perm (r : RunD) : ∀ l : List RunD, (insR r l).Perm (r :: l)
  | [] => List.Perm.refl _
  | s :: l => by
    unfold insR
    split
    · exact ((insR_perm r l).cons s).trans (List.Perm.swap r s l)
    · exact List.Perm.refl _
theorem insR_srt {r : RunD} : ∀ {l : List RunD}, Srt l → (∀ s ∈ l, Apart r s) → Srt (insR r l)
  | [], _, _ => by simp [insR, Srt]
  | s :: l, h, ha => by
    unfold insR
    split
    · rename_i hb
      refine List.Pairwise.cons (fun x hx => ?_) (insR_srt (List.Pairwise.of_cons h) fun x hx => ha x (List.mem_cons_of_mem _ hx))
      rcases List.mem_cons.1 ((insR_perm r l).mem_iff.1 hx) with rfl | hx
      · exact hb
      · exact List.rel_of_pairwise_cons h hx
    · rename_i hb
      have hrs : before r s = true := apart_or (ha s (List.mem_cons_self ..)) (by simpa using hb)
      refine List.Pairwise.cons (fun x hx => ?_) h
      rcases List.mem_cons.1 hx with rfl | hx
      · exact hrs
      · exact before_trans hrs (List.rel_of_pairwise_cons h hx)
theorem insR_at (r : RunD) : ∀ (l : List RunD) (k : Nat), k ≤ l.length → (∀ j (h : j < l.length), j < k → before l[j] r = true) → (∀ h : k < l.length, before l[k] r = false) → insR r l = l.take k ++ r :: l.drop k
  | [], k, hk, _, _ => by
    have : k = 0 := by simpa using hk
    subst this; rfl
  | s :: l, 0, _, _, h => by
    have := h (by simp)
    simp only [List.getElem_cons_zero] at this
    simp [insR, this]
  | s :: l, k + 1, hk, h1, h2 => by
    have h0 := h1 0 (by simp) (by omega)
    simp only [List.getElem_cons_zero] at h0
    simp only [insR, h0, if_true, List.take_succ_cons, List.drop_succ_cons, List.cons_append]
    rw [insR_at r l k (by simpa using hk) (fun j hj hjk => by have := h1 (j + 1) (by simpa using hj) (by omega); simpa using this) fun h => by have := h2 (by simpa using h); simpa using this]
def sortF (a : List RunD) (l : List RunD) : List RunD := l.foldl (fun a r => insR r a) a
theorem sortF_perm : ∀ (l a : List RunD), (sortF a l).Perm (a ++ l)
  | [], a => by simp [sortF]
  | r :: l, a => by
    show (sortF (insR r a) l).Perm _
    refine (sortF_perm l (insR r a)).trans ?_
    refine ((insR_perm r a).append_right l).trans ?_
    simpa using (List.perm_middle (a := r) (l₁ := a) (l₂ := l)).symm
theorem apart_symm {a b : RunD} (h : Apart a b) : Apart b a := by unfold Apart at *; omega
theorem sortF_srt : ∀ {l a : List RunD}, Srt a → (a ++ l).Pairwise Apart → Srt (sortF a l)
  | [], a, h, _ => h
  | r :: l, a, h, hp => by
    show Srt (sortF (insR r a) l)
    refine sortF_srt (insR_srt h fun s hs => ?_) ?_
    · exact apart_symm ((List.pairwise_append.1 hp).2.2 s hs r (List.mem_cons_self ..))
    · have e : (insR r a ++ l).Perm (a ++ r :: l) := ((insR_perm r a).append_right l).trans (by simpa using (List.perm_middle (a := r) (l₁ := a) (l₂ := l)).symm)
      exact (e.symm.pairwise_iff (fun h => apart_symm h)).1 hp
def sortR (l : List RunD) : List RunD := sortF [] l
theorem sortR_perm (l : List RunD) : (sortR l).Perm l := by
  have := sortF_perm l []
  rwa [List.nil_append] at this
theorem sortR_srt {l : List RunD} (h : l.Pairwise Apart) : Srt (sortR l) := sortF_srt List.Pairwise.nil (by simpa using h)
theorem sortR_eq {l a : List RunD} (hp : a.Perm l) (ha : Srt a) (h : l.Pairwise Apart) : a = sortR l := srt_uniq (hp.trans (sortR_perm l).symm) ha (sortR_srt h)
def runAt (i : Nat) (x : LineD) (a : Int) : Option RunD := if a + leng x < 2097152 then some ⟨i, a, a + leng x⟩ else none
def runsL (i : Nat) (x : LineD) (l : List Int) : List RunD := l.filterMap (runAt i x)
def lineRuns (a b : Int) (i : Nat) (x : LineD) : List RunD := runsL i x (Cal.deps x.Rules x.Off a b)
def allRuns (a b : Int) : Nat → List LineD → List RunD
  | _, [] => []
  | i, x :: r => lineRuns a b i x ++ allRuns a b (i + 1) r
def anyErr (a b : Int) : List LineD → Bool
  | [] => false
  | x :: r => decide ((Cal.moments x.Rules x.Off a b).2 ≠ 0) || anyErr a b r
def runs (t : TimeD) (a b : Int) : List RunD × Int :=
  if chk t ≠ 0 then ([], chk t) else if a < 0 ∨ b < a ∨ 2097152 < b then ([], 1) else if anyErr a b t.Lines then ([], 2) else if 2000 < (allRuns a b 0 t.Lines).length then ([], 2) else (sortR (allRuns a b 0 t.Lines), 0)
theorem mem_runsL {i : Nat} {x : LineD} {l : List Int} {r : RunD} : r ∈ runsL i x l ↔ r.At ∈ l ∧ r.Line = i ∧ r.Arrive = r.At + leng x ∧ r.Arrive < 2097152 := by
  unfold runsL
  rw [List.mem_filterMap]
  constructor
  · rintro ⟨a, ha, h⟩
    unfold runAt at h
    split at h
    · cases h; exact ⟨ha, rfl, rfl, by assumption⟩
    · cases h
  · rintro ⟨h1, h2, h3, h4⟩
    refine ⟨r.At, h1, ?_⟩
    unfold runAt
    rw [if_pos (by omega), ← h2, ← h3]
theorem mem_all {a b : Int} : ∀ {l : List LineD} {i : Nat} {r : RunD}, r ∈ allRuns a b i l ↔ ∃ j, ∃ h : j < l.length, r ∈ lineRuns a b (i + j) l[j]
  | [], i, r => by simp [allRuns]
  | x :: l, i, r => by
    simp only [allRuns, List.mem_append, mem_all (l := l)]
    constructor
    · rintro (h | ⟨j, hj, h⟩)
      · exact ⟨0, by simp, by simpa using h⟩
      · exact ⟨j + 1, by simpa using hj, by simpa [Nat.add_assoc, Nat.add_comm 1 j] using h⟩
    · rintro ⟨j, hj, h⟩
      cases j with
      | zero => exact .inl (by simpa using h)
      | succ j => exact .inr ⟨j, by simpa using hj, by simpa [Nat.add_assoc, Nat.add_comm 1 j] using h⟩
theorem line_of {a b : Int} {i : Nat} {x : LineD} {r : RunD} (h : r ∈ lineRuns a b i x) : r.Line = i := (mem_runsL.1 h).2.1
theorem lineRuns_srt (a b : Int) (i : Nat) (x : LineD) : Srt (lineRuns a b i x) := by
  unfold lineRuns runsL Srt
  rw [List.pairwise_filterMap]
  refine (Cal.deps_sorted x.Rules x.Off a b).imp fun {p q} hpq => ?_
  intro r hr s hs
  unfold runAt at hr hs
  split at hr
  · split at hs
    · cases hr; cases hs; rw [before_iff]; exact .inl hpq
    · cases hs
  · cases hr
theorem all_apart (a b : Int) : ∀ (l : List LineD) (i : Nat), (allRuns a b i l).Pairwise Apart
  | [], i => List.Pairwise.nil
  | x :: l, i => by
    refine List.pairwise_append.2 ⟨(lineRuns_srt a b i x).imp fun {p q} h => ?_, all_apart a b l (i + 1), fun p hp q hq => ?_⟩
    · rw [before_iff] at h; unfold Apart; omega
    · have h1 := line_of hp
      obtain ⟨j, hj, h⟩ := mem_all.1 hq
      have h2 := line_of h
      right; omega
theorem mem_isR {t : TimeD} {a b : Int} (h0 : 0 ≤ a) (hab : a ≤ b) (hb : b ≤ 2097152) {r : RunD} : r ∈ allRuns a b 0 t.Lines ↔ isR t r = true ∧ a ≤ r.At ∧ r.At < b := by
  rw [mem_all]
  unfold isR
  simp only [Bool.and_eq_true, decide_eq_true_eq]
  constructor
  · rintro ⟨j, hj, h⟩
    obtain ⟨g1, g2, g3, g4⟩ := mem_runsL.1 h
    obtain ⟨g5, g6, g7⟩ := (Cal.deps_mem hab).1 g1
    rw [Nat.zero_add] at g2
    have e : t.Lines.getD r.Line.toNat default = t.Lines[j] := by
      rw [g2, Int.toNat_natCast, List.getD_eq_getElem?_getD, List.getElem?_eq_getElem hj]; rfl
    rw [e]
    exact ⟨⟨⟨by omega, by omega, by omega, by omega⟩, g7, g3, g4⟩, g5, g6⟩
  · rintro ⟨⟨⟨h1, h2, h3, h4⟩, h5, h6, h7⟩, h8, h9⟩
    have hj : r.Line.toNat < t.Lines.length := by omega
    have e : t.Lines.getD r.Line.toNat default = t.Lines[r.Line.toNat] := by rw [List.getD_eq_getElem?_getD, List.getElem?_eq_getElem hj]; rfl
    rw [e] at h5 h6
    exact ⟨r.Line.toNat, hj, mem_runsL.2 ⟨(Cal.deps_mem hab).2 ⟨h8, h9, h5⟩, by rw [Nat.zero_add]; omega, h6, h7⟩⟩
theorem all_split (a b : Int) : ∀ (l m : List LineD) (i : Nat), allRuns a b i (l ++ m) = allRuns a b i l ++ allRuns a b (i + l.length) m
  | [], m, i => by simp [allRuns]
  | x :: l, m, i => by
    simp only [List.cons_append, allRuns, all_split a b l m (i + 1), List.append_assoc, List.length_cons]
    rw [show i + 1 + l.length = i + (l.length + 1) by omega]
end Tt
end Go.Fk
set_option linter.unusedVariables false
set_option linter.unusedSimpArgs false
namespace Go.Fk
open Go
namespace Pl
theorem findSome_congr {α β : Type} {f g : α → Option β} : ∀ {l : List α}, (∀ r ∈ l, f r = g r) → l.findSome? f = l.findSome? g
  | [], _ => rfl
  | x :: l, h => by
    simp only [List.findSome?_cons, h x (List.mem_cons_self ..), findSome_congr fun r hr => h r (List.mem_cons_of_mem _ hr)]
def step (l : List OrderD) (room : RunD → Int) (of : List RunD) (r : RunD) : Bool := decide (max (load l (of ++ [r]) r).n (load l (of ++ [r]) r).c ≤ room r)
def srch (l : List OrderD) (room : RunD → Int) (leaf : List RunD → Bool) : List (List RunD) → List RunD → Option (List RunD)
  | [], of => if leaf of then some of else none
  | o :: rest, of => o.findSome? fun r => if step l room of r then srch l room leaf rest (of ++ [r]) else none
def Path (l : List OrderD) (room : RunD → Int) : List (List RunD) → List RunD → List RunD → Prop
  | [], _, [] => True
  | o :: rest, of, r :: s => r ∈ o ∧ step l room of r = true ∧ Path l room rest (of ++ [r]) s
  | _, _, _ => False
section
variable {l : List OrderD} {room : RunD → Int} {leaf : List RunD → Bool}
theorem srch_some : ∀ {opts : List (List RunD)} {of x : List RunD}, srch l room leaf opts of = some x → ∃ s, Path l room opts of s ∧ x = of ++ s ∧ leaf x = true
  | [], of, x, h => by
    unfold srch at h
    split at h
    · cases h; exact ⟨[], trivial, by simp, by assumption⟩
    · cases h
  | o :: rest, of, x, h => by
    unfold srch at h
    obtain ⟨r, hr, h⟩ := List.exists_of_findSome?_eq_some h
    split at h
    · rename_i hs
      obtain ⟨s, hp, rfl, hl⟩ := srch_some h
      exact ⟨r :: s, ⟨hr, hs, hp⟩, by simp, hl⟩
    · cases h
theorem path_len : ∀ {opts : List (List RunD)} {of s : List RunD}, Path l room opts of s → s.length = opts.length
  | [], _, [], _ => rfl
  | [], _, _ :: _, h => h.elim
  | _ :: _, _, [], h => h.elim
  | o :: rest, of, r :: s, h => by simp [path_len h.2.2]
theorem path_mem : ∀ {opts : List (List RunD)} {of s : List RunD}, Path l room opts of s → ∀ k (h : k < s.length), s[k] ∈ opts.getD k []
  | [], _, [], _, k, h => by simp at h
  | [], _, _ :: _, h, _, _ => h.elim
  | _ :: _, _, [], h, _, _ => h.elim
  | o :: rest, of, r :: s, hp, 0, h => by simpa using hp.1
  | o :: rest, of, r :: s, hp, k + 1, h => by simpa using path_mem hp.2.2 k (by simpa using h)
end
def totF (l : List OrderD) : List RunD → List RunD → Int
  | _, [] => 0
  | pre, r :: s => ((load l (pre ++ [r]) r).covers - (load l pre r).covers) + totF l (pre ++ [r]) s
def tot (l : List OrderD) (of : List RunD) : Int := totF l [] of
theorem totF_append (l : List OrderD) : ∀ (a pre b : List RunD), totF l pre (a ++ b) = totF l pre a + totF l (pre ++ a) b
  | [], pre, b => by simp [totF]
  | r :: a, pre, b => by
    simp only [List.cons_append, totF, totF_append l a (pre ++ [r]) b, List.append_assoc, List.nil_append]; omega
theorem tot_snoc (l : List OrderD) (of : List RunD) (r : RunD) : tot l (of ++ [r]) = tot l of + ((load l (of ++ [r]) r).covers - (load l of r).covers) := by
  unfold tot; rw [totF_append]; simp [totF]
theorem wth_covers (x : LoadD) (o : OrderD) : x.covers - 1 ≤ (x.wth o).covers := by
  simp only [LoadD.covers, LoadD.wth]; omega
theorem totF_ge {l : List OrderD} : ∀ (s pre : List RunD), pre.length + s.length ≤ l.length → -(s.length : Int) ≤ totF l pre s
  | [], _, _ => by simp [totF]
  | r :: s, pre, h => by
    simp only [List.length_cons] at h
    have ih := totF_ge (l := l) s (pre ++ [r]) (by simp; omega)
    have := wth_covers (load l pre r) l[pre.length]
    simp only [totF, List.length_cons]
    rw [load_snoc (l := l) (of := pre) (by omega) r r, if_pos rfl]
    omega
theorem tot_ge {l : List OrderD} {of s : List RunD} (h : of.length + s.length ≤ l.length) : tot l of - s.length ≤ tot l (of ++ s) := by
  unfold tot; rw [totF_append]
  have := totF_ge s ([] ++ of) (by simpa using h)
  omega
def bad (l : List OrderD) (covers : Int) (of : List RunD) : Bool := decide (covers < tot l of - ((l.length : Int) - of.length))
def psrch (l : List OrderD) (room : RunD → Int) (covers : Int) : List (List RunD) → List RunD → Option (List RunD)
  | [], of => if bad l covers of then none else some of
  | o :: rest, of => if bad l covers of then none else o.findSome? fun r => if step l room of r then psrch l room covers rest (of ++ [r]) else none
def leafT (l : List OrderD) (covers : Int) (of : List RunD) : Bool := decide (tot l of ≤ covers)
theorem psrch_eq {l : List OrderD} {room : RunD → Int} {covers : Int} : ∀ {opts : List (List RunD)} {of : List RunD}, of.length + opts.length = l.length → psrch l room covers opts of = srch l room (leafT l covers) opts of
  | [], of, h => by
    simp only [List.length_nil, Nat.add_zero] at h
    unfold psrch srch
    have : bad l covers of = !leafT l covers of := by unfold bad leafT; rw [Bool.eq_iff_iff]; simp; omega
    rw [this]
    cases leafT l covers of <;> simp
  | o :: rest, of, h => by
    simp only [List.length_cons] at h
    unfold psrch
    split
    · rename_i hb
      cases hs : srch l room (leafT l covers) (o :: rest) of with
      | none => rfl
      | some x =>
        obtain ⟨s, hp, rfl, hl⟩ := srch_some hs
        have h1 := path_len hp
        simp only [List.length_cons] at h1
        have h2 := tot_ge (l := l) (of := of) (s := s) (by omega)
        simp only [leafT, bad, decide_eq_true_eq] at hl hb
        omega
    · unfold srch
      refine findSome_congr fun r hr => ?_
      split
      · exact psrch_eq (by simp; omega)
      · rfl
theorem sum_upd {f g : RunD → Int} {r : RunD} : ∀ {S : List RunD}, S.Nodup → r ∈ S → (∀ q ∈ S, q ≠ r → g q = f q) → sum (S.map g) = sum (S.map f) + (g r - f r)
  | [], _, h, _ => by cases h
  | a :: S, hn, hm, hq => by
    have hna := List.nodup_cons.1 hn
    simp only [List.map_cons, sum]
    by_cases e : a = r
    · subst e
      have : S.map g = S.map f := List.map_congr_left fun q hqS => hq q (List.mem_cons_of_mem _ hqS) fun h => hna.1 (h ▸ hqS)
      rw [this]; omega
    · have hrS : r ∈ S := by
        rcases List.mem_cons.1 hm with h | h
        · exact (e h.symm).elim
        · exact h
      rw [sum_upd hna.2 hrS fun q hqS => hq q (List.mem_cons_of_mem _ hqS), hq a (List.mem_cons_self ..) e]; omega
theorem load_nil (l : List OrderD) (r : RunD) : load l [] r = .zero := by cases l <;> rfl
theorem snoc_ind {P : List RunD → Prop} (h0 : P []) (h1 : ∀ a r, P a → P (a ++ [r])) : ∀ s, P s := by
  intro s
  have : ∀ n, P (s.take n) := by
    intro n
    induction n with
    | zero => simpa using h0
    | succ n ih =>
      by_cases h : n < s.length
      · rw [List.take_succ_eq_append_getElem h]; exact h1 _ _ ih
      · rw [List.take_of_length_le (by omega)]; rwa [List.take_of_length_le (by omega)] at ih
  simpa using this s.length
theorem sum_zero : ∀ S : List RunD, sum (S.map fun _ => (0 : Int)) = 0
  | [] => rfl
  | _ :: S => by simp only [List.map_cons, sum, sum_zero S]; rfl
theorem sum_tot {l : List OrderD} {S : List RunD} (hS : S.Nodup) : ∀ of : List RunD, of.length ≤ l.length → (∀ r ∈ of, r ∈ S) → sum (S.map fun r => (load l of r).covers) = tot l of := by
  refine snoc_ind (fun _ _ => ?_) (fun a r ih hl hm => ?_)
  · have : (fun r => (load l [] r).covers) = fun _ => (0 : Int) := by funext r; rw [load_nil]; rfl
    rw [this]
    exact sum_zero S
  · simp only [List.length_append, List.length_cons, List.length_nil] at hl
    rw [sum_upd (f := fun r => (load l a r).covers) (r := r) hS (hm r (by simp)) fun q _ hq => ?_]
    · rw [ih (by omega) fun x hx => hm x (by simp [hx]), tot_snoc]
    · rw [load_snoc (by omega) r q, if_neg fun h => hq h.symm]
theorem load_pos {l : List OrderD} : ∀ of : List RunD, of.length ≤ l.length → ∀ r ∈ of, 1 ≤ (load l of r).n := by
  have nn : ∀ of : List RunD, of.length ≤ l.length → ∀ r, 0 ≤ (load l of r).n := by
    refine snoc_ind (fun _ r => ?_) (fun a r ih hl q => ?_)
    · rw [load_nil]; simp [LoadD.zero]
    · simp only [List.length_append, List.length_cons, List.length_nil] at hl
      have := ih (by omega) q
      rw [load_snoc (by omega) r q]
      split
      · simp only [LoadD.wth]; omega
      · exact this
  refine snoc_ind (fun _ r h => by cases h) (fun a r ih hl q hq => ?_)
  simp only [List.length_append, List.length_cons, List.length_nil] at hl
  rw [load_snoc (by omega) r q]
  by_cases e : r = q
  · rw [if_pos e]
    have := nn a (by omega) q
    simp only [LoadD.wth]; omega
  · rw [if_neg e]
    refine ih (by omega) q ?_
    rcases List.mem_append.1 hq with h | h
    · exact h
    · exact (e (List.mem_singleton.1 h).symm).elim
theorem path_room {l : List OrderD} {room : RunD → Int} : ∀ {opts : List (List RunD)} {of s : List RunD}, Path l room opts of s → of.length + opts.length ≤ l.length → (∀ r ∈ of, max (load l of r).n (load l of r).c ≤ room r) → ∀ r ∈ of ++ s, max (load l (of ++ s) r).n (load l (of ++ s) r).c ≤ room r
  | [], of, [], _, _, h => by simpa using h
  | [], _, _ :: _, h, _, _ => h.elim
  | _ :: _, _, [], h, _, _ => h.elim
  | o :: rest, of, r :: s, hp, hl, h => by
    simp only [List.length_cons] at hl
    have h1 := hp.2.1
    simp only [step, decide_eq_true_eq] at h1
    have := path_room hp.2.2 (by simp; omega) fun q hq => ?_
    · simpa using this
    · by_cases e : r = q
      · subst e; exact h1
      · rw [load_snoc (by omega) r q, if_neg e]
        refine h q ?_
        rcases List.mem_append.1 hq with h | h
        · exact h
        · exact (e (List.mem_singleton.1 h).symm).elim
def ddF (a : List RunD) (of : List RunD) : List RunD := of.foldl (fun a r => if a.contains r then a else Tt.insR r a) a
def dd (of : List RunD) : List RunD := ddF [] of
def ridx (r : RunD) : List RunD → Nat → Int
  | [], _ => -1
  | s :: l, k => if s = r then k else ridx r l (k + 1)
def planOf (l : List OrderD) (of : List RunD) : PlanD := ⟨dd of, of.map fun r => ridx r (dd of) 0, (dd of).map fun r => (load l of r).covers⟩
def Dis (L : List RunD) : Prop := ∀ a ∈ L, ∀ b ∈ L, a ≠ b → Tt.Apart a b
theorem ddF_spec : ∀ {of a : List RunD}, Tt.Srt a → Dis (a ++ of) → Tt.Srt (ddF a of) ∧ ∀ r, r ∈ ddF a of ↔ r ∈ a ∨ r ∈ of
  | [], a, h, _ => ⟨h, fun r => by simp [ddF]⟩
  | r :: of, a, h, hd => by
    show Tt.Srt (ddF (if a.contains r then a else Tt.insR r a) of) ∧ _
    split
    · rename_i hc
      have hc : r ∈ a := by simpa using hc
      obtain ⟨h1, h2⟩ := ddF_spec (of := of) h fun x hx y hy => hd x (by
        rcases List.mem_append.1 hx with g | g <;> simp [g]) y (by rcases List.mem_append.1 hy with g | g <;> simp [g])
      refine ⟨h1, fun q => ?_⟩
      show q ∈ ddF (if a.contains r then a else Tt.insR r a) of ↔ _
      rw [if_pos (by simpa using hc), h2 q]
      simp only [List.mem_cons]
      constructor
      · rintro (g | g) <;> simp [g]
      · rintro (g | rfl | g)
        · exact .inl g
        · exact .inl hc
        · exact .inr g
    · rename_i hc
      have hc' : r ∉ a := by simpa using hc
      have hm : ∀ x, x ∈ Tt.insR r a ↔ x = r ∨ x ∈ a := fun x => by rw [(Tt.insR_perm r a).mem_iff, List.mem_cons]
      have hs : Tt.Srt (Tt.insR r a) := Tt.insR_srt h fun s hs => hd r (by simp) s (by simp [hs]) fun e => hc' (e ▸ hs)
      obtain ⟨h1, h2⟩ := ddF_spec (of := of) hs fun x hx y hy => hd x (by
        rcases List.mem_append.1 hx with g | g
        · rcases (hm x).1 g with g | g <;> simp [g]
        · simp [g]) y (by
        rcases List.mem_append.1 hy with g | g
        · rcases (hm y).1 g with g | g <;> simp [g]
        · simp [g])
      refine ⟨h1, fun q => ?_⟩
      show q ∈ ddF (if a.contains r then a else Tt.insR r a) of ↔ _
      rw [if_neg hc, h2 q, hm q]
      simp only [List.mem_cons]
      constructor
      · rintro ((g | g) | g) <;> simp [g]
      · rintro (g | g | g) <;> simp [g]
theorem dd_spec {of : List RunD} (h : Dis of) : Tt.Srt (dd of) ∧ ∀ r, r ∈ dd of ↔ r ∈ of := by
  obtain ⟨h1, h2⟩ := ddF_spec (of := of) (a := []) List.Pairwise.nil (by simpa using h)
  exact ⟨h1, fun r => by rw [show dd of = ddF [] of from rfl, h2 r]; simp⟩
theorem srt_nodup {a : List RunD} (h : Tt.Srt a) : a.Nodup := List.Pairwise.imp (S := fun a b => a ≠ b) (fun {x y} hb e => by subst e; exact Tt.before_irr hb) h
theorem srt_ext : ∀ {a b : List RunD}, Tt.Srt a → Tt.Srt b → (∀ r, r ∈ a ↔ r ∈ b) → a = b
  | [], [], _, _, _ => rfl
  | [], y :: b, _, _, h => by have := (h y).2 (List.mem_cons_self ..); cases this
  | x :: a, [], _, _, h => by have := (h x).1 (List.mem_cons_self ..); cases this
  | x :: a, y :: b, ha, hb, h => by
    have hx : x = y := by
      have h1 : x ∈ y :: b := (h x).1 (List.mem_cons_self ..)
      have h2 : y ∈ x :: a := (h y).2 (List.mem_cons_self ..)
      rcases List.mem_cons.1 h1 with e | h1
      · exact e
      · rcases List.mem_cons.1 h2 with e | h2
        · exact e.symm
        · exact (Tt.before_asym (List.rel_of_pairwise_cons hb h1) (List.rel_of_pairwise_cons ha h2)).elim
    subst hx
    have na := (List.nodup_cons.1 (srt_nodup ha)).1
    have nb := (List.nodup_cons.1 (srt_nodup hb)).1
    rw [srt_ext (List.Pairwise.of_cons ha) (List.Pairwise.of_cons hb) fun r => ?_]
    have := h r
    simp only [List.mem_cons] at this
    constructor
    · intro hr
      rcases this.1 (.inr hr) with e | g
      · exact (na (e ▸ hr)).elim
      · exact g
    · intro hr
      rcases this.2 (.inr hr) with e | g
      · exact (nb (e ▸ hr)).elim
      · exact g
theorem ridx_at {r : RunD} : ∀ {S : List RunD} {k : Nat}, r ∈ S → ∃ j, ∃ h : j < S.length, ridx r S k = (k + j : Nat) ∧ S[j] = r
  | [], _, h => by cases h
  | s :: S, k, h => by
    unfold ridx
    by_cases e : s = r
    · rw [if_pos e]; exact ⟨0, by simp, rfl, by simpa using e⟩
    · rw [if_neg e]
      have hS : r ∈ S := by
        rcases List.mem_cons.1 h with g | g
        · exact (e g.symm).elim
        · exact g
      obtain ⟨j, hj, h1, h2⟩ := ridx_at (k := k + 1) hS
      exact ⟨j + 1, by simpa using hj, by rw [h1]; congr 1; omega, by simpa using h2⟩
theorem ridx_no {r : RunD} : ∀ {S : List RunD} {k : Nat}, r ∉ S → ridx r S k = -1
  | [], _, _ => rfl
  | s :: S, k, h => by
    simp only [List.mem_cons, not_or] at h
    unfold ridx
    rw [if_neg fun e => h.1 e.symm, ridx_no h.2]
theorem ridx_mem {r : RunD} {S : List RunD} {k : Nat} : 0 ≤ ridx r S k ↔ r ∈ S := by
  constructor
  · intro h
    by_cases e : r ∈ S
    · exact e
    · rw [ridx_no e] at h; omega
  · intro h
    obtain ⟨j, _, h1, _⟩ := ridx_at (k := k) h
    omega
theorem ridx_getD {r : RunD} {S : List RunD} (h : r ∈ S) : (0 ≤ ridx r S 0 ∧ ridx r S 0 < S.length) ∧ S.getD (ridx r S 0).toNat default = r := by
  obtain ⟨j, hj, h1, h2⟩ := ridx_at (k := 0) h
  rw [h1]
  refine ⟨by omega, ?_⟩
  rw [Int.toNat_natCast, Nat.zero_add, List.getD_eq_getElem?_getD, List.getElem?_eq_getElem hj, ← h2]; rfl
theorem isRun_dis {t : TimeD} {L : List RunD} (h : ∀ r ∈ L, Tt.isRun t r = true) : Dis L := fun a ha b hb hne => by
  have h1 := h a ha
  have h2 := h b hb
  simp only [Tt.isRun, Tt.isR, Bool.and_eq_true, decide_eq_true_eq] at h1 h2
  unfold Tt.Apart
  by_cases e : a.At = b.At ∧ a.Line = b.Line
  · refine (hne ?_).elim
    obtain ⟨_, _, _, h3, _⟩ := h1
    obtain ⟨_, _, _, h4, _⟩ := h2
    rw [e.2] at h3
    cases a; cases b
    simp only at e h3 h4
    simp [e.1, e.2, h3, h4]
  · omega
theorem ofs_planOf {l : List OrderD} {of : List RunD} (h : Dis of) : ofs (planOf l of) = of := by
  unfold ofs planOf
  simp only [List.map_map]
  conv => rhs; rw [← List.map_id of]
  refine List.map_congr_left fun r hr => ?_
  exact (ridx_getD (((dd_spec h).2 r).2 hr)).2
theorem good_planOf {t : TimeD} {f : TariffD} {l : List OrderD} {covers : Int} {of : List RunD} (hl : of.length = l.length) (hr : ∀ r ∈ of, Tt.isRun t r = true) (hf : ∀ k, k < l.length → fits t f (l.getD k default) (of.getD k default) = true)
    (hm : ∀ r ∈ of, max (load l of r).n (load l of r).c ≤ (lineR t r).Room) : good t f l covers (planOf l of) = leafT l covers of := by
  have hd := isRun_dis hr
  obtain ⟨hs, hmem⟩ := dd_spec hd
  have hofs := ofs_planOf (l := l) hd
  have h1 : decide ((planOf l of).Of.length = l.length ∧ (planOf l of).Covers.length = (planOf l of).Runs.length) = true := by simp [planOf, hl]
  have h2 : runsOk t (planOf l of) = true := List.all_eq_true.2 fun k hk => by
    have hk : k < (dd of).length := by simpa [planOf] using hk
    have e1 : (planOf l of).Runs.getD k default = (dd of)[k] := by simp [planOf, List.getD_eq_getElem?_getD, hk]
    unfold runP
    rw [e1, hr _ ((hmem _).1 (List.getElem_mem hk)), Bool.true_and]
    by_cases k0 : k = 0
    · simp [k0]
    · have e2 : (planOf l of).Runs.getD (k - 1) default = (dd of)[k - 1] := by simp [planOf, List.getD_eq_getElem?_getD, show k - 1 < (dd of).length by omega]
      rw [e2]
      have := List.pairwise_iff_getElem.1 hs (k - 1) k (by omega) hk (by omega)
      simp [this]
  have h3 : ofsOk t f l (planOf l of) = true := List.all_eq_true.2 fun k hk => by
    have hk : k < l.length := by simpa using hk
    have hko : k < of.length := by omega
    have e1 : (planOf l of).Of.getD k 0 = ridx of[k] (dd of) 0 := by simp [planOf, List.getD_eq_getElem?_getD, hko]
    have hg := ridx_getD ((hmem _).2 (List.getElem_mem hko))
    unfold ofP
    rw [e1]
    have e2 : (planOf l of).Runs = dd of := rfl
    rw [e2, hg.2, decide_eq_true hg.1, Bool.true_and]
    have := hf k hk
    rwa [show of.getD k default = of[k] by simp [List.getD_eq_getElem?_getD, hko]] at this
  have h4 : covsOk t l (planOf l of) = true := List.all_eq_true.2 fun k hk => by
    have hk : k < (dd of).length := by simpa [planOf] using hk
    have e1 : (planOf l of).Runs.getD k default = (dd of)[k] := by simp [planOf, List.getD_eq_getElem?_getD, hk]
    have e2 : (planOf l of).Covers.getD k 0 = (load l of (dd of)[k]).covers := by simp [planOf, List.getD_eq_getElem?_getD, hk]
    have hin := (hmem _).1 (List.getElem_mem hk)
    have hp := load_pos (l := l) of (by omega) _ hin
    unfold covP
    simp only []
    rw [hofs, e1, e2, decide_eq_true_eq]
    exact ⟨by omega, rfl, hm _ hin⟩
  unfold good
  rw [h1, h2, h3, h4]
  simp only [Bool.and_self, Bool.true_and]
  have : sum (planOf l of).Covers = tot l of := sum_tot (srt_nodup hs) of (by omega) fun r hr => (hmem r).2 hr
  rw [this]; rfl
end Pl
end Go.Fk
set_option linter.unusedVariables false
set_option linter.unusedSimpArgs false
namespace Go.Fk
open Go
namespace Pl
def fitsA (t : TimeD) (f : TariffD) (o : OrderD) (r : RunD) : Bool × Int := if err t f [o] ≠ 0 then (false, err t f [o]) else if Tt.isRun t r then (fits t f o r, 0) else (false, 1)
def options (t : TimeD) (f : TariffD) (o : OrderD) : List RunD × Int :=
  if err t f [o] ≠ 0 then ([], err t f [o]) else if (Tt.runs t o.After (o.By + 1)).2 ≠ 0 then ([], (Tt.runs t o.After (o.By + 1)).2) else ((Tt.runs t o.After (o.By + 1)).1.filter (fits t f o), 0)
def optsE (t : TimeD) (f : TariffD) : List OrderD → Int
  | [] => 0
  | o :: r => if (options t f o).2 ≠ 0 then (options t f o).2 else optsE t f r
def optsOf (t : TimeD) (f : TariffD) (l : List OrderD) : List (List RunD) := l.map fun o => (options t f o).1
def room (t : TimeD) (r : RunD) : Int := (lineR t r).Room
def mkOf (t : TimeD) (f : TariffD) (l : List OrderD) (covers : Int) : Option (List RunD) := srch l (room t) (leafT l covers) (optsOf t f l) []
def noPlan : PlanD := ⟨[], [], []⟩
def make (t : TimeD) (f : TariffD) (l : List OrderD) (covers : Int) : PlanD × Bool × Int :=
  if err t f l ≠ 0 then (noPlan, false, err t f l) else if optsE t f l ≠ 0 then (noPlan, false, optsE t f l) else
    match mkOf t f l covers with
    | none => (noPlan, false, 0)
    | some of => (planOf l of, true, 0)
theorem optsE_drop {t : TimeD} {f : TariffD} {l : List OrderD} {k : Nat} (h : k < l.length) : optsE t f (l.drop k) = if (options t f l[k]).2 ≠ 0 then (options t f l[k]).2 else optsE t f (l.drop (k + 1)) := by
  rw [List.drop_eq_getElem_cons h]; rfl
theorem optsE_iff {t : TimeD} {f : TariffD} : ∀ {l : List OrderD}, optsE t f l = 0 ↔ ∀ o ∈ l, (options t f o).2 = 0
  | [] => by simp [optsE]
  | o :: r => by
    unfold optsE
    by_cases h : (options t f o).2 = 0
    · rw [if_neg (by simp [h]), optsE_iff (l := r)]; simp [h]
    · rw [if_pos (by simpa using h)]; simp [h]
theorem runs_ok {t : TimeD} {a b : Int} (h : (Tt.runs t a b).2 = 0) : Tt.chk t = 0 ∧ 0 ≤ a ∧ a ≤ b ∧ b ≤ 2097152 ∧ (Tt.runs t a b).1 = Tt.sortR (Tt.allRuns a b 0 t.Lines) ∧ ((Tt.runs t a b).1.length ≤ 2000) := by
  unfold Tt.runs at h ⊢
  by_cases h1 : Tt.chk t = 0
  · rw [if_neg (by simp [h1])] at h ⊢
    by_cases h2 : a < 0 ∨ b < a ∨ 2097152 < b
    · rw [if_pos h2] at h; cases h
    · rw [if_neg h2] at h ⊢
      by_cases h3 : Tt.anyErr a b t.Lines = true
      · rw [if_pos h3] at h; cases h
      · rw [if_neg h3] at h ⊢
        by_cases h4 : 2000 < (Tt.allRuns a b 0 t.Lines).length
        · rw [if_pos h4] at h; cases h
        · rw [if_neg h4]
          refine ⟨h1, by omega, by omega, by omega, rfl, ?_⟩
          rw [(Tt.sortR_perm _).length_eq]; omega
  · rw [if_pos (by simpa using h1)] at h; exact (h1 h).elim
theorem isRun_le {t : TimeD} {r : RunD} (h : Tt.isRun t r = true) : r.At ≤ r.Arrive := by
  simp only [Tt.isRun, Tt.isR, Bool.and_eq_true, decide_eq_true_eq] at h
  obtain ⟨h0, ⟨h1, h2, _⟩, _, h3, _⟩ := h
  have hln : r.Line.toNat < t.Lines.length := by omega
  have e : t.Lines.getD r.Line.toNat default = t.Lines[r.Line.toNat] := by rw [List.getD_eq_getElem?_getD, List.getElem?_eq_getElem hln]; rfl
  have hlo := Tt.right_ok ((Tt.chk_ok h0).r _ (List.getElem_mem hln))
  have := Tt.sm_bd hlo.l _ (Nat.le_refl _)
  rw [List.take_length] at this
  rw [e] at h3
  unfold Tt.leng at h3
  omega
theorem opt_ok {t : TimeD} {f : TariffD} {o : OrderD} (h : (options t f o).2 = 0) : Tt.Srt (options t f o).1 ∧ (∀ r, r ∈ (options t f o).1 ↔ Tt.isRun t r = true ∧ fits t f o r = true) ∧ err t f [o] = 0 := by
  unfold options at h ⊢
  by_cases h1 : err t f [o] = 0
  · rw [if_neg (by simp [h1])] at h ⊢
    by_cases h2 : (Tt.runs t o.After (o.By + 1)).2 = 0
    · rw [if_neg (by simp [h2])]
      obtain ⟨a1, a2, a3, a4, a5, a6⟩ := runs_ok h2
      rw [a5]
      refine ⟨List.Pairwise.filter _ (Tt.sortR_srt (Tt.all_apart _ _ _ _)), fun r => ?_, h1⟩
      rw [List.mem_filter, (Tt.sortR_perm _).mem_iff, Tt.mem_isR a2 a3 a4]
      have hd : Tt.isRun t r = Tt.isR t r := by unfold Tt.isRun; rw [decide_eq_true a1, Bool.true_and]
      rw [hd]
      constructor
      · rintro ⟨⟨g1, _, _⟩, g2⟩; exact ⟨g1, g2⟩
      · rintro ⟨g1, g2⟩
        have g3 := g2
        simp only [fits, c2, Bool.and_eq_true, decide_eq_true_eq] at g3
        have := isRun_le (hd.trans g1)
        exact ⟨⟨g1, g3.1.1.1.2.1, by have := g3.1.1.1.2.2; omega⟩, g2⟩
    · rw [if_pos (by simpa using h2)] at h; exact (h2 h).elim
  · rw [if_pos (by simpa using h1)] at h; exact (h1 h).elim
section
variable {t : TimeD} {f : TariffD} {l : List OrderD} {covers : Int}
theorem opts_srt (h : optsE t f l = 0) : ∀ o ∈ optsOf t f l, Tt.Srt o := fun o ho => by
  unfold optsOf at ho
  obtain ⟨x, hx, rfl⟩ := List.mem_map.1 ho
  exact (opt_ok (optsE_iff.1 h x hx)).1
theorem opts_get {k : Nat} (hk : k < l.length) : (optsOf t f l).getD k [] = (options t f l[k]).1 := by
  unfold optsOf
  rw [List.getD_eq_getElem?_getD, List.getElem?_map, List.getElem?_eq_getElem hk]; rfl
structure Acc (t : TimeD) (f : TariffD) (l : List OrderD) (covers : Int) (p : PlanD) : Prop where
  ol : p.Of.length = l.length
  cl : p.Covers.length = p.Runs.length
  r : ∀ r ∈ p.Runs, Tt.isRun t r = true
  s : Tt.Srt p.Runs
  o : ∀ k, k < l.length → 0 ≤ p.Of.getD k 0 ∧ p.Of.getD k 0 < p.Runs.length
  f : ∀ k, k < l.length → fits t f (l.getD k default) ((ofs p).getD k default) = true
  m : ∀ r ∈ ofs p, r ∈ p.Runs
  n : ∀ r ∈ p.Runs, (load l (ofs p) r).n ≠ 0
  c : p.Covers = p.Runs.map fun r => (load l (ofs p) r).covers
  x : ∀ r ∈ p.Runs, max (load l (ofs p) r).n (load l (ofs p) r).c ≤ room t r
  e : sum p.Covers ≤ covers
theorem ofs_len (p : PlanD) : (ofs p).length = p.Of.length := by simp [ofs]
theorem Acc.tot {p : PlanD} (h : Acc t f l covers p) : Pl.tot l (ofs p) ≤ covers := by
  rw [← sum_tot (srt_nodup h.s) (ofs p) (by rw [ofs_len, h.ol]; exact Nat.le_refl _) h.m, ← h.c]; exact h.e
structure OptOk (t : TimeD) (f : TariffD) (l : List OrderD) (opts : List (List RunD)) : Prop where
  n : opts.length = l.length
  s : ∀ o ∈ opts, Tt.Srt o
  m : ∀ k, k < l.length → ∀ r ∈ opts.getD k [], Tt.isRun t r = true ∧ fits t f (l.getD k default) r = true
theorem getD_l {k : Nat} (hk : k < l.length) : l.getD k default = l[k] := by simp [List.getD_eq_getElem?_getD, hk]
theorem opts_okk (ho : optsE t f l = 0) : OptOk t f l (optsOf t f l) := ⟨by simp [optsOf], opts_srt ho, fun k hk r hr => by
  rw [opts_get hk] at hr
  rw [getD_l hk]
  exact ((opt_ok (optsE_iff.1 ho _ (List.getElem_mem hk))).2.1 r).1 hr⟩
structure Mk (t : TimeD) (f : TariffD) (l : List OrderD) (covers : Int) (opts : List (List RunD)) (of : List RunD) : Prop where
  p : Path l (room t) opts [] of
  c : Pl.tot l of ≤ covers
  n : of.length = l.length
  r : ∀ r ∈ of, Tt.isRun t r = true
  f : ∀ k, k < l.length → fits t f (l.getD k default) (of.getD k default) = true
  x : ∀ r ∈ of, max (load l of r).n (load l of r).c ≤ room t r
theorem mk_okG {opts : List (List RunD)} {of : List RunD} (ho : OptOk t f l opts) (h : srch l (room t) (leafT l covers) opts [] = some of) : Mk t f l covers opts of := by
  obtain ⟨s, hp, he, hl⟩ := srch_some h
  rw [List.nil_append] at he
  subst he
  have hn : of.length = l.length := by rw [path_len hp, ho.n]
  have hm : ∀ k (h : k < of.length), Tt.isRun t of[k] = true ∧ fits t f (l.getD k default) of[k] = true := fun k hk => ho.m k (by omega) _ (path_mem hp k hk)
  refine ⟨hp, by simpa [leafT] using hl, hn, fun r hr => ?_, fun k hk => ?_, ?_⟩
  · obtain ⟨k, hk, rfl⟩ := List.getElem_of_mem hr; exact (hm k hk).1
  · have := (hm k (by omega)).2
    rwa [show of.getD k default = of[k]'(by omega) by simp [List.getD_eq_getElem?_getD, show k < of.length by omega]]
  · have := path_room hp (by simp [ho.n]) (by simp)
    simpa using this
theorem mk_ok {of : List RunD} (ho : optsE t f l = 0) (h : mkOf t f l covers = some of) : Mk t f l covers (optsOf t f l) of := mk_okG (opts_okk ho) h
theorem Mk.good {opts : List (List RunD)} {of : List RunD} (h : Mk t f l covers opts of) : Pl.good t f l covers (planOf l of) = true := by
  rw [good_planOf h.n h.r h.f h.x]; simpa [leafT] using h.c
theorem Mk.ofs {opts : List (List RunD)} {of : List RunD} (h : Mk t f l covers opts of) : Pl.ofs (planOf l of) = of := ofs_planOf (isRun_dis h.r)
end
end Pl
end Go.Fk
set_option linter.unusedVariables false
set_option linter.unusedSimpArgs false
namespace Go.Fk
open Go
namespace Pl
theorem cov_bd {l : List OrderD} (h : ∀ o ∈ l, 1 ≤ o.Crowd ∧ o.Crowd ≤ 64) (of : List RunD) (r : RunD) : 0 ≤ (load l of r).covers ∧ (load l of r).covers ≤ 65 := by
  have := load_bd h of r
  simp only [LoadD.covers]; omega
theorem totF_le {l : List OrderD} (h : ∀ o ∈ l, 1 ≤ o.Crowd ∧ o.Crowd ≤ 64) : ∀ (s pre : List RunD), totF l pre s ≤ 65 * s.length
  | [], _ => by simp [totF]
  | r :: s, pre => by
    have ih := totF_le h s (pre ++ [r])
    have h1 := cov_bd h (pre ++ [r]) r
    have h2 := cov_bd h pre r
    simp only [totF, List.length_cons]
    omega
theorem tot_bd {l : List OrderD} (h : ∀ o ∈ l, 1 ≤ o.Crowd ∧ o.Crowd ≤ 64) {of : List RunD} (hn : of.length ≤ l.length) : -(of.length : Int) ≤ tot l of ∧ tot l of ≤ 65 * of.length := by
  have h1 := totF_ge (l := l) of [] (by simpa using hn)
  have h2 := totF_le h of []
  exact ⟨h1, h2⟩
theorem findS_skip {α β : Type} {f : α → Option β} {o : List α} {j : Nat} (hj : j < o.length) (h : f o[j] = none) : (o.drop j).findSome? f = (o.drop (j + 1)).findSome? f := by
  rw [List.drop_eq_getElem_cons hj, List.findSome?_cons, h]
theorem findS_hit {α β : Type} {f : α → Option β} {o : List α} {j : Nat} (hj : j < o.length) {x : β} (h : f o[j] = some x) : (o.drop j).findSome? f = some x := by
  rw [List.drop_eq_getElem_cons hj, List.findSome?_cons, h]
end Pl
end Go.Fk
set_option linter.unusedVariables false
set_option linter.unusedSimpArgs false
namespace Go.Fk
open Go
namespace Rp
open Pl
def err (t : TimeD) (f : TariffD) (l : List OrderD) (covers : Int) (p : PlanD) : Int := if (check t f l covers p).2 ≠ 0 then (check t f l covers p).2 else if (check t f l covers p).1 then 0 else 220
def runOf (p : PlanD) (k : Nat) : RunD := p.Runs.getD (p.Of.getD k 0).toNat default
def opt1 (t : TimeD) (f : TariffD) (l : List OrderD) (p : PlanD) (run : Int) (k : Nat) : List RunD :=
  if p.Of.getD k 0 = run then (options t f (l.getD k default)).1.filter fun y => decide ((runOf p k).At < y.At) else [runOf p k]
def opts (t : TimeD) (f : TariffD) (l : List OrderD) (p : PlanD) (run : Int) (n : Nat) : List (List RunD) := (List.range n).map (opt1 t f l p run)
section
variable {t : TimeD} {f : TariffD} {l : List OrderD} {covers : Int} {p : PlanD} {run : Int}
end
end Rp
end Go.Fk
set_option linter.unusedVariables false
set_option linter.unusedSimpArgs false
namespace Go.Fk
open Go
namespace Pl
end Pl
end Go.Fk
set_option linter.unusedVariables false
set_option linter.unusedSimpArgs false
namespace Go.Fk
open Go
namespace Pl
section
variable {t : TimeD} {f : TariffD} {l : List OrderD} {covers : Int} {p : PlanD}
end
end Pl
end Go.Fk
namespace Go.Fk
open Go
namespace Pl
section
variable {t : TimeD} {f : TariffD} {o : OrderD} {covers : Int}
end
end Pl
end Go.Fk
namespace Go.Fk
open Go
namespace Pl
section
variable {t : TimeD} {f : TariffD} {l : List OrderD} {covers : Int}
end
end Pl
end Go.Fk
set_option linter.unusedVariables false
set_option linter.unusedSimpArgs false
namespace Go.Fk
open Go
def smallR (r : RunD) : Prop := 0 ≤ r.At ∧ r.At < 2097152 ∧ 0 ≤ r.Line ∧ r.Line < 2097152
structure SmR where
  r : RunD
  h : smallR r
instance : Inhabited SmR := ⟨⟨⟨0, 0, 0⟩, by simp [smallR]⟩⟩
end Go.Fk
set_option linter.unusedVariables false
set_option linter.unusedSimpArgs false
namespace Go.Fk
open Go
namespace Rp
open Pl
theorem load_no {l : List OrderD} {r : RunD} : ∀ of : List RunD, of.length ≤ l.length → r ∉ of → Pl.load l of r = .zero := by
  refine snoc_ind (P := fun of => of.length ≤ l.length → r ∉ of → Pl.load l of r = .zero) (fun _ _ => load_nil l r) (fun a q ih hl hm => ?_)
  simp only [List.length_append, List.length_cons, List.length_nil] at hl
  rw [load_snoc (by omega) q r, if_neg fun e => hm (by simp [e])]
  exact ih (by omega) fun e => hm (by simp [e])
end Rp
end Go.Fk
