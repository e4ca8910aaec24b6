import Derived.Test.YthengmdnikaooaaGreatQfGp
import Derived.Test.YthengmdnikaooaaGreatQfP20b
set_option linter.unusedVariables false
set_option linter.unusedSimpArgs false
namespace Go.Fk
open Go
namespace Pl
theorem findSome_congr {α β : Type} {f g : α → Option β} : ∀ {l : List α}, (∀ r ∈ l, f r = g r) → l.findSome? f = l.findSome? g
  | [], _ => rfl
  | x :: l, h => by
    simp only [List.findSome?_cons, h x (List.mem_cons_self ..), findSome_congr fun r hr => h r (List.mem_cons_of_mem _ hr)]
def step (l : List OrderD) (room : RunD → Int) (of : List RunD) (r : RunD) : Bool := decide (max (load l (of ++ [r]) r).n (load l (of ++ [r]) r).c ≤ room r)
def srch (l : List OrderD) (room : RunD → Int) (leaf : List RunD → Bool) : List (List RunD) → List RunD → Option (List RunD)
  | [], of => if leaf of then some of else none
  | o :: rest, of => o.findSome? fun r => if step l room of r then srch l room leaf rest (of ++ [r]) else none
def Path (l : List OrderD) (room : RunD → Int) : List (List RunD) → List RunD → List RunD → Prop
  | [], _, [] => True
  | o :: rest, of, r :: s => r ∈ o ∧ step l room of r = true ∧ Path l room rest (of ++ [r]) s
  | _, _, _ => False
section
variable {l : List OrderD} {room : RunD → Int} {leaf : List RunD → Bool}
theorem srch_some : ∀ {opts : List (List RunD)} {of x : List RunD}, srch l room leaf opts of = some x → ∃ s, Path l room opts of s ∧ x = of ++ s ∧ leaf x = true
  | [], of, x, h => by
    unfold srch at h
    split at h
    · cases h; exact ⟨[], trivial, by simp, by assumption⟩
    · cases h
  | o :: rest, of, x, h => by
    unfold srch at h
    obtain ⟨r, hr, h⟩ := List.exists_of_findSome?_eq_some h
    split at h
    · rename_i hs
      obtain ⟨s, hp, rfl, hl⟩ := srch_some h
      exact ⟨r :: s, ⟨hr, hs, hp⟩, by simp, hl⟩
    · cases h
theorem path_len : ∀ {opts : List (List RunD)} {of s : List RunD}, Path l room opts of s → s.length = opts.length
  | [], _, [], _ => rfl
  | [], _, _ :: _, h => h.elim
  | _ :: _, _, [], h => h.elim
  | o :: rest, of, r :: s, h => by simp [path_len h.2.2]
theorem path_mem : ∀ {opts : List (List RunD)} {of s : List RunD}, Path l room opts of s → ∀ k (h : k < s.length), s[k] ∈ opts.getD k []
  | [], _, [], _, k, h => by simp at h
  | [], _, _ :: _, h, _, _ => h.elim
  | _ :: _, _, [], h, _, _ => h.elim
  | o :: rest, of, r :: s, hp, 0, h => by simpa using hp.1
  | o :: rest, of, r :: s, hp, k + 1, h => by simpa using path_mem hp.2.2 k (by simpa using h)
theorem srch_congr {f g : List RunD → Bool} : ∀ {opts : List (List RunD)} {of : List RunD}, (∀ s, Path l room opts of s → f (of ++ s) = g (of ++ s)) → srch l room f opts of = srch l room g opts of
  | [], of, h => by
    have := h [] trivial
    rw [List.append_nil] at this
    unfold srch; rw [this]
  | o :: rest, of, h => by
    unfold srch
    refine findSome_congr fun r hr => ?_
    split
    · rename_i hs
      exact srch_congr fun s hp => by have := h (r :: s) ⟨hr, hs, hp⟩; simpa using this
    · rfl
end
def totF (l : List OrderD) : List RunD → List RunD → Int
  | _, [] => 0
  | pre, r :: s => ((load l (pre ++ [r]) r).covers - (load l pre r).covers) + totF l (pre ++ [r]) s
def tot (l : List OrderD) (of : List RunD) : Int := totF l [] of
theorem totF_append (l : List OrderD) : ∀ (a pre b : List RunD), totF l pre (a ++ b) = totF l pre a + totF l (pre ++ a) b
  | [], pre, b => by simp [totF]
  | r :: a, pre, b => by
    simp only [List.cons_append, totF, totF_append l a (pre ++ [r]) b, List.append_assoc, List.nil_append]; omega
theorem tot_snoc (l : List OrderD) (of : List RunD) (r : RunD) : tot l (of ++ [r]) = tot l of + ((load l (of ++ [r]) r).covers - (load l of r).covers) := by
  unfold tot; rw [totF_append]; simp [totF]
theorem wth_covers (x : LoadD) (o : OrderD) : x.covers - 1 ≤ (x.wth o).covers := by
  simp only [LoadD.covers, LoadD.wth]; omega
theorem totF_ge {l : List OrderD} : ∀ (s pre : List RunD), pre.length + s.length ≤ l.length → -(s.length : Int) ≤ totF l pre s
  | [], _, _ => by simp [totF]
  | r :: s, pre, h => by
    simp only [List.length_cons] at h
    have ih := totF_ge (l := l) s (pre ++ [r]) (by simp; omega)
    have := wth_covers (load l pre r) l[pre.length]
    simp only [totF, List.length_cons]
    rw [load_snoc (l := l) (of := pre) (by omega) r r, if_pos rfl]
    omega
theorem tot_ge {l : List OrderD} {of s : List RunD} (h : of.length + s.length ≤ l.length) : tot l of - s.length ≤ tot l (of ++ s) := by
  unfold tot; rw [totF_append]
  have := totF_ge s ([] ++ of) (by simpa using h)
  omega
def bad (l : List OrderD) (covers : Int) (of : List RunD) : Bool := decide (covers < tot l of - ((l.length : Int) - of.length))
def psrch (l : List OrderD) (room : RunD → Int) (covers : Int) : List (List RunD) → List RunD → Option (List RunD)
  | [], of => if bad l covers of then none else some of
  | o :: rest, of => if bad l covers of then none else o.findSome? fun r => if step l room of r then psrch l room covers rest (of ++ [r]) else none
def leafT (l : List OrderD) (covers : Int) (of : List RunD) : Bool := decide (tot l of ≤ covers)
theorem psrch_eq {l : List OrderD} {room : RunD → Int} {covers : Int} : ∀ {opts : List (List RunD)} {of : List RunD}, of.length + opts.length = l.length → psrch l room covers opts of = srch l room (leafT l covers) opts of
  | [], of, h => by
    simp only [List.length_nil, Nat.add_zero] at h
    unfold psrch srch
    have : bad l covers of = !leafT l covers of := by unfold bad leafT; rw [Bool.eq_iff_iff]; simp; omega
    rw [this]
    cases leafT l covers of <;> simp
  | o :: rest, of, h => by
    simp only [List.length_cons] at h
    unfold psrch
    split
    · rename_i hb
      cases hs : srch l room (leafT l covers) (o :: rest) of with
      | none => rfl
      | some x =>
        obtain ⟨s, hp, rfl, hl⟩ := srch_some hs
        have h1 := path_len hp
        simp only [List.length_cons] at h1
        have h2 := tot_ge (l := l) (of := of) (s := s) (by omega)
        simp only [leafT, bad, decide_eq_true_eq] at hl hb
        omega
    · unfold srch
      refine findSome_congr fun r hr => ?_
      split
      · exact psrch_eq (by simp; omega)
      · rfl
theorem sum_upd {f g : RunD → Int} {r : RunD} : ∀ {S : List RunD}, S.Nodup → r ∈ S → (∀ q ∈ S, q ≠ r → g q = f q) → sum (S.map g) = sum (S.map f) + (g r - f r)
  | [], _, h, _ => by cases h
  | a :: S, hn, hm, hq => by
    have hna := List.nodup_cons.1 hn
    simp only [List.map_cons, sum]
    by_cases e : a = r
    · subst e
      have : S.map g = S.map f := List.map_congr_left fun q hqS => hq q (List.mem_cons_of_mem _ hqS) fun h => hna.1 (h ▸ hqS)
      rw [this]; omega
    · have hrS : r ∈ S := by
        rcases List.mem_cons.1 hm with h | h
        · exact (e h.symm).elim
        · exact h
      rw [sum_upd hna.2 hrS fun q hqS => hq q (List.mem_cons_of_mem _ hqS), hq a (List.mem_cons_self ..) e]; omega
theorem load_nil (l : List OrderD) (r : RunD) : load l [] r = .zero := by cases l <;> rfl
theorem snoc_ind {P : List RunD → Prop} (h0 : P []) (h1 : ∀ a r, P a → P (a ++ [r])) : ∀ s, P s := by
  intro s
  have : ∀ n, P (s.take n) := by
    intro n
    induction n with
    | zero => simpa using h0
    | succ n ih =>
      by_cases h : n < s.length
      · rw [List.take_succ_eq_append_getElem h]; exact h1 _ _ ih
      · rw [List.take_of_length_le (by omega)]; rwa [List.take_of_length_le (by omega)] at ih
  simpa using this s.length
theorem sum_zero : ∀ S : List RunD, sum (S.map fun _ => (0 : Int)) = 0
  | [] => rfl
  | _ :: S => by simp only [List.map_cons, sum, sum_zero S]; rfl
theorem sum_tot {l : List OrderD} {S : List RunD} (hS : S.Nodup) : ∀ of : List RunD, of.length ≤ l.length → (∀ r ∈ of, r ∈ S) → sum (S.map fun r => (load l of r).covers) = tot l of := by
  refine snoc_ind (fun _ _ => ?_) (fun a r ih hl hm => ?_)
  · have : (fun r => (load l [] r).covers) = fun _ => (0 : Int) := by funext r; rw [load_nil]; rfl
    rw [this]
    exact sum_zero S
  · simp only [List.length_append, List.length_cons, List.length_nil] at hl
    rw [sum_upd (f := fun r => (load l a r).covers) (r := r) hS (hm r (by simp)) fun q _ hq => ?_]
    · rw [ih (by omega) fun x hx => hm x (by simp [hx]), tot_snoc]
    · rw [load_snoc (by omega) r q, if_neg fun h => hq h.symm]
theorem load_pos {l : List OrderD} : ∀ of : List RunD, of.length ≤ l.length → ∀ r ∈ of, 1 ≤ (load l of r).n := by
  have nn : ∀ of : List RunD, of.length ≤ l.length → ∀ r, 0 ≤ (load l of r).n := by
    refine snoc_ind (fun _ r => ?_) (fun a r ih hl q => ?_)
    · rw [load_nil]; simp [LoadD.zero]
    · simp only [List.length_append, List.length_cons, List.length_nil] at hl
      have := ih (by omega) q
      rw [load_snoc (by omega) r q]
      split
      · simp only [LoadD.wth]; omega
      · exact this
  refine snoc_ind (fun _ r h => by cases h) (fun a r ih hl q hq => ?_)
  simp only [List.length_append, List.length_cons, List.length_nil] at hl
  rw [load_snoc (by omega) r q]
  by_cases e : r = q
  · rw [if_pos e]
    have := nn a (by omega) q
    simp only [LoadD.wth]; omega
  · rw [if_neg e]
    refine ih (by omega) q ?_
    rcases List.mem_append.1 hq with h | h
    · exact h
    · exact (e (List.mem_singleton.1 h).symm).elim
theorem path_room {l : List OrderD} {room : RunD → Int} : ∀ {opts : List (List RunD)} {of s : List RunD}, Path l room opts of s → of.length + opts.length ≤ l.length → (∀ r ∈ of, max (load l of r).n (load l of r).c ≤ room r) → ∀ r ∈ of ++ s, max (load l (of ++ s) r).n (load l (of ++ s) r).c ≤ room r
  | [], of, [], _, _, h => by simpa using h
  | [], _, _ :: _, h, _, _ => h.elim
  | _ :: _, _, [], h, _, _ => h.elim
  | o :: rest, of, r :: s, hp, hl, h => by
    simp only [List.length_cons] at hl
    have h1 := hp.2.1
    simp only [step, decide_eq_true_eq] at h1
    have := path_room hp.2.2 (by simp; omega) fun q hq => ?_
    · simpa using this
    · by_cases e : r = q
      · subst e; exact h1
      · rw [load_snoc (by omega) r q, if_neg e]
        refine h q ?_
        rcases List.mem_append.1 hq with h | h
        · exact h
        · exact (e (List.mem_singleton.1 h).symm).elim
def ddF (a : List RunD) (of : List RunD) : List RunD := of.foldl (fun a r => if a.contains r then a else Tt.insR r a) a
def dd (of : List RunD) : List RunD := ddF [] of
def ridx (r : RunD) : List RunD → Nat → Int
  | [], _ => -1
  | s :: l, k => if s = r then k else ridx r l (k + 1)
def planOf (l : List OrderD) (of : List RunD) : PlanD := ⟨dd of, of.map fun r => ridx r (dd of) 0, (dd of).map fun r => (load l of r).covers⟩
def Dis (L : List RunD) : Prop := ∀ a ∈ L, ∀ b ∈ L, a ≠ b → Tt.Apart a b
theorem ddF_spec : ∀ {of a : List RunD}, Tt.Srt a → Dis (a ++ of) → Tt.Srt (ddF a of) ∧ ∀ r, r ∈ ddF a of ↔ r ∈ a ∨ r ∈ of
  | [], a, h, _ => ⟨h, fun r => by simp [ddF]⟩
  | r :: of, a, h, hd => by
    show Tt.Srt (ddF (if a.contains r then a else Tt.insR r a) of) ∧ _
    split
    · rename_i hc
      have hc : r ∈ a := by simpa using hc
      obtain ⟨h1, h2⟩ := ddF_spec (of := of) h fun x hx y hy => hd x (by
        rcases List.mem_append.1 hx with g | g <;> simp [g]) y (by rcases List.mem_append.1 hy with g | g <;> simp [g])
      refine ⟨h1, fun q => ?_⟩
      show q ∈ ddF (if a.contains r then a else Tt.insR r a) of ↔ _
      rw [if_pos (by simpa using hc), h2 q]
      simp only [List.mem_cons]
      constructor
      · rintro (g | g) <;> simp [g]
      · rintro (g | rfl | g)
        · exact .inl g
        · exact .inl hc
        · exact .inr g
    · rename_i hc
      have hc' : r ∉ a := by simpa using hc
      have hm : ∀ x, x ∈ Tt.insR r a ↔ x = r ∨ x ∈ a := fun x => by rw [(Tt.insR_perm r a).mem_iff, List.mem_cons]
      have hs : Tt.Srt (Tt.insR r a) := Tt.insR_srt h fun s hs => hd r (by simp) s (by simp [hs]) fun e => hc' (e ▸ hs)
      obtain ⟨h1, h2⟩ := ddF_spec (of := of) hs fun x hx y hy => hd x (by
        rcases List.mem_append.1 hx with g | g
        · rcases (hm x).1 g with g | g <;> simp [g]
        · simp [g]) y (by
        rcases List.mem_append.1 hy with g | g
        · rcases (hm y).1 g with g | g <;> simp [g]
        · simp [g])
      refine ⟨h1, fun q => ?_⟩
      show q ∈ ddF (if a.contains r then a else Tt.insR r a) of ↔ _
      rw [if_neg hc, h2 q, hm q]
      simp only [List.mem_cons]
      constructor
      · rintro ((g | g) | g) <;> simp [g]
      · rintro (g | g | g) <;> simp [g]
theorem dd_spec {of : List RunD} (h : Dis of) : Tt.Srt (dd of) ∧ ∀ r, r ∈ dd of ↔ r ∈ of := by
  obtain ⟨h1, h2⟩ := ddF_spec (of := of) (a := []) List.Pairwise.nil (by simpa using h)
  exact ⟨h1, fun r => by rw [show dd of = ddF [] of from rfl, h2 r]; simp⟩
theorem srt_nodup {a : List RunD} (h : Tt.Srt a) : a.Nodup := List.Pairwise.imp (S := fun a b => a ≠ b) (fun {x y} hb e => by subst e; exact Tt.before_irr hb) h
theorem srt_ext : ∀ {a b : List RunD}, Tt.Srt a → Tt.Srt b → (∀ r, r ∈ a ↔ r ∈ b) → a = b
  | [], [], _, _, _ => rfl
  | [], y :: b, _, _, h => by have := (h y).2 (List.mem_cons_self ..); cases this
  | x :: a, [], _, _, h => by have := (h x).1 (List.mem_cons_self ..); cases this
  | x :: a, y :: b, ha, hb, h => by
    have hx : x = y := by
      have h1 : x ∈ y :: b := (h x).1 (List.mem_cons_self ..)
      have h2 : y ∈ x :: a := (h y).2 (List.mem_cons_self ..)
      rcases List.mem_cons.1 h1 with e | h1
      · exact e
      · rcases List.mem_cons.1 h2 with e | h2
        · exact e.symm
        · exact (Tt.before_asym (List.rel_of_pairwise_cons hb h1) (List.rel_of_pairwise_cons ha h2)).elim
    subst hx
    have na := (List.nodup_cons.1 (srt_nodup ha)).1
    have nb := (List.nodup_cons.1 (srt_nodup hb)).1
    rw [srt_ext (List.Pairwise.of_cons ha) (List.Pairwise.of_cons hb) fun r => ?_]
    have := h r
    simp only [List.mem_cons] at this
    constructor
    · intro hr
      rcases this.1 (.inr hr) with e | g
      · exact (na (e ▸ hr)).elim
      · exact g
    · intro hr
      rcases this.2 (.inr hr) with e | g
      · exact (nb (e ▸ hr)).elim
      · exact g
theorem ridx_at {r : RunD} : ∀ {S : List RunD} {k : Nat}, r ∈ S → ∃ j, ∃ h : j < S.length, ridx r S k = (k + j : Nat) ∧ S[j] = r
  | [], _, h => by cases h
  | s :: S, k, h => by
    unfold ridx
    by_cases e : s = r
    · rw [if_pos e]; exact ⟨0, by simp, rfl, by simpa using e⟩
    · rw [if_neg e]
      have hS : r ∈ S := by
        rcases List.mem_cons.1 h with g | g
        · exact (e g.symm).elim
        · exact g
      obtain ⟨j, hj, h1, h2⟩ := ridx_at (k := k + 1) hS
      exact ⟨j + 1, by simpa using hj, by rw [h1]; congr 1; omega, by simpa using h2⟩
theorem ridx_no {r : RunD} : ∀ {S : List RunD} {k : Nat}, r ∉ S → ridx r S k = -1
  | [], _, _ => rfl
  | s :: S, k, h => by
    simp only [List.mem_cons, not_or] at h
    unfold ridx
    rw [if_neg fun e => h.1 e.symm, ridx_no h.2]
theorem ridx_mem {r : RunD} {S : List RunD} {k : Nat} : 0 ≤ ridx r S k ↔ r ∈ S := by
  constructor
  · intro h
    by_cases e : r ∈ S
    · exact e
    · rw [ridx_no e] at h; omega
  · intro h
    obtain ⟨j, _, h1, _⟩ := ridx_at (k := k) h
    omega
theorem ridx_getD {r : RunD} {S : List RunD} (h : r ∈ S) : (0 ≤ ridx r S 0 ∧ ridx r S 0 < S.length) ∧ S.getD (ridx r S 0).toNat default = r := by
  obtain ⟨j, hj, h1, h2⟩ := ridx_at (k := 0) h
  rw [h1]
  refine ⟨by omega, ?_⟩
  rw [Int.toNat_natCast, Nat.zero_add, List.getD_eq_getElem?_getD, List.getElem?_eq_getElem hj, ← h2]; rfl
theorem isRun_dis {t : TimeD} {L : List RunD} (h : ∀ r ∈ L, Tt.isRun t r = true) : Dis L := fun a ha b hb hne => by
  have h1 := h a ha
  have h2 := h b hb
  simp only [Tt.isRun, Tt.isR, Bool.and_eq_true, decide_eq_true_eq] at h1 h2
  unfold Tt.Apart
  by_cases e : a.At = b.At ∧ a.Line = b.Line
  · refine (hne ?_).elim
    obtain ⟨_, _, _, h3, _⟩ := h1
    obtain ⟨_, _, _, h4, _⟩ := h2
    rw [e.2] at h3
    cases a; cases b
    simp only at e h3 h4
    simp [e.1, e.2, h3, h4]
  · omega
theorem ofs_planOf {l : List OrderD} {of : List RunD} (h : Dis of) : ofs (planOf l of) = of := by
  unfold ofs planOf
  simp only [List.map_map]
  conv => rhs; rw [← List.map_id of]
  refine List.map_congr_left fun r hr => ?_
  exact (ridx_getD (((dd_spec h).2 r).2 hr)).2
theorem good_planOf {t : TimeD} {f : TariffD} {l : List OrderD} {covers : Int} {of : List RunD} (hl : of.length = l.length) (hr : ∀ r ∈ of, Tt.isRun t r = true) (hf : ∀ k, k < l.length → fits t f (l.getD k default) (of.getD k default) = true)
    (hm : ∀ r ∈ of, max (load l of r).n (load l of r).c ≤ (lineR t r).Room) : good t f l covers (planOf l of) = leafT l covers of := by
  have hd := isRun_dis hr
  obtain ⟨hs, hmem⟩ := dd_spec hd
  have hofs := ofs_planOf (l := l) hd
  have h1 : decide ((planOf l of).Of.length = l.length ∧ (planOf l of).Covers.length = (planOf l of).Runs.length) = true := by simp [planOf, hl]
  have h2 : runsOk t (planOf l of) = true := List.all_eq_true.2 fun k hk => by
    have hk : k < (dd of).length := by simpa [planOf] using hk
    have e1 : (planOf l of).Runs.getD k default = (dd of)[k] := by simp [planOf, List.getD_eq_getElem?_getD, hk]
    unfold runP
    rw [e1, hr _ ((hmem _).1 (List.getElem_mem hk)), Bool.true_and]
    by_cases k0 : k = 0
    · simp [k0]
    · have e2 : (planOf l of).Runs.getD (k - 1) default = (dd of)[k - 1] := by simp [planOf, List.getD_eq_getElem?_getD, show k - 1 < (dd of).length by omega]
      rw [e2]
      have := List.pairwise_iff_getElem.1 hs (k - 1) k (by omega) hk (by omega)
      simp [this]
  have h3 : ofsOk t f l (planOf l of) = true := List.all_eq_true.2 fun k hk => by
    have hk : k < l.length := by simpa using hk
    have hko : k < of.length := by omega
    have e1 : (planOf l of).Of.getD k 0 = ridx of[k] (dd of) 0 := by simp [planOf, List.getD_eq_getElem?_getD, hko]
    have hg := ridx_getD ((hmem _).2 (List.getElem_mem hko))
    unfold ofP
    rw [e1]
    have e2 : (planOf l of).Runs = dd of := rfl
    rw [e2, hg.2, decide_eq_true hg.1, Bool.true_and]
    have := hf k hk
    rwa [show of.getD k default = of[k] by simp [List.getD_eq_getElem?_getD, hko]] at this
  have h4 : covsOk t l (planOf l of) = true := List.all_eq_true.2 fun k hk => by
    have hk : k < (dd of).length := by simpa [planOf] using hk
    have e1 : (planOf l of).Runs.getD k default = (dd of)[k] := by simp [planOf, List.getD_eq_getElem?_getD, hk]
    have e2 : (planOf l of).Covers.getD k 0 = (load l of (dd of)[k]).covers := by simp [planOf, List.getD_eq_getElem?_getD, hk]
    have hin := (hmem _).1 (List.getElem_mem hk)
    have hp := load_pos (l := l) of (by omega) _ hin
    unfold covP
    simp only []
    rw [hofs, e1, e2, decide_eq_true_eq]
    exact ⟨by omega, rfl, hm _ hin⟩
  unfold good
  rw [h1, h2, h3, h4]
  simp only [Bool.and_self, Bool.true_and]
  have : sum (planOf l of).Covers = tot l of := sum_tot (srt_nodup hs) of (by omega) fun r hr => (hmem r).2 hr
  rw [this]; rfl
end Pl
end Go.Fk
