import Derived.Test.YtoadfmgnpmcbfaaGreatQoGa
/- Chapter 19: what the calendar is, in plain Lean. No program in sight. -/
namespace Go.Fk
open Go
namespace Cal
def rOk (r : Rule) : Bool := decide (0 ≤ r.First ∧ r.First < r.Until ∧ r.Until ≤ 2097152 ∧ 1 ≤ r.Every ∧ r.Every ≤ 2097152)
def gOk : Int → List Gap → Bool
  | _, [] => true
  | b, g :: r => decide (b < g.From ∧ g.From < g.Until ∧ g.Until ≤ 2097152) && gOk g.Until r
def chk (rules : List Rule) (off : List Gap) : Int :=
  if 16 < rules.length ∨ 64 < off.length then 2 else if rules.all rOk && gOk (-1) off then 0 else 190
theorem all_drop (l : List Rule) (k : Nat) (h : k < l.length) : (l.drop k).all rOk = (rOk l[k] && (l.drop (k + 1)).all rOk) := by
  rw [List.drop_eq_getElem_cons h, List.all_cons]
theorem gOk_drop (b : Int) (l : List Gap) (k : Nat) (h : k < l.length) : gOk b (l.drop k) = (decide (b < l[k].From ∧ l[k].From < l[k].Until ∧ l[k].Until ≤ 2097152) && gOk l[k].Until (l.drop (k + 1))) := by
  rw [List.drop_eq_getElem_cons h]; rfl
/-- what holds of rules and gaps that are accepted -/
structure Ok (rules : List Rule) (off : List Gap) : Prop where
  nr : rules.length ≤ 16
  no : off.length ≤ 64
  r : ∀ x ∈ rules, 0 ≤ x.First ∧ x.First < x.Until ∧ x.Until ≤ 2097152 ∧ 1 ≤ x.Every ∧ x.Every ≤ 2097152
  g : ∀ x ∈ off, 0 ≤ x.From ∧ x.From < x.Until ∧ x.Until ≤ 2097152
theorem gOk_all : ∀ (l : List Gap) (b : Int), -1 ≤ b → gOk b l = true → ∀ x ∈ l, b < x.From ∧ x.From < x.Until ∧ x.Until ≤ 2097152
  | [], _, _, _, _, h => by cases h
  | g :: r, b, hb, hg, x, hx => by
    simp only [gOk, Bool.and_eq_true, decide_eq_true_eq] at hg
    rcases List.mem_cons.1 hx with rfl | hx
    · exact hg.1
    · have := gOk_all r g.Until (by omega) hg.2 x hx
      omega
theorem chk_ok {rules : List Rule} {off : List Gap} (h : chk rules off = 0) : Ok rules off := by
  unfold chk at h
  split at h
  · simp at h
  · rename_i hl
    split at h
    · rename_i hc
      simp only [Bool.and_eq_true, List.all_eq_true] at hc
      refine ⟨by omega, by omega, fun x hx => by simpa [rOk] using hc.1 x hx, fun x hx => ?_⟩
      have := gOk_all off (-1) (by omega) hc.2 x hx
      omega
    · simp at h
/-! ### Departures -/
def ruleAt (x : Rule) (m : Int) : Bool := decide (x.First ≤ m ∧ m < x.Until ∧ (m - x.First) % x.Every = 0)
def inGap (g : Gap) (m : Int) : Bool := decide (g.From ≤ m ∧ m < g.Until)
def departs (rules : List Rule) (off : List Gap) (m : Int) : Bool := !off.any (inGap · m) && rules.any (ruleAt · m)
/-- the departures from a time on, so many minutes -/
def depsN (rules : List Rule) (off : List Gap) (m : Int) : Nat → List Int
  | 0 => []
  | k + 1 => (if departs rules off m then [m] else []) ++ depsN rules off (m + 1) k
def deps (rules : List Rule) (off : List Gap) (a b : Int) : List Int := depsN rules off a (b - a).toNat
/-- the least departure from a time on; 2097152 if there is none -/
def nxtN (rules : List Rule) (off : List Gap) (m : Int) : Nat → Int
  | 0 => 2097152
  | k + 1 => if departs rules off m then m else nxtN rules off (m + 1) k
def nxt (rules : List Rule) (off : List Gap) (m : Int) : Int := nxtN rules off m (2097152 - m).toNat
theorem nxt_self {rules : List Rule} {off : List Gap} {m : Int} (h : m < 2097152) (hd : departs rules off m = true) : nxt rules off m = m := by
  unfold nxt
  obtain ⟨k, hk⟩ : ∃ k, (2097152 - m).toNat = k + 1 := ⟨(2097152 - m).toNat - 1, by omega⟩
  rw [hk]; simp [nxtN, hd]
theorem nxt_step {rules : List Rule} {off : List Gap} {m : Int} (h : m < 2097152) (hd : departs rules off m = false) : nxt rules off m = nxt rules off (m + 1) := by
  unfold nxt
  obtain ⟨k, hk⟩ : ∃ k, (2097152 - m).toNat = k + 1 := ⟨(2097152 - m).toNat - 1, by omega⟩
  rw [hk, show (2097152 - (m + 1)).toNat = k by omega]; simp [nxtN, hd]
theorem nxt_end {rules : List Rule} {off : List Gap} {m : Int} (h : 2097152 ≤ m) : nxt rules off m = 2097152 := by
  unfold nxt; rw [show (2097152 - m).toNat = 0 by omega]; rfl
theorem nxt_skip {rules : List Rule} {off : List Gap} {m t : Int} (hmt : m ≤ t) (ht : t ≤ 2097152) (h : ∀ x, m ≤ x → x < t → departs rules off x = false) : nxt rules off m = nxt rules off t := by
  obtain ⟨k, hk⟩ : ∃ k : Nat, t = m + k := ⟨(t - m).toNat, by omega⟩
  subst hk
  induction k generalizing m with
  | zero => simp
  | succ k ih =>
    rw [nxt_step (by omega) (h m (by omega) (by omega)), ih (m := m + 1) (by omega) (by omega) (fun x h1 h2 => h x (by omega) (by omega))]
    congr 1; omega
theorem nxt_spec (rules : List Rule) (off : List Gap) (m : Int) : (nxt rules off m = 2097152 ∧ ∀ x, m ≤ x → x < 2097152 → departs rules off x = false) ∨
    (m ≤ nxt rules off m ∧ nxt rules off m < 2097152 ∧ departs rules off (nxt rules off m) = true ∧ ∀ x, m ≤ x → x < nxt rules off m → departs rules off x = false) := by
  have key : ∀ (k : Nat) (m : Int), 2097152 ≤ m + (k : Int) → (nxt rules off m = 2097152 ∧ ∀ x, m ≤ x → x < 2097152 → departs rules off x = false) ∨
      (m ≤ nxt rules off m ∧ nxt rules off m < 2097152 ∧ departs rules off (nxt rules off m) = true ∧ ∀ x, m ≤ x → x < nxt rules off m → departs rules off x = false) := by
    intro k
    induction k with
    | zero => intro m hm; exact .inl ⟨nxt_end (by omega), fun x h1 h2 => by omega⟩
    | succ k ih =>
      intro m hm
      by_cases h : m < 2097152
      · cases hd : departs rules off m with
        | true => rw [nxt_self h hd]; exact .inr ⟨by omega, h, hd, fun x h1 h2 => by omega⟩
        | false =>
          rw [nxt_step h hd]
          have hx : ∀ x, m ≤ x → ¬ m + 1 ≤ x → departs rules off x = false := fun x h1 h2 => by rw [show x = m by omega]; exact hd
          rcases ih (m + 1) (by omega) with ⟨h1, h2⟩ | ⟨h1, h2, h3, h4⟩
          · exact .inl ⟨h1, fun x a b => if c : m + 1 ≤ x then h2 x c b else hx x a c⟩
          · exact .inr ⟨by omega, h2, h3, fun x a b => if c : m + 1 ≤ x then h4 x c b else hx x a c⟩
      · exact .inl ⟨nxt_end (by omega), fun x h1 h2 => by omega⟩
  exact key (2097152 - m).toNat m (by omega)
/-! ### The times of rules -/
def after (x : Rule) (m : Int) : Int :=
  let t := if x.First < m then x.First + (m - x.First + x.Every - 1) / x.Every * x.Every else x.First
  if x.Until ≤ t then 2097152 else t
theorem after_spec {x : Rule} (hx : 0 ≤ x.First ∧ x.First < x.Until ∧ x.Until ≤ 2097152 ∧ 1 ≤ x.Every ∧ x.Every ≤ 2097152) {m : Int} (hm : m ≤ 2097152) :
    m ≤ after x m ∧ after x m ≤ 2097152 ∧ (after x m < 2097152 → ruleAt x (after x m) = true) ∧ ∀ y, m ≤ y → y < after x m → ruleAt x y = false := by
  obtain ⟨h0, h1, h2, h3, h4⟩ := hx
  unfold after
  simp only
  -- q: the multiple
  have hq := Int.emod_add_mul_ediv (m - x.First + x.Every - 1) x.Every
  have hr0 := Int.emod_nonneg (m - x.First + x.Every - 1) (show x.Every ≠ 0 by omega)
  have hr1 := Int.emod_lt_of_pos (m - x.First + x.Every - 1) (show 0 < x.Every by omega)
  rw [Int.mul_comm] at hq
  generalize hqe : (m - x.First + x.Every - 1) / x.Every = q at hq ⊢
  have no : ∀ t y, (t - x.First) % x.Every = 0 → t - x.Every < y → y < t → ruleAt x y = false := by
    intro t y ht ha hb
    unfold ruleAt
    refine decide_eq_false fun ⟨c1, c2, c3⟩ => ?_
    obtain ⟨a, ha'⟩ := Int.dvd_of_emod_eq_zero ht
    obtain ⟨b, hb'⟩ := Int.dvd_of_emod_eq_zero c3
    have hd : t - y = x.Every * (a - b) := by rw [Int.mul_sub, ← ha', ← hb']; omega
    have h5 : 0 < x.Every * (a - b) := by omega
    have h6 : x.Every * (a - b) < x.Every * 1 := by omega
    have h7 : a - b < 1 := Int.lt_of_mul_lt_mul_left h6 (by omega)
    have h8 : 0 < a - b := by
      rcases Int.lt_or_le 0 (a - b) with h | h
      · exact h
      · have := Int.mul_nonpos_of_nonneg_of_nonpos (show 0 ≤ x.Every by omega) h
        omega
    omega
  by_cases c : x.First < m
  · simp only [if_pos c]
    have hmod : (x.First + q * x.Every - x.First) % x.Every = 0 := by
      rw [show x.First + q * x.Every - x.First = q * x.Every by omega]; exact Int.mul_emod_left _ _
    by_cases d : x.Until ≤ x.First + q * x.Every
    · rw [if_pos d]
      refine ⟨hm, Int.le_refl _, fun h => by omega, fun y ya yb => ?_⟩
      by_cases e : y < x.First + q * x.Every
      · exact no _ y hmod (by omega) e
      · unfold ruleAt; exact decide_eq_false fun ⟨_, c2, _⟩ => by omega
    · rw [if_neg d]
      refine ⟨by omega, by omega, fun _ => ?_, fun y ya yb => no _ y hmod (by omega) yb⟩
      unfold ruleAt; exact decide_eq_true ⟨by omega, by omega, hmod⟩
  · simp only [if_neg c, if_neg (show ¬ x.Until ≤ x.First by omega)]
    refine ⟨by omega, by omega, fun _ => ?_, fun y ya yb => ?_⟩
    · unfold ruleAt; exact decide_eq_true ⟨by omega, by omega, by simp⟩
    · unfold ruleAt; exact decide_eq_false fun ⟨c1, _, _⟩ => by omega
/-- the least time of the rules from m on -/
def firstR (rules : List Rule) (m : Int) : Int := rules.foldl (fun t x => min t (after x m)) 2097152
theorem firstR_take {rules : List Rule} {m : Int} {k : Nat} (h : k < rules.length) : firstR (rules.take (k + 1)) m = min (firstR (rules.take k) m) (after rules[k] m) := by
  unfold firstR
  rw [List.take_succ_eq_append_getElem h, List.foldl_append]; rfl
theorem firstR_spec {rules : List Rule} (h : ∀ x ∈ rules, 0 ≤ x.First ∧ x.First < x.Until ∧ x.Until ≤ 2097152 ∧ 1 ≤ x.Every ∧ x.Every ≤ 2097152) {m : Int} (hm : m ≤ 2097152) :
    m ≤ firstR rules m ∧ firstR rules m ≤ 2097152 ∧ (firstR rules m < 2097152 → rules.any (ruleAt · (firstR rules m)) = true) ∧ ∀ y, m ≤ y → y < firstR rules m → rules.any (ruleAt · y) = false := by
  have key : ∀ k, k ≤ rules.length → m ≤ firstR (rules.take k) m ∧ firstR (rules.take k) m ≤ 2097152 ∧ (firstR (rules.take k) m < 2097152 → (rules.take k).any (ruleAt · (firstR (rules.take k) m)) = true) ∧
      ∀ y, m ≤ y → y < firstR (rules.take k) m → (rules.take k).any (ruleAt · y) = false := by
    intro k
    induction k with
    | zero => intro _; simp [firstR]; exact hm
    | succ k ih =>
      intro hk
      obtain ⟨h1, h2, h3, h4⟩ := ih (by omega)
      obtain ⟨g1, g2, g3, g4⟩ := after_spec (h rules[k] (List.getElem_mem (by omega))) hm
      rw [firstR_take (by omega), List.take_succ_eq_append_getElem (by omega)]
      refine ⟨by omega, by omega, fun hlt => ?_, fun y ya yb => ?_⟩
      · simp only [List.any_append, List.any_cons, List.any_nil, Bool.or_false, Bool.or_eq_true]
        by_cases c : firstR (rules.take k) m ≤ after rules[k] m
        · left; rw [Int.min_eq_left c] at hlt ⊢; exact h3 hlt
        · right; rw [Int.min_eq_right (by omega)] at hlt ⊢; exact g3 hlt
      · simp only [List.any_append, List.any_cons, List.any_nil, Bool.or_false, Bool.or_eq_false_iff]
        exact ⟨h4 y ya (by omega), g4 y ya (by omega)⟩
  have := key rules.length (Nat.le_refl _)
  simpa using this
theorem departs_no_rule {rules : List Rule} {off : List Gap} {y : Int} (h : rules.any (ruleAt · y) = false) : departs rules off y = false := by simp only [departs, h, Bool.and_false]
theorem departs_in_gap {rules : List Rule} {off : List Gap} {y : Int} {g : Gap} (hg : g ∈ off) (h : inGap g y = true) : departs rules off y = false := by
  have : off.any (inGap · y) = true := List.any_eq_true.2 ⟨g, hg, h⟩
  simp only [departs, this, Bool.not_true, Bool.false_and]
/-- from m to the rules' next time nothing departs -/
theorem nxt_rules {rules : List Rule} {off : List Gap} (h : Ok rules off) {m : Int} (hm : m ≤ 2097152) : nxt rules off m = nxt rules off (firstR rules m) := by
  obtain ⟨h1, h2, _, h4⟩ := firstR_spec h.r hm
  exact nxt_skip h1 h2 fun x a b => departs_no_rule (h4 x a b)
theorem nxt_gap {rules : List Rule} {off : List Gap} (h : Ok rules off) {t : Int} {g : Gap} (hg : g ∈ off) (hi : inGap g t = true) : nxt rules off t = nxt rules off g.Until := by
  simp only [inGap, decide_eq_true_eq] at hi
  refine nxt_skip (by omega) (h.g g hg).2.2 fun x a b => departs_in_gap hg (decide_eq_true ⟨by omega, b⟩)
theorem nxt_hit {rules : List Rule} {off : List Gap} (h : Ok rules off) {m : Int} (hm : m ≤ 2097152) (ht : firstR rules m < 2097152) (hno : off.any (inGap · (firstR rules m)) = false) : nxt rules off (firstR rules m) = firstR rules m := by
  obtain ⟨_, _, h3, _⟩ := firstR_spec h.r hm
  exact nxt_self ht (by simp only [departs, hno, h3 ht, Bool.not_false, Bool.and_self])
/-! ### Lists of departures -/
theorem depsN_mem (rules : List Rule) (off : List Gap) : ∀ (k : Nat) (m x : Int), x ∈ depsN rules off m k ↔ m ≤ x ∧ x < m + k ∧ departs rules off x = true
  | 0, m, x => by simp [depsN]; omega
  | k + 1, m, x => by
    simp only [depsN, List.mem_append, depsN_mem rules off k]
    cases hd : departs rules off m with
    | true =>
      simp only [if_true, List.mem_singleton]
      constructor
      · rintro (rfl | ⟨a, b, c⟩)
        · exact ⟨by omega, by omega, hd⟩
        · exact ⟨by omega, by omega, c⟩
      · rintro ⟨a, b, c⟩
        by_cases e : x = m
        · exact .inl e
        · exact .inr ⟨by omega, by omega, c⟩
    | false =>
      simp only [Bool.false_eq_true, if_false, List.not_mem_nil, false_or]
      constructor
      · rintro ⟨a, b, c⟩; exact ⟨by omega, by omega, c⟩
      · rintro ⟨a, b, c⟩
        have : x ≠ m := fun e => by rw [e, hd] at c; cases c
        exact ⟨by omega, by omega, c⟩
theorem deps_mem {rules : List Rule} {off : List Gap} {a b x : Int} (hab : a ≤ b) : x ∈ deps rules off a b ↔ a ≤ x ∧ x < b ∧ departs rules off x = true := by
  unfold deps; rw [depsN_mem]
  constructor <;> rintro ⟨h1, h2, h3⟩ <;> exact ⟨h1, by omega, h3⟩
theorem depsN_sorted (rules : List Rule) (off : List Gap) : ∀ (k : Nat) (m : Int), (depsN rules off m k).Pairwise (· < ·)
  | 0, _ => List.Pairwise.nil
  | k + 1, m => by
    simp only [depsN]
    split
    · refine List.pairwise_cons.2 ⟨fun x hx => ?_, depsN_sorted rules off k (m + 1)⟩
      have := (depsN_mem rules off k (m + 1) x).1 hx
      omega
    · simpa using depsN_sorted rules off k (m + 1)
theorem deps_sorted (rules : List Rule) (off : List Gap) (a b : Int) : (deps rules off a b).Pairwise (· < ·) := depsN_sorted _ _ _ _
theorem depsN_append (rules : List Rule) (off : List Gap) : ∀ (j k : Nat) (m : Int), depsN rules off m (j + k) = depsN rules off m j ++ depsN rules off (m + j) k
  | 0, k, m => by simp [depsN]
  | j + 1, k, m => by
    rw [show j + 1 + k = (j + k) + 1 by omega]
    simp only [depsN, depsN_append rules off j k (m + 1), List.append_assoc]
    congr 3; push_cast; omega
theorem deps_append {rules : List Rule} {off : List Gap} {a b c : Int} (h1 : a ≤ b) (h2 : b ≤ c) : deps rules off a c = deps rules off a b ++ deps rules off b c := by
  unfold deps
  rw [show (c - a).toNat = (b - a).toNat + (c - b).toNat by omega, depsN_append]
  congr 2; omega
/-- one departure after the other -/
theorem deps_nxt {rules : List Rule} {off : List Gap} {a b : Int} (hb : b ≤ 2097152) :
    deps rules off a b = if nxt rules off a < b then nxt rules off a :: deps rules off (nxt rules off a + 1) b else [] := by
  by_cases hab : a ≤ b
  · have none : ∀ c, a ≤ c → c ≤ b → (∀ x, a ≤ x → x < c → departs rules off x = false) → deps rules off a c = [] := fun c h1 h2 h3 => by
      rw [List.eq_nil_iff_forall_not_mem]
      intro x hx
      rw [deps_mem h1] at hx
      rw [h3 x hx.1 hx.2.1] at hx
      cases hx.2.2
    split
    · rename_i hlt
      rcases nxt_spec rules off a with ⟨h1, _⟩ | ⟨h1, h2, h3, h4⟩
      · omega
      · rw [deps_append h1 (show nxt rules off a ≤ b by omega), none _ h1 (by omega) h4, deps_append (show nxt rules off a ≤ nxt rules off a + 1 by omega) (show nxt rules off a + 1 ≤ b by omega)]
        have : deps rules off (nxt rules off a) (nxt rules off a + 1) = [nxt rules off a] := by
          unfold deps
          rw [show (nxt rules off a + 1 - nxt rules off a).toNat = 1 by omega]
          simp [depsN, h3]
        rw [this]; rfl
    · rename_i hge
      refine none b hab (Int.le_refl _) fun x h1 h2 => ?_
      rcases nxt_spec rules off a with ⟨_, h⟩ | ⟨_, _, _, h⟩
      · exact h x h1 (by omega)
      · exact h x h1 (by omega)
  · have h1 : deps rules off a b = [] := by unfold deps; rw [show (b - a).toNat = 0 by omega]; rfl
    rw [h1, if_neg]
    rcases nxt_spec rules off a with ⟨h, _⟩ | ⟨h, _⟩ <;> omega
/-! ### What the functions answer -/
def moments (rules : List Rule) (off : List Gap) (a b : Int) : List Int × Int :=
  if chk rules off ≠ 0 then ([], chk rules off) else if a < 0 ∨ b < a ∨ 2097152 < b then ([], 1) else if 2000 < (deps rules off a b).length then ([], 2) else (deps rules off a b, 0)
def next (rules : List Rule) (off : List Gap) (a : Int) : Int × Bool × Int :=
  if chk rules off ≠ 0 then (0, false, chk rules off) else if a < 0 ∨ 2097152 < a then (0, false, 1) else if nxt rules off a < 2097152 then (nxt rules off a, true, 0) else (0, false, 0)
end Cal
end Go.Fk
/- Chapter 20: timetables, in plain Lean. No program in sight. -/
set_option linter.unusedVariables false
namespace Go.Fk
open Go
namespace Tt
def diff : List Int → Bool
  | [] => true
  | x :: r => !r.contains x && diff r
theorem diff_iff : ∀ {l : List Int}, diff l = true ↔ ∀ j (h : j < l.length), ∀ i (h' : i < j), l[i] ≠ l[j]
  | [] => by simp [diff]
  | x :: r => by
    simp only [diff, Bool.and_eq_true, Bool.not_eq_true', List.contains_eq_mem, decide_eq_false_iff_not, diff_iff (l := r)]
    constructor
    · rintro ⟨h1, h2⟩ j hj i hi e
      cases j with
      | zero => omega
      | succ j =>
        cases i with
        | zero => simp only [List.getElem_cons_zero, List.getElem_cons_succ] at e; exact h1 (e ▸ List.getElem_mem _)
        | succ i => exact h2 j (by simpa using hj) i (by omega) (by simpa using e)
    · intro h
      refine ⟨fun hx => ?_, fun j hj i hi => ?_⟩
      · obtain ⟨k, hk, e⟩ := List.getElem_of_mem hx
        exact h (k + 1) (by simpa using hk) 0 (by omega) (by simpa using e.symm)
      · have := h (j + 1) (by simpa using hj) (i + 1) (by omega)
        simpa using this
theorem diff_take {l : List Int} : diff l = true ↔ ∀ j (h : j < l.length), (l.take j).contains l[j] = false := by
  rw [diff_iff]
  constructor
  · intro h2 j h
    simp only [List.contains_eq_mem, decide_eq_false_iff_not]
    intro hm
    obtain ⟨i, hi, e⟩ := List.getElem_of_mem hm
    simp at hi e
    exact h2 j h i (by omega) e
  · intro h j hj i hi e
    have := h j hj
    simp only [List.contains_eq_mem, decide_eq_false_iff_not] at this
    exact this (List.mem_of_getElem (i := i) (h := by simp; omega) (by simp [e]))
def sized (x : LineD) : Bool := decide (2 ≤ x.Offices.length ∧ x.Offices.length ≤ 9 ∧ x.Legs.length + 1 = x.Offices.length)
def numbers (x : LineD) : Bool := decide (1 ≤ x.Classes ∧ x.Classes ≤ 255 ∧ 1 ≤ x.Room ∧ x.Room ≤ 64)
def inR (n : Int) (o : Int) : Bool := decide (0 ≤ o ∧ o < n)
def stops (x : LineD) (n : Int) : Bool := x.Offices.all (inR n) && diff x.Offices
def legOk (n : Int) : Bool := decide (1 ≤ n ∧ n ≤ 100000)
def legs (x : LineD) : Bool := x.Legs.all legOk
def right (x : LineD) (n : Int) : Bool := sized x && numbers x && stops x n && legs x
theorem stops_take {x : LineD} {n : Int} : stops x n = true ↔ ∀ j (h : j < x.Offices.length), (0 ≤ x.Offices[j] ∧ x.Offices[j] < n) ∧ (x.Offices.take j).contains x.Offices[j] = false := by
  simp only [stops, Bool.and_eq_true, List.all_eq_true, inR, decide_eq_true_eq, diff_take]
  constructor
  · rintro ⟨h1, h2⟩ j h
    exact ⟨h1 _ (List.getElem_mem h), h2 j h⟩
  · intro h
    refine ⟨fun x hx => ?_, fun j hj => (h j hj).2⟩
    obtain ⟨j, hj, rfl⟩ := List.getElem_of_mem hx
    exact (h j hj).1
def calL : List LineD → Int
  | [] => 0
  | x :: r => if Cal.chk x.Rules x.Off ≠ 0 then Cal.chk x.Rules x.Off else calL r
def chk (t : TimeD) : Int := if 64 < t.Lines.length then 2 else if ¬ (0 ≤ t.Offices ∧ t.Offices ≤ 24) then 200 else if t.Lines.all (right · t.Offices) then calL t.Lines else 200
theorem calL_drop {l : List LineD} {k : Nat} (h : k < l.length) : calL (l.drop k) = if Cal.chk l[k].Rules l[k].Off ≠ 0 then Cal.chk l[k].Rules l[k].Off else calL (l.drop (k + 1)) := by
  rw [List.drop_eq_getElem_cons h]; rfl
theorem calL_all : ∀ {l : List LineD}, calL l = 0 → ∀ x ∈ l, Cal.chk x.Rules x.Off = 0
  | [], _, x, hx => by cases hx
  | y :: r, h, x, hx => by
    unfold calL at h
    split at h
    · rename_i h1; exact (h1 h).elim
    · rename_i h1
      rcases List.mem_cons.1 hx with rfl | hx
      · simpa using h1
      · exact calL_all h x hx
structure Ok (t : TimeD) : Prop where
  n : t.Lines.length ≤ 64
  o : 0 ≤ t.Offices ∧ t.Offices ≤ 24
  r : ∀ x ∈ t.Lines, right x t.Offices = true
  c : ∀ x ∈ t.Lines, Cal.chk x.Rules x.Off = 0
theorem chk_ok {t : TimeD} (h : chk t = 0) : Ok t := by
  unfold chk at h
  split at h
  · cases h
  · split at h
    · cases h
    · split at h
      · rename_i h1 h2 h3
        exact ⟨by omega, by omega, fun x hx => List.all_eq_true.1 h3 x hx, calL_all h⟩
      · cases h
/-- the facts of a right line -/
structure LOk (x : LineD) (n : Int) : Prop where
  o2 : 2 ≤ x.Offices.length
  o9 : x.Offices.length ≤ 9
  l1 : x.Legs.length + 1 = x.Offices.length
  c : 1 ≤ x.Classes ∧ x.Classes ≤ 255
  m : 1 ≤ x.Room ∧ x.Room ≤ 64
  s : ∀ o ∈ x.Offices, 0 ≤ o ∧ o < n
  d : diff x.Offices = true
  l : ∀ k ∈ x.Legs, 1 ≤ k ∧ k ≤ 100000
theorem right_ok {x : LineD} {n : Int} (h : right x n = true) : LOk x n := by
  simp only [right, sized, numbers, stops, legs, Bool.and_eq_true, decide_eq_true_eq, List.all_eq_true, inR, legOk] at h
  obtain ⟨⟨⟨h1, h2⟩, h3, h4⟩, h5⟩ := h
  exact ⟨h1.1, h1.2.1, h1.2.2, ⟨h2.1, h2.2.1⟩, h2.2.2, h3, h4, h5⟩
/-- sums -/
def sm : List Int → Int
  | [] => 0
  | x :: r => x + sm r
theorem sm_take : ∀ (l : List Int) (i : Nat) (h : i < l.length), sm (l.take (i + 1)) = sm (l.take i) + l[i]
  | y :: r, 0, _ => by simp [sm]
  | y :: r, i + 1, h => by
    simp only [List.take_succ_cons, sm, List.getElem_cons_succ]
    rw [sm_take r i (by simpa using h)]; omega
theorem sm_bd {l : List Int} (h : ∀ k ∈ l, 1 ≤ k ∧ k ≤ 100000) : ∀ i, i ≤ l.length → (i : Int) ≤ sm (l.take i) ∧ sm (l.take i) ≤ 100000 * i := by
  intro i
  induction i with
  | zero => intro _; simp [sm]
  | succ i ih =>
    intro hi
    rw [sm_take l i hi]
    have := ih (by omega)
    have := h _ (List.getElem_mem hi)
    omega
def leng (x : LineD) : Int := sm x.Legs
/-- is it a run? for a right timetable -/
def isR (t : TimeD) (r : RunD) : Bool :=
  decide (0 ≤ r.Line ∧ r.Line < t.Lines.length ∧ 0 ≤ r.At ∧ r.At < 2097152) &&
    (let x := t.Lines.getD r.Line.toNat default; Cal.departs x.Rules x.Off r.At && decide (r.Arrive = r.At + leng x ∧ r.Arrive < 2097152))
def isRun (t : TimeD) (r : RunD) : Bool := decide (chk t = 0) && isR t r
def before (a b : RunD) : Bool := decide (a.At < b.At ∨ a.At = b.At ∧ a.Line < b.Line)
/-- bools in a row -/
abbrev bools (l : List Bool) : List Value := l.map Value.bool
def seen (n : Nat) (l : List Int) : List Bool := (List.range n).map fun (i : Nat) => l.contains (i : Int)
theorem seen_len (n : Nat) (l : List Int) : (seen n l).length = n := by simp [seen]
theorem seen_get {n : Nat} {l : List Int} {i : Nat} (h : i < (seen n l).length) : (seen n l)[i] = l.contains (i : Int) := by simp [seen]
theorem seen_set {n : Nat} {l : List Int} {o : Nat} (ho : o < n) : (seen n l).set o true = seen n (l ++ [(o : Int)]) := by
  apply List.ext_getElem (by simp [seen_len])
  intro i h1 h2
  rw [List.getElem_set, seen_get h2]
  by_cases e : o = i
  · subst e; simp
  · rw [if_neg e, seen_get (by simpa [seen_len] using h2)]
    rw [Bool.eq_iff_iff]
    simp
    omega
theorem seen_nil (n : Nat) : seen n [] = List.replicate n false := by
  apply List.ext_getElem (by simp [seen_len])
  intro i h1 h2
  rw [seen_get h1]; simp
end Tt
end Go.Fk
/- Chapter 21: tariffs, in plain Lean. No program in sight. -/
set_option linter.unusedVariables false
namespace Go.Fk
open Go
namespace Tf
def price (n : Int) : Bool := decide (0 ≤ n ∧ n ≤ 1048576)
def tiersOk : Int → List TierD → Bool
  | _, [] => true
  | b, x :: r => decide (b < x.From) && price x.Extra && tiersOk x.From r
def okT (f : TariffD) : Bool := decide (f.Base.length = f.Leg.length ∧ 1 ≤ f.Base.length ∧ f.Base.length ≤ 8 ∧ f.Tiers.length ≤ 16) && f.Base.all price && f.Leg.all price && tiersOk 0 f.Tiers
def chk (f : TariffD) : Int := if okT f then 0 else 210
/-- what goes before a tier -/
def bef (l : List TierD) (k : Nat) : Int := if k = 0 then 0 else (l.getD (k - 1) default).From
theorem tiers_get : ∀ (l : List TierD) (b : Int), tiersOk b l = true ↔ ∀ k (h : k < l.length), (if k = 0 then b else (l.getD (k - 1) default).From) < l[k].From ∧ price l[k].Extra = true
  | [], b => by simp [tiersOk]
  | x :: r, b => by
    simp only [tiersOk, Bool.and_eq_true, decide_eq_true_eq, tiers_get r x.From]
    constructor
    · rintro ⟨⟨h1, h2⟩, h3⟩ k hk
      cases k with
      | zero => simpa using ⟨h1, h2⟩
      | succ k =>
        have := h3 k (by simpa using hk)
        cases k with
        | zero => simpa using this
        | succ k => simpa using this
    · intro h
      have h0 := h 0 (by simp)
      refine ⟨by simpa using h0, fun k hk => ?_⟩
      have := h (k + 1) (by simpa using hk)
      cases k with
      | zero => simpa using this
      | succ k => simpa using this
theorem tiers_at (l : List TierD) : tiersOk 0 l = true ↔ ∀ k (h : k < l.length), bef l k < l[k].From ∧ price l[k].Extra = true := tiers_get l 0
structure Ok (f : TariffD) : Prop where
  n : f.Base.length = f.Leg.length
  n1 : 1 ≤ f.Base.length
  n8 : f.Base.length ≤ 8
  t : f.Tiers.length ≤ 16
  b : ∀ x ∈ f.Base, 0 ≤ x ∧ x ≤ 1048576
  l : ∀ x ∈ f.Leg, 0 ≤ x ∧ x ≤ 1048576
  x : tiersOk 0 f.Tiers = true
theorem chk_ok {f : TariffD} (h : chk f = 0) : Ok f := by
  unfold chk at h
  split at h
  · rename_i h1
    simp only [okT, Bool.and_eq_true, decide_eq_true_eq, List.all_eq_true, price] at h1
    exact ⟨h1.1.1.1.1, h1.1.1.1.2.1, h1.1.1.1.2.2.1, h1.1.1.1.2.2.2, h1.1.1.2, h1.1.2, h1.2⟩
  · cases h
end Tf
end Go.Fk
/- Chapters 18, 21, 22: orders, prices and plans, in plain Lean. No program in sight. -/
set_option linter.unusedVariables false
set_option linter.unusedSimpArgs false
namespace Go.Fk
open Go
namespace Tf
def extraF (c : Int) : List TierD → Int → Int
  | [], a => a
  | x :: r, a => extraF c r (if x.From ≤ c then x.Extra else a)
def extra (f : TariffD) (c : Int) : Int := extraF c f.Tiers 0
def wrong (f : TariffD) (class_ legs crowd : Int) : Int :=
  if chk f ≠ 0 then 210 else if class_ < 0 ∨ f.Base.length ≤ class_ ∨ legs < 1 ∨ 8 < legs ∨ crowd < 1 ∨ 64 < crowd then 1 else 0
def base (f : TariffD) (class_ : Int) : Int := f.Base.getD class_.toNat 0
def leg (f : TariffD) (class_ : Int) : Int := f.Leg.getD class_.toNat 0
def pri (f : TariffD) (class_ legs crowd : Int) : Int × Int := if wrong f class_ legs crowd ≠ 0 then (0, wrong f class_ legs crowd) else (base f class_ + legs * leg f class_ + extra f crowd, 0)
theorem extraF_drop {c : Int} {l : List TierD} {k : Nat} {a : Int} (h : k < l.length) : extraF c (l.drop k) a = extraF c (l.drop (k + 1)) (if l[k].From ≤ c then l[k].Extra else a) := by
  rw [List.drop_eq_getElem_cons h]; rfl
theorem extraF_append (c : Int) : ∀ (l m : List TierD) (a : Int), extraF c (l ++ m) a = extraF c m (extraF c l a)
  | [], m, a => rfl
  | x :: r, m, a => by simp only [List.cons_append, extraF]; exact extraF_append c r m _
theorem extraF_bd {c : Int} : ∀ (l : List TierD) (a : Int), (∀ x ∈ l, price x.Extra = true) → 0 ≤ a ∧ a ≤ 1048576 → 0 ≤ extraF c l a ∧ extraF c l a ≤ 1048576
  | [], a, _, h => h
  | x :: r, a, hl, h => by
    refine extraF_bd r _ (fun y hy => hl y (List.mem_cons_of_mem _ hy)) ?_
    have := hl x (List.mem_cons_self ..)
    simp only [price, decide_eq_true_eq] at this
    split <;> omega
theorem tiers_price {l : List TierD} (h : tiersOk 0 l = true) : ∀ x ∈ l, price x.Extra = true := fun x hx => by
  obtain ⟨k, hk, rfl⟩ := List.getElem_of_mem hx
  exact ((tiers_at l).1 h k hk).2
theorem extra_bd {f : TariffD} (h : chk f = 0) (c : Int) : 0 ≤ extra f c ∧ extra f c ≤ 1048576 := extraF_bd _ _ (tiers_price (chk_ok h).x) (by omega)
theorem base_bd {f : TariffD} (h : chk f = 0) (c : Int) : 0 ≤ base f c ∧ base f c ≤ 1048576 := by
  unfold base
  rw [List.getD_eq_getElem?_getD]
  by_cases hc : c.toNat < f.Base.length
  · rw [List.getElem?_eq_getElem hc]; exact (chk_ok h).b _ (List.getElem_mem hc)
  · rw [List.getElem?_eq_none (by omega)]; simp
theorem leg_bd {f : TariffD} (h : chk f = 0) (c : Int) : 0 ≤ leg f c ∧ leg f c ≤ 1048576 := by
  unfold leg
  rw [List.getD_eq_getElem?_getD]
  by_cases hc : c.toNat < f.Leg.length
  · rw [List.getElem?_eq_getElem hc]; exact (chk_ok h).l _ (List.getElem_mem hc)
  · rw [List.getElem?_eq_none (by omega)]; simp
theorem pri_bd {f : TariffD} {c l k : Int} : 0 ≤ (pri f c l k).1 ∧ (pri f c l k).1 ≤ 10485760 := by
  unfold pri
  split
  · simp
  · rename_i h
    simp only [ne_eq, Decidable.not_not] at h
    have hw : chk f = 0 ∧ 1 ≤ l ∧ l ≤ 8 := by
      unfold wrong at h
      split at h
      · cases h
      · rename_i h1
        simp only [ne_eq, Decidable.not_not] at h1
        split at h
        · cases h
        · exact ⟨h1, by omega, by omega⟩
    have := base_bd hw.1 c
    have := leg_bd hw.1 c
    have := extra_bd hw.1 k
    have h8 : 0 ≤ l * leg f c ∧ l * leg f c ≤ 8 * 1048576 := ⟨Int.mul_nonneg (by omega) (by omega), Int.mul_le_mul hw.2.2 (by omega) (by omega) (by omega)⟩
    simp only; omega
end Tf
namespace Pl
def agF (n : Int) : Int → List Int → Bool
  | _, [] => true
  | last, k :: r => decide (last < k ∧ k < n) && agF n k r
def oNum (o : OrderD) (n p c : Int) : Bool :=
  decide ((0 ≤ o.From ∧ o.From < n) ∧ (0 ≤ o.Dest ∧ o.Dest < n) ∧ (0 ≤ o.Person ∧ o.Person < p) ∧ (0 ≤ o.Class ∧ o.Class < c) ∧ (0 ≤ o.After ∧ o.After < o.By) ∧ o.By < 2097152 ∧ (1 ≤ o.Crowd ∧ o.Crowd ≤ 64) ∧ (0 ≤ o.Pay ∧ o.Pay ≤ 1099511627776) ∧ (0 ≤ o.Else ∧ o.Else ≤ 2) ∧ o.From ≠ o.Dest)
/-- is an order right? -/
def oright (o : OrderD) (n p c : Int) : Bool := oNum o n p c && agF n (-1) o.Against
theorem agF_drop {n : Int} {l : List Int} {k : Nat} {a : Int} (h : k < l.length) : agF n a (l.drop k) = (decide (a < l[k] ∧ l[k] < n) && agF n l[k] (l.drop (k + 1))) := by
  rw [List.drop_eq_getElem_cons h]; rfl
def lineR (t : TimeD) (r : RunD) : LineD := t.Lines.getD r.Line.toNat default
/-- the conditions of an order and a run -/
def c0 (x : LineD) (o : OrderD) : Bool := iand .i64 (x.Classes.fdiv (2 ^ (min o.Class.toNat 64))) 1 == 1
def c1 (x : LineD) (o : OrderD) : Bool := decide (x.Offices.getD 0 0 = o.From) && decide (x.Offices.getD (x.Offices.length - 1) 0 = o.Dest)
def c2 (o : OrderD) (r : RunD) : Bool := decide (o.After ≤ r.At) && decide (r.Arrive ≤ o.By)
def c3 (f : TariffD) (x : LineD) (o : OrderD) : Bool := decide ((Tf.pri f o.Class x.Legs.length o.Crowd).1 ≤ o.Pay)
def c4 (x : LineD) (o : OrderD) : Bool := decide (o.Crowd < x.Room)
def c5 (x : LineD) (o : OrderD) : Bool := x.Offices.any fun k => !o.Against.contains k
def fits (t : TimeD) (f : TariffD) (o : OrderD) (r : RunD) : Bool := c0 (lineR t r) o && c1 (lineR t r) o && c2 o r && c3 f (lineR t r) o && c4 (lineR t r) o && c5 (lineR t r) o
def err (t : TimeD) (f : TariffD) (l : List OrderD) : Int :=
  if Tt.chk t ≠ 0 then Tt.chk t else if Tf.chk f ≠ 0 then Tf.chk f else if 64 < l.length then 220 else if l.all (fun o => oright o t.Offices 1024 f.Base.length) then 0 else 220
structure Ok (T : TimeD) (F : TariffD) (l : List OrderD) : Prop where
  t : Tt.chk T = 0
  f : Tf.chk F = 0
  n : l.length ≤ 64
  o : ∀ o ∈ l, oright o T.Offices 1024 F.Base.length = true
theorem err_ok {t : TimeD} {f : TariffD} {l : List OrderD} (h : err t f l = 0) : Ok t f l := by
  unfold err at h
  by_cases h1 : Tt.chk t = 0
  · rw [if_neg (by simp [h1])] at h
    by_cases h2 : Tf.chk f = 0
    · rw [if_neg (by simp [h2])] at h
      by_cases h3 : 64 < l.length
      · rw [if_pos h3] at h; cases h
      · rw [if_neg h3] at h
        by_cases h4 : l.all (fun o => oright o t.Offices 1024 f.Base.length) = true
        · exact ⟨h1, h2, by omega, fun o ho => List.all_eq_true.1 h4 o ho⟩
        · rw [if_neg h4] at h; cases h
    · rw [if_pos (by simpa using h2)] at h; exact (h2 h).elim
  · rw [if_pos (by simpa using h1)] at h; exact (h1 h).elim
/-- the load of a run: of the first orders, that go with the runs 'of' -/
structure LoadD where
  n : Int
  c : Int
  deriving DecidableEq
def LoadD.zero : LoadD := ⟨0, 0⟩
def LoadD.wth (x : LoadD) (o : OrderD) : LoadD := ⟨x.n + 1, max x.c (o.Crowd + 1)⟩
def LoadD.covers (x : LoadD) : Int := max 0 (x.c - x.n)
def loadF (r : RunD) : List OrderD → List RunD → LoadD → LoadD
  | o :: l, s :: of, a => loadF r l of (if s = r then a.wth o else a)
  | _, _, a => a
def load (l : List OrderD) (of : List RunD) (r : RunD) : LoadD := loadF r l of .zero
theorem loadF_append (r : RunD) (s : RunD) (o : OrderD) : ∀ (l : List OrderD) (of : List RunD) (a : LoadD), l.length = of.length → ∀ l', loadF r (l ++ o :: l') (of ++ [s]) a = if s = r then (loadF r l of a).wth o else loadF r l of a
  | [], [], a, _, l' => by cases l' <;> simp [loadF]
  | [], _ :: _, a, h, _ => by simp at h
  | _ :: _, [], a, h, _ => by simp at h
  | x :: l, y :: of, a, h, l' => by
    simp only [List.cons_append, loadF]
    exact loadF_append r s o l of _ (by simpa using h) l'
theorem loadF_more (r : RunD) : ∀ (l : List OrderD) (of : List RunD) (a : LoadD) (l' : List OrderD), of.length ≤ l.length → loadF r (l ++ l') of a = loadF r l of a
  | [], [], a, l', _ => by cases l' <;> rfl
  | [], _ :: _, a, _, h => by simp at h
  | x :: l, [], a, l', _ => rfl
  | x :: l, y :: of, a, l', h => by
    simp only [List.cons_append, loadF]
    exact loadF_more r l of _ l' (by simpa using h)
/-- one order more -/
theorem load_snoc {l : List OrderD} {of : List RunD} (h : of.length < l.length) (s r : RunD) : load l (of ++ [s]) r = if s = r then (load l of r).wth l[of.length] else load l of r := by
  have e : l = l.take of.length ++ l[of.length] :: l.drop (of.length + 1) := by
    rw [List.getElem_cons_drop, List.take_append_drop]
  have hl : (l.take of.length).length = of.length := by simp; omega
  have h1 := loadF_append r s l[of.length] (l.take of.length) of .zero hl (l.drop (of.length + 1))
  rw [← e] at h1
  have h2 := loadF_more r (l.take of.length) of .zero (l[of.length] :: l.drop (of.length + 1)) (by omega)
  rw [← e] at h2
  unfold load
  rw [h1, h2]
/-- how many, and how great -/
theorem loadF_bd (r : RunD) : ∀ (l : List OrderD) (of : List RunD) (a : LoadD), (∀ o ∈ l, 1 ≤ o.Crowd ∧ o.Crowd ≤ 64) → 0 ≤ a.n → 0 ≤ a.c ∧ a.c ≤ 65 → a.n ≤ (loadF r l of a).n ∧ (loadF r l of a).n ≤ a.n + l.length ∧ 0 ≤ (loadF r l of a).c ∧ (loadF r l of a).c ≤ 65
  | [], of, a, _, h0, h1 => by cases of <;> simp [loadF] <;> omega
  | o :: l, [], a, _, h0, h1 => by simp [loadF]; omega
  | o :: l, s :: of, a, hc, h0, h1 => by
    have hh := hc o (List.mem_cons_self ..)
    simp only [loadF, List.length_cons]
    have := loadF_bd r l of (if s = r then a.wth o else a) (fun x hx => hc x (List.mem_cons_of_mem _ hx)) (by split <;> (try simp only [LoadD.wth]) <;> omega) (by split <;> (try simp only [LoadD.wth]) <;> omega)
    have e : a.n ≤ (if s = r then a.wth o else a).n ∧ (if s = r then a.wth o else a).n ≤ a.n + 1 := by split <;> (try simp only [LoadD.wth]) <;> omega
    omega
theorem load_bd {l : List OrderD} (h : ∀ o ∈ l, 1 ≤ o.Crowd ∧ o.Crowd ≤ 64) (of : List RunD) (r : RunD) : 0 ≤ (load l of r).n ∧ (load l of r).n ≤ l.length ∧ 0 ≤ (load l of r).c ∧ (load l of r).c ≤ 65 := by
  have := loadF_bd r l of .zero h (by simp [LoadD.zero]) (by simp [LoadD.zero])
  simp only [LoadD.zero, Int.zero_add] at this
  exact this
/-- the runs of a plan -/
def runP (t : TimeD) (p : PlanD) (k : Nat) : Bool := Tt.isRun t (p.Runs.getD k default) && (decide (k = 0) || Tt.before (p.Runs.getD (k - 1) default) (p.Runs.getD k default))
def runsOk (t : TimeD) (p : PlanD) : Bool := (List.range p.Runs.length).all (runP t p)
def ofP (t : TimeD) (f : TariffD) (l : List OrderD) (p : PlanD) (k : Nat) : Bool :=
  decide (0 ≤ p.Of.getD k 0 ∧ p.Of.getD k 0 < p.Runs.length) && fits t f (l.getD k default) (p.Runs.getD (p.Of.getD k 0).toNat default)
def ofsOk (t : TimeD) (f : TariffD) (l : List OrderD) (p : PlanD) : Bool := (List.range l.length).all (ofP t f l p)
/-- with which runs orders go -/
def ofs (p : PlanD) : List RunD := p.Of.map fun k => p.Runs.getD k.toNat default
def covP (t : TimeD) (l : List OrderD) (p : PlanD) (k : Nat) : Bool :=
  let x := load l (ofs p) (p.Runs.getD k default)
  decide (x.n ≠ 0 ∧ p.Covers.getD k 0 = x.covers ∧ max x.n x.c ≤ (lineR t (p.Runs.getD k default)).Room)
def covsOk (t : TimeD) (l : List OrderD) (p : PlanD) : Bool := (List.range p.Runs.length).all (covP t l p)
def sum : List Int → Int
  | [] => 0
  | x :: r => x + sum r
def good (t : TimeD) (f : TariffD) (l : List OrderD) (covers : Int) (p : PlanD) : Bool :=
  decide (p.Of.length = l.length ∧ p.Covers.length = p.Runs.length) && runsOk t p && ofsOk t f l p && covsOk t l p && decide (sum p.Covers ≤ covers)
/-- is a plan right? -/
def check (t : TimeD) (f : TariffD) (l : List OrderD) (covers : Int) (p : PlanD) : Bool × Int := if err t f l ≠ 0 then (false, err t f l) else (good t f l covers p, 0)
theorem sum_take : ∀ (l : List Int) (i : Nat) (h : i < l.length), sum (l.take (i + 1)) = sum (l.take i) + l[i]
  | y :: r, 0, _ => by simp [sum]
  | y :: r, i + 1, h => by
    simp only [List.take_succ_cons, sum, List.getElem_cons_succ]
    rw [sum_take r i (by simpa using h)]; omega
end Pl
end Go.Fk
/- Chapter 38: books, in plain Lean. No program in sight. -/
namespace Go.Fk
open Go
namespace Bk
def mOk (m : MoveD) (i : Int) : Bool := decide (m.No = i ∧ 0 ≤ m.From ∧ m.From ≤ 114 ∧ 0 ≤ m.To ∧ m.To ≤ 114 ∧ m.From ≠ m.To ∧ 0 ≤ m.Amount ∧ m.Amount ≤ 1099511627776 ∧ 1 ≤ m.Why ∧ m.Why ≤ 9 ∧ -1 ≤ m.Run ∧ m.Run ≤ 1999)
def allOk : Int → List MoveD → Bool
  | _, [] => true
  | i, m :: r => mOk m i && allOk (i + 1) r
def chk (l : List MoveD) : Int := if 4096 < l.length then 2 else if allOk 0 l then 0 else 380
theorem allOk_get : ∀ {l : List MoveD} {i : Int} {k : Nat} (h : k < l.length), allOk i l = true → mOk l[k] (i + k) = true
  | m :: r, i, 0, h, ha => by simp only [allOk, Bool.and_eq_true] at ha; simpa using ha.1
  | m :: r, i, k + 1, h, ha => by
    simp only [allOk, Bool.and_eq_true] at ha
    have := allOk_get (l := r) (i := i + 1) (k := k) (by simpa using h) ha.2
    simp only [List.getElem_cons_succ]
    rw [show i + ((k + 1 : Nat) : Int) = i + 1 + k by omega]; exact this
def lo (b : List Int) (k : Int) : Int := b.getD k.toNat 0
def step (b : List Int) (m : MoveD) : List Int :=
  let b1 := b.set m.From.toNat (lo b m.From - m.Amount)
  b1.set m.To.toNat (lo b1 m.To + m.Amount)
def after (b : List Int) (l : List MoveD) : List Int := l.foldl step b
theorem step_len (b : List Int) (m : MoveD) : (step b m).length = b.length := by simp [step]
def startOk (s : List Int) : Bool := decide (s.length = 115) && s.all fun n => decide (0 ≤ n ∧ n ≤ 1125899906842624)
def paid (b : List Int) (m : MoveD) : Bool := decide (m.From = 0) || decide (0 ≤ lo b m.From)
/-- the first move that is not paid -/
def bad (b : List Int) : Nat → List MoveD → Option Nat
  | _, [] => none
  | i, m :: r => if paid (step b m) m then bad (step b m) (i + 1) r else some i
def wrong (s : List Int) (l : List MoveD) : Int := if chk l ≠ 0 then chk l else if startOk s then 0 else 1
def balances (s : List Int) (l : List MoveD) : List Int × Int :=
  if wrong s l ≠ 0 then ([], wrong s l) else match bad s 0 l with
    | some _ => ([], 381)
    | none => (after s l, 0)
def first (s : List Int) (l : List MoveD) : Int × Bool × Int :=
  if wrong s l ≠ 0 then (0, false, wrong s l) else match bad s 0 l with
    | some i => ((i : Int), true, 0)
    | none => (0, false, 0)
theorem lo_set {b : List Int} {i : Nat} {x : Int} {k : Int} (hk : 0 ≤ k) (hi : i < b.length) : lo (b.set i x) k = if k = i then x else lo b k := by
  unfold lo
  simp only [List.getD_eq_getElem?_getD, List.getElem?_set]
  by_cases h : i = k.toNat
  · subst h; simp [hi]; intro h; omega
  · rw [if_neg h, if_neg (by omega)]
/-- what a move does to an account -/
theorem lo_step {b : List Int} {m : MoveD} (hb : b.length = 115) {i : Int} (h : mOk m i = true) {k : Int} (hk : 0 ≤ k) : lo (step b m) k = lo b k - (if m.From = k then m.Amount else 0) + (if m.To = k then m.Amount else 0) := by
  simp only [mOk, decide_eq_true_eq] at h
  unfold step
  have e1 : (m.From.toNat : Int) = m.From := Int.toNat_of_nonneg (by omega)
  have e2 : (m.To.toNat : Int) = m.To := Int.toNat_of_nonneg (by omega)
  rw [lo_set hk (by simp; omega), lo_set hk (by omega), lo_set (by omega) (by omega), e1, e2]
  by_cases a : k = m.To
  · subst a
    rw [if_pos rfl, if_neg (show ¬ m.To = m.From by omega), if_neg (show ¬ m.From = m.To by omega), if_pos rfl]; omega
  · by_cases c : k = m.From
    · subst c; rw [if_neg a, if_pos rfl, if_pos rfl, if_neg (by omega)]; omega
    · rw [if_neg a, if_neg c, if_neg (by omega), if_neg (by omega)]; omega
/-- no account but the bank has less than nothing -/
def Pos (b : List Int) : Prop := ∀ k : Int, 0 < k → k < 115 → 0 ≤ lo b k
theorem pos_step {b : List Int} {m : MoveD} (hb : b.length = 115) {i : Int} (h : mOk m i = true) (hp : Pos b) : Pos (step b m) ↔ paid (step b m) m = true := by
  have h' := h
  simp only [mOk, decide_eq_true_eq] at h'
  unfold paid Pos
  simp only [Bool.or_eq_true, decide_eq_true_eq]
  constructor
  · intro hq
    by_cases h0 : m.From = 0
    · exact .inl h0
    · exact .inr (hq m.From (by omega) (by omega))
  · intro hq k k0 k1
    rw [lo_step hb h (by omega)]
    have := hp k k0 k1
    by_cases e : m.From = k
    · subst e
      rcases hq with hq | hq
      · omega
      · rwa [lo_step hb h (by omega)] at hq
    · rw [if_neg e]; split <;> omega
/-- no number grows too great -/
def Lim (b : List Int) (n : Nat) : Prop := ∀ k : Int, 0 ≤ k → -(1099511627776 * n : Int) ≤ lo b k ∧ lo b k ≤ 1125899906842624 + 1099511627776 * n
theorem lim_start {s : List Int} (h : startOk s = true) : Lim s 0 := by
  simp only [startOk, Bool.and_eq_true, decide_eq_true_eq, List.all_eq_true] at h
  intro k _
  unfold lo
  rw [List.getD_eq_getElem?_getD]
  cases hq : s[k.toNat]? with
  | none => simp
  | some x =>
    have := h.2 x (List.mem_of_getElem? hq)
    simp; omega
theorem pos_start {s : List Int} (h : startOk s = true) : Pos s := fun k k0 k1 => by
  have := lim_start h k (by omega)
  simp only [startOk, Bool.and_eq_true, decide_eq_true_eq, List.all_eq_true] at h
  unfold lo
  rw [List.getD_eq_getElem?_getD]
  cases hq : s[k.toNat]? with
  | none => simp
  | some x => have := h.2 x (List.mem_of_getElem? hq); simp; omega
/-- the first move after which an account has less than nothing -/
theorem bad_none : ∀ (l : List MoveD) (b : List Int) (i : Nat) (j : Int), b.length = 115 → Pos b → allOk j l = true → (bad b i l = none ↔ ∀ k, k ≤ l.length → Pos (after b (l.take k)))
  | [], b, i, j, _, hp, _ => by simp [bad, after]; exact hp
  | m :: r, b, i, j, hb, hp, ha => by
    simp only [allOk, Bool.and_eq_true] at ha
    have hs := pos_step hb ha.1 hp
    unfold bad
    by_cases hq : paid (step b m) m = true
    · rw [if_pos hq, bad_none r (step b m) (i + 1) (j + 1) (by rw [step_len]; exact hb) (hs.2 hq) ha.2]
      constructor
      · intro h k hk
        cases k with
        | zero => simpa [after] using hp
        | succ k => exact h k (by simpa using hk)
      · intro h k hk
        exact h (k + 1) (by simpa using hk)
    · rw [if_neg hq]
      constructor
      · intro h; cases h
      · intro h
        exact (hq (hs.1 (by simpa [after] using h 1 (by simp)))).elim
end Bk
end Go.Fk
/- P39, P39b, P39c, P39d, P39e, joined. -/
/- Chapter 39: the escrow, in plain Lean. No program in sight. -/
set_option linter.unusedVariables false
set_option linter.unusedSimpArgs false
namespace Go.Fk
open Go
namespace Ec
/-- the error of what both functions are asked for -/
def err (t : TimeD) (f : TariffD) (l : List OrderD) (p : PlanD) : Int :=
  if (Pl.check t f l 1099511627776 p).2 ≠ 0 then (Pl.check t f l 1099511627776 p).2 else if (Pl.check t f l 1099511627776 p).1 then 0 else 220
def lineP (t : TimeD) (p : PlanD) (run : Int) : LineD := Pl.lineR t (p.Runs.getD run.toNat default)
def priceP (t : TimeD) (f : TariffD) (l : List OrderD) (p : PlanD) (i : Nat) : Int :=
  (Tf.pri f (l.getD i default).Class (lineP t p (p.Of.getD i 0)).Legs.length (l.getD i default).Crowd).1
def postM (t : TimeD) (f : TariffD) (l : List OrderD) (p : PlanD) (i : Nat) : MoveD := ⟨i, 51 + i, 2, priceP t f l p i, 1, p.Of.getD i 0⟩
def posts (t : TimeD) (f : TariffD) (l : List OrderD) (p : PlanD) (n : Nat) : List MoveD := (List.range n).map (postM t f l p)
theorem posts_len (t : TimeD) (f : TariffD) (l : List OrderD) (p : PlanD) (n : Nat) : (posts t f l p n).length = n := by simp [posts]
theorem posts_succ (t : TimeD) (f : TariffD) (l : List OrderD) (p : PlanD) (n : Nat) : posts t f l p (n + 1) = posts t f l p n ++ [postM t f l p n] := by simp [posts, List.range_succ]
def post (t : TimeD) (f : TariffD) (l : List OrderD) (p : PlanD) : List MoveD × Int := if err t f l p ≠ 0 then ([], err t f l p) else (posts t f l p l.length, 0)
/-- the moves for one order of a run -/
def legM (x : LineD) (a run : Int) (no k : Nat) : MoveD := ⟨(no + k : Nat), 2, 3 + x.Offices.getD k 0, a, 2, run⟩
def legMs (x : LineD) (a run : Int) (no n : Nat) : List MoveD := (List.range n).map (legM x a run no)
theorem legMs_succ (x : LineD) (a run : Int) (no n : Nat) : legMs x a run no (n + 1) = legMs x a run no n ++ [legM x a run no n] := by simp [legMs, List.range_succ]
theorem legMs_len (x : LineD) (a run : Int) (no n : Nat) : (legMs x a run no n).length = n := by simp [legMs]
def lastM (x : LineD) (run left : Int) (h : Nat) (i no : Nat) : MoveD := if h = x.Legs.length then ⟨no, 2, 1, left, 3, run⟩ else ⟨no, 2, 51 + i, left, 4, run⟩
def payO (t : TimeD) (f : TariffD) (l : List OrderD) (p : PlanD) (run : Int) (h : Nat) (i no : Nat) : List MoveD :=
  legMs (lineP t p run) (Tf.leg f (l.getD i default).Class) run no h ++ [lastM (lineP t p run) run (priceP t f l p i - h * Tf.leg f (l.getD i default).Class) h i (no + h)]
def pays (t : TimeD) (f : TariffD) (l : List OrderD) (p : PlanD) (run : Int) (h : Nat) : Nat → List MoveD
  | 0 => []
  | k + 1 => pays t f l p run h k ++ if p.Of.getD k 0 = run then payO t f l p run h k (pays t f l p run h k).length else []
def pay (t : TimeD) (f : TariffD) (l : List OrderD) (p : PlanD) (run handed : Int) : List MoveD × Int :=
  if err t f l p ≠ 0 then ([], err t f l p) else if run < 0 ∨ p.Runs.length ≤ run ∨ handed < 0 ∨ (lineP t p run).Legs.length < handed then ([], 1) else (pays t f l p run handed.toNat l.length, 0)
theorem payO_len (t : TimeD) (f : TariffD) (l : List OrderD) (p : PlanD) (run : Int) (h i no : Nat) : (payO t f l p run h i no).length = h + 1 := by simp [payO, legMs_len]
theorem pays_len (t : TimeD) (f : TariffD) (l : List OrderD) (p : PlanD) (run : Int) (h : Nat) : ∀ k, (pays t f l p run h k).length ≤ k * (h + 1)
  | 0 => by simp [pays]
  | k + 1 => by
    have := pays_len t f l p run h k
    simp only [pays, List.length_append]
    rw [Nat.add_mul]
    split
    · rw [payO_len]; omega
    · simp; omega
/-- what a right plan is -/
structure Ok (t : TimeD) (f : TariffD) (l : List OrderD) (p : PlanD) : Prop where
  o : Pl.Ok t f l
  ol : p.Of.length = l.length
  cl : p.Covers.length = p.Runs.length
  r : ∀ k, k < p.Runs.length → Pl.runP t p k = true
  f : ∀ k, k < l.length → Pl.ofP t f l p k = true
  c : ∀ k, k < p.Runs.length → Pl.covP t l p k = true
theorem err_ok {t : TimeD} {f : TariffD} {l : List OrderD} {p : PlanD} (h : err t f l p = 0) : Ok t f l p := by
  unfold err at h
  by_cases h1 : (Pl.check t f l 1099511627776 p).2 = 0
  · rw [if_neg (by simp [h1])] at h
    by_cases h2 : (Pl.check t f l 1099511627776 p).1 = true
    · unfold Pl.check at h1 h2
      by_cases h3 : Pl.err t f l = 0
      · rw [if_neg (by simp [h3])] at h2
        simp only [Pl.good, Bool.and_eq_true, decide_eq_true_eq] at h2
        obtain ⟨⟨⟨⟨⟨a1, a2⟩, a3⟩, a4⟩, a5⟩, a6⟩ := h2
        have R : ∀ {n : Nat} {q : Nat → Bool}, (List.range n).all q = true → ∀ k, k < n → q k = true := fun h k hk => List.all_eq_true.1 h k (by simpa using hk)
        exact ⟨Pl.err_ok h3, a1, a2, R a3, R a4, R a5⟩
      · rw [if_pos (by simpa using h3)] at h2; cases h2
    · rw [if_neg h2] at h; cases h
  · rw [if_pos (by simpa using h1)] at h; exact (h1 h).elim
end Ec
end Go.Fk
/- Chapter 39: what escrow moves lead to, in plain Lean. No program in sight. -/
set_option linter.unusedVariables false
set_option linter.unusedSimpArgs false
namespace Go.Fk
open Go
namespace Ec
open Bk (lo)
def ind (a b : Int) : Int := if a = b then 1 else 0
/-- what a move gives an account -/
def gain (m : MoveD) (j : Int) : Int := (if m.To = j then m.Amount else 0) - (if m.From = j then m.Amount else 0)
def eff : List MoveD → Int → Int
  | [], _ => 0
  | m :: r, j => gain m j + eff r j
theorem eff_append (a b : List MoveD) (j : Int) : eff (a ++ b) j = eff a j + eff b j := by
  induction a with
  | nil => simp [eff]
  | cons m a ih => simp only [List.cons_append, eff, ih]; omega
/-- a move that the accounts take -/
def MvOk (m : MoveD) : Prop := (0 ≤ m.From ∧ m.From ≤ 114) ∧ (0 ≤ m.To ∧ m.To ≤ 114) ∧ 0 ≤ m.Amount ∧ m.Amount ≤ 1099511627776
theorem lo_gain {b : List Int} {m : MoveD} (hb : b.length = 115) (h : MvOk m) {k : Int} (hk : 0 ≤ k) : lo (Bk.step b m) k = lo b k + gain m k := by
  obtain ⟨h1, h2, h3⟩ := h
  unfold Bk.step gain
  have e1 : (m.From.toNat : Int) = m.From := Int.toNat_of_nonneg (by omega)
  have e2 : (m.To.toNat : Int) = m.To := Int.toNat_of_nonneg (by omega)
  rw [Bk.lo_set hk (by simp; omega), Bk.lo_set hk (by omega), Bk.lo_set (by omega) (by omega), e1, e2]
  by_cases a : k = m.To
  · subst a
    by_cases c : m.To = m.From
    · simp [c]; try omega
    · simp [c, fun h : m.From = m.To => c h.symm]; try omega
  · by_cases c : k = m.From
    · subst c; simp [a, fun h : m.To = m.From => a h.symm]; try omega
    · simp [a, c, fun h : m.To = k => a h.symm, fun h : m.From = k => c h.symm]; try omega
theorem after_eff : ∀ {l : List MoveD} {b : List Int}, b.length = 115 → (∀ m ∈ l, MvOk m) → ∀ {k : Int}, 0 ≤ k → lo (Bk.after b l) k = lo b k + eff l k
  | [], b, _, _, k, _ => by simp [Bk.after, eff]
  | m :: l, b, hb, h, k, hk => by
    show lo (Bk.after (Bk.step b m) l) k = _
    rw [after_eff (by rw [Bk.step_len, hb]) (fun x hx => h x (List.mem_cons_of_mem _ hx)) hk, lo_gain hb (h m (List.mem_cons_self ..)) hk]
    simp only [eff]; omega
/-- moves are numbered on -/
def numd (l : List MoveD) : Prop := ∀ (k : Nat) (m : MoveD), l[k]? = some m → m.No = k
/-- legs of an order: what an account gets -/
def legG (x : LineD) (a : Int) (j : Int) : Nat → Int
  | 0 => 0
  | n + 1 => legG x a j n + if 3 + x.Offices.getD n 0 = j then a else 0
theorem eff_legMs (x : LineD) (a run : Int) (no : Nat) (j : Int) : ∀ n, eff (legMs x a run no n) j = legG x a j n - if j = 2 then n * a else 0
  | 0 => by simp [legMs, eff, legG]
  | n + 1 => by
    rw [legMs_succ, eff_append, eff_legMs x a run no j n]
    simp only [eff, gain, legM, legG]
    rw [show ((n + 1 : Nat) : Int) * a = n * a + a by rw [Int.natCast_add, Int.add_mul]; simp]
    generalize (n : Int) * a = q
    by_cases h : j = 2
    · subst h; simp only [if_true]; split <;> omega
    · have h' : ¬ (2 : Int) = j := fun e => h e.symm
      simp only [h, h', if_false]; split <;> omega
/-- what an order of a run that is handed on should bring to an account -/
def wantO (t : TimeD) (f : TariffD) (l : List OrderD) (p : PlanD) (run : Int) (h i : Nat) (j : Int) : Int :=
  legG (lineP t p run) (Tf.leg f (l.getD i default).Class) j h - (if j = 51 + i then h * Tf.leg f (l.getD i default).Class else 0) +
    (if h = (lineP t p run).Legs.length then (priceP t f l p i - h * Tf.leg f (l.getD i default).Class) * (ind j 1 - ind j (51 + i)) else 0)
theorem eff_payO (t : TimeD) (f : TariffD) (l : List OrderD) (p : PlanD) (run : Int) (h i no : Nat) (j : Int) :
    eff (payO t f l p run h i no) j = wantO t f l p run h i j + priceP t f l p i * (ind j (51 + i) - ind j 2) := by
  unfold payO wantO
  rw [eff_append, eff_legMs]
  generalize priceP t f l p i = P
  generalize Tf.leg f (l.getD i default).Class = a
  generalize legG (lineP t p run) a j h = G
  generalize hq : (h : Int) * a = q
  unfold lastM
  have n1 : ¬ (51 + (i : Int) = 2) := by omega
  have n2 : ¬ (51 + (i : Int) = 1) := by omega
  have n3 : ¬ ((2 : Int) = 51 + i) := by omega
  have n4 : ¬ ((1 : Int) = 51 + i) := by omega
  by_cases hh : h = (lineP t p run).Legs.length
  · rw [if_pos hh, if_pos hh]
    simp only [eff, gain, ind]
    by_cases j1 : j = 1
    · subst j1; simp [n4]; try omega
    · have j1' : ¬ (1 : Int) = j := fun e => j1 e.symm
      by_cases j2 : j = 2
      · subst j2; simp [n3]; try omega
      · have j2' : ¬ (2 : Int) = j := fun e => j2 e.symm
        by_cases j3 : j = 51 + (i : Int)
        · subst j3; simp [n1, n2, n3, n4]; try omega
        · simp [j1, j2, j3, j1', j2']
  · rw [if_neg hh, if_neg hh]
    simp only [eff, gain, ind]
    by_cases j2 : j = 2
    · subst j2; simp [n1, n3]; try omega
    · have j2' : ¬ (2 : Int) = j := fun e => j2 e.symm
      by_cases j3 : j = 51 + (i : Int)
      · subst j3; simp [n1, n3]; try omega
      · have j3' : ¬ 51 + (i : Int) = j := fun e => j3 e.symm
        simp [j2, j3, j2', j3']
/-- sums over the orders of a run -/
def wantR (t : TimeD) (f : TariffD) (l : List OrderD) (p : PlanD) (run : Int) (h : Nat) (j : Int) : Nat → Int
  | 0 => 0
  | k + 1 => wantR t f l p run h j k + if p.Of.getD k 0 = run then wantO t f l p run h k j else 0
def shiftR (t : TimeD) (f : TariffD) (l : List OrderD) (p : PlanD) (run : Int) (j : Int) : Nat → Int
  | 0 => 0
  | k + 1 => shiftR t f l p run j k + if p.Of.getD k 0 = run then priceP t f l p k * (ind j (51 + k) - ind j 2) else 0
theorem eff_pays (t : TimeD) (f : TariffD) (l : List OrderD) (p : PlanD) (run : Int) (h : Nat) (j : Int) : ∀ k, eff (pays t f l p run h k) j = wantR t f l p run h j k + shiftR t f l p run j k
  | 0 => by simp [pays, eff, wantR, shiftR]
  | k + 1 => by
    simp only [pays, wantR, shiftR, eff_append, eff_pays t f l p run h j k]
    split
    · rw [eff_payO]; omega
    · simp only [eff]; omega
/-- what is still in the escrow: the prices of the orders of runs that are not settled -/
def remF (t : TimeD) (f : TariffD) (l : List OrderD) (p : PlanD) (done : Int → Bool) (j : Int) : Nat → Int
  | 0 => 0
  | k + 1 => remF t f l p done j k + if done (p.Of.getD k 0) then 0 else priceP t f l p k * (ind j 2 - ind j (51 + k))
theorem eff_posts (t : TimeD) (f : TariffD) (l : List OrderD) (p : PlanD) (j : Int) : ∀ k, eff (posts t f l p k) j = remF t f l p (fun _ => false) j k
  | 0 => by simp [posts, eff, remF]
  | k + 1 => by
    rw [posts_succ, eff_append, eff_posts t f l p j k]
    simp only [remF, eff, gain, postM, ind, Bool.false_eq_true, if_false]
    generalize priceP t f l p k = P
    have n1 : ¬ (51 + (k : Int) = 2) := by omega
    have n3 : ¬ ((2 : Int) = 51 + k) := by omega
    by_cases j2 : j = 2
    · subst j2; simp [n1, n3]
    · have j2' : ¬ (2 : Int) = j := fun e => j2 e.symm
      by_cases j3 : j = 51 + (k : Int)
      · subst j3; simp [n1, n3]
      · have j3' : ¬ 51 + (k : Int) = j := fun e => j3 e.symm
        simp [j2, j3, j2', j3']
theorem rem_done (t : TimeD) (f : TariffD) (l : List OrderD) (p : PlanD) (run : Int) (done : Int → Bool) (hd : done run = false) (j : Int) : ∀ k, remF t f l p (fun r => done r || decide (r = run)) j k = remF t f l p done j k + shiftR t f l p run j k
  | 0 => by simp [remF, shiftR]
  | k + 1 => by
    simp only [remF, shiftR, rem_done t f l p run done hd j k]
    by_cases e : p.Of.getD k 0 = run
    · simp only [e, hd, decide_true, Bool.or_true, Bool.false_eq_true, if_true, if_false, ite_true]
      have : priceP t f l p k * (ind j 2 - ind j (51 + k)) + priceP t f l p k * (ind j (51 + k) - ind j 2) = 0 := by
        rw [← Int.mul_add, show ind j 2 - ind j (51 + (k : Int)) + (ind j (51 + (k : Int)) - ind j 2) = 0 by omega, Int.mul_zero]
      omega
    · simp only [e, decide_false, Bool.or_false, if_false]; omega
theorem rem_all (t : TimeD) (f : TariffD) (l : List OrderD) (p : PlanD) (done : Int → Bool) (j : Int) : ∀ k, (∀ i, i < k → done (p.Of.getD i 0) = true) → remF t f l p done j k = 0
  | 0, _ => rfl
  | k + 1, h => by
    simp only [remF, rem_all t f l p done j k fun i hi => h i (by omega), h k (by omega), if_true]; omega
theorem price_bd (t : TimeD) (f : TariffD) (l : List OrderD) (p : PlanD) (i : Nat) : 0 ≤ priceP t f l p i ∧ priceP t f l p i ≤ 10485760 := Tf.pri_bd
/-- the facts of an order of a right plan -/
theorem price_eq {t : TimeD} {f : TariffD} {l : List OrderD} {p : PlanD} (h : Ok t f l p) {i : Nat} (hi : i < l.length) :
    0 ≤ p.Of.getD i 0 ∧ p.Of.getD i 0 < p.Runs.length ∧ Tt.LOk (lineP t p (p.Of.getD i 0)) t.Offices ∧
    priceP t f l p i = Tf.base f (l.getD i default).Class + (lineP t p (p.Of.getD i 0)).Legs.length * Tf.leg f (l.getD i default).Class + Tf.extra f (l.getD i default).Crowd ∧
    (0 ≤ (l.getD i default).Class ∧ (l.getD i default).Class < f.Base.length) ∧ (1 ≤ (l.getD i default).Crowd ∧ (l.getD i default).Crowd ≤ 64) := by
  have hf := h.f i hi
  simp only [Pl.ofP, Bool.and_eq_true, decide_eq_true_eq] at hf
  obtain ⟨⟨h0, h1⟩, hfit⟩ := hf
  have hk : (p.Of.getD i 0).toNat < p.Runs.length := by omega
  have hr := h.r _ hk
  simp only [Pl.runP, Bool.and_eq_true] at hr
  have hir := hr.1
  simp only [Tt.isRun, Tt.isR, Bool.and_eq_true, decide_eq_true_eq] at hir
  have hln : (p.Runs.getD (p.Of.getD i 0).toNat default).Line.toNat < t.Lines.length := by omega
  have hlo : Tt.LOk (lineP t p (p.Of.getD i 0)) t.Offices := by
    unfold lineP Pl.lineR
    rw [List.getD_eq_getElem?_getD (l := t.Lines), List.getElem?_eq_getElem hln]
    exact Tt.right_ok ((Tt.chk_ok h.o.t).r _ (List.getElem_mem hln))
  have hor := h.o.o (l.getD i default) (by rw [List.getD_eq_getElem?_getD, List.getElem?_eq_getElem hi]; exact List.getElem_mem hi)
  simp only [Pl.oright, Pl.oNum, Bool.and_eq_true, decide_eq_true_eq] at hor
  obtain ⟨⟨o1, o2, o3, o4, o5, o6, o7, o8, o9, o10⟩, _⟩ := hor
  have a1 := hlo.o2
  have a2 := hlo.o9
  have a3 := hlo.l1
  refine ⟨h0, h1, hlo, ?_, o4, o7⟩
  unfold priceP Tf.pri
  have hw : Tf.wrong f (l.getD i default).Class (lineP t p (p.Of.getD i 0)).Legs.length (l.getD i default).Crowd = 0 := by
    unfold Tf.wrong
    rw [if_neg (by simp [h.o.f]), if_neg (by omega)]
  rw [if_neg (by rw [hw]; simp)]
/-- the moves of a run -/
theorem pays_mv {t : TimeD} {f : TariffD} {l : List OrderD} {p : PlanD} (h : Ok t f l p) {run : Int} {n : Nat} (hn : n ≤ (lineP t p run).Legs.length) : ∀ k, k ≤ l.length → ∀ m ∈ pays t f l p run n k, MvOk m ∧ m.From = 2 ∧ m.To ≠ 2 ∧ m.Run = run ∧ (m.Why = 2 ∨ m.Why = 3 ∧ m.To = 1 ∧ n = (lineP t p run).Legs.length ∨ m.Why = 4 ∧ n ≠ (lineP t p run).Legs.length ∧ ∃ i : Nat, i < k ∧ p.Of.getD i 0 = run ∧ m.To = 51 + i)
  | 0, _, m, hm => by simp [pays] at hm
  | k + 1, hk, m, hm => by
    simp only [pays, List.mem_append] at hm
    rcases hm with hm | hm
    · obtain ⟨a, b, c, d, e⟩ := pays_mv h hn k (by omega) m hm
      refine ⟨a, b, c, d, ?_⟩
      rcases e with e | e | ⟨e1, e2, i, hi, e3⟩
      · exact .inl e
      · exact .inr (.inl e)
      · exact .inr (.inr ⟨e1, e2, i, by omega, e3⟩)
    · split at hm
      · rename_i hof
        obtain ⟨q0, q1, hlo, hpe, hcl, hcr⟩ := price_eq h (show k < l.length by omega)
        rw [hof] at hlo hpe
        have hleg := Tf.leg_bd h.o.f (l.getD k default).Class
        have hba := Tf.base_bd h.o.f (l.getD k default).Class
        have hex := Tf.extra_bd h.o.f (l.getD k default).Crowd
        have hpb := price_bd t f l p k
        have hoff := (Tt.chk_ok h.o.t).o
        have hn64 := h.o.n
        have o1 := hlo.l1
        have o9 := hlo.o9
        unfold payO at hm
        rcases List.mem_append.1 hm with hm | hm
        · unfold legMs at hm
          obtain ⟨q, hq, rfl⟩ := List.mem_map.1 hm
          have hq : q < n := by simpa using hq
          have hql : q < (lineP t p run).Offices.length := by omega
          have ho := hlo.s ((lineP t p run).Offices.getD q 0) (by rw [List.getD_eq_getElem?_getD, List.getElem?_eq_getElem hql]; exact List.getElem_mem hql)
          refine ⟨⟨by simp [legM], by simp only [legM]; omega, by simp only [legM]; omega⟩, rfl, by simp only [legM]; omega, rfl, .inl rfl⟩
        · have hm := List.mem_singleton.1 hm
          have hmul : (n : Int) * Tf.leg f (l.getD k default).Class ≤ (lineP t p run).Legs.length * Tf.leg f (l.getD k default).Class := Int.mul_le_mul_of_nonneg_right (by omega) (by omega)
          have hmul0 : 0 ≤ (n : Int) * Tf.leg f (l.getD k default).Class := Int.mul_nonneg (by omega) (by omega)
          unfold lastM at hm
          split at hm
          · rename_i he
            subst hm
            exact ⟨⟨by simp, by simp, by simp only; omega⟩, rfl, by simp, rfl, .inr (.inl ⟨rfl, rfl, he⟩)⟩
          · rename_i he
            subst hm
            exact ⟨⟨by simp, by simp only; omega, by simp only; omega⟩, rfl, by simp only; omega, rfl, .inr (.inr ⟨rfl, he, k, by omega, hof, rfl⟩)⟩
      · simp at hm
theorem posts_mv {t : TimeD} {f : TariffD} {l : List OrderD} {p : PlanD} (h : Ok t f l p) {n : Nat} (hn : n ≤ l.length) : ∀ m ∈ posts t f l p n, MvOk m ∧ m.To = 2 := fun m hm => by
  unfold posts at hm
  obtain ⟨q, hq, rfl⟩ := List.mem_map.1 hm
  have hq : q < n := by simpa using hq
  have := h.o.n
  have := price_bd t f l p q
  exact ⟨⟨by simp only [postM]; omega, by simp [postM], by simp only [postM]; omega⟩, rfl⟩
end Ec
end Go.Fk
/- Chapter 39: what the laws of the escrow rest on, in plain Lean. No program in sight. -/
set_option linter.unusedVariables false
set_option linter.unusedSimpArgs false
namespace Go.Fk
open Go
namespace Ec
open Bk (lo)
variable {t : TimeD} {f : TariffD} {l : List OrderD} {p : PlanD}
theorem legG_bd (x : LineD) {a : Int} (ha : 0 ≤ a) (j : Int) : ∀ n : Nat, 0 ≤ legG x a j n ∧ legG x a j n ≤ n * a
  | 0 => by simp [legG]
  | n + 1 => by
    have ih := legG_bd x ha j n
    rw [show ((n + 1 : Nat) : Int) * a = n * a + a by rw [Int.natCast_add, Int.add_mul]; simp]
    simp only [legG]
    generalize (n : Int) * a = q at *
    split <;> omega
/-- an order's part at an account -/
theorem wantO_bd (h : Ok t f l p) {i : Nat} (hi : i < l.length) {run : Int} (hr : p.Of.getD i 0 = run) {n : Nat} (hn : n ≤ (lineP t p run).Legs.length) (j : Int) :
    -20971520 ≤ wantO t f l p run n i j ∧ wantO t f l p run n i j ≤ 20971520 := by
  obtain ⟨q0, q1, hlo, hpe, hcl, hcr⟩ := price_eq h hi
  rw [hr] at hlo hpe
  have hleg := Tf.leg_bd h.o.f (l.getD i default).Class
  have hba := Tf.base_bd h.o.f (l.getD i default).Class
  have hex := Tf.extra_bd h.o.f (l.getD i default).Crowd
  have hpb := price_bd t f l p i
  have o1 := hlo.l1
  have o9 := hlo.o9
  have hg := legG_bd (lineP t p run) hleg.1 j n
  have hmul : (n : Int) * Tf.leg f (l.getD i default).Class ≤ (lineP t p run).Legs.length * Tf.leg f (l.getD i default).Class := Int.mul_le_mul_of_nonneg_right (by omega) (by omega)
  have hmul0 : 0 ≤ (n : Int) * Tf.leg f (l.getD i default).Class := Int.mul_nonneg (by omega) (by omega)
  have hmul8 : (n : Int) * Tf.leg f (l.getD i default).Class ≤ 8 * 1048576 := Int.mul_le_mul (by omega) (by omega) (by omega) (by omega)
  unfold wantO
  generalize (n : Int) * Tf.leg f (l.getD i default).Class = q at *
  generalize legG (lineP t p run) (Tf.leg f (l.getD i default).Class) j n = g at *
  generalize ((lineP t p run).Legs.length : Int) * Tf.leg f (l.getD i default).Class = q2 at *
  unfold ind
  generalize priceP t f l p i = P at *
  split <;> split <;> (try split) <;> (try split) <;> omega
theorem wantR_bd (h : Ok t f l p) {run : Int} {n : Nat} (hn : n ≤ (lineP t p run).Legs.length) (j : Int) : ∀ k : Nat, k ≤ l.length → -(20971520 * k : Int) ≤ wantR t f l p run n j k ∧ wantR t f l p run n j k ≤ 20971520 * k
  | 0, _ => by simp [wantR]
  | k + 1, hk => by
    have ih := wantR_bd h hn j k (by omega)
    simp only [wantR]
    split
    · rename_i e
      have := wantO_bd h (show k < l.length by omega) e hn j
      omega
    · omega
/-- what the accounts' function asks of moves -/
structure Acc (b0 : List Int) (ms : List MoveD) : Prop where
  bl : b0.length = 115
  n : numd ms
  m : ∀ x ∈ ms, MvOk x
  e : ∀ k, k ≤ ms.length → 0 ≤ lo b0 2 + eff (ms.take k) 2
  l : ms.length ≤ 4096
  b : ∀ j, 0 ≤ j → -4503599627370496 ≤ lo b0 j ∧ lo b0 j ≤ 4503599627370496
theorem Acc.lo {b : List Int} {m : List MoveD} (h : Acc b m) {j : Int} (hj : 0 ≤ j) (k : Nat) : Bk.lo (Bk.after b (m.take k)) j = Bk.lo b j + eff (m.take k) j := after_eff h.bl (fun x hx => h.m x (List.mem_of_mem_take hx)) hj
def wantK (t : TimeD) (f : TariffD) (l : List OrderD) (p : PlanD) (ro : Nat → Int) (hn : Int → Nat) (j : Int) : Nat → Int
  | 0 => 0
  | k + 1 => wantK t f l p ro hn j k + wantR t f l p (ro k) (hn (ro k)) j l.length
def doneK (ro : Nat → Int) (k : Nat) (r : Int) : Bool := (List.range k).any fun i => decide (r = ro i)
theorem doneK_succ (ro : Nat → Int) (k : Nat) : doneK ro (k + 1) = fun r => doneK ro k r || decide (r = ro k) := by
  funext r; simp [doneK, List.range_succ, List.any_append]
theorem wantK_bd (h : Ok t f l p) {ro : Nat → Int} {hn : Int → Nat} (j : Int) : ∀ k : Nat, (∀ i, i < k → hn (ro i) ≤ (lineP t p (ro i)).Legs.length) → -(1342177280 * k : Int) ≤ wantK t f l p ro hn j k ∧ wantK t f l p ro hn j k ≤ 1342177280 * k
  | 0, _ => by simp [wantK]
  | k + 1, hh => by
    have ih := wantK_bd h j k fun i hi => hh i (by omega)
    have := wantR_bd h (hh k (by omega)) j l.length (Nat.le_refl _)
    have := h.o.n
    simp only [wantK]; omega
/-- how many orders go with a run -/
def ordN (p : PlanD) (run : Int) : Nat → Nat
  | 0 => 0
  | k + 1 => ordN p run k + if p.Of.getD k 0 = run then 1 else 0
def legN : List MoveD → Nat
  | [] => 0
  | m :: r => (if m.Why = 2 then 1 else 0) + legN r
theorem legN_append (a b : List MoveD) : legN (a ++ b) = legN a + legN b := by
  induction a with
  | nil => simp [legN]
  | cons m a ih => simp only [List.cons_append, legN, ih]; omega
theorem legN_legMs (x : LineD) (a run : Int) (no : Nat) : ∀ n, legN (legMs x a run no n) = n
  | 0 => rfl
  | n + 1 => by rw [legMs_succ, legN_append, legN_legMs x a run no n]; simp [legN, legM]
theorem legN_payO (t : TimeD) (f : TariffD) (l : List OrderD) (p : PlanD) (run : Int) (h i no : Nat) : legN (payO t f l p run h i no) = h := by
  unfold payO
  rw [legN_append, legN_legMs]
  unfold lastM
  split <;> simp [legN]
theorem pays_cnt (t : TimeD) (f : TariffD) (l : List OrderD) (p : PlanD) (run : Int) (h : Nat) : ∀ k, legN (pays t f l p run h k) = ordN p run k * h ∧ (pays t f l p run h k).length = ordN p run k * h + ordN p run k
  | 0 => by simp [pays, legN, ordN]
  | k + 1 => by
    have ih := pays_cnt t f l p run h k
    simp only [pays, ordN, legN_append, List.length_append]
    split
    · rw [legN_payO, payO_len, Nat.add_mul]; omega
    · simp [legN]; omega
/-! one leg more -/
/-- what orders of a run pay for a leg -/
def gainR (f : TariffD) (l : List OrderD) (p : PlanD) (run : Int) : Nat → Int
  | 0 => 0
  | k + 1 => gainR f l p run k + if p.Of.getD k 0 = run then Tf.leg f (l.getD k default).Class else 0
theorem gainR_bd (h : Ok t f l p) (run : Int) : ∀ k : Nat, 0 ≤ gainR f l p run k ∧ gainR f l p run k ≤ 1048576 * k
  | 0 => by simp [gainR]
  | k + 1 => by
    have ih := gainR_bd h run k
    have := Tf.leg_bd h.o.f (l.getD k default).Class
    simp only [gainR]; split <;> omega
end Ec
end Go.Fk
/- Chapter 39: one leg more, in plain Lean. No program in sight. -/
set_option linter.unusedVariables false
set_option linter.unusedSimpArgs false
namespace Go.Fk
open Go
namespace Ec
open Bk (lo)
variable {t : TimeD} {f : TariffD} {l : List OrderD} {p : PlanD}
/-- where EscrowLeg begins -/
def big : List Int := (List.replicate 115 0).set 2 1125899906842624
end Ec
end Go.Fk
/- Chapter 39: the escrow ends empty: the runs in order or turned, in plain Lean. No program in sight. -/
set_option linter.unusedVariables false
set_option linter.unusedSimpArgs false
namespace Go.Fk
open Go
namespace Ec
open Bk (lo)
variable {t : TimeD} {f : TariffD} {l : List OrderD} {p : PlanD}
end Ec
end Go.Fk
/- Chapter 40: the fund, in plain Lean. No program in sight. -/
set_option linter.unusedVariables false
namespace Go.Fk
open Go
namespace Fd
def better : Option Int → Int → Bool
  | none, _ => true
  | some x, y => decide (y < x)
/-- the least of the elements that are accepted -/
def leastF (ok : Nat → Bool) : Nat → List Int → Option Int → Option Int
  | _, [], a => a
  | i, y :: r, a => leastF ok (i + 1) r (if ok i && better a y then some y else a)
def least (ok : Nat → Bool) (l : List Int) : Option Int := leastF ok 0 l none
theorem leastF_drop {ok : Nat → Bool} {l : List Int} {k : Nat} {a : Option Int} (h : k < l.length) : leastF ok k (l.drop k) a = leastF ok (k + 1) (l.drop (k + 1)) (if ok k && better a l[k] then some l[k] else a) := by
  rw [List.drop_eq_getElem_cons h]; rfl
theorem leastF_mem (ok : Nat → Bool) : ∀ (l : List Int) (i : Nat) (a : Option Int) (x : Int), leastF ok i l a = some x → x ∈ l ∨ a = some x
  | [], i, a, x, h => .inr h
  | y :: r, i, a, x, h => by
    unfold leastF at h
    rcases leastF_mem ok r (i + 1) _ x h with h | h
    · exact .inl (by simp [h])
    · generalize (ok i && better a y) = c at h
      cases c with
      | true => simp at h; exact .inl (by simp [h])
      | false => exact .inr (by simpa using h)
theorem least_mem {ok : Nat → Bool} {l : List Int} {x : Int} (h : least ok l = some x) : x ∈ l := by
  rcases leastF_mem ok l 0 none x h with h | h
  · exact h
  · cases h
/-- is a class among those of a line? -/
def bit (cl : Int) (i : Nat) : Bool := iand .i64 (cl.fdiv (2 ^ (min i 64))) 1 == 1
def ordOk (l : List RunD) : Bool := (List.range (l.length - 1)).all fun i => Tt.before (l.getD i default) (l.getD (i + 1) default)
def covOk (n : Int) : Bool := decide (0 ≤ n ∧ n ≤ 64)
def formed (t : TimeD) (p : PlanD) : Bool := decide (p.Covers.length = p.Runs.length) && p.Runs.all (Tt.isRun t) && ordOk p.Runs && p.Covers.all covOk
/-- the line of a run -/
def lineOf (t : TimeD) (p : PlanD) (run : Int) : LineD := t.Lines.getD (p.Runs.getD run.toNat default).Line.toNat default
def cost (t : TimeD) (f : TariffD) (p : PlanD) (run : Int) : Int × Int :=
  if Tt.chk t ≠ 0 then (0, Tt.chk t) else if Tf.chk f ≠ 0 then (0, Tf.chk f) else if formed t p = false then (0, 220) else if run < 0 ∨ p.Runs.length ≤ run then (0, 1)
  else match least (bit (lineOf t p run).Classes) f.Leg with
    | none => (0, 210)
    | some x => (x * p.Covers.getD run.toNat 0, 0)
def covM (n run : Int) (i : Nat) (o : Int) : MoveD := ⟨i, 1, 3 + o, n, 5, run⟩
def covs (n run : Int) (l : List Int) : List MoveD := (List.range l.length).map fun (i : Nat) => covM n run i (l.getD i 0)
theorem covs_len (n run : Int) (l : List Int) : (covs n run l).length = l.length := by simp [covs]
theorem covs_get {n run : Int} {l : List Int} {k : Nat} (h : k < (covs n run l).length) (h' : k < l.length) : (covs n run l)[k] = covM n run k l[k] := by simp [covs, h']
def cover (t : TimeD) (f : TariffD) (p : PlanD) (run handed : Int) : List MoveD × Int :=
  if (cost t f p run).2 ≠ 0 then ([], (cost t f p run).2) else if handed < 0 ∨ (lineOf t p run).Legs.length < handed then ([], 1)
  else (covs (cost t f p run).1 run ((lineOf t p run).Offices.take handed.toNat), 0)
def part (a s : Int) (i : Nat) : Int := a / s + if (i : Int) < a % s then 1 else 0
def shaM (a s : Int) (i : Nat) : MoveD := ⟨i, 1, 51 + i, part a s i, 6, -1⟩
def shares (a s : Int) (n : Nat) : List MoveD := (List.range n).map fun (i : Nat) => shaM a s i
theorem shares_len (a s : Int) (n : Nat) : (shares a s n).length = n := by simp [shares]
theorem shares_succ (a s : Int) (n : Nat) : shares a s (n + 1) = shares a s n ++ [shaM a s n] := by simp [shares, List.range_succ]
def share (a s : Int) : List MoveD × Int := if a < 0 ∨ 1099511627776 < a ∨ s < 1 ∨ 64 < s then ([], 1) else (shares a s s.toNat, 0)
theorem part_eq {a s : Int} {i : Nat} (h0 : 0 ≤ a) (h1 : 1 ≤ s) (hi : (i : Int) < s) : (a + s - 1 - i) / s = part a s i := by
  unfold part
  have hd := Int.emod_add_mul_ediv a s
  have hm := Int.emod_nonneg a (show s ≠ 0 by omega)
  have hlt := Int.emod_lt_of_pos a (show 0 < s by omega)
  generalize hq : a / s = q at *
  generalize hr : a % s = r at *
  have e : a + s - 1 - i = (r + s - 1 - i) + s * q := by omega
  rw [e, Int.add_mul_ediv_left _ _ (by omega)]
  by_cases h : (i : Int) < r
  · rw [if_pos h]
    have : (r + s - 1 - i) / s = 1 := by
      rw [show r + s - 1 - i = (r - 1 - i) + s * 1 by omega, Int.add_mul_ediv_left _ _ (by omega), Int.ediv_eq_zero_of_lt (by omega) (by omega)]; rfl
    omega
  · rw [if_neg h]
    have : (r + s - 1 - i) / s = 0 := Int.ediv_eq_zero_of_lt (by omega) (by omega)
    omega
end Fd
end Go.Fk
/- Chapter 40: what a fund's moves lead to, in plain Lean. No program in sight. -/
set_option linter.unusedVariables false
set_option linter.unusedSimpArgs false
namespace Go.Fk
open Go
namespace Fd
open Bk (lo)
/-- moves out of the fund -/
def Out (l : List MoveD) : Prop := ∀ m ∈ l, m.From = 1 ∧ m.To ≠ 1
def tot : List MoveD → Int
  | [] => 0
  | m :: r => m.Amount + tot r
def got (j : Int) : List MoveD → Int
  | [] => 0
  | m :: r => (if m.To = j then m.Amount else 0) + got j r
theorem tot_append (a b : List MoveD) : tot (a ++ b) = tot a + tot b := by
  induction a with
  | nil => simp [tot]
  | cons m a ih => simp only [List.cons_append, tot, ih]; omega
theorem out_after : ∀ (l : List MoveD) (s : List Int) (i : Int), s.length = 115 → Out l → Bk.allOk i l = true →
    lo (Bk.after s l) 1 = lo s 1 - tot l ∧ ∀ j, 0 ≤ j → j ≠ 1 → lo (Bk.after s l) j = lo s j + got j l
  | [], s, i, hs, ho, ha => ⟨by simp [Bk.after, tot], fun j _ _ => by simp [Bk.after, got]⟩
  | m :: r, s, i, hs, ho, ha => by
    simp only [Bk.allOk, Bool.and_eq_true] at ha
    obtain ⟨h1, h2⟩ := ho m (by simp)
    obtain ⟨e1, e2⟩ := out_after r (Bk.step s m) (i + 1) (by rw [Bk.step_len, hs]) (fun x hx => ho x (by simp [hx])) ha.2
    have L := fun k hk => Bk.lo_step hs ha.1 (k := k) hk
    refine ⟨?_, fun j hj hj1 => ?_⟩
    · show lo (Bk.after (Bk.step s m) r) 1 = _
      rw [e1, L 1 (by omega), if_pos h1, if_neg h2]
      simp only [tot]; omega
    · show lo (Bk.after (Bk.step s m) r) j = _
      rw [e2 j hj hj1, L j hj, if_neg (by omega)]
      simp only [got]; omega
theorem allOk_take : ∀ (l : List MoveD) (i : Int) (k : Nat), Bk.allOk i l = true → Bk.allOk i (l.take k) = true
  | _, _, 0, _ => by simp [Bk.allOk]
  | [], _, k + 1, _ => by simp [Bk.allOk]
  | m :: r, i, k + 1, h => by
    simp only [Bk.allOk, Bool.and_eq_true, List.take_succ_cons] at h ⊢
    exact ⟨h.1, allOk_take r (i + 1) k h.2⟩
theorem nonneg {l : List MoveD} {i : Int} (h : Bk.allOk i l = true) : ∀ m ∈ l, 0 ≤ m.Amount := fun m hm => by
  obtain ⟨k, hk, rfl⟩ := List.getElem_of_mem hm
  have := Bk.allOk_get hk h
  simp only [Bk.mOk, decide_eq_true_eq] at this
  omega
theorem tot_nonneg : ∀ (l : List MoveD), (∀ m ∈ l, 0 ≤ m.Amount) → 0 ≤ tot l
  | [], _ => by simp [tot]
  | m :: r, h => by
    have := tot_nonneg r fun x hx => h x (by simp [hx])
    have := h m (by simp)
    simp only [tot]; omega
theorem got_nonneg (j : Int) : ∀ (l : List MoveD), (∀ m ∈ l, 0 ≤ m.Amount) → 0 ≤ got j l
  | [], _ => by simp [got]
  | m :: r, h => by
    have := got_nonneg j r fun x hx => h x (by simp [hx])
    have := h m (by simp)
    simp only [got]; split <;> omega
theorem tot_take {l : List MoveD} (h : ∀ m ∈ l, 0 ≤ m.Amount) (k : Nat) : tot (l.take k) ≤ tot l := by
  have e := tot_append (l.take k) (l.drop k)
  rw [List.take_append_drop] at e
  have := tot_nonneg (l.drop k) fun m hm => h m (List.mem_of_mem_drop hm)
  omega
/-- a fund pays what it has -/
theorem pays {s : List Int} {l : List MoveD} (hs : Bk.startOk s = true) (hc : Bk.chk l = 0) (ho : Out l) : Bk.balances s l = if tot l ≤ lo s 1 then (Bk.after s l, 0) else ([], 381) := by
  have ha : Bk.allOk 0 l = true := by
    unfold Bk.chk at hc
    split at hc
    · cases hc
    · split at hc
      · assumption
      · cases hc
  have hw : Bk.wrong s l = 0 := by unfold Bk.wrong; rw [if_neg (by simp [hc]), if_pos hs]
  have hsl : s.length = 115 := by
    simp only [Bk.startOk, Bool.and_eq_true, decide_eq_true_eq] at hs; exact hs.1
  have hp := Bk.pos_start hs
  have hn := nonneg ha
  have hb := Bk.bad_none l s 0 0 hsl hp ha
  have key : ∀ k, Bk.Pos (Bk.after s (l.take k)) ↔ tot (l.take k) ≤ lo s 1 := fun k => by
    have A := out_after (l.take k) s 0 hsl (fun m hm => ho m (List.mem_of_mem_take hm)) (allOk_take l 0 k ha)
    constructor
    · intro h
      have := h 1 (by omega) (by omega)
      rw [A.1] at this; omega
    · intro h j j0 j1
      by_cases e : j = 1
      · subst e; rw [A.1]; omega
      · rw [A.2 j (by omega) e]
        have := hp j j0 j1
        have := got_nonneg j (l.take k) fun m hm => hn m (List.mem_of_mem_take hm)
        omega
  unfold Bk.balances
  rw [if_neg (by simp [hw])]
  by_cases h : tot l ≤ lo s 1
  · rw [if_pos h]
    have : Bk.bad s 0 l = none := hb.2 fun k hk => (key k).2 (by have := tot_take hn k; omega)
    rw [this]
  · rw [if_neg h]
    cases hbad : Bk.bad s 0 l with
    | some i => rfl
    | none =>
      have := (key l.length).1 (hb.1 hbad l.length (Nat.le_refl _))
      rw [List.take_length] at this
      exact (h this).elim
def zs : List Int := List.replicate 115 0
/-! shares -/
theorem sha_tot (a s : Int) : ∀ n, tot (shares a s n) = n * (a / s) + min (n : Int) (a % s) ∨ a % s < 0
  | 0 => by
    by_cases h : a % s < 0
    · exact .inr h
    · left; simp [shares, tot]; omega
  | n + 1 => by
    rcases sha_tot a s n with h | h
    · by_cases h' : a % s < 0
      · exact .inr h'
      left
      rw [shares_succ, tot_append, h]
      simp only [tot, shaM, part]
      rw [show ((n + 1 : Nat) : Int) * (a / s) = n * (a / s) + a / s by rw [Int.natCast_add, Int.add_mul]; simp]
      generalize (n : Int) * (a / s) = x
      generalize a / s = y
      split <;> omega
    · exact .inr h
theorem sha_all {a s : Int} (h1 : 1 ≤ s) : tot (shares a s s.toNat) = a := by
  have hm := Int.emod_nonneg a (show s ≠ 0 by omega)
  have hl := Int.emod_lt_of_pos a (show 0 < s by omega)
  rcases sha_tot a s s.toNat with h | h
  · rw [h, Int.toNat_of_nonneg (by omega), Int.min_eq_right (by omega)]
    exact Int.mul_ediv_add_emod a s
  · omega
/-! covers -/
end Fd
end Go.Fk
