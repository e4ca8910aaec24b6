/- Chapter 19: what the calendar is, in plain Lean. No program in sight. -/
import Derived.Test.YtpiijpgfgcbfaaaApi
namespace Go.Fk
open Go

namespace Cal
def rOk (r : Rule) : Bool := decide (0 ≤ r.First ∧ r.First < r.Until ∧ r.Until ≤ 2097152 ∧ 1 ≤ r.Every ∧ r.Every ≤ 2097152)
def gOk : Int → List Gap → Bool
  | _, [] => true
  | b, g :: r => decide (b < g.From ∧ g.From < g.Until ∧ g.Until ≤ 2097152) && gOk g.Until r
def chk (rules : List Rule) (off : List Gap) : Int :=
  if 16 < rules.length ∨ 64 < off.length then 2 else if rules.all rOk && gOk (-1) off then 0 else 190

theorem all_drop (l : List Rule) (k : Nat) (h : k < l.length) : (l.drop k).all rOk = (rOk l[k] && (l.drop (k + 1)).all rOk) := by
  rw [List.drop_eq_getElem_cons h, List.all_cons]
theorem gOk_drop (b : Int) (l : List Gap) (k : Nat) (h : k < l.length) : gOk b (l.drop k) = (decide (b < l[k].From ∧ l[k].From < l[k].Until ∧ l[k].Until ≤ 2097152) && gOk l[k].Until (l.drop (k + 1))) := by
  rw [List.drop_eq_getElem_cons h]; rfl

/-- what holds of rules and gaps that are accepted -/
structure Ok (rules : List Rule) (off : List Gap) : Prop where
  nr : rules.length ≤ 16
  no : off.length ≤ 64
  r : ∀ x ∈ rules, 0 ≤ x.First ∧ x.First < x.Until ∧ x.Until ≤ 2097152 ∧ 1 ≤ x.Every ∧ x.Every ≤ 2097152
  g : ∀ x ∈ off, 0 ≤ x.From ∧ x.From < x.Until ∧ x.Until ≤ 2097152

theorem gOk_all : ∀ (l : List Gap) (b : Int), -1 ≤ b → gOk b l = true → ∀ x ∈ l, b < x.From ∧ x.From < x.Until ∧ x.Until ≤ 2097152
  | [], _, _, _, _, h => by cases h
  | g :: r, b, hb, hg, x, hx => by
    simp only [gOk, Bool.and_eq_true, decide_eq_true_eq] at hg
    rcases List.mem_cons.1 hx with rfl | hx
    · exact hg.1
    · have := gOk_all r g.Until (by omega) hg.2 x hx
      omega
theorem chk_ok {rules : List Rule} {off : List Gap} (h : chk rules off = 0) : Ok rules off := by
  unfold chk at h
  split at h
  · simp at h
  · rename_i hl
    split at h
    · rename_i hc
      simp only [Bool.and_eq_true, List.all_eq_true] at hc
      refine ⟨by omega, by omega, fun x hx => by simpa [rOk] using hc.1 x hx, fun x hx => ?_⟩
      have := gOk_all off (-1) (by omega) hc.2 x hx
      omega
    · simp at h
theorem chk_cases (rules : List Rule) (off : List Gap) : chk rules off = 0 ∨ chk rules off = 2 ∨ chk rules off = 190 := by
  unfold chk; split
  · simp
  · split <;> simp

/-! ### Departures -/
def ruleAt (x : Rule) (m : Int) : Bool := decide (x.First ≤ m ∧ m < x.Until ∧ (m - x.First) % x.Every = 0)
def inGap (g : Gap) (m : Int) : Bool := decide (g.From ≤ m ∧ m < g.Until)
def departs (rules : List Rule) (off : List Gap) (m : Int) : Bool := !off.any (inGap · m) && rules.any (ruleAt · m)

/-- the departures from a time on, so many minutes -/
def depsN (rules : List Rule) (off : List Gap) (m : Int) : Nat → List Int
  | 0 => []
  | k + 1 => (if departs rules off m then [m] else []) ++ depsN rules off (m + 1) k
def deps (rules : List Rule) (off : List Gap) (a b : Int) : List Int := depsN rules off a (b - a).toNat
/-- the least departure from a time on; 2097152 if there is none -/
def nxtN (rules : List Rule) (off : List Gap) (m : Int) : Nat → Int
  | 0 => 2097152
  | k + 1 => if departs rules off m then m else nxtN rules off (m + 1) k
def nxt (rules : List Rule) (off : List Gap) (m : Int) : Int := nxtN rules off m (2097152 - m).toNat

theorem nxt_self {rules : List Rule} {off : List Gap} {m : Int} (h : m < 2097152) (hd : departs rules off m = true) : nxt rules off m = m := by
  unfold nxt
  obtain ⟨k, hk⟩ : ∃ k, (2097152 - m).toNat = k + 1 := ⟨(2097152 - m).toNat - 1, by omega⟩
  rw [hk]; simp [nxtN, hd]
theorem nxt_step {rules : List Rule} {off : List Gap} {m : Int} (h : m < 2097152) (hd : departs rules off m = false) : nxt rules off m = nxt rules off (m + 1) := by
  unfold nxt
  obtain ⟨k, hk⟩ : ∃ k, (2097152 - m).toNat = k + 1 := ⟨(2097152 - m).toNat - 1, by omega⟩
  rw [hk, show (2097152 - (m + 1)).toNat = k by omega]; simp [nxtN, hd]
theorem nxt_end {rules : List Rule} {off : List Gap} {m : Int} (h : 2097152 ≤ m) : nxt rules off m = 2097152 := by
  unfold nxt; rw [show (2097152 - m).toNat = 0 by omega]; rfl
theorem nxt_skip {rules : List Rule} {off : List Gap} {m t : Int} (hmt : m ≤ t) (ht : t ≤ 2097152) (h : ∀ x, m ≤ x → x < t → departs rules off x = false) : nxt rules off m = nxt rules off t := by
  obtain ⟨k, hk⟩ : ∃ k : Nat, t = m + k := ⟨(t - m).toNat, by omega⟩
  subst hk
  induction k generalizing m with
  | zero => simp
  | succ k ih =>
    rw [nxt_step (by omega) (h m (by omega) (by omega)), ih (m := m + 1) (by omega) (by omega) (fun x h1 h2 => h x (by omega) (by omega))]
    congr 1; omega
theorem nxt_spec (rules : List Rule) (off : List Gap) (m : Int) : (nxt rules off m = 2097152 ∧ ∀ x, m ≤ x → x < 2097152 → departs rules off x = false) ∨
    (m ≤ nxt rules off m ∧ nxt rules off m < 2097152 ∧ departs rules off (nxt rules off m) = true ∧ ∀ x, m ≤ x → x < nxt rules off m → departs rules off x = false) := by
  have key : ∀ (k : Nat) (m : Int), 2097152 ≤ m + (k : Int) → (nxt rules off m = 2097152 ∧ ∀ x, m ≤ x → x < 2097152 → departs rules off x = false) ∨
      (m ≤ nxt rules off m ∧ nxt rules off m < 2097152 ∧ departs rules off (nxt rules off m) = true ∧ ∀ x, m ≤ x → x < nxt rules off m → departs rules off x = false) := by
    intro k
    induction k with
    | zero => intro m hm; exact .inl ⟨nxt_end (by omega), fun x h1 h2 => by omega⟩
    | succ k ih =>
      intro m hm
      by_cases h : m < 2097152
      · cases hd : departs rules off m with
        | true => rw [nxt_self h hd]; exact .inr ⟨by omega, h, hd, fun x h1 h2 => by omega⟩
        | false =>
          rw [nxt_step h hd]
          have hx : ∀ x, m ≤ x → ¬ m + 1 ≤ x → departs rules off x = false := fun x h1 h2 => by rw [show x = m by omega]; exact hd
          rcases ih (m + 1) (by omega) with ⟨h1, h2⟩ | ⟨h1, h2, h3, h4⟩
          · exact .inl ⟨h1, fun x a b => if c : m + 1 ≤ x then h2 x c b else hx x a c⟩
          · exact .inr ⟨by omega, h2, h3, fun x a b => if c : m + 1 ≤ x then h4 x c b else hx x a c⟩
      · exact .inl ⟨nxt_end (by omega), fun x h1 h2 => by omega⟩
  exact key (2097152 - m).toNat m (by omega)
theorem nxt_le (rules : List Rule) (off : List Gap) (m : Int) : nxt rules off m ≤ 2097152 := by
  rcases nxt_spec rules off m with ⟨h, _⟩ | ⟨_, h, _⟩ <;> omega

/-! ### The times of rules -/
def after (x : Rule) (m : Int) : Int :=
  let t := if x.First < m then x.First + (m - x.First + x.Every - 1) / x.Every * x.Every else x.First
  if x.Until ≤ t then 2097152 else t

theorem after_spec {x : Rule} (hx : 0 ≤ x.First ∧ x.First < x.Until ∧ x.Until ≤ 2097152 ∧ 1 ≤ x.Every ∧ x.Every ≤ 2097152) {m : Int} (hm : m ≤ 2097152) :
    m ≤ after x m ∧ after x m ≤ 2097152 ∧ (after x m < 2097152 → ruleAt x (after x m) = true) ∧ ∀ y, m ≤ y → y < after x m → ruleAt x y = false := by
  obtain ⟨h0, h1, h2, h3, h4⟩ := hx
  unfold after
  simp only
  -- q: the multiple
  have hq := Int.emod_add_mul_ediv (m - x.First + x.Every - 1) x.Every
  have hr0 := Int.emod_nonneg (m - x.First + x.Every - 1) (show x.Every ≠ 0 by omega)
  have hr1 := Int.emod_lt_of_pos (m - x.First + x.Every - 1) (show 0 < x.Every by omega)
  rw [Int.mul_comm] at hq
  generalize hqe : (m - x.First + x.Every - 1) / x.Every = q at hq ⊢
  have no : ∀ t y, (t - x.First) % x.Every = 0 → t - x.Every < y → y < t → ruleAt x y = false := by
    intro t y ht ha hb
    unfold ruleAt
    refine decide_eq_false fun ⟨c1, c2, c3⟩ => ?_
    obtain ⟨a, ha'⟩ := Int.dvd_of_emod_eq_zero ht
    obtain ⟨b, hb'⟩ := Int.dvd_of_emod_eq_zero c3
    have hd : t - y = x.Every * (a - b) := by rw [Int.mul_sub, ← ha', ← hb']; omega
    have h5 : 0 < x.Every * (a - b) := by omega
    have h6 : x.Every * (a - b) < x.Every * 1 := by omega
    have h7 : a - b < 1 := Int.lt_of_mul_lt_mul_left h6 (by omega)
    have h8 : 0 < a - b := by
      rcases Int.lt_or_le 0 (a - b) with h | h
      · exact h
      · have := Int.mul_nonpos_of_nonneg_of_nonpos (show 0 ≤ x.Every by omega) h
        omega
    omega
  by_cases c : x.First < m
  · simp only [if_pos c]
    have hmod : (x.First + q * x.Every - x.First) % x.Every = 0 := by
      rw [show x.First + q * x.Every - x.First = q * x.Every by omega]; exact Int.mul_emod_left _ _
    by_cases d : x.Until ≤ x.First + q * x.Every
    · rw [if_pos d]
      refine ⟨hm, Int.le_refl _, fun h => by omega, fun y ya yb => ?_⟩
      by_cases e : y < x.First + q * x.Every
      · exact no _ y hmod (by omega) e
      · unfold ruleAt; exact decide_eq_false fun ⟨_, c2, _⟩ => by omega
    · rw [if_neg d]
      refine ⟨by omega, by omega, fun _ => ?_, fun y ya yb => no _ y hmod (by omega) yb⟩
      unfold ruleAt; exact decide_eq_true ⟨by omega, by omega, hmod⟩
  · simp only [if_neg c, if_neg (show ¬ x.Until ≤ x.First by omega)]
    refine ⟨by omega, by omega, fun _ => ?_, fun y ya yb => ?_⟩
    · unfold ruleAt; exact decide_eq_true ⟨by omega, by omega, by simp⟩
    · unfold ruleAt; exact decide_eq_false fun ⟨c1, _, _⟩ => by omega

/-- the least time of the rules from m on -/
def firstR (rules : List Rule) (m : Int) : Int := rules.foldl (fun t x => min t (after x m)) 2097152
theorem firstR_take {rules : List Rule} {m : Int} {k : Nat} (h : k < rules.length) : firstR (rules.take (k + 1)) m = min (firstR (rules.take k) m) (after rules[k] m) := by
  unfold firstR
  rw [List.take_succ_eq_append_getElem h, List.foldl_append]; rfl
theorem firstR_spec {rules : List Rule} (h : ∀ x ∈ rules, 0 ≤ x.First ∧ x.First < x.Until ∧ x.Until ≤ 2097152 ∧ 1 ≤ x.Every ∧ x.Every ≤ 2097152) {m : Int} (hm : m ≤ 2097152) :
    m ≤ firstR rules m ∧ firstR rules m ≤ 2097152 ∧ (firstR rules m < 2097152 → rules.any (ruleAt · (firstR rules m)) = true) ∧ ∀ y, m ≤ y → y < firstR rules m → rules.any (ruleAt · y) = false := by
  have key : ∀ k, k ≤ rules.length → m ≤ firstR (rules.take k) m ∧ firstR (rules.take k) m ≤ 2097152 ∧ (firstR (rules.take k) m < 2097152 → (rules.take k).any (ruleAt · (firstR (rules.take k) m)) = true) ∧
      ∀ y, m ≤ y → y < firstR (rules.take k) m → (rules.take k).any (ruleAt · y) = false := by
    intro k
    induction k with
    | zero => intro _; simp [firstR]; exact hm
    | succ k ih =>
      intro hk
      obtain ⟨h1, h2, h3, h4⟩ := ih (by omega)
      obtain ⟨g1, g2, g3, g4⟩ := after_spec (h rules[k] (List.getElem_mem (by omega))) hm
      rw [firstR_take (by omega), List.take_succ_eq_append_getElem (by omega)]
      refine ⟨by omega, by omega, fun hlt => ?_, fun y ya yb => ?_⟩
      · simp only [List.any_append, List.any_cons, List.any_nil, Bool.or_false, Bool.or_eq_true]
        by_cases c : firstR (rules.take k) m ≤ after rules[k] m
        · left; rw [Int.min_eq_left c] at hlt ⊢; exact h3 hlt
        · right; rw [Int.min_eq_right (by omega)] at hlt ⊢; exact g3 hlt
      · simp only [List.any_append, List.any_cons, List.any_nil, Bool.or_false, Bool.or_eq_false_iff]
        exact ⟨h4 y ya (by omega), g4 y ya (by omega)⟩
  have := key rules.length (Nat.le_refl _)
  simpa using this

theorem departs_no_rule {rules : List Rule} {off : List Gap} {y : Int} (h : rules.any (ruleAt · y) = false) : departs rules off y = false := by simp only [departs, h, Bool.and_false]
theorem departs_in_gap {rules : List Rule} {off : List Gap} {y : Int} {g : Gap} (hg : g ∈ off) (h : inGap g y = true) : departs rules off y = false := by
  have : off.any (inGap · y) = true := List.any_eq_true.2 ⟨g, hg, h⟩
  simp only [departs, this, Bool.not_true, Bool.false_and]
/-- from m to the rules' next time nothing departs -/
theorem nxt_rules {rules : List Rule} {off : List Gap} (h : Ok rules off) {m : Int} (hm : m ≤ 2097152) : nxt rules off m = nxt rules off (firstR rules m) := by
  obtain ⟨h1, h2, _, h4⟩ := firstR_spec h.r hm
  exact nxt_skip h1 h2 fun x a b => departs_no_rule (h4 x a b)
theorem nxt_gap {rules : List Rule} {off : List Gap} (h : Ok rules off) {t : Int} {g : Gap} (hg : g ∈ off) (hi : inGap g t = true) : nxt rules off t = nxt rules off g.Until := by
  simp only [inGap, decide_eq_true_eq] at hi
  refine nxt_skip (by omega) (h.g g hg).2.2 fun x a b => departs_in_gap hg (decide_eq_true ⟨by omega, b⟩)
theorem nxt_hit {rules : List Rule} {off : List Gap} (h : Ok rules off) {m : Int} (hm : m ≤ 2097152) (ht : firstR rules m < 2097152) (hno : off.any (inGap · (firstR rules m)) = false) : nxt rules off (firstR rules m) = firstR rules m := by
  obtain ⟨_, _, h3, _⟩ := firstR_spec h.r hm
  exact nxt_self ht (by simp only [departs, hno, h3 ht, Bool.not_false, Bool.and_self])

/-! ### Lists of departures -/
theorem depsN_mem (rules : List Rule) (off : List Gap) : ∀ (k : Nat) (m x : Int), x ∈ depsN rules off m k ↔ m ≤ x ∧ x < m + k ∧ departs rules off x = true
  | 0, m, x => by simp [depsN]; omega
  | k + 1, m, x => by
    simp only [depsN, List.mem_append, depsN_mem rules off k]
    cases hd : departs rules off m with
    | true =>
      simp only [if_true, List.mem_singleton]
      constructor
      · rintro (rfl | ⟨a, b, c⟩)
        · exact ⟨by omega, by omega, hd⟩
        · exact ⟨by omega, by omega, c⟩
      · rintro ⟨a, b, c⟩
        by_cases e : x = m
        · exact .inl e
        · exact .inr ⟨by omega, by omega, c⟩
    | false =>
      simp only [Bool.false_eq_true, if_false, List.not_mem_nil, false_or]
      constructor
      · rintro ⟨a, b, c⟩; exact ⟨by omega, by omega, c⟩
      · rintro ⟨a, b, c⟩
        have : x ≠ m := fun e => by rw [e, hd] at c; cases c
        exact ⟨by omega, by omega, c⟩
theorem deps_mem {rules : List Rule} {off : List Gap} {a b x : Int} (hab : a ≤ b) : x ∈ deps rules off a b ↔ a ≤ x ∧ x < b ∧ departs rules off x = true := by
  unfold deps; rw [depsN_mem]
  constructor <;> rintro ⟨h1, h2, h3⟩ <;> exact ⟨h1, by omega, h3⟩
theorem depsN_sorted (rules : List Rule) (off : List Gap) : ∀ (k : Nat) (m : Int), (depsN rules off m k).Pairwise (· < ·)
  | 0, _ => List.Pairwise.nil
  | k + 1, m => by
    simp only [depsN]
    split
    · refine List.pairwise_cons.2 ⟨fun x hx => ?_, depsN_sorted rules off k (m + 1)⟩
      have := (depsN_mem rules off k (m + 1) x).1 hx
      omega
    · simpa using depsN_sorted rules off k (m + 1)
theorem deps_sorted (rules : List Rule) (off : List Gap) (a b : Int) : (deps rules off a b).Pairwise (· < ·) := depsN_sorted _ _ _ _
theorem depsN_append (rules : List Rule) (off : List Gap) : ∀ (j k : Nat) (m : Int), depsN rules off m (j + k) = depsN rules off m j ++ depsN rules off (m + j) k
  | 0, k, m => by simp [depsN]
  | j + 1, k, m => by
    rw [show j + 1 + k = (j + k) + 1 by omega]
    simp only [depsN, depsN_append rules off j k (m + 1), List.append_assoc]
    congr 3; push_cast; omega
theorem deps_append {rules : List Rule} {off : List Gap} {a b c : Int} (h1 : a ≤ b) (h2 : b ≤ c) : deps rules off a c = deps rules off a b ++ deps rules off b c := by
  unfold deps
  rw [show (c - a).toNat = (b - a).toNat + (c - b).toNat by omega, depsN_append]
  congr 2; omega
/-- one departure after the other -/
theorem deps_nxt {rules : List Rule} {off : List Gap} {a b : Int} (hb : b ≤ 2097152) :
    deps rules off a b = if nxt rules off a < b then nxt rules off a :: deps rules off (nxt rules off a + 1) b else [] := by
  by_cases hab : a ≤ b
  · have none : ∀ c, a ≤ c → c ≤ b → (∀ x, a ≤ x → x < c → departs rules off x = false) → deps rules off a c = [] := fun c h1 h2 h3 => by
      rw [List.eq_nil_iff_forall_not_mem]
      intro x hx
      rw [deps_mem h1] at hx
      rw [h3 x hx.1 hx.2.1] at hx
      cases hx.2.2
    split
    · rename_i hlt
      rcases nxt_spec rules off a with ⟨h1, _⟩ | ⟨h1, h2, h3, h4⟩
      · omega
      · rw [deps_append h1 (show nxt rules off a ≤ b by omega), none _ h1 (by omega) h4, deps_append (show nxt rules off a ≤ nxt rules off a + 1 by omega) (show nxt rules off a + 1 ≤ b by omega)]
        have : deps rules off (nxt rules off a) (nxt rules off a + 1) = [nxt rules off a] := by
          unfold deps
          rw [show (nxt rules off a + 1 - nxt rules off a).toNat = 1 by omega]
          simp [depsN, h3]
        rw [this]; rfl
    · rename_i hge
      refine none b hab (Int.le_refl _) fun x h1 h2 => ?_
      rcases nxt_spec rules off a with ⟨_, h⟩ | ⟨_, _, _, h⟩
      · exact h x h1 (by omega)
      · exact h x h1 (by omega)
  · have h1 : deps rules off a b = [] := by unfold deps; rw [show (b - a).toNat = 0 by omega]; rfl
    rw [h1, if_neg]
    rcases nxt_spec rules off a with ⟨h, _⟩ | ⟨h, _⟩ <;> omega

/-! ### What the functions answer -/
def moments (rules : List Rule) (off : List Gap) (a b : Int) : List Int × Int :=
  if chk rules off ≠ 0 then ([], chk rules off) else if a < 0 ∨ b < a ∨ 2097152 < b then ([], 1) else if 2000 < (deps rules off a b).length then ([], 2) else (deps rules off a b, 0)
def next (rules : List Rule) (off : List Gap) (a : Int) : Int × Bool × Int :=
  if chk rules off ≠ 0 then (0, false, chk rules off) else if a < 0 ∨ 2097152 < a then (0, false, 1) else if nxt rules off a < 2097152 then (nxt rules off a, true, 0) else (0, false, 0)
end Cal
end Go.Fk
