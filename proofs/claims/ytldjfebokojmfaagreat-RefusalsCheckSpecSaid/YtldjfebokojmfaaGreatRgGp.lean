import Derived.Test.YtldjfebokojmfaaGreatRgGa
namespace Go.Fk
open Go
namespace Cal
def rOk (r : Rule) : Bool := decide (0 ≤ r.First ∧ r.First < r.Until ∧ r.Until ≤ 2097152 ∧ 1 ≤ r.Every ∧ r.Every ≤ 2097152)
def gOk : Int → List Gap → Bool
  | _, [] => true
  | b, g :: r => decide (b < g.From ∧ g.From < g.Until ∧ g.Until ≤ 2097152) && gOk g.Until r
def chk (rules : List Rule) (off : List Gap) : Int :=
  if 16 < rules.length ∨ 64 < off.length then 2 else if rules.all rOk && gOk (-1) off then 0 else 190
theorem all_drop (l : List Rule) (k : Nat) (h : k < l.length) : (l.drop k).all rOk = (rOk l[k] && (l.drop (k + 1)).all rOk) := by
  rw [List.drop_eq_getElem_cons h, List.all_cons]
theorem gOk_drop (b : Int) (l : List Gap) (k : Nat) (h : k < l.length) : gOk b (l.drop k) = (decide (b < l[k].From ∧ l[k].From < l[k].Until ∧ l[k].Until ≤ 2097152) && gOk l[k].Until (l.drop (k + 1))) := by
  rw [List.drop_eq_getElem_cons h]; rfl
structure Ok (rules : List Rule) (off : List Gap) : Prop where
  nr : rules.length ≤ 16
  no : off.length ≤ 64
  r : ∀ x ∈ rules, 0 ≤ x.First ∧ x.First < x.Until ∧ x.Until ≤ 2097152 ∧ 1 ≤ x.Every ∧ x.Every ≤ 2097152
  g : ∀ x ∈ off, 0 ≤ x.From ∧ x.From < x.Until ∧ x.Until ≤ 2097152
theorem gOk_all : ∀ (l : List Gap) (b : Int), -1 ≤ b → gOk b l = true → ∀ x ∈ l, b < x.From ∧ x.From < x.Until ∧ x.Until ≤ 2097152
  | [], _, _, _, _, h => by cases h
  | g :: r, b, hb, hg, x, hx => by
    simp only [gOk, Bool.and_eq_true, decide_eq_true_eq] at hg
    rcases List.mem_cons.1 hx with rfl | hx
    · exact hg.1
    · have := gOk_all r g.Until (by omega) hg.2 x hx
      omega
theorem chk_ok {rules : List Rule} {off : List Gap} (h : chk rules off = 0) : Ok rules off := by
  unfold chk at h
  split at h
  · simp at h
  · rename_i hl
    split at h
    · rename_i hc
      simp only [Bool.and_eq_true, List.all_eq_true] at hc
      refine ⟨by omega, by omega, fun x hx => by simpa [rOk] using hc.1 x hx, fun x hx => ?_⟩
      have := gOk_all off (-1) (by omega) hc.2 x hx
      omega
    · simp at h
def ruleAt (x : Rule) (m : Int) : Bool := decide (x.First ≤ m ∧ m < x.Until ∧ (m - x.First) % x.Every = 0)
def inGap (g : Gap) (m : Int) : Bool := decide (g.From ≤ m ∧ m < g.Until)
def departs (rules : List Rule) (off : List Gap) (m : Int) : Bool := !off.any (inGap · m) && rules.any (ruleAt · m)
def depsN (rules : List Rule) (off : List Gap) (m : Int) : Nat → List Int
  | 0 => []
  | k + 1 => (if departs rules off m then [m] else []) ++ depsN rules off (m + 1) k
def deps (rules : List Rule) (off : List Gap) (a b : Int) : List Int := depsN rules off a (b - a).toNat
def nxtN (rules : List Rule) (off : List Gap) (m : Int) : Nat → Int
  | 0 => 2097152
  | k + 1 => if departs rules off m then m else nxtN rules off (m + 1) k
def nxt (rules : List Rule) (off : List Gap) (m : Int) : Int := nxtN rules off m (2097152 - m).toNat
theorem nxt_self {rules : List Rule} {off : List Gap} {m : Int} (h : m < 2097152) (hd : departs rules off m = true) : nxt rules off m = m := by
  unfold nxt
  obtain ⟨k, hk⟩ : ∃ k, (2097152 - m).toNat = k + 1 := ⟨(2097152 - m).toNat - 1, by omega⟩
  rw [hk]; simp [nxtN, hd]
theorem nxt_step {rules : List Rule} {off : List Gap} {m : Int} (h : m < 2097152) (hd : departs rules off m = false) : nxt rules off m = nxt rules off (m + 1) := by
  unfold nxt
  obtain ⟨k, hk⟩ : ∃ k, (2097152 - m).toNat = k + 1 := ⟨(2097152 - m).toNat - 1, by omega⟩
  rw [hk, show (2097152 - (m + 1)).toNat = k by omega]; simp [nxtN, hd]
theorem nxt_end {rules : List Rule} {off : List Gap} {m : Int} (h : 2097152 ≤ m) : nxt rules off m = 2097152 := by
  unfold nxt; rw [show (2097152 - m).toNat = 0 by omega]; rfl
theorem nxt_skip {rules : List Rule} {off : List Gap} {m t : Int} (hmt : m ≤ t) (ht : t ≤ 2097152) (h : ∀ x, m ≤ x → x < t → departs rules off x = false) : nxt rules off m = nxt rules off t := by
  obtain ⟨k, hk⟩ : ∃ k : Nat, t = m + k := ⟨(t - m).toNat, by omega⟩
  subst hk
  induction k generalizing m with
  | zero => simp
  | succ k ih =>
    rw [nxt_step (by omega) (h m (by omega) (by omega)), ih (m := m + 1) (by omega) (by omega) (fun x h1 h2 => h x (by omega) (by omega))]
    congr 1; omega
theorem nxt_spec (rules : List Rule) (off : List Gap) (m : Int) : (nxt rules off m = 2097152 ∧ ∀ x, m ≤ x → x < 2097152 → departs rules off x = false) ∨
    (m ≤ nxt rules off m ∧ nxt rules off m < 2097152 ∧ departs rules off (nxt rules off m) = true ∧ ∀ x, m ≤ x → x < nxt rules off m → departs rules off x = false) := by
  have key : ∀ (k : Nat) (m : Int), 2097152 ≤ m + (k : Int) → (nxt rules off m = 2097152 ∧ ∀ x, m ≤ x → x < 2097152 → departs rules off x = false) ∨
      (m ≤ nxt rules off m ∧ nxt rules off m < 2097152 ∧ departs rules off (nxt rules off m) = true ∧ ∀ x, m ≤ x → x < nxt rules off m → departs rules off x = false) := by
    intro k
    induction k with
    | zero => intro m hm; exact .inl ⟨nxt_end (by omega), fun x h1 h2 => by omega⟩
    | succ k ih =>
      intro m hm
      by_cases h : m < 2097152
      · cases hd : departs rules off m with
        | true => rw [nxt_self h hd]; exact .inr ⟨by omega, h, hd, fun x h1 h2 => by omega⟩
        | false =>
          rw [nxt_step h hd]
          have hx : ∀ x, m ≤ x → ¬ m + 1 ≤ x → departs rules off x = false := fun x h1 h2 => by rw [show x = m by omega]; exact hd
          rcases ih (m + 1) (by omega) with ⟨h1, h2⟩ | ⟨h1, h2, h3, h4⟩
          · exact .inl ⟨h1, fun x a b => if c : m + 1 ≤ x then h2 x c b else hx x a c⟩
          · exact .inr ⟨by omega, h2, h3, fun x a b => if c : m + 1 ≤ x then h4 x c b else hx x a c⟩
      · exact .inl ⟨nxt_end (by omega), fun x h1 h2 => by omega⟩
  exact key (2097152 - m).toNat m (by omega)
def after (x : Rule) (m : Int) : Int :=
  let t := if x.First < m then x.First + (m - x.First + x.Every - 1) / x.Every * x.Every else x.First
  if x.Until ≤ t then 2097152 else t
theorem after_spec {x : Rule} (hx : 0 ≤ x.First ∧ x.First < x.Until ∧ x.Until ≤ 2097152 ∧ 1 ≤ x.Every ∧ x.Every ≤ 2097152) {m : Int} (hm : m ≤ 2097152) :
    m ≤ after x m ∧ after x m ≤ 2097152 ∧ (after x m < 2097152 → ruleAt x (after x m) = true) ∧ ∀ y, m ≤ y → y < after x m → ruleAt x y = false := by
  obtain ⟨h0, h1, h2, h3, h4⟩ := hx
  unfold after
  simp only
  -- q: the multiple
  have hq := Int.emod_add_mul_ediv (m - x.First + x.Every - 1) x.Every
  have hr0 := Int.emod_nonneg (m - x.First + x.Every - 1) (show x.Every ≠ 0 by omega)
  have hr1 := Int.emod_lt_of_pos (m - x.First + x.Every - 1) (show 0 < x.Every by omega)
  rw [Int.mul_comm] at hq
  generalize hqe : (m - x.First + x.Every - 1) / x.Every = q at hq ⊢
  have no : ∀ t y, (t - x.First) % x.Every = 0 → t - x.Every < y → y < t → ruleAt x y = false := by
    intro t y ht ha hb
    unfold ruleAt
    refine decide_eq_false fun ⟨c1, c2, c3⟩ => ?_
    obtain ⟨a, ha'⟩ := Int.dvd_of_emod_eq_zero ht
    obtain ⟨b, hb'⟩ := Int.dvd_of_emod_eq_zero c3
    have hd : t - y = x.Every * (a - b) := by rw [Int.mul_sub, ← ha', ← hb']; omega
    have h5 : 0 < x.Every * (a - b) := by omega
    have h6 : x.Every * (a - b) < x.Every * 1 := by omega
    have h7 : a - b < 1 := Int.lt_of_mul_lt_mul_left h6 (by omega)
    have h8 : 0 < a - b := by
      rcases Int.lt_or_le 0 (a - b) with h | h
      · exact h
      · have := Int.mul_nonpos_of_nonneg_of_nonpos (show 0 ≤ x.Every by omega) h
        omega
    omega
  by_cases c : x.First < m
  · simp only [if_pos c]
    have hmod : (x.First + q * x.Every - x.First) % x.Every = 0 := by
      rw [show x.First + q * x.Every - x.First = q * x.Every by omega]; exact Int.mul_emod_left _ _
    by_cases d : x.Until ≤ x.First + q * x.Every
    · rw [if_pos d]
      refine ⟨hm, Int.le_refl _, fun h => by omega, fun y ya yb => ?_⟩
      by_cases e : y < x.First + q * x.Every
      · exact no _ y hmod (by omega) e
      · unfold ruleAt; exact decide_eq_false fun ⟨_, c2, _⟩ => by omega
    · rw [if_neg d]
      refine ⟨by omega, by omega, fun _ => ?_, fun y ya yb => no _ y hmod (by omega) yb⟩
      unfold ruleAt; exact decide_eq_true ⟨by omega, by omega, hmod⟩
  · simp only [if_neg c, if_neg (show ¬ x.Until ≤ x.First by omega)]
    refine ⟨by omega, by omega, fun _ => ?_, fun y ya yb => ?_⟩
    · unfold ruleAt; exact decide_eq_true ⟨by omega, by omega, by simp⟩
    · unfold ruleAt; exact decide_eq_false fun ⟨c1, _, _⟩ => by omega
def firstR (rules : List Rule) (m : Int) : Int := rules.foldl (fun t x => min t (after x m)) 2097152
theorem firstR_take {rules : List Rule} {m : Int} {k : Nat} (h : k < rules.length) : firstR (rules.take (k + 1)) m = min (firstR (rules.take k) m) (after rules[k] m) := by
  unfold firstR
  rw [List.take_succ_eq_append_getElem h, List.foldl_append]; rfl
theorem firstR_spec {rules : List Rule} (h : ∀ x ∈ rules, 0 ≤ x.First ∧ x.First < x.Until ∧ x.Until ≤ 2097152 ∧ 1 ≤ x.Every ∧ x.Every ≤ 2097152) {m : Int} (hm : m ≤ 2097152) :
    m ≤ firstR rules m ∧ firstR rules m ≤ 2097152 ∧ (firstR rules m < 2097152 → rules.any (ruleAt · (firstR rules m)) = true) ∧ ∀ y, m ≤ y → y < firstR rules m → rules.any (ruleAt · y) = false := by
  have key : ∀ k, k ≤ rules.length → m ≤ firstR (rules.take k) m ∧ firstR (rules.take k) m ≤ 2097152 ∧ (firstR (rules.take k) m < 2097152 → (rules.take k).any (ruleAt · (firstR (rules.take k) m)) = true) ∧
      ∀ y, m ≤ y → y < firstR (rules.take k) m → (rules.take k).any (ruleAt · y) = false := by
    intro k
    induction k with
    | zero => intro _; simp [firstR]; exact hm
    | succ k ih =>
      intro hk
      obtain ⟨h1, h2, h3, h4⟩ := ih (by omega)
      obtain ⟨g1, g2, g3, g4⟩ := after_spec (h rules[k] (List.getElem_mem (by omega))) hm
      rw [firstR_take (by omega), List.take_succ_eq_append_getElem (by omega)]
      refine ⟨by omega, by omega, fun hlt => ?_, fun y ya yb => ?_⟩
      · simp only [List.any_append, List.any_cons, List.any_nil, Bool.or_false, Bool.or_eq_true]
        by_cases c : firstR (rules.take k) m ≤ after rules[k] m
        · left; rw [Int.min_eq_left c] at hlt ⊢; exact h3 hlt
        · right; rw [Int.min_eq_right (by omega)] at hlt ⊢; exact g3 hlt
      · simp only [List.any_append, List.any_cons, List.any_nil, Bool.or_false, Bool.or_eq_false_iff]
        exact ⟨h4 y ya (by omega), g4 y ya (by omega)⟩
  have := key rules.length (Nat.le_refl _)
  simpa using this
theorem departs_no_rule {rules : List Rule} {off : List Gap} {y : Int} (h : rules.any (ruleAt · y) = false) : departs rules off y = false := by simp only [departs, h, Bool.and_false]
theorem departs_in_gap {rules : List Rule} {off : List Gap} {y : Int} {g : Gap} (hg : g ∈ off) (h : inGap g y = true) : departs rules off y = false := by
  have : off.any (inGap · y) = true := List.any_eq_true.2 ⟨g, hg, h⟩
  simp only [departs, this, Bool.not_true, Bool.false_and]
theorem nxt_rules {rules : List Rule} {off : List Gap} (h : Ok rules off) {m : Int} (hm : m ≤ 2097152) : nxt rules off m = nxt rules off (firstR rules m) := by
  obtain ⟨h1, h2, _, h4⟩ := firstR_spec h.r hm
  exact nxt_skip h1 h2 fun x a b => departs_no_rule (h4 x a b)
theorem nxt_gap {rules : List Rule} {off : List Gap} (h : Ok rules off) {t : Int} {g : Gap} (hg : g ∈ off) (hi : inGap g t = true) : nxt rules off t = nxt rules off g.Until := by
  simp only [inGap, decide_eq_true_eq] at hi
  refine nxt_skip (by omega) (h.g g hg).2.2 fun x a b => departs_in_gap hg (decide_eq_true ⟨by omega, b⟩)
theorem nxt_hit {rules : List Rule} {off : List Gap} (h : Ok rules off) {m : Int} (hm : m ≤ 2097152) (ht : firstR rules m < 2097152) (hno : off.any (inGap · (firstR rules m)) = false) : nxt rules off (firstR rules m) = firstR rules m := by
  obtain ⟨_, _, h3, _⟩ := firstR_spec h.r hm
  exact nxt_self ht (by simp only [departs, hno, h3 ht, Bool.not_false, Bool.and_self])
theorem depsN_mem (rules : List Rule) (off : List Gap) : ∀ (k : Nat) (m x : Int), x ∈ depsN rules off m k ↔ m ≤ x ∧ x < m + k ∧ departs rules off x = true
  | 0, m, x => by simp [depsN]; omega
  | k + 1, m, x => by
    simp only [depsN, List.mem_append, depsN_mem rules off k]
    cases hd : departs rules off m with
    | true =>
      simp only [if_true, List.mem_singleton]
      constructor
      · rintro (rfl | ⟨a, b, c⟩)
        · exact ⟨by omega, by omega, hd⟩
        · exact ⟨by omega, by omega, c⟩
      · rintro ⟨a, b, c⟩
        by_cases e : x = m
        · exact .inl e
        · exact .inr ⟨by omega, by omega, c⟩
    | false =>
      simp only [Bool.false_eq_true, if_false, List.not_mem_nil, false_or]
      constructor
      · rintro ⟨a, b, c⟩; exact ⟨by omega, by omega, c⟩
      · rintro ⟨a, b, c⟩
        have : x ≠ m := fun e => by rw [e, hd] at c; cases c
        exact ⟨by omega, by omega, c⟩
theorem deps_mem {rules : List Rule} {off : List Gap} {a b x : Int} (hab : a ≤ b) : x ∈ deps rules off a b ↔ a ≤ x ∧ x < b ∧ departs rules off x = true := by
  unfold deps; rw [depsN_mem]
  constructor <;> rintro ⟨h1, h2, h3⟩ <;> exact ⟨h1, by omega, h3⟩
theorem depsN_sorted (rules : List Rule) (off : List Gap) : ∀ (k : Nat) (m : Int), (depsN rules off m k).Pairwise (· < ·)
  | 0, _ => List.Pairwise.nil
  | k + 1, m => by
    simp only [depsN]
    split
    · refine List.pairwise_cons.2 ⟨fun x hx => ?_, depsN_sorted rules off k (m + 1)⟩
      have := (depsN_mem rules off k (m + 1) x).1 hx
      omega
    · simpa using depsN_sorted rules off k (m + 1)
theorem deps_sorted (rules : List Rule) (off : List Gap) (a b : Int) : (deps rules off a b).Pairwise (· < ·) := depsN_sorted _ _ _ _
theorem depsN_append (rules : List Rule) (off : List Gap) : ∀ (j k : Nat) (m : Int), depsN rules off m (j + k) = depsN rules off m j ++ depsN rules off (m + j) k
  | 0, k, m => by simp [depsN]
  | j + 1, k, m => by
    rw [show j + 1 + k = (j + k) + 1 by omega]
    simp only [depsN, depsN_append rules off j k (m + 1), List.append_assoc]
    congr 3; push_cast; omega
theorem deps_append {rules : List Rule} {off : List Gap} {a b c : Int} (h1 : a ≤ b) (h2 : b ≤ c) : deps rules off a c = deps rules off a b ++ deps rules off b c := by
  unfold deps
  rw [show (c - a).toNat = (b - a).toNat + (c - b).toNat by omega, depsN_append]
  congr 2; omega
theorem deps_nxt {rules : List Rule} {off : List Gap} {a b : Int} (hb : b ≤ 2097152) :
    deps rules off a b = if nxt rules off a < b then nxt rules off a :: deps rules off (nxt rules off a + 1) b else [] := by
  by_cases hab : a ≤ b
  · have none : ∀ c, a ≤ c → c ≤ b → (∀ x, a ≤ x → x < c → departs rules off x = false) → deps rules off a c = [] := fun c h1 h2 h3 => by
      rw [List.eq_nil_iff_forall_not_mem]
      intro x hx
      rw [deps_mem h1] at hx
      rw [h3 x hx.1 hx.2.1] at hx
      cases hx.2.2
    split
    · rename_i hlt
      rcases nxt_spec rules off a with ⟨h1, _⟩ | ⟨h1, h2, h3, h4⟩
      · omega
      · rw [deps_append h1 (show nxt rules off a ≤ b by omega), none _ h1 (by omega) h4, deps_append (show nxt rules off a ≤ nxt rules off a + 1 by omega) (show nxt rules off a + 1 ≤ b by omega)]
        have : deps rules off (nxt rules off a) (nxt rules off a + 1) = [nxt rules off a] := by
          unfold deps
          rw [show (nxt rules off a + 1 - nxt rules off a).toNat = 1 by omega]
          simp [depsN, h3]
        rw [this]; rfl
    · rename_i hge
      refine none b hab (Int.le_refl _) fun x h1 h2 => ?_
      rcases nxt_spec rules off a with ⟨_, h⟩ | ⟨_, _, _, h⟩
      · exact h x h1 (by omega)
      · exact h x h1 (by omega)
  · have h1 : deps rules off a b = [] := by unfold deps; rw [show (b - a).toNat = 0 by omega]; rfl
    rw [h1, if_neg]
    rcases nxt_spec rules off a with ⟨h, _⟩ | ⟨h, _⟩ <;> omega
def moments (rules : List Rule) (off : List Gap) (a b : Int) : List Int × Int :=
  if chk rules off ≠ 0 then ([], chk rules off) else if a < 0 ∨ b < a ∨ 2097152 < b then ([], 1) else if 2000 < (deps rules off a b).length then ([], 2) else (deps rules off a b, 0)
def next (rules : List Rule) (off : List Gap) (a : Int) : Int × Bool × Int :=
  if chk rules off ≠ 0 then (0, false, chk rules off) else if a < 0 ∨ 2097152 < a then (0, false, 1) else if nxt rules off a < 2097152 then (nxt rules off a, true, 0) else (0, false, 0)
end Cal
end Go.Fk
set_option linter.unusedVariables false
namespace Go.Fk
open Go
namespace Tt
def diff : List Int → Bool
  | [] => true
  | x :: r => !r.contains x && diff r
theorem diff_iff : ∀ {l : List Int}, diff l = true ↔ ∀ j (h : j < l.length), ∀ i (h' : i < j), l[i] ≠ l[j]
  | [] => by simp [diff]
  | x :: r => by
    simp only [diff, Bool.and_eq_true, Bool.not_eq_true', List.contains_eq_mem, decide_eq_false_iff_not, diff_iff (l := r)]
    constructor
    · rintro ⟨h1, h2⟩ j hj i hi e
      cases j with
      | zero => omega
      | succ j =>
        cases i with
        | zero => simp only [List.getElem_cons_zero, List.getElem_cons_succ] at e; exact h1 (e ▸ List.getElem_mem _)
        | succ i => exact h2 j (by simpa using hj) i (by omega) (by simpa using e)
    · intro h
      refine ⟨fun hx => ?_, fun j hj i hi => ?_⟩
      · obtain ⟨k, hk, e⟩ := List.getElem_of_mem hx
        exact h (k + 1) (by simpa using hk) 0 (by omega) (by simpa using e.symm)
      · have := h (j + 1) (by simpa using hj) (i + 1) (by omega)
        simpa using this
theorem diff_take {l : List Int} : diff l = true ↔ ∀ j (h : j < l.length), (l.take j).contains l[j] = false := by
  rw [diff_iff]
  constructor
  · intro h2 j h
    simp only [List.contains_eq_mem, decide_eq_false_iff_not]
    intro hm
    obtain ⟨i, hi, e⟩ := List.getElem_of_mem hm
    simp at hi e
    exact h2 j h i (by omega) e
  · intro h j hj i hi e
    have := h j hj
    simp only [List.contains_eq_mem, decide_eq_false_iff_not] at this
    exact this (List.mem_of_getElem (i := i) (h := by simp; omega) (by simp [e]))
def sized (x : LineD) : Bool := decide (2 ≤ x.Offices.length ∧ x.Offices.length ≤ 9 ∧ x.Legs.length + 1 = x.Offices.length)
def numbers (x : LineD) : Bool := decide (1 ≤ x.Classes ∧ x.Classes ≤ 255 ∧ 1 ≤ x.Room ∧ x.Room ≤ 64)
def inR (n : Int) (o : Int) : Bool := decide (0 ≤ o ∧ o < n)
def stops (x : LineD) (n : Int) : Bool := x.Offices.all (inR n) && diff x.Offices
def legOk (n : Int) : Bool := decide (1 ≤ n ∧ n ≤ 100000)
def legs (x : LineD) : Bool := x.Legs.all legOk
def right (x : LineD) (n : Int) : Bool := sized x && numbers x && stops x n && legs x
theorem stops_take {x : LineD} {n : Int} : stops x n = true ↔ ∀ j (h : j < x.Offices.length), (0 ≤ x.Offices[j] ∧ x.Offices[j] < n) ∧ (x.Offices.take j).contains x.Offices[j] = false := by
  simp only [stops, Bool.and_eq_true, List.all_eq_true, inR, decide_eq_true_eq, diff_take]
  constructor
  · rintro ⟨h1, h2⟩ j h
    exact ⟨h1 _ (List.getElem_mem h), h2 j h⟩
  · intro h
    refine ⟨fun x hx => ?_, fun j hj => (h j hj).2⟩
    obtain ⟨j, hj, rfl⟩ := List.getElem_of_mem hx
    exact (h j hj).1
def calL : List LineD → Int
  | [] => 0
  | x :: r => if Cal.chk x.Rules x.Off ≠ 0 then Cal.chk x.Rules x.Off else calL r
def chk (t : TimeD) : Int := if 64 < t.Lines.length then 2 else if ¬ (0 ≤ t.Offices ∧ t.Offices ≤ 24) then 200 else if t.Lines.all (right · t.Offices) then calL t.Lines else 200
theorem calL_drop {l : List LineD} {k : Nat} (h : k < l.length) : calL (l.drop k) = if Cal.chk l[k].Rules l[k].Off ≠ 0 then Cal.chk l[k].Rules l[k].Off else calL (l.drop (k + 1)) := by
  rw [List.drop_eq_getElem_cons h]; rfl
theorem calL_all : ∀ {l : List LineD}, calL l = 0 → ∀ x ∈ l, Cal.chk x.Rules x.Off = 0
  | [], _, x, hx => by cases hx
  | y :: r, h, x, hx => by
    unfold calL at h
    split at h
    · rename_i h1; exact (h1 h).elim
    · rename_i h1
      rcases List.mem_cons.1 hx with rfl | hx
      · simpa using h1
      · exact calL_all h x hx
structure Ok (t : TimeD) : Prop where
  n : t.Lines.length ≤ 64
  o : 0 ≤ t.Offices ∧ t.Offices ≤ 24
  r : ∀ x ∈ t.Lines, right x t.Offices = true
  c : ∀ x ∈ t.Lines, Cal.chk x.Rules x.Off = 0
theorem chk_ok {t : TimeD} (h : chk t = 0) : Ok t := by
  unfold chk at h
  split at h
  · cases h
  · split at h
    · cases h
    · split at h
      · rename_i h1 h2 h3
        exact ⟨by omega, by omega, fun x hx => List.all_eq_true.1 h3 x hx, calL_all h⟩
      · cases h
structure LOk (x : LineD) (n : Int) : Prop where
  o2 : 2 ≤ x.Offices.length
  o9 : x.Offices.length ≤ 9
  l1 : x.Legs.length + 1 = x.Offices.length
  c : 1 ≤ x.Classes ∧ x.Classes ≤ 255
  m : 1 ≤ x.Room ∧ x.Room ≤ 64
  s : ∀ o ∈ x.Offices, 0 ≤ o ∧ o < n
  d : diff x.Offices = true
  l : ∀ k ∈ x.Legs, 1 ≤ k ∧ k ≤ 100000
theorem right_ok {x : LineD} {n : Int} (h : right x n = true) : LOk x n := by
  simp only [right, sized, numbers, stops, legs, Bool.and_eq_true, decide_eq_true_eq, List.all_eq_true, inR, legOk] at h
  obtain ⟨⟨⟨h1, h2⟩, h3, h4⟩, h5⟩ := h
  exact ⟨h1.1, h1.2.1, h1.2.2, ⟨h2.1, h2.2.1⟩, h2.2.2, h3, h4, h5⟩
def sm : List Int → Int
  | [] => 0
  | x :: r => x + sm r
theorem sm_take : ∀ (l : List Int) (i : Nat) (h : i < l.length), sm (l.take (i + 1)) = sm (l.take i) + l[i]
  | y :: r, 0, _ => by simp [sm]
  | y :: r, i + 1, h => by
    simp only [List.take_succ_cons, sm, List.getElem_cons_succ]
    rw [sm_take r i (by simpa using h)]; omega
theorem sm_bd {l : List Int} (h : ∀ k ∈ l, 1 ≤ k ∧ k ≤ 100000) : ∀ i, i ≤ l.length → (i : Int) ≤ sm (l.take i) ∧ sm (l.take i) ≤ 100000 * i := by
  intro i
  induction i with
  | zero => intro _; simp [sm]
  | succ i ih =>
    intro hi
    rw [sm_take l i hi]
    have := ih (by omega)
    have := h _ (List.getElem_mem hi)
    omega
def leng (x : LineD) : Int := sm x.Legs
def isR (t : TimeD) (r : RunD) : Bool :=
  decide (0 ≤ r.Line ∧ r.Line < t.Lines.length ∧ 0 ≤ r.At ∧ r.At < 2097152) &&
    (let x := t.Lines.getD r.Line.toNat default; Cal.departs x.Rules x.Off r.At && decide (r.Arrive = r.At + leng x ∧ r.Arrive < 2097152))
def isRun (t : TimeD) (r : RunD) : Bool := decide (chk t = 0) && isR t r
def before (a b : RunD) : Bool := decide (a.At < b.At ∨ a.At = b.At ∧ a.Line < b.Line)
abbrev bools (l : List Bool) : List Value := l.map Value.bool
def seen (n : Nat) (l : List Int) : List Bool := (List.range n).map fun (i : Nat) => l.contains (i : Int)
theorem seen_len (n : Nat) (l : List Int) : (seen n l).length = n := by simp [seen]
theorem seen_get {n : Nat} {l : List Int} {i : Nat} (h : i < (seen n l).length) : (seen n l)[i] = l.contains (i : Int) := by simp [seen]
theorem seen_set {n : Nat} {l : List Int} {o : Nat} (ho : o < n) : (seen n l).set o true = seen n (l ++ [(o : Int)]) := by
  apply List.ext_getElem (by simp [seen_len])
  intro i h1 h2
  rw [List.getElem_set, seen_get h2]
  by_cases e : o = i
  · subst e; simp
  · rw [if_neg e, seen_get (by simpa [seen_len] using h2)]
    rw [Bool.eq_iff_iff]
    simp
    omega
theorem seen_nil (n : Nat) : seen n [] = List.replicate n false := by
  apply List.ext_getElem (by simp [seen_len])
  intro i h1 h2
  rw [seen_get h1]; simp
end Tt
end Go.Fk
set_option linter.unusedVariables false
namespace Go.Fk
open Go
namespace Tf
def price (n : Int) : Bool := decide (0 ≤ n ∧ n ≤ 1048576)
def tiersOk : Int → List TierD → Bool
  | _, [] => true
  | b, x :: r => decide (b < x.From) && price x.Extra && tiersOk x.From r
def okT (f : TariffD) : Bool := decide (f.Base.length = f.Leg.length ∧ 1 ≤ f.Base.length ∧ f.Base.length ≤ 8 ∧ f.Tiers.length ≤ 16) && f.Base.all price && f.Leg.all price && tiersOk 0 f.Tiers
def chk (f : TariffD) : Int := if okT f then 0 else 210
def bef (l : List TierD) (k : Nat) : Int := if k = 0 then 0 else (l.getD (k - 1) default).From
theorem tiers_get : ∀ (l : List TierD) (b : Int), tiersOk b l = true ↔ ∀ k (h : k < l.length), (if k = 0 then b else (l.getD (k - 1) default).From) < l[k].From ∧ price l[k].Extra = true
  | [], b => by simp [tiersOk]
  | x :: r, b => by
    simp only [tiersOk, Bool.and_eq_true, decide_eq_true_eq, tiers_get r x.From]
    constructor
    · rintro ⟨⟨h1, h2⟩, h3⟩ k hk
      cases k with
      | zero => simpa using ⟨h1, h2⟩
      | succ k =>
        have := h3 k (by simpa using hk)
        cases k with
        | zero => simpa using this
        | succ k => simpa using this
    · intro h
      have h0 := h 0 (by simp)
      refine ⟨by simpa using h0, fun k hk => ?_⟩
      have := h (k + 1) (by simpa using hk)
      cases k with
      | zero => simpa using this
      | succ k => simpa using this
theorem tiers_at (l : List TierD) : tiersOk 0 l = true ↔ ∀ k (h : k < l.length), bef l k < l[k].From ∧ price l[k].Extra = true := tiers_get l 0
structure Ok (f : TariffD) : Prop where
  n : f.Base.length = f.Leg.length
  n1 : 1 ≤ f.Base.length
  n8 : f.Base.length ≤ 8
  t : f.Tiers.length ≤ 16
  b : ∀ x ∈ f.Base, 0 ≤ x ∧ x ≤ 1048576
  l : ∀ x ∈ f.Leg, 0 ≤ x ∧ x ≤ 1048576
  x : tiersOk 0 f.Tiers = true
theorem chk_ok {f : TariffD} (h : chk f = 0) : Ok f := by
  unfold chk at h
  split at h
  · rename_i h1
    simp only [okT, Bool.and_eq_true, decide_eq_true_eq, List.all_eq_true, price] at h1
    exact ⟨h1.1.1.1.1, h1.1.1.1.2.1, h1.1.1.1.2.2.1, h1.1.1.1.2.2.2, h1.1.1.2, h1.1.2, h1.2⟩
  · cases h
end Tf
end Go.Fk
set_option linter.unusedVariables false
set_option linter.unusedSimpArgs false
namespace Go.Fk
open Go
namespace Tf
def extraF (c : Int) : List TierD → Int → Int
  | [], a => a
  | x :: r, a => extraF c r (if x.From ≤ c then x.Extra else a)
def extra (f : TariffD) (c : Int) : Int := extraF c f.Tiers 0
def wrong (f : TariffD) (class_ legs crowd : Int) : Int :=
  if chk f ≠ 0 then 210 else if class_ < 0 ∨ f.Base.length ≤ class_ ∨ legs < 1 ∨ 8 < legs ∨ crowd < 1 ∨ 64 < crowd then 1 else 0
def base (f : TariffD) (class_ : Int) : Int := f.Base.getD class_.toNat 0
def leg (f : TariffD) (class_ : Int) : Int := f.Leg.getD class_.toNat 0
def pri (f : TariffD) (class_ legs crowd : Int) : Int × Int := if wrong f class_ legs crowd ≠ 0 then (0, wrong f class_ legs crowd) else (base f class_ + legs * leg f class_ + extra f crowd, 0)
theorem extraF_drop {c : Int} {l : List TierD} {k : Nat} {a : Int} (h : k < l.length) : extraF c (l.drop k) a = extraF c (l.drop (k + 1)) (if l[k].From ≤ c then l[k].Extra else a) := by
  rw [List.drop_eq_getElem_cons h]; rfl
theorem extraF_append (c : Int) : ∀ (l m : List TierD) (a : Int), extraF c (l ++ m) a = extraF c m (extraF c l a)
  | [], m, a => rfl
  | x :: r, m, a => by simp only [List.cons_append, extraF]; exact extraF_append c r m _
theorem extraF_bd {c : Int} : ∀ (l : List TierD) (a : Int), (∀ x ∈ l, price x.Extra = true) → 0 ≤ a ∧ a ≤ 1048576 → 0 ≤ extraF c l a ∧ extraF c l a ≤ 1048576
  | [], a, _, h => h
  | x :: r, a, hl, h => by
    refine extraF_bd r _ (fun y hy => hl y (List.mem_cons_of_mem _ hy)) ?_
    have := hl x (List.mem_cons_self ..)
    simp only [price, decide_eq_true_eq] at this
    split <;> omega
theorem tiers_price {l : List TierD} (h : tiersOk 0 l = true) : ∀ x ∈ l, price x.Extra = true := fun x hx => by
  obtain ⟨k, hk, rfl⟩ := List.getElem_of_mem hx
  exact ((tiers_at l).1 h k hk).2
theorem extra_bd {f : TariffD} (h : chk f = 0) (c : Int) : 0 ≤ extra f c ∧ extra f c ≤ 1048576 := extraF_bd _ _ (tiers_price (chk_ok h).x) (by omega)
theorem base_bd {f : TariffD} (h : chk f = 0) (c : Int) : 0 ≤ base f c ∧ base f c ≤ 1048576 := by
  unfold base
  rw [List.getD_eq_getElem?_getD]
  by_cases hc : c.toNat < f.Base.length
  · rw [List.getElem?_eq_getElem hc]; exact (chk_ok h).b _ (List.getElem_mem hc)
  · rw [List.getElem?_eq_none (by omega)]; simp
theorem leg_bd {f : TariffD} (h : chk f = 0) (c : Int) : 0 ≤ leg f c ∧ leg f c ≤ 1048576 := by
  unfold leg
  rw [List.getD_eq_getElem?_getD]
  by_cases hc : c.toNat < f.Leg.length
  · rw [List.getElem?_eq_getElem hc]; exact (chk_ok h).l _ (List.getElem_mem hc)
  · rw [List.getElem?_eq_none (by omega)]; simp
end Tf
namespace Pl
def agF (n : Int) : Int → List Int → Bool
  | _, [] => true
  | last, k :: r => decide (last < k ∧ k < n) && agF n k r
def oNum (o : OrderD) (n p c : Int) : Bool :=
  decide ((0 ≤ o.From ∧ o.From < n) ∧ (0 ≤ o.Dest ∧ o.Dest < n) ∧ (0 ≤ o.Person ∧ o.Person < p) ∧ (0 ≤ o.Class ∧ o.Class < c) ∧ (0 ≤ o.After ∧ o.After < o.By) ∧ o.By < 2097152 ∧ (1 ≤ o.Crowd ∧ o.Crowd ≤ 64) ∧ (0 ≤ o.Pay ∧ o.Pay ≤ 1099511627776) ∧ (0 ≤ o.Else ∧ o.Else ≤ 2) ∧ o.From ≠ o.Dest)
def oright (o : OrderD) (n p c : Int) : Bool := oNum o n p c && agF n (-1) o.Against
theorem agF_drop {n : Int} {l : List Int} {k : Nat} {a : Int} (h : k < l.length) : agF n a (l.drop k) = (decide (a < l[k] ∧ l[k] < n) && agF n l[k] (l.drop (k + 1))) := by
  rw [List.drop_eq_getElem_cons h]; rfl
def lineR (t : TimeD) (r : RunD) : LineD := t.Lines.getD r.Line.toNat default
def c0 (x : LineD) (o : OrderD) : Bool := iand .i64 (x.Classes.fdiv (2 ^ (min o.Class.toNat 64))) 1 == 1
def c1 (x : LineD) (o : OrderD) : Bool := decide (x.Offices.getD 0 0 = o.From) && decide (x.Offices.getD (x.Offices.length - 1) 0 = o.Dest)
def c2 (o : OrderD) (r : RunD) : Bool := decide (o.After ≤ r.At) && decide (r.Arrive ≤ o.By)
def c3 (f : TariffD) (x : LineD) (o : OrderD) : Bool := decide ((Tf.pri f o.Class x.Legs.length o.Crowd).1 ≤ o.Pay)
def c4 (x : LineD) (o : OrderD) : Bool := decide (o.Crowd < x.Room)
def c5 (x : LineD) (o : OrderD) : Bool := x.Offices.any fun k => !o.Against.contains k
def fits (t : TimeD) (f : TariffD) (o : OrderD) (r : RunD) : Bool := c0 (lineR t r) o && c1 (lineR t r) o && c2 o r && c3 f (lineR t r) o && c4 (lineR t r) o && c5 (lineR t r) o
def err (t : TimeD) (f : TariffD) (l : List OrderD) : Int :=
  if Tt.chk t ≠ 0 then Tt.chk t else if Tf.chk f ≠ 0 then Tf.chk f else if 64 < l.length then 220 else if l.all (fun o => oright o t.Offices 1024 f.Base.length) then 0 else 220
structure Ok (T : TimeD) (F : TariffD) (l : List OrderD) : Prop where
  t : Tt.chk T = 0
  f : Tf.chk F = 0
  n : l.length ≤ 64
  o : ∀ o ∈ l, oright o T.Offices 1024 F.Base.length = true
theorem err_ok {t : TimeD} {f : TariffD} {l : List OrderD} (h : err t f l = 0) : Ok t f l := by
  unfold err at h
  by_cases h1 : Tt.chk t = 0
  · rw [if_neg (by simp [h1])] at h
    by_cases h2 : Tf.chk f = 0
    · rw [if_neg (by simp [h2])] at h
      by_cases h3 : 64 < l.length
      · rw [if_pos h3] at h; cases h
      · rw [if_neg h3] at h
        by_cases h4 : l.all (fun o => oright o t.Offices 1024 f.Base.length) = true
        · exact ⟨h1, h2, by omega, fun o ho => List.all_eq_true.1 h4 o ho⟩
        · rw [if_neg h4] at h; cases h
    · rw [if_pos (by simpa using h2)] at h; exact (h2 h).elim
  · rw [if_pos (by simpa using h1)] at h; exact (h1 h).elim
structure LoadD where
  n : Int
  c : Int
  deriving DecidableEq
def LoadD.zero : LoadD := ⟨0, 0⟩
def LoadD.wth (x : LoadD) (o : OrderD) : LoadD := ⟨x.n + 1, max x.c (o.Crowd + 1)⟩
def LoadD.covers (x : LoadD) : Int := max 0 (x.c - x.n)
def loadF (r : RunD) : List OrderD → List RunD → LoadD → LoadD
  | o :: l, s :: of, a => loadF r l of (if s = r then a.wth o else a)
  | _, _, a => a
def load (l : List OrderD) (of : List RunD) (r : RunD) : LoadD := loadF r l of .zero
theorem loadF_append (r : RunD) (s : RunD) (o : OrderD) : ∀ (l : List OrderD) (of : List RunD) (a : LoadD), l.length = of.length → ∀ l', loadF r (l ++ o :: l') (of ++ [s]) a = if s = r then (loadF r l of a).wth o else loadF r l of a
  | [], [], a, _, l' => by cases l' <;> simp [loadF]
  | [], _ :: _, a, h, _ => by simp at h
  | _ :: _, [], a, h, _ => by simp at h
  | x :: l, y :: of, a, h, l' => by
    simp only [List.cons_append, loadF]
    exact loadF_append r s o l of _ (by simpa using h) l'
theorem loadF_more (r : RunD) : ∀ (l : List OrderD) (of : List RunD) (a : LoadD) (l' : List OrderD), of.length ≤ l.length → loadF r (l ++ l') of a = loadF r l of a
  | [], [], a, l', _ => by cases l' <;> rfl
  | [], _ :: _, a, _, h => by simp at h
  | x :: l, [], a, l', _ => rfl
  | x :: l, y :: of, a, l', h => by
    simp only [List.cons_append, loadF]
    exact loadF_more r l of _ l' (by simpa using h)
theorem load_snoc {l : List OrderD} {of : List RunD} (h : of.length < l.length) (s r : RunD) : load l (of ++ [s]) r = if s = r then (load l of r).wth l[of.length] else load l of r := by
  have e : l = l.take of.length ++ l[of.length] :: l.drop (of.length + 1) := by
    rw [List.getElem_cons_drop, List.take_append_drop]
  have hl : (l.take of.length).length = of.length := by simp; omega
  have h1 := loadF_append r s l[of.length] (l.take of.length) of .zero hl (l.drop (of.length + 1))
  rw [← e] at h1
  have h2 := loadF_more r (l.take of.length) of .zero (l[of.length] :: l.drop (of.length + 1)) (by omega)
  rw [← e] at h2
  unfold load
  rw [h1, h2]
theorem loadF_bd (r : RunD) : ∀ (l : List OrderD) (of : List RunD) (a : LoadD), (∀ o ∈ l, 1 ≤ o.Crowd ∧ o.Crowd ≤ 64) → 0 ≤ a.n → 0 ≤ a.c ∧ a.c ≤ 65 → a.n ≤ (loadF r l of a).n ∧ (loadF r l of a).n ≤ a.n + l.length ∧ 0 ≤ (loadF r l of a).c ∧ (loadF r l of a).c ≤ 65
  | [], of, a, _, h0, h1 => by cases of <;> simp [loadF] <;> omega
  | o :: l, [], a, _, h0, h1 => by simp [loadF]; omega
  | o :: l, s :: of, a, hc, h0, h1 => by
    have hh := hc o (List.mem_cons_self ..)
    simp only [loadF, List.length_cons]
    have := loadF_bd r l of (if s = r then a.wth o else a) (fun x hx => hc x (List.mem_cons_of_mem _ hx)) (by split <;> (try simp only [LoadD.wth]) <;> omega) (by split <;> (try simp only [LoadD.wth]) <;> omega)
    have e : a.n ≤ (if s = r then a.wth o else a).n ∧ (if s = r then a.wth o else a).n ≤ a.n + 1 := by split <;> (try simp only [LoadD.wth]) <;> omega
    omega
theorem load_bd {l : List OrderD} (h : ∀ o ∈ l, 1 ≤ o.Crowd ∧ o.Crowd ≤ 64) (of : List RunD) (r : RunD) : 0 ≤ (load l of r).n ∧ (load l of r).n ≤ l.length ∧ 0 ≤ (load l of r).c ∧ (load l of r).c ≤ 65 := by
  have := loadF_bd r l of .zero h (by simp [LoadD.zero]) (by simp [LoadD.zero])
  simp only [LoadD.zero, Int.zero_add] at this
  exact this
def runP (t : TimeD) (p : PlanD) (k : Nat) : Bool := Tt.isRun t (p.Runs.getD k default) && (decide (k = 0) || Tt.before (p.Runs.getD (k - 1) default) (p.Runs.getD k default))
def runsOk (t : TimeD) (p : PlanD) : Bool := (List.range p.Runs.length).all (runP t p)
def ofP (t : TimeD) (f : TariffD) (l : List OrderD) (p : PlanD) (k : Nat) : Bool :=
  decide (0 ≤ p.Of.getD k 0 ∧ p.Of.getD k 0 < p.Runs.length) && fits t f (l.getD k default) (p.Runs.getD (p.Of.getD k 0).toNat default)
def ofsOk (t : TimeD) (f : TariffD) (l : List OrderD) (p : PlanD) : Bool := (List.range l.length).all (ofP t f l p)
def ofs (p : PlanD) : List RunD := p.Of.map fun k => p.Runs.getD k.toNat default
def covP (t : TimeD) (l : List OrderD) (p : PlanD) (k : Nat) : Bool :=
  let x := load l (ofs p) (p.Runs.getD k default)
  decide (x.n ≠ 0 ∧ p.Covers.getD k 0 = x.covers ∧ max x.n x.c ≤ (lineR t (p.Runs.getD k default)).Room)
def covsOk (t : TimeD) (l : List OrderD) (p : PlanD) : Bool := (List.range p.Runs.length).all (covP t l p)
def sum : List Int → Int
  | [] => 0
  | x :: r => x + sum r
def good (t : TimeD) (f : TariffD) (l : List OrderD) (covers : Int) (p : PlanD) : Bool :=
  decide (p.Of.length = l.length ∧ p.Covers.length = p.Runs.length) && runsOk t p && ofsOk t f l p && covsOk t l p && decide (sum p.Covers ≤ covers)
def check (t : TimeD) (f : TariffD) (l : List OrderD) (covers : Int) (p : PlanD) : Bool × Int := if err t f l ≠ 0 then (false, err t f l) else (good t f l covers p, 0)
theorem sum_take : ∀ (l : List Int) (i : Nat) (h : i < l.length), sum (l.take (i + 1)) = sum (l.take i) + l[i]
  | y :: r, 0, _ => by simp [sum]
  | y :: r, i + 1, h => by
    simp only [List.take_succ_cons, sum, List.getElem_cons_succ]
    rw [sum_take r i (by simpa using h)]; omega
end Pl
end Go.Fk
namespace Go.Fk
open Go
namespace Bk
def mOk (m : MoveD) (i : Int) : Bool := decide (m.No = i ∧ 0 ≤ m.From ∧ m.From ≤ 114 ∧ 0 ≤ m.To ∧ m.To ≤ 114 ∧ m.From ≠ m.To ∧ 0 ≤ m.Amount ∧ m.Amount ≤ 1099511627776 ∧ 1 ≤ m.Why ∧ m.Why ≤ 9 ∧ -1 ≤ m.Run ∧ m.Run ≤ 1999)
def allOk : Int → List MoveD → Bool
  | _, [] => true
  | i, m :: r => mOk m i && allOk (i + 1) r
def chk (l : List MoveD) : Int := if 4096 < l.length then 2 else if allOk 0 l then 0 else 380
def lo (b : List Int) (k : Int) : Int := b.getD k.toNat 0
def step (b : List Int) (m : MoveD) : List Int :=
  let b1 := b.set m.From.toNat (lo b m.From - m.Amount)
  b1.set m.To.toNat (lo b1 m.To + m.Amount)
def after (b : List Int) (l : List MoveD) : List Int := l.foldl step b
def startOk (s : List Int) : Bool := decide (s.length = 115) && s.all fun n => decide (0 ≤ n ∧ n ≤ 1125899906842624)
def paid (b : List Int) (m : MoveD) : Bool := decide (m.From = 0) || decide (0 ≤ lo b m.From)
def bad (b : List Int) : Nat → List MoveD → Option Nat
  | _, [] => none
  | i, m :: r => if paid (step b m) m then bad (step b m) (i + 1) r else some i
def wrong (s : List Int) (l : List MoveD) : Int := if chk l ≠ 0 then chk l else if startOk s then 0 else 1
def first (s : List Int) (l : List MoveD) : Int × Bool × Int :=
  if wrong s l ≠ 0 then (0, false, wrong s l) else match bad s 0 l with
    | some i => ((i : Int), true, 0)
    | none => (0, false, 0)
end Bk
end Go.Fk
