/- Chapter 40: what a fund's moves lead to, in plain Lean. No program in sight. -/
import Derived.Test.YtoadfmgnpmcbfaaGreatP40
import Derived.Test.YtoadfmgnpmcbfaaGreatP38
set_option linter.unusedVariables false
set_option linter.unusedSimpArgs false
namespace Go.Fk
open Go
namespace Fd
open Bk (lo)
/-- moves out of the fund -/
def Out (l : List MoveD) : Prop := ∀ m ∈ l, m.From = 1 ∧ m.To ≠ 1
def tot : List MoveD → Int
  | [] => 0
  | m :: r => m.Amount + tot r
def got (j : Int) : List MoveD → Int
  | [] => 0
  | m :: r => (if m.To = j then m.Amount else 0) + got j r
theorem tot_append (a b : List MoveD) : tot (a ++ b) = tot a + tot b := by
  induction a with
  | nil => simp [tot]
  | cons m a ih => simp only [List.cons_append, tot, ih]; omega
theorem got_append (j : Int) (a b : List MoveD) : got j (a ++ b) = got j a + got j b := by
  induction a with
  | nil => simp [got]
  | cons m a ih => simp only [List.cons_append, got, ih]; omega
theorem out_after : ∀ (l : List MoveD) (s : List Int) (i : Int), s.length = 115 → Out l → Bk.allOk i l = true →
    lo (Bk.after s l) 1 = lo s 1 - tot l ∧ ∀ j, 0 ≤ j → j ≠ 1 → lo (Bk.after s l) j = lo s j + got j l
  | [], s, i, hs, ho, ha => ⟨by simp [Bk.after, tot], fun j _ _ => by simp [Bk.after, got]⟩
  | m :: r, s, i, hs, ho, ha => by
    simp only [Bk.allOk, Bool.and_eq_true] at ha
    obtain ⟨h1, h2⟩ := ho m (by simp)
    obtain ⟨e1, e2⟩ := out_after r (Bk.step s m) (i + 1) (by rw [Bk.step_len, hs]) (fun x hx => ho x (by simp [hx])) ha.2
    have L := fun k hk => Bk.lo_step hs ha.1 (k := k) hk
    refine ⟨?_, fun j hj hj1 => ?_⟩
    · show lo (Bk.after (Bk.step s m) r) 1 = _
      rw [e1, L 1 (by omega), if_pos h1, if_neg h2]
      simp only [tot]; omega
    · show lo (Bk.after (Bk.step s m) r) j = _
      rw [e2 j hj hj1, L j hj, if_neg (by omega)]
      simp only [got]; omega
theorem allOk_take : ∀ (l : List MoveD) (i : Int) (k : Nat), Bk.allOk i l = true → Bk.allOk i (l.take k) = true
  | _, _, 0, _ => by simp [Bk.allOk]
  | [], _, k + 1, _ => by simp [Bk.allOk]
  | m :: r, i, k + 1, h => by
    simp only [Bk.allOk, Bool.and_eq_true, List.take_succ_cons] at h ⊢
    exact ⟨h.1, allOk_take r (i + 1) k h.2⟩
theorem nonneg {l : List MoveD} {i : Int} (h : Bk.allOk i l = true) : ∀ m ∈ l, 0 ≤ m.Amount := fun m hm => by
  obtain ⟨k, hk, rfl⟩ := List.getElem_of_mem hm
  have := Bk.allOk_get hk h
  simp only [Bk.mOk, decide_eq_true_eq] at this
  omega
theorem tot_nonneg : ∀ (l : List MoveD), (∀ m ∈ l, 0 ≤ m.Amount) → 0 ≤ tot l
  | [], _ => by simp [tot]
  | m :: r, h => by
    have := tot_nonneg r fun x hx => h x (by simp [hx])
    have := h m (by simp)
    simp only [tot]; omega
theorem got_nonneg (j : Int) : ∀ (l : List MoveD), (∀ m ∈ l, 0 ≤ m.Amount) → 0 ≤ got j l
  | [], _ => by simp [got]
  | m :: r, h => by
    have := got_nonneg j r fun x hx => h x (by simp [hx])
    have := h m (by simp)
    simp only [got]; split <;> omega
theorem tot_take {l : List MoveD} (h : ∀ m ∈ l, 0 ≤ m.Amount) (k : Nat) : tot (l.take k) ≤ tot l := by
  have e := tot_append (l.take k) (l.drop k)
  rw [List.take_append_drop] at e
  have := tot_nonneg (l.drop k) fun m hm => h m (List.mem_of_mem_drop hm)
  omega
/-- a fund pays what it has -/
theorem pays {s : List Int} {l : List MoveD} (hs : Bk.startOk s = true) (hc : Bk.chk l = 0) (ho : Out l) : Bk.balances s l = if tot l ≤ lo s 1 then (Bk.after s l, 0) else ([], 381) := by
  have ha : Bk.allOk 0 l = true := by
    unfold Bk.chk at hc
    split at hc
    · cases hc
    · split at hc
      · assumption
      · cases hc
  have hw : Bk.wrong s l = 0 := by unfold Bk.wrong; rw [if_neg (by simp [hc]), if_pos hs]
  have hsl : s.length = 115 := by
    simp only [Bk.startOk, Bool.and_eq_true, decide_eq_true_eq] at hs; exact hs.1
  have hp := Bk.pos_start hs
  have hn := nonneg ha
  have hb := Bk.bad_none l s 0 0 hsl hp ha
  have key : ∀ k, Bk.Pos (Bk.after s (l.take k)) ↔ tot (l.take k) ≤ lo s 1 := fun k => by
    have A := out_after (l.take k) s 0 hsl (fun m hm => ho m (List.mem_of_mem_take hm)) (allOk_take l 0 k ha)
    constructor
    · intro h
      have := h 1 (by omega) (by omega)
      rw [A.1] at this; omega
    · intro h j j0 j1
      by_cases e : j = 1
      · subst e; rw [A.1]; omega
      · rw [A.2 j (by omega) e]
        have := hp j j0 j1
        have := got_nonneg j (l.take k) fun m hm => hn m (List.mem_of_mem_take hm)
        omega
  unfold Bk.balances
  rw [if_neg (by simp [hw])]
  by_cases h : tot l ≤ lo s 1
  · rw [if_pos h]
    have : Bk.bad s 0 l = none := hb.2 fun k hk => (key k).2 (by have := tot_take hn k; omega)
    rw [this]
  · rw [if_neg h]
    cases hbad : Bk.bad s 0 l with
    | some i => rfl
    | none =>
      have := (key l.length).1 (hb.1 hbad l.length (Nat.le_refl _))
      rw [List.take_length] at this
      exact (h this).elim
def zs : List Int := List.replicate 115 0
theorem zs_lo {a j : Int} (hj : 0 ≤ j) : lo (zs.set 1 a) j = if j = 1 then a else 0 := by
  have := Bk.lo_set (b := zs) (i := 1) (x := a) hj (by simp [zs])
  rw [this]
  by_cases e : j = 1
  · rw [if_pos e, if_pos (by omega)]
  · rw [if_neg e, if_neg (by omega)]
    unfold lo zs
    rw [List.getD_eq_getElem?_getD, List.getElem?_replicate]
    split <;> rfl
theorem zs_ok {a : Int} (h0 : 0 ≤ a) (h1 : a ≤ 1125899906842624) : Bk.startOk (zs.set 1 a) = true := by
  simp only [Bk.startOk, Bool.and_eq_true, decide_eq_true_eq, List.all_eq_true]
  refine ⟨by simp [zs], fun x hx => ?_⟩
  rcases List.mem_or_eq_of_mem_set hx with h | rfl
  · have : x = 0 := by simpa [zs] using h
    omega
  · omega
/-! shares -/
theorem sha_tot (a s : Int) : ∀ n, tot (shares a s n) = n * (a / s) + min (n : Int) (a % s) ∨ a % s < 0
  | 0 => by
    by_cases h : a % s < 0
    · exact .inr h
    · left; simp [shares, tot]; omega
  | n + 1 => by
    rcases sha_tot a s n with h | h
    · by_cases h' : a % s < 0
      · exact .inr h'
      left
      rw [shares_succ, tot_append, h]
      simp only [tot, shaM, part]
      rw [show ((n + 1 : Nat) : Int) * (a / s) = n * (a / s) + a / s by rw [Int.natCast_add, Int.add_mul]; simp]
      generalize (n : Int) * (a / s) = x
      generalize a / s = y
      split <;> omega
    · exact .inr h
theorem sha_all {a s : Int} (h1 : 1 ≤ s) : tot (shares a s s.toNat) = a := by
  have hm := Int.emod_nonneg a (show s ≠ 0 by omega)
  have hl := Int.emod_lt_of_pos a (show 0 < s by omega)
  rcases sha_tot a s s.toNat with h | h
  · rw [h, Int.toNat_of_nonneg (by omega), Int.min_eq_right (by omega)]
    exact Int.mul_ediv_add_emod a s
  · omega
theorem sha_got (a s : Int) (k : Nat) : ∀ n, got (51 + (k : Int)) (shares a s n) = if k < n then part a s k else 0
  | 0 => by simp [shares, got]
  | n + 1 => by
    rw [shares_succ, got_append, sha_got a s k n]
    have e1 : got (51 + (k : Int)) [shaM a s n] = if n = k then part a s k else 0 := by
      show (if 51 + (n : Int) = 51 + (k : Int) then part a s n else 0) + 0 = _
      by_cases e : n = k
      · subst e; rw [if_pos rfl, if_pos rfl, Int.add_zero]
      · rw [if_neg (by omega), if_neg e]; rfl
    rw [e1]
    by_cases e : n = k
    · subst e
      rw [if_neg (by omega), if_pos rfl, if_pos (by omega)]; omega
    · rw [if_neg e]
      by_cases h : k < n
      · rw [if_pos h, if_pos (by omega)]; omega
      · rw [if_neg h, if_neg (by omega)]; omega
theorem sha_out (a s : Int) (n : Nat) : Out (shares a s n) := fun m hm => by
  obtain ⟨k, hk, rfl⟩ := List.getElem_of_mem hm
  rw [shares_get]
  exact ⟨rfl, by simp only [shaM]; omega⟩
theorem allOk_of : ∀ (l : List MoveD) (i : Int), (∀ k (h : k < l.length), Bk.mOk l[k] (i + k) = true) → Bk.allOk i l = true
  | [], _, _ => rfl
  | m :: r, i, h => by
    simp only [Bk.allOk, Bool.and_eq_true]
    have h0 := h 0 (by simp)
    simp only [List.getElem_cons_zero] at h0
    rw [show i + ((0 : Nat) : Int) = i by omega] at h0
    refine ⟨h0, allOk_of r (i + 1) fun k hk => ?_⟩
    have := h (k + 1) (by simpa using hk)
    simp only [List.getElem_cons_succ] at this
    rw [show i + 1 + (k : Int) = i + ((k + 1 : Nat) : Int) by omega]; exact this
theorem sha_chk {a s : Int} (h0 : 0 ≤ a) (h1 : a ≤ 1099511627776) (h2 : 1 ≤ s) (h3 : s ≤ 64) : Bk.chk (shares a s s.toNat) = 0 := by
  unfold Bk.chk
  rw [if_neg (by rw [shares_len]; omega), if_pos]
  refine allOk_of _ _ fun k hk => ?_
  rw [shares_get]
  rw [shares_len] at hk
  have hpb : 0 ≤ part a s k ∧ part a s k ≤ 1099511627776 := by
    have hq : 0 ≤ a / s := Int.ediv_nonneg h0 (by omega)
    have hm := Int.emod_nonneg a (show s ≠ 0 by omega)
    have hle : a / s ≤ a := Int.ediv_le_self s h0
    have hmul := Int.mul_ediv_add_emod a s
    unfold part
    by_cases hs1 : s = 1
    · subst hs1
      simp only [Int.ediv_one, Int.emod_one] at *
      split <;> omega
    · have h22 : 2 * (a / s) ≤ s * (a / s) := Int.mul_le_mul_of_nonneg_right (by omega) hq
      split <;> omega
  unfold Bk.mOk
  apply decide_eq_true
  simp only [shaM]
  omega
/-! covers -/
theorem cov_tot (n run : Int) (l : List Int) : tot (covs n run l) = n * l.length := by
  have : ∀ (l : List Int) (f : Nat → Int → MoveD), (∀ i o, (f i o).Amount = n) → ∀ k, tot ((List.range k).map fun i => f i (l.getD i 0)) = n * k := by
    intro l f hf k
    induction k with
    | zero => simp [tot]
    | succ k ih => rw [List.range_succ, List.map_append, tot_append, ih]; simp only [List.map_cons, List.map_nil, tot, hf]; rw [Int.natCast_add, Int.mul_add]; omega
  exact this l (fun i o => covM n run i o) (fun _ _ => rfl) l.length
theorem cov_out {n run : Int} {l : List Int} (h : ∀ o ∈ l, 0 ≤ o) : Out (covs n run l) := fun m hm => by
  obtain ⟨k, hk, rfl⟩ := List.getElem_of_mem hm
  rw [covs_len] at hk
  rw [covs_get _ hk]
  have := h _ (List.getElem_mem hk)
  exact ⟨rfl, by simp only [covM]; omega⟩
theorem cov_chk {n run : Int} {l : List Int} (h0 : 0 ≤ n) (h1 : n ≤ 1099511627776) (hr : 0 ≤ run ∧ run ≤ 1999) (ho : ∀ o ∈ l, 0 ≤ o ∧ o ≤ 24) (hl : l.length ≤ 1000) : Bk.chk (covs n run l) = 0 := by
  unfold Bk.chk
  rw [if_neg (by rw [covs_len]; omega), if_pos]
  refine allOk_of _ _ fun k hk => ?_
  rw [covs_len] at hk
  rw [covs_get _ hk]
  have := ho _ (List.getElem_mem hk)
  unfold Bk.mOk
  apply decide_eq_true
  simp only [covM]
  omega
theorem cov_got {n run : Int} {l : List Int} (hd : ∀ i j (hi : i < l.length) (hj : j < l.length), l[i] = l[j] → i = j) {k : Nat} (hk : k < l.length) : got (3 + l[k]) (covs n run l) = n := by
  have key : ∀ m, m ≤ l.length → got (3 + l[k]) ((covs n run l).take m) = if k < m then n else 0 := by
    intro m
    induction m with
    | zero => intro _; simp [got]
    | succ m ih =>
      intro hm
      rw [covs_take (by omega), got_append, ih (by omega)]
      have e1 : got (3 + l[k]) [covM n run m (l[m]'(by omega))] = if m = k then n else 0 := by
        show (if 3 + l[m]'(by omega) = 3 + l[k] then n else 0) + 0 = _
        by_cases e : m = k
        · subst e; rw [if_pos rfl, if_pos rfl, Int.add_zero]
        · rw [if_neg fun h => e (hd m k (by omega) hk (by omega)), if_neg e]; rfl
      rw [e1]
      by_cases e : m = k
      · subst e
        rw [if_neg (by omega), if_pos rfl, if_pos (by omega)]; omega
      · rw [if_neg e]
        by_cases h : k < m
        · rw [if_pos h, if_pos (by omega)]; omega
        · rw [if_neg h, if_neg (by omega)]; omega
  have := key l.length (Nat.le_refl _)
  rw [if_pos hk, List.take_of_length_le (by rw [covs_len]; exact Nat.le_refl _)] at this
  exact this
end Fd
end Go.Fk
