/- Chapter 42: what the offices get, in plain Lean. No program in sight. -/
import Derived.Test.YtoadfmgnpmcbfaaGreatP42b
set_option linter.unusedVariables false
set_option linter.unusedSimpArgs false
namespace Go.Fk
open Go
namespace Au
open Bk (lo)
open Ec (eff gain MvOk numd)
variable {t : TimeD} {f : TariffD} {l : List OrderD} {p : PlanD} {h : List Int}
/-- what letters bring an office, by orders -/
def offS (t : TimeD) (f : TariffD) (l : List OrderD) (p : PlanD) (h : List Int) (j : Int) : Nat → Int
  | 0 => 0
  | n + 1 => offS t f l p h j n + Ec.legG (Ec.lineP t p (p.Of.getD n 0)) (Tf.leg f (l.getD n default).Class) j (hn h (p.Of.getD n 0).toNat)
/-- a sum over runs -/
def sumK (g : Nat → Int) : Nat → Int
  | 0 => 0
  | k + 1 => sumK g k + g k
theorem sumK_add (a b : Nat → Int) : ∀ n, sumK (fun r => a r + b r) n = sumK a n + sumK b n
  | 0 => rfl
  | n + 1 => by simp only [sumK, sumK_add a b n]; omega
theorem sumK_one (x : Int) (c : Int) : ∀ n : Nat, sumK (fun r => if c = (r : Int) then x else 0) n = if 0 ≤ c ∧ c < (n : Int) then x else 0
  | 0 => by simp only [sumK]; rw [if_neg (by omega)]
  | n + 1 => by
    simp only [sumK, sumK_one x c n]
    by_cases e : c = (n : Int)
    · rw [if_pos e, if_neg (by omega), if_pos (by omega)]; omega
    · rw [if_neg e]
      by_cases h : 0 ≤ c ∧ c < (n : Int)
      · rw [if_pos h, if_pos (by omega)]; omega
      · rw [if_neg h, if_neg (by omega)]; omega
theorem wantK_sum (t : TimeD) (f : TariffD) (l : List OrderD) (p : PlanD) (h : List Int) (j : Int) : ∀ n, Ec.wantK t f l p (fun i => (i : Int)) (fun r => hn h r.toNat) j n = sumK (fun r => Ec.wantR t f l p r (hn h r) j l.length) n
  | 0 => rfl
  | n + 1 => by simp only [Ec.wantK, sumK, wantK_sum t f l p h j n, Int.toNat_natCast]
theorem wantO_office {run : Int} {n i : Nat} {j : Int} (hj : 3 ≤ j ∧ j < 27) : Ec.wantO t f l p run n i j = Ec.legG (Ec.lineP t p run) (Tf.leg f (l.getD i default).Class) j n := by
  unfold Ec.wantO
  have a1 : Ec.ind j 1 = 0 := by unfold Ec.ind; rw [if_neg (by omega)]
  have a2 : Ec.ind j (51 + (i : Int)) = 0 := by unfold Ec.ind; rw [if_neg (by omega)]
  rw [if_neg (show ¬ j = 51 + (i : Int) by omega), a1, a2]
  split <;> simp
/-- in the order of the runs or of the orders -/
theorem swap (hk : Ec.Ok t f l p) {j : Int} (hj : 3 ≤ j ∧ j < 27) : ∀ n, n ≤ l.length → sumK (fun r => Ec.wantR t f l p r (hn h r) j n) p.Runs.length = offS t f l p h j n
  | 0, _ => by
    have : ∀ n, sumK (fun r => Ec.wantR t f l p r (hn h r) j 0) n = 0 := by
      intro n
      induction n with
      | zero => rfl
      | succ n ih => simp only [sumK, ih]; rfl
    simpa [offS] using this p.Runs.length
  | n + 1, hl => by
    have ih := swap hk hj n (by omega)
    obtain ⟨q0, q1, _⟩ := Ec.price_eq hk (show n < l.length by omega)
    simp only [Ec.wantR, offS]
    rw [sumK_add, ih]
    have e : (fun r : Nat => if p.Of.getD n 0 = (r : Int) then Ec.wantO t f l p r (hn h r) n j else 0) = fun r : Nat => if p.Of.getD n 0 = (r : Int) then Ec.legG (Ec.lineP t p (p.Of.getD n 0)) (Tf.leg f (l.getD n default).Class) j (hn h (p.Of.getD n 0).toNat) else 0 := by
      funext r
      by_cases e : p.Of.getD n 0 = (r : Int)
      · rw [if_pos e, if_pos e, wantO_office hj, e, Int.toNat_natCast]
      · rw [if_neg e, if_neg e]
    rw [e, sumK_one, if_pos ⟨q0, by omega⟩]
/-- what covers bring, as the law counts it -/
def covS (j : Int) : List MoveD → Int
  | [] => 0
  | m :: r => (if m.Why = 5 ∧ m.To = j then m.Amount else 0) + covS j r
theorem covS_append (j : Int) (a b : List MoveD) : covS j (a ++ b) = covS j a + covS j b := by
  induction a with
  | nil => simp [covS]
  | cons m a ih => simp only [List.cons_append, covS, ih]; omega
theorem covS_no (j : Int) : ∀ {l : List MoveD}, (∀ m ∈ l, m.Why ≠ 5) → covS j l = 0
  | [], _ => rfl
  | m :: r, h => by
    simp only [covS, covS_no j fun x hx => h x (List.mem_cons_of_mem _ hx)]
    rw [if_neg fun e => h m (List.mem_cons_self ..) e.1]; rfl
theorem covS_eff (j : Int) : ∀ {l : List MoveD}, (∀ m ∈ l, m.Why = 5 ∧ m.From ≠ j) → covS j l = eff l j
  | [], _ => rfl
  | m :: r, h => by
    obtain ⟨h1, h2⟩ := h m (List.mem_cons_self ..)
    simp only [covS, eff, gain, covS_eff j fun x hx => h x (List.mem_cons_of_mem _ hx)]
    rw [if_neg h2]
    by_cases e : m.To = j
    · rw [if_pos ⟨h1, e⟩, if_pos e]; omega
    · rw [if_neg fun x => e x.2, if_neg e]; omega
theorem covS_num (j : Int) : ∀ (l : List MoveD) (i : Nat), covS j (num i l) = covS j l
  | [], _ => rfl
  | m :: r, i => by simp only [num, covS, covS_num j r]
theorem covS_take {j : Int} {m : List MoveD} {k : Nat} (h : k < m.length) : covS j (m.take (k + 1)) = covS j (m.take k) + if m[k].Why = 5 ∧ m[k].To = j then m[k].Amount else 0 := by
  rw [List.take_succ_eq_append_getElem h, covS_append]; simp [covS]
/-- an office's account -/
theorem asked_office (hk : Ok t f l p h) (hR : p.Runs.length ≤ 70) (ha : 0 ≤ eff (pre t f l p h) 1) {j : Int} (hj : 3 ≤ j ∧ j < 27) : eff (asked t f l p h) j = offS t f l p h j l.length + covS j (asked t f l p h) := by
  have h1 := paid_eff hk j
  rw [wantK_sum, swap hk.e hj l.length (Nat.le_refl _)] at h1
  have h2 := shs_no hk hR ha (j := j) (by omega) (by omega)
  have hp := posts_mv hk.e hR
  have e1 : covS j (Ec.posts t f l p l.length) = 0 := covS_no j fun m hm => by have := (hp m hm).2.2.1; omega
  have e2 : covS j (cat (runPays t f l p h) p.Runs.length) = 0 := covS_no j fun m hm => by
    obtain ⟨r, hr, hmr⟩ := cat_mem hm
    have := (pays_mv hk hR hr m hmr).2.2.2; omega
  have e3 : covS j (cat (runCovs t f p h) p.Runs.length) = eff (cat (runCovs t f p h) p.Runs.length) j := covS_eff j fun m hm => by
    obtain ⟨r, hr, hmr⟩ := cat_mem hm
    obtain ⟨_, q1, _, q2, _⟩ := covs_mv hk hR hr m hmr
    exact ⟨q2, by omega⟩
  have hp1 := pre_one hk hR
  have e4 : covS j (shs (eff (pre t f l p h) 1) l.length) = 0 := covS_no j fun m hm => by
    have := (shs_mv (a := eff (pre t f l p h) 1) (n := l.length) ⟨ha, by omega⟩ hk.e.o.n m hm).2.2.1; omega
  unfold asked
  rw [Ec.eff_append, covS_append, h2, e4]
  have e5 : eff (pre t f l p h) j = eff (Ec.posts t f l p l.length) j + (eff (cat (runPays t f l p h) p.Runs.length) j + eff (cat (runCovs t f p h) p.Runs.length) j) := by
    unfold pre; rw [Ec.eff_append, Ec.eff_append]
  have e6 : covS j (pre t f l p h) = covS j (Ec.posts t f l p l.length) + (covS j (cat (runPays t f l p h) p.Runs.length) + covS j (cat (runCovs t f p h) p.Runs.length)) := by
    unfold pre; rw [covS_append, covS_append]
  omega
theorem wantO_zero (hk : Ec.Ok t f l p) {i : Nat} (hi : i < l.length) {run : Int} (hr : p.Of.getD i 0 = run) {n : Nat} (hn : n ≤ (Ec.lineP t p run).Legs.length) : Ec.wantO t f l p run n i 0 = 0 := by
  obtain ⟨q0, q1, hlo, hpe, hcl, hcr⟩ := Ec.price_eq hk hi
  have o1 := hlo.l1
  unfold Ec.wantO
  rw [Ec.legG_no _ _ n fun k hkn e => by
    have := Ec.off_in hk hi (k := k) (by rw [hr] at o1 ⊢; omega)
    rw [hr] at this; omega]
  rw [if_neg (show ¬ (0 : Int) = 51 + (i : Int) by omega)]
  rw [show Ec.ind 0 1 = 0 by rfl, show Ec.ind 0 (51 + (i : Int)) = 0 by unfold Ec.ind; rw [if_neg (by omega)]]
  split <;> simp
theorem wantR_zero (hk : Ec.Ok t f l p) {run : Int} {n : Nat} (hn : n ≤ (Ec.lineP t p run).Legs.length) : ∀ k : Nat, k ≤ l.length → Ec.wantR t f l p run n 0 k = 0
  | 0, _ => rfl
  | k + 1, hl => by
    simp only [Ec.wantR]
    rw [wantR_zero hk hn k (by omega)]
    split
    · rename_i e
      rw [wantO_zero hk (by omega) e hn]; rfl
    · rfl
/-- the bank's account -/
theorem asked_bank (hk : Ok t f l p h) (hR : p.Runs.length ≤ 70) (ha : 0 ≤ eff (pre t f l p h) 1) : eff (asked t f l p h) 0 = 0 := by
  have h1 := paid_eff hk 0
  rw [wantK_sum] at h1
  have hz : ∀ n, n ≤ p.Runs.length → sumK (fun r => Ec.wantR t f l p r (hn h r) 0 l.length) n = 0 := by
    intro n
    induction n with
    | zero => intro _; rfl
    | succ n ih =>
      intro hn'
      simp only [sumK, ih (by omega)]
      rw [wantR_zero hk.e (hk.h n (by omega)).1 _ (Nat.le_refl _)]; rfl
  rw [hz _ (Nat.le_refl _)] at h1
  have h2 := shs_no hk hR ha (j := 0) (by omega) (by omega)
  have h3 := catCovs_two hk hR (j := 0) (.inr (.inl rfl))
  unfold asked
  rw [Ec.eff_append, h2]
  have e5 : eff (pre t f l p h) 0 = eff (Ec.posts t f l p l.length) 0 + (eff (cat (runPays t f l p h) p.Runs.length) 0 + eff (cat (runCovs t f p h) p.Runs.length) 0) := by
    unfold pre; rw [Ec.eff_append, Ec.eff_append]
  omega
/-- the start of the law: each sender has the price -/
def startL (t : TimeD) (f : TariffD) (l : List OrderD) (p : PlanD) : Nat → List Int
  | 0 => List.replicate 115 0
  | n + 1 => (startL t f l p n).set (51 + n) (Ec.priceP t f l p n)
theorem startL_len (t : TimeD) (f : TariffD) (l : List OrderD) (p : PlanD) : ∀ n, (startL t f l p n).length = 115
  | 0 => by simp [startL]
  | n + 1 => by simp [startL, startL_len t f l p n]
theorem startL_lo (t : TimeD) (f : TariffD) (l : List OrderD) (p : PlanD) : ∀ n, n ≤ 64 → ∀ j, 0 ≤ j → lo (startL t f l p n) j = if 51 ≤ j ∧ j < 51 + (n : Int) then Ec.priceP t f l p (j - 51).toNat else 0
  | 0, _, j, hj => by
    rw [if_neg (by omega)]
    show lo (List.replicate 115 0) j = 0
    unfold Bk.lo; rw [List.getD_eq_getElem?_getD, List.getElem?_replicate]; split <;> rfl
  | n + 1, hn, j, hj => by
    simp only [startL]
    rw [Bk.lo_set hj (by rw [startL_len]; omega), startL_lo t f l p n (by omega) j hj]
    by_cases e : j = (51 + n : Nat)
    · rw [if_pos e, if_pos (by omega)]
      congr 1; omega
    · rw [if_neg e]
      by_cases h : 51 ≤ j ∧ j < 51 + (n : Int)
      · rw [if_pos h, if_pos (by omega)]
      · rw [if_neg h, if_neg (by omega)]
theorem startL_ok (hk : Ec.Ok t f l p) : Start (startL t f l p l.length) t f l p := by
  have h64 := hk.o.n
  refine ⟨?_, fun i hi => ?_⟩
  · unfold Bk.startOk
    simp only [Bool.and_eq_true, decide_eq_true_eq, List.all_eq_true]
    refine ⟨startL_len t f l p _, fun x hx => ?_⟩
    obtain ⟨k, hk', rfl⟩ := List.getElem_of_mem hx
    have h1 := startL_lo t f l p l.length h64 k (by omega)
    have h2 : lo (startL t f l p l.length) k = (startL t f l p l.length)[k] := by simp [Bk.lo, List.getD_eq_getElem?_getD, hk']
    rw [← h2, h1]
    split
    · have := Ec.price_bd t f l p ((k : Int) - 51).toNat; omega
    · omega
  · rw [startL_lo t f l p l.length h64 _ (by omega), if_pos (by omega)]
    rw [show ((51 : Int) + (i : Int) - 51).toNat = i by omega]
    exact Int.le_refl _
end Au
end Go.Fk
