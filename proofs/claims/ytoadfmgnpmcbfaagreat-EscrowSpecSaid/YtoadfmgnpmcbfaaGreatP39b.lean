/- Chapter 39: what escrow moves lead to, in plain Lean. No program in sight. -/
import Derived.Test.YtoadfmgnpmcbfaaGreatP39
import Derived.Test.YtoadfmgnpmcbfaaGreatP38
set_option linter.unusedVariables false
set_option linter.unusedSimpArgs false
namespace Go.Fk
open Go
namespace Ec
open Bk (lo)
def ind (a b : Int) : Int := if a = b then 1 else 0
/-- what a move gives an account -/
def gain (m : MoveD) (j : Int) : Int := (if m.To = j then m.Amount else 0) - (if m.From = j then m.Amount else 0)
def eff : List MoveD → Int → Int
  | [], _ => 0
  | m :: r, j => gain m j + eff r j
theorem eff_append (a b : List MoveD) (j : Int) : eff (a ++ b) j = eff a j + eff b j := by
  induction a with
  | nil => simp [eff]
  | cons m a ih => simp only [List.cons_append, eff, ih]; omega
/-- a move that the accounts take -/
def MvOk (m : MoveD) : Prop := (0 ≤ m.From ∧ m.From ≤ 114) ∧ (0 ≤ m.To ∧ m.To ≤ 114) ∧ 0 ≤ m.Amount ∧ m.Amount ≤ 1099511627776
theorem lo_gain {b : List Int} {m : MoveD} (hb : b.length = 115) (h : MvOk m) {k : Int} (hk : 0 ≤ k) : lo (Bk.step b m) k = lo b k + gain m k := by
  obtain ⟨h1, h2, h3⟩ := h
  unfold Bk.step gain
  have e1 : (m.From.toNat : Int) = m.From := Int.toNat_of_nonneg (by omega)
  have e2 : (m.To.toNat : Int) = m.To := Int.toNat_of_nonneg (by omega)
  rw [Bk.lo_set hk (by simp; omega), Bk.lo_set hk (by omega), Bk.lo_set (by omega) (by omega), e1, e2]
  by_cases a : k = m.To
  · subst a
    by_cases c : m.To = m.From
    · simp [c]; try omega
    · simp [c, fun h : m.From = m.To => c h.symm]; try omega
  · by_cases c : k = m.From
    · subst c; simp [a, fun h : m.To = m.From => a h.symm]; try omega
    · simp [a, c, fun h : m.To = k => a h.symm, fun h : m.From = k => c h.symm]; try omega
theorem after_eff : ∀ {l : List MoveD} {b : List Int}, b.length = 115 → (∀ m ∈ l, MvOk m) → ∀ {k : Int}, 0 ≤ k → lo (Bk.after b l) k = lo b k + eff l k
  | [], b, _, _, k, _ => by simp [Bk.after, eff]
  | m :: l, b, hb, h, k, hk => by
    show lo (Bk.after (Bk.step b m) l) k = _
    rw [after_eff (by rw [Bk.step_len, hb]) (fun x hx => h x (List.mem_cons_of_mem _ hx)) hk, lo_gain hb (h m (List.mem_cons_self ..)) hk]
    simp only [eff]; omega
/-- moves are numbered on -/
def numd (l : List MoveD) : Prop := ∀ (k : Nat) (m : MoveD), l[k]? = some m → m.No = k
/-- legs of an order: what an account gets -/
def legG (x : LineD) (a : Int) (j : Int) : Nat → Int
  | 0 => 0
  | n + 1 => legG x a j n + if 3 + x.Offices.getD n 0 = j then a else 0
theorem eff_legMs (x : LineD) (a run : Int) (no : Nat) (j : Int) : ∀ n, eff (legMs x a run no n) j = legG x a j n - if j = 2 then n * a else 0
  | 0 => by simp [legMs, eff, legG]
  | n + 1 => by
    rw [legMs_succ, eff_append, eff_legMs x a run no j n]
    simp only [eff, gain, legM, legG]
    rw [show ((n + 1 : Nat) : Int) * a = n * a + a by rw [Int.natCast_add, Int.add_mul]; simp]
    generalize (n : Int) * a = q
    by_cases h : j = 2
    · subst h; simp only [if_true]; split <;> omega
    · have h' : ¬ (2 : Int) = j := fun e => h e.symm
      simp only [h, h', if_false]; split <;> omega
/-- what an order of a run that is handed on should bring to an account -/
def wantO (t : TimeD) (f : TariffD) (l : List OrderD) (p : PlanD) (run : Int) (h i : Nat) (j : Int) : Int :=
  legG (lineP t p run) (Tf.leg f (l.getD i default).Class) j h - (if j = 51 + i then h * Tf.leg f (l.getD i default).Class else 0) +
    (if h = (lineP t p run).Legs.length then (priceP t f l p i - h * Tf.leg f (l.getD i default).Class) * (ind j 1 - ind j (51 + i)) else 0)
theorem eff_payO (t : TimeD) (f : TariffD) (l : List OrderD) (p : PlanD) (run : Int) (h i no : Nat) (j : Int) :
    eff (payO t f l p run h i no) j = wantO t f l p run h i j + priceP t f l p i * (ind j (51 + i) - ind j 2) := by
  unfold payO wantO
  rw [eff_append, eff_legMs]
  generalize priceP t f l p i = P
  generalize Tf.leg f (l.getD i default).Class = a
  generalize legG (lineP t p run) a j h = G
  generalize hq : (h : Int) * a = q
  unfold lastM
  have n1 : ¬ (51 + (i : Int) = 2) := by omega
  have n2 : ¬ (51 + (i : Int) = 1) := by omega
  have n3 : ¬ ((2 : Int) = 51 + i) := by omega
  have n4 : ¬ ((1 : Int) = 51 + i) := by omega
  by_cases hh : h = (lineP t p run).Legs.length
  · rw [if_pos hh, if_pos hh]
    simp only [eff, gain, ind]
    by_cases j1 : j = 1
    · subst j1; simp [n4]; try omega
    · have j1' : ¬ (1 : Int) = j := fun e => j1 e.symm
      by_cases j2 : j = 2
      · subst j2; simp [n3]; try omega
      · have j2' : ¬ (2 : Int) = j := fun e => j2 e.symm
        by_cases j3 : j = 51 + (i : Int)
        · subst j3; simp [n1, n2, n3, n4]; try omega
        · simp [j1, j2, j3, j1', j2']
  · rw [if_neg hh, if_neg hh]
    simp only [eff, gain, ind]
    by_cases j2 : j = 2
    · subst j2; simp [n1, n3]; try omega
    · have j2' : ¬ (2 : Int) = j := fun e => j2 e.symm
      by_cases j3 : j = 51 + (i : Int)
      · subst j3; simp [n1, n3]; try omega
      · have j3' : ¬ 51 + (i : Int) = j := fun e => j3 e.symm
        simp [j2, j3, j2', j3']
/-- sums over the orders of a run -/
def wantR (t : TimeD) (f : TariffD) (l : List OrderD) (p : PlanD) (run : Int) (h : Nat) (j : Int) : Nat → Int
  | 0 => 0
  | k + 1 => wantR t f l p run h j k + if p.Of.getD k 0 = run then wantO t f l p run h k j else 0
def shiftR (t : TimeD) (f : TariffD) (l : List OrderD) (p : PlanD) (run : Int) (j : Int) : Nat → Int
  | 0 => 0
  | k + 1 => shiftR t f l p run j k + if p.Of.getD k 0 = run then priceP t f l p k * (ind j (51 + k) - ind j 2) else 0
theorem eff_pays (t : TimeD) (f : TariffD) (l : List OrderD) (p : PlanD) (run : Int) (h : Nat) (j : Int) : ∀ k, eff (pays t f l p run h k) j = wantR t f l p run h j k + shiftR t f l p run j k
  | 0 => by simp [pays, eff, wantR, shiftR]
  | k + 1 => by
    simp only [pays, wantR, shiftR, eff_append, eff_pays t f l p run h j k]
    split
    · rw [eff_payO]; omega
    · simp only [eff]; omega
/-- what is still in the escrow: the prices of the orders of runs that are not settled -/
def remF (t : TimeD) (f : TariffD) (l : List OrderD) (p : PlanD) (done : Int → Bool) (j : Int) : Nat → Int
  | 0 => 0
  | k + 1 => remF t f l p done j k + if done (p.Of.getD k 0) then 0 else priceP t f l p k * (ind j 2 - ind j (51 + k))
theorem eff_posts (t : TimeD) (f : TariffD) (l : List OrderD) (p : PlanD) (j : Int) : ∀ k, eff (posts t f l p k) j = remF t f l p (fun _ => false) j k
  | 0 => by simp [posts, eff, remF]
  | k + 1 => by
    rw [posts_succ, eff_append, eff_posts t f l p j k]
    simp only [remF, eff, gain, postM, ind, Bool.false_eq_true, if_false]
    generalize priceP t f l p k = P
    have n1 : ¬ (51 + (k : Int) = 2) := by omega
    have n3 : ¬ ((2 : Int) = 51 + k) := by omega
    by_cases j2 : j = 2
    · subst j2; simp [n1, n3]
    · have j2' : ¬ (2 : Int) = j := fun e => j2 e.symm
      by_cases j3 : j = 51 + (k : Int)
      · subst j3; simp [n1, n3]
      · have j3' : ¬ 51 + (k : Int) = j := fun e => j3 e.symm
        simp [j2, j3, j2', j3']
theorem rem_done (t : TimeD) (f : TariffD) (l : List OrderD) (p : PlanD) (run : Int) (done : Int → Bool) (hd : done run = false) (j : Int) : ∀ k, remF t f l p (fun r => done r || decide (r = run)) j k = remF t f l p done j k + shiftR t f l p run j k
  | 0 => by simp [remF, shiftR]
  | k + 1 => by
    simp only [remF, shiftR, rem_done t f l p run done hd j k]
    by_cases e : p.Of.getD k 0 = run
    · simp only [e, hd, decide_true, Bool.or_true, Bool.false_eq_true, if_true, if_false, ite_true]
      have : priceP t f l p k * (ind j 2 - ind j (51 + k)) + priceP t f l p k * (ind j (51 + k) - ind j 2) = 0 := by
        rw [← Int.mul_add, show ind j 2 - ind j (51 + (k : Int)) + (ind j (51 + (k : Int)) - ind j 2) = 0 by omega, Int.mul_zero]
      omega
    · simp only [e, decide_false, Bool.or_false, if_false]; omega
theorem rem_all (t : TimeD) (f : TariffD) (l : List OrderD) (p : PlanD) (done : Int → Bool) (j : Int) : ∀ k, (∀ i, i < k → done (p.Of.getD i 0) = true) → remF t f l p done j k = 0
  | 0, _ => rfl
  | k + 1, h => by
    simp only [remF, rem_all t f l p done j k fun i hi => h i (by omega), h k (by omega), if_true]; omega
theorem price_bd (t : TimeD) (f : TariffD) (l : List OrderD) (p : PlanD) (i : Nat) : 0 ≤ priceP t f l p i ∧ priceP t f l p i ≤ 10485760 := Tf.pri_bd
theorem rem_bd (t : TimeD) (f : TariffD) (l : List OrderD) (p : PlanD) (done : Int → Bool) : ∀ (k : Nat), 0 ≤ remF t f l p done 2 k ∧ ∀ j, -10485760 * (k : Int) ≤ remF t f l p done j k ∧ remF t f l p done j k ≤ 10485760 * k
  | 0 => by simp [remF]
  | k + 1 => by
    obtain ⟨h1, h2⟩ := rem_bd t f l p done k
    have hp := price_bd t f l p k
    simp only [remF]
    generalize priceP t f l p k = P at *
    constructor
    · split
      · omega
      · rw [show ind 2 2 - ind 2 (51 + (k : Int)) = 1 by unfold ind; rw [if_pos rfl, if_neg (by omega)]; rfl]; omega
    · intro j
      have := h2 j
      split
      · omega
      · unfold ind; split <;> split <;> omega
/-- the facts of an order of a right plan -/
theorem price_eq {t : TimeD} {f : TariffD} {l : List OrderD} {p : PlanD} (h : Ok t f l p) {i : Nat} (hi : i < l.length) :
    0 ≤ p.Of.getD i 0 ∧ p.Of.getD i 0 < p.Runs.length ∧ Tt.LOk (lineP t p (p.Of.getD i 0)) t.Offices ∧
    priceP t f l p i = Tf.base f (l.getD i default).Class + (lineP t p (p.Of.getD i 0)).Legs.length * Tf.leg f (l.getD i default).Class + Tf.extra f (l.getD i default).Crowd ∧
    (0 ≤ (l.getD i default).Class ∧ (l.getD i default).Class < f.Base.length) ∧ (1 ≤ (l.getD i default).Crowd ∧ (l.getD i default).Crowd ≤ 64) := by
  have hf := h.f i hi
  simp only [Pl.ofP, Bool.and_eq_true, decide_eq_true_eq] at hf
  obtain ⟨⟨h0, h1⟩, hfit⟩ := hf
  have hk : (p.Of.getD i 0).toNat < p.Runs.length := by omega
  have hr := h.r _ hk
  simp only [Pl.runP, Bool.and_eq_true] at hr
  have hir := hr.1
  simp only [Tt.isRun, Tt.isR, Bool.and_eq_true, decide_eq_true_eq] at hir
  have hln : (p.Runs.getD (p.Of.getD i 0).toNat default).Line.toNat < t.Lines.length := by omega
  have hlo : Tt.LOk (lineP t p (p.Of.getD i 0)) t.Offices := by
    unfold lineP Pl.lineR
    rw [List.getD_eq_getElem?_getD (l := t.Lines), List.getElem?_eq_getElem hln]
    exact Tt.right_ok ((Tt.chk_ok h.o.t).r _ (List.getElem_mem hln))
  have hor := h.o.o (l.getD i default) (by rw [List.getD_eq_getElem?_getD, List.getElem?_eq_getElem hi]; exact List.getElem_mem hi)
  simp only [Pl.oright, Pl.oNum, Bool.and_eq_true, decide_eq_true_eq] at hor
  obtain ⟨⟨o1, o2, o3, o4, o5, o6, o7, o8, o9, o10⟩, _⟩ := hor
  have a1 := hlo.o2
  have a2 := hlo.o9
  have a3 := hlo.l1
  refine ⟨h0, h1, hlo, ?_, o4, o7⟩
  unfold priceP Tf.pri
  have hw : Tf.wrong f (l.getD i default).Class (lineP t p (p.Of.getD i 0)).Legs.length (l.getD i default).Crowd = 0 := by
    unfold Tf.wrong
    rw [if_neg (by simp [h.o.f]), if_neg (by omega)]
  rw [if_neg (by rw [hw]; simp)]
/-- the moves of a run -/
theorem pays_mv {t : TimeD} {f : TariffD} {l : List OrderD} {p : PlanD} (h : Ok t f l p) {run : Int} {n : Nat} (hn : n ≤ (lineP t p run).Legs.length) : ∀ k, k ≤ l.length → ∀ m ∈ pays t f l p run n k, MvOk m ∧ m.From = 2 ∧ m.To ≠ 2 ∧ m.Run = run ∧ (m.Why = 2 ∨ m.Why = 3 ∧ m.To = 1 ∧ n = (lineP t p run).Legs.length ∨ m.Why = 4 ∧ n ≠ (lineP t p run).Legs.length ∧ ∃ i : Nat, i < k ∧ p.Of.getD i 0 = run ∧ m.To = 51 + i)
  | 0, _, m, hm => by simp [pays] at hm
  | k + 1, hk, m, hm => by
    simp only [pays, List.mem_append] at hm
    rcases hm with hm | hm
    · obtain ⟨a, b, c, d, e⟩ := pays_mv h hn k (by omega) m hm
      refine ⟨a, b, c, d, ?_⟩
      rcases e with e | e | ⟨e1, e2, i, hi, e3⟩
      · exact .inl e
      · exact .inr (.inl e)
      · exact .inr (.inr ⟨e1, e2, i, by omega, e3⟩)
    · split at hm
      · rename_i hof
        obtain ⟨q0, q1, hlo, hpe, hcl, hcr⟩ := price_eq h (show k < l.length by omega)
        rw [hof] at hlo hpe
        have hleg := Tf.leg_bd h.o.f (l.getD k default).Class
        have hba := Tf.base_bd h.o.f (l.getD k default).Class
        have hex := Tf.extra_bd h.o.f (l.getD k default).Crowd
        have hpb := price_bd t f l p k
        have hoff := (Tt.chk_ok h.o.t).o
        have hn64 := h.o.n
        have o1 := hlo.l1
        have o9 := hlo.o9
        unfold payO at hm
        rcases List.mem_append.1 hm with hm | hm
        · unfold legMs at hm
          obtain ⟨q, hq, rfl⟩ := List.mem_map.1 hm
          have hq : q < n := by simpa using hq
          have hql : q < (lineP t p run).Offices.length := by omega
          have ho := hlo.s ((lineP t p run).Offices.getD q 0) (by rw [List.getD_eq_getElem?_getD, List.getElem?_eq_getElem hql]; exact List.getElem_mem hql)
          refine ⟨⟨by simp [legM], by simp only [legM]; omega, by simp only [legM]; omega⟩, rfl, by simp only [legM]; omega, rfl, .inl rfl⟩
        · have hm := List.mem_singleton.1 hm
          have hmul : (n : Int) * Tf.leg f (l.getD k default).Class ≤ (lineP t p run).Legs.length * Tf.leg f (l.getD k default).Class := Int.mul_le_mul_of_nonneg_right (by omega) (by omega)
          have hmul0 : 0 ≤ (n : Int) * Tf.leg f (l.getD k default).Class := Int.mul_nonneg (by omega) (by omega)
          unfold lastM at hm
          split at hm
          · rename_i he
            subst hm
            exact ⟨⟨by simp, by simp, by simp only; omega⟩, rfl, by simp, rfl, .inr (.inl ⟨rfl, rfl, he⟩)⟩
          · rename_i he
            subst hm
            exact ⟨⟨by simp, by simp only; omega, by simp only; omega⟩, rfl, by simp only; omega, rfl, .inr (.inr ⟨rfl, he, k, by omega, hof, rfl⟩)⟩
      · simp at hm
theorem posts_mv {t : TimeD} {f : TariffD} {l : List OrderD} {p : PlanD} (h : Ok t f l p) {n : Nat} (hn : n ≤ l.length) : ∀ m ∈ posts t f l p n, MvOk m ∧ m.To = 2 := fun m hm => by
  unfold posts at hm
  obtain ⟨q, hq, rfl⟩ := List.mem_map.1 hm
  have hq : q < n := by simpa using hq
  have := h.o.n
  have := price_bd t f l p q
  exact ⟨⟨by simp only [postM]; omega, by simp [postM], by simp only [postM]; omega⟩, rfl⟩
theorem numd_append {a b : List MoveD} (ha : numd a) (hb : ∀ (k : Nat) (m : MoveD), b[k]? = some m → m.No = (a.length + k : Nat)) : numd (a ++ b) := fun k m hk => by
  rw [List.getElem?_append] at hk
  split at hk
  · exact ha k m hk
  · rename_i h
    rw [hb (k - a.length) m hk]
    congr 1; omega
theorem posts_num (t : TimeD) (f : TariffD) (l : List OrderD) (p : PlanD) (n : Nat) : numd (posts t f l p n) := fun k m hk => by
  have hl := (List.getElem?_eq_some_iff.1 hk).1
  rw [posts_len] at hl
  unfold posts at hk
  rw [List.getElem?_map, List.getElem?_range hl] at hk
  simp at hk; rw [← hk]; rfl
theorem payO_num (t : TimeD) (f : TariffD) (l : List OrderD) (p : PlanD) (run : Int) (h i no : Nat) (k : Nat) (m : MoveD) (hk : (payO t f l p run h i no)[k]? = some m) : m.No = (no + k : Nat) := by
  have hl := (List.getElem?_eq_some_iff.1 hk).1
  rw [payO_len] at hl
  unfold payO at hk
  rw [List.getElem?_append, legMs_len] at hk
  split at hk
  · rename_i hh
    unfold legMs at hk
    rw [List.getElem?_map, List.getElem?_range hh] at hk
    simp at hk; rw [← hk]; rfl
  · have : k = h := by omega
    subst this
    rw [Nat.sub_self] at hk
    simp at hk
    rw [← hk]
    unfold lastM
    split <;> rfl
theorem pays_num (t : TimeD) (f : TariffD) (l : List OrderD) (p : PlanD) (run : Int) (h : Nat) : ∀ k, numd (pays t f l p run h k)
  | 0 => fun k m hk => by simp [pays] at hk
  | k + 1 => by
    show numd (_ ++ _)
    refine numd_append (pays_num t f l p run h k) fun q m hq => ?_
    split at hq
    · exact payO_num _ _ _ _ _ _ _ _ _ _ hq
    · simp at hq
/-- moves out of the escrow never take more than all of them -/
theorem eff_take {l : List MoveD} (h : ∀ m ∈ l, m.From = 2 ∧ m.To ≠ 2 ∧ 0 ≤ m.Amount) : ∀ k, eff l 2 ≤ eff (l.take k) 2 := fun k => by
  have e : eff l 2 = eff (l.take k) 2 + eff (l.drop k) 2 := by rw [← eff_append, List.take_append_drop]
  have : ∀ m : List MoveD, (∀ x ∈ m, x.From = 2 ∧ x.To ≠ 2 ∧ 0 ≤ x.Amount) → eff m 2 ≤ 0 := by
    intro m
    induction m with
    | nil => intro _; simp [eff]
    | cons x m ih =>
      intro hx
      have := hx x (List.mem_cons_self ..)
      have := ih fun y hy => hx y (List.mem_cons_of_mem _ hy)
      simp only [eff, gain]
      rw [if_neg (by omega), if_pos (by omega)]; omega
  have := this (l.drop k) fun x hx => h x (List.mem_of_mem_drop hx)
  omega
theorem eff_in {l : List MoveD} (h : ∀ m ∈ l, m.To = 2 ∧ 0 ≤ m.Amount) : 0 ≤ eff l 2 := by
  induction l with
  | nil => simp [eff]
  | cons x m ih =>
    have := h x (List.mem_cons_self ..)
    have := ih fun y hy => h y (List.mem_cons_of_mem _ hy)
    simp only [eff, gain]
    rw [if_pos (by omega)]
    split <;> omega
end Ec
end Go.Fk
