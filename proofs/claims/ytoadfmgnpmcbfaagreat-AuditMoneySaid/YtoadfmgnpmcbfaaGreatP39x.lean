/- P39, P39b, P39c, P39d, P39e, joined. -/
import Derived.Test.YtoadfmgnpmcbfaaGreatP22
import Derived.Test.YtoadfmgnpmcbfaaGreatApiM
import Derived.Test.YtoadfmgnpmcbfaaGreatP38
/- Chapter 39: the escrow, in plain Lean. No program in sight. -/
set_option linter.unusedVariables false
set_option linter.unusedSimpArgs false
namespace Go.Fk
open Go
namespace Ec
/-- the error of what both functions are asked for -/
def err (t : TimeD) (f : TariffD) (l : List OrderD) (p : PlanD) : Int :=
  if (Pl.check t f l 1099511627776 p).2 ≠ 0 then (Pl.check t f l 1099511627776 p).2 else if (Pl.check t f l 1099511627776 p).1 then 0 else 220
def lineP (t : TimeD) (p : PlanD) (run : Int) : LineD := Pl.lineR t (p.Runs.getD run.toNat default)
def priceP (t : TimeD) (f : TariffD) (l : List OrderD) (p : PlanD) (i : Nat) : Int :=
  (Tf.pri f (l.getD i default).Class (lineP t p (p.Of.getD i 0)).Legs.length (l.getD i default).Crowd).1
def postM (t : TimeD) (f : TariffD) (l : List OrderD) (p : PlanD) (i : Nat) : MoveD := ⟨i, 51 + i, 2, priceP t f l p i, 1, p.Of.getD i 0⟩
def posts (t : TimeD) (f : TariffD) (l : List OrderD) (p : PlanD) (n : Nat) : List MoveD := (List.range n).map (postM t f l p)
theorem posts_len (t : TimeD) (f : TariffD) (l : List OrderD) (p : PlanD) (n : Nat) : (posts t f l p n).length = n := by simp [posts]
theorem posts_succ (t : TimeD) (f : TariffD) (l : List OrderD) (p : PlanD) (n : Nat) : posts t f l p (n + 1) = posts t f l p n ++ [postM t f l p n] := by simp [posts, List.range_succ]
def post (t : TimeD) (f : TariffD) (l : List OrderD) (p : PlanD) : List MoveD × Int := if err t f l p ≠ 0 then ([], err t f l p) else (posts t f l p l.length, 0)
/-- the moves for one order of a run -/
def legM (x : LineD) (a run : Int) (no k : Nat) : MoveD := ⟨(no + k : Nat), 2, 3 + x.Offices.getD k 0, a, 2, run⟩
def legMs (x : LineD) (a run : Int) (no n : Nat) : List MoveD := (List.range n).map (legM x a run no)
theorem legMs_succ (x : LineD) (a run : Int) (no n : Nat) : legMs x a run no (n + 1) = legMs x a run no n ++ [legM x a run no n] := by simp [legMs, List.range_succ]
theorem legMs_len (x : LineD) (a run : Int) (no n : Nat) : (legMs x a run no n).length = n := by simp [legMs]
def lastM (x : LineD) (run left : Int) (h : Nat) (i no : Nat) : MoveD := if h = x.Legs.length then ⟨no, 2, 1, left, 3, run⟩ else ⟨no, 2, 51 + i, left, 4, run⟩
def payO (t : TimeD) (f : TariffD) (l : List OrderD) (p : PlanD) (run : Int) (h : Nat) (i no : Nat) : List MoveD :=
  legMs (lineP t p run) (Tf.leg f (l.getD i default).Class) run no h ++ [lastM (lineP t p run) run (priceP t f l p i - h * Tf.leg f (l.getD i default).Class) h i (no + h)]
def pays (t : TimeD) (f : TariffD) (l : List OrderD) (p : PlanD) (run : Int) (h : Nat) : Nat → List MoveD
  | 0 => []
  | k + 1 => pays t f l p run h k ++ if p.Of.getD k 0 = run then payO t f l p run h k (pays t f l p run h k).length else []
def pay (t : TimeD) (f : TariffD) (l : List OrderD) (p : PlanD) (run handed : Int) : List MoveD × Int :=
  if err t f l p ≠ 0 then ([], err t f l p) else if run < 0 ∨ p.Runs.length ≤ run ∨ handed < 0 ∨ (lineP t p run).Legs.length < handed then ([], 1) else (pays t f l p run handed.toNat l.length, 0)
theorem payO_len (t : TimeD) (f : TariffD) (l : List OrderD) (p : PlanD) (run : Int) (h i no : Nat) : (payO t f l p run h i no).length = h + 1 := by simp [payO, legMs_len]
theorem pays_len (t : TimeD) (f : TariffD) (l : List OrderD) (p : PlanD) (run : Int) (h : Nat) : ∀ k, (pays t f l p run h k).length ≤ k * (h + 1)
  | 0 => by simp [pays]
  | k + 1 => by
    have := pays_len t f l p run h k
    simp only [pays, List.length_append]
    rw [Nat.add_mul]
    split
    · rw [payO_len]; omega
    · simp; omega
/-- what a right plan is -/
structure Ok (t : TimeD) (f : TariffD) (l : List OrderD) (p : PlanD) : Prop where
  o : Pl.Ok t f l
  ol : p.Of.length = l.length
  cl : p.Covers.length = p.Runs.length
  r : ∀ k, k < p.Runs.length → Pl.runP t p k = true
  f : ∀ k, k < l.length → Pl.ofP t f l p k = true
  c : ∀ k, k < p.Runs.length → Pl.covP t l p k = true
theorem err_ok {t : TimeD} {f : TariffD} {l : List OrderD} {p : PlanD} (h : err t f l p = 0) : Ok t f l p := by
  unfold err at h
  by_cases h1 : (Pl.check t f l 1099511627776 p).2 = 0
  · rw [if_neg (by simp [h1])] at h
    by_cases h2 : (Pl.check t f l 1099511627776 p).1 = true
    · unfold Pl.check at h1 h2
      by_cases h3 : Pl.err t f l = 0
      · rw [if_neg (by simp [h3])] at h2
        simp only [Pl.good, Bool.and_eq_true, decide_eq_true_eq] at h2
        obtain ⟨⟨⟨⟨⟨a1, a2⟩, a3⟩, a4⟩, a5⟩, a6⟩ := h2
        have R : ∀ {n : Nat} {q : Nat → Bool}, (List.range n).all q = true → ∀ k, k < n → q k = true := fun h k hk => List.all_eq_true.1 h k (by simpa using hk)
        exact ⟨Pl.err_ok h3, a1, a2, R a3, R a4, R a5⟩
      · rw [if_pos (by simpa using h3)] at h2; cases h2
    · rw [if_neg h2] at h; cases h
  · rw [if_pos (by simpa using h1)] at h; exact (h1 h).elim
end Ec
end Go.Fk

/- Chapter 39: what escrow moves lead to, in plain Lean. No program in sight. -/
set_option linter.unusedVariables false
set_option linter.unusedSimpArgs false
namespace Go.Fk
open Go
namespace Ec
open Bk (lo)
def ind (a b : Int) : Int := if a = b then 1 else 0
/-- what a move gives an account -/
def gain (m : MoveD) (j : Int) : Int := (if m.To = j then m.Amount else 0) - (if m.From = j then m.Amount else 0)
def eff : List MoveD → Int → Int
  | [], _ => 0
  | m :: r, j => gain m j + eff r j
theorem eff_append (a b : List MoveD) (j : Int) : eff (a ++ b) j = eff a j + eff b j := by
  induction a with
  | nil => simp [eff]
  | cons m a ih => simp only [List.cons_append, eff, ih]; omega
/-- a move that the accounts take -/
def MvOk (m : MoveD) : Prop := (0 ≤ m.From ∧ m.From ≤ 114) ∧ (0 ≤ m.To ∧ m.To ≤ 114) ∧ 0 ≤ m.Amount ∧ m.Amount ≤ 1099511627776
theorem lo_gain {b : List Int} {m : MoveD} (hb : b.length = 115) (h : MvOk m) {k : Int} (hk : 0 ≤ k) : lo (Bk.step b m) k = lo b k + gain m k := by
  obtain ⟨h1, h2, h3⟩ := h
  unfold Bk.step gain
  have e1 : (m.From.toNat : Int) = m.From := Int.toNat_of_nonneg (by omega)
  have e2 : (m.To.toNat : Int) = m.To := Int.toNat_of_nonneg (by omega)
  rw [Bk.lo_set hk (by simp; omega), Bk.lo_set hk (by omega), Bk.lo_set (by omega) (by omega), e1, e2]
  by_cases a : k = m.To
  · subst a
    by_cases c : m.To = m.From
    · simp [c]; try omega
    · simp [c, fun h : m.From = m.To => c h.symm]; try omega
  · by_cases c : k = m.From
    · subst c; simp [a, fun h : m.To = m.From => a h.symm]; try omega
    · simp [a, c, fun h : m.To = k => a h.symm, fun h : m.From = k => c h.symm]; try omega
theorem after_eff : ∀ {l : List MoveD} {b : List Int}, b.length = 115 → (∀ m ∈ l, MvOk m) → ∀ {k : Int}, 0 ≤ k → lo (Bk.after b l) k = lo b k + eff l k
  | [], b, _, _, k, _ => by simp [Bk.after, eff]
  | m :: l, b, hb, h, k, hk => by
    show lo (Bk.after (Bk.step b m) l) k = _
    rw [after_eff (by rw [Bk.step_len, hb]) (fun x hx => h x (List.mem_cons_of_mem _ hx)) hk, lo_gain hb (h m (List.mem_cons_self ..)) hk]
    simp only [eff]; omega
/-- moves are numbered on -/
def numd (l : List MoveD) : Prop := ∀ (k : Nat) (m : MoveD), l[k]? = some m → m.No = k
/-- legs of an order: what an account gets -/
def legG (x : LineD) (a : Int) (j : Int) : Nat → Int
  | 0 => 0
  | n + 1 => legG x a j n + if 3 + x.Offices.getD n 0 = j then a else 0
theorem eff_legMs (x : LineD) (a run : Int) (no : Nat) (j : Int) : ∀ n, eff (legMs x a run no n) j = legG x a j n - if j = 2 then n * a else 0
  | 0 => by simp [legMs, eff, legG]
  | n + 1 => by
    rw [legMs_succ, eff_append, eff_legMs x a run no j n]
    simp only [eff, gain, legM, legG]
    rw [show ((n + 1 : Nat) : Int) * a = n * a + a by rw [Int.natCast_add, Int.add_mul]; simp]
    generalize (n : Int) * a = q
    by_cases h : j = 2
    · subst h; simp only [if_true]; split <;> omega
    · have h' : ¬ (2 : Int) = j := fun e => h e.symm
      simp only [h, h', if_false]; split <;> omega
/-- what an order of a run that is handed on should bring to an account -/
def wantO (t : TimeD) (f : TariffD) (l : List OrderD) (p : PlanD) (run : Int) (h i : Nat) (j : Int) : Int :=
  legG (lineP t p run) (Tf.leg f (l.getD i default).Class) j h - (if j = 51 + i then h * Tf.leg f (l.getD i default).Class else 0) +
    (if h = (lineP t p run).Legs.length then (priceP t f l p i - h * Tf.leg f (l.getD i default).Class) * (ind j 1 - ind j (51 + i)) else 0)
theorem eff_payO (t : TimeD) (f : TariffD) (l : List OrderD) (p : PlanD) (run : Int) (h i no : Nat) (j : Int) :
    eff (payO t f l p run h i no) j = wantO t f l p run h i j + priceP t f l p i * (ind j (51 + i) - ind j 2) := by
  unfold payO wantO
  rw [eff_append, eff_legMs]
  generalize priceP t f l p i = P
  generalize Tf.leg f (l.getD i default).Class = a
  generalize legG (lineP t p run) a j h = G
  generalize hq : (h : Int) * a = q
  unfold lastM
  have n1 : ¬ (51 + (i : Int) = 2) := by omega
  have n2 : ¬ (51 + (i : Int) = 1) := by omega
  have n3 : ¬ ((2 : Int) = 51 + i) := by omega
  have n4 : ¬ ((1 : Int) = 51 + i) := by omega
  by_cases hh : h = (lineP t p run).Legs.length
  · rw [if_pos hh, if_pos hh]
    simp only [eff, gain, ind]
    by_cases j1 : j = 1
    · subst j1; simp [n4]; try omega
    · have j1' : ¬ (1 : Int) = j := fun e => j1 e.symm
      by_cases j2 : j = 2
      · subst j2; simp [n3]; try omega
      · have j2' : ¬ (2 : Int) = j := fun e => j2 e.symm
        by_cases j3 : j = 51 + (i : Int)
        · subst j3; simp [n1, n2, n3, n4]; try omega
        · simp [j1, j2, j3, j1', j2']
  · rw [if_neg hh, if_neg hh]
    simp only [eff, gain, ind]
    by_cases j2 : j = 2
    · subst j2; simp [n1, n3]; try omega
    · have j2' : ¬ (2 : Int) = j := fun e => j2 e.symm
      by_cases j3 : j = 51 + (i : Int)
      · subst j3; simp [n1, n3]; try omega
      · have j3' : ¬ 51 + (i : Int) = j := fun e => j3 e.symm
        simp [j2, j3, j2', j3']
/-- sums over the orders of a run -/
def wantR (t : TimeD) (f : TariffD) (l : List OrderD) (p : PlanD) (run : Int) (h : Nat) (j : Int) : Nat → Int
  | 0 => 0
  | k + 1 => wantR t f l p run h j k + if p.Of.getD k 0 = run then wantO t f l p run h k j else 0
def shiftR (t : TimeD) (f : TariffD) (l : List OrderD) (p : PlanD) (run : Int) (j : Int) : Nat → Int
  | 0 => 0
  | k + 1 => shiftR t f l p run j k + if p.Of.getD k 0 = run then priceP t f l p k * (ind j (51 + k) - ind j 2) else 0
theorem eff_pays (t : TimeD) (f : TariffD) (l : List OrderD) (p : PlanD) (run : Int) (h : Nat) (j : Int) : ∀ k, eff (pays t f l p run h k) j = wantR t f l p run h j k + shiftR t f l p run j k
  | 0 => by simp [pays, eff, wantR, shiftR]
  | k + 1 => by
    simp only [pays, wantR, shiftR, eff_append, eff_pays t f l p run h j k]
    split
    · rw [eff_payO]; omega
    · simp only [eff]; omega
/-- what is still in the escrow: the prices of the orders of runs that are not settled -/
def remF (t : TimeD) (f : TariffD) (l : List OrderD) (p : PlanD) (done : Int → Bool) (j : Int) : Nat → Int
  | 0 => 0
  | k + 1 => remF t f l p done j k + if done (p.Of.getD k 0) then 0 else priceP t f l p k * (ind j 2 - ind j (51 + k))
theorem eff_posts (t : TimeD) (f : TariffD) (l : List OrderD) (p : PlanD) (j : Int) : ∀ k, eff (posts t f l p k) j = remF t f l p (fun _ => false) j k
  | 0 => by simp [posts, eff, remF]
  | k + 1 => by
    rw [posts_succ, eff_append, eff_posts t f l p j k]
    simp only [remF, eff, gain, postM, ind, Bool.false_eq_true, if_false]
    generalize priceP t f l p k = P
    have n1 : ¬ (51 + (k : Int) = 2) := by omega
    have n3 : ¬ ((2 : Int) = 51 + k) := by omega
    by_cases j2 : j = 2
    · subst j2; simp [n1, n3]
    · have j2' : ¬ (2 : Int) = j := fun e => j2 e.symm
      by_cases j3 : j = 51 + (k : Int)
      · subst j3; simp [n1, n3]
      · have j3' : ¬ 51 + (k : Int) = j := fun e => j3 e.symm
        simp [j2, j3, j2', j3']
theorem rem_done (t : TimeD) (f : TariffD) (l : List OrderD) (p : PlanD) (run : Int) (done : Int → Bool) (hd : done run = false) (j : Int) : ∀ k, remF t f l p (fun r => done r || decide (r = run)) j k = remF t f l p done j k + shiftR t f l p run j k
  | 0 => by simp [remF, shiftR]
  | k + 1 => by
    simp only [remF, shiftR, rem_done t f l p run done hd j k]
    by_cases e : p.Of.getD k 0 = run
    · simp only [e, hd, decide_true, Bool.or_true, Bool.false_eq_true, if_true, if_false, ite_true]
      have : priceP t f l p k * (ind j 2 - ind j (51 + k)) + priceP t f l p k * (ind j (51 + k) - ind j 2) = 0 := by
        rw [← Int.mul_add, show ind j 2 - ind j (51 + (k : Int)) + (ind j (51 + (k : Int)) - ind j 2) = 0 by omega, Int.mul_zero]
      omega
    · simp only [e, decide_false, Bool.or_false, if_false]; omega
theorem rem_all (t : TimeD) (f : TariffD) (l : List OrderD) (p : PlanD) (done : Int → Bool) (j : Int) : ∀ k, (∀ i, i < k → done (p.Of.getD i 0) = true) → remF t f l p done j k = 0
  | 0, _ => rfl
  | k + 1, h => by
    simp only [remF, rem_all t f l p done j k fun i hi => h i (by omega), h k (by omega), if_true]; omega
theorem price_bd (t : TimeD) (f : TariffD) (l : List OrderD) (p : PlanD) (i : Nat) : 0 ≤ priceP t f l p i ∧ priceP t f l p i ≤ 10485760 := Tf.pri_bd
theorem rem_bd (t : TimeD) (f : TariffD) (l : List OrderD) (p : PlanD) (done : Int → Bool) : ∀ (k : Nat), 0 ≤ remF t f l p done 2 k ∧ ∀ j, -10485760 * (k : Int) ≤ remF t f l p done j k ∧ remF t f l p done j k ≤ 10485760 * k
  | 0 => by simp [remF]
  | k + 1 => by
    obtain ⟨h1, h2⟩ := rem_bd t f l p done k
    have hp := price_bd t f l p k
    simp only [remF]
    generalize priceP t f l p k = P at *
    constructor
    · split
      · omega
      · rw [show ind 2 2 - ind 2 (51 + (k : Int)) = 1 by unfold ind; rw [if_pos rfl, if_neg (by omega)]; rfl]; omega
    · intro j
      have := h2 j
      split
      · omega
      · unfold ind; split <;> split <;> omega
/-- the facts of an order of a right plan -/
theorem price_eq {t : TimeD} {f : TariffD} {l : List OrderD} {p : PlanD} (h : Ok t f l p) {i : Nat} (hi : i < l.length) :
    0 ≤ p.Of.getD i 0 ∧ p.Of.getD i 0 < p.Runs.length ∧ Tt.LOk (lineP t p (p.Of.getD i 0)) t.Offices ∧
    priceP t f l p i = Tf.base f (l.getD i default).Class + (lineP t p (p.Of.getD i 0)).Legs.length * Tf.leg f (l.getD i default).Class + Tf.extra f (l.getD i default).Crowd ∧
    (0 ≤ (l.getD i default).Class ∧ (l.getD i default).Class < f.Base.length) ∧ (1 ≤ (l.getD i default).Crowd ∧ (l.getD i default).Crowd ≤ 64) := by
  have hf := h.f i hi
  simp only [Pl.ofP, Bool.and_eq_true, decide_eq_true_eq] at hf
  obtain ⟨⟨h0, h1⟩, hfit⟩ := hf
  have hk : (p.Of.getD i 0).toNat < p.Runs.length := by omega
  have hr := h.r _ hk
  simp only [Pl.runP, Bool.and_eq_true] at hr
  have hir := hr.1
  simp only [Tt.isRun, Tt.isR, Bool.and_eq_true, decide_eq_true_eq] at hir
  have hln : (p.Runs.getD (p.Of.getD i 0).toNat default).Line.toNat < t.Lines.length := by omega
  have hlo : Tt.LOk (lineP t p (p.Of.getD i 0)) t.Offices := by
    unfold lineP Pl.lineR
    rw [List.getD_eq_getElem?_getD (l := t.Lines), List.getElem?_eq_getElem hln]
    exact Tt.right_ok ((Tt.chk_ok h.o.t).r _ (List.getElem_mem hln))
  have hor := h.o.o (l.getD i default) (by rw [List.getD_eq_getElem?_getD, List.getElem?_eq_getElem hi]; exact List.getElem_mem hi)
  simp only [Pl.oright, Pl.oNum, Bool.and_eq_true, decide_eq_true_eq] at hor
  obtain ⟨⟨o1, o2, o3, o4, o5, o6, o7, o8, o9, o10⟩, _⟩ := hor
  have a1 := hlo.o2
  have a2 := hlo.o9
  have a3 := hlo.l1
  refine ⟨h0, h1, hlo, ?_, o4, o7⟩
  unfold priceP Tf.pri
  have hw : Tf.wrong f (l.getD i default).Class (lineP t p (p.Of.getD i 0)).Legs.length (l.getD i default).Crowd = 0 := by
    unfold Tf.wrong
    rw [if_neg (by simp [h.o.f]), if_neg (by omega)]
  rw [if_neg (by rw [hw]; simp)]
/-- the moves of a run -/
theorem pays_mv {t : TimeD} {f : TariffD} {l : List OrderD} {p : PlanD} (h : Ok t f l p) {run : Int} {n : Nat} (hn : n ≤ (lineP t p run).Legs.length) : ∀ k, k ≤ l.length → ∀ m ∈ pays t f l p run n k, MvOk m ∧ m.From = 2 ∧ m.To ≠ 2 ∧ m.Run = run ∧ (m.Why = 2 ∨ m.Why = 3 ∧ m.To = 1 ∧ n = (lineP t p run).Legs.length ∨ m.Why = 4 ∧ n ≠ (lineP t p run).Legs.length ∧ ∃ i : Nat, i < k ∧ p.Of.getD i 0 = run ∧ m.To = 51 + i)
  | 0, _, m, hm => by simp [pays] at hm
  | k + 1, hk, m, hm => by
    simp only [pays, List.mem_append] at hm
    rcases hm with hm | hm
    · obtain ⟨a, b, c, d, e⟩ := pays_mv h hn k (by omega) m hm
      refine ⟨a, b, c, d, ?_⟩
      rcases e with e | e | ⟨e1, e2, i, hi, e3⟩
      · exact .inl e
      · exact .inr (.inl e)
      · exact .inr (.inr ⟨e1, e2, i, by omega, e3⟩)
    · split at hm
      · rename_i hof
        obtain ⟨q0, q1, hlo, hpe, hcl, hcr⟩ := price_eq h (show k < l.length by omega)
        rw [hof] at hlo hpe
        have hleg := Tf.leg_bd h.o.f (l.getD k default).Class
        have hba := Tf.base_bd h.o.f (l.getD k default).Class
        have hex := Tf.extra_bd h.o.f (l.getD k default).Crowd
        have hpb := price_bd t f l p k
        have hoff := (Tt.chk_ok h.o.t).o
        have hn64 := h.o.n
        have o1 := hlo.l1
        have o9 := hlo.o9
        unfold payO at hm
        rcases List.mem_append.1 hm with hm | hm
        · unfold legMs at hm
          obtain ⟨q, hq, rfl⟩ := List.mem_map.1 hm
          have hq : q < n := by simpa using hq
          have hql : q < (lineP t p run).Offices.length := by omega
          have ho := hlo.s ((lineP t p run).Offices.getD q 0) (by rw [List.getD_eq_getElem?_getD, List.getElem?_eq_getElem hql]; exact List.getElem_mem hql)
          refine ⟨⟨by simp [legM], by simp only [legM]; omega, by simp only [legM]; omega⟩, rfl, by simp only [legM]; omega, rfl, .inl rfl⟩
        · have hm := List.mem_singleton.1 hm
          have hmul : (n : Int) * Tf.leg f (l.getD k default).Class ≤ (lineP t p run).Legs.length * Tf.leg f (l.getD k default).Class := Int.mul_le_mul_of_nonneg_right (by omega) (by omega)
          have hmul0 : 0 ≤ (n : Int) * Tf.leg f (l.getD k default).Class := Int.mul_nonneg (by omega) (by omega)
          unfold lastM at hm
          split at hm
          · rename_i he
            subst hm
            exact ⟨⟨by simp, by simp, by simp only; omega⟩, rfl, by simp, rfl, .inr (.inl ⟨rfl, rfl, he⟩)⟩
          · rename_i he
            subst hm
            exact ⟨⟨by simp, by simp only; omega, by simp only; omega⟩, rfl, by simp only; omega, rfl, .inr (.inr ⟨rfl, he, k, by omega, hof, rfl⟩)⟩
      · simp at hm
theorem posts_mv {t : TimeD} {f : TariffD} {l : List OrderD} {p : PlanD} (h : Ok t f l p) {n : Nat} (hn : n ≤ l.length) : ∀ m ∈ posts t f l p n, MvOk m ∧ m.To = 2 := fun m hm => by
  unfold posts at hm
  obtain ⟨q, hq, rfl⟩ := List.mem_map.1 hm
  have hq : q < n := by simpa using hq
  have := h.o.n
  have := price_bd t f l p q
  exact ⟨⟨by simp only [postM]; omega, by simp [postM], by simp only [postM]; omega⟩, rfl⟩
theorem numd_append {a b : List MoveD} (ha : numd a) (hb : ∀ (k : Nat) (m : MoveD), b[k]? = some m → m.No = (a.length + k : Nat)) : numd (a ++ b) := fun k m hk => by
  rw [List.getElem?_append] at hk
  split at hk
  · exact ha k m hk
  · rename_i h
    rw [hb (k - a.length) m hk]
    congr 1; omega
theorem posts_num (t : TimeD) (f : TariffD) (l : List OrderD) (p : PlanD) (n : Nat) : numd (posts t f l p n) := fun k m hk => by
  have hl := (List.getElem?_eq_some_iff.1 hk).1
  rw [posts_len] at hl
  unfold posts at hk
  rw [List.getElem?_map, List.getElem?_range hl] at hk
  simp at hk; rw [← hk]; rfl
theorem payO_num (t : TimeD) (f : TariffD) (l : List OrderD) (p : PlanD) (run : Int) (h i no : Nat) (k : Nat) (m : MoveD) (hk : (payO t f l p run h i no)[k]? = some m) : m.No = (no + k : Nat) := by
  have hl := (List.getElem?_eq_some_iff.1 hk).1
  rw [payO_len] at hl
  unfold payO at hk
  rw [List.getElem?_append, legMs_len] at hk
  split at hk
  · rename_i hh
    unfold legMs at hk
    rw [List.getElem?_map, List.getElem?_range hh] at hk
    simp at hk; rw [← hk]; rfl
  · have : k = h := by omega
    subst this
    rw [Nat.sub_self] at hk
    simp at hk
    rw [← hk]
    unfold lastM
    split <;> rfl
theorem pays_num (t : TimeD) (f : TariffD) (l : List OrderD) (p : PlanD) (run : Int) (h : Nat) : ∀ k, numd (pays t f l p run h k)
  | 0 => fun k m hk => by simp [pays] at hk
  | k + 1 => by
    show numd (_ ++ _)
    refine numd_append (pays_num t f l p run h k) fun q m hq => ?_
    split at hq
    · exact payO_num _ _ _ _ _ _ _ _ _ _ hq
    · simp at hq
/-- moves out of the escrow never take more than all of them -/
theorem eff_take {l : List MoveD} (h : ∀ m ∈ l, m.From = 2 ∧ m.To ≠ 2 ∧ 0 ≤ m.Amount) : ∀ k, eff l 2 ≤ eff (l.take k) 2 := fun k => by
  have e : eff l 2 = eff (l.take k) 2 + eff (l.drop k) 2 := by rw [← eff_append, List.take_append_drop]
  have : ∀ m : List MoveD, (∀ x ∈ m, x.From = 2 ∧ x.To ≠ 2 ∧ 0 ≤ x.Amount) → eff m 2 ≤ 0 := by
    intro m
    induction m with
    | nil => intro _; simp [eff]
    | cons x m ih =>
      intro hx
      have := hx x (List.mem_cons_self ..)
      have := ih fun y hy => hx y (List.mem_cons_of_mem _ hy)
      simp only [eff, gain]
      rw [if_neg (by omega), if_pos (by omega)]; omega
  have := this (l.drop k) fun x hx => h x (List.mem_of_mem_drop hx)
  omega
theorem eff_in {l : List MoveD} (h : ∀ m ∈ l, m.To = 2 ∧ 0 ≤ m.Amount) : 0 ≤ eff l 2 := by
  induction l with
  | nil => simp [eff]
  | cons x m ih =>
    have := h x (List.mem_cons_self ..)
    have := ih fun y hy => h y (List.mem_cons_of_mem _ hy)
    simp only [eff, gain]
    rw [if_pos (by omega)]
    split <;> omega
end Ec
end Go.Fk

/- Chapter 39: what the laws of the escrow rest on, in plain Lean. No program in sight. -/
set_option linter.unusedVariables false
set_option linter.unusedSimpArgs false
namespace Go.Fk
open Go
namespace Ec
open Bk (lo)
variable {t : TimeD} {f : TariffD} {l : List OrderD} {p : PlanD}
theorem legG_bd (x : LineD) {a : Int} (ha : 0 ≤ a) (j : Int) : ∀ n : Nat, 0 ≤ legG x a j n ∧ legG x a j n ≤ n * a
  | 0 => by simp [legG]
  | n + 1 => by
    have ih := legG_bd x ha j n
    rw [show ((n + 1 : Nat) : Int) * a = n * a + a by rw [Int.natCast_add, Int.add_mul]; simp]
    simp only [legG]
    generalize (n : Int) * a = q at *
    split <;> omega
theorem legG_no (x : LineD) (a : Int) {j : Int} : ∀ n : Nat, (∀ k, k < n → 3 + x.Offices.getD k 0 ≠ j) → legG x a j n = 0
  | 0, _ => rfl
  | n + 1, h => by
    simp only [legG]
    rw [legG_no x a n fun k hk => h k (by omega), if_neg (h n (by omega))]; rfl
theorem off_in (h : Ok t f l p) {i : Nat} (hi : i < l.length) {k : Nat} (hk : k < (lineP t p (p.Of.getD i 0)).Offices.length) : 0 ≤ (lineP t p (p.Of.getD i 0)).Offices.getD k 0 ∧ (lineP t p (p.Of.getD i 0)).Offices.getD k 0 < 24 := by
  obtain ⟨_, _, hlo, _⟩ := price_eq h hi
  have ho := hlo.s ((lineP t p (p.Of.getD i 0)).Offices.getD k 0) (by rw [List.getD_eq_getElem?_getD (l := (lineP t p (p.Of.getD i 0)).Offices), List.getElem?_eq_getElem hk]; exact List.getElem_mem hk)
  have := (Tt.chk_ok h.o.t).o
  omega
/-- an order's part at an account -/
theorem wantO_bd (h : Ok t f l p) {i : Nat} (hi : i < l.length) {run : Int} (hr : p.Of.getD i 0 = run) {n : Nat} (hn : n ≤ (lineP t p run).Legs.length) (j : Int) :
    -20971520 ≤ wantO t f l p run n i j ∧ wantO t f l p run n i j ≤ 20971520 := by
  obtain ⟨q0, q1, hlo, hpe, hcl, hcr⟩ := price_eq h hi
  rw [hr] at hlo hpe
  have hleg := Tf.leg_bd h.o.f (l.getD i default).Class
  have hba := Tf.base_bd h.o.f (l.getD i default).Class
  have hex := Tf.extra_bd h.o.f (l.getD i default).Crowd
  have hpb := price_bd t f l p i
  have o1 := hlo.l1
  have o9 := hlo.o9
  have hg := legG_bd (lineP t p run) hleg.1 j n
  have hmul : (n : Int) * Tf.leg f (l.getD i default).Class ≤ (lineP t p run).Legs.length * Tf.leg f (l.getD i default).Class := Int.mul_le_mul_of_nonneg_right (by omega) (by omega)
  have hmul0 : 0 ≤ (n : Int) * Tf.leg f (l.getD i default).Class := Int.mul_nonneg (by omega) (by omega)
  have hmul8 : (n : Int) * Tf.leg f (l.getD i default).Class ≤ 8 * 1048576 := Int.mul_le_mul (by omega) (by omega) (by omega) (by omega)
  unfold wantO
  generalize (n : Int) * Tf.leg f (l.getD i default).Class = q at *
  generalize legG (lineP t p run) (Tf.leg f (l.getD i default).Class) j n = g at *
  generalize ((lineP t p run).Legs.length : Int) * Tf.leg f (l.getD i default).Class = q2 at *
  unfold ind
  generalize priceP t f l p i = P at *
  split <;> split <;> (try split) <;> (try split) <;> omega
theorem wantR_bd (h : Ok t f l p) {run : Int} {n : Nat} (hn : n ≤ (lineP t p run).Legs.length) (j : Int) : ∀ k : Nat, k ≤ l.length → -(20971520 * k : Int) ≤ wantR t f l p run n j k ∧ wantR t f l p run n j k ≤ 20971520 * k
  | 0, _ => by simp [wantR]
  | k + 1, hk => by
    have ih := wantR_bd h hn j k (by omega)
    simp only [wantR]
    split
    · rename_i e
      have := wantO_bd h (show k < l.length by omega) e hn j
      omega
    · omega
theorem wantO_two (h : Ok t f l p) {i : Nat} (hi : i < l.length) {run : Int} (hr : p.Of.getD i 0 = run) {n : Nat} (hn : n ≤ (lineP t p run).Legs.length) : wantO t f l p run n i 2 = 0 := by
  obtain ⟨q0, q1, hlo, hpe, hcl, hcr⟩ := price_eq h hi
  have o1 := hlo.l1
  unfold wantO
  rw [legG_no _ _ n fun k hk e => by
    have := off_in h hi (k := k) (by rw [hr] at o1 ⊢; omega)
    rw [hr] at this; omega]
  rw [if_neg (show ¬ (2 : Int) = 51 + (i : Int) by omega)]
  rw [show ind 2 1 = 0 by rfl, show ind 2 (51 + (i : Int)) = 0 by unfold ind; rw [if_neg (by omega)]]
  split <;> simp
theorem wantR_two (h : Ok t f l p) {run : Int} {n : Nat} (hn : n ≤ (lineP t p run).Legs.length) : ∀ k : Nat, k ≤ l.length → wantR t f l p run n 2 k = 0
  | 0, _ => rfl
  | k + 1, hk => by
    simp only [wantR]
    rw [wantR_two h hn k (by omega)]
    split
    · rename_i e
      rw [wantO_two h (by omega) e hn]; rfl
    · rfl
/-- what the accounts' function asks of moves -/
structure Acc (b0 : List Int) (ms : List MoveD) : Prop where
  bl : b0.length = 115
  n : numd ms
  m : ∀ x ∈ ms, MvOk x
  e : ∀ k, k ≤ ms.length → 0 ≤ lo b0 2 + eff (ms.take k) 2
  l : ms.length ≤ 4096
  b : ∀ j, 0 ≤ j → -4503599627370496 ≤ lo b0 j ∧ lo b0 j ≤ 4503599627370496
theorem Acc.lo {b : List Int} {m : List MoveD} (h : Acc b m) {j : Int} (hj : 0 ≤ j) (k : Nat) : Bk.lo (Bk.after b (m.take k)) j = Bk.lo b j + eff (m.take k) j := after_eff h.bl (fun x hx => h.m x (List.mem_of_mem_take hx)) hj
theorem eff_bd : ∀ (m : List MoveD), (∀ x ∈ m, MvOk x) → ∀ j, -(1099511627776 * m.length : Int) ≤ eff m j ∧ eff m j ≤ 1099511627776 * m.length
  | [], _, j => by simp [eff]
  | x :: m, h, j => by
    have ih := eff_bd m (fun y hy => h y (List.mem_cons_of_mem _ hy)) j
    obtain ⟨_, _, h1, h2⟩ := h x (List.mem_cons_self ..)
    simp only [eff, gain, List.length_cons]
    split <;> split <;> omega
def wantK (t : TimeD) (f : TariffD) (l : List OrderD) (p : PlanD) (ro : Nat → Int) (hn : Int → Nat) (j : Int) : Nat → Int
  | 0 => 0
  | k + 1 => wantK t f l p ro hn j k + wantR t f l p (ro k) (hn (ro k)) j l.length
def doneK (ro : Nat → Int) (k : Nat) (r : Int) : Bool := (List.range k).any fun i => decide (r = ro i)
theorem doneK_succ (ro : Nat → Int) (k : Nat) : doneK ro (k + 1) = fun r => doneK ro k r || decide (r = ro k) := by
  funext r; simp [doneK, List.range_succ, List.any_append]
theorem wantK_bd (h : Ok t f l p) {ro : Nat → Int} {hn : Int → Nat} (j : Int) : ∀ k : Nat, (∀ i, i < k → hn (ro i) ≤ (lineP t p (ro i)).Legs.length) → -(1342177280 * k : Int) ≤ wantK t f l p ro hn j k ∧ wantK t f l p ro hn j k ≤ 1342177280 * k
  | 0, _ => by simp [wantK]
  | k + 1, hh => by
    have ih := wantK_bd h j k fun i hi => hh i (by omega)
    have := wantR_bd h (hh k (by omega)) j l.length (Nat.le_refl _)
    have := h.o.n
    simp only [wantK]; omega
theorem wantK_two (h : Ok t f l p) {ro : Nat → Int} {hn : Int → Nat} : ∀ k : Nat, (∀ i, i < k → hn (ro i) ≤ (lineP t p (ro i)).Legs.length) → wantK t f l p ro hn 2 k = 0
  | 0, _ => rfl
  | k + 1, hh => by
    simp only [wantK]
    rw [wantK_two h k fun i hi => hh i (by omega), wantR_two h (hh k (by omega)) _ (Nat.le_refl _)]; rfl
theorem pays_acc (h : Ok t f l p) {run : Int} {n : Nat} (hn : n ≤ (lineP t p run).Legs.length) (hL : (lineP t p run).Legs.length ≤ 8) {b : List Int} (hb : b.length = 115) (hB : ∀ j, 0 ≤ j → -4503599627370496 ≤ lo b j ∧ lo b j ≤ 4503599627370496)
    (he : 0 ≤ lo b 2 + eff (pays t f l p run n l.length) 2) : Acc b (pays t f l p run n l.length) := by
  have hm := pays_mv h hn l.length (Nat.le_refl _)
  refine ⟨hb, pays_num _ _ _ _ _ _ _, fun x hx => (hm x hx).1, fun k hk => ?_, ?_, hB⟩
  · have := eff_take (l := pays t f l p run n l.length) (fun x hx => ⟨(hm x hx).2.1, (hm x hx).2.2.1, (hm x hx).1.2.2.1⟩) k
    omega
  · have h1 := pays_len t f l p run n l.length
    have h2 : l.length * (n + 1) ≤ 64 * 9 := Nat.mul_le_mul h.o.n (by omega)
    omega
theorem post_acc (h : Ok t f l p) {b : List Int} (hb : b.length = 115) (h0 : ∀ j, 0 ≤ j → lo b j = 0) : Acc b (posts t f l p l.length) := by
  have hm := posts_mv h (Nat.le_refl l.length)
  have := h.o.n
  refine ⟨hb, posts_num _ _ _ _ _, fun x hx => (hm x hx).1, fun k hk => ?_, by rw [posts_len]; omega, fun j hj => by rw [h0 j hj]; omega⟩
  rw [h0 2 (by omega)]
  have := eff_in (l := (posts t f l p l.length).take k) fun x hx => ⟨(hm x (List.mem_of_mem_take hx)).2, (hm x (List.mem_of_mem_take hx)).1.2.2.1⟩
  omega
/-- a run is settled -/
theorem even_step (h : Ok t f l p) {ro : Nat → Int} {hn : Int → Nat} {k : Nat} {b : List Int} (hb : b.length = 115) (hh : ∀ i, i ≤ k → hn (ro i) ≤ (lineP t p (ro i)).Legs.length) (hL : (lineP t p (ro k)).Legs.length ≤ 8) (hd : doneK ro k (ro k) = false) (hk : k ≤ 100)
    (hlo : ∀ j, 0 ≤ j → lo b j = remF t f l p (doneK ro k) j l.length + wantK t f l p ro hn j k) :
    Acc b (pays t f l p (ro k) (hn (ro k)) l.length) ∧ (Bk.after b (pays t f l p (ro k) (hn (ro k)) l.length)).length = 115 ∧
    ∀ j, 0 ≤ j → lo (Bk.after b (pays t f l p (ro k) (hn (ro k)) l.length)) j = remF t f l p (doneK ro (k + 1)) j l.length + wantK t f l p ro hn j (k + 1) := by
  have hn64 := h.o.n
  have hnk := hh k (Nat.le_refl _)
  have heff : ∀ j, lo b j + eff (pays t f l p (ro k) (hn (ro k)) l.length) j = lo b j + wantR t f l p (ro k) (hn (ro k)) j l.length + shiftR t f l p (ro k) j l.length := fun j => by rw [eff_pays]; omega
  have hrd := rem_done t f l p (ro k) (doneK ro k) hd
  have hres : ∀ j, 0 ≤ j → lo b j + eff (pays t f l p (ro k) (hn (ro k)) l.length) j = remF t f l p (doneK ro (k + 1)) j l.length + wantK t f l p ro hn j (k + 1) := fun j hj => by
    rw [heff, hlo j hj, doneK_succ, hrd j l.length]
    simp only [wantK]; omega
  have hacc : Acc b (pays t f l p (ro k) (hn (ro k)) l.length) := by
    refine pays_acc h hnk hL hb (fun j hj => ?_) ?_
    · rw [hlo j hj]
      have := (rem_bd t f l p (doneK ro k) l.length).2 j
      have := wantK_bd h (hn := hn) (ro := ro) j k fun i hi => hh i (by omega)
      omega
    · rw [hres 2 (by omega), wantK_two h (k + 1) fun i hi => hh i (by omega)]
      have := (rem_bd t f l p (doneK ro (k + 1)) l.length).1
      omega
  refine ⟨hacc, by rw [Bk.after_len, hb], fun j hj => ?_⟩
  rw [after_eff hb hacc.m hj, hres j hj]
/-- how many orders go with a run -/
def ordN (p : PlanD) (run : Int) : Nat → Nat
  | 0 => 0
  | k + 1 => ordN p run k + if p.Of.getD k 0 = run then 1 else 0
def legN : List MoveD → Nat
  | [] => 0
  | m :: r => (if m.Why = 2 then 1 else 0) + legN r
theorem legN_append (a b : List MoveD) : legN (a ++ b) = legN a + legN b := by
  induction a with
  | nil => simp [legN]
  | cons m a ih => simp only [List.cons_append, legN, ih]; omega
theorem legN_legMs (x : LineD) (a run : Int) (no : Nat) : ∀ n, legN (legMs x a run no n) = n
  | 0 => rfl
  | n + 1 => by rw [legMs_succ, legN_append, legN_legMs x a run no n]; simp [legN, legM]
theorem legN_payO (t : TimeD) (f : TariffD) (l : List OrderD) (p : PlanD) (run : Int) (h i no : Nat) : legN (payO t f l p run h i no) = h := by
  unfold payO
  rw [legN_append, legN_legMs]
  unfold lastM
  split <;> simp [legN]
theorem pays_cnt (t : TimeD) (f : TariffD) (l : List OrderD) (p : PlanD) (run : Int) (h : Nat) : ∀ k, legN (pays t f l p run h k) = ordN p run k * h ∧ (pays t f l p run h k).length = ordN p run k * h + ordN p run k
  | 0 => by simp [pays, legN, ordN]
  | k + 1 => by
    have ih := pays_cnt t f l p run h k
    simp only [pays, ordN, legN_append, List.length_append]
    split
    · rw [legN_payO, payO_len, Nat.add_mul]; omega
    · simp [legN]; omega
theorem legN_take {m : List MoveD} {k : Nat} (h : k < m.length) : legN (m.take (k + 1)) = legN (m.take k) + if m[k].Why = 2 then 1 else 0 := by
  rw [List.take_succ_eq_append_getElem h, legN_append]; simp [legN]
theorem ordN_le (p : PlanD) (run : Int) : ∀ k, ordN p run k ≤ k
  | 0 => Nat.le_refl _
  | k + 1 => by
    have := ordN_le p run k
    simp only [ordN]; split <;> omega
/-! one leg more -/
theorem wantO_sender (h : Ok t f l p) {i k : Nat} (hi : i < l.length) (hk : k < l.length) {run : Int} (hr : p.Of.getD i 0 = run) {n : Nat} (hn : n ≤ (lineP t p run).Legs.length) : wantO t f l p run n i (51 + k) = if i = k then -(n * Tf.leg f (l.getD i default).Class) - (if n = (lineP t p run).Legs.length then priceP t f l p i - n * Tf.leg f (l.getD i default).Class else 0) else 0 := by
  obtain ⟨q0, q1, hlo, hpe, hcl, hcr⟩ := price_eq h hi
  have o1 := hlo.l1
  unfold wantO
  rw [legG_no _ _ n fun q hq e => by
    have := off_in h hi (k := q) (by rw [hr] at o1 ⊢; omega)
    rw [hr] at this; omega]
  have i1 : ind (51 + (k : Int)) 1 = 0 := by unfold ind; rw [if_neg (by omega)]
  rw [i1]
  generalize priceP t f l p i = P
  generalize (n : Int) * Tf.leg f (l.getD i default).Class = q
  unfold ind
  by_cases e : i = k
  · subst e
    simp only [if_true]
    split <;> omega
  · rw [if_neg (show ¬ (51 + (k : Int) = 51 + (i : Int)) by omega), if_neg (show ¬ (51 + (k : Int) = 51 + (i : Int)) by omega), if_neg e]
    split <;> omega
/-- what a sender's account has of a run -/
theorem sender_at (h : Ok t f l p) {k : Nat} (hk : k < l.length) {run : Int} (hr : p.Of.getD k 0 = run) {n : Nat} (hn : n ≤ (lineP t p run).Legs.length) : ∀ m, m ≤ l.length →
    wantR t f l p run n (51 + k) m + shiftR t f l p run (51 + k) m = if k < m then priceP t f l p k - n * Tf.leg f (l.getD k default).Class - (if n = (lineP t p run).Legs.length then priceP t f l p k - n * Tf.leg f (l.getD k default).Class else 0) else 0
  | 0, _ => by simp [wantR, shiftR]
  | m + 1, hm => by
    have ih := sender_at h hk hr hn m (by omega)
    simp only [wantR, shiftR]
    by_cases e : p.Of.getD m 0 = run
    · rw [if_pos e, if_pos e, wantO_sender h (show m < l.length by omega) hk e hn]
      have i2 : ind (51 + (k : Int)) 2 = 0 := by unfold ind; rw [if_neg (by omega)]
      rw [i2]
      by_cases hmk : m = k
      · subst hmk
        rw [if_neg (show ¬ m < m by omega)] at ih
        rw [if_pos rfl, if_pos (show m < m + 1 by omega)]
        have i3 : ind (51 + (m : Int)) (51 + (m : Int)) = 1 := by simp [ind]
        rw [i3]; omega
      · rw [if_neg hmk]
        have i3 : ind (51 + (k : Int)) (51 + (m : Int)) = 0 := by unfold ind; rw [if_neg (by omega)]
        rw [i3]
        by_cases hkm : k < m
        · rw [if_pos hkm] at ih; rw [if_pos (show k < m + 1 by omega)]; omega
        · rw [if_neg hkm] at ih; rw [if_neg (show ¬ k < m + 1 by omega)]; omega
    · rw [if_neg e, if_neg e]
      have hmk : m ≠ k := fun hh => e (hh ▸ hr)
      by_cases hkm : k < m
      · rw [if_pos hkm] at ih; rw [if_pos (show k < m + 1 by omega)]; omega
      · rw [if_neg hkm] at ih; rw [if_neg (show ¬ k < m + 1 by omega)]; omega
/-- what orders of a run pay for a leg -/
def gainR (f : TariffD) (l : List OrderD) (p : PlanD) (run : Int) : Nat → Int
  | 0 => 0
  | k + 1 => gainR f l p run k + if p.Of.getD k 0 = run then Tf.leg f (l.getD k default).Class else 0
theorem gainR_bd (h : Ok t f l p) (run : Int) : ∀ k : Nat, 0 ≤ gainR f l p run k ∧ gainR f l p run k ≤ 1048576 * k
  | 0 => by simp [gainR]
  | k + 1 => by
    have ih := gainR_bd h run k
    have := Tf.leg_bd h.o.f (l.getD k default).Class
    simp only [gainR]; split <;> omega
/-- an office gains -/
theorem office_at {run : Int} {n : Nat} {j : Int} (hj : 3 ≤ j ∧ j < 27) : ∀ k, wantR t f l p run (n + 1) j k = wantR t f l p run n j k + if 3 + (lineP t p run).Offices.getD n 0 = j then gainR f l p run k else 0
  | 0 => by simp [wantR, gainR]
  | k + 1 => by
    have ih := office_at (run := run) (n := n) hj k
    have e1 : ∀ m : Nat, wantO t f l p run m k j = legG (lineP t p run) (Tf.leg f (l.getD k default).Class) j m := fun m => by
      unfold wantO
      have a1 : ind j 1 = 0 := by unfold ind; rw [if_neg (by omega)]
      have a2 : ind j (51 + (k : Int)) = 0 := by unfold ind; rw [if_neg (by omega)]
      rw [if_neg (show ¬ j = 51 + (k : Int) by omega), a1, a2]
      split <;> simp
    simp only [wantR, gainR, ih, e1, legG]
    split <;> split <;> omega
end Ec
end Go.Fk

/- Chapter 39: one leg more, in plain Lean. No program in sight. -/
set_option linter.unusedVariables false
set_option linter.unusedSimpArgs false
namespace Go.Fk
open Go
namespace Ec
open Bk (lo)
variable {t : TimeD} {f : TariffD} {l : List OrderD} {p : PlanD}
/-- where EscrowLeg begins -/
def big : List Int := (List.replicate 115 0).set 2 1125899906842624
theorem big_len : big.length = 115 := rfl
theorem lo_rep {n : Nat} {j : Int} : lo (List.replicate n 0) j = 0 := by
  unfold lo; rw [List.getD_eq_getElem?_getD, List.getElem?_replicate]; split <;> rfl
theorem lo_big {j : Int} (hj : 0 ≤ j) : lo big j = if j = 2 then 1125899906842624 else 0 := by
  unfold big
  rw [Bk.lo_set hj (by simp), lo_rep]
  rfl
theorem big_acc (h : Ok t f l p) {run : Int} {n : Nat} (hn : n ≤ (lineP t p run).Legs.length) (hL : (lineP t p run).Legs.length ≤ 8) : Acc big (pays t f l p run n l.length) ∧ ∀ j, 0 ≤ j → lo (Bk.after big (pays t f l p run n l.length)) j = (if j = 2 then 1125899906842624 else 0) + (wantR t f l p run n j l.length + shiftR t f l p run j l.length) := by
  have hm := pays_mv h hn l.length (Nat.le_refl _)
  have h1 := pays_len t f l p run n l.length
  have h2 : l.length * (n + 1) ≤ 64 * 9 := Nat.mul_le_mul h.o.n (by omega)
  have hb := eff_bd _ (fun x hx => (hm x hx).1) 2
  have A : Acc big (pays t f l p run n l.length) := pays_acc h hn hL big_len (fun j hj => by rw [lo_big hj]; split <;> omega) (by rw [lo_big (by omega), if_pos rfl]; omega)
  refine ⟨A, fun j hj => ?_⟩
  rw [after_eff big_len A.m hj, lo_big hj, eff_pays]
theorem leg_two (h : Ok t f l p) {run : Int} {n : Nat} (hn : n + 1 ≤ (lineP t p run).Legs.length) (hL : (lineP t p run).Legs.length ≤ 8) : lo (Bk.after big (pays t f l p run n l.length)) 2 = lo (Bk.after big (pays t f l p run (n + 1) l.length)) 2 := by
  rw [(big_acc h (n := n) (by omega) hL).2 2 (by omega), (big_acc h hn hL).2 2 (by omega), wantR_two h (by omega) _ (Nat.le_refl _), wantR_two h hn _ (Nat.le_refl _)]
theorem leg_sender (h : Ok t f l p) {run : Int} {n : Nat} (hn : n + 1 ≤ (lineP t p run).Legs.length) (hL : (lineP t p run).Legs.length ≤ 8) {k : Nat} (hk : k < l.length) (hr : p.Of.getD k 0 = run) :
    (n + 1 = (lineP t p run).Legs.length → lo (Bk.after big (pays t f l p run (n + 1) l.length)) (51 + k) = 0) ∧
    (n + 1 ≠ (lineP t p run).Legs.length → lo (Bk.after big (pays t f l p run n l.length)) (51 + k) - lo (Bk.after big (pays t f l p run (n + 1) l.length)) (51 + k) = Tf.leg f (l.getD k default).Class) := by
  rw [(big_acc h (n := n) (by omega) hL).2 (51 + k) (by omega), (big_acc h hn hL).2 (51 + k) (by omega), sender_at h hk hr (n := n) (by omega) _ (Nat.le_refl _), sender_at h hk hr hn _ (Nat.le_refl _), if_pos hk, if_pos hk, if_neg (by omega), if_neg (show ¬ n = _ by omega)]
  rw [show ((n + 1 : Nat) : Int) * Tf.leg f (l.getD k default).Class = n * Tf.leg f (l.getD k default).Class + Tf.leg f (l.getD k default).Class by rw [Int.natCast_add, Int.add_mul]; simp]
  generalize (n : Int) * Tf.leg f (l.getD k default).Class = q
  constructor
  · intro e; rw [if_pos e]; omega
  · intro e; rw [if_neg e]; omega
theorem leg_office (h : Ok t f l p) {run : Int} {n : Nat} (hn : n + 1 ≤ (lineP t p run).Legs.length) (hL : (lineP t p run).Legs.length ≤ 8) {j : Int} (hj : 3 ≤ j ∧ j < 27) :
    lo (Bk.after big (pays t f l p run (n + 1) l.length)) j - lo (Bk.after big (pays t f l p run n l.length)) j = if j = 3 + (lineP t p run).Offices.getD n 0 then gainR f l p run l.length else 0 := by
  rw [(big_acc h (n := n) (by omega) hL).2 j (by omega), (big_acc h hn hL).2 j (by omega), office_at hj]
  by_cases e : j = 3 + (lineP t p run).Offices.getD n 0
  · rw [if_pos e, if_pos e.symm, if_neg (show ¬ j = 2 by omega)]; omega
  · rw [if_neg e, if_neg (show ¬ 3 + (lineP t p run).Offices.getD n 0 = j from fun x => e x.symm), if_neg (show ¬ j = 2 by omega)]; omega
theorem big_bd (h : Ok t f l p) {run : Int} {n : Nat} (hn : n ≤ (lineP t p run).Legs.length) (hL : (lineP t p run).Legs.length ≤ 8) {j : Int} (hj : 0 ≤ j) : -4611686018427387904 ≤ lo (Bk.after big (pays t f l p run n l.length)) j ∧ lo (Bk.after big (pays t f l p run n l.length)) j ≤ 4611686018427387904 := by
  have hm := pays_mv h hn l.length (Nat.le_refl _)
  have h1 := pays_len t f l p run n l.length
  have h2 : l.length * (n + 1) ≤ 64 * 9 := Nat.mul_le_mul h.o.n (by omega)
  have hb := eff_bd _ (fun x hx => (hm x hx).1) j
  rw [after_eff big_len (fun x hx => (hm x hx).1) hj, lo_big hj]
  split <;> omega
end Ec
end Go.Fk

/- Chapter 39: the escrow ends empty: the runs in order or turned, in plain Lean. No program in sight. -/
set_option linter.unusedVariables false
set_option linter.unusedSimpArgs false
namespace Go.Fk
open Go
namespace Ec
open Bk (lo)
variable {t : TimeD} {f : TariffD} {l : List OrderD} {p : PlanD}
/-- the run that is settled at step k -/
def roT (tn : Bool) (N k : Nat) : Int := if tn = true then (N : Int) - 1 - k else k
/-- how many legs of a run are handed on -/
def hnT (t : TimeD) (p : PlanD) (hd : List Int) (run : Int) : Nat := if run < hd.length then (hd.getD run.toNat 0 % ((lineP t p run).Legs.length + 1)).toNat else (lineP t p run).Legs.length
theorem hnT_le (hd : List Int) (run : Int) : hnT t p hd run ≤ (lineP t p run).Legs.length := by
  unfold hnT
  split
  · have h0 := Int.emod_nonneg (hd.getD run.toNat 0) (show ((lineP t p run).Legs.length + 1 : Int) ≠ 0 by omega)
    have h1 := Int.emod_lt_of_pos (hd.getD run.toNat 0) (show (0 : Int) < ((lineP t p run).Legs.length + 1 : Int) by omega)
    omega
  · exact Nat.le_refl _
theorem roT_in {tn : Bool} {N k : Nat} (h : k < N) : 0 ≤ roT tn N k ∧ roT tn N k < N := by
  unfold roT; split <;> omega
theorem roT_fresh {tn : Bool} {N k : Nat} (h : k < N) : doneK (roT tn N) k (roT tn N k) = false := by
  unfold doneK
  rw [Bool.eq_false_iff]
  intro hh
  obtain ⟨i, hi, e⟩ := List.any_eq_true.1 hh
  simp only [List.mem_range] at hi
  simp only [decide_eq_true_eq] at e
  unfold roT at e
  split at e <;> omega
theorem roT_all {tn : Bool} {N : Nat} {r : Int} (h0 : 0 ≤ r) (h1 : r < N) : doneK (roT tn N) N r = true := by
  unfold doneK
  rw [List.any_eq_true]
  refine ⟨if tn = true then (N - 1 - r.toNat) else r.toNat, ?_, ?_⟩
  · simp only [List.mem_range]; split <;> omega
  · simp only [decide_eq_true_eq]; unfold roT; split <;> omega
/-- the law's sums -/
theorem lo_two {b : List Int} (hb : b.length = 115) {q s a : Int} (hq : 0 ≤ q ∧ q < 115) (hs : 0 ≤ s ∧ s < 115) {j : Int} (hj : 0 ≤ j) :
    lo ((b.set q.toNat (lo b q - a)).set s.toNat (lo (b.set q.toNat (lo b q - a)) s + a)) j = lo b j + (if s = j then a else 0) - (if q = j then a else 0) := by
  have e1 : (q.toNat : Int) = q := Int.toNat_of_nonneg (by omega)
  have e2 : (s.toNat : Int) = s := Int.toNat_of_nonneg (by omega)
  rw [Bk.lo_set hj (by simp; omega), Bk.lo_set hj (by omega), Bk.lo_set (by omega) (by omega), e1, e2]
  by_cases a1 : j = s
  · subst a1
    by_cases c : j = q
    · subst c; simp; try omega
    · simp [c, fun h : q = j => c h.symm]; try omega
  · by_cases c : j = q
    · subst c; simp [a1, fun h : s = j => a1 h.symm]; try omega
    · simp [a1, c, fun h : s = j => a1 h.symm, fun h : q = j => c h.symm]; try omega
/-- what is wanted, within a run and an order -/
def wantL (t : TimeD) (f : TariffD) (l : List OrderD) (p : PlanD) (ro : Nat → Int) (hn : Int → Nat) (k i n : Nat) (j : Int) : Int :=
  wantK t f l p ro hn j k + wantR t f l p (ro k) (hn (ro k)) j i + (legG (lineP t p (ro k)) (Tf.leg f (l.getD i default).Class) j n - if j = 51 + i then n * Tf.leg f (l.getD i default).Class else 0)
theorem wantL_zero (ro : Nat → Int) (hn : Int → Nat) (k i : Nat) (j : Int) : wantL t f l p ro hn k i 0 j = wantK t f l p ro hn j k + wantR t f l p (ro k) (hn (ro k)) j i := by
  unfold wantL; simp [legG]
theorem wantL_leg (ro : Nat → Int) (hn : Int → Nat) (k i n : Nat) (j : Int) : wantL t f l p ro hn k i (n + 1) j = wantL t f l p ro hn k i n j + (if 3 + (lineP t p (ro k)).Offices.getD n 0 = j then Tf.leg f (l.getD i default).Class else 0) - (if 51 + (i : Int) = j then Tf.leg f (l.getD i default).Class else 0) := by
  unfold wantL
  simp only [legG]
  rw [show ((n + 1 : Nat) : Int) * Tf.leg f (l.getD i default).Class = n * Tf.leg f (l.getD i default).Class + Tf.leg f (l.getD i default).Class by rw [Int.natCast_add, Int.add_mul]; simp]
  generalize (n : Int) * Tf.leg f (l.getD i default).Class = q
  by_cases e : j = 51 + (i : Int)
  · rw [if_pos e, if_pos e, if_pos e.symm]; split <;> omega
  · rw [if_neg e, if_neg e, if_neg (show ¬ 51 + (i : Int) = j from fun h => e h.symm)]; split <;> omega
/-- the last of an order -/
theorem wantL_end (ro : Nat → Int) (hn : Int → Nat) (k i : Nat) (j : Int) (hr : p.Of.getD i 0 = ro k) : wantK t f l p ro hn j k + wantR t f l p (ro k) (hn (ro k)) j (i + 1) =
    wantL t f l p ro hn k i (hn (ro k)) j + (if hn (ro k) = (lineP t p (ro k)).Legs.length then (if 1 = j then priceP t f l p i - hn (ro k) * Tf.leg f (l.getD i default).Class else 0) - (if 51 + (i : Int) = j then priceP t f l p i - hn (ro k) * Tf.leg f (l.getD i default).Class else 0) else 0) := by
  unfold wantL
  simp only [wantR]
  rw [if_pos hr]
  unfold wantO ind
  generalize priceP t f l p i - ↑(hn (ro k)) * Tf.leg f (l.getD i default).Class = R
  generalize ↑(hn (ro k)) * Tf.leg f (l.getD i default).Class = q
  by_cases e1 : j = 1
  · subst e1
    rw [if_neg (show ¬ (1 : Int) = 51 + (i : Int) by omega), if_neg (show ¬ (51 + (i : Int) = 1) by omega), if_neg (show ¬ (1 : Int) = 51 + (i : Int) by omega)]
    split <;> simp <;> omega
  · rw [if_neg e1, if_neg (show ¬ 1 = j from fun h => e1 h.symm)]
    by_cases e : j = 51 + (i : Int)
    · rw [if_pos e, if_pos e, if_pos e.symm]; split <;> simp <;> omega
    · rw [if_neg e, if_neg e, if_neg (show ¬ 51 + (i : Int) = j from fun h => e h.symm)]; split <;> simp <;> omega
theorem wantL_skip (ro : Nat → Int) (hn : Int → Nat) (k i : Nat) (j : Int) (hr : p.Of.getD i 0 ≠ ro k) : wantK t f l p ro hn j k + wantR t f l p (ro k) (hn (ro k)) j (i + 1) = wantK t f l p ro hn j k + wantR t f l p (ro k) (hn (ro k)) j i := by
  simp only [wantR]; rw [if_neg hr]; omega
/-- no sum gets great -/
theorem wantL_bd (h : Ok t f l p) {ro : Nat → Int} {hn : Int → Nat} {k i n : Nat} (hh : ∀ i, i ≤ k → hn (ro i) ≤ (lineP t p (ro i)).Legs.length) (hk : k ≤ 100) (hi : i ≤ l.length) (hn9 : n ≤ 9) (j : Int) : -1099511627776 ≤ wantL t f l p ro hn k i n j ∧ wantL t f l p ro hn k i n j ≤ 1099511627776 := by
  have h1 := wantK_bd h (hn := hn) (ro := ro) j k fun i hi => hh i (by omega)
  have h2 := wantR_bd h (hh k (Nat.le_refl _)) j i hi
  have h3 := Tf.leg_bd h.o.f (l.getD i default).Class
  have h4 := legG_bd (lineP t p (ro k)) h3.1 j n
  have h5 : 0 ≤ (n : Int) * Tf.leg f (l.getD i default).Class := Int.mul_nonneg (by omega) h3.1
  have h6 : (n : Int) * Tf.leg f (l.getD i default).Class ≤ 9 * 1048576 := Int.mul_le_mul (by omega) h3.2 h3.1 (by omega)
  have := h.o.n
  unfold wantL
  generalize (n : Int) * Tf.leg f (l.getD i default).Class = q at *
  split <;> omega
/-- at the end -/
theorem even_end (h : Ok t f l p) {tn : Bool} {hn : Int → Nat} {b c : List Int} (hb : b.length = 115) (hc : c.length = 115)
    (h1 : ∀ j, 0 ≤ j → lo b j = remF t f l p (doneK (roT tn p.Runs.length) p.Runs.length) j l.length + wantK t f l p (roT tn p.Runs.length) hn j p.Runs.length)
    (h2 : ∀ j, 0 ≤ j → lo c j = wantK t f l p (roT tn p.Runs.length) hn j p.Runs.length) : b = c := by
  apply List.ext_getElem (by omega)
  intro k k1 k2
  have e1 := h1 k (by omega)
  rw [rem_all t f l p _ _ l.length fun i hi => roT_all (price_eq h hi).1 (price_eq h hi).2.1] at e1
  have e2 := h2 k (by omega)
  have g1 : lo b k = b[k] := by simp [lo, List.getD_eq_getElem?_getD, k1]
  have g2 : lo c k = c[k] := by simp [lo, List.getD_eq_getElem?_getD, k2]
  omega
theorem even_begin (h : Ok t f l p) (ro : Nat → Int) (hn : Int → Nat) : ∀ j, 0 ≤ j → lo (Bk.after (List.replicate 115 0) (posts t f l p l.length)) j = remF t f l p (doneK ro 0) j l.length + wantK t f l p ro hn j 0 := by
  intro j hj
  have A := post_acc h (b := List.replicate 115 0) (by simp) fun j hj => lo_rep
  rw [after_eff (by simp) A.m hj, lo_rep, eff_posts]
  show _ = remF t f l p (fun _ => false) j l.length + 0
  omega
end Ec
end Go.Fk
