import Derived.Test.YtoadfmgnpmcbfaaGreatQoGp
/- Chapters 41, 42: the book of a period, in plain Lean. No program in sight. -/
set_option linter.unusedVariables false
set_option linter.unusedSimpArgs false
namespace Go.Fk
open Go
namespace Au
open Bk (lo)
open Ec (eff gain MvOk numd)
/-- how far letters were handed on -/
def hOk (t : TimeD) (p : PlanD) (h : List Int) : Bool := (List.range h.length).all fun k => decide (0 ≤ h.getD k 0 ∧ h.getD k 0 ≤ ((Ec.lineP t p k).Legs.length : Int))
/-- the error of a period -/
def err (t : TimeD) (f : TariffD) (l : List OrderD) (p : PlanD) (h : List Int) : Int := if Ec.err t f l p ≠ 0 then Ec.err t f l p else if h.length ≠ p.Runs.length then 1 else if hOk t p h then 0 else 1
def num : Nat → List MoveD → List MoveD
  | _, [] => []
  | i, m :: r => { m with No := (i : Int) } :: num (i + 1) r
theorem num_len : ∀ (l : List MoveD) (i : Nat), (num i l).length = l.length
  | [], _ => rfl
  | m :: r, i => by simp [num, num_len r]
theorem num_append : ∀ (a b : List MoveD) (i : Nat), num i (a ++ b) = num i a ++ num (i + a.length) b
  | [], b, i => by simp [num]
  | m :: a, b, i => by simp only [List.cons_append, num, num_append a b (i + 1), List.length_cons]; rw [show i + 1 + a.length = i + (a.length + 1) by omega]
theorem num_get : ∀ (l : List MoveD) (i k : Nat), (num i l)[k]? = l[k]?.map fun m => { m with No := ((i + k : Nat) : Int) }
  | [], i, k => by simp [num]
  | m :: r, i, 0 => by simp [num]
  | m :: r, i, k + 1 => by
    simp only [num, List.getElem?_cons_succ]
    rw [num_get r (i + 1) k, show i + 1 + k = i + (k + 1) by omega]
/-- the least price of a leg -/
def cheapF (ok : Nat → Bool) : Nat → List Int → Int → Int
  | _, [], a => a
  | i, y :: r, a => cheapF ok (i + 1) r (if ok i then min a y else a)
def cheap (f : TariffD) (cl : Int) : Int := cheapF (Fd.bit cl) 0 f.Leg 1099511627776
/-- what was found is what 'least' finds -/
theorem cheapF_least (ok : Nat → Bool) : ∀ (l : List Int) (i : Nat) (a : Int) (o : Option Int), (∀ x ∈ l, x ≤ 1099511627776) → (o = none ∧ a = 1099511627776 ∨ o = some a) → (Fd.leastF ok i l o = none ∧ cheapF ok i l a = 1099511627776 ∨ Fd.leastF ok i l o = some (cheapF ok i l a))
  | [], _, a, o, _, h => h
  | y :: r, i, a, o, hl, h => by
    have hy := hl y (List.mem_cons_self ..)
    simp only [Fd.leastF, cheapF]
    refine cheapF_least ok r (i + 1) _ _ (fun x hx => hl x (List.mem_cons_of_mem _ hx)) ?_
    rcases h with ⟨rfl, rfl⟩ | rfl
    · cases hk : ok i with
      | true => right; simp [Fd.better]; omega
      | false => left; simp
    · right
      cases hk : ok i with
      | true =>
        by_cases hya : y < a
        · simp [Fd.better, hya]; omega
        · simp [Fd.better, hya]; omega
      | false => simp
/-- in the order of a number -/
def cat (g : Nat → List MoveD) : Nat → List MoveD
  | 0 => []
  | k + 1 => cat g k ++ g k
theorem cat_mem {g : Nat → List MoveD} {m : MoveD} : ∀ {n : Nat}, m ∈ cat g n → ∃ k, k < n ∧ m ∈ g k
  | 0, h => by simp [cat] at h
  | n + 1, h => by
    rcases List.mem_append.1 h with h | h
    · obtain ⟨k, hk, hm⟩ := cat_mem h; exact ⟨k, by omega, hm⟩
    · exact ⟨n, by omega, h⟩
theorem cat_pre (g : Nat → List MoveD) {k n : Nat} (h : k ≤ n) : cat g k <+: cat g n := by
  induction n with
  | zero => have : k = 0 := by omega
            subst this; exact List.prefix_refl _
  | succ n ih =>
    by_cases e : k = n + 1
    · subst e; exact List.prefix_refl _
    · exact (ih (by omega)).trans (List.prefix_append _ _)
theorem cat_eff (g : Nat → List MoveD) (j : Int) : ∀ n, eff (cat g (n + 1)) j = eff (cat g n) j + eff (g n) j := fun n => by simp only [cat, Ec.eff_append]
/-- what was handed on of a run -/
def hn (h : List Int) (r : Nat) : Nat := (h.getD r 0).toNat
def runPays (t : TimeD) (f : TariffD) (l : List OrderD) (p : PlanD) (h : List Int) (r : Nat) : List MoveD := Ec.pays t f l p r (hn h r) l.length
def covA (t : TimeD) (f : TariffD) (p : PlanD) (r : Nat) : Int := p.Covers.getD r 0 * cheap f (Ec.lineP t p r).Classes
def covM (t : TimeD) (f : TariffD) (p : PlanD) (r k : Nat) : MoveD := ⟨k, 1, 3 + (Ec.lineP t p r).Offices.getD k 0, covA t f p r, 5, r⟩
def runCovs (t : TimeD) (f : TariffD) (p : PlanD) (h : List Int) (r : Nat) : List MoveD := (List.range (hn h r)).map (covM t f p r)
def shM (a : Int) (n i : Nat) : MoveD := ⟨i, 1, 51 + i, a.tdiv n + (if (i : Int) < a.tmod n then 1 else 0), 6, -1⟩
def shs (a : Int) (n : Nat) : List MoveD := (List.range n).map (shM a n)
/-- what is asked ahead of the shares -/
def pre (t : TimeD) (f : TariffD) (l : List OrderD) (p : PlanD) (h : List Int) : List MoveD :=
  Ec.posts t f l p l.length ++ (cat (runPays t f l p h) p.Runs.length ++ cat (runCovs t f p h) p.Runs.length)
/-- what is asked -/
def asked (t : TimeD) (f : TariffD) (l : List OrderD) (p : PlanD) (h : List Int) : List MoveD := pre t f l p h ++ shs (eff (pre t f l p h) 1) l.length
/-- the book: without the shares where the fund is negative before them -/
def book (t : TimeD) (f : TariffD) (l : List OrderD) (p : PlanD) (h : List Int) : List MoveD := num 0 (if eff (pre t f l p h) 1 < 0 then pre t f l p h else asked t f l p h)
/-- moves against a book -/
def scan : Nat → Int → List MoveD → List MoveD → Nat × Bool
  | _, _, [], [] => (0, true)
  | i, _, [], _ :: _ => (i, false)
  | i, _, _ :: _, [] => (i, false)
  | i, a, b :: bs, m :: ms => if m = b ∧ 0 ≤ a + gain b 1 then scan (i + 1) (a + gain b 1) bs ms else (i, false)
def check (t : TimeD) (f : TariffD) (l : List OrderD) (p : PlanD) (h : List Int) (m : List MoveD) : Int × Bool × Int :=
  if err t f l p h ≠ 0 then (0, false, err t f l p h) else (((scan 0 0 (book t f l p h) m).1 : Int), (scan 0 0 (book t f l p h) m).2, 0)
/-- the book of settle -/
def negAt (l : List MoveD) : Bool := (List.range (l.length + 1)).any fun k => decide (eff (l.take k) 1 < 0)
def all (t : TimeD) (f : TariffD) (l : List OrderD) (p : PlanD) (h : List Int) : List MoveD × Int :=
  if err t f l p h ≠ 0 then ([], err t f l p h) else if negAt (pre t f l p h) then ([], 381) else (num 0 (asked t f l p h), 0)
structure Ok (t : TimeD) (f : TariffD) (l : List OrderD) (p : PlanD) (h : List Int) : Prop where
  e : Ec.Ok t f l p
  hl : h.length = p.Runs.length
  h : ∀ k, k < p.Runs.length → hn h k ≤ (Ec.lineP t p k).Legs.length ∧ (hn h k : Int) = h.getD k 0
theorem err_ok {t : TimeD} {f : TariffD} {l : List OrderD} {p : PlanD} {h : List Int} (he : err t f l p h = 0) : Ok t f l p h := by
  unfold err at he
  by_cases h1 : Ec.err t f l p = 0
  · rw [if_neg (by simp [h1])] at he
    by_cases h2 : h.length = p.Runs.length
    · rw [if_neg (by simp [h2])] at he
      by_cases h3 : hOk t p h = true
      · refine ⟨Ec.err_ok h1, h2, fun k hk => ?_⟩
        have := List.all_eq_true.1 h3 k (by simp; omega)
        simp only [decide_eq_true_eq] at this
        unfold hn
        omega
      · rw [if_neg h3] at he; cases he
    · rw [if_pos h2] at he; cases he
  · rw [if_pos (by simpa using h1)] at he; exact (h1 he).elim
end Au
end Go.Fk
/- Chapters 41, 42: what the moves of a book lead to, in plain Lean. No program in sight. -/
set_option linter.unusedVariables false
set_option linter.unusedSimpArgs false
namespace Go.Fk
open Go
namespace Au
open Bk (lo)
open Ec (eff gain MvOk numd)
variable {t : TimeD} {f : TariffD} {l : List OrderD} {p : PlanD} {h : List Int}
/-- what leaves an account -/
def out (j : Int) : List MoveD → Int
  | [] => 0
  | m :: r => (if m.From = j then m.Amount else 0) + out j r
def inn (j : Int) : List MoveD → Int
  | [] => 0
  | m :: r => (if m.To = j then m.Amount else 0) + inn j r
theorem eff_io (j : Int) : ∀ l : List MoveD, eff l j = inn j l - out j l
  | [] => rfl
  | m :: r => by simp only [eff, gain, inn, out, eff_io j r]; omega
theorem out_append (j : Int) (a b : List MoveD) : out j (a ++ b) = out j a + out j b := by
  induction a with
  | nil => simp [out]
  | cons m a ih => simp only [List.cons_append, out, ih]; omega
theorem inn_append (j : Int) (a b : List MoveD) : inn j (a ++ b) = inn j a + inn j b := by
  induction a with
  | nil => simp [inn]
  | cons m a ih => simp only [List.cons_append, inn, ih]; omega
theorem out_nn (j : Int) : ∀ {l : List MoveD}, (∀ m ∈ l, 0 ≤ m.Amount) → 0 ≤ out j l
  | [], _ => Int.le_refl _
  | m :: r, hh => by
    have := out_nn j fun x hx => hh x (List.mem_cons_of_mem _ hx)
    have := hh m (List.mem_cons_self ..)
    simp only [out]; split <;> omega
theorem inn_nn (j : Int) : ∀ {l : List MoveD}, (∀ m ∈ l, 0 ≤ m.Amount) → 0 ≤ inn j l
  | [], _ => Int.le_refl _
  | m :: r, hh => by
    have := inn_nn j fun x hx => hh x (List.mem_cons_of_mem _ hx)
    have := hh m (List.mem_cons_self ..)
    simp only [inn]; split <;> omega
theorem out_no (j : Int) : ∀ {l : List MoveD}, (∀ m ∈ l, m.From ≠ j) → out j l = 0
  | [], _ => rfl
  | m :: r, hh => by
    have := out_no j fun x hx => hh x (List.mem_cons_of_mem _ hx)
    simp only [out, if_neg (hh m (List.mem_cons_self ..)), this]; rfl
theorem inn_no (j : Int) : ∀ {l : List MoveD}, (∀ m ∈ l, m.To ≠ j) → inn j l = 0
  | [], _ => rfl
  | m :: r, hh => by
    have := inn_no j fun x hx => hh x (List.mem_cons_of_mem _ hx)
    simp only [inn, if_neg (hh m (List.mem_cons_self ..)), this]; rfl
theorem out_take (j : Int) {l : List MoveD} (hh : ∀ m ∈ l, 0 ≤ m.Amount) (k : Nat) : out j (l.take k) ≤ out j l := by
  have e : out j l = out j (l.take k) + out j (l.drop k) := by rw [← out_append, List.take_append_drop]
  have := out_nn j (l := l.drop k) fun m hm => hh m (List.mem_of_mem_drop hm)
  omega
/-- a move that books take -/
def Mv (m : MoveD) : Prop := (0 ≤ m.From ∧ m.From ≤ 114) ∧ (0 ≤ m.To ∧ m.To ≤ 114) ∧ m.From ≠ m.To ∧ (0 ≤ m.Amount ∧ m.Amount ≤ 1099511627776) ∧ (1 ≤ m.Why ∧ m.Why ≤ 9) ∧ -1 ≤ m.Run ∧ m.Run ≤ 1999
theorem Mv.ok {m : MoveD} (h : Mv m) : MvOk m := ⟨h.1, h.2.1, h.2.2.2.1⟩
/-! the classes of an order's run -/
theorem wh_least (hk : Ec.Ok t f l p) {i : Nat} (hi : i < l.length) : Fd.bit (Ec.lineP t p (p.Of.getD i 0)).Classes (l.getD i default).Class.toNat = true := by
  have hf := hk.f i hi
  simp only [Pl.ofP, Pl.fits, Bool.and_eq_true] at hf
  have h0 := hf.2.1.1.1.1.1
  unfold Pl.c0 at h0
  unfold Fd.bit
  obtain ⟨_, _, _, _, hcl, _⟩ := Ec.price_eq hk hi
  have e : (2 : Int) ^ (min (l.getD i default).Class.toNat 64) = 2 ^ (min (l.getD i default).Class.toNat 64) := rfl
  simpa [Ec.lineP] using h0
theorem load_pos {r : RunD} : ∀ {l : List OrderD} {of : List RunD} {a : Pl.LoadD}, (Pl.loadF r l of a).n ≠ a.n → ∃ k, k < l.length ∧ k < of.length ∧ of.getD k default = r
  | [], of, a, hh => by cases of <;> simp [Pl.loadF] at hh
  | o :: l, [], a, hh => by simp [Pl.loadF] at hh
  | o :: l, s :: of, a, hh => by
    by_cases e : s = r
    · exact ⟨0, by simp, by simp, by simpa using e⟩
    · simp only [Pl.loadF, if_neg e] at hh
      obtain ⟨k, h1, h2, h3⟩ := load_pos hh
      exact ⟨k + 1, by simpa using h1, by simpa using h2, by simpa using h3⟩
/-- the runs of a right plan differ -/
theorem runs_lt (hk : Ec.Ok t f l p) : ∀ (j i : Nat), i < j → j < p.Runs.length → Tt.before (p.Runs.getD i default) (p.Runs.getD j default) = true
  | 0, i, hij, _ => by omega
  | j + 1, i, hij, hj => by
    have hr := hk.r (j + 1) hj
    simp only [Pl.runP, Bool.and_eq_true, Bool.or_eq_true, decide_eq_true_eq] at hr
    have h2 : Tt.before (p.Runs.getD j default) (p.Runs.getD (j + 1) default) = true := by
      rcases hr.2 with h | h
      · omega
      · simpa using h
    by_cases e : i = j
    · subst e; exact h2
    · have h1 := runs_lt hk j i (by omega) (by omega)
      simp only [Tt.before, decide_eq_true_eq] at h1 h2 ⊢
      omega
theorem runs_inj (hk : Ec.Ok t f l p) {i j : Nat} (hi : i < p.Runs.length) (hj : j < p.Runs.length) (e : p.Runs.getD i default = p.Runs.getD j default) : i = j := by
  have A : ∀ {a b : Nat}, a < b → b < p.Runs.length → p.Runs.getD a default ≠ p.Runs.getD b default := fun {a b} hab hb he => by
    have := runs_lt hk b a hab hb
    rw [he] at this
    simp [Tt.before] at this
  rcases Nat.lt_trichotomy i j with h | h | h
  · exact (A h hj e).elim
  · exact h
  · exact (A h hi e.symm).elim
/-- each run has an order -/
theorem run_has (hk : Ec.Ok t f l p) {r : Nat} (hr : r < p.Runs.length) : ∃ i, i < l.length ∧ p.Of.getD i 0 = (r : Int) := by
  have hc := hk.c r hr
  simp only [Pl.covP, decide_eq_true_eq] at hc
  obtain ⟨k, h1, h2, h3⟩ := load_pos (a := .zero) hc.1
  refine ⟨k, h1, ?_⟩
  have hf := hk.f k h1
  simp only [Pl.ofP, Bool.and_eq_true, decide_eq_true_eq] at hf
  have ho : (Pl.ofs p).getD k default = p.Runs.getD (p.Of.getD k 0).toNat default := by
    have hkl : k < p.Of.length := by rw [hk.ol]; exact h1
    simp [Pl.ofs, List.getD_eq_getElem?_getD, hkl]
  rw [ho] at h3
  have := runs_inj hk (by omega) hr h3
  omega
theorem no_runs (hk : Ec.Ok t f l p) (h0 : l.length = 0) : p.Runs.length = 0 := by
  rcases Nat.eq_zero_or_pos p.Runs.length with e | e
  · exact e
  · obtain ⟨i, hi, _⟩ := run_has hk e
    omega
theorem line_ok (hk : Ec.Ok t f l p) {r : Nat} (hr : r < p.Runs.length) : Tt.LOk (Ec.lineP t p r) t.Offices := by
  obtain ⟨i, hi, e⟩ := run_has hk hr
  obtain ⟨_, _, h, _⟩ := Ec.price_eq hk hi
  rwa [e] at h
/-- the least price of a leg of a run is there -/
theorem cheap_least (hk : Ec.Ok t f l p) {r : Nat} (hr : r < p.Runs.length) : Fd.least (Fd.bit (Ec.lineP t p r).Classes) f.Leg = some (cheap f (Ec.lineP t p r).Classes) := by
  obtain ⟨i, hi, e⟩ := run_has hk hr
  have hb := wh_least hk hi
  rw [e] at hb
  obtain ⟨_, _, _, _, hcl, _⟩ := Ec.price_eq hk hi
  have hf := Tf.chk_ok hk.o.f
  have hlt : (l.getD i default).Class.toNat < f.Leg.length := by have := hf.n; omega
  rcases cheapF_least (Fd.bit (Ec.lineP t p r).Classes) f.Leg 0 1099511627776 none (fun x hx => by have := hf.l x hx; omega) (.inl ⟨rfl, rfl⟩) with h | h
  · exfalso
    have : ∀ (l : List Int) (i : Nat) (o : Option Int) (k : Nat), k < l.length → Fd.bit (Ec.lineP t p r).Classes (i + k) = true → Fd.leastF (Fd.bit (Ec.lineP t p r).Classes) i l o ≠ none := by
      intro l
      induction l with
      | nil => intro i o k hk; simp at hk
      | cons y l ih =>
        intro i o k hk hb
        simp only [Fd.leastF]
        cases k with
        | zero =>
          simp only [Nat.add_zero] at hb
          rw [hb, Bool.true_and]
          have hs : ∀ (l : List Int) (i : Nat) (x : Int), Fd.leastF (Fd.bit (Ec.lineP t p r).Classes) i l (some x) ≠ none := by
            intro l
            induction l with
            | nil => intro i x; simp [Fd.leastF]
            | cons y l ih => intro i x; simp only [Fd.leastF]; split <;> exact ih _ _
          cases o with
          | none => simp only [Fd.better, if_true]; exact hs _ _ _
          | some x => split <;> exact hs _ _ _
        | succ k => exact ih (i + 1) _ k (by simpa using hk) (by rw [show i + 1 + k = i + (k + 1) by omega]; exact hb)
    exact this f.Leg 0 none _ hlt (by rw [Nat.zero_add]; exact hb) h.1
  · exact h
theorem cheap_bd (hk : Ec.Ok t f l p) {r : Nat} (hr : r < p.Runs.length) : 0 ≤ cheap f (Ec.lineP t p r).Classes ∧ cheap f (Ec.lineP t p r).Classes ≤ 1048576 := by
  have := Fd.least_mem (cheap_least hk hr)
  exact (Tf.chk_ok hk.o.f).l _ this
theorem cov_bd (hk : Ec.Ok t f l p) {r : Nat} (hr : r < p.Runs.length) : 0 ≤ p.Covers.getD r 0 ∧ p.Covers.getD r 0 ≤ 64 := by
  have hc := hk.c r hr
  simp only [Pl.covP, decide_eq_true_eq] at hc
  have hb := Pl.load_bd (l := l) (fun o ho => by
    have := hk.o.o o ho
    simp only [Pl.oright, Pl.oNum, Bool.and_eq_true, decide_eq_true_eq] at this
    exact this.1.2.2.2.2.2.2.1) (Pl.ofs p) (p.Runs.getD r default)
  rw [hc.2.1]
  unfold Pl.LoadD.covers
  omega
theorem covA_bd (hk : Ec.Ok t f l p) {r : Nat} (hr : r < p.Runs.length) : 0 ≤ covA t f p r ∧ covA t f p r ≤ 67108864 := by
  have h1 := cov_bd hk hr
  have h2 := cheap_bd hk hr
  unfold covA
  exact ⟨Int.mul_nonneg h1.1 h2.1, by have := Int.mul_le_mul h1.2 h2.2 h2.1 (by omega : (0 : Int) ≤ 64); omega⟩
/-- the moves ahead of the shares -/
theorem posts_mv (hk : Ec.Ok t f l p) (hR : p.Runs.length ≤ 70) : ∀ m ∈ Ec.posts t f l p l.length, Mv m ∧ m.To = 2 ∧ m.Why = 1 ∧ 51 ≤ m.From := fun m hm => by
  have h1 := Ec.posts_mv hk (Nat.le_refl _) m hm
  unfold Ec.posts at hm
  obtain ⟨q, hq, rfl⟩ := List.mem_map.1 hm
  have hq : q < l.length := by simpa using hq
  obtain ⟨q0, q1, _⟩ := Ec.price_eq hk hq
  have hn := hk.o.n
  refine ⟨⟨h1.1.1, h1.1.2.1, ?_, h1.1.2.2, by simp [Ec.postM], ?_, ?_⟩, h1.2, rfl, ?_⟩
  · simp only [Ec.postM]; omega
  · simp only [Ec.postM]; omega
  · simp only [Ec.postM]; omega
  · simp only [Ec.postM]; omega
theorem pays_mv (hk : Ok t f l p h) (hR : p.Runs.length ≤ 70) {r : Nat} (hr : r < p.Runs.length) : ∀ m ∈ runPays t f l p h r, Mv m ∧ m.From = 2 ∧ m.Run = r ∧ (m.Why = 2 ∨ m.Why = 3 ∨ m.Why = 4) := fun m hm => by
  obtain ⟨h1, h2, h3, h4, h5⟩ := Ec.pays_mv hk.e (hk.h r hr).1 l.length (Nat.le_refl _) m hm
  have hw : m.Why = 2 ∨ m.Why = 3 ∨ m.Why = 4 := by
    rcases h5 with h | h | h
    · exact .inl h
    · exact .inr (.inl h.1)
    · exact .inr (.inr h.1)
  exact ⟨⟨h1.1, h1.2.1, by omega, h1.2.2, by omega, by omega, by omega⟩, h2, h4, hw⟩
theorem covs_mv (hk : Ok t f l p h) (hR : p.Runs.length ≤ 70) {r : Nat} (hr : r < p.Runs.length) : ∀ m ∈ runCovs t f p h r, Mv m ∧ m.From = 1 ∧ m.Run = r ∧ m.Why = 5 ∧ (3 ≤ m.To ∧ m.To < 27) := fun m hm => by
  unfold runCovs at hm
  obtain ⟨q, hq, rfl⟩ := List.mem_map.1 hm
  have hq : q < hn h r := by simpa using hq
  have hlo := line_ok hk.e hr
  have hl := (hk.h r hr).1
  have o1 := hlo.l1
  have hlt : q < (Ec.lineP t p r).Offices.length := by omega
  have ho := hlo.s ((Ec.lineP t p r).Offices.getD q 0) (by rw [List.getD_eq_getElem?_getD, List.getElem?_eq_getElem hlt]; exact List.getElem_mem hlt)
  have := (Tt.chk_ok hk.e.o.t).o
  have hc := covA_bd hk.e hr
  refine ⟨⟨by simp [covM], by simp only [covM]; omega, by simp only [covM]; omega, by simp only [covM]; omega, by simp [covM], by simp only [covM]; omega, by simp only [covM]; omega⟩, rfl, rfl, rfl, by simp only [covM]; omega⟩
theorem pre_mv (hk : Ok t f l p h) (hR : p.Runs.length ≤ 70) : ∀ m ∈ pre t f l p h, Mv m := fun m hm => by
  unfold pre at hm
  rcases List.mem_append.1 hm with hm | hm
  · exact (posts_mv hk.e hR m hm).1
  · rcases List.mem_append.1 hm with hm | hm
    · obtain ⟨r, hr, hm⟩ := cat_mem hm
      exact (pays_mv hk hR hr m hm).1
    · obtain ⟨r, hr, hm⟩ := cat_mem hm
      exact (covs_mv hk hR hr m hm).1
/-! how many moves -/
def ordS (p : PlanD) (k : Nat) : Nat → Nat
  | 0 => 0
  | r + 1 => ordS p k r + Ec.ordN p r k
theorem ordS_zero (p : PlanD) : ∀ r, ordS p 0 r = 0
  | 0 => rfl
  | r + 1 => by simp [ordS, ordS_zero p r, Ec.ordN]
theorem ordS_succ (p : PlanD) (k : Nat) : ∀ r, ordS p (k + 1) r = ordS p k r + (if 0 ≤ p.Of.getD k 0 ∧ p.Of.getD k 0 < (r : Int) then 1 else 0)
  | 0 => by
    rw [if_neg (by omega)]; rfl
  | r + 1 => by
    simp only [ordS, ordS_succ p k r, Ec.ordN]
    split <;> split <;> split <;> omega
theorem ordS_le (p : PlanD) (r : Nat) : ∀ k, ordS p k r ≤ k
  | 0 => by rw [ordS_zero]; exact Nat.le_refl _
  | k + 1 => by
    have := ordS_le p r k
    rw [ordS_succ]; split <;> omega
theorem catPays_len (hk : Ok t f l p h) : ∀ r, r ≤ p.Runs.length → (cat (runPays t f l p h) r).length ≤ 9 * ordS p l.length r
  | 0, _ => by simp [cat]
  | r + 1, hr => by
    have ih := catPays_len hk r (by omega)
    have h1 := (Ec.pays_cnt t f l p r (hn h r) l.length).2
    have h2 := (hk.h r (by omega)).1
    have h3 := line_ok hk.e (show r < p.Runs.length by omega)
    have h4 := h3.l1
    have h5 := h3.o9
    simp only [cat, ordS, List.length_append]
    have h6 : (runPays t f l p h r).length = Ec.ordN p r l.length * hn h r + Ec.ordN p r l.length := h1
    have h7 : Ec.ordN p r l.length * hn h r ≤ Ec.ordN p r l.length * 8 := Nat.mul_le_mul_left _ (by omega)
    omega
theorem catCovs_len (hk : Ok t f l p h) : ∀ r, r ≤ p.Runs.length → (cat (runCovs t f p h) r).length ≤ 8 * r
  | 0, _ => by simp [cat]
  | r + 1, hr => by
    have ih := catCovs_len hk r (by omega)
    have h2 := (hk.h r (by omega)).1
    have h3 := line_ok hk.e (show r < p.Runs.length by omega)
    have h4 := h3.l1
    have h5 := h3.o9
    simp only [cat, List.length_append]
    have h6 : (runCovs t f p h r).length = hn h r := by simp [runCovs]
    omega
theorem pre_len (hk : Ok t f l p h) (hR : p.Runs.length ≤ 70) : (pre t f l p h).length ≤ 10 * l.length + 560 := by
  have h1 := catPays_len hk p.Runs.length (Nat.le_refl _)
  have h2 := catCovs_len hk p.Runs.length (Nat.le_refl _)
  have h3 := ordS_le p p.Runs.length l.length
  unfold pre
  simp only [List.length_append, Ec.posts_len]
  omega
theorem asked_len (hk : Ok t f l p h) (hR : p.Runs.length ≤ 70) : (asked t f l p h).length ≤ 11 * l.length + 560 := by
  have := pre_len hk hR
  unfold asked
  simp only [List.length_append, shs, List.length_map, List.length_range]
  omega
/-! the sums -/
theorem catPays_eff (hk : Ok t f l p h) (j : Int) : ∀ r, eff (cat (runPays t f l p h) r) j = Ec.wantK t f l p (fun i => (i : Int)) (fun r => hn h r.toNat) j r + (Ec.remF t f l p (Ec.doneK (fun i => (i : Int)) r) j l.length - Ec.remF t f l p (fun _ => false) j l.length)
  | 0 => by
    have : Ec.doneK (fun i => (i : Int)) 0 = fun _ => false := rfl
    simp [cat, eff, Ec.wantK, this]
  | r + 1 => by
    have hd : Ec.doneK (fun i => (i : Int)) r (r : Int) = false := by
      unfold Ec.doneK
      rw [List.any_eq_false]
      intro x hx
      simp at hx ⊢; omega
    rw [cat_eff, catPays_eff hk j r, Ec.doneK_succ, Ec.rem_done t f l p r _ hd j l.length]
    simp only [Ec.wantK, runPays, Ec.eff_pays, Int.toNat_natCast]
    omega
theorem done_all (hk : Ec.Ok t f l p) (j : Int) : Ec.remF t f l p (Ec.doneK (fun i => (i : Int)) p.Runs.length) j l.length = 0 :=
  Ec.rem_all t f l p _ j l.length fun i hi => by
    obtain ⟨q0, q1, _⟩ := Ec.price_eq hk hi
    unfold Ec.doneK
    rw [List.any_eq_true]
    exact ⟨(p.Of.getD i 0).toNat, List.mem_range.2 (by omega), decide_eq_true (show p.Of.getD i 0 = (((p.Of.getD i 0).toNat : Nat) : Int) by omega)⟩
/-- ahead of the covers: what is due -/
theorem paid_eff (hk : Ok t f l p h) (j : Int) : eff (Ec.posts t f l p l.length) j + eff (cat (runPays t f l p h) p.Runs.length) j = Ec.wantK t f l p (fun i => (i : Int)) (fun r => hn h r.toNat) j p.Runs.length := by
  rw [Ec.eff_posts, catPays_eff hk, done_all hk.e]; omega
/-! shares -/
theorem shs_eq {a : Int} {n : Nat} (ha : 0 ≤ a) : shs a n = Fd.shares a n n := by
  unfold shs Fd.shares
  refine List.map_congr_left fun i hi => ?_
  unfold shM Fd.shaM Fd.part
  rw [tdiv_eq ha, tmod_eq ha]
theorem shs_tot {a : Int} {n : Nat} (ha : 0 ≤ a) (hn : 1 ≤ n) : out 1 (shs a n) = a := by
  have e : ∀ k, out 1 (Fd.shares a n k) = Fd.tot (Fd.shares a n k) := by
    intro k
    induction k with
    | zero => rfl
    | succ k ih => rw [Fd.shares_succ, out_append, Fd.tot_append, ih]; simp [out, Fd.tot, Fd.shaM]
  rw [shs_eq ha, e]
  have := Fd.sha_all (a := a) (s := n) (by omega)
  rwa [Int.toNat_natCast] at this
theorem part_bd' {a : Int} {n i : Nat} (ha : 0 ≤ a) (hn : 1 ≤ n) : 0 ≤ Fd.part a n i ∧ Fd.part a n i ≤ a + 1 := by
  unfold Fd.part
  have h1 : 0 ≤ a / n := Int.ediv_nonneg ha (by omega)
  have h2 : a / n ≤ a := Int.ediv_le_self _ ha
  split <;> omega
theorem shs_mv {a : Int} {n : Nat} (ha : 0 ≤ a ∧ a ≤ 1099511627775) (hn : n ≤ 64) : ∀ m ∈ shs a n, Mv m ∧ m.From = 1 ∧ m.Why = 6 ∧ 51 ≤ m.To ∧ m.Run = -1 := fun m hm => by
  rw [shs_eq ha.1] at hm
  unfold Fd.shares at hm
  obtain ⟨q, hq, rfl⟩ := List.mem_map.1 hm
  have hq : q < n := by simpa using hq
  have := part_bd' (i := q) ha.1 (show 1 ≤ n by omega)
  refine ⟨⟨by simp [Fd.shaM], by simp only [Fd.shaM]; omega, by simp only [Fd.shaM]; omega, by simp only [Fd.shaM]; omega, by simp [Fd.shaM], by simp [Fd.shaM], by simp [Fd.shaM]⟩, rfl, rfl, by simp only [Fd.shaM]; omega, rfl⟩
theorem pre_one (hk : Ok t f l p h) (hR : p.Runs.length ≤ 70) : -(93952409600 : Int) * 8 ≤ eff (pre t f l p h) 1 ∧ eff (pre t f l p h) 1 ≤ 93952409600 := by
  have h1 := paid_eff hk 1
  have h2 := Ec.wantK_bd hk.e (ro := fun i => (i : Int)) (hn := fun r => hn h r.toNat) 1 p.Runs.length fun i hi => by simpa using (hk.h i hi).1
  have h3 : ∀ r, r ≤ p.Runs.length → -(67108864 * 8 * r : Int) ≤ eff (cat (runCovs t f p h) r) 1 ∧ eff (cat (runCovs t f p h) r) 1 ≤ 0 := by
    intro r
    induction r with
    | zero => intro _; simp [cat, eff]
    | succ r ih =>
      intro hr
      have ih := ih (by omega)
      rw [cat_eff]
      have hb := covA_bd hk.e (show r < p.Runs.length by omega)
      have hl := (hk.h r (by omega)).1
      have hlo := line_ok hk.e (show r < p.Runs.length by omega)
      have o1 := hlo.l1
      have o9 := hlo.o9
      have : ∀ n, n ≤ hn h r → -(67108864 * n : Int) ≤ eff ((List.range n).map (covM t f p r)) 1 ∧ eff ((List.range n).map (covM t f p r)) 1 ≤ 0 := by
        intro n
        induction n with
        | zero => intro _; simp [eff]
        | succ n ihn =>
          intro hn'
          have ihn := ihn (by omega)
          have hlt : n < (Ec.lineP t p r).Offices.length := by omega
          have ho := hlo.s ((Ec.lineP t p r).Offices.getD n 0) (by rw [List.getD_eq_getElem?_getD, List.getElem?_eq_getElem hlt]; exact List.getElem_mem hlt)
          rw [List.range_succ, List.map_append, Ec.eff_append]
          simp only [List.map_cons, List.map_nil, eff, gain, covM, if_true]
          rw [if_neg (by omega)]; omega
      have := this (hn h r) (Nat.le_refl _)
      have e : eff (runCovs t f p h r) 1 = eff ((List.range (hn h r)).map (covM t f p r)) 1 := rfl
      rw [e]
      omega
  have h4 := h3 p.Runs.length (Nat.le_refl _)
  unfold pre
  rw [Ec.eff_append, Ec.eff_append]
  omega
/-! the whole book -/
theorem asked_mv (hk : Ok t f l p h) (hR : p.Runs.length ≤ 70) (ha : 0 ≤ eff (pre t f l p h) 1) : ∀ m ∈ asked t f l p h, Mv m := fun m hm => by
  unfold asked at hm
  rcases List.mem_append.1 hm with hm | hm
  · exact pre_mv hk hR m hm
  · have := pre_one hk hR
    exact (shs_mv ⟨ha, by omega⟩ hk.e.o.n m hm).1
theorem asked_one (hk : Ok t f l p h) (hR : p.Runs.length ≤ 70) (ha : 0 ≤ eff (pre t f l p h) 1) : eff (asked t f l p h) 1 = 0 := by
  unfold asked
  rw [Ec.eff_append]
  by_cases h0 : l.length = 0
  · have hr := no_runs hk.e h0
    unfold pre
    rw [h0, hr]
    simp [cat, Ec.posts, shs, eff]
  · rw [eff_io 1 (shs _ _), shs_tot ha (by omega), inn_no]
    · omega
    · intro m hm
      have := pre_one hk hR
      have := shs_mv ⟨ha, by omega⟩ hk.e.o.n m hm
      omega
theorem shs_no (hk : Ok t f l p h) (hR : p.Runs.length ≤ 70) (ha : 0 ≤ eff (pre t f l p h) 1) {j : Int} (hj : j ≠ 1) (hj2 : j < 51) : eff (shs (eff (pre t f l p h) 1) l.length) j = 0 := by
  have hp := pre_one hk hR
  rw [eff_io, inn_no, out_no]; rfl
  · intro m hm
    have := shs_mv ⟨ha, by omega⟩ hk.e.o.n m hm
    omega
  · intro m hm
    have := shs_mv ⟨ha, by omega⟩ hk.e.o.n m hm
    omega
/-- what leaves a sender's account: the price, once -/
theorem posts_out (t : TimeD) (f : TariffD) (l : List OrderD) (p : PlanD) (j : Int) : ∀ n, out j (Ec.posts t f l p n) = if 51 ≤ j ∧ j < 51 + n then Ec.priceP t f l p (j - 51).toNat else 0
  | 0 => by
    rw [if_neg (by omega)]; rfl
  | n + 1 => by
    rw [Ec.posts_succ, out_append, posts_out t f l p j n]
    have ho : out j [Ec.postM t f l p n] = if 51 + (n : Int) = j then Ec.priceP t f l p n else 0 := by
      simp [out, Ec.postM]
    rw [ho]
    by_cases e : 51 + (n : Int) = j
    · subst e
      rw [if_neg (by omega), if_pos rfl, if_pos (by omega)]
      have : (51 + (n : Int) - 51).toNat = n := by omega
      rw [this]; omega
    · rw [if_neg e]
      by_cases h1 : 51 ≤ j ∧ j < 51 + (n : Int)
      · rw [if_pos h1, if_pos (by omega)]; omega
      · rw [if_neg h1, if_neg (by omega)]; rfl
theorem asked_out (hk : Ok t f l p h) (hR : p.Runs.length ≤ 70) (ha : 0 ≤ eff (pre t f l p h) 1) {j : Int} (hj : 3 ≤ j) : out j (asked t f l p h) = if 51 ≤ j ∧ j < 51 + (l.length : Int) then Ec.priceP t f l p (j - 51).toNat else 0 := by
  have hp := pre_one hk hR
  unfold asked pre
  rw [out_append, out_append, out_append, posts_out, out_no j (l := cat (runPays t f l p h) p.Runs.length), out_no j (l := cat (runCovs t f p h) p.Runs.length), out_no j (l := shs _ _)]
  · omega
  · intro m hm
    have := shs_mv ⟨ha, by omega⟩ hk.e.o.n m hm
    omega
  · intro m hm
    obtain ⟨r, hr, hm⟩ := cat_mem hm
    have := covs_mv hk hR hr m hm
    omega
  · intro m hm
    obtain ⟨r, hr, hm⟩ := cat_mem hm
    have := pays_mv hk hR hr m hm
    omega
end Au
end Go.Fk
/- Chapter 41: how a period is settled, move by move, in plain Lean. No program in sight. -/
set_option linter.unusedVariables false
set_option linter.unusedSimpArgs false
namespace Go.Fk
open Go
namespace Au
open Bk (lo)
open Ec (eff gain MvOk numd)
/-- a book of moves, and the fund after them -/
abbrev Bs := List MoveD × Int
def fstep (F : Int) (m : MoveD) : Int := if m.To = 1 then F + m.Amount else if m.From = 1 then F - m.Amount else F
def addF : List MoveD → Int → List MoveD → Option Bs
  | M, F, [] => some (M, F)
  | M, F, m :: r => if fstep F m < 0 then none else addF (M ++ [{ m with No := (M.length : Int) }]) (fstep F m) r
/-- (*book).add -/
def add (s : Bs) (r : List MoveD × Int) : Except Int Bs := if r.2 ≠ 0 then .error r.2 else match addF s.1 s.2 r.1 with
  | none => .error 381
  | some s => .ok s
/-- for n runs, from run k on -/
def runF (g : Nat → List MoveD × Int) : Nat → Nat → Bs → Except Int Bs
  | _, 0, s => .ok s
  | k, n + 1, s => match add s (g k) with
    | .ok s => runF g (k + 1) n s
    | .error x => .error x
theorem runF_succ (g : Nat → List MoveD × Int) : ∀ (n j : Nat) (s : Bs), runF g j (n + 1) s = match runF g j n s with
    | .ok s' => add s' (g (j + n))
    | .error x => .error x
  | 0, j, s => by
    simp only [runF, Nat.add_zero]
    cases add s (g j) <;> rfl
  | n + 1, j, s => by
    rw [runF]
    conv => rhs; rw [runF]
    cases hs : add s (g j) with
    | error x => rfl
    | ok s' =>
      simp only
      rw [runF_succ g n (j + 1) s', show j + 1 + n = j + (n + 1) by omega]
theorem runF_stop {g : Nat → List MoveD × Int} {s s' : Bs} {x : Int} {k : Nat} (h1 : runF g 0 k s = .ok s') (h2 : add s' (g k) = .error x) : ∀ n, k < n → runF g 0 n s = .error x
  | 0, h => by omega
  | n + 1, h => by
    rw [runF_succ, Nat.zero_add]
    by_cases e : k = n
    · subst e; rw [h1]; exact h2
    · rw [runF_stop h1 h2 n (by omega)]
def payG (t : TimeD) (f : TariffD) (l : List OrderD) (p : PlanD) (h : List Int) (k : Nat) : List MoveD × Int := Ec.pay t f l p k (h.getD k 0)
def covG (t : TimeD) (f : TariffD) (p : PlanD) (h : List Int) (k : Nat) : List MoveD × Int := Fd.cover t f p k (h.getD k 0)
def lenG (p : PlanD) (h : List Int) (s : Bs) : Except Int Bs := if h.length ≠ p.Runs.length then .error 1 else .ok s
def shG (l : List OrderD) (s : Bs) : Except Int Bs := if 0 < l.length then add s (Fd.share s.2 l.length) else .ok s
/-- the five parts of a period -/
def part (t : TimeD) (f : TariffD) (l : List OrderD) (p : PlanD) (h : List Int) (k : Nat) (s : Bs) : Except Int Bs :=
  if k = 0 then add s (Ec.post t f l p) else if k = 1 then lenG p h s else if k = 2 then runF (payG t f l p h) 0 h.length s else if k = 3 then runF (covG t f p h) 0 h.length s else shG l s
def parts (t : TimeD) (f : TariffD) (l : List OrderD) (p : PlanD) (h : List Int) : Nat → Nat → Bs → Except Int Bs
  | _, 0, s => .ok s
  | k, n + 1, s => match part t f l p h k s with
    | .ok s => parts t f l p h (k + 1) n s
    | .error x => .error x
def outE : Except Int Bs → List MoveD × Int
  | .ok s => (s.1, 0)
  | .error x => ([], x)
def settle (t : TimeD) (f : TariffD) (l : List OrderD) (p : PlanD) (h : List Int) : Except Int Bs := parts t f l p h 0 5 ([], 0)
/-! ### what comes of it -/
theorem fstep_gain {m : MoveD} (h : m.From ≠ m.To) (F : Int) : fstep F m = F + gain m 1 := by
  unfold fstep gain
  by_cases h1 : m.To = 1
  · rw [if_pos h1, if_pos h1, if_neg (by omega)]; omega
  · rw [if_neg h1, if_neg h1]
    by_cases h2 : m.From = 1
    · rw [if_pos h2, if_pos h2]; omega
    · rw [if_neg h2, if_neg h2]; omega
def St (X : List MoveD) : Bs := (num 0 X, eff X 1)
theorem negAt_iff {X : List MoveD} : negAt X = true ↔ ∃ k, k ≤ X.length ∧ eff (X.take k) 1 < 0 := by
  unfold negAt
  rw [List.any_eq_true]
  constructor
  · rintro ⟨k, h1, h2⟩
    exact ⟨k, by simp at h1; omega, by simpa using h2⟩
  · rintro ⟨k, h1, h2⟩
    exact ⟨k, by simp; omega, by simpa using h2⟩
theorem negAt_no {X : List MoveD} (h : negAt X = false) (k : Nat) : 0 ≤ eff (X.take k) 1 := by
  by_cases hk : k ≤ X.length
  · rcases Int.lt_or_le (eff (X.take k) 1) 0 with h1 | h1
    · rw [negAt_iff.2 ⟨k, hk, h1⟩] at h; cases h
    · exact h1
  · rw [List.take_of_length_le (by omega)]
    rcases Int.lt_or_le (eff X 1) 0 with h1 | h1
    · rw [negAt_iff.2 ⟨X.length, Nat.le_refl _, by rwa [List.take_length]⟩] at h; cases h
    · exact h1
theorem negAt_pre {X Y : List MoveD} (h : X <+: Y) (hn : negAt X = true) : negAt Y = true := by
  obtain ⟨Z, rfl⟩ := h
  obtain ⟨k, h1, h2⟩ := negAt_iff.1 hn
  exact negAt_iff.2 ⟨k, by rw [List.length_append]; omega, by rwa [List.take_append_of_le_length h1]⟩
theorem negAt_preN {X Y : List MoveD} (h : X <+: Y) (hn : negAt Y = false) : negAt X = false := by
  cases hx : negAt X with
  | false => rfl
  | true => rw [negAt_pre h hx] at hn; cases hn
theorem negAt_one {X : List MoveD} {m : MoveD} (h : negAt X = false) : negAt (X ++ [m]) = decide (eff (X ++ [m]) 1 < 0) := by
  by_cases hd : eff (X ++ [m]) 1 < 0
  · rw [decide_eq_true hd]
    exact negAt_iff.2 ⟨(X ++ [m]).length, Nat.le_refl _, by rwa [List.take_length]⟩
  · rw [decide_eq_false hd]
    cases hn : negAt (X ++ [m]) with
    | false => rfl
    | true =>
      obtain ⟨k, h1, h2⟩ := negAt_iff.1 hn
      simp only [List.length_append, List.length_singleton] at h1
      by_cases hk : k ≤ X.length
      · rw [List.take_append_of_le_length hk] at h2
        have := negAt_no h k; omega
      · rw [List.take_of_length_le (by simp; omega)] at h2; exact (hd h2).elim
theorem addF_eq : ∀ (Y X : List MoveD), negAt X = false → (∀ m ∈ Y, m.From ≠ m.To) → addF (num 0 X) (eff X 1) Y = if negAt (X ++ Y) then none else some (St (X ++ Y))
  | [], X, hX, _ => by rw [List.append_nil, hX]; rfl
  | m :: r, X, hX, hY => by
    have hg := fstep_gain (hY m (List.mem_cons_self ..)) (eff X 1)
    have he : eff (X ++ [m]) 1 = eff X 1 + gain m 1 := by rw [Ec.eff_append]; simp [eff]
    have h1 := negAt_one (m := m) hX
    unfold addF
    rw [hg, ← he]
    have hpre : X ++ [m] <+: X ++ m :: r := ⟨r, by simp⟩
    by_cases hd : eff (X ++ [m]) 1 < 0
    · rw [if_pos hd]
      rw [decide_eq_true hd] at h1
      rw [if_pos (negAt_pre hpre h1)]
    · rw [if_neg hd]
      rw [decide_eq_false hd] at h1
      have hnum : num 0 X ++ [{ m with No := ((num 0 X).length : Int) }] = num 0 (X ++ [m]) := by
        rw [num_append, num_len, Nat.zero_add]; rfl
      rw [hnum, addF_eq r (X ++ [m]) h1 fun x hx => hY x (List.mem_cons_of_mem _ hx)]
      simp only [List.append_assoc, List.cons_append, List.nil_append]
theorem add_eq {X Y : List MoveD} (hX : negAt X = false) (hY : ∀ m ∈ Y, m.From ≠ m.To) : add (St X) (Y, 0) = if negAt (X ++ Y) then .error 381 else .ok (St (X ++ Y)) := by
  unfold add
  rw [if_neg (by simp)]
  have e : addF (St X).1 (St X).2 (Y, (0 : Int)).1 = _ := addF_eq Y X hX hY
  rw [e]
  by_cases h : negAt (X ++ Y) = true
  · rw [if_pos h, if_pos h]
  · rw [if_neg h, if_neg h]
theorem runF_eq {g : Nat → List MoveD × Int} {G : Nat → List MoveD} (X : List MoveD) : ∀ (n j : Nat), negAt (X ++ cat G j) = false → (∀ k, j ≤ k → k < j + n → g k = (G k, 0) ∧ ∀ m ∈ G k, m.From ≠ m.To) →
    runF g j n (St (X ++ cat G j)) = if negAt (X ++ cat G (j + n)) then .error 381 else .ok (St (X ++ cat G (j + n)))
  | 0, j, hX, _ => by rw [Nat.add_zero, hX]; rfl
  | n + 1, j, hX, hg => by
    obtain ⟨h1, h2⟩ := hg j (Nat.le_refl _) (by omega)
    have e : X ++ cat G j ++ G j = X ++ cat G (j + 1) := by rw [List.append_assoc]; rfl
    unfold runF
    rw [h1, add_eq hX h2, e]
    have hpre : X ++ cat G (j + 1) <+: X ++ cat G (j + (n + 1)) := by
      obtain ⟨Z, hZ⟩ := cat_pre G (show j + 1 ≤ j + (n + 1) by omega)
      exact ⟨Z, by rw [List.append_assoc, hZ]⟩
    by_cases hn : negAt (X ++ cat G (j + 1)) = true
    · rw [if_pos hn, if_pos (negAt_pre hpre hn)]
    · rw [if_neg hn]
      have := runF_eq X n (j + 1) (by simpa using hn) fun k h3 h4 => hg k (by omega) (by omega)
      rw [show j + 1 + n = j + (n + 1) by omega] at this
      exact this
/-- the first that fails -/
theorem runF_err {g : Nat → List MoveD × Int} {G : Nat → List MoveD} {e : Int} (he : e ≠ 0) (X : List MoveD) (k0 : Nat) (hk : g k0 = ([], e)) (hX : negAt (X ++ cat G k0) = false) : ∀ (n j : Nat), j ≤ k0 → k0 < j + n → (∀ k, j ≤ k → k < k0 → g k = (G k, 0) ∧ ∀ m ∈ G k, m.From ≠ m.To) →
    runF g j n (St (X ++ cat G j)) = .error e
  | 0, j, h1, h2, _ => by omega
  | n + 1, j, h1, h2, hg => by
    by_cases hj : j = k0
    · subst hj
      unfold runF
      rw [hk]; simp [add, he]
    · obtain ⟨h3, h4⟩ := hg j (Nat.le_refl _) (by omega)
      have e1 : X ++ cat G j ++ G j = X ++ cat G (j + 1) := by rw [List.append_assoc]; rfl
      have pre : ∀ i, i ≤ k0 → negAt (X ++ cat G i) = false := fun i hi => negAt_preN (by
        obtain ⟨Z, hZ⟩ := cat_pre G hi
        exact ⟨Z, by rw [List.append_assoc, hZ]⟩) hX
      unfold runF
      rw [h3, add_eq (pre j h1) h4, e1, if_neg (by rw [pre (j + 1) (by omega)]; simp)]
      exact runF_err he X k0 hk hX n (j + 1) (by omega) (by omega) fun k h5 h6 => hg k (by omega) h6
variable {t : TimeD} {f : TariffD} {l : List OrderD} {p : PlanD} {h : List Int}
theorem eff1_nn : ∀ {l : List MoveD}, (∀ m ∈ l, m.From ≠ 1 ∧ 0 ≤ m.Amount) → 0 ≤ eff l 1 := fun {l} h => by
  rw [eff_io, out_no 1 fun m hm => (h m hm).1]
  have := inn_nn 1 fun m hm => (h m hm).2
  omega
theorem negAt_nn {l : List MoveD} (h : ∀ m ∈ l, m.From ≠ 1 ∧ 0 ≤ m.Amount) : negAt l = false := by
  cases hn : negAt l with
  | false => rfl
  | true =>
    obtain ⟨k, _, h2⟩ := negAt_iff.1 hn
    have := eff1_nn (l := l.take k) fun m hm => h m (List.mem_of_mem_take hm)
    omega
theorem formed_ok (hk : Ec.Ok t f l p) : Fd.formed t p = true := by
  unfold Fd.formed
  simp only [Bool.and_eq_true, decide_eq_true_eq]
  have hr : ∀ k, k < p.Runs.length → Tt.isRun t (p.Runs.getD k default) = true ∧ (k = 0 ∨ Tt.before (p.Runs.getD (k - 1) default) (p.Runs.getD k default) = true) := fun k hk' => by
    have := hk.r k hk'
    simpa [Pl.runP] using this
  refine ⟨⟨⟨hk.cl, ?_⟩, ?_⟩, ?_⟩
  · rw [List.all_eq_true]
    intro x hx
    obtain ⟨k, hk', rfl⟩ := List.mem_iff_getElem.1 hx
    have := (hr k hk').1
    simpa [List.getD_eq_getElem?_getD, hk'] using this
  · unfold Fd.ordOk
    rw [List.all_eq_true]
    intro i hi
    simp at hi
    have := (hr (i + 1) (by omega)).2
    simpa using this
  · rw [List.all_eq_true]
    intro x hx
    obtain ⟨k, hk', rfl⟩ := List.mem_iff_getElem.1 hx
    have := cov_bd hk (r := k) (by rw [← hk.cl]; exact hk')
    unfold Fd.covOk
    simp [List.getD_eq_getElem?_getD, hk'] at this
    simpa using this
/-- what is paid for a run's covers -/
theorem cover_ok (hk : Ok t f l p h) {k : Nat} (hr : k < p.Runs.length) : covG t f p h k = (runCovs t f p h k, 0) := by
  have hc := hk.h k hr
  have hlo := line_ok hk.e hr
  have o1 := hlo.l1
  have hL : Fd.lineOf t p (k : Int) = Ec.lineP t p k := by simp [Fd.lineOf, Ec.lineP, Pl.lineR]
  have hcost : Fd.cost t f p (k : Int) = (covA t f p k, 0) := by
    unfold Fd.cost
    rw [if_neg (by simp [hk.e.o.t]), if_neg (by simp [hk.e.o.f]), if_neg (by simp [formed_ok hk.e]), if_neg (by omega), hL, cheap_least hk.e hr]
    simp [covA, Int.mul_comm]
  unfold covG Fd.cover
  rw [hcost, if_neg (by simp), hL, if_neg (by unfold hn at hc; omega)]
  refine Prod.ext ?_ rfl
  show Fd.covs (covA t f p k) k ((Ec.lineP t p k).Offices.take (h.getD k 0).toNat) = _
  unfold Fd.covs runCovs
  have hh : hn h k = (h.getD k 0).toNat := rfl
  have hlen : ((Ec.lineP t p (k : Int)).Offices.take (h.getD k 0).toNat).length = hn h k := by
    rw [List.length_take, ← hh]; omega
  rw [hlen]
  refine List.map_congr_left fun i hi => ?_
  have hi : i < hn h k := by simpa using hi
  unfold Fd.covM covM
  have : ((Ec.lineP t p (k : Int)).Offices.take (h.getD k 0).toNat).getD i 0 = (Ec.lineP t p k).Offices.getD i 0 := by
    rw [List.getD_eq_getElem?_getD, List.getElem?_take, if_pos (by omega), ← List.getD_eq_getElem?_getD]
  rw [this]
theorem pay_ok (hk : Ec.Ok t f l p) (he : Ec.err t f l p = 0) {k : Nat} (hr : k < p.Runs.length) (h0 : 0 ≤ h.getD k 0 ∧ h.getD k 0 ≤ ((Ec.lineP t p k).Legs.length : Int)) : payG t f l p h k = (runPays t f l p h k, 0) := by
  unfold payG Ec.pay
  rw [if_neg (by simp [he]), if_neg (by omega)]
  rfl
theorem pay_no (he : Ec.err t f l p = 0) {k : Nat} (h0 : ¬ (0 ≤ h.getD k 0 ∧ h.getD k 0 ≤ ((Ec.lineP t p k).Legs.length : Int))) : payG t f l p h k = ([], 1) := by
  unfold payG Ec.pay
  rw [if_neg (by simp [he]), if_pos (by omega)]
theorem runPays_mv (hk : Ec.Ok t f l p) (k : Nat) (h0 : hn h k ≤ (Ec.lineP t p k).Legs.length) : ∀ m ∈ runPays t f l p h k, MvOk m ∧ m.From = 2 ∧ m.To ≠ 2 := fun m hm => by
  have := Ec.pays_mv hk h0 l.length (Nat.le_refl _) m hm
  exact ⟨this.1, this.2.1, this.2.2.1⟩
theorem least_fail (P : Nat → Bool) : ∀ n, (List.range n).all P = false → ∃ k, k < n ∧ P k = false ∧ ∀ j, j < k → P j = true
  | 0, h => by simp at h
  | n + 1, h => by
    by_cases hn : (List.range n).all P = true
    · refine ⟨n, by omega, ?_, fun j hj => ?_⟩
      · rw [List.range_succ, List.all_append, hn] at h
        simpa using h
      · exact List.all_eq_true.1 hn j (by simpa using hj)
    · obtain ⟨k, h1, h2, h3⟩ := least_fail P n (by simpa using hn)
      exact ⟨k, by omega, h2, h3⟩
theorem cat_nil {G : Nat → List MoveD} : cat G 0 = [] := rfl
theorem settle_all (hR : p.Runs.length ≤ 70) (hl : l.length ≤ 64) : outE (settle t f l p h) = all t f l p h := by
  unfold settle
  simp only [parts, part]
  by_cases he : Ec.err t f l p = 0
  case neg =>
    have ha : all t f l p h = ([], Ec.err t f l p) := by
      have : err t f l p h = Ec.err t f l p := by unfold err; rw [if_pos he]
      unfold all; rw [if_pos (by rw [this]; exact he), this]
    have hp : Ec.post t f l p = ([], Ec.err t f l p) := by unfold Ec.post; rw [if_pos he]
    rw [ha, hp]
    simp [add, he, outE]
  have hk := Ec.err_ok he
  have hp : Ec.post t f l p = (Ec.posts t f l p l.length, 0) := by unfold Ec.post; rw [if_neg (by simp [he])]
  have hpo := posts_mv hk hR
  have hn1 : negAt (Ec.posts t f l p l.length) = false := negAt_nn fun m hm => by
    have := hpo m hm
    exact ⟨by omega, this.1.2.2.2.1.1⟩
  have h1 : add ([], 0) (Ec.post t f l p) = .ok (St (Ec.posts t f l p l.length)) := by
    have := add_eq (X := []) (Y := Ec.posts t f l p l.length) rfl fun m hm => (hpo m hm).1.2.2.1
    rw [List.nil_append, if_neg (by simp [hn1])] at this
    rw [hp]; exact this
  simp only [if_pos, h1]
  by_cases hlen : h.length = p.Runs.length
  case neg =>
    have : err t f l p h = 1 := by unfold err; rw [if_neg (by simp [he]), if_pos hlen]
    simp [lenG, hlen, outE, all, this]
  have h2 : lenG p h (St (Ec.posts t f l p l.length)) = .ok (St (Ec.posts t f l p l.length)) := by unfold lenG; rw [if_neg (by simp [hlen])]
  simp only [show (1 : Nat) ≠ 0 by decide, if_false, if_true, h2]
  by_cases ho : hOk t p h = true
  case neg =>
    obtain ⟨k0, k1, k2, k3⟩ := least_fail _ _ (show (List.range h.length).all (fun k => decide (0 ≤ h.getD k 0 ∧ h.getD k 0 ≤ ((Ec.lineP t p k).Legs.length : Int))) = false by simpa [hOk] using ho)
    have ha : all t f l p h = ([], 1) := by
      have : err t f l p h = 1 := by unfold err; rw [if_neg (by simp [he]), if_neg (by simp [hlen]), if_neg ho]
      unfold all; rw [if_pos (by rw [this]; decide), this]
    have hmv : ∀ k, k < k0 → ∀ m ∈ runPays t f l p h k, MvOk m ∧ m.From = 2 ∧ m.To ≠ 2 := fun k hk' => by
      have := k3 k hk'
      simp only [decide_eq_true_eq] at this
      exact runPays_mv hk k (by unfold hn; omega)
    have := runF_err (g := payG t f l p h) (G := runPays t f l p h) (e := 1) (by decide) (Ec.posts t f l p l.length) k0 (pay_no he (by simpa using k2)) (negAt_nn fun m hm => by
      rcases List.mem_append.1 hm with hm | hm
      · have := hpo m hm
        exact ⟨by omega, this.1.2.2.2.1.1⟩
      · obtain ⟨r, hr, hm⟩ := cat_mem hm
        have := hmv r hr m hm
        exact ⟨by omega, this.1.2.2.1⟩) h.length 0 (Nat.zero_le _) (by omega) fun k _ hk' => ⟨pay_ok hk he (by omega) (by simpa using k3 k hk'), fun m hm => by have := hmv k hk' m hm; omega⟩
    rw [cat_nil, List.append_nil] at this
    simp only [show (2 : Nat) ≠ 0 by decide, show (2 : Nat) ≠ 1 by decide, if_false, if_true, this, ha, outE]
  have h0 : err t f l p h = 0 := by unfold err; rw [if_neg (by simp [he]), if_neg (by simp [hlen]), if_pos ho]
  have hK := err_ok h0
  have hn2 : negAt (Ec.posts t f l p l.length ++ cat (runPays t f l p h) h.length) = false := negAt_nn fun m hm => by
    rcases List.mem_append.1 hm with hm | hm
    · have := hpo m hm
      exact ⟨by omega, this.1.2.2.2.1.1⟩
    · obtain ⟨r, hr, hm⟩ := cat_mem hm
      have := pays_mv hK hR (by omega) m hm
      exact ⟨by omega, this.1.2.2.2.1.1⟩
  have h3 : runF (payG t f l p h) 0 h.length (St (Ec.posts t f l p l.length)) = .ok (St (Ec.posts t f l p l.length ++ cat (runPays t f l p h) h.length)) := by
    have := runF_eq (g := payG t f l p h) (G := runPays t f l p h) (Ec.posts t f l p l.length) h.length 0 (by rw [cat_nil, List.append_nil]; exact hn1) fun k _ hk' => ⟨pay_ok hk he (by omega) (by
      have := List.all_eq_true.1 ho k (by simp; omega)
      simpa using this), fun m hm => (pays_mv hK hR (by omega) m hm).1.2.2.1⟩
    rw [cat_nil, List.append_nil, Nat.zero_add, if_neg (by simp [hn2])] at this
    exact this
  simp only [show (2 : Nat) ≠ 0 by decide, show (2 : Nat) ≠ 1 by decide, if_false, if_true, h3]
  have hpre : Ec.posts t f l p l.length ++ cat (runPays t f l p h) h.length ++ cat (runCovs t f p h) h.length = pre t f l p h := by
    unfold pre; rw [hlen, List.append_assoc]
  have h4 : runF (covG t f p h) 0 h.length (St (Ec.posts t f l p l.length ++ cat (runPays t f l p h) h.length)) = if negAt (pre t f l p h) then .error 381 else .ok (St (pre t f l p h)) := by
    have := runF_eq (g := covG t f p h) (G := runCovs t f p h) (Ec.posts t f l p l.length ++ cat (runPays t f l p h) h.length) h.length 0 (by rw [cat_nil, List.append_nil]; exact hn2) fun k _ hk' => ⟨cover_ok hK (by omega), fun m hm => (covs_mv hK hR (by omega) m hm).1.2.2.1⟩
    rw [cat_nil, List.append_nil, Nat.zero_add, hpre] at this
    exact this
  simp only [show (3 : Nat) ≠ 0 by decide, show (3 : Nat) ≠ 1 by decide, show (3 : Nat) ≠ 2 by decide, if_false, if_true, h4]
  have hall : all t f l p h = if negAt (pre t f l p h) then ([], 381) else (num 0 (asked t f l p h), 0) := by
    unfold all; rw [if_neg (by simp [h0])]
  rw [hall]
  by_cases hneg : negAt (pre t f l p h) = true
  · simp [hneg, outE]
  have hneg' : negAt (pre t f l p h) = false := by simpa using hneg
  have hF : 0 ≤ eff (pre t f l p h) 1 := by
    have := negAt_no hneg' (pre t f l p h).length
    rwa [List.take_length] at this
  simp only [hneg', Bool.false_eq_true, if_false, show (4 : Nat) ≠ 0 by decide, show (4 : Nat) ≠ 1 by decide, show (4 : Nat) ≠ 2 by decide, show (4 : Nat) ≠ 3 by decide]
  unfold shG
  by_cases hl0 : 0 < l.length
  · rw [if_pos hl0]
    have hp1 := pre_one hK hR
    have hsh : Fd.share (St (pre t f l p h)).2 l.length = (shs (eff (pre t f l p h) 1) l.length, 0) := by
      show Fd.share (eff (pre t f l p h) 1) l.length = _
      unfold Fd.share
      rw [if_neg (by omega), shs_eq hF, Int.toNat_natCast]
    have hasked : ∀ k, 0 ≤ eff ((asked t f l p h).take k) 1 := fun k => by
      have hone := asked_one hK hR hF
      unfold asked
      rw [List.take_append, Ec.eff_append]
      by_cases hkl : k ≤ (pre t f l p h).length
      · rw [show k - (pre t f l p h).length = 0 by omega, List.take_zero]
        have := negAt_no hneg' k
        simp only [eff]; omega
      · rw [List.take_of_length_le (l := pre t f l p h) (by omega)]
        unfold asked at hone
        rw [Ec.eff_append] at hone
        have hsm := shs_mv (a := eff (pre t f l p h) 1) (n := l.length) ⟨hF, by omega⟩ hl
        have h1 := out_take 1 (l := shs (eff (pre t f l p h) 1) l.length) (fun m hm => (hsm m hm).1.2.2.2.1.1) (k - (pre t f l p h).length)
        have h2 : inn 1 (shs (eff (pre t f l p h) 1) l.length) = 0 := inn_no 1 fun m hm => by have := hsm m hm; omega
        have h3 : inn 1 ((shs (eff (pre t f l p h) 1) l.length).take (k - (pre t f l p h).length)) = 0 := inn_no 1 fun m hm => by have := hsm m (List.mem_of_mem_take hm); omega
        rw [eff_io 1 (shs _ _)] at hone
        rw [eff_io 1 ((shs _ _).take _)]
        omega
    have hn5 : negAt (pre t f l p h ++ shs (eff (pre t f l p h) 1) l.length) = false := by
      cases hx : negAt (pre t f l p h ++ shs (eff (pre t f l p h) 1) l.length) with
      | false => rfl
      | true =>
        obtain ⟨k, _, h2⟩ := negAt_iff.1 hx
        have := hasked k
        unfold asked at this
        omega
    rw [hsh, add_eq hneg' fun m hm => (shs_mv (a := eff (pre t f l p h) 1) (n := l.length) ⟨hF, by omega⟩ hl m hm).1.2.2.1, if_neg (by simp [hn5])]
    rfl
  · rw [if_neg hl0]
    have hl0 : l.length = 0 := by omega
    have : asked t f l p h = pre t f l p h := by unfold asked; rw [hl0]; simp [shs]
    rw [this]; rfl
end Au
end Go.Fk
/- Chapter 41: how large a period's book is, in plain Lean. -/
set_option linter.unusedVariables false
set_option linter.unusedSimpArgs false
namespace Go.Fk
open Go
namespace Au
open Bk (lo)
open Ec (eff gain MvOk numd)
theorem addF_bd : ∀ (r M : List MoveD) (F : Int) (s : Bs), (∀ m ∈ r, 0 ≤ m.Amount ∧ m.Amount ≤ 1099511627776) → 0 ≤ F → addF M F r = some s → 0 ≤ s.2 ∧ s.2 ≤ F + 1099511627776 * r.length ∧ s.1.length = M.length + r.length
  | [], M, F, s, _, hF, h => by
    simp only [addF, Option.some.injEq] at h
    subst h
    simp [hF]
  | m :: r, M, F, s, hm, hF, h => by
    have h1 := hm m (List.mem_cons_self ..)
    unfold addF at h
    split at h
    · cases h
    · rename_i hn
      have := addF_bd r _ _ s (fun x hx => hm x (List.mem_cons_of_mem _ hx)) (by omega) h
      have hf : fstep F m ≤ F + 1099511627776 := by unfold fstep; split <;> (try split) <;> omega
      simp only [List.length_append, List.length_cons, List.length_nil] at this ⊢
      omega
theorem add_bd {s s' : Bs} {r : List MoveD × Int} (hm : ∀ m ∈ r.1, 0 ≤ m.Amount ∧ m.Amount ≤ 1099511627776) (hF : 0 ≤ s.2) (h : add s r = .ok s') : r.2 = 0 ∧ 0 ≤ s'.2 ∧ s'.2 ≤ s.2 + 1099511627776 * r.1.length ∧ s'.1.length = s.1.length + r.1.length := by
  unfold add at h
  split at h
  · cases h
  · rename_i h0
    split at h
    · cases h
    · rename_i s2 e
      cases h
      exact ⟨by simpa using h0, addF_bd _ _ _ _ hm hF e⟩
/-- so large is a book at most -/
def Bnd (s : Bs) (c : Nat) : Prop := 0 ≤ s.2 ∧ s.2 ≤ 1099511627776 * (c : Int) ∧ s.1.length ≤ c
theorem runF_bd {g : Nat → List MoveD × Int} {d : Nat} {s : Bs} {c : Nat} (hs : Bnd s c) : ∀ (n : Nat) (s' : Bs), (∀ k, k < n → (g k).1.length ≤ d ∧ ∀ m ∈ (g k).1, 0 ≤ m.Amount ∧ m.Amount ≤ 1099511627776) → runF g 0 n s = .ok s' → Bnd s' (c + d * n) ∧ ∀ k, k < n → (g k).2 = 0
  | 0, s', _, h => by
    simp only [runF] at h
    cases h
    exact ⟨hs, fun k hk => by omega⟩
  | n + 1, s', hg, h => by
    rw [runF_succ] at h
    split at h
    · rename_i s1 h1
      obtain ⟨b1, z1⟩ := runF_bd hs n s1 (fun k hk => hg k (by omega)) h1
      rw [Nat.zero_add] at h
      obtain ⟨g1, g2⟩ := hg n (by omega)
      obtain ⟨z2, a1, a2, a3⟩ := add_bd g2 b1.1 h
      obtain ⟨c1, c2, c3⟩ := b1
      refine ⟨⟨a1, ?_, ?_⟩, fun k hk => ?_⟩
      · rw [Nat.mul_add]; omega
      · rw [Nat.mul_add]; omega
      · rcases Nat.lt_or_ge k n with h | h
        · exact z1 k h
        · obtain rfl : k = n := by omega
          exact z2
    · cases h
theorem parts3 (t : TimeD) (f : TariffD) (l : List OrderD) (p : PlanD) (h : List Int) : parts t f l p h 0 3 ([], 0) = match parts t f l p h 0 2 ([], 0) with
    | .ok s => part t f l p h 2 s
    | .error x => .error x := by
  simp only [parts]
  cases part t f l p h 0 ([], 0) with
  | error x => rfl
  | ok s =>
    simp only
    cases part t f l p h (0 + 1) s with
    | error x => rfl
    | ok s =>
      simp only
      cases part t f l p h (0 + 1 + 1) s <;> rfl
theorem parts4 (t : TimeD) (f : TariffD) (l : List OrderD) (p : PlanD) (h : List Int) : parts t f l p h 0 4 ([], 0) = match parts t f l p h 0 3 ([], 0) with
    | .ok s => part t f l p h 3 s
    | .error x => .error x := by
  simp only [parts]
  cases part t f l p h 0 ([], 0) with
  | error x => rfl
  | ok s =>
    simp only
    cases part t f l p h (0 + 1) s with
    | error x => rfl
    | ok s =>
      simp only
      cases part t f l p h (0 + 1 + 1) s with
      | error x => rfl
      | ok s =>
        simp only
        cases part t f l p h (0 + 1 + 1 + 1) s <;> rfl
section
variable {t : TimeD} {f : TariffD} {l : List OrderD} {p : PlanD} {h : List Int}
theorem legs8 (hk : Ec.Ok t f l p) {r : Nat} (hr : r < p.Runs.length) : (Ec.lineP t p r).Legs.length ≤ 8 := by
  have h3 := line_ok hk hr
  have h4 := h3.l1
  have h5 := h3.o9
  omega
theorem runPays_len (hk : Ec.Ok t f l p) (hl : l.length ≤ 64) {k : Nat} (hr : k < p.Runs.length) (h0 : hn h k ≤ (Ec.lineP t p k).Legs.length) : (runPays t f l p h k).length ≤ 576 := by
  have h1 := Ec.pays_len t f l p k (hn h k) l.length
  have h2 := legs8 hk hr
  have h3 : l.length * (hn h k + 1) ≤ 64 * (8 + 1) := Nat.mul_le_mul hl (by omega)
  unfold runPays
  omega
theorem runCovs_len (hk : Ok t f l p h) {k : Nat} (hr : k < p.Runs.length) : (runCovs t f p h k).length ≤ 8 := by
  have h2 := (hk.h k hr).1
  have := legs8 hk.e hr
  simp only [runCovs, List.length_map, List.length_range]
  omega
theorem payG_or (he : Ec.err t f l p = 0) (k : Nat) : (0 ≤ h.getD k 0 ∧ h.getD k 0 ≤ ((Ec.lineP t p k).Legs.length : Int)) ∨ payG t f l p h k = ([], 1) := by
  by_cases h0 : 0 ≤ h.getD k 0 ∧ h.getD k 0 ≤ ((Ec.lineP t p k).Legs.length : Int)
  · exact .inl h0
  · exact .inr (pay_no he h0)
theorem payG_mv (he : Ec.err t f l p = 0) (hl : l.length ≤ 64) {k : Nat} (hr : k < p.Runs.length) : (payG t f l p h k).1.length ≤ 576 ∧ ∀ m ∈ (payG t f l p h k).1, 0 ≤ m.Amount ∧ m.Amount ≤ 1099511627776 := by
  have hk := Ec.err_ok he
  rcases payG_or (h := h) he k with h0 | h0
  · have hh : hn h k ≤ (Ec.lineP t p k).Legs.length := by unfold hn; omega
    rw [pay_ok hk he hr h0]
    exact ⟨runPays_len hk hl hr hh, fun m hm => (runPays_mv hk k hh m hm).1.2.2⟩
  · rw [h0]; simp
/-- what the first parts tell -/
theorem parts_two {s : Bs} (hs : parts t f l p h 0 2 ([], 0) = .ok s) : Ec.err t f l p = 0 ∧ h.length = p.Runs.length ∧ add ([], 0) (Ec.post t f l p) = .ok s := by
  simp only [parts, part, if_pos, show (1 : Nat) ≠ 0 by decide, if_false, if_true] at hs
  split at hs
  · rename_i s1 h1
    have he : Ec.err t f l p = 0 := Decidable.byContradiction fun e => by
      have hp : Ec.post t f l p = ([], Ec.err t f l p) := by unfold Ec.post; rw [if_pos e]
      rw [hp] at h1
      simp [add, e] at h1
    unfold lenG at hs
    by_cases e : h.length = p.Runs.length
    · rw [if_neg (by simp [e])] at hs
      simp only at hs
      cases hs
      exact ⟨he, e, h1⟩
    · rw [if_pos e] at hs; cases hs
  · cases hs
theorem post_bd (he : Ec.err t f l p = 0) (hR : p.Runs.length ≤ 70) (hl : l.length ≤ 64) : (Ec.post t f l p).1.length ≤ 64 ∧ ∀ m ∈ (Ec.post t f l p).1, 0 ≤ m.Amount ∧ m.Amount ≤ 1099511627776 := by
  have hk := Ec.err_ok he
  have hp : Ec.post t f l p = (Ec.posts t f l p l.length, 0) := by unfold Ec.post; rw [if_neg (by simp [he])]
  rw [hp]
  exact ⟨by rw [Ec.posts_len]; exact hl, fun m hm => (posts_mv hk hR m hm).1.2.2.2.1⟩
theorem parts_two_bd (hR : p.Runs.length ≤ 70) (hl : l.length ≤ 64) {s : Bs} (hs : parts t f l p h 0 2 ([], 0) = .ok s) : Bnd s 64 := by
  obtain ⟨he, _, h1⟩ := parts_two hs
  obtain ⟨b1, b2⟩ := post_bd he hR hl
  obtain ⟨_, a1, a2, a3⟩ := add_bd b2 (by simp) h1
  simp only [List.length_nil] at a2 a3
  exact ⟨a1, by omega, by omega⟩
theorem parts_three {s : Bs} (hR : p.Runs.length ≤ 70) (hl : l.length ≤ 64) (hs : parts t f l p h 0 3 ([], 0) = .ok s) : Ok t f l p h ∧ Ec.err t f l p = 0 ∧ Bnd s 40384 := by
  have e3 := parts3 t f l p h
  rw [e3] at hs
  split at hs
  · rename_i s2 h2
    obtain ⟨he, hlen, _⟩ := parts_two h2
    have hs : runF (payG t f l p h) 0 h.length s2 = .ok s := hs
    obtain ⟨b1, z1⟩ := runF_bd (parts_two_bd hR hl h2) h.length s (fun k hk => payG_mv he hl (by omega)) hs
    have ho : hOk t p h = true := by
      unfold hOk
      rw [List.all_eq_true]
      intro k hk
      have hk : k < h.length := by simpa using hk
      rcases payG_or (h := h) he k with h0 | h0
      · simpa using h0
      · have := z1 k hk; rw [h0] at this; cases this
    have h0 : err t f l p h = 0 := by unfold err; rw [if_neg (by simp [he]), if_neg (by simp [hlen]), if_pos ho]
    obtain ⟨c1, c2, c3⟩ := b1
    exact ⟨err_ok h0, he, c1, by omega, by omega⟩
  · cases hs
theorem parts_four (hK : Ok t f l p h) (he : Ec.err t f l p = 0) (hR : p.Runs.length ≤ 70) : parts t f l p h 0 4 ([], 0) = if negAt (pre t f l p h) then .error 381 else .ok (St (pre t f l p h)) := by
  have hk := hK.e
  have hlen := hK.hl
  have hp : Ec.post t f l p = (Ec.posts t f l p l.length, 0) := by unfold Ec.post; rw [if_neg (by simp [he])]
  have hpo := posts_mv hk hR
  have hn1 : negAt (Ec.posts t f l p l.length) = false := negAt_nn fun m hm => by
    have := hpo m hm
    exact ⟨by omega, this.1.2.2.2.1.1⟩
  have h1 : add ([], 0) (Ec.post t f l p) = .ok (St (Ec.posts t f l p l.length)) := by
    have := add_eq (X := []) (Y := Ec.posts t f l p l.length) rfl fun m hm => (hpo m hm).1.2.2.1
    rw [List.nil_append, if_neg (by simp [hn1])] at this
    rw [hp]; exact this
  have h2 : lenG p h (St (Ec.posts t f l p l.length)) = .ok (St (Ec.posts t f l p l.length)) := by unfold lenG; rw [if_neg (by simp [hlen])]
  have hn2 : negAt (Ec.posts t f l p l.length ++ cat (runPays t f l p h) h.length) = false := negAt_nn fun m hm => by
    rcases List.mem_append.1 hm with hm | hm
    · have := hpo m hm
      exact ⟨by omega, this.1.2.2.2.1.1⟩
    · obtain ⟨r, hr, hm⟩ := cat_mem hm
      have := pays_mv hK hR (by omega) m hm
      exact ⟨by omega, this.1.2.2.2.1.1⟩
  have h3 : runF (payG t f l p h) 0 h.length (St (Ec.posts t f l p l.length)) = .ok (St (Ec.posts t f l p l.length ++ cat (runPays t f l p h) h.length)) := by
    have := runF_eq (g := payG t f l p h) (G := runPays t f l p h) (Ec.posts t f l p l.length) h.length 0 (by rw [cat_nil, List.append_nil]; exact hn1) fun k _ hk' => ⟨pay_ok hk he (by omega) (by
      have := hK.h k (by omega)
      omega), fun m hm => (pays_mv hK hR (by omega) m hm).1.2.2.1⟩
    rw [cat_nil, List.append_nil, Nat.zero_add, if_neg (by simp [hn2])] at this
    exact this
  have hpre : Ec.posts t f l p l.length ++ cat (runPays t f l p h) h.length ++ cat (runCovs t f p h) h.length = pre t f l p h := by
    unfold pre; rw [hlen, List.append_assoc]
  have h4 : runF (covG t f p h) 0 h.length (St (Ec.posts t f l p l.length ++ cat (runPays t f l p h) h.length)) = if negAt (pre t f l p h) then .error 381 else .ok (St (pre t f l p h)) := by
    have := runF_eq (g := covG t f p h) (G := runCovs t f p h) (Ec.posts t f l p l.length ++ cat (runPays t f l p h) h.length) h.length 0 (by rw [cat_nil, List.append_nil]; exact hn2) fun k _ hk' => ⟨cover_ok hK (by omega), fun m hm => (covs_mv hK hR (by omega) m hm).1.2.2.1⟩
    rw [cat_nil, List.append_nil, Nat.zero_add, hpre] at this
    exact this
  simp only [parts, part, if_pos, show (1 : Nat) ≠ 0 by decide, show (2 : Nat) ≠ 0 by decide, show (2 : Nat) ≠ 1 by decide, show (3 : Nat) ≠ 0 by decide, show (3 : Nat) ≠ 1 by decide, show (3 : Nat) ≠ 2 by decide, if_false, if_true, h1, h2, h3, h4]
  by_cases hn : negAt (pre t f l p h) = true <;> simp [hn]
theorem parts_four' {s : Bs} (hR : p.Runs.length ≤ 70) (hl : l.length ≤ 64) (hs : parts t f l p h 0 4 ([], 0) = .ok s) : Ok t f l p h ∧ s = St (pre t f l p h) ∧ negAt (pre t f l p h) = false := by
  have e4 := parts4 t f l p h
  have hs' := hs
  rw [e4] at hs
  split at hs
  · rename_i s3 h3
    obtain ⟨hK, he, _⟩ := parts_three hR hl h3
    rw [parts_four hK he hR] at hs'
    split at hs'
    · cases hs'
    · rename_i hn
      cases hs'
      exact ⟨hK, rfl, by simpa using hn⟩
  · cases hs
end
end Au
end Go.Fk
/- Chapter 42: what the offices get, in plain Lean. No program in sight. -/
set_option linter.unusedVariables false
set_option linter.unusedSimpArgs false
namespace Go.Fk
open Go
namespace Au
open Bk (lo)
open Ec (eff gain MvOk numd)
variable {t : TimeD} {f : TariffD} {l : List OrderD} {p : PlanD} {h : List Int}
/-- a sum over runs -/
def sumK (g : Nat → Int) : Nat → Int
  | 0 => 0
  | k + 1 => sumK g k + g k
theorem sumK_add (a b : Nat → Int) : ∀ n, sumK (fun r => a r + b r) n = sumK a n + sumK b n
  | 0 => rfl
  | n + 1 => by simp only [sumK, sumK_add a b n]; omega
theorem wantK_sum (t : TimeD) (f : TariffD) (l : List OrderD) (p : PlanD) (h : List Int) (j : Int) : ∀ n, Ec.wantK t f l p (fun i => (i : Int)) (fun r => hn h r.toNat) j n = sumK (fun r => Ec.wantR t f l p r (hn h r) j l.length) n
  | 0 => rfl
  | n + 1 => by simp only [Ec.wantK, sumK, wantK_sum t f l p h j n, Int.toNat_natCast]
theorem wantO_office {run : Int} {n i : Nat} {j : Int} (hj : 3 ≤ j ∧ j < 27) : Ec.wantO t f l p run n i j = Ec.legG (Ec.lineP t p run) (Tf.leg f (l.getD i default).Class) j n := by
  unfold Ec.wantO
  have a1 : Ec.ind j 1 = 0 := by unfold Ec.ind; rw [if_neg (by omega)]
  have a2 : Ec.ind j (51 + (i : Int)) = 0 := by unfold Ec.ind; rw [if_neg (by omega)]
  rw [if_neg (show ¬ j = 51 + (i : Int) by omega), a1, a2]
  split <;> simp
end Au
end Go.Fk
