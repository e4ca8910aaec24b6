/- Chapters 41, 42: what the moves of a book lead to, in plain Lean. No program in sight. -/
import Derived.Test.YtoadfmgnpmcbfaaGreatP42
set_option linter.unusedVariables false
set_option linter.unusedSimpArgs false
namespace Go.Fk
open Go
namespace Au
open Bk (lo)
open Ec (eff gain MvOk numd)
variable {t : TimeD} {f : TariffD} {l : List OrderD} {p : PlanD} {h : List Int}
/-- what leaves an account -/
def out (j : Int) : List MoveD → Int
  | [] => 0
  | m :: r => (if m.From = j then m.Amount else 0) + out j r
def inn (j : Int) : List MoveD → Int
  | [] => 0
  | m :: r => (if m.To = j then m.Amount else 0) + inn j r
theorem eff_io (j : Int) : ∀ l : List MoveD, eff l j = inn j l - out j l
  | [] => rfl
  | m :: r => by simp only [eff, gain, inn, out, eff_io j r]; omega
theorem out_append (j : Int) (a b : List MoveD) : out j (a ++ b) = out j a + out j b := by
  induction a with
  | nil => simp [out]
  | cons m a ih => simp only [List.cons_append, out, ih]; omega
theorem inn_append (j : Int) (a b : List MoveD) : inn j (a ++ b) = inn j a + inn j b := by
  induction a with
  | nil => simp [inn]
  | cons m a ih => simp only [List.cons_append, inn, ih]; omega
theorem out_nn (j : Int) : ∀ {l : List MoveD}, (∀ m ∈ l, 0 ≤ m.Amount) → 0 ≤ out j l
  | [], _ => Int.le_refl _
  | m :: r, hh => by
    have := out_nn j fun x hx => hh x (List.mem_cons_of_mem _ hx)
    have := hh m (List.mem_cons_self ..)
    simp only [out]; split <;> omega
theorem inn_nn (j : Int) : ∀ {l : List MoveD}, (∀ m ∈ l, 0 ≤ m.Amount) → 0 ≤ inn j l
  | [], _ => Int.le_refl _
  | m :: r, hh => by
    have := inn_nn j fun x hx => hh x (List.mem_cons_of_mem _ hx)
    have := hh m (List.mem_cons_self ..)
    simp only [inn]; split <;> omega
theorem out_no (j : Int) : ∀ {l : List MoveD}, (∀ m ∈ l, m.From ≠ j) → out j l = 0
  | [], _ => rfl
  | m :: r, hh => by
    have := out_no j fun x hx => hh x (List.mem_cons_of_mem _ hx)
    simp only [out, if_neg (hh m (List.mem_cons_self ..)), this]; rfl
theorem inn_no (j : Int) : ∀ {l : List MoveD}, (∀ m ∈ l, m.To ≠ j) → inn j l = 0
  | [], _ => rfl
  | m :: r, hh => by
    have := inn_no j fun x hx => hh x (List.mem_cons_of_mem _ hx)
    simp only [inn, if_neg (hh m (List.mem_cons_self ..)), this]; rfl
theorem out_take (j : Int) {l : List MoveD} (hh : ∀ m ∈ l, 0 ≤ m.Amount) (k : Nat) : out j (l.take k) ≤ out j l := by
  have e : out j l = out j (l.take k) + out j (l.drop k) := by rw [← out_append, List.take_append_drop]
  have := out_nn j (l := l.drop k) fun m hm => hh m (List.mem_of_mem_drop hm)
  omega
theorem num_out (j : Int) : ∀ (l : List MoveD) (i : Nat), out j (num i l) = out j l
  | [], _ => rfl
  | m :: r, i => by simp only [num, out, num_out j r]
theorem num_mem : ∀ {l : List MoveD} {i : Nat} {m : MoveD}, m ∈ num i l → ∃ m0 ∈ l, ∃ n : Int, m = { m0 with No := n }
  | [], _, _, hh => by simp [num] at hh
  | x :: r, i, m, hh => by
    rcases List.mem_cons.1 hh with rfl | hh
    · exact ⟨x, by simp, _, rfl⟩
    · obtain ⟨m0, h0, n, e⟩ := num_mem hh
      exact ⟨m0, List.mem_cons_of_mem _ h0, n, e⟩
theorem num_numd (l : List MoveD) : numd (num 0 l) := fun k m hk => by
  rw [num_get, Option.map_eq_some_iff] at hk
  obtain ⟨m0, _, rfl⟩ := hk
  simp
/-- a move that books take -/
def Mv (m : MoveD) : Prop := (0 ≤ m.From ∧ m.From ≤ 114) ∧ (0 ≤ m.To ∧ m.To ≤ 114) ∧ m.From ≠ m.To ∧ (0 ≤ m.Amount ∧ m.Amount ≤ 1099511627776) ∧ (1 ≤ m.Why ∧ m.Why ≤ 9) ∧ -1 ≤ m.Run ∧ m.Run ≤ 1999
theorem Mv.ok {m : MoveD} (h : Mv m) : MvOk m := ⟨h.1, h.2.1, h.2.2.2.1⟩
theorem num_mv {l : List MoveD} (hh : ∀ m ∈ l, Mv m) (i : Nat) : ∀ m ∈ num i l, Mv m := fun m hm => by
  obtain ⟨m0, h0, n, rfl⟩ := num_mem hm
  exact hh m0 h0
theorem num_chk {l : List MoveD} (hh : ∀ m ∈ l, Mv m) (hl : l.length ≤ 4096) : Bk.chk (num 0 l) = 0 := by
  unfold Bk.chk
  rw [if_neg (by rw [num_len]; omega), if_pos]
  refine Fd.allOk_of _ _ fun k hk => ?_
  have hm := num_mv hh 0 _ (List.getElem_mem hk)
  have hn := num_numd l k _ (List.getElem?_eq_getElem hk)
  obtain ⟨a1, a2, a3, a4, a5, a6, a7⟩ := hm
  simp only [Bk.mOk, decide_eq_true_eq]
  refine ⟨by omega, a1.1, a1.2, a2.1, a2.2, a3, a4.1, a4.2, a5.1, a5.2, a6, a7⟩
/-! the classes of an order's run -/
theorem wh_least (hk : Ec.Ok t f l p) {i : Nat} (hi : i < l.length) : Fd.bit (Ec.lineP t p (p.Of.getD i 0)).Classes (l.getD i default).Class.toNat = true := by
  have hf := hk.f i hi
  simp only [Pl.ofP, Pl.fits, Bool.and_eq_true] at hf
  have h0 := hf.2.1.1.1.1.1
  unfold Pl.c0 at h0
  unfold Fd.bit
  obtain ⟨_, _, _, _, hcl, _⟩ := Ec.price_eq hk hi
  have e : (2 : Int) ^ (min (l.getD i default).Class.toNat 64) = 2 ^ (min (l.getD i default).Class.toNat 64) := rfl
  simpa [Ec.lineP] using h0
theorem load_pos {r : RunD} : ∀ {l : List OrderD} {of : List RunD} {a : Pl.LoadD}, (Pl.loadF r l of a).n ≠ a.n → ∃ k, k < l.length ∧ k < of.length ∧ of.getD k default = r
  | [], of, a, hh => by cases of <;> simp [Pl.loadF] at hh
  | o :: l, [], a, hh => by simp [Pl.loadF] at hh
  | o :: l, s :: of, a, hh => by
    by_cases e : s = r
    · exact ⟨0, by simp, by simp, by simpa using e⟩
    · simp only [Pl.loadF, if_neg e] at hh
      obtain ⟨k, h1, h2, h3⟩ := load_pos hh
      exact ⟨k + 1, by simpa using h1, by simpa using h2, by simpa using h3⟩
/-- the runs of a right plan differ -/
theorem runs_lt (hk : Ec.Ok t f l p) : ∀ (j i : Nat), i < j → j < p.Runs.length → Tt.before (p.Runs.getD i default) (p.Runs.getD j default) = true
  | 0, i, hij, _ => by omega
  | j + 1, i, hij, hj => by
    have hr := hk.r (j + 1) hj
    simp only [Pl.runP, Bool.and_eq_true, Bool.or_eq_true, decide_eq_true_eq] at hr
    have h2 : Tt.before (p.Runs.getD j default) (p.Runs.getD (j + 1) default) = true := by
      rcases hr.2 with h | h
      · omega
      · simpa using h
    by_cases e : i = j
    · subst e; exact h2
    · have h1 := runs_lt hk j i (by omega) (by omega)
      simp only [Tt.before, decide_eq_true_eq] at h1 h2 ⊢
      omega
theorem runs_inj (hk : Ec.Ok t f l p) {i j : Nat} (hi : i < p.Runs.length) (hj : j < p.Runs.length) (e : p.Runs.getD i default = p.Runs.getD j default) : i = j := by
  have A : ∀ {a b : Nat}, a < b → b < p.Runs.length → p.Runs.getD a default ≠ p.Runs.getD b default := fun {a b} hab hb he => by
    have := runs_lt hk b a hab hb
    rw [he] at this
    simp [Tt.before] at this
  rcases Nat.lt_trichotomy i j with h | h | h
  · exact (A h hj e).elim
  · exact h
  · exact (A h hi e.symm).elim
/-- each run has an order -/
theorem run_has (hk : Ec.Ok t f l p) {r : Nat} (hr : r < p.Runs.length) : ∃ i, i < l.length ∧ p.Of.getD i 0 = (r : Int) := by
  have hc := hk.c r hr
  simp only [Pl.covP, decide_eq_true_eq] at hc
  obtain ⟨k, h1, h2, h3⟩ := load_pos (a := .zero) hc.1
  refine ⟨k, h1, ?_⟩
  have hf := hk.f k h1
  simp only [Pl.ofP, Bool.and_eq_true, decide_eq_true_eq] at hf
  have ho : (Pl.ofs p).getD k default = p.Runs.getD (p.Of.getD k 0).toNat default := by
    have hkl : k < p.Of.length := by rw [hk.ol]; exact h1
    simp [Pl.ofs, List.getD_eq_getElem?_getD, hkl]
  rw [ho] at h3
  have := runs_inj hk (by omega) hr h3
  omega
theorem no_runs (hk : Ec.Ok t f l p) (h0 : l.length = 0) : p.Runs.length = 0 := by
  rcases Nat.eq_zero_or_pos p.Runs.length with e | e
  · exact e
  · obtain ⟨i, hi, _⟩ := run_has hk e
    omega
theorem line_ok (hk : Ec.Ok t f l p) {r : Nat} (hr : r < p.Runs.length) : Tt.LOk (Ec.lineP t p r) t.Offices := by
  obtain ⟨i, hi, e⟩ := run_has hk hr
  obtain ⟨_, _, h, _⟩ := Ec.price_eq hk hi
  rwa [e] at h
/-- the least price of a leg of a run is there -/
theorem cheap_least (hk : Ec.Ok t f l p) {r : Nat} (hr : r < p.Runs.length) : Fd.least (Fd.bit (Ec.lineP t p r).Classes) f.Leg = some (cheap f (Ec.lineP t p r).Classes) := by
  obtain ⟨i, hi, e⟩ := run_has hk hr
  have hb := wh_least hk hi
  rw [e] at hb
  obtain ⟨_, _, _, _, hcl, _⟩ := Ec.price_eq hk hi
  have hf := Tf.chk_ok hk.o.f
  have hlt : (l.getD i default).Class.toNat < f.Leg.length := by have := hf.n; omega
  rcases cheapF_least (Fd.bit (Ec.lineP t p r).Classes) f.Leg 0 1099511627776 none (fun x hx => by have := hf.l x hx; omega) (.inl ⟨rfl, rfl⟩) with h | h
  · exfalso
    have : ∀ (l : List Int) (i : Nat) (o : Option Int) (k : Nat), k < l.length → Fd.bit (Ec.lineP t p r).Classes (i + k) = true → Fd.leastF (Fd.bit (Ec.lineP t p r).Classes) i l o ≠ none := by
      intro l
      induction l with
      | nil => intro i o k hk; simp at hk
      | cons y l ih =>
        intro i o k hk hb
        simp only [Fd.leastF]
        cases k with
        | zero =>
          simp only [Nat.add_zero] at hb
          rw [hb, Bool.true_and]
          have hs : ∀ (l : List Int) (i : Nat) (x : Int), Fd.leastF (Fd.bit (Ec.lineP t p r).Classes) i l (some x) ≠ none := by
            intro l
            induction l with
            | nil => intro i x; simp [Fd.leastF]
            | cons y l ih => intro i x; simp only [Fd.leastF]; split <;> exact ih _ _
          cases o with
          | none => simp only [Fd.better, if_true]; exact hs _ _ _
          | some x => split <;> exact hs _ _ _
        | succ k => exact ih (i + 1) _ k (by simpa using hk) (by rw [show i + 1 + k = i + (k + 1) by omega]; exact hb)
    exact this f.Leg 0 none _ hlt (by rw [Nat.zero_add]; exact hb) h.1
  · exact h
theorem cheap_bd (hk : Ec.Ok t f l p) {r : Nat} (hr : r < p.Runs.length) : 0 ≤ cheap f (Ec.lineP t p r).Classes ∧ cheap f (Ec.lineP t p r).Classes ≤ 1048576 := by
  have := Fd.least_mem (cheap_least hk hr)
  exact (Tf.chk_ok hk.o.f).l _ this
theorem cov_bd (hk : Ec.Ok t f l p) {r : Nat} (hr : r < p.Runs.length) : 0 ≤ p.Covers.getD r 0 ∧ p.Covers.getD r 0 ≤ 64 := by
  have hc := hk.c r hr
  simp only [Pl.covP, decide_eq_true_eq] at hc
  have hb := Pl.load_bd (l := l) (fun o ho => by
    have := hk.o.o o ho
    simp only [Pl.oright, Pl.oNum, Bool.and_eq_true, decide_eq_true_eq] at this
    exact this.1.2.2.2.2.2.2.1) (Pl.ofs p) (p.Runs.getD r default)
  rw [hc.2.1]
  unfold Pl.LoadD.covers
  omega
theorem covA_bd (hk : Ec.Ok t f l p) {r : Nat} (hr : r < p.Runs.length) : 0 ≤ covA t f p r ∧ covA t f p r ≤ 67108864 := by
  have h1 := cov_bd hk hr
  have h2 := cheap_bd hk hr
  unfold covA
  exact ⟨Int.mul_nonneg h1.1 h2.1, by have := Int.mul_le_mul h1.2 h2.2 h2.1 (by omega : (0 : Int) ≤ 64); omega⟩
/-- the moves ahead of the shares -/
theorem posts_mv (hk : Ec.Ok t f l p) (hR : p.Runs.length ≤ 70) : ∀ m ∈ Ec.posts t f l p l.length, Mv m ∧ m.To = 2 ∧ m.Why = 1 ∧ 51 ≤ m.From := fun m hm => by
  have h1 := Ec.posts_mv hk (Nat.le_refl _) m hm
  unfold Ec.posts at hm
  obtain ⟨q, hq, rfl⟩ := List.mem_map.1 hm
  have hq : q < l.length := by simpa using hq
  obtain ⟨q0, q1, _⟩ := Ec.price_eq hk hq
  have hn := hk.o.n
  refine ⟨⟨h1.1.1, h1.1.2.1, ?_, h1.1.2.2, by simp [Ec.postM], ?_, ?_⟩, h1.2, rfl, ?_⟩
  · simp only [Ec.postM]; omega
  · simp only [Ec.postM]; omega
  · simp only [Ec.postM]; omega
  · simp only [Ec.postM]; omega
theorem pays_mv (hk : Ok t f l p h) (hR : p.Runs.length ≤ 70) {r : Nat} (hr : r < p.Runs.length) : ∀ m ∈ runPays t f l p h r, Mv m ∧ m.From = 2 ∧ m.Run = r ∧ (m.Why = 2 ∨ m.Why = 3 ∨ m.Why = 4) := fun m hm => by
  obtain ⟨h1, h2, h3, h4, h5⟩ := Ec.pays_mv hk.e (hk.h r hr).1 l.length (Nat.le_refl _) m hm
  have hw : m.Why = 2 ∨ m.Why = 3 ∨ m.Why = 4 := by
    rcases h5 with h | h | h
    · exact .inl h
    · exact .inr (.inl h.1)
    · exact .inr (.inr h.1)
  exact ⟨⟨h1.1, h1.2.1, by omega, h1.2.2, by omega, by omega, by omega⟩, h2, h4, hw⟩
theorem covs_mv (hk : Ok t f l p h) (hR : p.Runs.length ≤ 70) {r : Nat} (hr : r < p.Runs.length) : ∀ m ∈ runCovs t f p h r, Mv m ∧ m.From = 1 ∧ m.Run = r ∧ m.Why = 5 ∧ (3 ≤ m.To ∧ m.To < 27) := fun m hm => by
  unfold runCovs at hm
  obtain ⟨q, hq, rfl⟩ := List.mem_map.1 hm
  have hq : q < hn h r := by simpa using hq
  have hlo := line_ok hk.e hr
  have hl := (hk.h r hr).1
  have o1 := hlo.l1
  have hlt : q < (Ec.lineP t p r).Offices.length := by omega
  have ho := hlo.s ((Ec.lineP t p r).Offices.getD q 0) (by rw [List.getD_eq_getElem?_getD, List.getElem?_eq_getElem hlt]; exact List.getElem_mem hlt)
  have := (Tt.chk_ok hk.e.o.t).o
  have hc := covA_bd hk.e hr
  refine ⟨⟨by simp [covM], by simp only [covM]; omega, by simp only [covM]; omega, by simp only [covM]; omega, by simp [covM], by simp only [covM]; omega, by simp only [covM]; omega⟩, rfl, rfl, rfl, by simp only [covM]; omega⟩
theorem pre_mv (hk : Ok t f l p h) (hR : p.Runs.length ≤ 70) : ∀ m ∈ pre t f l p h, Mv m := fun m hm => by
  unfold pre at hm
  rcases List.mem_append.1 hm with hm | hm
  · exact (posts_mv hk.e hR m hm).1
  · rcases List.mem_append.1 hm with hm | hm
    · obtain ⟨r, hr, hm⟩ := cat_mem hm
      exact (pays_mv hk hR hr m hm).1
    · obtain ⟨r, hr, hm⟩ := cat_mem hm
      exact (covs_mv hk hR hr m hm).1
/-! how many moves -/
def ordS (p : PlanD) (k : Nat) : Nat → Nat
  | 0 => 0
  | r + 1 => ordS p k r + Ec.ordN p r k
theorem ordS_zero (p : PlanD) : ∀ r, ordS p 0 r = 0
  | 0 => rfl
  | r + 1 => by simp [ordS, ordS_zero p r, Ec.ordN]
theorem ordS_succ (p : PlanD) (k : Nat) : ∀ r, ordS p (k + 1) r = ordS p k r + (if 0 ≤ p.Of.getD k 0 ∧ p.Of.getD k 0 < (r : Int) then 1 else 0)
  | 0 => by
    rw [if_neg (by omega)]; rfl
  | r + 1 => by
    simp only [ordS, ordS_succ p k r, Ec.ordN]
    split <;> split <;> split <;> omega
theorem ordS_le (p : PlanD) (r : Nat) : ∀ k, ordS p k r ≤ k
  | 0 => by rw [ordS_zero]; exact Nat.le_refl _
  | k + 1 => by
    have := ordS_le p r k
    rw [ordS_succ]; split <;> omega
theorem catPays_len (hk : Ok t f l p h) : ∀ r, r ≤ p.Runs.length → (cat (runPays t f l p h) r).length ≤ 9 * ordS p l.length r
  | 0, _ => by simp [cat]
  | r + 1, hr => by
    have ih := catPays_len hk r (by omega)
    have h1 := (Ec.pays_cnt t f l p r (hn h r) l.length).2
    have h2 := (hk.h r (by omega)).1
    have h3 := line_ok hk.e (show r < p.Runs.length by omega)
    have h4 := h3.l1
    have h5 := h3.o9
    simp only [cat, ordS, List.length_append]
    have h6 : (runPays t f l p h r).length = Ec.ordN p r l.length * hn h r + Ec.ordN p r l.length := h1
    have h7 : Ec.ordN p r l.length * hn h r ≤ Ec.ordN p r l.length * 8 := Nat.mul_le_mul_left _ (by omega)
    omega
theorem catCovs_len (hk : Ok t f l p h) : ∀ r, r ≤ p.Runs.length → (cat (runCovs t f p h) r).length ≤ 8 * r
  | 0, _ => by simp [cat]
  | r + 1, hr => by
    have ih := catCovs_len hk r (by omega)
    have h2 := (hk.h r (by omega)).1
    have h3 := line_ok hk.e (show r < p.Runs.length by omega)
    have h4 := h3.l1
    have h5 := h3.o9
    simp only [cat, List.length_append]
    have h6 : (runCovs t f p h r).length = hn h r := by simp [runCovs]
    omega
theorem pre_len (hk : Ok t f l p h) (hR : p.Runs.length ≤ 70) : (pre t f l p h).length ≤ 10 * l.length + 560 := by
  have h1 := catPays_len hk p.Runs.length (Nat.le_refl _)
  have h2 := catCovs_len hk p.Runs.length (Nat.le_refl _)
  have h3 := ordS_le p p.Runs.length l.length
  unfold pre
  simp only [List.length_append, Ec.posts_len]
  omega
theorem asked_len (hk : Ok t f l p h) (hR : p.Runs.length ≤ 70) : (asked t f l p h).length ≤ 11 * l.length + 560 := by
  have := pre_len hk hR
  unfold asked
  simp only [List.length_append, shs, List.length_map, List.length_range]
  omega
/-! the sums -/
theorem catPays_eff (hk : Ok t f l p h) (j : Int) : ∀ r, eff (cat (runPays t f l p h) r) j = Ec.wantK t f l p (fun i => (i : Int)) (fun r => hn h r.toNat) j r + (Ec.remF t f l p (Ec.doneK (fun i => (i : Int)) r) j l.length - Ec.remF t f l p (fun _ => false) j l.length)
  | 0 => by
    have : Ec.doneK (fun i => (i : Int)) 0 = fun _ => false := rfl
    simp [cat, eff, Ec.wantK, this]
  | r + 1 => by
    have hd : Ec.doneK (fun i => (i : Int)) r (r : Int) = false := by
      unfold Ec.doneK
      rw [List.any_eq_false]
      intro x hx
      simp at hx ⊢; omega
    rw [cat_eff, catPays_eff hk j r, Ec.doneK_succ, Ec.rem_done t f l p r _ hd j l.length]
    simp only [Ec.wantK, runPays, Ec.eff_pays, Int.toNat_natCast]
    omega
theorem done_all (hk : Ec.Ok t f l p) (j : Int) : Ec.remF t f l p (Ec.doneK (fun i => (i : Int)) p.Runs.length) j l.length = 0 :=
  Ec.rem_all t f l p _ j l.length fun i hi => by
    obtain ⟨q0, q1, _⟩ := Ec.price_eq hk hi
    unfold Ec.doneK
    rw [List.any_eq_true]
    exact ⟨(p.Of.getD i 0).toNat, List.mem_range.2 (by omega), decide_eq_true (show p.Of.getD i 0 = (((p.Of.getD i 0).toNat : Nat) : Int) by omega)⟩
/-- ahead of the covers: what is due -/
theorem paid_eff (hk : Ok t f l p h) (j : Int) : eff (Ec.posts t f l p l.length) j + eff (cat (runPays t f l p h) p.Runs.length) j = Ec.wantK t f l p (fun i => (i : Int)) (fun r => hn h r.toNat) j p.Runs.length := by
  rw [Ec.eff_posts, catPays_eff hk, done_all hk.e]; omega
theorem wantK_two (hk : Ok t f l p h) : Ec.wantK t f l p (fun i => (i : Int)) (fun r => hn h r.toNat) 2 p.Runs.length = 0 :=
  Ec.wantK_two hk.e p.Runs.length fun i hi => by simpa using (hk.h i hi).1
theorem catCovs_two (hk : Ok t f l p h) (hR : p.Runs.length ≤ 70) {j : Int} (hj : j = 2 ∨ j = 0 ∨ 27 ≤ j) : eff (cat (runCovs t f p h) p.Runs.length) j = 0 := by
  rw [eff_io, inn_no, out_no]; rfl
  · intro m hm
    obtain ⟨r, hr, hm⟩ := cat_mem hm
    have := covs_mv hk hR hr m hm
    omega
  · intro m hm
    obtain ⟨r, hr, hm⟩ := cat_mem hm
    have := covs_mv hk hR hr m hm
    omega
/-- the escrow ends empty -/
theorem pre_two (hk : Ok t f l p h) (hR : p.Runs.length ≤ 70) : eff (pre t f l p h) 2 = 0 := by
  unfold pre
  rw [Ec.eff_append, Ec.eff_append, catCovs_two hk hR (.inl rfl)]
  have := paid_eff hk 2
  have := wantK_two hk
  omega
/-! shares -/
theorem shs_eq {a : Int} {n : Nat} (ha : 0 ≤ a) : shs a n = Fd.shares a n n := by
  unfold shs Fd.shares
  refine List.map_congr_left fun i hi => ?_
  unfold shM Fd.shaM Fd.part
  rw [tdiv_eq ha, tmod_eq ha]
theorem shs_tot {a : Int} {n : Nat} (ha : 0 ≤ a) (hn : 1 ≤ n) : out 1 (shs a n) = a := by
  have e : ∀ k, out 1 (Fd.shares a n k) = Fd.tot (Fd.shares a n k) := by
    intro k
    induction k with
    | zero => rfl
    | succ k ih => rw [Fd.shares_succ, out_append, Fd.tot_append, ih]; simp [out, Fd.tot, Fd.shaM]
  rw [shs_eq ha, e]
  have := Fd.sha_all (a := a) (s := n) (by omega)
  rwa [Int.toNat_natCast] at this
theorem part_bd' {a : Int} {n i : Nat} (ha : 0 ≤ a) (hn : 1 ≤ n) : 0 ≤ Fd.part a n i ∧ Fd.part a n i ≤ a + 1 := by
  unfold Fd.part
  have h1 : 0 ≤ a / n := Int.ediv_nonneg ha (by omega)
  have h2 : a / n ≤ a := Int.ediv_le_self _ ha
  split <;> omega
theorem shs_mv {a : Int} {n : Nat} (ha : 0 ≤ a ∧ a ≤ 1099511627775) (hn : n ≤ 64) : ∀ m ∈ shs a n, Mv m ∧ m.From = 1 ∧ m.Why = 6 ∧ 51 ≤ m.To ∧ m.Run = -1 := fun m hm => by
  rw [shs_eq ha.1] at hm
  unfold Fd.shares at hm
  obtain ⟨q, hq, rfl⟩ := List.mem_map.1 hm
  have hq : q < n := by simpa using hq
  have := part_bd' (i := q) ha.1 (show 1 ≤ n by omega)
  refine ⟨⟨by simp [Fd.shaM], by simp only [Fd.shaM]; omega, by simp only [Fd.shaM]; omega, by simp only [Fd.shaM]; omega, by simp [Fd.shaM], by simp [Fd.shaM], by simp [Fd.shaM]⟩, rfl, rfl, by simp only [Fd.shaM]; omega, rfl⟩
theorem pre_one (hk : Ok t f l p h) (hR : p.Runs.length ≤ 70) : -(93952409600 : Int) * 8 ≤ eff (pre t f l p h) 1 ∧ eff (pre t f l p h) 1 ≤ 93952409600 := by
  have h1 := paid_eff hk 1
  have h2 := Ec.wantK_bd hk.e (ro := fun i => (i : Int)) (hn := fun r => hn h r.toNat) 1 p.Runs.length fun i hi => by simpa using (hk.h i hi).1
  have h3 : ∀ r, r ≤ p.Runs.length → -(67108864 * 8 * r : Int) ≤ eff (cat (runCovs t f p h) r) 1 ∧ eff (cat (runCovs t f p h) r) 1 ≤ 0 := by
    intro r
    induction r with
    | zero => intro _; simp [cat, eff]
    | succ r ih =>
      intro hr
      have ih := ih (by omega)
      rw [cat_eff]
      have hb := covA_bd hk.e (show r < p.Runs.length by omega)
      have hl := (hk.h r (by omega)).1
      have hlo := line_ok hk.e (show r < p.Runs.length by omega)
      have o1 := hlo.l1
      have o9 := hlo.o9
      have : ∀ n, n ≤ hn h r → -(67108864 * n : Int) ≤ eff ((List.range n).map (covM t f p r)) 1 ∧ eff ((List.range n).map (covM t f p r)) 1 ≤ 0 := by
        intro n
        induction n with
        | zero => intro _; simp [eff]
        | succ n ihn =>
          intro hn'
          have ihn := ihn (by omega)
          have hlt : n < (Ec.lineP t p r).Offices.length := by omega
          have ho := hlo.s ((Ec.lineP t p r).Offices.getD n 0) (by rw [List.getD_eq_getElem?_getD, List.getElem?_eq_getElem hlt]; exact List.getElem_mem hlt)
          rw [List.range_succ, List.map_append, Ec.eff_append]
          simp only [List.map_cons, List.map_nil, eff, gain, covM, if_true]
          rw [if_neg (by omega)]; omega
      have := this (hn h r) (Nat.le_refl _)
      have e : eff (runCovs t f p h r) 1 = eff ((List.range (hn h r)).map (covM t f p r)) 1 := rfl
      rw [e]
      omega
  have h4 := h3 p.Runs.length (Nat.le_refl _)
  unfold pre
  rw [Ec.eff_append, Ec.eff_append]
  omega
/-! the whole book -/
theorem asked_mv (hk : Ok t f l p h) (hR : p.Runs.length ≤ 70) (ha : 0 ≤ eff (pre t f l p h) 1) : ∀ m ∈ asked t f l p h, Mv m := fun m hm => by
  unfold asked at hm
  rcases List.mem_append.1 hm with hm | hm
  · exact pre_mv hk hR m hm
  · have := pre_one hk hR
    exact (shs_mv ⟨ha, by omega⟩ hk.e.o.n m hm).1
theorem asked_one (hk : Ok t f l p h) (hR : p.Runs.length ≤ 70) (ha : 0 ≤ eff (pre t f l p h) 1) : eff (asked t f l p h) 1 = 0 := by
  unfold asked
  rw [Ec.eff_append]
  by_cases h0 : l.length = 0
  · have hr := no_runs hk.e h0
    unfold pre
    rw [h0, hr]
    simp [cat, Ec.posts, shs, eff]
  · rw [eff_io 1 (shs _ _), shs_tot ha (by omega), inn_no]
    · omega
    · intro m hm
      have := pre_one hk hR
      have := shs_mv ⟨ha, by omega⟩ hk.e.o.n m hm
      omega
theorem shs_no (hk : Ok t f l p h) (hR : p.Runs.length ≤ 70) (ha : 0 ≤ eff (pre t f l p h) 1) {j : Int} (hj : j ≠ 1) (hj2 : j < 51) : eff (shs (eff (pre t f l p h) 1) l.length) j = 0 := by
  have hp := pre_one hk hR
  rw [eff_io, inn_no, out_no]; rfl
  · intro m hm
    have := shs_mv ⟨ha, by omega⟩ hk.e.o.n m hm
    omega
  · intro m hm
    have := shs_mv ⟨ha, by omega⟩ hk.e.o.n m hm
    omega
theorem asked_two (hk : Ok t f l p h) (hR : p.Runs.length ≤ 70) (ha : 0 ≤ eff (pre t f l p h) 1) : eff (asked t f l p h) 2 = 0 := by
  unfold asked
  rw [Ec.eff_append, pre_two hk hR, shs_no hk hR ha (by omega) (by omega)]; rfl
/-- what leaves a sender's account: the price, once -/
theorem posts_out (t : TimeD) (f : TariffD) (l : List OrderD) (p : PlanD) (j : Int) : ∀ n, out j (Ec.posts t f l p n) = if 51 ≤ j ∧ j < 51 + n then Ec.priceP t f l p (j - 51).toNat else 0
  | 0 => by
    rw [if_neg (by omega)]; rfl
  | n + 1 => by
    rw [Ec.posts_succ, out_append, posts_out t f l p j n]
    have ho : out j [Ec.postM t f l p n] = if 51 + (n : Int) = j then Ec.priceP t f l p n else 0 := by
      simp [out, Ec.postM]
    rw [ho]
    by_cases e : 51 + (n : Int) = j
    · subst e
      rw [if_neg (by omega), if_pos rfl, if_pos (by omega)]
      have : (51 + (n : Int) - 51).toNat = n := by omega
      rw [this]; omega
    · rw [if_neg e]
      by_cases h1 : 51 ≤ j ∧ j < 51 + (n : Int)
      · rw [if_pos h1, if_pos (by omega)]; omega
      · rw [if_neg h1, if_neg (by omega)]; rfl
theorem asked_out (hk : Ok t f l p h) (hR : p.Runs.length ≤ 70) (ha : 0 ≤ eff (pre t f l p h) 1) {j : Int} (hj : 3 ≤ j) : out j (asked t f l p h) = if 51 ≤ j ∧ j < 51 + (l.length : Int) then Ec.priceP t f l p (j - 51).toNat else 0 := by
  have hp := pre_one hk hR
  unfold asked pre
  rw [out_append, out_append, out_append, posts_out, out_no j (l := cat (runPays t f l p h) p.Runs.length), out_no j (l := cat (runCovs t f p h) p.Runs.length), out_no j (l := shs _ _)]
  · omega
  · intro m hm
    have := shs_mv ⟨ha, by omega⟩ hk.e.o.n m hm
    omega
  · intro m hm
    obtain ⟨r, hr, hm⟩ := cat_mem hm
    have := covs_mv hk hR hr m hm
    omega
  · intro m hm
    obtain ⟨r, hr, hm⟩ := cat_mem hm
    have := pays_mv hk hR hr m hm
    omega
/-- the escrow is never overdrawn -/
theorem escrow_pos (hk : Ok t f l p h) (hR : p.Runs.length ≤ 70) (ha : 0 ≤ eff (pre t f l p h) 1) (k : Nat) : 0 ≤ eff ((asked t f l p h).take k) 2 := by
  have hpo := posts_mv hk.e hR
  have hall := asked_two hk hR ha
  have e : asked t f l p h = Ec.posts t f l p l.length ++ ((cat (runPays t f l p h) p.Runs.length ++ cat (runCovs t f p h) p.Runs.length) ++ shs (eff (pre t f l p h) 1) l.length) := by
    conv => lhs; unfold asked
    unfold pre
    simp only [List.append_assoc]
  rw [e] at hall ⊢
  generalize hX : (cat (runPays t f l p h) p.Runs.length ++ cat (runCovs t f p h) p.Runs.length) ++ shs (eff (pre t f l p h) 1) l.length = X at *
  have hXm : ∀ m ∈ X, 0 ≤ m.Amount ∧ m.To ≠ 2 := fun m hm => by
    rw [← hX] at hm
    have hp := pre_one hk hR
    rcases List.mem_append.1 hm with hm | hm
    · rcases List.mem_append.1 hm with hm | hm
      · obtain ⟨r, hr, hm⟩ := cat_mem hm
        have h1 := pays_mv hk hR hr m hm
        have h2 := h1.1.2.2.1
        have h3 := h1.1.2.2.2.1
        omega
      · obtain ⟨r, hr, hm⟩ := cat_mem hm
        have h1 := covs_mv hk hR hr m hm
        have h3 := h1.1.2.2.2.1
        omega
    · have h1 := shs_mv ⟨ha, by omega⟩ hk.e.o.n m hm
      have h3 := h1.1.2.2.2.1
      omega
  rw [Ec.eff_append] at hall
  rw [List.take_append, Ec.eff_append]
  by_cases hkl : k ≤ (Ec.posts t f l p l.length).length
  · rw [show k - (Ec.posts t f l p l.length).length = 0 by omega, List.take_zero]
    have : 0 ≤ eff ((Ec.posts t f l p l.length).take k) 2 := Ec.eff_in fun m hm => by
      have := hpo m (List.mem_of_mem_take hm)
      exact ⟨this.2.1, this.1.2.2.2.1.1⟩
    simp only [eff]; omega
  · rw [List.take_of_length_le (l := Ec.posts t f l p l.length) (by omega)]
    have h1 := out_take 2 (l := X) (fun m hm => (hXm m hm).1) (k - (Ec.posts t f l p l.length).length)
    have h2 : inn 2 X = 0 := inn_no 2 fun m hm => (hXm m hm).2
    have h3 : inn 2 (X.take (k - (Ec.posts t f l p l.length).length)) = 0 := inn_no 2 fun m hm => (hXm m (List.mem_of_mem_take hm)).2
    rw [eff_io 2 X] at hall
    rw [eff_io 2 (X.take _)]
    omega
/-- who has a start from which all can be paid -/
structure Start (s : List Int) (t : TimeD) (f : TariffD) (l : List OrderD) (p : PlanD) : Prop where
  ok : Bk.startOk s = true
  pr : ∀ i : Nat, i < l.length → Ec.priceP t f l p i ≤ lo s (51 + i)
/-- the books after all moves -/
theorem book_bal (hk : Ok t f l p h) (hR : p.Runs.length ≤ 70) (hl : 11 * l.length + 560 ≤ 4096) (hneg : ∀ k, 0 ≤ eff ((pre t f l p h).take k) 1) {s : List Int} (hs : Start s t f l p) :
    Bk.chk (num 0 (asked t f l p h)) = 0 ∧ Bk.balances s (num 0 (asked t f l p h)) = (Bk.after s (num 0 (asked t f l p h)), 0) ∧ (Bk.after s (num 0 (asked t f l p h))).length = 115 ∧ ∀ j, 0 ≤ j → lo (Bk.after s (num 0 (asked t f l p h))) j = lo s j + eff (asked t f l p h) j := by
  have ha : 0 ≤ eff (pre t f l p h) 1 := by
    have := hneg (pre t f l p h).length
    rwa [List.take_of_length_le (Nat.le_refl _)] at this
  have hmv := asked_mv hk hR ha
  have hlen := asked_len hk hR
  have hc := num_chk hmv (by omega)
  have hsl : s.length = 115 := by
    have := hs.ok
    unfold Bk.startOk at this
    simp only [Bool.and_eq_true, decide_eq_true_eq] at this
    exact this.1
  have haf : ∀ k j, 0 ≤ j → lo (Bk.after s ((num 0 (asked t f l p h)).take k)) j = lo s j + eff ((asked t f l p h).take k) j := fun k j hj => by
    rw [Ec.after_eff hsl (fun m hm => (num_mv hmv 0 m (List.mem_of_mem_take hm)).ok) hj, num_take, num_eff]
  have hpos := Bk.pos_start hs.ok
  have hall : Bk.allOk 0 (num 0 (asked t f l p h)) = true := by
    unfold Bk.chk at hc
    split at hc
    · cases hc
    · split at hc
      · assumption
      · cases hc
  have hone := asked_one hk hR ha
  have hfund : ∀ k, 0 ≤ eff ((asked t f l p h).take k) 1 := fun k => by
    unfold asked
    rw [List.take_append, Ec.eff_append]
    by_cases hkl : k ≤ (pre t f l p h).length
    · rw [show k - (pre t f l p h).length = 0 by omega, List.take_zero]
      have := hneg k
      simp only [eff]; omega
    · rw [List.take_of_length_le (l := pre t f l p h) (by omega)]
      unfold asked at hone
      rw [Ec.eff_append] at hone
      have hp := pre_one hk hR
      have hsm := shs_mv ⟨ha, by omega⟩ hk.e.o.n
      have h1 := out_take 1 (l := shs (eff (pre t f l p h) 1) l.length) (fun m hm => (hsm m hm).1.2.2.2.1.1) (k - (pre t f l p h).length)
      have h2 : inn 1 (shs (eff (pre t f l p h) 1) l.length) = 0 := inn_no 1 fun m hm => by have := hsm m hm; omega
      have h3 : inn 1 ((shs (eff (pre t f l p h) 1) l.length).take (k - (pre t f l p h).length)) = 0 := inn_no 1 fun m hm => by have := hsm m (List.mem_of_mem_take hm); omega
      rw [eff_io 1 (shs _ _)] at hone
      rw [eff_io 1 ((shs _ _).take _)]
      omega
  have hP : ∀ k, k ≤ (num 0 (asked t f l p h)).length → Bk.Pos (Bk.after s ((num 0 (asked t f l p h)).take k)) := fun k _ j h0 h1 => by
    rw [haf k j (by omega)]
    have hsj := hpos j h0 h1
    by_cases e1 : j = 1
    · subst e1; have := hfund k; omega
    · by_cases e2 : j = 2
      · subst e2; have := escrow_pos hk hR ha k; omega
      · have h3 := asked_out hk hR ha (show 3 ≤ j by omega)
        have h4 := out_take j (l := asked t f l p h) (fun m hm => (hmv m hm).2.2.2.1.1) k
        have h5 := inn_nn j (l := (asked t f l p h).take k) fun m hm => (hmv m (List.mem_of_mem_take hm)).2.2.2.1.1
        rw [eff_io]
        by_cases h6 : 51 ≤ j ∧ j < 51 + (l.length : Int)
        · rw [if_pos h6] at h3
          have h7 := hs.pr (j - 51).toNat (by omega)
          rw [show 51 + ((j - 51).toNat : Int) = j by omega] at h7
          omega
        · rw [if_neg h6] at h3; omega
  have hbad := (Bk.bad_none _ s 0 0 hsl hpos hall).2 hP
  refine ⟨hc, ?_, by rw [Bk.after_len, hsl], fun j hj => ?_⟩
  · unfold Bk.balances Bk.wrong
    rw [if_neg (by simp [hc, hs.ok]), hbad]
  · have := haf (num 0 (asked t f l p h)).length j hj
    rw [List.take_of_length_le (Nat.le_refl _), num_len, List.take_of_length_le (Nat.le_refl _)] at this
    exact this
end Au
end Go.Fk
