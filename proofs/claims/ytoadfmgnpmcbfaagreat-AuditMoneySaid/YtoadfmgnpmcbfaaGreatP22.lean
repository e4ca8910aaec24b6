/- Chapters 18, 21, 22: orders, prices and plans, in plain Lean. No program in sight. -/
import Derived.Test.YtoadfmgnpmcbfaaGreatP20
import Derived.Test.YtoadfmgnpmcbfaaGreatP21
import Derived.Test.YtoadfmgnpmcbfaaGreatApiO
set_option linter.unusedVariables false
set_option linter.unusedSimpArgs false
namespace Go.Fk
open Go
namespace Tf
def extraF (c : Int) : List TierD → Int → Int
  | [], a => a
  | x :: r, a => extraF c r (if x.From ≤ c then x.Extra else a)
def extra (f : TariffD) (c : Int) : Int := extraF c f.Tiers 0
def wrong (f : TariffD) (class_ legs crowd : Int) : Int :=
  if chk f ≠ 0 then 210 else if class_ < 0 ∨ f.Base.length ≤ class_ ∨ legs < 1 ∨ 8 < legs ∨ crowd < 1 ∨ 64 < crowd then 1 else 0
def base (f : TariffD) (class_ : Int) : Int := f.Base.getD class_.toNat 0
def leg (f : TariffD) (class_ : Int) : Int := f.Leg.getD class_.toNat 0
def pri (f : TariffD) (class_ legs crowd : Int) : Int × Int := if wrong f class_ legs crowd ≠ 0 then (0, wrong f class_ legs crowd) else (base f class_ + legs * leg f class_ + extra f crowd, 0)
theorem extraF_drop {c : Int} {l : List TierD} {k : Nat} {a : Int} (h : k < l.length) : extraF c (l.drop k) a = extraF c (l.drop (k + 1)) (if l[k].From ≤ c then l[k].Extra else a) := by
  rw [List.drop_eq_getElem_cons h]; rfl
theorem extraF_append (c : Int) : ∀ (l m : List TierD) (a : Int), extraF c (l ++ m) a = extraF c m (extraF c l a)
  | [], m, a => rfl
  | x :: r, m, a => by simp only [List.cons_append, extraF]; exact extraF_append c r m _
theorem extraF_bd {c : Int} : ∀ (l : List TierD) (a : Int), (∀ x ∈ l, price x.Extra = true) → 0 ≤ a ∧ a ≤ 1048576 → 0 ≤ extraF c l a ∧ extraF c l a ≤ 1048576
  | [], a, _, h => h
  | x :: r, a, hl, h => by
    refine extraF_bd r _ (fun y hy => hl y (List.mem_cons_of_mem _ hy)) ?_
    have := hl x (List.mem_cons_self ..)
    simp only [price, decide_eq_true_eq] at this
    split <;> omega
theorem tiers_price {l : List TierD} (h : tiersOk 0 l = true) : ∀ x ∈ l, price x.Extra = true := fun x hx => by
  obtain ⟨k, hk, rfl⟩ := List.getElem_of_mem hx
  exact ((tiers_at l).1 h k hk).2
theorem extra_bd {f : TariffD} (h : chk f = 0) (c : Int) : 0 ≤ extra f c ∧ extra f c ≤ 1048576 := extraF_bd _ _ (tiers_price (chk_ok h).x) (by omega)
theorem base_bd {f : TariffD} (h : chk f = 0) (c : Int) : 0 ≤ base f c ∧ base f c ≤ 1048576 := by
  unfold base
  rw [List.getD_eq_getElem?_getD]
  by_cases hc : c.toNat < f.Base.length
  · rw [List.getElem?_eq_getElem hc]; exact (chk_ok h).b _ (List.getElem_mem hc)
  · rw [List.getElem?_eq_none (by omega)]; simp
theorem leg_bd {f : TariffD} (h : chk f = 0) (c : Int) : 0 ≤ leg f c ∧ leg f c ≤ 1048576 := by
  unfold leg
  rw [List.getD_eq_getElem?_getD]
  by_cases hc : c.toNat < f.Leg.length
  · rw [List.getElem?_eq_getElem hc]; exact (chk_ok h).l _ (List.getElem_mem hc)
  · rw [List.getElem?_eq_none (by omega)]; simp
theorem pri_bd {f : TariffD} {c l k : Int} : 0 ≤ (pri f c l k).1 ∧ (pri f c l k).1 ≤ 10485760 := by
  unfold pri
  split
  · simp
  · rename_i h
    simp only [ne_eq, Decidable.not_not] at h
    have hw : chk f = 0 ∧ 1 ≤ l ∧ l ≤ 8 := by
      unfold wrong at h
      split at h
      · cases h
      · rename_i h1
        simp only [ne_eq, Decidable.not_not] at h1
        split at h
        · cases h
        · exact ⟨h1, by omega, by omega⟩
    have := base_bd hw.1 c
    have := leg_bd hw.1 c
    have := extra_bd hw.1 k
    have h8 : 0 ≤ l * leg f c ∧ l * leg f c ≤ 8 * 1048576 := ⟨Int.mul_nonneg (by omega) (by omega), Int.mul_le_mul hw.2.2 (by omega) (by omega) (by omega)⟩
    simp only; omega
end Tf
namespace Pl
def agF (n : Int) : Int → List Int → Bool
  | _, [] => true
  | last, k :: r => decide (last < k ∧ k < n) && agF n k r
def oNum (o : OrderD) (n p c : Int) : Bool :=
  decide ((0 ≤ o.From ∧ o.From < n) ∧ (0 ≤ o.Dest ∧ o.Dest < n) ∧ (0 ≤ o.Person ∧ o.Person < p) ∧ (0 ≤ o.Class ∧ o.Class < c) ∧ (0 ≤ o.After ∧ o.After < o.By) ∧ o.By < 2097152 ∧ (1 ≤ o.Crowd ∧ o.Crowd ≤ 64) ∧ (0 ≤ o.Pay ∧ o.Pay ≤ 1099511627776) ∧ (0 ≤ o.Else ∧ o.Else ≤ 2) ∧ o.From ≠ o.Dest)
/-- is an order right? -/
def oright (o : OrderD) (n p c : Int) : Bool := oNum o n p c && agF n (-1) o.Against
theorem agF_drop {n : Int} {l : List Int} {k : Nat} {a : Int} (h : k < l.length) : agF n a (l.drop k) = (decide (a < l[k] ∧ l[k] < n) && agF n l[k] (l.drop (k + 1))) := by
  rw [List.drop_eq_getElem_cons h]; rfl
def lineR (t : TimeD) (r : RunD) : LineD := t.Lines.getD r.Line.toNat default
/-- the conditions of an order and a run -/
def c0 (x : LineD) (o : OrderD) : Bool := iand .i64 (x.Classes.fdiv (2 ^ (min o.Class.toNat 64))) 1 == 1
def c1 (x : LineD) (o : OrderD) : Bool := decide (x.Offices.getD 0 0 = o.From) && decide (x.Offices.getD (x.Offices.length - 1) 0 = o.Dest)
def c2 (o : OrderD) (r : RunD) : Bool := decide (o.After ≤ r.At) && decide (r.Arrive ≤ o.By)
def c3 (f : TariffD) (x : LineD) (o : OrderD) : Bool := decide ((Tf.pri f o.Class x.Legs.length o.Crowd).1 ≤ o.Pay)
def c4 (x : LineD) (o : OrderD) : Bool := decide (o.Crowd < x.Room)
def c5 (x : LineD) (o : OrderD) : Bool := x.Offices.any fun k => !o.Against.contains k
def fits (t : TimeD) (f : TariffD) (o : OrderD) (r : RunD) : Bool := c0 (lineR t r) o && c1 (lineR t r) o && c2 o r && c3 f (lineR t r) o && c4 (lineR t r) o && c5 (lineR t r) o
def err (t : TimeD) (f : TariffD) (l : List OrderD) : Int :=
  if Tt.chk t ≠ 0 then Tt.chk t else if Tf.chk f ≠ 0 then Tf.chk f else if 64 < l.length then 220 else if l.all (fun o => oright o t.Offices 1024 f.Base.length) then 0 else 220
structure Ok (T : TimeD) (F : TariffD) (l : List OrderD) : Prop where
  t : Tt.chk T = 0
  f : Tf.chk F = 0
  n : l.length ≤ 64
  o : ∀ o ∈ l, oright o T.Offices 1024 F.Base.length = true
theorem err_ok {t : TimeD} {f : TariffD} {l : List OrderD} (h : err t f l = 0) : Ok t f l := by
  unfold err at h
  by_cases h1 : Tt.chk t = 0
  · rw [if_neg (by simp [h1])] at h
    by_cases h2 : Tf.chk f = 0
    · rw [if_neg (by simp [h2])] at h
      by_cases h3 : 64 < l.length
      · rw [if_pos h3] at h; cases h
      · rw [if_neg h3] at h
        by_cases h4 : l.all (fun o => oright o t.Offices 1024 f.Base.length) = true
        · exact ⟨h1, h2, by omega, fun o ho => List.all_eq_true.1 h4 o ho⟩
        · rw [if_neg h4] at h; cases h
    · rw [if_pos (by simpa using h2)] at h; exact (h2 h).elim
  · rw [if_pos (by simpa using h1)] at h; exact (h1 h).elim
/-- the load of a run: of the first orders, that go with the runs 'of' -/
structure LoadD where
  n : Int
  c : Int
  deriving DecidableEq
def LoadD.zero : LoadD := ⟨0, 0⟩
def LoadD.wth (x : LoadD) (o : OrderD) : LoadD := ⟨x.n + 1, max x.c (o.Crowd + 1)⟩
def LoadD.covers (x : LoadD) : Int := max 0 (x.c - x.n)
def loadF (r : RunD) : List OrderD → List RunD → LoadD → LoadD
  | o :: l, s :: of, a => loadF r l of (if s = r then a.wth o else a)
  | _, _, a => a
def load (l : List OrderD) (of : List RunD) (r : RunD) : LoadD := loadF r l of .zero
theorem loadF_append (r : RunD) (s : RunD) (o : OrderD) : ∀ (l : List OrderD) (of : List RunD) (a : LoadD), l.length = of.length → ∀ l', loadF r (l ++ o :: l') (of ++ [s]) a = if s = r then (loadF r l of a).wth o else loadF r l of a
  | [], [], a, _, l' => by cases l' <;> simp [loadF]
  | [], _ :: _, a, h, _ => by simp at h
  | _ :: _, [], a, h, _ => by simp at h
  | x :: l, y :: of, a, h, l' => by
    simp only [List.cons_append, loadF]
    exact loadF_append r s o l of _ (by simpa using h) l'
theorem loadF_more (r : RunD) : ∀ (l : List OrderD) (of : List RunD) (a : LoadD) (l' : List OrderD), of.length ≤ l.length → loadF r (l ++ l') of a = loadF r l of a
  | [], [], a, l', _ => by cases l' <;> rfl
  | [], _ :: _, a, _, h => by simp at h
  | x :: l, [], a, l', _ => rfl
  | x :: l, y :: of, a, l', h => by
    simp only [List.cons_append, loadF]
    exact loadF_more r l of _ l' (by simpa using h)
/-- one order more -/
theorem load_snoc {l : List OrderD} {of : List RunD} (h : of.length < l.length) (s r : RunD) : load l (of ++ [s]) r = if s = r then (load l of r).wth l[of.length] else load l of r := by
  have e : l = l.take of.length ++ l[of.length] :: l.drop (of.length + 1) := by
    rw [List.getElem_cons_drop, List.take_append_drop]
  have hl : (l.take of.length).length = of.length := by simp; omega
  have h1 := loadF_append r s l[of.length] (l.take of.length) of .zero hl (l.drop (of.length + 1))
  rw [← e] at h1
  have h2 := loadF_more r (l.take of.length) of .zero (l[of.length] :: l.drop (of.length + 1)) (by omega)
  rw [← e] at h2
  unfold load
  rw [h1, h2]
/-- how many, and how great -/
theorem loadF_bd (r : RunD) : ∀ (l : List OrderD) (of : List RunD) (a : LoadD), (∀ o ∈ l, 1 ≤ o.Crowd ∧ o.Crowd ≤ 64) → 0 ≤ a.n → 0 ≤ a.c ∧ a.c ≤ 65 → a.n ≤ (loadF r l of a).n ∧ (loadF r l of a).n ≤ a.n + l.length ∧ 0 ≤ (loadF r l of a).c ∧ (loadF r l of a).c ≤ 65
  | [], of, a, _, h0, h1 => by cases of <;> simp [loadF] <;> omega
  | o :: l, [], a, _, h0, h1 => by simp [loadF]; omega
  | o :: l, s :: of, a, hc, h0, h1 => by
    have hh := hc o (List.mem_cons_self ..)
    simp only [loadF, List.length_cons]
    have := loadF_bd r l of (if s = r then a.wth o else a) (fun x hx => hc x (List.mem_cons_of_mem _ hx)) (by split <;> (try simp only [LoadD.wth]) <;> omega) (by split <;> (try simp only [LoadD.wth]) <;> omega)
    have e : a.n ≤ (if s = r then a.wth o else a).n ∧ (if s = r then a.wth o else a).n ≤ a.n + 1 := by split <;> (try simp only [LoadD.wth]) <;> omega
    omega
theorem load_bd {l : List OrderD} (h : ∀ o ∈ l, 1 ≤ o.Crowd ∧ o.Crowd ≤ 64) (of : List RunD) (r : RunD) : 0 ≤ (load l of r).n ∧ (load l of r).n ≤ l.length ∧ 0 ≤ (load l of r).c ∧ (load l of r).c ≤ 65 := by
  have := loadF_bd r l of .zero h (by simp [LoadD.zero]) (by simp [LoadD.zero])
  simp only [LoadD.zero, Int.zero_add] at this
  exact this
/-- the runs of a plan -/
def runP (t : TimeD) (p : PlanD) (k : Nat) : Bool := Tt.isRun t (p.Runs.getD k default) && (decide (k = 0) || Tt.before (p.Runs.getD (k - 1) default) (p.Runs.getD k default))
def runsOk (t : TimeD) (p : PlanD) : Bool := (List.range p.Runs.length).all (runP t p)
def ofP (t : TimeD) (f : TariffD) (l : List OrderD) (p : PlanD) (k : Nat) : Bool :=
  decide (0 ≤ p.Of.getD k 0 ∧ p.Of.getD k 0 < p.Runs.length) && fits t f (l.getD k default) (p.Runs.getD (p.Of.getD k 0).toNat default)
def ofsOk (t : TimeD) (f : TariffD) (l : List OrderD) (p : PlanD) : Bool := (List.range l.length).all (ofP t f l p)
/-- with which runs orders go -/
def ofs (p : PlanD) : List RunD := p.Of.map fun k => p.Runs.getD k.toNat default
def covP (t : TimeD) (l : List OrderD) (p : PlanD) (k : Nat) : Bool :=
  let x := load l (ofs p) (p.Runs.getD k default)
  decide (x.n ≠ 0 ∧ p.Covers.getD k 0 = x.covers ∧ max x.n x.c ≤ (lineR t (p.Runs.getD k default)).Room)
def covsOk (t : TimeD) (l : List OrderD) (p : PlanD) : Bool := (List.range p.Runs.length).all (covP t l p)
def sum : List Int → Int
  | [] => 0
  | x :: r => x + sum r
def good (t : TimeD) (f : TariffD) (l : List OrderD) (covers : Int) (p : PlanD) : Bool :=
  decide (p.Of.length = l.length ∧ p.Covers.length = p.Runs.length) && runsOk t p && ofsOk t f l p && covsOk t l p && decide (sum p.Covers ≤ covers)
/-- is a plan right? -/
def check (t : TimeD) (f : TariffD) (l : List OrderD) (covers : Int) (p : PlanD) : Bool × Int := if err t f l ≠ 0 then (false, err t f l) else (good t f l covers p, 0)
theorem sum_take : ∀ (l : List Int) (i : Nat) (h : i < l.length), sum (l.take (i + 1)) = sum (l.take i) + l[i]
  | y :: r, 0, _ => by simp [sum]
  | y :: r, i + 1, h => by
    simp only [List.take_succ_cons, sum, List.getElem_cons_succ]
    rw [sum_take r i (by simpa using h)]; omega
end Pl
end Go.Fk
