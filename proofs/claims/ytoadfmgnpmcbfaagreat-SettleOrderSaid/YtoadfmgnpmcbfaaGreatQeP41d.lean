import Derived.Test.YtoadfmgnpmcbfaaGreatQeP43
/- Chapter 41: the order of a period's moves, in plain Lean. -/
set_option linter.unusedVariables false
set_option linter.unusedSimpArgs false
namespace Go.Fk
open Go
namespace Au
open Bk (lo)
open Ec (eff gain MvOk numd)
/-- the part to which a kind of move belongs -/
def ptW (w : Int) : Int := if w = 1 then 1 else if w ≤ 4 then 2 else if w = 5 then 3 else 4
def kkM (m : MoveD) : Int := ptW m.Why * 4096 + if 2 ≤ m.Why ∧ m.Why ≤ 5 then m.Run else 0
section
variable {t : TimeD} {f : TariffD} {l : List OrderD} {p : PlanD} {h : List Int}
/-- what the law asks of moves, of which n are posts, and of which the shares begin at q -/
structure Ord (X : List MoveD) (n q : Nat) : Prop where
  len : X.length = q + n
  why : ∀ k (hk : k < X.length), 1 ≤ X[k].Why ∧ X[k].Why ≤ 6
  post : ∀ k (hk : k < X.length), (k < n → X[k].Why = 1 ∧ X[k].From = 51 + (k : Int)) ∧ (n ≤ k → X[k].Why ≠ 1)
  share : ∀ k (hk : k < X.length), (q ≤ k → X[k].Why = 6 ∧ X[k].To = 51 + ((k - q : Nat) : Int) ∧ X[k].Run = -1) ∧ (k < q → X[k].Why ≠ 6)
  run : ∀ k (hk : k + 1 < X.length), kkM X[k] ≤ kkM X[k + 1]
  rng : ∀ k (hk : k < X.length), -1 ≤ X[k].Run ∧ X[k].Run < 70
theorem cat_pw {G : Nat → List MoveD} {c : Int} : ∀ n, (∀ r, r < n → ∀ m ∈ G r, kkM m = c + r) → List.Pairwise (fun a b => kkM a ≤ kkM b) (cat G n)
  | 0, _ => List.Pairwise.nil
  | n + 1, hG => by
    simp only [cat]
    rw [List.pairwise_append]
    refine ⟨cat_pw n fun r hr => hG r (by omega), ?_, fun a ha b hb => ?_⟩
    · rw [List.pairwise_iff_getElem]
      intro i j hi hj hij
      rw [hG n (by omega) _ (List.getElem_mem hi), hG n (by omega) _ (List.getElem_mem hj)]
      exact Int.le_refl _
    · obtain ⟨r, hr, hm⟩ := cat_mem ha
      rw [hG r (by omega) a hm, hG n (by omega) b hb]; omega
theorem const_pw {X : List MoveD} {c : Int} (hc : ∀ m ∈ X, kkM m = c) : List.Pairwise (fun a b => kkM a ≤ kkM b) X := by
  rw [List.pairwise_iff_getElem]
  intro i j hi hj hij
  rw [hc _ (List.getElem_mem hi), hc _ (List.getElem_mem hj)]
  exact Int.le_refl _
theorem asked_ord (hk : Ok t f l p h) (hR : p.Runs.length ≤ 70) (hl : l.length ≤ 64) (ha : 0 ≤ eff (pre t f l p h) 1) : Ord (asked t f l p h) l.length (pre t f l p h).length := by
  have hp1 := pre_one hk hR
  have hpost := posts_mv hk.e hR
  have hpay := fun r (hr : r < p.Runs.length) => pays_mv hk hR hr
  have hcov := fun r (hr : r < p.Runs.length) => covs_mv hk hR hr
  have hshs := shs_mv (a := eff (pre t f l p h) 1) (n := l.length) ⟨ha, by omega⟩ hl
  have hsl : (shs (eff (pre t f l p h) 1) l.length).length = l.length := by simp [shs]
  have k1 : ∀ m ∈ Ec.posts t f l p l.length, kkM m = 4096 := fun m hm => by
    have := (hpost m hm).2.2.1
    unfold kkM ptW; rw [this]; simp
  have k2 : ∀ r, r < p.Runs.length → ∀ m ∈ runPays t f l p h r, kkM m = 8192 + r := fun r hr m hm => by
    obtain ⟨_, _, h3, h4⟩ := hpay r hr m hm
    unfold kkM ptW
    rw [if_neg (by omega), if_pos (by omega), if_pos (by omega), h3]; omega
  have k3 : ∀ r, r < p.Runs.length → ∀ m ∈ runCovs t f p h r, kkM m = 12288 + r := fun r hr m hm => by
    obtain ⟨_, _, h3, h4, _⟩ := hcov r hr m hm
    unfold kkM ptW
    rw [if_neg (by omega), if_neg (by omega), if_pos h4, if_pos (by omega), h3]; omega
  have k4 : ∀ m ∈ shs (eff (pre t f l p h) 1) l.length, kkM m = 16384 := fun m hm => by
    obtain ⟨_, _, h3, _⟩ := hshs m hm
    unfold kkM ptW; rw [h3]; simp
  have hpw : List.Pairwise (fun a b => kkM a ≤ kkM b) (asked t f l p h) := by
    unfold asked pre
    rw [List.pairwise_append, List.pairwise_append, List.pairwise_append]
    refine ⟨⟨const_pw k1, ⟨cat_pw _ k2, cat_pw _ k3, fun a ha b hb => ?_⟩, fun a ha b hb => ?_⟩, const_pw k4, fun a ha b hb => ?_⟩
    · obtain ⟨r, hr, hm⟩ := cat_mem ha
      obtain ⟨r2, hr2, hm2⟩ := cat_mem hb
      rw [k2 r hr a hm, k3 r2 hr2 b hm2]; omega
    · rw [k1 a ha]
      rcases List.mem_append.1 hb with hb | hb
      · obtain ⟨r, hr, hm⟩ := cat_mem hb
        rw [k2 r hr b hm]; omega
      · obtain ⟨r, hr, hm⟩ := cat_mem hb
        rw [k3 r hr b hm]; omega
    · rw [show kkM b = 16384 from k4 b hb]
      rcases List.mem_append.1 ha with ha | ha
      · rw [k1 a ha]; omega
      · rcases List.mem_append.1 ha with ha | ha
        · obtain ⟨r, hr, hm⟩ := cat_mem ha
          rw [k2 r hr a hm]; omega
        · obtain ⟨r, hr, hm⟩ := cat_mem ha
          rw [k3 r hr a hm]; omega
  have hpreW : ∀ m ∈ pre t f l p h, 1 ≤ m.Why ∧ m.Why ≤ 5 ∧ -1 ≤ m.Run ∧ m.Run < 70 := fun m hm => by
    unfold pre at hm
    rcases List.mem_append.1 hm with hm | hm
    · have := hpost m hm
      have h2 := this.1.2.2.2.2.2
      obtain ⟨i, hi, rfl⟩ := List.getElem_of_mem hm
      rw [Ec.posts_len] at hi
      have hq := Ec.price_eq hk.e hi
      obtain ⟨q0, q1, _⟩ := hq
      have e : (Ec.posts t f l p l.length)[i]'(by rw [Ec.posts_len]; exact hi) = Ec.postM t f l p i := by simp [Ec.posts]
      rw [e] at this ⊢
      refine ⟨by omega, by omega, ?_, ?_⟩
      · show -1 ≤ p.Of.getD i 0
        omega
      · show p.Of.getD i 0 < 70
        omega
    · rcases List.mem_append.1 hm with hm | hm
      · obtain ⟨r, hr, hm⟩ := cat_mem hm
        have := hpay r hr m hm
        omega
      · obtain ⟨r, hr, hm⟩ := cat_mem hm
        have := hcov r hr m hm
        omega
  have hrest : ∀ m ∈ cat (runPays t f l p h) p.Runs.length ++ cat (runCovs t f p h) p.Runs.length, m.Why ≠ 1 := fun m hm => by
    rcases List.mem_append.1 hm with hm | hm
    · obtain ⟨r, hr, hm⟩ := cat_mem hm
      have := hpay r hr m hm
      omega
    · obtain ⟨r, hr, hm⟩ := cat_mem hm
      have := hcov r hr m hm
      omega
  have hget1 : ∀ k (hk : k < (asked t f l p h).length), k < (pre t f l p h).length → (asked t f l p h)[k] ∈ pre t f l p h := fun k hk hq => by
    unfold asked at hk ⊢
    rw [List.getElem_append_left hq]
    exact List.getElem_mem hq
  have hget2 : ∀ k (hk : k < (asked t f l p h).length), (pre t f l p h).length ≤ k → (asked t f l p h)[k] = shM (eff (pre t f l p h) 1) l.length (k - (pre t f l p h).length) := fun k hk hq => by
    unfold asked at hk ⊢
    rw [List.getElem_append_right hq]
    simp [shs]
  have hlen : (asked t f l p h).length = (pre t f l p h).length + l.length := by unfold asked; rw [List.length_append, hsl]
  have hpl : l.length ≤ (pre t f l p h).length := by unfold pre; rw [List.length_append, Ec.posts_len]; omega
  refine ⟨hlen, fun k hk' => ?_, fun k hk' => ⟨fun hn => ?_, fun hn => ?_⟩, fun k hk' => ⟨fun hn => ?_, fun hn => ?_⟩, fun k hk' => ?_, fun k hk' => ?_⟩
  · by_cases hq : k < (pre t f l p h).length
    · have := hpreW _ (hget1 k hk' hq); omega
    · rw [hget2 k hk' (by omega)]; simp [shM]
  · have e : (asked t f l p h)[k] = Ec.postM t f l p k := by
      have h1 : k < (Ec.posts t f l p l.length).length := by rw [Ec.posts_len]; exact hn
      have e1 : asked t f l p h = Ec.posts t f l p l.length ++ ((cat (runPays t f l p h) p.Runs.length ++ cat (runCovs t f p h) p.Runs.length) ++ shs (eff (pre t f l p h) 1) l.length) := by
        unfold asked; conv => lhs; arg 1; unfold pre
        simp
      have e2 : (asked t f l p h)[k]? = some (Ec.postM t f l p k) := by
        rw [e1, List.getElem?_append_left h1]
        simp [Ec.posts, hn]
      rw [List.getElem?_eq_getElem hk'] at e2
      exact Option.some.inj e2
    rw [e]; exact ⟨rfl, rfl⟩
  · by_cases hq : k < (pre t f l p h).length
    · have e2 : (asked t f l p h)[k]? = (cat (runPays t f l p h) p.Runs.length ++ cat (runCovs t f p h) p.Runs.length)[k - l.length]? := by
        have e1 : (asked t f l p h)[k]? = (pre t f l p h)[k]? := by unfold asked; rw [List.getElem?_append_left hq]
        rw [e1]; unfold pre
        rw [List.getElem?_append_right (by rw [Ec.posts_len]; exact hn), Ec.posts_len]
      rw [List.getElem?_eq_getElem hk'] at e2
      exact hrest _ (List.mem_of_getElem? e2.symm)
    · rw [hget2 k hk' (by omega)]; simp [shM]
  · rw [hget2 k hk' hn]; exact ⟨rfl, rfl, rfl⟩
  · have := hpreW _ (hget1 k hk' hn); omega
  · exact List.pairwise_iff_getElem.1 hpw k (k + 1) (by omega) hk' (by omega)
  · by_cases hq : k < (pre t f l p h).length
    · have := hpreW _ (hget1 k hk' hq); omega
    · rw [hget2 k hk' (by omega)]; simp [shM]
end
end Au
end Go.Fk
