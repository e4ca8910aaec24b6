import Derived.Test.YtoadfmgnpmcbfaaGreatQeFk
/- A map written out: its entries go in as updates do. No program is named. -/
namespace Go.Fk
open Go
/-- an entry of a map that is written out, as an update -/
def noIns (o : Oper) : Oper := match o.op with
  | .insert t m k x => { o with op := .mapUpdate t m k x }
  | _ => o
theorem noIns_wp {F : Fence} {n : Nat} {P : Program} {a : Act} {w : World} {K : Act → World → Prop} {Q : Exit → Act → World → Prop} : ∀ {o : Oper}, (noIns o).wpIn F n P a w K Q → o.wpIn F n P a w K Q
  | ⟨d, op, ty, ps, af, g⟩, h => by
    cases op
    case insert t m k x =>
      unfold Oper.wpIn at h ⊢
      rw [Oper.semAt_eq _ _ _ (fun c e => by cases e)] at h ⊢
      exact h
    all_goals exact h
theorem noIns_guard : ∀ o : Oper, (noIns o).guard = o.guard
  | ⟨d, op, ty, ps, af, g⟩ => by cases op <;> rfl
theorem noIns_list {F : Fence} {n : Nat} {P : Program} {ops ops' : Array Oper} {Q : Exit → Act → World → Prop} : ∀ (l : List Oper) (a : Act) (w : World), l.all (fun o => o.guard.isNone) = true → wpListIn F n P ops' Q (l.map noIns) a w → wpListIn F n P ops Q l a w
  | [], a, w, _, h => h
  | o :: l, a, w, hg, h => by
    simp only [List.all_cons, Bool.and_eq_true] at hg
    have g0 : o.guard = none := by simpa using hg.1
    have w1 : Region.wanted o (yielded ops a.tmps) = true := by simp [Region.wanted, g0]
    have w2 : Region.wanted (noIns o) (yielded ops' a.tmps) = true := by simp [Region.wanted, noIns_guard, g0]
    simp only [List.map_cons, wpListIn] at h ⊢
    rw [if_pos w2] at h
    rw [if_pos w1]
    exact Oper.wpIn_mono (fun a w h => noIns_list l a w hg.2 h) (noIns_wp h)
theorem Run_regionI {P : Program} {r : Option Nat} {n : Nat} {ds : List DF} {k : List Td} {L : FL} {w : World} {Q : Exit → List DF → FL → World → Prop} {id : Nat} {l : List Oper} (vs : List Nat) (hs : stat n (l.map noIns) (l.map noIns) [] = true) (hg : l.all (fun o => o.guard.isNone) = true)
    (h : ∀ t0, eg P (l.map noIns) t0 (l.map noIns) [] L w fun L' w' => Run P r n ds k (prune vs L') w' Q) : Run P r n ds (.code (.region id l.toArray false) :: k) L w Q := fun a ha => by
  refine wpIn_mono (wpIn_region_lit (noIns_list l a w hg (eg_sound (l.map noIns) [] [] L a w (Inv.start ha) hs (h _)))) fun e a' w' hq => ?_
  cases e <;> first | exact hq.elim | (obtain ⟨L', hL, hK⟩ := hq; exact hK a' hL.prune)
end Go.Fk
