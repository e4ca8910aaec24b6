import Derived.Test.YtoadfmgnpmcbfaaGreatQoW22j
import Derived.Test.YtoadfmgnpmcbfaaGreatQoW39m
import Derived.Test.YtoadfmgnpmcbfaaGreatQoGe
/- Chapter 39: the reference's Error, Line. -/
/- Chapter 39: the reference's Error, Line, Price, Post. -/
namespace Go.Proofs.YtoadfmgnpmcbfaaGreat
open Go Go.Fk
set_option linter.unusedSimpArgs false
set_option linter.unusedVariables false
set_option maxRecDepth 100000
theorem rpchkW {vl u0 u1 u2 vo v0 v1 v2 : Value} {t : TimeD} {f : TariffD} {l : List OrderD} {covers : Int} {p : PlanD} {w : World} {K : Value → World → Prop} {r : Bool × Int} (h : Pl.check t f l covers p = r) (hl : Sl w vl t.Lines) (hT : TarR w f u0 u1 u2) (ho : Sl w vo l) (hP : PlanR w p v0 v1 v2)
    (hK : ∀ w', Ext w w' → K (.tuple #[.bool r.1, .int .i64 r.2]) w') : CallW Tryz.prog (.func (.func 59) #[] #[]) [.agg #[.int .i64 t.Offices, vl], .agg #[u0, u1, u2], vo, .int .i64 covers, .agg #[v0, v1, v2]] w K := by
  subst h; exact CallW_pure call59 (rfCheckP vl u0 u1 u2 vo v0 v1 v2 t f l covers p w hl hT ho hP) hK
theorem rfError39 (vl u0 u1 u2 vo v0 v1 v2 : Value) (t : TimeD) (f : TariffD) (l : List OrderD) (p : PlanD) (w : World) (hl : Sl w vl t.Lines) (hT : TarR w f u0 u1 u2) (ho : Sl w vo l) (hP : PlanR w p v0 v1 v2) :
    Calls Tryz.prog 24 #[.agg (t.cs vl).toArray, .agg (f.cs u0 u1 u2).toArray, vo, .agg (p.cs v0 v1 v2).toArray] w fun e w' => e = .returned (.int .i64 (Ec.err t f l p)) ∧ Ext w w' := by
  refine Calls_of_Run (args := [.agg (t.cs vl).toArray, .agg (f.cs u0 u1 u2).toArray, vo, .agg (p.cs v0 v1 v2).toArray]) (n := 24) (rs := [.tmp 8]) Tryz.func24 rfl rfl rfl (by simp) ?_
  (repeat with_reducible first | refine js ?_ | refine ja ?_ | refine jw KL24 [] TF24 fun _ => ?_)
  refine SemW_box fun pt w1 h1 => SemW_box fun pf w2 h2 => SemW_box fun pp w3 h3 => ?_
  have x3 := h1.ext.trans (h2.ext.trans h3.ext)
  have t3 : AtN w3 pt 0 (t.cs vl) := (h1.at_.ext (h2.ext.trans h3.ext)).n
  have f3 : AtN w3 pf 0 (f.cs u0 u1 u2) := (h2.at_.ext h3.ext).n
  have p3 : AtN w3 pp 0 (p.cs v0 v1 v2) := h3.at_.n
  simp only [TimeD.cs, TariffD.cs, PlanD.cs, AtN, KS, Nat.reduceAdd, Nat.reduceMul, Nat.reduceEqDiff, ↓reduceIte, UT] at t3 f3 p3
  (repeat with_reducible first | refine js ?_ | refine ja ?_ | refine jw KL24 [] (aa TF24 (aa t3 (aa f3 p3))) fun _ => ?_)
  refine rpchkW rfl (hl.ext x3) (hT.ext x3) (ho.ext x3) (hP.ext x3) fun w4 x4 => ?_
  have y4 := x3.trans x4
  have he : Ec.err t f l p = if (Pl.check t f l 1099511627776 p).2 ≠ 0 then (Pl.check t f l 1099511627776 p).2 else if (Pl.check t f l 1099511627776 p).1 then 0 else 220 := rfl
  generalize Pl.check t f l 1099511627776 p = r at *
  obtain ⟨b, c⟩ := r
  simp only at he
  (repeat with_reducible first | refine js ?_ | refine ja ?_ | refine jw KL24 [] TF24 fun _ => ?_)
  refine Run_condS (fun _ => rfl) (fun h => ?_) (fun h => ?_)
  · (repeat with_reducible first | refine js ?_ | refine ja ?_ | refine jw KL24 [] TF24 fun _ => ?_)
    refine Run_ret ?_
    simp at h
    simp [Rets, RetM, resV, fnd, oneOr, he, h, y4]
  · simp at h
    subst h
    (repeat with_reducible first | refine js ?_ | refine ja ?_ | refine jw KL24 [] TF24 fun _ => ?_)
    cases b
    · refine Run_condS (fun _ => rfl) (fun _ => ?_) (fun h => by cases h)
      (repeat with_reducible first | refine js ?_ | refine ja ?_ | refine jw KL24 [] TF24 fun _ => ?_)
      refine Run_ret ?_
      simp [Rets, RetM, resV, fnd, oneOr, he, y4]
    · refine Run_condS (fun _ => rfl) (fun h => by cases h) (fun _ => ?_)
      (repeat with_reducible first | refine js ?_ | refine ja ?_ | refine jw KL24 [] TF24 fun _ => ?_)
      refine Run_ret ?_
      simp [Rets, RetM, resV, fnd, oneOr, he, y4]
theorem rerrW {vl u0 u1 u2 vo v0 v1 v2 : Value} {t : TimeD} {f : TariffD} {l : List OrderD} {p : PlanD} {w : World} {K : Value → World → Prop} (hl : Sl w vl t.Lines) (hT : TarR w f u0 u1 u2) (ho : Sl w vo l) (hP : PlanR w p v0 v1 v2)
    (hK : ∀ w', Ext w w' → K (.int .i64 (Ec.err t f l p)) w') : CallW Tryz.prog (.func (.func 24) #[] #[]) [.agg #[.int .i64 t.Offices, vl], .agg #[u0, u1, u2], vo, .agg #[v0, v1, v2]] w K :=
  CallW_pure call24 (rfError39 vl u0 u1 u2 vo v0 v1 v2 t f l p w hl hT ho hP) hK
/-- the cells of the line of a run -/
structure LineC (w : World) (vl : Value) (t : TimeD) (p : PlanD) (run : Int) (x : LineD) (l0 l1 l2 l3 : Value) : Prop where
  r : run.toNat < p.Runs.length
  r0 : 0 ≤ run
  n : p.Runs[run.toNat].Line.toNat < t.Lines.length
  n0 : 0 ≤ p.Runs[run.toNat].Line
  a : At w ((slAt vl).add (p.Runs[run.toNat].Line.toNat * 6)) (x.cs l0 l1 l2 l3)
  l : LineR w x l0 l1 l2 l3
theorem LineC.ext {w w' : World} {vl : Value} {t : TimeD} {p : PlanD} {run : Int} {x : LineD} {l0 l1 l2 l3 : Value} (h : LineC w vl t p run x l0 l1 l2 l3) (e : Ext w w') : LineC w' vl t p run x l0 l1 l2 l3 := ⟨h.r, h.r0, h.n, h.n0, h.a.ext e, h.l.ext e⟩
theorem lineC {w : World} {vl : Value} {t : TimeD} {f : TariffD} {l : List OrderD} {p : PlanD} (hl : Sl w vl t.Lines) (h : Ec.Ok t f l p) {q : Int} (h0 : 0 ≤ q) (h1 : q < p.Runs.length) : ∃ l0 l1 l2 l3, LineC w vl t p q (Ec.lineP t p q) l0 l1 l2 l3 := by
  obtain ⟨hr, hn, hL, hle, _⟩ := line_at h h0 h1
  obtain ⟨l0, l1, l2, l3, _, a2, hR⟩ := hl.line hn
  rw [← hle] at a2 hR
  exact ⟨l0, l1, l2, l3, hr, h0, hn, hL.1, a2, hR⟩
end Go.Proofs.YtoadfmgnpmcbfaaGreat
