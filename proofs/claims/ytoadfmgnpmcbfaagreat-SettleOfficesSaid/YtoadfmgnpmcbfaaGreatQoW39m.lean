import Derived.Test.YtoadfmgnpmcbfaaGreatQoW22f
import Derived.Test.YtoadfmgnpmcbfaaGreatQoGp
import Derived.Test.YtoadfmgnpmcbfaaGreatQoFacts
import Derived.Test.YtoadfmgnpmcbfaaGreatQoGa
import Derived.Test.YtoadfmgnpmcbfaaGreatQoGb
import Derived.Test.YtoadfmgnpmcbfaaGreatQoGe
/- W39a, W39b, W39c, joined. -/
/- Chapter 39: check. -/
namespace Go.Proofs.YtoadfmgnpmcbfaaGreat
open Go Go.Fk
set_option linter.unusedSimpArgs false
set_option linter.unusedVariables false
set_option maxRecDepth 100000
theorem pchkW {vl u0 u1 u2 vo v0 v1 v2 : Value} {t : TimeD} {f : TariffD} {l : List OrderD} {covers : Int} {p : PlanD} {w : World} {K : Value → World → Prop} {r : Bool × Int} (h : Pl.check t f l covers p = r) (hl : Sl w vl t.Lines) (hT : TarR w f u0 u1 u2) (ho : Sl w vo l) (hP : PlanR w p v0 v1 v2)
    (hK : ∀ w', Ext w w' → K (.tuple #[.bool r.1, .int .i64 r.2]) w') : CallW Tryz.prog (.func (.func 23) #[] #[]) [.agg #[.int .i64 t.Offices, vl], .agg #[u0, u1, u2], vo, .int .i64 covers, .agg #[v0, v1, v2]] w K := by
  subst h; exact CallW_pure call23 (plCheckP vl u0 u1 u2 vo v0 v1 v2 t f l covers p w hl hT ho hP) hK
theorem esCheck (vl u0 u1 u2 vo v0 v1 v2 : Value) (t : TimeD) (f : TariffD) (l : List OrderD) (p : PlanD) (w : World) (hl : Sl w vl t.Lines) (hT : TarR w f u0 u1 u2) (ho : Sl w vo l) (hP : PlanR w p v0 v1 v2) :
    Calls Tryz.prog 46 #[.agg (t.cs vl).toArray, .agg (f.cs u0 u1 u2).toArray, vo, .agg (p.cs v0 v1 v2).toArray] w fun e w' => e = .returned (.int .i64 (Ec.err t f l p)) ∧ Ext w w' := by
  refine Calls_of_Run (args := [.agg (t.cs vl).toArray, .agg (f.cs u0 u1 u2).toArray, vo, .agg (p.cs v0 v1 v2).toArray]) (n := 26) (rs := [.tmp 8]) Tryz.func46 rfl rfl rfl (by simp) ?_
  (repeat with_reducible first | refine js ?_ | refine ja ?_ | refine jw KL46 [] TF46 fun _ => ?_)
  refine SemW_box fun pt w1 h1 => SemW_box fun pf w2 h2 => SemW_box fun pp w3 h3 => ?_
  have x3 := h1.ext.trans (h2.ext.trans h3.ext)
  have t3 : AtN w3 pt 0 (t.cs vl) := (h1.at_.ext (h2.ext.trans h3.ext)).n
  have f3 : AtN w3 pf 0 (f.cs u0 u1 u2) := (h2.at_.ext h3.ext).n
  have p3 : AtN w3 pp 0 (p.cs v0 v1 v2) := h3.at_.n
  simp only [TimeD.cs, TariffD.cs, PlanD.cs, AtN, KS, Nat.reduceAdd, Nat.reduceMul, Nat.reduceEqDiff, ↓reduceIte, UT] at t3 f3 p3
  (repeat with_reducible first | refine js ?_ | refine ja ?_ | refine jw KL46 [] (aa TF46 (aa t3 (aa f3 p3))) fun _ => ?_)
  refine pchkW rfl (hl.ext x3) (hT.ext x3) (ho.ext x3) (hP.ext x3) fun w4 x4 => ?_
  have y4 := x3.trans x4
  have he : Ec.err t f l p = if (Pl.check t f l 1099511627776 p).2 ≠ 0 then (Pl.check t f l 1099511627776 p).2 else if (Pl.check t f l 1099511627776 p).1 then 0 else 220 := rfl
  generalize Pl.check t f l 1099511627776 p = r at *
  obtain ⟨b, c⟩ := r
  simp only at he
  (repeat with_reducible first | refine js ?_ | refine ja ?_ | refine jw KL46 [] (aa TF46 KX) fun _ => ?_)
  by_cases hc : c = 0
  · subst hc
    cases b
    · (repeat with_reducible first | refine js ?_ | refine ja ?_ | refine jw KL46 [] (aa TF46 (aa @beq_self_eq_true.{0} KX)) fun _ => ?_)
      refine Run_condS (fun _ => rfl) (fun _ => ?_) (fun h => by simp at h)
      (repeat with_reducible first | refine js ?_ | refine ja ?_ | refine jw KL46 [] TF46 fun _ => ?_)
      refine Run_ret ?_
      simp [Rets, RetM, resV, fnd, oneOr, he, y4]
    · (repeat with_reducible first | refine js ?_ | refine ja ?_ | refine jw KL46 [] (aa TF46 (aa @beq_self_eq_true.{0} KX)) fun _ => ?_)
      refine Run_condS (fun _ => rfl) (fun h => by simp at h) (fun _ => ?_)
      (repeat with_reducible first | refine js ?_ | refine ja ?_ | refine jw KL46 [] TF46 fun _ => ?_)
      refine Run_ret ?_
      simp [Rets, RetM, resV, fnd, oneOr, he, y4]
  · have e0 : (c == 0) = false := by simp [hc]
    (repeat with_reducible first | refine js ?_ | refine ja ?_ | refine jw KL46 [] (aa TF46 (aa e0 KX)) fun _ => ?_)
    refine Run_condS (fun _ => rfl) (fun h => by simp at h) (fun _ => ?_)
    (repeat with_reducible first | refine js ?_ | refine ja ?_ | refine jw KL46 [] TF46 fun _ => ?_)
    refine Run_ret ?_
    simp [Rets, RetM, resV, fnd, oneOr, he, hc, y4]
end Go.Proofs.YtoadfmgnpmcbfaaGreat
/- Chapter 39: the book's move. -/
namespace Go.Proofs.YtoadfmgnpmcbfaaGreat
open Go Go.Fk
set_option linter.unusedSimpArgs false
set_option linter.unusedVariables false
set_option maxRecDepth 100000
/-- the book of a run: its cell, and what it holds -/
structure BkR (B : Nat) (w : World) (pb : Addr) (run : Int) (ms : List MoveD) : Prop where
  ex : ∃ v, Row w pb 87 [.int .i64 run, v] ∧ BufO (α := MoveD) 70 B w v ms
/-- blocks that the book's list does not lie in -/
def NotMv (B : Nat) (w : World) (k : Nat) : Prop := k < B ∨ ∀ c T q, w.heap[k]? = some (.cells c T q) → T ≠ 70
theorem bufO_notMv {B : Nat} {w : World} {v : Value} {ms : List MoveD} (h : BufO (α := MoveD) 70 B w v ms) {k : Nat} (hk : NotMv B w k) : some k ≠ v.ownBlock := by
  obtain ⟨css, hc, hl, hb⟩ := h.ex
  rcases hb with ⟨rfl, _⟩ | ⟨g, cap, cur, rfl, hbs, hg, _⟩
  · intro e; cases e
  · intro e
    have e : k = g := by simpa [Value.ownBlock] using e
    subst e
    rcases hk with hk | hk
    · omega
    · exact hk _ _ _ hg rfl
/-- a list of numbers beside the book's -/
theorem intsKeep {B B0 : Nat} {w w' : World} {v : Value} {xs : List Int} {pb : Addr} {T : TypeId} {vs : List Value} (h : BufO (α := Int) 3 B0 w v xs) (r : Row w pb T vs) (hT : T ≠ 3) (k : Keep (fun k => k ≠ pb.block ∧ NotMv B w k) w w') : BufO (α := Int) 3 B0 w' v xs := by
  have hne := h.ne r hT
  obtain ⟨css, hc, ho⟩ := h.ex
  refine ⟨css, hc.any, ownsRow_blk ho fun g hg => ?_⟩
  have hlt := (h.own_lt hg).2
  refine k.block g hlt ⟨fun e => hne (by rw [hg, e]), .inr fun c T' q h' => ?_⟩
  obtain ⟨hl, hb⟩ := ho
  rcases hb with ⟨rfl, _⟩ | ⟨g', cap, cur, rfl, hbs, hg', _⟩
  · cases hg
  · have e : g' = g := by simpa [Value.ownBlock] using hg
    subst e
    rw [hg'] at h'
    injection h' with h'
    injection h' with _ h2
    rw [← h2]; decide
def MoveD.I (m : MoveD) : Prop := I64 m.No ∧ I64 m.From ∧ I64 m.To ∧ I64 m.Amount ∧ I64 m.Why ∧ I64 m.Run
theorem bkMove (pb : Addr) (run a b c d : Int) (ms : List MoveD) (B : Nat) (w : World) (hB : BkR B w pb run ms) (hb : pb.block < B) (hbase : B ≤ w.heap.size) (hm : MoveD.I ⟨ms.length, a, b, c, d, run⟩) (hl : ms.length ≤ 1000000) :
    Calls Tryz.prog 47 #[.pointer (some pb), .int .i64 a, .int .i64 b, .int .i64 c, .int .i64 d] w fun e w' => e = .returned (.tuple #[]) ∧ BkR B w' pb run (ms ++ [⟨ms.length, a, b, c, d, run⟩]) ∧ Keep (fun k => k ≠ pb.block ∧ NotMv B w k) w w' := by
  obtain ⟨v, hr, hv⟩ := hB.ex
  have hs := hv.isS
  refine Calls_of_Run (args := [.pointer (some pb), .int .i64 a, .int .i64 b, .int .i64 c, .int .i64 d]) (n := 33) (rs := []) Tryz.func47 rfl rfl rfl (by simp) ?_
  let S : Nat → Prop := fun k => some k ≠ v.ownBlock
  (repeat with_reducible first | refine jq ?_ | refine jk ?_ | refine jc ?_ | refine jl ?_ | refine jb ?_ | refine jo ?_ | refine ji ?_ | refine jx rfl ?_)
  refine Run_ef S [23] [(4, [23]), (8, [23]), (17, [23])] (id := 0) KL47 (.first 0 (.first 1 (.first 2 (.first 3 (.first 4 (.first 5 (.first 6 (.first 7 (.first 8 (.first 9 (.first 10 (.first 11 (.first 12 (.first 13 (.first 14 (.first 15 (.first 16 (.first 17 (.first 18 (.alt 19 (.alt 20 (.first 21 (.first 22 (.alt 23 (.free .done) .stop))) .stop) .stop)))))))))))))))))))) mixed (by kernel_rfl) (by kernel_rfl) fun w1 x1 z1 => ?_
  have hr1 := hr.ext x1
  have g1 := hr1.n
  simp only [AtN, KS, Nat.reduceAdd, Nat.reduceMul, Nat.reduceEqDiff, ↓reduceIte, UT] at g1
  (try simp (maxSteps := 5000000) only [KS, Nat.reduceAdd, Nat.reduceMul, Nat.reduceEqDiff, ↓reduceIte, forall_const, Int.cast_ofNat_Int, Int.reduceToNat, List.take_succ_cons, List.take_zero, List.drop_succ_cons, List.drop_zero, TF47, KL47, ef, qopS, putL, g1, hs.1, hs.2]); (try simp (disch := omega) only [wrapI, tmodI, tdivI])
  have hne : S pb.block := hv.ne hr (by decide)
  have b1 := z1
  have hv1 := hv.keep (Keep.of_ext (S := fun _ => True) x1) fun _ _ _ => trivial
  refine ⟨hne, hne, hne, .agg (⟨ms.length, a, b, c, d, run⟩ : MoveD).cs.toArray, fun w' => by kernel_rfl, Keep.refl _ _, ?_⟩
  refine (SemW.and (SemW_append1FO (α := MoveD) (X := .agg (⟨ms.length, a, b, c, d, run⟩ : MoveD).cs.toArray) (x := ⟨ms.length, a, b, c, d, run⟩) Tryz.underlying35 ti70 rfl (by decide) hv1 (by omega) ⟨rfl, hm⟩ (by simp only [maxLen]; omega) fun s v' w3 b3 k3 => ⟨k3, ?_⟩) (SemW_build1 Tryz.underlying35 ti70 rfl rfl (by decide))).mono fun s w2 h => ⟨Keep.of_ext h.2, h.1⟩
  have r3 := hr1.keep k3 hne
  have hs3 := b3.isS
  refine SemW_setAt (i := 1) (by rw [cells35]) r3 (by simp) (isS_cells hs3.1) (isS_o hs3.1) fun w4 r4 k4 z4 => ?_
  have z3 := k3.size
  refine Run_nil ?_
  simp only [Rets, RetM, resV, fnd, oneOr, ↓reduceIte]
  refine ⟨trivial, ⟨v', r4, b3.keep k4 fun g hg _ => by show g ≠ pb.block; omega⟩, ?_⟩
  refine (Keep.of_ext x1).trans ((k3.mono fun k _ hk => bufO_notMv hv hk.2).trans (k4.mono fun k _ hk => hk.1))
end Go.Proofs.YtoadfmgnpmcbfaaGreat
/- Chapter 39: Post. -/
namespace Go.Proofs.YtoadfmgnpmcbfaaGreat
open Go Go.Fk
set_option linter.unusedSimpArgs false
set_option linter.unusedVariables false
set_option maxRecDepth 100000
/-- a list of moves and an error -/
def MvR (w : World) (r : List MoveD × Int) (e : Ending) (w' : World) : Prop := ∃ v, e = .returned (.tuple #[v, .int .i64 r.2]) ∧ Ext w w' ∧ Sl w' v r.1
/-- the list is the call's own besides -/
def MvRO (w : World) (r : List MoveD × Int) (e : Ending) (w' : World) : Prop := ∃ v, e = .returned (.tuple #[v, .int .i64 r.2]) ∧ Ext w w' ∧ Sl w' v r.1 ∧ BufO (α := MoveD) 70 w.heap.size w' v r.1
theorem MvRO.r {w : World} {r : List MoveD × Int} {e : Ending} {w' : World} (h : MvRO w r e w') : MvR w r e w' := by
  obtain ⟨v, h1, h2, h3, _⟩ := h
  exact ⟨v, h1, h2, h3⟩
theorem eschkW {vl u0 u1 u2 vo v0 v1 v2 : Value} {t : TimeD} {f : TariffD} {l : List OrderD} {p : PlanD} {w : World} {K : Value → World → Prop} (hl : Sl w vl t.Lines) (hT : TarR w f u0 u1 u2) (ho : Sl w vo l) (hP : PlanR w p v0 v1 v2)
    (hK : ∀ w', Ext w w' → K (.int .i64 (Ec.err t f l p)) w') : CallW Tryz.prog (.func (.func 46) #[] #[]) [.agg #[.int .i64 t.Offices, vl], .agg #[u0, u1, u2], vo, .agg #[v0, v1, v2]] w K :=
  CallW_pure call46 (esCheck vl u0 u1 u2 vo v0 v1 v2 t f l p w hl hT ho hP) hK
/-- the line of a run of a right plan -/
theorem line_at {t : TimeD} {f : TariffD} {l : List OrderD} {p : PlanD} (h : Ec.Ok t f l p) {q : Int} (h0 : 0 ≤ q) (h1 : q < p.Runs.length) :
    ∃ hr : q.toNat < p.Runs.length, ∃ hl : p.Runs[q.toNat].Line.toNat < t.Lines.length, (0 ≤ p.Runs[q.toNat].Line ∧ p.Runs[q.toNat].Line < t.Lines.length) ∧ Ec.lineP t p q = t.Lines[p.Runs[q.toNat].Line.toNat] ∧ Tt.LOk (Ec.lineP t p q) t.Offices := by
  have hr : q.toNat < p.Runs.length := by omega
  have e : p.Runs.getD q.toNat default = p.Runs[q.toNat] := by simp [List.getD_eq_getElem?_getD, hr]
  have h2 := h.r q.toNat hr
  simp only [Pl.runP, Bool.and_eq_true] at h2
  have h3 := isRunL h2.1
  rw [e] at h3
  have hl : p.Runs[q.toNat].Line.toNat < t.Lines.length := by omega
  refine ⟨hr, hl, ⟨h3.1, h3.2.1⟩, ?_, ?_⟩
  · unfold Ec.lineP Pl.lineR
    rw [e]; simp [List.getD_eq_getElem?_getD, hl]
  · unfold Ec.lineP; rw [e]; exact h3.2.2
set_option maxHeartbeats 4000000 in
theorem esPostO (vl u0 u1 u2 vo v0 v1 v2 : Value) (t : TimeD) (f : TariffD) (l : List OrderD) (p : PlanD) (w : World) (hl : Sl w vl t.Lines) (hT : TarR w f u0 u1 u2) (ho : Sl w vo l) (hP : PlanR w p v0 v1 v2) :
    Calls Tryz.prog 18 #[.agg (t.cs vl).toArray, .agg (f.cs u0 u1 u2).toArray, vo, .agg (p.cs v0 v1 v2).toArray] w (MvRO w (Ec.post t f l p)) := by
  refine Calls_of_Run (args := [.agg (t.cs vl).toArray, .agg (f.cs u0 u1 u2).toArray, vo, .agg (p.cs v0 v1 v2).toArray]) (n := 77) (rs := [.tmp 8, .tmp 9]) Tryz.func18 rfl rfl rfl (by simp) ?_
  (repeat with_reducible first | refine js ?_ | refine ja ?_ | refine jw KL18 [10] TF18 fun _ => ?_)
  refine SemW_box fun pt w1 h1 => SemW_box fun pf w2 h2 => SemW_box fun pp w3 h3 => ?_
  have x3 := h1.ext.trans (h2.ext.trans h3.ext)
  have T : ∀ w', Ext w3 w' → AtN w' pt 0 (t.cs vl) := fun w' x => (h1.at_.ext (h2.ext.trans (h3.ext.trans x))).n
  have F : ∀ w', Ext w3 w' → AtN w' pf 0 (f.cs u0 u1 u2) := fun w' x => (h2.at_.ext (h3.ext.trans x)).n
  have P : ∀ w', Ext w3 w' → AtN w' pp 0 (p.cs v0 v1 v2) := fun w' x => (h3.at_.ext x).n
  simp only [TimeD.cs, TariffD.cs, PlanD.cs, AtN, KS, Nat.reduceAdd, Nat.reduceMul, Nat.reduceEqDiff, ↓reduceIte, UT] at T F P
  have t3 := T w3 (Ext.refl _)
  have f3 := F w3 (Ext.refl _)
  have p3 := P w3 (Ext.refl _)
  (repeat with_reducible first | refine js ?_ | refine ja ?_ | refine jw KL18 [10] (aa TF18 (aa t3 (aa f3 p3))) fun _ => ?_)
  refine eschkW (hl.ext x3) (hT.ext x3) (ho.ext x3) (hP.ext x3) fun w4 x4 => ?_
  have y4 := x3.trans x4
  (repeat with_reducible first | refine js ?_ | refine ja ?_ | refine jw KL18 [10] TF18 fun _ => ?_)
  refine Run_condS (fun _ => rfl) (fun h => ?_) (fun h => ?_)
  · have hc : Ec.err t f l p ≠ 0 := by simpa using h
    (repeat with_reducible first | refine js ?_ | refine ja ?_ | refine jw KL18 [10] TF18 fun _ => ?_)
    refine Run_ret ?_
    simp [Rets, RetM, resV, fnd, oneOr, MvRO, Ec.post, hc, y4]
    exact ⟨Sl.nil _, BufO.nil⟩
  have hc : Ec.err t f l p = 0 := by simpa using h
  clear h
  have ok := Ec.err_ok hc
  have hres : Ec.post t f l p = (Ec.posts t f l p l.length, 0) := by unfold Ec.post; rw [if_neg (by simp [hc])]
  rw [hres]
  have hn64 := ok.o.n
  (repeat with_reducible first | refine js ?_ | refine ja ?_ | refine jw KL18 [10] TF18 fun _ => ?_)
  refine ⟨.agg #[.int .i64 0, .slice none 0 0], fun w' => by kernel_rfl, ?_⟩
  refine SemW_box fun pb w5 h5 => ?_
  have x5 := h5.ext
  have bpb := h5.blk
  have z5 := h5.size
  generalize hBB : w5.heap.size = B at *
  have hol := ho.len
  (repeat with_reducible first | refine js ?_ | refine ja ?_ | refine jw KL18 [10] (aa TF18 (aa ho.len ho.s)) fun _ => ?_)
  refine Run_loopV [12, 13, 14, 30, 31] (σ := Nat × Int) (fun q => [(30, some (.int .i64 q.1))]) (fun q w' => q.1 ≤ l.length ∧ BkR B w' pb q.2 (Ec.posts t f l p q.1) ∧ B ≤ w'.heap.size ∧ Ext w4 w') (fun q => l.length - q.1) (0, 0) (by simp [SubB, fnd]) ⟨by simp, ⟨_, h5.row, BufO.nil⟩, by omega, x5⟩ ?_
  rintro ⟨k, r0⟩ w6 ⟨hk, hB6, z6, x6⟩
  simp only at hk hB6
  have y6 := y4.trans x6
  (repeat with_reducible first | refine js ?_ | refine ja ?_ | refine jw KL18 [10] TF18 fun _ => ?_)
  refine Run_condS (fun _ => rfl) (fun h => ?_) (fun h => ?_)
  · simp at h
    have hkl := h
    obtain ⟨g, o1, o2, hO⟩ := (ho.ext y6).ord hkl
    have hone := hO.one
    obtain ⟨q0, q1, hlo, hpe, hcl, hcr⟩ := Ec.price_eq ok hkl
    have hkp : k < p.Of.length := by rw [ok.ol]; exact hkl
    have hgl : l.getD k default = l[k] := by simp [List.getD_eq_getElem?_getD, hkl]
    have hgo : p.Of.getD k 0 = p.Of[k] := by simp [List.getD_eq_getElem?_getD, hkp]
    have hpb := Ec.price_bd t f l p k
    have hpp : Ec.priceP t f l p k = (Tf.pri f l[k].Class (Ec.lineP t p p.Of[k]).Legs.length l[k].Crowd).1 := by unfold Ec.priceP; rw [hgl, hgo]
    have hsucc := Ec.posts_succ t f l p k
    have hpm : Ec.postM t f l p k = ⟨(k : Int), 51 + k, 2, Ec.priceP t f l p k, 1, p.Of[k]⟩ := by unfold Ec.postM; rw [hgo]
    have hplen := Ec.posts_len t f l p k
    rw [hgo] at q0 q1 hlo
    clear hpe
    obtain ⟨hrn, hln, hL, hle, _⟩ := line_at ok q0 q1
    generalize hqq : p.Of[k] = q at *
    generalize hoo : l[k] = o at *
    simp only [OrderD.cs, AtN, KS, Nat.reduceAdd, Nat.reduceMul, Nat.reduceEqDiff, ↓reduceIte, UT] at o1
    simp only [OrderD.cs] at hone
    (repeat with_reducible first | refine js ?_ | refine ja ?_ | refine jw KL18 [10] (aa TF18 (aa ho.s (aa ho.len o1))) fun _ => ?_)
    refine SemW_allocT ti58 fun po w7 h7 => ?_
    have b7 := h7.blk
    (repeat with_reducible first | refine js ?_ | refine ja ?_ | refine jw KL18 [10] TF18 fun _ => ?_)
    refine SemW_setW (by rw [cells58]; decide) (by rw [cells58]; rfl) h7.row (by rw [cells58]; rfl) (by simpa [Value.cells] using hone) fun w8 r8 k8 z8 => ?_
    have r8 : Row w8 po 58 (o.cs g) := by simpa [Value.cells, OrderD.cs] using r8
    have x8 : Ext w6 w8 := Keep.ext h7.ext k8 fun q hq => by omega
    have y8 := y6.trans x8
    obtain ⟨vb, rb, bb⟩ := hB6.ex
    have rb8 := rb.ext x8
    have bb8 := bb.keep (Keep.of_ext (S := fun _ => True) x8) fun _ _ _ => trivial
    have p8 := P w8 (x4.trans (x6.trans x8))
    obtain ⟨d1, d2, d3⟩ := (hP.o.ext y8).get hkp
    rw [hqq] at d1 d3
    (repeat with_reducible first | refine js ?_ | refine ja ?_ | refine jw KL18 [10] (aa TF18 (aa p8 (aa hP.o.s (aa hP.o.len (aa d1 d2))))) fun _ => ?_)
    refine SemW_set0 (by rw [cells3]) rb8 (by simp) rfl rfl fun w9 r9 k9 z9 => ?_
    have r9 : Row w9 pb 87 [.int .i64 q, vb] := r9
    have bb9 := bb8.keep k9 fun g hg _ => by show g ≠ pb.block; omega
    have x9 : Ext w4 w9 := Keep.ext (x6.trans x8) k9 fun k hk => by omega
    have y9 := y4.trans x9
    have zz9 : po.block ≠ pb.block := by omega
    have ro9 := r8.keep k9 zz9
    have g9 := ro9.n
    have gb9 := r9.n
    have t9 := T w9 (x4.trans x9)
    have f9 := F w9 (x4.trans x9)
    have p9 := P w9 (x4.trans x9)
    obtain ⟨e1, _⟩ := (hP.r.ext y9).runD hrn
    obtain ⟨l0, l1, l2, l3, a1, a2, hR⟩ := (hl.ext y9).line hln
    rw [← hle] at a1 hR
    generalize hxx : Ec.lineP t p q = x at *
    generalize hrr : p.Runs[q.toNat] = r at *
    simp only [OrderD.cs, RunD.cs, LineD.cs, AtN, KS, Nat.reduceAdd, Nat.reduceMul, Nat.reduceEqDiff, ↓reduceIte, UT] at g9 e1 a1 gb9
    (repeat with_reducible first | refine js ?_ | refine ja ?_ | refine jw KL18 [10] (aa TF18 (aa f9 (aa g9 (aa t9 (aa p9 (aa gb9 (aa hP.r.s (aa hP.r.len (aa e1 (aa hl.s (aa hl.len (aa a1 (aa hR.l.s (aa hR.l.len KX)))))))))))))) fun _ => ?_)
    refine ⟨_, PC_pure call32 fun w10 x10 => tfPriceW f u0 u1 u2 _ _ _ w10 (hT.ext (y9.trans x10)), ⟨by simp, by simp⟩, ⟨by simp, by simp⟩, fun w10 x10 => ?_⟩
    have r10 := r9.ext x10
    have bb10 := bb9.keep (Keep.of_ext (S := fun _ => True) x10) fun _ _ _ => trivial
    have hrs := hP.r.small
    have s9 := k9.size
    have s8 := x8.size
    have s10 := x10.size
    have hmI : MoveD.I ⟨((Ec.posts t f l p k).length : Nat), 51 + (k : Int), 2, (Tf.pri f o.Class x.Legs.length o.Crowd).1, 1, q⟩ := by
      rw [hplen, ← hpp]; simp only [MoveD.I, I64]; omega
    (repeat with_reducible first | refine js ?_ | refine ja ?_ | refine jw KL18 [10] TF18 fun _ => ?_)
    refine CallW_cl call47 (bkMove pb q (51 + k) 2 (Tf.pri f o.Class x.Legs.length o.Crowd).1 1 (Ec.posts t f l p k) B w10 ⟨vb, r10, bb10⟩ (by omega) (by omega) hmI (by omega)) fun e w11 ⟨he, hB11, k11⟩ => ⟨_, he, ?_⟩
    have hE : Ec.posts t f l p k ++ [⟨((Ec.posts t f l p k).length : Nat), 51 + (k : Int), 2, (Tf.pri f o.Class x.Legs.length o.Crowd).1, 1, q⟩] = Ec.posts t f l p (k + 1) := by rw [hsucc, hpm, hplen, hpp]
    rw [hE] at hB11
    have s11 := k11.size
    (repeat with_reducible first | refine js ?_ | refine ja ?_ | refine jw KL18 [10] TF18 fun _ => ?_)
    refine Run_lp ⟨(k + 1, q), ?_, ⟨by simp only; omega, hB11, by omega, Keep.ext (x9.trans x10) k11 fun k hk => ⟨by omega, .inl (by omega)⟩⟩, by simp only; omega⟩
    simp [SubB, fnd, strike, has]
  · simp at h
    obtain rfl : k = l.length := by omega
    obtain ⟨vb, rb, bb⟩ := hB6.ex
    have g6 := rb.n
    simp only [AtN, KS, Nat.reduceAdd, Nat.reduceMul, Nat.reduceEqDiff, ↓reduceIte, UT] at g6
    (repeat with_reducible first | refine js ?_ | refine ja ?_ | refine jw KL18 [10] (aa TF18 g6) fun _ => ?_)
    refine Run_ret ?_
    simp [Rets, RetM, resV, fnd, oneOr, MvRO]
    have s4 := y4.size
    exact ⟨y6, bb.sl (by rw [Ec.posts_len]; omega), bb.mono (by omega)⟩
end Go.Proofs.YtoadfmgnpmcbfaaGreat
