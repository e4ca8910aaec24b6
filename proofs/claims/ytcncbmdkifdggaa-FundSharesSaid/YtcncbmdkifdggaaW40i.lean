/- Chapter 40: the start; the examples. -/
import Derived.Test.YtcncbmdkifdggaaW40h
import Derived.Test.YtcncbmdkifdggaaFq
namespace Go.Proofs.Ytcncbmdkifdggaa
open Go Go.Fk
set_option linter.unusedSimpArgs false
set_option linter.unusedVariables false
set_option maxRecDepth 100000

theorem covW {vl v0 v1 v2 u0 u1 u2 : Value} {t : TimeD} {f : TariffD} {p : PlanD} {run handed : Int} {r : List MoveD × Int} {w : World} {K : Value → World → Prop} (h : Fd.cover t f p run handed = r) (hl : Sl w vl t.Lines) (hT : TarR w f u0 u1 u2) (hP : PlanR w p v0 v1 v2) (hr : I64 run)
    (hK : ∀ v w', Ext w w' → Sl w' v r.1 → K (.tuple #[v, .int .i64 r.2]) w') : CallW Try.prog (.func (.func 12) #[] #[]) [.agg #[.int .i64 t.Offices, vl], .agg #[u0, u1, u2], .agg #[v0, v1, v2], .int .i64 run, .int .i64 handed] w K := by
  subst h; exact CallW_gen call12 (fdCover vl v0 v1 v2 u0 u1 u2 t f p run handed w hl hT hP hr) fun e w' ⟨v, he, x, hs⟩ => ⟨_, he, hK v w' x hs⟩
theorem rcovW {vl v0 v1 v2 u0 u1 u2 : Value} {t : TimeD} {f : TariffD} {p : PlanD} {run handed : Int} {r : List MoveD × Int} {w : World} {K : Value → World → Prop} (h : Fd.cover t f p run handed = r) (hl : Sl w vl t.Lines) (hT : TarR w f u0 u1 u2) (hP : PlanR w p v0 v1 v2) (hr : I64 run)
    (hK : ∀ v w', Ext w w' → Sl w' v r.1 → K (.tuple #[v, .int .i64 r.2]) w') : CallW Try.prog (.func (.func 13) #[] #[]) [.agg #[.int .i64 t.Offices, vl], .agg #[u0, u1, u2], .agg #[v0, v1, v2], .int .i64 run, .int .i64 handed] w K := by
  subst h; exact CallW_gen call13 (rfCover vl v0 v1 v2 u0 u1 u2 t f p run handed w hl hT hP hr) fun e w' ⟨v, he, x, hs⟩ => ⟨_, he, hK v w' x hs⟩
theorem shaW {a s : Int} {r : List MoveD × Int} {w : World} {K : Value → World → Prop} (h : Fd.share a s = r) (hK : ∀ v w', Ext w w' → Sl w' v r.1 → K (.tuple #[v, .int .i64 r.2]) w') : CallW Try.prog (.func (.func 15) #[] #[]) [.int .i64 a, .int .i64 s] w K := by
  subst h; exact CallW_gen call15 (fdShare a s w) fun e w' ⟨v, he, x, hs⟩ => ⟨_, he, hK v w' x hs⟩
theorem rshaW {a s : Int} {r : List MoveD × Int} {w : World} {K : Value → World → Prop} (h : Fd.share a s = r) (hK : ∀ v w', Ext w w' → Sl w' v r.1 → K (.tuple #[v, .int .i64 r.2]) w') : CallW Try.prog (.func (.func 16) #[] #[]) [.int .i64 a, .int .i64 s] w K := by
  subst h; exact CallW_gen call16 (rfShare a s w) fun e w' ⟨v, he, x, hs⟩ => ⟨_, he, hK v w' x hs⟩
theorem sameW {va vb : Value} {l m : List MoveD} {b : Bool} {w : World} {K : Value → World → Prop} (h : decide (l = m) = b) (hx : Sl w va l) (hy : Sl w vb m) (hK : ∀ w', Ext w w' → K (.bool b) w') : CallW Try.prog (.func (.func 14) #[] #[]) [va, vb] w K := by
  subst h; exact CallW_pure call14 (rfSame va vb l m w hx hy) hK
theorem movesB {w : World} {K : Value → World → Prop} (vs : List Value) (xs : List MoveD) {parts : Array (Nat × Value)} {n : Nat} (hp : parts.toList = vs.zipIdx.map fun p => (p.2, p.1)) (hn : n = vs.length) (hv : vs = xs.map fun m => .agg m.cs.toArray) (hI : ∀ m ∈ xs, MI m) (hs : n ≤ 1000)
    (hK : ∀ v w', Sl w' v xs → Ext w w' → K v w') : SemW Try.prog (Instr.buildSlice 37 n parts) w K :=
  SemW_buildF (α := MoveD) (W := w) Try.underlying37 ti45 rfl (by decide) (Ext.refl _) vs xs hp hn (by subst hv; exact ⟨by simp, fun i h1 h2 => by simp [Value.cells]; exact ⟨rfl, hI _ (List.getElem_mem h2)⟩⟩) (by show n * 6 ≤ _; omega) fun p w' _ hs hx => hK _ w' hs hx

theorem lwStart (n : Int) (w : World) (hn : I64 n) :
    Calls Try.prog 18 #[.int .i64 n] w fun e w' => ∃ v, e = .returned v ∧ Ext w w' ∧ Sl w' v (zeros.set 1 n) := by
  refine Calls_of_Run (args := [.int .i64 n]) (n := 9) (rs := [.tmp 2]) Try.func18 rfl rfl rfl (by simp) ?_
  (repeat first | with_reducible first | refine jq ?_ | refine jk ?_ | refine jc ?_ | refine jl ?_ | refine jb ?_ | refine jo ?_ | refine ji ?_ | refine jx rfl ?_ | refine And.intro (by first | assumption | omega | (intros; omega)) ?_ | ((first | refine jR KL18 (by kernel_rfl) fun _ => ?_ | skip); simp only [KS, Nat.reduceAdd, Nat.reduceMul, Nat.reduceEqDiff, ↓reduceIte, forall_const, Int.cast_ofNat_Int, Int.reduceToNat, TF18, KL18]; (try simp (disch := omega) only [wrapI, tmodI, tdivI]); (fail_if_success (with_reducible show False))))
  refine SemW_makeC (n := 115) Try.underlying25 ti3 (by decide) (by decide) (by decide) fun p w1 hN => ?_
  have hm : (madeCells (Value.int .i64 0).cells (115 * 1)).toList = ints zeros := by kernel_rfl
  rw [hm] at hN
  have hz : zeros.length = 115 := by simp [zeros]
  (repeat first | with_reducible first | refine jq ?_ | refine jk ?_ | refine jc ?_ | refine jl ?_ | refine jb ?_ | refine jo ?_ | refine ji ?_ | refine jx rfl ?_ | refine And.intro (by first | assumption | omega | (intros; omega)) ?_ | ((first | refine jR KL18 (by kernel_rfl) fun _ => ?_ | skip); simp only [KS, Nat.reduceAdd, Nat.reduceMul, Nat.reduceEqDiff, ↓reduceIte, forall_const, Int.cast_ofNat_Int, Int.reduceToNat, TF18, KL18]; (try simp (disch := omega) only [wrapI, tmodI, tdivI]); (fail_if_success (with_reducible show False))))
  refine SemW_setAt cells3 hN.row (by simp [hz]) rfl rfl fun w2 r2 k2 s2 => ?_
  rw [ints_set] at r2
  (repeat first | with_reducible first | refine jq ?_ | refine jk ?_ | refine jc ?_ | refine jl ?_ | refine jb ?_ | refine jo ?_ | refine ji ?_ | refine jx rfl ?_ | refine And.intro (by first | assumption | omega | (intros; omega)) ?_ | ((first | refine jR KL18 (by kernel_rfl) fun _ => ?_ | skip); simp only [KS, Nat.reduceAdd, Nat.reduceMul, Nat.reduceEqDiff, ↓reduceIte, forall_const, Int.cast_ofNat_Int, Int.reduceToNat, TF18, KL18]; (try simp (disch := omega) only [wrapI, tmodI, tdivI]); (fail_if_success (with_reducible show False))))
  refine Run_ret ?_
  simp [Rets, RetM, resV, fnd, oneOr]
  have hb := hN.blk
  refine ⟨Keep.ext hN.ext k2 fun k hk => by omega, ?_⟩
  have := rowInts r2 (fun x hx => by
    rcases List.mem_or_eq_of_mem_set hx with hx | rfl
    · have : x = 0 := by simpa [zeros] using hx
      subst this; simp [I64]
    · exact hn) (by simp [hz])
  simpa [hz] using this
def exC : List MoveD := [⟨0, 1, 5, 21, 5, 0⟩]
def exS7 : List MoveD := [⟨0, 1, 51, 3, 6, -1⟩, ⟨1, 1, 52, 2, 6, -1⟩, ⟨2, 1, 53, 2, 6, -1⟩]
def exS1 : List MoveD := [⟨0, 1, 51, 1, 6, -1⟩, ⟨1, 1, 52, 0, 6, -1⟩]
def exF1 : TariffD := ⟨[0], [1], []⟩
def exP0 : PlanD := ⟨[], [], []⟩
theorem xc1 : Fd.cost exT exF exP 0 = (21, 0) := by kernel_rfl
theorem xc2 : Fd.cover exT exF exP 0 1 = (exC, 0) := by kernel_rfl
theorem xc3 : Fd.cover exT exF exP 0 3 = ([], 1) := by kernel_rfl
theorem xc4 : Fd.cost exT exF exP0 0 = (0, 1) := by kernel_rfl
theorem xs7 : Fd.share 7 3 = (exS7, 0) := by kernel_rfl
theorem xs0 : Fd.share 0 0 = ([], 1) := by kernel_rfl
theorem xs1 : Fd.share 1 2 = (exS1, 0) := by kernel_rfl
theorem xc5 : Fd.cost exT exF1 exP 0 = (0, 210) := by kernel_rfl
set_option maxHeartbeats 4000000 in
theorem lawSane (w : World) : Calls Try.prog 8 #[] w fun e w' => e = .returned (.bool true) ∧ Ext w w' := by
  refine Calls_of_Run (args := []) (n := 170) (rs := [.tmp 0]) Try.func8 rfl rfl rfl (by simp) ?_
  (repeat first | with_reducible first | refine jq ?_ | refine jk ?_ | refine jc ?_ | refine jl ?_ | refine jb ?_ | refine jo ?_ | refine ji ?_ | refine jx rfl ?_ | refine And.intro (by first | assumption | omega | (intros; omega)) ?_ | ((first | refine jR KL8 (by kernel_rfl) fun _ => ?_ | skip); simp only [KS, Nat.reduceAdd, Nat.reduceMul, Nat.reduceEqDiff, ↓reduceIte, forall_const, Int.cast_ofNat_Int, Int.reduceToNat, TF8, KL8, List.take_succ_cons, List.take_zero, List.drop_succ_cons, List.drop_zero]; (try simp (disch := omega) only [wrapI, tmodI, tdivI]); (fail_if_success (with_reducible show False))))
  refine CallW_gen call20 (lawWorld w) fun e w1 ⟨vl, u0, u1, u2, v0, v1, v2, he, sl, hT, hP, x1⟩ => ⟨_, he, ?_⟩
  have il := isS_o sl.s
  (repeat first | with_reducible first | refine jq ?_ | refine jk ?_ | refine jc ?_ | refine jl ?_ | refine jb ?_ | refine jo ?_ | refine ji ?_ | refine jx rfl ?_ | refine And.intro (by first | assumption | omega | (intros; omega)) ?_ | ((first | refine jR KL8 (by kernel_rfl) fun _ => ?_ | skip); simp only [KS, Nat.reduceAdd, Nat.reduceMul, Nat.reduceEqDiff, ↓reduceIte, forall_const, Int.cast_ofNat_Int, Int.reduceToNat, TF8, KL8, List.take_succ_cons, List.take_zero, List.drop_succ_cons, List.drop_zero]; (try simp (disch := omega) only [wrapI, tmodI, tdivI]); (fail_if_success (with_reducible show False))))
  refine SemW_allocT ti24 fun pt w2 h2 => SemW_allocT ti28 fun pf w3 h3 => SemW_allocT ti31 fun pp w4 h4 => ?_
  have b2 := h2.blk
  have b3 := h3.blk
  have b4 := h4.blk
  have z2 := h2.size
  have z3 := h3.size
  have z4 := h4.size
  refine SemW_setW (by rw [cells24]; decide) (by rw [cells24]; rfl) (h2.row.ext (h3.ext.trans h4.ext)) (by rw [cells24]; rfl) (by simp [Value.cells, TimeD.cs, il]; rfl) fun w5 r5 k5 s5 => ?_
  have g3 := (h3.row.ext h4.ext).keep k5 (by show pf.block ≠ pt.block; omega)
  have g4 := h4.row.keep k5 (by show pp.block ≠ pt.block; omega)
  refine SemW_setW (by rw [cells28]; decide) (by rw [cells28]; rfl) g3 (by rw [cells28]; rfl) (by simp [Value.cells, TariffD.cs, isS_o hT.b.s, isS_o hT.l.s, isS_o hT.t.s]) fun w6 r6 k6 s6 => ?_
  have g5 := r5.keep k6 (by show pt.block ≠ pf.block; omega)
  have g4 := g4.keep k6 (by show pp.block ≠ pf.block; omega)
  refine SemW_setW (by rw [cells31]; decide) (by rw [cells31]; rfl) g4 (by rw [cells31]; rfl) (by simp [Value.cells, PlanD.cs, isS_o hP.r.s, isS_o hP.o.s, isS_o hP.c.s]) fun w7 r7 k7 s7 => ?_
  have rt := g5.keep k7 (by show pt.block ≠ pp.block; omega)
  have rf := r6.keep k7 (by show pf.block ≠ pp.block; omega)
  have e7 : Ext w1 w7 := Keep.ext (Keep.ext (Keep.ext (h2.ext.trans (h3.ext.trans h4.ext)) k5 fun k hk => by omega) k6 fun k hk => by omega) k7 fun k hk => by omega
  have T : ∀ w', Ext w7 w' → AtN w' pt 0 (exT.cs vl) := fun w' x => ((rt.ext x).at_).n
  have F : ∀ w', Ext w7 w' → AtN w' pf 0 (exF.cs u0 u1 u2) := fun w' x => ((rf.ext x).at_).n
  have P : ∀ w', Ext w7 w' → AtN w' pp 0 (exP.cs v0 v1 v2) := fun w' x => ((r7.ext x).at_).n
  simp only [TimeD.cs, TariffD.cs, PlanD.cs, AtN, KS, Nat.reduceAdd, Nat.reduceMul, Nat.reduceEqDiff, ↓reduceIte, UT] at T F P
  have t7 := T _ (Ext.refl _)
  have f7 := F _ (Ext.refl _)
  have p7 := P _ (Ext.refl _)
  (repeat first | with_reducible first | refine jq ?_ | refine jk ?_ | refine jc ?_ | refine jl ?_ | refine jb ?_ | refine jo ?_ | refine ji ?_ | refine jx rfl ?_ | refine And.intro (by first | assumption | omega | (intros; omega)) ?_ | ((first | refine jR KL8 (by kernel_rfl) fun _ => ?_ | skip); simp only [KS, Nat.reduceAdd, Nat.reduceMul, Nat.reduceEqDiff, ↓reduceIte, forall_const, Int.cast_ofNat_Int, Int.reduceToNat, TF8, KL8, List.take_succ_cons, List.take_zero, List.drop_succ_cons, List.drop_zero, t7, f7, p7]; (try simp (disch := omega) only [wrapI, tmodI, tdivI]); (fail_if_success (with_reducible show False))))
  refine costW xc1 (sl.ext e7) (hT.ext e7) (hP.ext e7) fun w8 x8 => ?_
  have t8 := T _ x8
  have f8 := F _ x8
  have p8 := P _ x8
  (repeat first | with_reducible first | refine jq ?_ | refine jk ?_ | refine jc ?_ | refine jl ?_ | refine jb ?_ | refine jo ?_ | refine ji ?_ | refine jx rfl ?_ | refine And.intro (by first | assumption | omega | (intros; omega)) ?_ | ((first | refine jR KL8 (by kernel_rfl) fun _ => ?_ | skip); simp only [KS, Nat.reduceAdd, Nat.reduceMul, Nat.reduceEqDiff, ↓reduceIte, forall_const, Int.cast_ofNat_Int, Int.reduceToNat, TF8, KL8, List.take_succ_cons, List.take_zero, List.drop_succ_cons, List.drop_zero, t8, f8, p8]; (try simp (disch := omega) only [wrapI, tmodI, tdivI]); (fail_if_success (with_reducible show False))))
  have e8 := e7.trans x8
  refine covW xc2 (sl.ext e8) (hT.ext e8) (hP.ext e8) (by simp [I64]) fun vm w9 x9 sm => ?_
  have y9 := x8.trans x9
  have t9 := T _ y9
  have f9 := F _ y9
  have p9 := P _ y9
  (repeat first | with_reducible first | refine jq ?_ | refine jk ?_ | refine jc ?_ | refine jl ?_ | refine jb ?_ | refine jo ?_ | refine ji ?_ | refine jx rfl ?_ | refine And.intro (by first | assumption | omega | (intros; omega)) ?_ | ((first | refine jR KL8 (by kernel_rfl) fun _ => ?_ | skip); simp only [KS, Nat.reduceAdd, Nat.reduceMul, Nat.reduceEqDiff, ↓reduceIte, forall_const, Int.cast_ofNat_Int, Int.reduceToNat, TF8, KL8, List.take_succ_cons, List.take_zero, List.drop_succ_cons, List.drop_zero, t9, f9, p9]; (try simp (disch := omega) only [wrapI, tmodI, tdivI]); (fail_if_success (with_reducible show False))))
  have e9 := e7.trans y9
  refine covW xc3 (sl.ext e9) (hT.ext e9) (hP.ext e9) (by simp [I64]) fun vh w10 x10 sh => ?_
  have y10 := y9.trans x10
  have t10 := T _ y10
  have f10 := F _ y10
  (repeat first | with_reducible first | refine jq ?_ | refine jk ?_ | refine jc ?_ | refine jl ?_ | refine jb ?_ | refine jo ?_ | refine ji ?_ | refine jx rfl ?_ | refine And.intro (by first | assumption | omega | (intros; omega)) ?_ | ((first | refine jR KL8 (by kernel_rfl) fun _ => ?_ | skip); simp only [KS, Nat.reduceAdd, Nat.reduceMul, Nat.reduceEqDiff, ↓reduceIte, forall_const, Int.cast_ofNat_Int, Int.reduceToNat, TF8, KL8, List.take_succ_cons, List.take_zero, List.drop_succ_cons, List.drop_zero, t10, f10]; (try simp (disch := omega) only [wrapI, tmodI, tdivI]); (fail_if_success (with_reducible show False))))
  have e10 := e7.trans y10
  refine ⟨.agg #[.slice none 0 0, .slice none 0 0, .slice none 0 0], fun _ => by kernel_rfl, ?_⟩
  refine costW (p := exP0) xc4 (sl.ext e10) (hT.ext e10) ⟨Sl.nil _, Sl.nil _, Sl.nil _⟩ fun w11 x11 => ?_
  (repeat first | with_reducible first | refine jq ?_ | refine jk ?_ | refine jc ?_ | refine jl ?_ | refine jb ?_ | refine jo ?_ | refine ji ?_ | refine jx rfl ?_ | refine And.intro (by first | assumption | omega | (intros; omega)) ?_ | ((first | refine jR KL8 (by kernel_rfl) fun _ => ?_ | skip); simp only [KS, Nat.reduceAdd, Nat.reduceMul, Nat.reduceEqDiff, ↓reduceIte, forall_const, Int.cast_ofNat_Int, Int.reduceToNat, TF8, KL8, List.take_succ_cons, List.take_zero, List.drop_succ_cons, List.drop_zero]; (try simp (disch := omega) only [wrapI, tmodI, tdivI]); (fail_if_success (with_reducible show False))))
  refine shaW xs7 fun v7 w12 x12 q7 => ?_
  (repeat first | with_reducible first | refine jq ?_ | refine jk ?_ | refine jc ?_ | refine jl ?_ | refine jb ?_ | refine jo ?_ | refine ji ?_ | refine jx rfl ?_ | refine And.intro (by first | assumption | omega | (intros; omega)) ?_ | ((first | refine jR KL8 (by kernel_rfl) fun _ => ?_ | skip); simp only [KS, Nat.reduceAdd, Nat.reduceMul, Nat.reduceEqDiff, ↓reduceIte, forall_const, Int.cast_ofNat_Int, Int.reduceToNat, TF8, KL8, List.take_succ_cons, List.take_zero, List.drop_succ_cons, List.drop_zero]; (try simp (disch := omega) only [wrapI, tmodI, tdivI]); (fail_if_success (with_reducible show False))))
  refine shaW xs0 fun vk w13 x13 qk => ?_
  (repeat first | with_reducible first | refine jq ?_ | refine jk ?_ | refine jc ?_ | refine jl ?_ | refine jb ?_ | refine jo ?_ | refine ji ?_ | refine jx rfl ?_ | refine And.intro (by first | assumption | omega | (intros; omega)) ?_ | ((first | refine jR KL8 (by kernel_rfl) fun _ => ?_ | skip); simp only [KS, Nat.reduceAdd, Nat.reduceMul, Nat.reduceEqDiff, ↓reduceIte, forall_const, Int.cast_ofNat_Int, Int.reduceToNat, TF8, KL8, List.take_succ_cons, List.take_zero, List.drop_succ_cons, List.drop_zero]; (try simp (disch := omega) only [wrapI, tmodI, tdivI]); (fail_if_success (with_reducible show False))))
  refine shaW xs1 fun v1' w14 x14 q1 => ?_
  (repeat first | with_reducible first | refine jq ?_ | refine jk ?_ | refine jc ?_ | refine jl ?_ | refine jb ?_ | refine jo ?_ | refine ji ?_ | refine jx rfl ?_ | refine And.intro (by first | assumption | omega | (intros; omega)) ?_ | ((first | refine jR KL8 (by kernel_rfl) fun _ => ?_ | skip); simp only [KS, Nat.reduceAdd, Nat.reduceMul, Nat.reduceEqDiff, ↓reduceIte, forall_const, Int.cast_ofNat_Int, Int.reduceToNat, TF8, KL8, List.take_succ_cons, List.take_zero, List.drop_succ_cons, List.drop_zero]; (try simp (disch := omega) only [wrapI, tmodI, tdivI]); (fail_if_success (with_reducible show False))))
  have y14 := y10.trans (x11.trans (x12.trans (x13.trans x14)))
  refine Run_ep (id := 9) [0, 1, 2, 3, 4, 5, 6, 7, 9, 11, 12, 13, 15, 16, 17, 19, 20, 21, 22, 128] (.first 0 (.first 3 (.alt 1 (.first 2 (.alt 4 (.first 5 (.first 6 (.alt 7 (.first 8 (.alt 9 .done .stop)) .stop))) .stop)) (.alt 4 (.first 5 (.alt 1 (.first 2 (.first 6 (.alt 7 (.first 8 (.alt 9 .done .stop)) .stop))) .stop)) .stop)))) mixed (by kernel_rfl) (by kernel_rfl) fun w15 x15 _ => ?_
  have f15 := F _ (y14.trans x15)
  (try simp only [KS, Nat.reduceAdd, Nat.reduceMul, Nat.reduceEqDiff, ↓reduceIte, forall_const, Int.cast_ofNat_Int, Int.reduceToNat, List.take_succ_cons, List.take_zero, List.drop_succ_cons, List.drop_zero, TF8, KL8, f15, hT.b.s, hT.b.len, hT.l.s, hT.l.len]); (try simp (disch := omega) only [wrapI, tmodI, tdivI])
  have c0 := hT.b.cap
  have c1 := hT.l.cap
  have d0 := hT.b.capM
  have d1 := hT.l.capM
  have e15 := e7.trans (y14.trans x15)
  simp only [exF, List.length_cons, List.length_nil] at c0 c1
  have g0 : Sl w1 (slSub 1 u0 0 1 (slCap u0)) exF1.Base := hT.b.sub (l := 0) (r := 1) (m := slCap u0) (by decide) (by decide) (by omega) (Nat.le_refl _)
  have g1 : Sl w1 (slSub 1 u1 0 1 (slCap u1)) exF1.Leg := hT.l.sub (l := 0) (r := 1) (m := slCap u1) (by decide) (by decide) (by omega) (Nat.le_refl _)
  have rf15 := rf.ext (y14.trans x15)
  generalize slSub 1 u0 0 1 (slCap u0) = n0 at g0 ⊢
  generalize slSub 1 u1 0 1 (slCap u1) = n1 at g1 ⊢
  have i0 : n0.cells = #[n0] := by rcases g0.s.ex with rfl | ⟨_, _, _, rfl⟩ <;> rfl
  have i1 : n1.cells = #[n1] := by rcases g1.s.ex with rfl | ⟨_, _, _, rfl⟩ <;> rfl
  refine ⟨⟨by omega, by omega, ?G⟩, by omega, by omega, ?G⟩
  refine SemW_setAt (i := 1) cells25 rf15 (by show 1 < 3; decide) i1 (isS_o g1.s) fun w16 r16 k16 s16 => ?_
  refine SemW_set0 cells25 r16 (by show 0 < 3; decide) i0 (isS_o g0.s) fun w17 r17 k17 s17 => ?_
  have pb : w1.heap.size ≤ pf.block := by omega
  have e17 : Ext w1 w17 := Keep.ext (Keep.ext e15 k16 fun k hk => by omega) k17 fun k hk => by omega
  have rt17 := ((rt.ext (y14.trans x15)).keep k16 (by show pt.block ≠ pf.block; omega)).keep k17 (by show pt.block ≠ pf.block; omega)
  have rp17 := ((r7.ext (y14.trans x15)).keep k16 (by show pp.block ≠ pf.block; omega)).keep k17 (by show pp.block ≠ pf.block; omega)
  have r17 : Row w17 pf _ [n0, n1, u2] := r17
  have t17 := rt17.at_.n
  have f17 := r17.at_.n
  have p17 := rp17.at_.n
  simp only [Value.cells, List.toList_toArray, TimeD.cs, PlanD.cs, AtN, KS, Nat.reduceAdd, Nat.reduceMul, Nat.reduceEqDiff, ↓reduceIte, UT] at t17 f17 p17
  (repeat first | with_reducible first | refine jq ?_ | refine jk ?_ | refine jc ?_ | refine jl ?_ | refine jb ?_ | refine jo ?_ | refine ji ?_ | refine jx rfl ?_ | refine And.intro (by first | assumption | omega | (intros; omega)) ?_ | ((first | refine jR KL8 (by kernel_rfl) fun _ => ?_ | skip); simp only [KS, Nat.reduceAdd, Nat.reduceMul, Nat.reduceEqDiff, ↓reduceIte, forall_const, Int.cast_ofNat_Int, Int.reduceToNat, TF8, KL8, List.take_succ_cons, List.take_zero, List.drop_succ_cons, List.drop_zero, t17, f17, p17]; (try simp (disch := omega) only [wrapI, tmodI, tdivI]); (fail_if_success (with_reducible show False))))
  refine costW (f := exF1) xc5 (sl.ext e17) ⟨g0.ext e17, g1.ext e17, hT.t.ext e17⟩ (hP.ext e17) fun w18 x18 => ?_
  have o9 : Ext w8 w14 := x9.trans (x10.trans (x11.trans (x12.trans (x13.trans x14))))
  have keepM : ∀ (v : Value) (xs : List MoveD), Sl w15 v xs → Sl w18 v xs := fun v xs hs => by
    have no : ∀ x ∈ xs, ∀ w cs', Enc.rep w cs' x → ∀ L : List Value, (∀ n, Value.int .i64 n ∉ L) → ∃ u, cs'[0]? = some u ∧ u ∉ L := fun x _ w cs' hx L hL => by
      obtain ⟨rfl, _⟩ := hx
      exact ⟨_, rfl, hL _⟩
    have s0 : ∀ (v : Value), IsS v → ∀ n, Value.int .i64 n ≠ v := fun v hv n e => by
      subst e
      rcases hv.ex with h | ⟨_, _, _, h⟩ <;> cases h
    have a1 := hs.keepD rf15 (fun x hx cs' hr => no x hx _ cs' hr _ fun n hn => by
      simp only [Value.cells, TariffD.cs, List.mem_cons, List.not_mem_nil, or_false] at hn
      rcases hn with h | h | h
      · exact s0 _ hT.b.s n h
      · exact s0 _ hT.l.s n h
      · exact s0 _ hT.t.s n h) k16
    have r16 : Row w16 pf _ [u0, n1, u2] := r16
    have a2 := a1.keepD r16 (fun x hx cs' hr => no x hx _ cs' hr _ fun n hn => by
      simp only [List.mem_cons, List.not_mem_nil, or_false] at hn
      rcases hn with h | h | h
      · exact s0 _ hT.b.s n h
      · exact s0 _ g1.s n h
      · exact s0 _ hT.t.s n h) k17
    exact a2.ext x18
  have m12 : Ext w12 w15 := x13.trans (x14.trans x15)
  have m18 := keepM _ _ (sm.ext (x10.trans (x11.trans (x12.trans m12))))
  have q18 := keepM _ _ (q7.ext m12)
  have o18 := keepM _ _ (q1.ext x15)
  have e18 := e17.trans x18
  clear keepM
  (repeat first | with_reducible first | refine jq ?_ | refine jk ?_ | refine jc ?_ | refine jl ?_ | refine jb ?_ | refine jo ?_ | refine ji ?_ | refine jx rfl ?_ | refine And.intro (by first | assumption | omega | (intros; omega)) ?_ | ((first | refine jR KL8 (by kernel_rfl) fun _ => ?_ | skip); simp only [KS, Nat.reduceAdd, Nat.reduceMul, Nat.reduceEqDiff, ↓reduceIte, forall_const, Int.cast_ofNat_Int, Int.reduceToNat, TF8, KL8, List.take_succ_cons, List.take_zero, List.drop_succ_cons, List.drop_zero, q18.s, q18.len, o18.s, o18.len, pk_true, pk_false, false_or, or_false, false_imp_iff, true_imp_iff, not_true_eq_false, not_false_eq_true, Bool.true_or, Bool.false_or, Bool.or_true, Bool.or_false, Bool.true_and, Bool.false_and, Bool.and_true, Bool.and_false]; (try simp (disch := omega) only [wrapI, tmodI, tdivI]); (fail_if_success (with_reducible show False))))
  refine Run_condS (fun _ => rfl) (fun h => ?_) (fun h => ?_)
  · exact absurd h (by decide)
  clear h
  (repeat first | with_reducible first | refine jq ?_ | refine jk ?_ | refine jc ?_ | refine jl ?_ | refine jb ?_ | refine jo ?_ | refine ji ?_ | refine jx rfl ?_ | refine And.intro (by first | assumption | omega | (intros; omega)) ?_ | ((first | refine jR KL8 (by kernel_rfl) fun _ => ?_ | skip); simp only [KS, Nat.reduceAdd, Nat.reduceMul, Nat.reduceEqDiff, ↓reduceIte, forall_const, Int.cast_ofNat_Int, Int.reduceToNat, TF8, KL8, List.take_succ_cons, List.take_zero, List.drop_succ_cons, List.drop_zero]; (try simp (disch := omega) only [wrapI, tmodI, tdivI]); (fail_if_success (with_reducible show False))))
  refine ⟨.agg (⟨0, 1, 5, 21, 5, 0⟩ : MoveD).cs.toArray, fun _ => by kernel_rfl, ?_⟩
  refine SemW_var ti45 rfl rfl (by decide) rfl fun pc w19 h19 => ?_
  (repeat first | with_reducible first | refine jq ?_ | refine jk ?_ | refine jc ?_ | refine jl ?_ | refine jb ?_ | refine jo ?_ | refine ji ?_ | refine jx rfl ?_ | refine And.intro (by first | assumption | omega | (intros; omega)) ?_ | ((first | refine jR KL8 (by kernel_rfl) fun _ => ?_ | skip); simp only [KS, Nat.reduceAdd, Nat.reduceMul, Nat.reduceEqDiff, ↓reduceIte, forall_const, Int.cast_ofNat_Int, Int.reduceToNat, TF8, KL8, List.take_succ_cons, List.take_zero, List.drop_succ_cons, List.drop_zero]; (try simp (disch := omega) only [wrapI, tmodI, tdivI]); (fail_if_success (with_reducible show False))))
  refine ⟨.agg (⟨1, 1, 52, 2, 6, -1⟩ : MoveD).cs.toArray, fun _ => by kernel_rfl, ?_⟩
  refine SemW_var ti45 rfl rfl (by decide) rfl fun ps w20 h20 => ?_
  have hc := at_memA (h19.at_.ext h20.ext) rfl
  have hs := at_memA h20.at_ rfl
  have x20 := h19.ext.trans h20.ext
  have hc : ∀ w', Ext w20 w' → AtN w' pc 0 (⟨0, 1, 5, 21, 5, 0⟩ : MoveD).cs := fun w' x => ((h19.at_.ext h20.ext).ext x).n
  have hs : ∀ w', Ext w20 w' → AtN w' ps 0 (⟨1, 1, 52, 2, 6, -1⟩ : MoveD).cs := fun w' x => (h20.at_.ext x).n
  simp only [MoveD.cs, AtN, KS, Nat.reduceAdd, Nat.reduceMul, Nat.reduceEqDiff, ↓reduceIte, UT] at hc hs
  (repeat with_reducible first | refine jq ?_ | refine jk ?_ | refine jc ?_ | refine jl ?_ | refine jb ?_ | refine jo ?_ | refine ji ?_ | refine jx rfl ?_)
  refine Run_er (id := 16) KL8 (.first 0 (.alt 1 (.alt 2 (.alt 3 (.tail 4) .stop) .stop) .stop)) mixed (by kernel_rfl) (by kernel_rfl) fun w21 x21 _ => ?_
  have hc1 := hc w21 x21
  have hs1 := hs w21 x21
  (try simp only [KS, Nat.reduceAdd, Nat.reduceMul, Nat.reduceEqDiff, ↓reduceIte, forall_const, Int.cast_ofNat_Int, Int.reduceToNat, List.take_succ_cons, List.take_zero, List.drop_succ_cons, List.drop_zero, TF8, KL8, er, hc1, hs1, pk_true, pk_false]); (try simp (disch := omega) only [wrapI, tmodI, tdivI])
  refine movesB [_] exC rfl rfl rfl (by simp [exC, MI, I64]) (by decide) fun va w22 sa x22 => ?_
  refine sameW (b := true) (by decide) (m18.ext (x20.trans (x21.trans x22))) sa fun w23 x23 => ?_
  have z23 := x21.trans (x22.trans x23)
  have y23 := x20.trans z23
  have hs2 := hs w23 z23
  have a0 := (q18.ext y23).moveD (i := 0) (by decide)
  have a1 := (q18.ext y23).moveD (i := 1) (by decide)
  have a2 := (q18.ext y23).moveD (i := 2) (by decide)
  have b0 := (o18.ext y23).moveD (i := 0) (by decide)
  have b1 := (o18.ext y23).moveD (i := 1) (by decide)
  have a0 := a0.1
  have a1 := a1.1
  have a2 := a2.1
  have b0 := b0.1
  have b1 := b1.1
  simp only [exS7, exS1, List.getElem_cons_zero, List.getElem_cons_succ, MoveD.cs, AtN, KS, Nat.reduceAdd, Nat.reduceMul, Nat.reduceEqDiff, ↓reduceIte, UT] at a0 a1 a2 b0 b1
  have l7 : slLen v7 = 3 := q18.len
  have l1 : slLen v1' = 2 := o18.len
  (try simp only [KS, Nat.reduceAdd, Nat.reduceMul, Nat.reduceEqDiff, ↓reduceIte, forall_const, Int.cast_ofNat_Int, Int.reduceToNat, List.take_succ_cons, List.take_zero, List.drop_succ_cons, List.drop_zero, TF8, KL8, a0, a1, a2, b0, b1, hs2, q18.s, o18.s, l7, l1]); (try simp (disch := omega) only [wrapI, tmodI, tdivI])
  refine ⟨by decide, fun _ => by decide, by kernel_rfl, fun _ => by decide, fun _ => by decide, fun _ => by decide, fun w24 x24 => ?_⟩
  refine Run_ret ?_
  simp [Rets, RetM, resV, fnd, oneOr]
  exact x1.trans (e18.trans (y23.trans x24))
theorem saneW {w : World} {K : Value → World → Prop} (hK : ∀ w', Ext w w' → K (.bool true) w') : CallW Try.prog (.func (.func 8) #[] #[]) [] w K :=
  CallW_pure call8 (lawSane w) hK
abbrev Yes (e : Ending) : Prop := e = .returned (.bool true)
end Go.Proofs.Ytcncbmdkifdggaa
