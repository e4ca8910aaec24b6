/- Chapter 42: the reference's Book. -/
import Derived.Test.YtoadfmgnpmcbfaaGreatW42a
namespace Go.Fk
open Go
theorem Au.num_snoc (xs : List MoveD) (y : MoveD) : Au.num 0 (xs ++ [y]) = Au.num 0 xs ++ [⟨xs.length, y.From, y.To, y.Amount, y.Why, y.Run⟩] := by
  rw [Au.num_append, Nat.zero_add]; rfl
/-- rows of two types are two -/
theorem BufO.two {α β : Type} [Enc α] [Enc β] {e1 e2 : TypeId} {B1 B2 : Nat} {w : World} {u v : Value} {xs : List α} {ys : List β} (h1 : BufO e1 B1 w u xs) (h2 : BufO e2 B2 w v ys) (hne : e1 ≠ e2) : ∀ g, u.ownBlock = some g → some g ≠ v.ownBlock := by
  intro g hg hv
  obtain ⟨c1, _, o1⟩ := h1.ex
  obtain ⟨c2, _, o2⟩ := h2.ex
  rcases o1.2 with ⟨rfl, _⟩ | ⟨g1, cap1, cur1, rfl, hb1, hg1, _⟩
  · cases hg
  rcases o2.2 with ⟨rfl, _⟩ | ⟨g2, cap2, cur2, rfl, hb2, hg2, _⟩
  · cases hv
  have e1' : g1 = g := by simpa [Value.ownBlock] using hg
  have e2' : g = g2 := by simpa [Value.ownBlock] using hv
  subst e1'
  subst e2'
  rw [hg1] at hg2
  injection hg2 with hg2
  injection hg2 with _ h2
  exact hne h2
theorem BufO.keepW {α : Type} [Enc α] [Flat α] {e : TypeId} {B : Nat} {w w' : World} {v : Value} {xs : List α} {S : Nat → Prop} (h : BufO e B w v xs) (k : Keep S w w') (hS : ∀ g, v.ownBlock = some g → S g) : BufO e B w' v xs := by
  obtain ⟨css, hc, ho⟩ := h.ex
  exact ⟨css, hc.any, ownsRow_blk ho fun g hg => k.block g (h.own_lt hg).2 (hS g hg)⟩
end Go.Fk
namespace Go.Proofs.YtoadfmgnpmcbfaaGreat
open Go Go.Fk
set_option linter.unusedSimpArgs false
set_option linter.unusedVariables false
set_option maxRecDepth 100000

theorem askW {v : Value} {xs : List MoveD} (y : MoveD) {B : Nat} {w : World} {K : Value → World → Prop} (hv : BufO (α := MoveD) 70 B w v (Au.num 0 xs)) (hbase : B ≤ w.heap.size) (hm : Au.Mv y) (hl : xs.length ≤ 1000000)
    (hK : ∀ v' w', BufO (α := MoveD) 70 B w' v' (Au.num 0 (xs ++ [y])) → Keep (fun k => some k ≠ v.ownBlock) w w' → K v' w') :
    CallW Tryz.prog (.func (.func 122) #[] #[]) [v, .int .i64 y.From, .int .i64 y.To, .int .i64 y.Amount, .int .i64 y.Why, .int .i64 y.Run] w K := by
  obtain ⟨h1, h2, _, h3, h4, h5, h6⟩ := hm
  refine CallW_gen call122 (rfAsk v (Au.num 0 xs) y.From y.To y.Amount y.Why y.Run B w hv hbase ⟨by rw [Au.num_len]; unfold I64; simp only; omega, by unfold I64; simp only; omega, by unfold I64; simp only; omega, by unfold I64; simp only; omega, by unfold I64; simp only; omega, by unfold I64; simp only; omega⟩ (by rw [Au.num_len]; exact hl)) fun e w' ⟨v', he, b, k⟩ => ⟨v', he, hK v' w' ?_ k⟩
  rw [Au.num_snoc]
  rw [Au.num_len] at b
  exact b
set_option maxHeartbeats 4000000 in
theorem rfBook42 (vl u0 u1 u2 vo v0 v1 v2 vh : Value) (t : TimeD) (f : TariffD) (l : List OrderD) (p : PlanD) (hd : List Int) (w : World) (hl : Sl w vl t.Lines) (hT : TarR w f u0 u1 u2) (ho : Sl w vo l) (hP : PlanR w p v0 v1 v2) (hh : Sl w vh hd)
    (hok : Au.Ok t f l p hd) (hR : p.Runs.length ≤ 70) :
    Calls Tryz.prog 68 #[.agg (t.cs vl).toArray, .agg (f.cs u0 u1 u2).toArray, vo, .agg (p.cs v0 v1 v2).toArray, vh] w fun e w' => ∃ v, e = .returned v ∧ Ext w w' ∧ Sl w' v (Au.book t f l p hd) := by
  have ok := hok.e
  have hn64 := ok.o.n
  have hol := ho.len
  have hrl := hP.r.len
  have hll := hl.len
  have hhl := hh.len
  have hhd := hok.hl
  refine Calls_of_Run (args := [.agg (t.cs vl).toArray, .agg (f.cs u0 u1 u2).toArray, vo, .agg (p.cs v0 v1 v2).toArray, vh]) (n := 239) (rs := [.tmp 10]) Tryz.func68 rfl rfl rfl (by simp) ?_
  (repeat with_reducible first | refine js ?_ | refine ja ?_ | refine jw KL68 [6, 21, 22, 23, 33] TF68 fun _ => ?_)
  refine SemW_box fun pt w1 h1 => SemW_box fun pf w2 h2 => SemW_box fun pp w3 h3 => ?_
  have x3 := h1.ext.trans (h2.ext.trans h3.ext)
  have T : ∀ w', Ext w3 w' → AtN w' pt 0 (t.cs vl) := fun w' x => (h1.at_.ext (h2.ext.trans (h3.ext.trans x))).n
  have F : ∀ w', Ext w3 w' → AtN w' pf 0 (f.cs u0 u1 u2) := fun w' x => (h2.at_.ext (h3.ext.trans x)).n
  have P : ∀ w', Ext w3 w' → AtN w' pp 0 (p.cs v0 v1 v2) := fun w' x => (h3.at_.ext x).n
  simp only [TimeD.cs, TariffD.cs, PlanD.cs, AtN, KS, Nat.reduceAdd, Nat.reduceMul, Nat.reduceEqDiff, ↓reduceIte, UT] at T F P
  (repeat with_reducible first | refine js ?_ | refine ja ?_ | refine jw KL68 [6, 21, 22, 23, 33] TF68 fun _ => ?_)
  let B := w3.heap.size
  let PR : Nat → List Int := fun k => (List.range k).map (Ec.priceP t f l p)
  refine Run_loopV [11, 12, 13, 14, 30] (σ := Nat × Value × Value) (fun q => [(13, some (.int .i64 q.1)), (11, some q.2.1), (12, some q.2.2)]) (fun q w' => q.1 ≤ l.length ∧ BufO (α := MoveD) 70 B w' q.2.1 (Au.num 0 (Ec.posts t f l p q.1)) ∧ BufO (α := Int) 3 B w' q.2.2 (PR q.1) ∧ Ext w3 w') (fun q => l.length - q.1) (0, .slice none 0 0, .slice none 0 0) (by simp [SubB, fnd]) ⟨by simp, BufO.nil, BufO.nil, Ext.refl _⟩ ?_
  rintro ⟨k, vm, vp⟩ w4 ⟨hk, hB, hQ, x4⟩
  simp only at hk hB hQ
  have y4 := x3.trans x4
  (repeat with_reducible first | refine js ?_ | refine ja ?_ | refine jw KL68 [6, 21, 22, 23, 33] (aa TF68 (aa ho.s ho.len)) fun _ => ?_)
  refine Run_condS (fun _ => rfl) (fun h => ?_) (fun h => ?_)
  · simp at h
    have hkl := h
    have hkp : k < p.Of.length := by rw [ok.ol]; exact hkl
    have hgo : p.Of.getD k 0 = p.Of[k] := by simp [List.getD_eq_getElem?_getD, hkp]
    have hgl : l.getD k default = l[k] := by simp [List.getD_eq_getElem?_getD, hkl]
    obtain ⟨q0, q1, _⟩ := Ec.price_eq ok hkl
    rw [hgo] at q0 q1
    obtain ⟨l0, l1, l2, l3, hC⟩ := lineC hl ok q0 q1
    have hrn := hC.r
    have hn0 := hC.n0
    have hlnn := hC.n
    have hRR := hC.l
    have hrll := hRR.l.len
    have hpp : Ec.priceP t f l p k = (Tf.pri f l[k].Class (Ec.lineP t p p.Of[k]).Legs.length l[k].Crowd).1 := by unfold Ec.priceP; rw [hgl, hgo]
    obtain ⟨g, _, o2, hO⟩ := ho.ord hkl
    have g1 := ((hP.r.ext y4).runD hrn).1
    have g2 := (hC.a.ext y4).n
    have o4 := (o2.ext y4).n
    obtain ⟨d1, d2, -⟩ := (hP.o.ext y4).get hkp
    have t4 := T w4 x4
    have f4 := F w4 x4
    have p4 := P w4 x4
    generalize hxx : Ec.lineP t p p.Of[k] = x at *
    generalize hqq : p.Of[k] = q at *
    generalize hrr : p.Runs[q.toNat] = r at *
    simp only [RunD.cs, LineD.cs, OrderD.cs, AtN, KS, Nat.reduceAdd, Nat.reduceMul, Nat.reduceEqDiff, ↓reduceIte, UT] at g1 g2 o4
    (repeat with_reducible first | refine js ?_ | refine ja ?_ | refine jw KL68 [6, 21, 22, 23, 33] (aa TF68 (aa t4 (aa f4 (aa p4 (aa ho.s (aa ho.len (aa o4 (aa hP.o.s (aa hP.o.len (aa d1 (aa d2 (aa hP.r.s (aa hP.r.len (aa hl.s (aa hl.len (aa g1 (aa g2 (aa hRR.l.s (aa hRR.l.len KX))))))))))))))))))) fun _ => ?_)
    refine ⟨_, PC_pure call92 fun w' x' => rfPriceW f u0 u1 u2 _ _ _ w' (hT.ext (y4.trans x')), ⟨by simp, by simp⟩, ⟨by simp, by simp⟩, fun w5 x5 => ?_⟩
    rw [← hpp]
    have hB5 := hB.keep (Keep.of_ext (S := fun _ => True) x5) fun _ _ _ => trivial
    have hQ5 := hQ.keep (Keep.of_ext (S := fun _ => True) x5) fun _ _ _ => trivial
    have hpb := Ec.price_bd t f l p k
    have hQs := hQ.isS
    have hBs := hB.isS
    have hPl : (PR k).length = k := by simp [PR]
    have hsz := (x4.trans x5).size
    (repeat with_reducible first | refine js ?_ | refine ja ?_ | refine jw KL68 [6, 21, 22, 23, 33] TF68 fun _ => ?_)
    refine (SemW_append1G (α := Int) (G := fun _ => True) (X := .int .i64 (Ec.priceP t f l p k)) (x := Ec.priceP t f l p k) Tryz.underlying25 ti3 rfl (by decide) hQ5 hsz ⟨rfl, by unfold I64; omega⟩ (by rw [hPl]; simp only [maxLen]; omega) (fun _ _ => trivial) fun s vp' w6 b6 k6 _ => ?_).mono fun s w2 h => h.2
    have hB6 := hB5.keepW k6 (hB5.two hQ5 (by decide))
    have x6 : Ext w3 w6 := Keep.ext (x4.trans x5) k6 fun b hb e => by have := (hQ5.own_lt e.symm).1; omega
    have hP6 : PR k ++ [Ec.priceP t f l p k] = PR (k + 1) := by simp [PR, List.range_succ]
    rw [hP6] at b6
    have p6 := P w6 x6
    obtain ⟨d3, d4, -⟩ := (hP.o.ext (x3.trans x6)).get hkp
    rw [hqq] at d3
    (repeat with_reducible first | refine js ?_ | refine ja ?_ | refine jw KL68 [6, 21, 22, 23, 33] (aa TF68 (aa p6 (aa hP.o.s (aa hP.o.len (aa d3 d4))))) fun _ => ?_)
    refine askW (B := B) (⟨k, 51 + k, 2, Ec.priceP t f l p k, 1, q⟩ : MoveD) hB6 x6.size ⟨by simp only; omega, by simp only; omega, by simp only; omega, by simp only; omega, by simp only; omega, by simp only; omega, by simp only; omega⟩ (by rw [Ec.posts_len]; omega) fun vm' w7 b7 k7 => ?_
    have hpo : Ec.posts t f l p k ++ [(⟨k, 51 + k, 2, Ec.priceP t f l p k, 1, q⟩ : MoveD)] = Ec.posts t f l p (k + 1) := by
      rw [Ec.posts_succ]; unfold Ec.postM; rw [hgo]
    rw [hpo] at b7
    have b7' := b6.keepW k7 (b6.two hB6 (by decide))
    have x7 : Ext w3 w7 := Keep.ext x6 k7 fun b hb e => by have := (hB6.own_lt e.symm).1; omega
    (repeat with_reducible first | refine js ?_ | refine ja ?_ | refine jw KL68 [6, 21, 22, 23, 33] TF68 fun _ => ?_)
    refine Run_lp ⟨(k + 1, vm', vp'), ?_, ⟨by simp only; omega, b7, b7', x7⟩, by simp only; omega⟩
    simp [SubB, fnd, strike, has]
  simp at h
  obtain rfl : k = l.length := by omega
  have hPl : (PR l.length).length = l.length := by simp [PR]
  have hpostl := Ec.posts_len t f l p l.length
  obtain ⟨CP, hCP⟩ : ∃ CP : Nat → List MoveD, ∀ r, CP r = Ec.posts t f l p l.length ++ Au.cat (Au.runPays t f l p hd) r := ⟨_, fun _ => rfl⟩
  have hCPl : ∀ r, r ≤ p.Runs.length → (CP r).length ≤ 640 := fun r hr => by
    have h1 := Au.catPays_len hok r hr
    have h2 := Au.ordS_le p r l.length
    simp only [hCP, List.length_append, hpostl]; omega
  have hCP0 : CP 0 = Ec.posts t f l p l.length := by simp [hCP, Au.cat]
  (repeat with_reducible first | refine js ?_ | refine ja ?_ | refine jw KL68 [6, 21, 22, 23, 33] TF68 fun _ => ?_)
  refine Run_loopV [11, 16, 17, 18, 19, 20, 82, 98, 107, 117, 156] (σ := Nat × Value) (fun q => [(16, some (.int .i64 q.1)), (11, some q.2)]) (fun q w' => q.1 ≤ p.Runs.length ∧ BufO (α := MoveD) 70 B w' q.2 (Au.num 0 (CP q.1)) ∧ BufO (α := Int) 3 B w' vp (PR l.length) ∧ Ext w3 w') (fun q => p.Runs.length - q.1) (0, vm) (by simp [SubB, fnd]) ⟨by simp, by simp only; rw [hCP0]; exact hB, hQ, x4⟩ ?_
  clear hB x4 y4
  rintro ⟨r, vm⟩ w4 ⟨hr, hB, hQ, x4⟩
  simp only at hr hB hQ
  have y4 := x3.trans x4
  have p4 := P w4 x4
  (repeat with_reducible first | refine js ?_ | refine ja ?_ | refine jw KL68 [6, 21, 22, 23, 33] (aa TF68 (aa p4 (aa hP.r.s hP.r.len))) fun _ => ?_)
  refine Run_condS (fun _ => rfl) (fun h => ?_) (fun h => ?_)
  · simp at h
    have hrN := h
    obtain ⟨hhk, hhe⟩ := hok.h r hrN
    have hhg : hd.getD r 0 = hd[r]'(by omega) := by simp [List.getD_eq_getElem?_getD, show r < hd.length by omega]
    rw [hhg] at hhe
    obtain ⟨_, _, _, _, hlo⟩ := line_at ok (q := (r : Int)) (by omega) (by omega)
    have ox9 := hlo.o9
    have oxl := hlo.l1
    have hoff := (Tt.chk_ok ok.o.t).o
    have hxs := hlo.s
    obtain ⟨l0, l1, l2, l3, hC⟩ := lineC hl ok (q := (r : Int)) (by omega) (by omega)
    have hrn := hC.r
    have hn0 := hC.n0
    have hlnn := hC.n
    have hRR := hC.l
    have hrll := hRR.l.len
    have hone := hRR.one
    have hCPs : CP (r + 1) = CP r ++ Ec.pays t f l p r (Au.hn hd r) l.length := by simp only [hCP, Au.cat, List.append_assoc]; rfl
    have hCPr := hCPl r (by omega)
    have hpayl := fun i => Ec.pays_len t f l p r (Au.hn hd r) i
    have G : ∀ w', Ext w w' → AtN w' ((slAt v0).add (r * 3)) 0 p.Runs[r].cs ∧ AtN w' ((slAt vl).add (p.Runs[r].Line.toNat * 6)) 0 ((Ec.lineP t p r).cs l0 l1 l2 l3) := fun w' x => ⟨((hP.r.ext x).runD hrN).1, (hC.a.ext x).n⟩
    simp only [Int.toNat_natCast] at hn0 hlnn
    generalize hrr : p.Runs[r] = rr at *
    simp only [RunD.cs, LineD.cs, AtN, KS, Nat.reduceAdd, Nat.reduceMul, Nat.reduceEqDiff, ↓reduceIte, UT] at G
    simp only [LineD.cs] at hone
    have hsub : ∀ i, Ec.pays t f l p r (Au.hn hd r) (i + 1) = Ec.pays t f l p r (Au.hn hd r) i ++ if p.Of.getD i 0 = r then Ec.payO t f l p r (Au.hn hd r) i (Ec.pays t f l p r (Au.hn hd r) i).length else [] := fun i => rfl
    have hpo : ∀ i no, Ec.payO t f l p r (Au.hn hd r) i no = Ec.legMs (Ec.lineP t p r) (Tf.leg f (l.getD i default).Class) r no (Au.hn hd r) ++ [Ec.lastM (Ec.lineP t p r) r (Ec.priceP t f l p i - Au.hn hd r * Tf.leg f (l.getD i default).Class) (Au.hn hd r) i (no + Au.hn hd r)] := fun i no => rfl
    generalize hxx : Ec.lineP t p (r : Int) = x at *
    generalize hhn : Au.hn hd r = n at *
    (repeat with_reducible first | refine jq ?_ | refine jk ?_ | refine jc ?_ | refine jl ?_ | refine jb ?_ | refine jo ?_ | refine ji ?_ | refine jx rfl ?_)
    refine Run_ec (id := 12) KL68 (.first 0 (.first 1 (.first 2 (.first 3 (.first 4 (.first 5 (.first 6 (.first 7 (.first 8 (.first 9 (.alt 10 (.alt 11 .done .stop) .stop))))))))))) mixed (by kernel_rfl) (by kernel_rfl) fun w5 x5 _ => ?_
    have y5 := y4.trans x5
    have t5 := T _ (x4.trans x5)
    have p5 := P _ (x4.trans x5)
    have g5 := G _ y5
    (try simp (maxSteps := 5000000) only [KS, Nat.reduceAdd, Nat.reduceMul, Nat.reduceEqDiff, ↓reduceIte, forall_const, Int.cast_ofNat_Int, Int.reduceToNat, List.take_succ_cons, List.take_zero, List.drop_succ_cons, List.drop_zero, TF68, KL68, ec, t5, p5, hP.r.s, hP.r.len, hl.s, hl.len, g5]); (try simp (disch := omega) only [wrapI, tmodI, tdivI])
    (try simp (maxSteps := 5000000) only [KS, Nat.reduceAdd, Nat.reduceMul, Nat.reduceEqDiff, ↓reduceIte, forall_const, Int.cast_ofNat_Int, Int.reduceToNat, List.take_succ_cons, List.take_zero, List.drop_succ_cons, List.drop_zero, TF68, KL68, ec, t5, p5, hP.r.s, hP.r.len, hl.s, hl.len, g5]); (try simp (disch := omega) only [wrapI, tmodI, tdivI])
    refine ⟨by omega, by omega, Ext.refl _, SemW_allocT ti52 fun px w8 h8 => ⟨h8.ext, ?_⟩⟩
    have b8 := h8.blk
    refine SemW_setW (by rw [cells52]; decide) (by rw [cells52]; rfl) h8.row (by rw [cells52]; rfl) (by simpa [Value.cells] using hone) fun w9 r9 k9 z9 => ?_
    have r9 : Row w9 px 52 (x.cs l0 l1 l2 l3) := by simpa [Value.cells, LineD.cs] using r9
    have x9 : Ext w5 w9 := Keep.ext h8.ext k9 fun q hq => by omega
    refine ⟨x9, ?_⟩
    have hB9 := hB.keep (Keep.of_ext (S := fun _ => True) (x5.trans x9)) fun _ _ _ => trivial
    have hQ9 := hQ.keep (Keep.of_ext (S := fun _ => True) (x5.trans x9)) fun _ _ _ => trivial
    have X9 := x4.trans (x5.trans x9)
    clear g5 t5 p5 p4 hB hQ
    (repeat with_reducible first | refine js ?_ | refine ja ?_ | refine jw KL68 [6, 21, 22, 23, 33] TF68 fun _ => ?_)
    refine Run_loopV [11, 18, 19, 20, 98, 107, 117, 156] (σ := Nat × Value) (fun q => [(18, some (.int .i64 q.1)), (11, some q.2)]) (fun q w' => q.1 ≤ l.length ∧ BufO (α := MoveD) 70 B w' q.2 (Au.num 0 (CP r ++ Ec.pays t f l p r n q.1)) ∧ BufO (α := Int) 3 B w' vp (PR l.length) ∧ Row w' px 52 (x.cs l0 l1 l2 l3) ∧ Ext w3 w') (fun q => l.length - q.1) (0, vm) (by simp [SubB, fnd]) ⟨by simp, by simp only [Ec.pays, List.append_nil]; exact hB9, hQ9, r9, X9⟩ ?_
    rintro ⟨i, vm⟩ w10 ⟨hi, hB, hQ, r10, x10⟩
    simp only at hi hB hQ
    have y10 := x3.trans x10
    (repeat with_reducible first | refine js ?_ | refine ja ?_ | refine jw KL68 [6, 21, 22, 23, 33] (aa TF68 (aa ho.s ho.len)) fun _ => ?_)
    refine Run_condS (fun _ => rfl) (fun h => ?_) (fun h => ?_)
    · simp at h
      have hil := h
      have hip : i < p.Of.length := by rw [ok.ol]; exact hil
      have hgo : p.Of.getD i 0 = p.Of[i] := by simp [List.getD_eq_getElem?_getD, hip]
      have hgl : l.getD i default = l[i] := by simp [List.getD_eq_getElem?_getD, hil]
      have hsi := hsub i
      have hpi := hpo i (Ec.pays t f l p r n i).length
      have hpl := hpayl i
      have hpl2 : i * (n + 1) ≤ 64 * 9 := Nat.mul_le_mul (by omega) (by omega)
      have p10 := P w10 x10
      obtain ⟨d1, d2, -⟩ := (hP.o.ext y10).get hip
      (repeat with_reducible first | refine js ?_ | refine ja ?_ | refine jw KL68 [6, 21, 22, 23, 33] (aa TF68 (aa p10 (aa hP.o.s (aa hP.o.len (aa d1 d2))))) fun _ => ?_)
      refine Run_condS (fun _ => rfl) (fun h => ?_) (fun h => ?_)
      · simp at h
        rw [hgo, if_neg h, List.append_nil] at hsi
        (repeat with_reducible first | refine js ?_ | refine ja ?_ | refine jw KL68 [6, 21, 22, 23, 33] TF68 fun _ => ?_)
        refine Run_lp ⟨(i + 1, vm), ?_, ⟨by simp only; omega, by simp only; rw [hsi]; exact hB, hQ, r10, x10⟩, by simp only; omega⟩
        simp [SubB, fnd, strike, has]
      simp at h
      rw [hgo, if_pos h, hpi, hgl] at hsi
      obtain ⟨_, _, _, hpr, hcl, _⟩ := Ec.price_eq ok hil
      rw [hgl] at hcl hpr
      have hfl := (Tf.chk_ok ok.o.f).n
      have hlg : Tf.leg f l[i].Class = f.Leg[l[i].Class.toNat]'(by omega) := by
        unfold Tf.leg; rw [List.getD_eq_getElem?_getD, List.getElem?_eq_getElem (by omega)]; rfl
      have hcx : l[i].Class.toNat < f.Leg.length := by omega
      have hlb := Tf.leg_bd ok.o.f l[i].Class
      have hpb := Ec.price_bd t f l p i
      obtain ⟨g, _, gAt, hO⟩ := ho.ord hil
      have hQs := hQ.sl (by rw [hPl]; omega)
      obtain ⟨e1, e2, -⟩ := hQs.get (show i < (PR l.length).length by rw [hPl]; exact hil)
      have e3 : (PR l.length)[i]'(by rw [hPl]; exact hil) = Ec.priceP t f l p i := by simp [PR]
      rw [e3] at e1
      have hps := hQ.isS
      rw [hPl] at hps
      have hnl := hT.l.len
      have hsa : ∀ k, Ec.legMs x (Tf.leg f l[i].Class) r (Ec.pays t f l p r n i).length (k + 1) = Ec.legMs x (Tf.leg f l[i].Class) r (Ec.pays t f l p r n i).length k ++ [Ec.legM x (Tf.leg f l[i].Class) r (Ec.pays t f l p r n i).length k] := fun k => Ec.legMs_succ ..
      have hle := fun k => Ec.legMs_len x (Tf.leg f l[i].Class) r (Ec.pays t f l p r n i).length k
      have hmul : (n : Int) * Tf.leg f l[i].Class ≤ 8 * 1048576 := Int.mul_le_mul (by omega) hlb.2 hlb.1 (by omega)
      have hmul0 : 0 ≤ (n : Int) * Tf.leg f l[i].Class := Int.mul_nonneg (by omega) hlb.1
      have hleft : 0 ≤ Ec.priceP t f l p i - n * Tf.leg f l[i].Class ∧ Ec.priceP t f l p i - n * Tf.leg f l[i].Class ≤ 10485760 := by
        rw [hgo, h, hxx] at hpr
        have h1 := Tf.base_bd ok.o.f l[i].Class
        have h2 := Tf.extra_bd ok.o.f l[i].Crowd
        have h3 : (n : Int) * Tf.leg f l[i].Class ≤ x.Legs.length * Tf.leg f l[i].Class := Int.mul_le_mul_of_nonneg_right (by omega) hlb.1
        generalize (x.Legs.length : Int) * Tf.leg f l[i].Class = z at *
        omega
      have hsz : ∀ b, b < B → ∀ v xs, BufO (α := MoveD) 70 B w10 v xs → some b ≠ v.ownBlock := fun b hb v xs h e => by have := (h.own_lt e.symm).1; omega
      generalize hPP : Ec.pays t f l p r n i = PP at *
      generalize hpr' : Ec.priceP t f l p i = pri at *
      (repeat with_reducible first | refine js ?_ | refine ja ?_ | refine jw KL68 [6, 21, 22, 23, 33] (aa TF68 (aa hps.1 (aa hps.2 (aa e1 e2)))) fun _ => ?_)
      refine Run_loopV [11, 19, 20, 117] (σ := Nat × Value) (fun q => [(20, some (.int .i64 q.1)), (19, some (.int .i64 (pri - q.1 * Tf.leg f l[i].Class))), (11, some q.2)]) (fun q w' => q.1 ≤ n ∧ BufO (α := MoveD) 70 B w' q.2 (Au.num 0 (CP r ++ (PP ++ Ec.legMs x (Tf.leg f l[i].Class) r PP.length q.1))) ∧ BufO (α := Int) 3 B w' vp (PR l.length) ∧ Row w' px 52 (x.cs l0 l1 l2 l3) ∧ Ext w3 w') (fun q => n - q.1) (0, vm) (by simp [SubB, fnd]) ⟨by simp, by simpa [Ec.legMs] using hB, hQ, r10, x10⟩ ?_
      clear hB hQ r10 x10 y10 e1 e2 hQs p10 d1 d2 hsz
      rintro ⟨k, vm⟩ w11 ⟨hk, hB, hQ, r11, x11⟩
      simp only at hk hB hQ
      have y11 := x3.trans x11
      obtain ⟨c1, c2, -⟩ := (hh.ext y11).get (show r < hd.length by omega)
      rw [← hhe] at c1
      (repeat with_reducible first | refine js ?_ | refine ja ?_ | refine jw KL68 [6, 21, 22, 23, 33] (aa TF68 (aa hh.s (aa hh.len (aa c1 c2)))) fun _ => ?_)
      refine Run_condS (fun _ => rfl) (fun h => ?_) (fun h => ?_)
      · simp at h
        have hkl := h
        let S : Nat → Prop := fun k => some k ≠ vm.ownBlock
        have hS : ∀ q, q < B → S q := fun q hq e => by have := (hB.own_lt e.symm).1; omega
        have hSx : S px.block := hB.ne r11 (by decide)
        have hof := hxs (x.Offices[k]'(by omega)) (List.getElem_mem _)
        have hgd : x.Offices.getD k 0 = x.Offices[k]'(by omega) := by simp [List.getD_eq_getElem?_getD, show k < x.Offices.length by omega]
        have hlM : Ec.legM x (Tf.leg f l[i].Class) r PP.length k = (⟨(PP.length + k : Nat), 2, 3 + x.Offices[k]'(by omega), Tf.leg f l[i].Class, 2, r⟩ : MoveD) := by unfold Ec.legM; rw [hgd]
        have bL : (slAt l0).block < B := by have := hRR.o.blk (by decide) (show k < x.Offices.length by omega); have := x3.size; show _ < w3.heap.size; omega
        have bU : (slAt u1).block < B := by have := hT.l.blk (by decide) hcx; have := x3.size; show _ < w3.heap.size; omega
        have hsk := hsa k
        rw [hlM] at hsk
        have hlek := hle k
        have bF : pf.block < B := by have := h2.at_.blk; have := h3.size; show _ < w3.heap.size; omega
        have bO : (slAt vo).block < B := by have := ho.blk (by decide) hil; have := x3.size; show _ < w3.heap.size; omega
        (repeat with_reducible first | refine jq ?_ | refine jk ?_ | refine jc ?_ | refine jl ?_ | refine jb ?_ | refine jo ?_ | refine ji ?_ | refine jx rfl ?_)
        refine Run_eh S [17] [(2, [4, 5, 6, 17]), (5, [6, 17]), (8, [14, 15, 17]), (13, [14, 15, 17]), (15, [17])] (id := 21) KL68 (.first 0 (.first 1 (.first 2 (.first 3 (.first 4 (.first 5 (.first 6 (.first 7 (.first 8 (.first 9 (.first 10 (.first 11 (.first 12 (.first 13 (.first 14 (.first 15 (.first 16 (.alt true 17 (.free (.first 18 .done)) .stop)))))))))))))))))) mixed (by kernel_rfl) (by kernel_rfl) fun w12 x12 _ => ?_
        have y12 := y11.trans x12
        have f12 := F w12 (x11.trans x12)
        have lx := (r11.ext x12).n
        obtain ⟨o1, o2, -⟩ := (hRR.o.ext y12).get (show k < x.Offices.length by omega)
        have gO := (gAt.ext y12).n
        obtain ⟨m1, m2, -⟩ := (hT.l.ext y12).get hcx
        rw [← hlg] at m1
        simp only [LineD.cs, OrderD.cs, AtN, KS, Nat.reduceAdd, Nat.reduceMul, Nat.reduceEqDiff, ↓reduceIte, UT] at lx gO
        (try simp (maxSteps := 5000000) only [KS, Nat.reduceAdd, Nat.reduceMul, Nat.reduceEqDiff, ↓reduceIte, forall_const, Int.cast_ofNat_Int, Int.reduceToNat, List.take_succ_cons, List.take_zero, List.drop_succ_cons, List.drop_zero, TF68, KL68, eh, gres, qopS, putL, ung, f12, lx, hRR.o.s, hRR.o.len, o1, o2, ho.s, ho.len, gO, hT.l.s, hnl, m1, m2]); (try simp (disch := omega) only [wrapI, tmodI, tdivI])
        generalize x.Offices[k]'(by omega) = off at *
        generalize hqq : Tf.leg f l[i].Class = a at *
        refine ⟨hSx, by omega, hS _ (by rw [blk_add]; exact bL), hS _ (by rw [blk_add]; exact bF), by omega, hS _ (by rw [blk_add]; exact bO), by omega, hS _ (by rw [blk_add]; exact bU), Keep.refl _ _, ?_⟩
        have hB12 := hB.keep (Keep.of_ext (S := fun _ => True) x12) fun _ _ _ => trivial
        have hQ12 := hQ.keep (Keep.of_ext (S := fun _ => True) x12) fun _ _ _ => trivial
        refine askW (B := B) (⟨(PP.length + k : Nat), 2, 3 + off, a, 2, r⟩ : MoveD) hB12 (x11.trans x12).size ⟨by simp only; omega, by simp only; omega, by simp only; omega, by simp only; omega, by simp only; omega, by simp only; omega, by simp only; omega⟩ (by simp only [List.length_append, hlek]; omega) fun vm' w13 b13 k13 => ?_
        rw [List.append_assoc, List.append_assoc, ← hsk] at b13
        have q13 := hQ12.keepW k13 (hQ12.two hB12 (by decide))
        have r13 := (r11.ext x12).keep k13 hSx
        have X13 : Ext w3 w13 := Keep.ext (x11.trans x12) k13 hS
        have y13 := x3.trans X13
        have f13 := F w13 X13
        have gO2 := (gAt.ext (Keep.ext y12 k13 fun b hb => hS b (by have := x3.size; show _ < w3.heap.size; omega))).n
        obtain ⟨m3, m4, -⟩ := (hT.l.ext y13).get hcx
        rw [← hlg] at m3
        simp only [OrderD.cs, AtN, KS, Nat.reduceAdd, Nat.reduceMul, Nat.reduceEqDiff, ↓reduceIte, UT] at gO2
        have hka : (k : Int) * a ≤ n * a := Int.mul_le_mul_of_nonneg_right (by omega) hlb.1
        have hka0 : 0 ≤ (k : Int) * a := Int.mul_nonneg (by omega) hlb.1
        have hks : ((k + 1 : Nat) : Int) * a = k * a + a := by rw [Int.natCast_add, Int.add_mul]; simp
        generalize hkz : (k : Int) * a = z at *
        (repeat with_reducible first | refine js ?_ | refine ja ?_ | refine jw KL68 [6, 21, 22, 23, 33] (aa TF68 (aa f13 (aa ho.s (aa ho.len (aa gO2 (aa hT.l.s (aa hnl (aa m3 m4)))))))) fun _ => ?_)
        intro w14 x14
        (repeat with_reducible first | refine js ?_ | refine ja ?_ | refine jw KL68 [6, 21, 22, 23, 33] TF68 fun _ => ?_)
        refine Run_lp ⟨(k + 1, vm'), ?_, ⟨by simp only; omega, b13.keep (Keep.of_ext (S := fun _ => True) x14) fun _ _ _ => trivial, q13.keep (Keep.of_ext (S := fun _ => True) x14) fun _ _ _ => trivial, r13.ext x14, X13.trans x14⟩, by simp only; omega⟩
        simp only [hks, show pri - (z + a) = pri - z - a by omega]
        simp [SubB, fnd, strike, has]
      · simp at h
        obtain rfl : k = n := by omega
        have lx := r11.n
        simp only [LineD.cs, AtN, KS, Nat.reduceAdd, Nat.reduceMul, Nat.reduceEqDiff, ↓reduceIte, UT] at lx
        have hlek := hle k
        generalize hLM : Ec.legMs x (Tf.leg f l[i].Class) r PP.length k = LM at *
        generalize hkz : (k : Int) * Tf.leg f l[i].Class = z at *
        (repeat with_reducible first | refine js ?_ | refine ja ?_ | refine jw KL68 [6, 21, 22, 23, 33] (aa TF68 (aa hh.s (aa hh.len (aa c1 (aa c2 (aa lx (aa hRR.l.s hRR.l.len))))))) fun _ => ?_)
        intro w12 x12
        have hB12 := hB.keep (Keep.of_ext (S := fun _ => True) x12) fun _ _ _ => trivial
        have hQ12 := hQ.keep (Keep.of_ext (S := fun _ => True) x12) fun _ _ _ => trivial
        have hSx : some px.block ≠ vm.ownBlock := hB.ne r11 (by decide)
        refine Run_condS (fun _ => rfl) (fun h => ?_) (fun h => ?_)
        · simp at h
          have hlast : Ec.lastM x r (pri - z) k i (PP.length + k) = (⟨(PP.length + k : Nat), 2, 1, pri - z, 3, r⟩ : MoveD) := by unfold Ec.lastM; rw [if_pos (by omega)]
          rw [hlast] at hsi
          (repeat with_reducible first | refine js ?_ | refine ja ?_ | refine jw KL68 [6, 21, 22, 23, 33] TF68 fun _ => ?_)
          refine askW (B := B) (⟨(PP.length + k : Nat), 2, 1, pri - z, 3, r⟩ : MoveD) hB12 (x11.trans x12).size ⟨by simp only; omega, by simp only; omega, by simp only; omega, by simp only; omega, by simp only; omega, by simp only; omega, by simp only; omega⟩ (by simp only [List.length_append, hlek]; omega) fun vm' w13 b13 k13 => ?_
          rw [List.append_assoc, List.append_assoc, ← hsi] at b13
          have q13 := hQ12.keepW k13 (hQ12.two hB12 (by decide))
          have r13 := (r11.ext x12).keep k13 hSx
          have X13 : Ext w3 w13 := Keep.ext (x11.trans x12) k13 fun b hb e => by have := (hB12.own_lt e.symm).1; omega
          (repeat with_reducible first | refine js ?_ | refine ja ?_ | refine jw KL68 [6, 21, 22, 23, 33] TF68 fun _ => ?_)
          refine Run_lp ⟨(i + 1, vm'), ?_, ⟨by simp only; omega, b13, q13, r13, X13⟩, by simp only; omega⟩
          simp [SubB, fnd, strike, has]
        · simp at h
          have hlast : Ec.lastM x r (pri - z) k i (PP.length + k) = (⟨(PP.length + k : Nat), 2, 51 + i, pri - z, 4, r⟩ : MoveD) := by unfold Ec.lastM; rw [if_neg (by omega)]
          rw [hlast] at hsi
          (repeat with_reducible first | refine js ?_ | refine ja ?_ | refine jw KL68 [6, 21, 22, 23, 33] TF68 fun _ => ?_)
          refine askW (B := B) (⟨(PP.length + k : Nat), 2, 51 + i, pri - z, 4, r⟩ : MoveD) hB12 (x11.trans x12).size ⟨by simp only; omega, by simp only; omega, by simp only; omega, by simp only; omega, by simp only; omega, by simp only; omega, by simp only; omega⟩ (by simp only [List.length_append, hlek]; omega) fun vm' w13 b13 k13 => ?_
          rw [List.append_assoc, List.append_assoc, ← hsi] at b13
          have q13 := hQ12.keepW k13 (hQ12.two hB12 (by decide))
          have r13 := (r11.ext x12).keep k13 hSx
          have X13 : Ext w3 w13 := Keep.ext (x11.trans x12) k13 fun b hb e => by have := (hB12.own_lt e.symm).1; omega
          (repeat with_reducible first | refine js ?_ | refine ja ?_ | refine jw KL68 [6, 21, 22, 23, 33] TF68 fun _ => ?_)
          refine Run_lp ⟨(i + 1, vm'), ?_, ⟨by simp only; omega, b13, q13, r13, X13⟩, by simp only; omega⟩
          simp [SubB, fnd, strike, has]
    · simp at h
      obtain rfl : i = l.length := by omega
      rw [← hCPs] at hB
      (repeat with_reducible first | refine js ?_ | refine ja ?_ | refine jw KL68 [6, 21, 22, 23, 33] TF68 fun _ => ?_)
      refine Run_lp ⟨(r + 1, vm), ?_, ⟨by simp only; omega, hB, hQ, x10⟩, by simp only; omega⟩
      simp [SubB, fnd, strike, has]
  simp at h
  obtain rfl : r = p.Runs.length := by omega
  have hCN := hCPl p.Runs.length (Nat.le_refl _)
  have hpre : ∀ r, Ec.posts t f l p l.length ++ (Au.cat (Au.runPays t f l p hd) p.Runs.length ++ Au.cat (Au.runCovs t f p hd) r) = CP p.Runs.length ++ Au.cat (Au.runCovs t f p hd) r := fun r => by simp only [hCP, List.append_assoc]
  have hprl := Au.pre_len hok hR
  have hcovl := fun r (hr : r ≤ p.Runs.length) => Au.catCovs_len hok r hr
  (repeat with_reducible first | refine js ?_ | refine ja ?_ | refine jw KL68 [6, 21, 22, 23, 33] TF68 fun _ => ?_)
  refine Run_loopV [11, 21, 22, 23, 171, 189] (σ := Nat × Value) (fun q => [(21, some (.int .i64 q.1)), (11, some q.2)]) (fun q w' => q.1 ≤ p.Runs.length ∧ BufO (α := MoveD) 70 B w' q.2 (Au.num 0 (CP p.Runs.length ++ Au.cat (Au.runCovs t f p hd) q.1)) ∧ Ext w3 w') (fun q => p.Runs.length - q.1) (0, vm) (by simp [SubB, fnd]) ⟨by simp, by simpa [Au.cat] using hB, x4⟩ ?_
  clear hB hQ x4 y4 p4
  rintro ⟨r, vm⟩ w4 ⟨hr, hB, x4⟩
  simp only at hr hB
  have y4 := x3.trans x4
  have p4 := P w4 x4
  (repeat with_reducible first | refine js ?_ | refine ja ?_ | refine jw KL68 [6, 21, 22, 23, 33] (aa TF68 (aa p4 (aa hP.r.s hP.r.len))) fun _ => ?_)
  refine Run_condS (fun _ => rfl) (fun h => ?_) (fun h => ?_)
  · simp at h
    have hrN := h
    obtain ⟨hhk, hhe⟩ := hok.h r hrN
    have hhg : hd.getD r 0 = hd[r]'(by omega) := by simp [List.getD_eq_getElem?_getD, show r < hd.length by omega]
    rw [hhg] at hhe
    obtain ⟨_, _, _, _, hlo⟩ := line_at ok (q := (r : Int)) (by omega) (by omega)
    have ox9 := hlo.o9
    have oxl := hlo.l1
    have hoff := (Tt.chk_ok ok.o.t).o
    have hxs := hlo.s
    have hxc := hlo.c
    obtain ⟨l0, l1, l2, l3, hC⟩ := lineC hl ok (q := (r : Int)) (by omega) (by omega)
    have hrn := hC.r
    have hn0 := hC.n0
    have hlnn := hC.n
    have hRR := hC.l
    have hone := hRR.one
    have hcs : Au.cat (Au.runCovs t f p hd) (r + 1) = Au.cat (Au.runCovs t f p hd) r ++ (List.range (Au.hn hd r)).map (Au.covM t f p r) := rfl
    have hcl := hcovl r hr
    have hcA := Au.covA_bd ok hrN
    have hcov := Au.cov_bd ok hrN
    have hche := Au.cheap_bd ok hrN
    have hcAe : Au.covA t f p r = p.Covers[r]'(by rw [ok.cl]; exact hrN) * Au.cheap f (Ec.lineP t p r).Classes := by
      unfold Au.covA; simp [List.getD_eq_getElem?_getD, show r < p.Covers.length by rw [ok.cl]; exact hrN]
    have hcg : p.Covers.getD r 0 = p.Covers[r]'(by rw [ok.cl]; exact hrN) := by simp [List.getD_eq_getElem?_getD, show r < p.Covers.length by rw [ok.cl]; exact hrN]
    rw [hcg] at hcov
    have hcM : ∀ k, Au.covM t f p r k = (⟨k, 1, 3 + (Ec.lineP t p r).Offices.getD k 0, Au.covA t f p r, 5, r⟩ : MoveD) := fun k => rfl
    have hms : ∀ k, (List.range (k + 1)).map (Au.covM t f p r) = (List.range k).map (Au.covM t f p r) ++ [Au.covM t f p r k] := fun k => by simp [List.range_succ]
    have hml : ∀ k, ((List.range k).map (Au.covM t f p r)).length = k := fun k => by simp
    have G : ∀ w', Ext w w' → AtN w' ((slAt v0).add (r * 3)) 0 p.Runs[r].cs ∧ AtN w' ((slAt vl).add (p.Runs[r].Line.toNat * 6)) 0 ((Ec.lineP t p r).cs l0 l1 l2 l3) := fun w' x => ⟨((hP.r.ext x).runD hrN).1, (hC.a.ext x).n⟩
    simp only [Int.toNat_natCast] at hn0 hlnn
    generalize hrr : p.Runs[r] = rr at *
    simp only [RunD.cs, LineD.cs, AtN, KS, Nat.reduceAdd, Nat.reduceMul, Nat.reduceEqDiff, ↓reduceIte, UT] at G
    simp only [LineD.cs] at hone
    generalize hxx : Ec.lineP t p (r : Int) = x at *
    generalize hhn : Au.hn hd r = n at *
    generalize hcc : Au.covA t f p r = cA at *
    generalize hCM : Au.covM t f p r = CM at *
    generalize hcat : Au.cat (Au.runCovs t f p hd) r = CR at *
    (repeat with_reducible first | refine jq ?_ | refine jk ?_ | refine jc ?_ | refine jl ?_ | refine jb ?_ | refine jo ?_ | refine ji ?_ | refine jx rfl ?_)
    refine Run_ec (id := 29) KL68 (.first 0 (.first 1 (.first 2 (.first 3 (.first 4 (.first 5 (.first 6 (.first 7 (.first 8 (.first 9 (.alt 10 (.alt 11 .done .stop) .stop))))))))))) mixed (by kernel_rfl) (by kernel_rfl) fun w5 x5 _ => ?_
    have y5 := y4.trans x5
    have t5 := T _ (x4.trans x5)
    have p5 := P _ (x4.trans x5)
    have g5 := G _ y5
    (try simp (maxSteps := 5000000) only [KS, Nat.reduceAdd, Nat.reduceMul, Nat.reduceEqDiff, ↓reduceIte, forall_const, Int.cast_ofNat_Int, Int.reduceToNat, List.take_succ_cons, List.take_zero, List.drop_succ_cons, List.drop_zero, TF68, KL68, ec, t5, p5, hP.r.s, hP.r.len, hl.s, hl.len, g5]); (try simp (disch := omega) only [wrapI, tmodI, tdivI])
    (try simp (maxSteps := 5000000) only [KS, Nat.reduceAdd, Nat.reduceMul, Nat.reduceEqDiff, ↓reduceIte, forall_const, Int.cast_ofNat_Int, Int.reduceToNat, List.take_succ_cons, List.take_zero, List.drop_succ_cons, List.drop_zero, TF68, KL68, ec, t5, p5, hP.r.s, hP.r.len, hl.s, hl.len, g5]); (try simp (disch := omega) only [wrapI, tmodI, tdivI])
    refine ⟨by omega, by omega, Ext.refl _, SemW_allocT ti52 fun px w8 h8 => ⟨h8.ext, ?_⟩⟩
    have b8 := h8.blk
    refine SemW_setW (by rw [cells52]; decide) (by rw [cells52]; rfl) h8.row (by rw [cells52]; rfl) (by simpa [Value.cells] using hone) fun w9 r9 k9 z9 => ?_
    have r9 : Row w9 px 52 (x.cs l0 l1 l2 l3) := by simpa [Value.cells, LineD.cs] using r9
    have x9 : Ext w5 w9 := Keep.ext h8.ext k9 fun q hq => by omega
    refine ⟨x9, ?_⟩
    have hB9 := hB.keep (Keep.of_ext (S := fun _ => True) (x5.trans x9)) fun _ _ _ => trivial
    have X9 := x4.trans (x5.trans x9)
    clear g5 t5 p5 p4 hB
    (repeat with_reducible first | refine js ?_ | refine ja ?_ | refine jw KL68 [6, 21, 22, 23, 33] TF68 fun _ => ?_)
    refine Run_loopV [11, 23, 189] (σ := Nat × Value) (fun q => [(23, some (.int .i64 q.1)), (11, some q.2)]) (fun q w' => q.1 ≤ n ∧ BufO (α := MoveD) 70 B w' q.2 (Au.num 0 (CP p.Runs.length ++ (CR ++ (List.range q.1).map CM))) ∧ Row w' px 52 (x.cs l0 l1 l2 l3) ∧ Ext w3 w') (fun q => n - q.1) (0, vm) (by simp [SubB, fnd]) ⟨by simp, by simpa using hB9, r9, X9⟩ ?_
    rintro ⟨k, vm⟩ w10 ⟨hk, hB, r10, x10⟩
    simp only at hk hB
    have y10 := x3.trans x10
    obtain ⟨c1, c2, -⟩ := (hh.ext y10).get (show r < hd.length by omega)
    rw [← hhe] at c1
    (repeat with_reducible first | refine js ?_ | refine ja ?_ | refine jw KL68 [6, 21, 22, 23, 33] (aa TF68 (aa hh.s (aa hh.len (aa c1 c2)))) fun _ => ?_)
    refine Run_condS (fun _ => rfl) (fun h => ?_) (fun h => ?_)
    · simp at h
      have hkl := h
      let S : Nat → Prop := fun k => some k ≠ vm.ownBlock
      have hS : ∀ q, q < B → S q := fun q hq e => by have := (hB.own_lt e.symm).1; omega
      have hSx : S px.block := hB.ne r10 (by decide)
      have hkc : r < p.Covers.length := by rw [ok.cl]; exact hrN
      have bP : pp.block < B := by have := h3.at_.blk; exact this
      have bF : pf.block < B := by have := h2.at_.blk; have := h3.size; show _ < w3.heap.size; omega
      have bC : (slAt v2).block < B := by have := hP.c.blk (by decide) hkc; have := x3.size; show _ < w3.heap.size; omega
      have bL : (slAt l0).block < B := by have := hRR.o.blk (by decide) (show k < x.Offices.length by omega); have := x3.size; show _ < w3.heap.size; omega
      have hof := hxs (x.Offices[k]'(by omega)) (List.getElem_mem _)
      have hgd : x.Offices.getD k 0 = x.Offices[k]'(by omega) := by simp [List.getD_eq_getElem?_getD, show k < x.Offices.length by omega]
      have hMk := hcM k
      rw [hgd] at hMk
      have hmk := hms k
      rw [hMk] at hmk
      have hcvl := hP.c.len
      (repeat with_reducible first | refine jq ?_ | refine jk ?_ | refine jc ?_ | refine jl ?_ | refine jb ?_ | refine jo ?_ | refine ji ?_ | refine jx rfl ?_)
      refine Run_eh S [18] [(2, [4, 5, 6, 18]), (5, [6, 18]), (8, [10, 11, 16, 18]), (11, [16, 18]), (12, [15, 18]), (14, [15, 18])] (id := 33) KL68 (.first 0 (.first 1 (.first 2 (.first 3 (.first 4 (.first 5 (.first 6 (.first 7 (.first 8 (.first 9 (.first 10 (.first 11 (.first 12 (.first 13 (.first 14 (.first 17 (.alt true 15 (.first 16 (.alt true 18 (.free (.first 19 .done)) .stop)) .stop))))))))))))))))) mixed (by kernel_rfl) (by kernel_rfl) fun w11 x11 _ => ?_
      have y11 := y10.trans x11
      have f11 := F w11 (x10.trans x11)
      have p11 := P w11 (x10.trans x11)
      have lx := (r10.ext x11).n
      obtain ⟨o1, o2, -⟩ := (hRR.o.ext y11).get (show k < x.Offices.length by omega)
      obtain ⟨m1, m2, -⟩ := (hP.c.ext y11).get hkc
      simp only [LineD.cs, AtN, KS, Nat.reduceAdd, Nat.reduceMul, Nat.reduceEqDiff, ↓reduceIte, UT] at lx
      (try simp (maxSteps := 5000000) only [KS, Nat.reduceAdd, Nat.reduceMul, Nat.reduceEqDiff, ↓reduceIte, forall_const, Int.cast_ofNat_Int, Int.reduceToNat, List.take_succ_cons, List.take_zero, List.drop_succ_cons, List.drop_zero, TF68, KL68, eh, gres, qopS, putL, ung, f11, p11, lx, hRR.o.s, hRR.o.len, o1, o2, hP.c.s, hcvl, m1, m2]); (try simp (disch := omega) only [wrapI, tmodI, tdivI])
      generalize x.Offices[k]'(by omega) = off at *
      refine ⟨hSx, by omega, hS _ (by rw [blk_add]; exact bL), hS _ (by rw [blk_add]; exact bP), by omega, hS _ (by rw [blk_add]; exact bC), hS _ bF, by rw [blk_add]; exact hSx, Keep.refl _ _, ?_⟩
      refine CallW_pure call123 (rfCheap f u0 u1 u2 x.Classes w11 (hT.ext y11) ok.o.f (by omega)) fun w12 x12 => ?_
      refine ⟨rfl, Keep.of_ext x12, ?_⟩
      have hiof : iOf (.int .i64 (Au.cheap f x.Classes)) = Au.cheap f x.Classes := rfl
      rw [hiof, ← hcAe, wrapI (by omega) (by omega)]
      have x112 := x11.trans x12
      have hB12 := hB.keep (Keep.of_ext (S := fun _ => True) x112) fun _ _ _ => trivial
      refine askW (B := B) (⟨k, 1, 3 + off, cA, 5, r⟩ : MoveD) hB12 (x10.trans x112).size ⟨by simp only; omega, by simp only; omega, by simp only; omega, by simp only; omega, by simp only; omega, by simp only; omega, by simp only; omega⟩ (by simp only [List.length_append, hml]; omega) fun vm' w13 b13 k13 => ?_
      rw [List.append_assoc, List.append_assoc, ← hmk] at b13
      have r13 := (r10.ext x112).keep k13 hSx
      have X13 : Ext w3 w13 := Keep.ext (x10.trans x112) k13 hS
      (repeat with_reducible first | refine js ?_ | refine ja ?_ | refine jw KL68 [6, 21, 22, 23, 33] TF68 fun _ => ?_)
      refine Run_lp ⟨(k + 1, vm'), ?_, ⟨by simp only; omega, b13, r13, X13⟩, by simp only; omega⟩
      simp [SubB, fnd, strike, has]
    · simp at h
      obtain rfl : k = n := by omega
      rw [← hcs] at hB
      (repeat with_reducible first | refine js ?_ | refine ja ?_ | refine jw KL68 [6, 21, 22, 23, 33] TF68 fun _ => ?_)
      refine Run_lp ⟨(r + 1, vm), ?_, ⟨by simp only; omega, hB, x10⟩, by simp only; omega⟩
      simp [SubB, fnd, strike, has]
  simp at h
  obtain rfl : r = p.Runs.length := by omega
  rw [← hpre] at hB
  have hBpre : Ec.posts t f l p l.length ++ (Au.cat (Au.runPays t f l p hd) p.Runs.length ++ Au.cat (Au.runCovs t f p hd) p.Runs.length) = Au.pre t f l p hd := rfl
  rw [hBpre] at hB
  have hmv := Au.pre_mv hok hR
  have hone1 := Au.pre_one hok hR
  have hbook : Au.book t f l p hd = Au.num 0 (if Ec.eff (Au.pre t f l p hd) 1 < 0 then Au.pre t f l p hd else Au.asked t f l p hd) := rfl
  have hask : Au.asked t f l p hd = Au.pre t f l p hd ++ Au.shs (Ec.eff (Au.pre t f l p hd) 1) l.length := rfl
  have hnum := Au.num_eff 1 (Au.pre t f l p hd) 0
  rw [hbook]
  rw [hask]
  clear hbook hask hpre hBpre hCN hCPl hCP hCP0 hcovl
  generalize Au.pre t f l p hd = pr at *
  generalize hae : Ec.eff pr 1 = a at *
  have hBs := hB.sl (by rw [Au.num_len]; omega)
  (repeat with_reducible first | refine js ?_ | refine ja ?_ | refine jw KL68 [6, 21, 22, 23, 33] TF68 fun _ => ?_)
  refine CallW_pure call69 (rfFund42 vm (Au.num 0 pr) w4 hBs (fun m hm => (Au.num_mv hmv 0 m hm).ok) (by rw [Au.num_len]; omega)) fun w5 x5 => ?_
  rw [hnum]
  (repeat with_reducible first | refine js ?_ | refine ja ?_ | refine jw KL68 [6, 21, 22, 23, 33] TF68 fun _ => ?_)
  refine Run_condS (fun _ => rfl) (fun h => ?_) (fun h => ?_)
  · simp at h
    rw [if_pos h]
    (repeat with_reducible first | refine js ?_ | refine ja ?_ | refine jw KL68 [6, 21, 22, 23, 33] TF68 fun _ => ?_)
    refine Run_ret ?_
    simp only [Rets, RetM, resV, fnd, oneOr, ↓reduceIte]
    exact ⟨_, rfl, vm, rfl, y4.trans x5, hBs.ext x5⟩
  simp at h
  have ha := h
  rw [if_neg (by omega)]
  clear h
  have hsm := fun hl1 => Au.shs_mv (a := a) (n := l.length) (by omega) hl1
  have hB5 := hB.keep (Keep.of_ext (S := fun _ => True) x5) fun _ _ _ => trivial
  (repeat with_reducible first | refine js ?_ | refine ja ?_ | refine jw KL68 [6, 21, 22, 23, 33] TF68 fun _ => ?_)
  refine Run_loopV [11, 25, 26, 219, 227] (σ := Nat × Value) (fun q => [(25, some (.int .i64 q.1)), (11, some q.2)]) (fun q w' => q.1 ≤ l.length ∧ BufO (α := MoveD) 70 B w' q.2 (Au.num 0 (pr ++ (List.range q.1).map (Au.shM a l.length))) ∧ Ext w3 w') (fun q => l.length - q.1) (0, vm) (by simp [SubB, fnd]) ⟨by simp, by simpa using hB5, x4.trans x5⟩ ?_
  clear hB hB5 hBs y4 x4 x5 p4
  rintro ⟨i, vm⟩ w6 ⟨hi, hB, x6⟩
  simp only at hi hB
  (repeat with_reducible first | refine js ?_ | refine ja ?_ | refine jw KL68 [6, 21, 22, 23, 33] (aa TF68 (aa ho.s ho.len)) fun _ => ?_)
  refine Run_condS (fun _ => rfl) (fun h => ?_) (fun h => ?_)
  · simp at h
    have hil := h
    have hq : a.tdiv l.length = a / l.length := Int.tdiv_eq_ediv_of_nonneg ha
    have hm : a.tmod l.length = a % l.length := Int.tmod_eq_emod_of_nonneg ha
    have hsM : Au.shM a l.length i = (⟨i, 1, 51 + i, a / l.length + (if (i : Int) < a % l.length then 1 else 0), 6, -1⟩ : MoveD) := by unfold Au.shM; rw [hq, hm]
    have hsv := (hsm (by omega) (Au.shM a l.length i) (by unfold Au.shs; exact List.mem_map_of_mem (by simpa using hil))).1
    have hms : (List.range (i + 1)).map (Au.shM a l.length) = (List.range i).map (Au.shM a l.length) ++ [Au.shM a l.length i] := by simp [List.range_succ]
    have hml : ((List.range i).map (Au.shM a l.length)).length = i := by simp
    rw [hsM] at hsv hms
    have hd0 : 0 ≤ a / l.length := Int.ediv_nonneg ha (by omega)
    have hd1 : a / l.length ≤ a := Int.ediv_le_self _ ha
    (repeat with_reducible first | refine js ?_ | refine ja ?_ | refine jw KL68 [6, 21, 22, 23, 33] (aa TF68 (aa ho.s ho.len)) fun _ => ?_)
    refine Run_cutV [26, 227] (σ := Unit) (fun _ => [(26, some (.int .i64 (if (i : Int) < a % l.length then 1 else 0)))]) (fun _ w' => w' = w6) ?_ ?_
    · refine Run_condS (fun _ => rfl) (fun h => ?_) (fun h => ?_)
      · simp only [decide_eq_true_eq] at h
        (repeat with_reducible first | refine js ?_ | refine ja ?_ | refine jw KL68 [6, 21, 22, 23, 33] TF68 fun _ => ?_)
        refine Run_lp ⟨(), ?_, rfl⟩
        rw [if_pos h]; simp [SubB, fnd, strike, has]
      · simp only [decide_eq_false_iff_not] at h
        (repeat with_reducible first | refine js ?_ | refine ja ?_ | refine jw KL68 [6, 21, 22, 23, 33] TF68 fun _ => ?_)
        refine Run_lp ⟨(), ?_, rfl⟩
        rw [if_neg h]; simp [SubB, fnd, strike, has]
    rintro _ w7 rfl
    have hmo : 0 ≤ (if (i : Int) < a % l.length then (1 : Int) else 0) ∧ (if (i : Int) < a % l.length then (1 : Int) else 0) ≤ 1 := by split <;> omega
    generalize (if (i : Int) < a % l.length then (1 : Int) else 0) = more at *
    (repeat with_reducible first | refine js ?_ | refine ja ?_ | refine jw KL68 [6, 21, 22, 23, 33] (aa TF68 (aa ho.s ho.len)) fun _ => ?_)
    generalize a / (l.length : Int) = qq at *
    refine askW (B := B) (⟨i, 1, 51 + i, qq + more, 6, -1⟩ : MoveD) hB x6.size hsv (by simp only [List.length_append, hml]; omega) fun vm' w13 b13 k13 => ?_
    rw [List.append_assoc, ← hms] at b13
    have X13 : Ext w3 w13 := Keep.ext x6 k13 fun b hb e => by have := (hB.own_lt e.symm).1; omega
    (repeat with_reducible first | refine js ?_ | refine ja ?_ | refine jw KL68 [6, 21, 22, 23, 33] TF68 fun _ => ?_)
    refine Run_lp ⟨(i + 1, vm'), ?_, ⟨by simp only; omega, b13, X13⟩, by simp only; omega⟩
    simp [SubB, fnd, strike, has]
  · simp at h
    obtain rfl : i = l.length := by omega
    (repeat with_reducible first | refine js ?_ | refine ja ?_ | refine jw KL68 [6, 21, 22, 23, 33] TF68 fun _ => ?_)
    refine Run_ret ?_
    simp only [Rets, RetM, resV, fnd, oneOr, ↓reduceIte]
    exact ⟨_, rfl, vm, rfl, x3.trans x6, hB.sl (by simp only [Au.num_len, List.length_append, List.length_map, List.length_range]; omega)⟩
end Go.Proofs.YtoadfmgnpmcbfaaGreat
