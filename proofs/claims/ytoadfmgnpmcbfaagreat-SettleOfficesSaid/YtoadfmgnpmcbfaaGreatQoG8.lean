import Derived.Test.YtoadfmgnpmcbfaaGreatQoG7
import Derived.Test.YtoadfmgnpmcbfaaGreatQoW39e
import Derived.Test.YtoadfmgnpmcbfaaGreatQoG5
import Derived.RecoverIn
import Derived.Test.YtoadfmgnpmcbfaaGreatQoGq
/- Chapter 41: the parts of a period. -/
namespace Go.Proofs.YtoadfmgnpmcbfaaGreat
open Go Go.Fk
set_option linter.unusedSimpArgs false
set_option linter.unusedVariables false
set_option maxRecDepth 100000
/-- what a period is asked with, and the boxes where it lies -/
structure SetE (w : World) (pt pf pl pp ph : Addr) (vl u0 u1 u2 vo v0 v1 v2 vh : Value) (t : TimeD) (f : TariffD) (l : List OrderD) (p : PlanD) (h : List Int) : Prop where
  at_ : At w pt (t.cs vl)
  af : At w pf (f.cs u0 u1 u2)
  al : At w pl [vo]
  ap : At w pp (p.cs v0 v1 v2)
  ah : At w ph [vh]
  hl : Sl w vl t.Lines
  hT : TarR w f u0 u1 u2
  ho : Sl w vo l
  hP : PlanR w p v0 v1 v2
  hh : Sl w vh h
theorem SetE.ext {w w' : World} {pt pf pl pp ph : Addr} {vl u0 u1 u2 vo v0 v1 v2 vh : Value} {t : TimeD} {f : TariffD} {l : List OrderD} {p : PlanD} {h : List Int} (E : SetE w pt pf pl pp ph vl u0 u1 u2 vo v0 v1 v2 vh t f l p h) (x : Ext w w') : SetE w' pt pf pl pp ph vl u0 u1 u2 vo v0 v1 v2 vh t f l p h :=
  ⟨E.at_.ext x, E.af.ext x, E.al.ext x, E.ap.ext x, E.ah.ext x, E.hl.ext x, E.hT.ext x, E.ho.ext x, E.hP.ext x, E.hh.ext x⟩
/-- a period under way: its book, the box of its pointer, and nothing of what was before it has changed -/
structure SetP (wA : World) (B : Nat) (pb pc : Addr) (vh : Value) (s : Au.Bs) (w : World) : Prop where
  e : Ext wA w
  c : At w pc [.pointer (some pb)]
  r : PdR B w pb s vh
  b1 : wA.heap.size ≤ pb.block
  b2 : pb.block < B
  b3 : pc.block < B
  b4 : pc.block ≠ pb.block
  b5 : B ≤ w.heap.size
theorem PdR.ext {B : Nat} {w w' : World} {pb : Addr} {s : Au.Bs} {vh : Value} (h : PdR B w pb s vh) (x : Ext w w') : PdR B w' pb s vh := by
  obtain ⟨vm, h1, h2⟩ := h.ex
  exact ⟨vm, h1.ext x, h2.keepQ (Keep.of_ext (S := fun _ => True) x) fun _ _ => trivial⟩
theorem SetP.ext {wA : World} {B : Nat} {pb pc : Addr} {vh : Value} {s : Au.Bs} {w w' : World} (h : SetP wA B pb pc vh s w) (x : Ext w w') : SetP wA B pb pc vh s w' :=
  ⟨h.e.trans x, h.c.ext x, h.r.ext x, h.b1, h.b2, h.b3, h.b4, by have := x.size; have := h.b5; omega⟩
theorem SetP.go {wA : World} {B : Nat} {pb pc : Addr} {vh : Value} {s s' : Au.Bs} {w w' : World} (h : SetP wA B pb pc vh s w) (k : Keep (fun b => b < B ∧ b ≠ pb.block) w w') (hr : PdR B w' pb s' vh) : SetP wA B pb pc vh s' w' :=
  ⟨Keep.ext h.e k fun b hb => by have := h.b1; have := h.b2; omega, h.c.keep k ⟨h.b3, h.b4⟩, hr, h.b1, h.b2, h.b3, h.b4, by have := k.size; have := h.b5; omega⟩
/-- a book that is not too large -/
def BsOk (s : Au.Bs) (n : Nat) : Prop := (0 ≤ s.2 ∧ s.2 ≤ 1152921504606846976) ∧ s.1.length + n ≤ 65536
/-- what may be added -/
def MvsOk (r : List MoveD × Int) : Prop := ∀ m ∈ r.1, 0 ≤ m.Amount ∧ m.Amount ≤ 1099511627776
/-- (*book).add, called for what a call has returned -/
theorem addW {wA wC : World} {B : Nat} {pb pc : Addr} {vh vl : Value} {s : Au.Bs} {r : List MoveD × Int} {w : World} {K : Value → World → Prop} {Kp : List PanicEntry → World → Prop} {e : Int} (hS : SetP wA B pb pc vh s wC) (x : Ext wC w) (hl : BufO (α := MoveD) 70 wC.heap.size w vl r.1) (he : e = r.2) (hI : MvsOk r) (hs : BsOk s r.1.length)
    (hK : ∀ w', Keep (fun b => b < B ∧ b ≠ pb.block) wC w' → (∀ s', Au.add s r = .ok s' → PdR B w' pb s' vh → K (.tuple #[]) w') ∧ ∀ x, Au.add s r = .error x → Kp [{ v := .iface 36 (.int .i64 x), recovered := false }] w') :
    CallWP Tryz.prog (.func (.func 77) #[] #[]) [.pointer (some pb), vl, .int .i64 e] w K Kp := by
  subst he
  obtain ⟨vm, h1, h2⟩ := hS.r.ex
  have := hS.b5
  refine CallWP_of call77 (stAdd pb s r vl vh vm B wC.heap.size w (h1.ext x) (h2.keepQ (Keep.of_ext (S := fun _ => True) x) fun _ _ => trivial) (fun g hg => (h2.own_lt hg).2) hl hS.b2 hS.b5 x.size hI hs.1 hs.2) fun e w' ⟨k, hq⟩ => ?_
  have hK := hK w' ((Keep.of_ext x).trans k)
  split at hq
  · rename_i s' hs'
    exact .inl ⟨_, hq.1, hK.1 s' hs' hq.2⟩
  · rename_i x' hx'
    exact .inr ⟨_, hq, hK.2 x' hx'⟩
section
variable {wA w : World} {pt pf pl pp ph pb pc : Addr} {vl u0 u1 u2 vo v0 v1 v2 vh : Value} {t : TimeD} {f : TariffD} {l : List OrderD} {p : PlanD} {h : List Int} {B : Nat} {s : Au.Bs}
set_option maxHeartbeats 4000000 in
theorem stPost (E : SetE wA pt pf pl pp ph vl u0 u1 u2 vo v0 v1 v2 vh t f l p h) (hS : SetP wA B pb pc vh s w) (hs : BsOk s (Ec.post t f l p).1.length) (hI : MvsOk (Ec.post t f l p)) :
    Calls Tryz.prog 76 #[.pointer (some pc), .pointer (some pt), .pointer (some pf), .pointer (some pl), .pointer (some pp)] w (PdQ B w pb vh (Au.add s (Ec.post t f l p))) := by
  refine Calls_of_RunP (args := [.pointer (some pc), .pointer (some pt), .pointer (some pf), .pointer (some pl), .pointer (some pp)]) (n := 16) (rs := []) Tryz.func76 rfl rfl rfl (by simp) ?_
  (repeat with_reducible first | refine jq ?_ | refine jk ?_ | refine jc ?_ | refine jl ?_ | refine jb ?_ | refine jo ?_ | refine ji ?_ | refine jx rfl ?_)
  refine Run_ecL (id := 0) KL76 10 (.first 0 (.first 3 (.first 4 (.first 5 (.first 6 (.alt 1 (.first 2 (.alt 7 (.first 8 (.first 9 .done)) .stop)) (.alt 7 (.first 8 (.first 9 (.alt 1 (.first 2 .done) .stop))) .stop))))))) mixed rfl rfl (by kernel_rfl) (by kernel_rfl) (by kernel_rfl) fun w1 x1 _ => ?_
  have S1 := hS.ext x1
  have E1 := E.ext S1.e
  have c1 := S1.c.n
  have a1 := E1.at_.n
  have a2 := E1.af.n
  have a3 := E1.al.n
  have a4 := E1.ap.n
  simp only [TimeD.cs, TariffD.cs, PlanD.cs, AtN, KS, Nat.reduceAdd, Nat.reduceMul, Nat.reduceEqDiff, ↓reduceIte, UT] at c1 a1 a2 a3 a4
  (try simp (maxSteps := 5000000) only [KS, Nat.reduceAdd, Nat.reduceMul, Nat.reduceEqDiff, ↓reduceIte, forall_const, Int.cast_ofNat_Int, Int.reduceToNat, List.take_succ_cons, List.take_zero, List.drop_succ_cons, List.drop_zero, TF76, KL76, ec, c1, a1, a2, a3, a4, cF, cA, dstL]); (try simp (disch := omega) only [wrapI, tmodI, tdivI])
  have hcall : ∀ K : Value → World → Prop, (∀ v w', Ext w1 w' → BufO (α := MoveD) 70 w1.heap.size w' v (Ec.post t f l p).1 → K (.tuple #[v, .int .i64 (Ec.post t f l p).2]) w') → CallW Tryz.prog (.func (.func 18) #[] #[]) [.agg #[.int .i64 t.Offices, vl], .agg #[u0, u1, u2], vo, .agg #[v0, v1, v2]] w1 K :=
    fun K hK => CallW_cl call18 (esPostO vl u0 u1 u2 vo v0 v1 v2 t f l p w1 E1.hl E1.hT E1.ho E1.hP) (fun e w' ⟨v, he, x, _, b⟩ => ⟨_, he, hK v w' x b⟩) (he := by simp [TimeD.cs, TariffD.cs, PlanD.cs])
  generalize Ec.post t f l p = r at *
  have fin : ∀ (v : Value) (w2 : World) (L L' : FL), Ext w1 w2 → BufO (α := MoveD) 70 w1.heap.size w2 v r.1 → CallWP Tryz.prog (.func (.func 77) #[] #[]) [.pointer (some pb), v, .int .i64 r.2] w2 (fun x w'' => Run Tryz.prog none 16 [] [] L w'' (RetsP Tryz.prog [] (PdQ B w pb vh (Au.add s r)))) fun ch w'' => RetsP Tryz.prog [] (PdQ B w pb vh (Au.add s r)) (Exit.panic ch) [] L' w'' := fun v w2 L L' x2 b2 => by
    refine addW S1 x2 b2 rfl hI hs fun w3 k3 => ⟨fun s' hs' hr => ?_, fun x hx => ?_⟩
    · refine Run_nil ?_
      simp only [RetsP, RetM, resV, fnd, oneOr, ↓reduceIte, hs']
      exact ⟨(Keep.of_ext x1).trans k3, rfl, hr⟩
    · simp only [RetsP, PdQ, hx]
      exact ⟨trivial, (Keep.of_ext x1).trans k3, trivial⟩
  refine ⟨Ext.refl _, ⟨Ext.refl _, ?_⟩, Ext.refl _, ?_⟩
  · refine hcall _ fun v w2 x2 b2 => ?_
    (try simp (maxSteps := 5000000) only [KS, Nat.reduceAdd, Nat.reduceMul, Nat.reduceEqDiff, ↓reduceIte, forall_const, Int.cast_ofNat_Int, Int.reduceToNat, List.take_succ_cons, List.take_zero, List.drop_succ_cons, List.drop_zero, TF76, KL76, ec]); (try simp (disch := omega) only [wrapI, tmodI, tdivI])
    exact ⟨by decide, by decide, x2, fin _ _ _ _ x2 b2⟩
  · refine hcall _ fun v w2 x2 b2 => ?_
    (try simp (maxSteps := 5000000) only [KS, Nat.reduceAdd, Nat.reduceMul, Nat.reduceEqDiff, ↓reduceIte, forall_const, Int.cast_ofNat_Int, Int.reduceToNat, List.take_succ_cons, List.take_zero, List.drop_succ_cons, List.drop_zero, TF76, KL76, ec]); (try simp (disch := omega) only [wrapI, tmodI, tdivI])
    exact ⟨by decide, by decide, x2, x2, fin _ _ _ _ x2 b2⟩
set_option maxHeartbeats 4000000 in
theorem stLen (E : SetE wA pt pf pl pp ph vl u0 u1 u2 vo v0 v1 v2 vh t f l p h) (hS : SetP wA B pb pc vh s w) :
    Calls Tryz.prog 78 #[.pointer (some ph), .pointer (some pp)] w (PdQ B w pb vh (Au.lenG p h s)) := by
  have E1 := E.ext hS.e
  have a4 := E1.ap.n
  have a5 := E1.ah.n
  have e1 := E1.hh.len
  have e2 := E1.hP.r.len
  simp only [TimeD.cs, TariffD.cs, PlanD.cs, AtN, KS, Nat.reduceAdd, Nat.reduceMul, Nat.reduceEqDiff, ↓reduceIte, UT] at a4 a5
  obtain ⟨hd, rfl⟩ : ∃ x, x = h := ⟨_, rfl⟩
  refine Calls_of_RunP (args := [.pointer (some ph), .pointer (some pp)]) (n := 9) (rs := []) Tryz.func78 rfl rfl rfl (by simp) ?_
  (repeat with_reducible first | refine js ?_ | refine ja ?_ | refine jw KL78 [] (aa TF78 (aa a4 (aa a5 (aa E1.hh.s (aa e1 (aa E1.hP.r.s e2)))))) fun _ => ?_)
  refine Run_condS (fun _ => rfl) (fun h => ?_) (fun h => ?_)
  · have hc : hd.length ≠ p.Runs.length := by simp at h; omega
    (repeat with_reducible first | refine jq ?_ | refine jk ?_ | refine jc ?_ | refine jl ?_ | refine jb ?_ | refine jo ?_ | refine ji ?_ | refine jx rfl ?_)
    refine Run_lastPanic (id := 1) 1 rfl rfl rfl (by kernel_rfl) (by kernel_rfl) fun _ => ?_
    (try simp (maxSteps := 5000000) only [KS, Nat.reduceAdd, Nat.reduceMul, Nat.reduceEqDiff, ↓reduceIte, forall_const, Int.cast_ofNat_Int, Int.reduceToNat, List.take_succ_cons, List.take_zero, List.drop_succ_cons, List.drop_zero, TF78, KL78]); (try simp (disch := omega) only [wrapI, tmodI, tdivI])
    refine ⟨_, run_panic_iface _ _, ?_⟩
    simp [RetsP, PdQ, Au.lenG, hc]
    exact Keep.refl _ _
  · have hc : hd.length = p.Runs.length := by simp at h; omega
    (repeat with_reducible first | refine js ?_ | refine ja ?_ | refine jw KL78 [] TF78 fun _ => ?_)
    refine Run_nil ?_
    simp [RetsP, RetM, resV, fnd, oneOr, PdQ, Au.lenG, hc]
    exact ⟨Keep.refl _ _, hS.r⟩
set_option maxHeartbeats 4000000 in
theorem stPay (E : SetE wA pt pf pl pp ph vl u0 u1 u2 vo v0 v1 v2 vh t f l p h) (x : Ext wA w) (run hd : Int) (hr : I64 run) :
    Calls Tryz.prog 80 #[.int .i64 run, .int .i64 hd, .pointer (some pt), .pointer (some pf), .pointer (some pl), .pointer (some pp)] w (MvRO w (Ec.pay t f l p run hd)) := by
  have E1 := E.ext x
  have a1 := E1.at_.n
  have a2 := E1.af.n
  have a3 := E1.al.n
  have a4 := E1.ap.n
  simp only [TimeD.cs, TariffD.cs, PlanD.cs, AtN, KS, Nat.reduceAdd, Nat.reduceMul, Nat.reduceEqDiff, ↓reduceIte, UT] at a1 a2 a3 a4
  refine Calls_of_Run (args := [.int .i64 run, .int .i64 hd, .pointer (some pt), .pointer (some pf), .pointer (some pl), .pointer (some pp)]) (n := 19) (rs := [.tmp 8, .tmp 9]) Tryz.func80 rfl rfl rfl (by simp) ?_
  (repeat with_reducible first | refine js ?_ | refine ja ?_ | refine jw KL80 [] (aa TF80 (aa a1 (aa a2 (aa a3 a4)))) fun _ => ?_)
  refine CallW_cl call21 (esPayO vl u0 u1 u2 vo v0 v1 v2 t f l p run hd w E1.hl E1.hT E1.ho E1.hP hr) (fun e w' ⟨v, he, x2, s2, b2⟩ => ⟨_, he, ?_⟩) (he := by simp [TimeD.cs, TariffD.cs, PlanD.cs])
  (repeat with_reducible first | refine js ?_ | refine ja ?_ | refine jw KL80 [] TF80 fun _ => ?_)
  refine Run_ret ?_
  simp [Rets, RetM, resV, fnd, oneOr, MvRO]
  exact ⟨x2, s2, b2⟩
set_option maxHeartbeats 4000000 in
theorem stCov (E : SetE wA pt pf pl pp ph vl u0 u1 u2 vo v0 v1 v2 vh t f l p h) (x : Ext wA w) (run hd : Int) (hr : I64 run) :
    Calls Tryz.prog 81 #[.int .i64 run, .int .i64 hd, .pointer (some pt), .pointer (some pf), .pointer (some pp)] w (MvRO w (Fd.cover t f p run hd)) := by
  have E1 := E.ext x
  have a1 := E1.at_.n
  have a2 := E1.af.n
  have a4 := E1.ap.n
  simp only [TimeD.cs, TariffD.cs, PlanD.cs, AtN, KS, Nat.reduceAdd, Nat.reduceMul, Nat.reduceEqDiff, ↓reduceIte, UT] at a1 a2 a4
  refine Calls_of_Run (args := [.int .i64 run, .int .i64 hd, .pointer (some pt), .pointer (some pf), .pointer (some pp)]) (n := 17) (rs := [.tmp 7, .tmp 8]) Tryz.func81 rfl rfl rfl (by simp) ?_
  (repeat with_reducible first | refine js ?_ | refine ja ?_ | refine jw KL81 [] (aa TF81 (aa a1 (aa a2 a4))) fun _ => ?_)
  refine CallW_cl call82 (fdCoverO vl v0 v1 v2 u0 u1 u2 t f p run hd w E1.hl E1.hT E1.hP hr) (fun e w' ⟨v, he, x2, s2, b2⟩ => ⟨_, he, ?_⟩) (he := by simp [TimeD.cs, TariffD.cs, PlanD.cs])
  (repeat with_reducible first | refine js ?_ | refine ja ?_ | refine jw KL81 [] TF81 fun _ => ?_)
  refine Run_ret ?_
  simp [Rets, RetM, resV, fnd, oneOr, MvRO]
  exact ⟨x2, s2, b2⟩
set_option maxHeartbeats 4000000 in
theorem stShare (E : SetE wA pt pf pl pp ph vl u0 u1 u2 vo v0 v1 v2 vh t f l p h) (hS : SetP wA B pb pc vh s w) (hs : 0 < l.length → BsOk s (Fd.share s.2 l.length).1.length) (hI : 0 < l.length → MvsOk (Fd.share s.2 l.length)) :
    Calls Tryz.prog 83 #[.pointer (some pl), .pointer (some pc)] w (PdQ B w pb vh (Au.shG l s)) := by
  have E0 := E.ext hS.e
  have a3 := E0.al.n
  simp only [AtN, KS, Nat.reduceAdd, Nat.reduceMul, Nat.reduceEqDiff, ↓reduceIte, UT] at a3
  refine Calls_of_RunP (args := [.pointer (some pl), .pointer (some pc)]) (n := 19) (rs := []) Tryz.func83 rfl rfl rfl (by simp) ?_
  (repeat with_reducible first | refine js ?_ | refine ja ?_ | refine jw KL83 [1] (aa TF83 (aa a3 (aa E0.ho.s E0.ho.len))) fun _ => ?_)
  refine Run_condS (fun _ => rfl) (fun h => ?_) (fun h => ?_)
  · have hl0 : 0 < l.length := by simpa using h
    have hs := hs hl0
    have hI := hI hl0
    have hsh : Au.shG l s = Au.add s (Fd.share s.2 l.length) := by unfold Au.shG; rw [if_pos hl0]
    rw [hsh]
    (repeat with_reducible first | refine jq ?_ | refine jk ?_ | refine jc ?_ | refine jl ?_ | refine jb ?_ | refine jo ?_ | refine ji ?_ | refine jx rfl ?_)
    refine Run_ecL (id := 1) KL83 13 (.first 0 (.first 3 (.first 8 (.first 9 (.alt 1 (.first 2 (.alt 4 (.first 5 (.first 6 (.first 7 (.alt 10 (.first 11 (.first 12 .done)) .stop)))) .stop)) (.alt 4 (.first 5 (.first 6 (.first 7 (.alt 1 (.first 2 (.alt 10 (.first 11 (.first 12 .done)) .stop)) (.alt 10 (.first 11 (.first 12 (.alt 1 (.first 2 .done) .stop))) .stop))))) .stop)))))) mixed rfl rfl (by kernel_rfl) (by kernel_rfl) (by kernel_rfl) fun w1 x1 _ => ?_
    have S1 := hS.ext x1
    have E1 := E.ext S1.e
    obtain ⟨vm, rb, _⟩ := S1.r.ex
    have c1 := S1.c.n
    have c2 := rb.n
    have a3 := E1.al.n
    simp only [AtN, KS, Nat.reduceAdd, Nat.reduceMul, Nat.reduceEqDiff, ↓reduceIte, UT] at c1 c2 a3
    (try simp (maxSteps := 5000000) only [KS, Nat.reduceAdd, Nat.reduceMul, Nat.reduceEqDiff, ↓reduceIte, forall_const, Int.cast_ofNat_Int, Int.reduceToNat, List.take_succ_cons, List.take_zero, List.drop_succ_cons, List.drop_zero, TF83, KL83, ec, c1, c2, a3, E1.ho.s, E1.ho.len, cF, cA, dstL]); (try simp (disch := omega) only [wrapI, tmodI, tdivI])
    have hcall : ∀ K : Value → World → Prop, (∀ v w', Ext w1 w' → BufO (α := MoveD) 70 w1.heap.size w' v (Fd.share s.2 l.length).1 → K (.tuple #[v, .int .i64 (Fd.share s.2 l.length).2]) w') → CallW Tryz.prog (.func (.func 84) #[] #[]) [.int .i64 s.2, .int .i64 l.length] w1 K :=
      fun K hK => CallW_cl call84 (fdShareO s.2 l.length w1) fun e w' ⟨v, he, x, _, b⟩ => ⟨_, he, hK v w' x b⟩
    generalize Fd.share s.2 l.length = r at *
    have fin : ∀ (v : Value) (w2 : World) (L L' : FL), Ext w1 w2 → BufO (α := MoveD) 70 w1.heap.size w2 v r.1 → CallWP Tryz.prog (.func (.func 77) #[] #[]) [.pointer (some pb), v, .int .i64 r.2] w2 (fun x w'' => Run Tryz.prog none 19 [] [] L w'' (RetsP Tryz.prog [] (PdQ B w pb vh (Au.add s r)))) fun ch w'' => RetsP Tryz.prog [] (PdQ B w pb vh (Au.add s r)) (Exit.panic ch) [] L' w'' := fun v w2 L L' x2 b2 => by
      refine addW S1 x2 b2 rfl hI hs fun w3 k3 => ⟨fun s' hs' hr => ?_, fun x hx => ?_⟩
      · refine Run_nil ?_
        simp only [RetsP, RetM, resV, fnd, oneOr, ↓reduceIte, hs']
        exact ⟨(Keep.of_ext x1).trans k3, rfl, hr⟩
      · simp only [RetsP, PdQ, hx]
        exact ⟨trivial, (Keep.of_ext x1).trans k3, trivial⟩
    refine ⟨Ext.refl _, ⟨Ext.refl _, Ext.refl _, ?_⟩, Ext.refl _, Ext.refl _, ⟨Ext.refl _, ?_⟩, Ext.refl _, ?_⟩
    all_goals
      refine hcall _ fun v w2 x2 b2 => ?_
      (try simp (maxSteps := 5000000) only [KS, Nat.reduceAdd, Nat.reduceMul, Nat.reduceEqDiff, ↓reduceIte, forall_const, Int.cast_ofNat_Int, Int.reduceToNat, List.take_succ_cons, List.take_zero, List.drop_succ_cons, List.drop_zero, TF83, KL83, ec]); (try simp (disch := omega) only [wrapI, tmodI, tdivI])
      first | exact ⟨by decide, by decide, x2, fin _ _ _ _ x2 b2⟩ | exact ⟨by decide, by decide, x2, x2, fin _ _ _ _ x2 b2⟩
  · have hl0 : ¬ 0 < l.length := by simpa using h
    (repeat with_reducible first | refine js ?_ | refine ja ?_ | refine jw KL83 [1] TF83 fun _ => ?_)
    refine Run_nil ?_
    simp [RetsP, RetM, resV, fnd, oneOr, PdQ, Au.shG, hl0]
    exact ⟨Keep.refl _ _, hS.r⟩
end
end Go.Proofs.YtoadfmgnpmcbfaaGreat
/- Chapter 41: each run in its turn. -/
namespace Go.Proofs.YtoadfmgnpmcbfaaGreat
open Go Go.Fk
set_option linter.unusedSimpArgs false
set_option linter.unusedVariables false
set_option maxRecDepth 100000
section
variable {wA w : World} {pb pc p1 p2 : Addr} {vh : Value} {hd : List Int} {B : Nat} {s : Au.Bs}
set_option maxHeartbeats 4000000 in
theorem stEachC {g : Nat} {cap : Array Value} {G : Nat → List MoveD × Int} (hg : callable Tryz.prog g = true) (hdo : ∀ k (hk : k < hd.length) w', Ext wA w' → Calls Tryz.prog g (#[.int .i64 k, .int .i64 hd[k]] ++ cap) w' (MvRO w' (G k)))
    (hh : Sl wA vh hd) (hI : ∀ k, k < hd.length → MvsOk (G k)) (hB : ∀ k s', k < hd.length → Au.runF G 0 k s = .ok s' → BsOk s' (G k).1.length) (hS : SetP wA B pb pc vh s w)
    (h1 : At w p1 [.pointer (some pb)]) (h2 : At w p2 [.func (.func g) #[] cap]) (c1 : p1.block < B ∧ p1.block ≠ pb.block) (c2 : p2.block < B ∧ p2.block ≠ pb.block) :
    Calls Tryz.prog 128 #[.pointer (some p1), .pointer (some p2)] w (PdQ B w pb vh (Au.runF G 0 hd.length s)) := by
  have hlen := hh.len
  have hsm := hh.small
  refine Calls_of_RunP (args := [.pointer (some p1), .pointer (some p2)]) (n := 25) (rs := []) Tryz.func128 rfl rfl rfl (by simp) ?_
  have n1 := h1.n
  obtain ⟨vm, rb, _⟩ := hS.r.ex
  have n2 := rb.n
  simp only [AtN, KS, Nat.reduceAdd, Nat.reduceMul, Nat.reduceEqDiff, ↓reduceIte, UT] at n1 n2
  have is := hh.s
  (repeat with_reducible first | refine js ?_ | refine ja ?_ | refine jw KL128 [3] (aa TF128 (aa n1 (aa n2 (aa is hlen)))) fun _ => ?_)
  refine Run_loopV [2, 3, 9, 10] (σ := Nat × Au.Bs) (fun q => [(9, some (.int .i64 q.1))]) (fun q w' => q.1 ≤ hd.length ∧ Au.runF G 0 q.1 s = .ok q.2 ∧ SetP wA B pb pc vh q.2 w' ∧ Keep (fun b => b < B ∧ b ≠ pb.block) w w')
    (fun q => hd.length - q.1) (0, s) (by simp [SubB, fnd]) ⟨by simp, rfl, hS, Keep.refl _ _⟩ ?_
  rintro ⟨k, s2⟩ w2 ⟨hk, hr, S2, k2⟩
  simp only at hk hr S2
  (repeat with_reducible first | refine js ?_ | refine ja ?_ | refine jw KL128 [3] TF128 fun _ => ?_)
  refine Run_condS (fun _ => rfl) (fun h => ?_) (fun h => ?_)
  · simp at h
    have hkl : k < hd.length := h
    have hcast : ((k : Int) < (hd.length : Int)) := by omega
    obtain ⟨m2, a2, i2⟩ := (hh.ext S2.e).get hkl
    have is2 := (hh.ext S2.e).s
    (repeat with_reducible first | refine jq ?_ | refine jk ?_ | refine jc ?_ | refine jl ?_ | refine jb ?_ | refine jo ?_ | refine ji ?_ | refine jx rfl ?_)
    refine Run_regionV KL128 (by kernel_rfl) fun _ => ?_
    (try simp (maxSteps := 5000000) only [KS, Nat.reduceAdd, Nat.reduceMul, Nat.reduceEqDiff, ↓reduceIte, forall_const, Int.cast_ofNat_Int, Int.reduceToNat, List.take_succ_cons, List.take_zero, List.drop_succ_cons, List.drop_zero, TF128, KL128, m2, a2, is2, hlen, hkl, hcast]); (try simp (disch := omega) only [wrapI, tmodI, tdivI])
    refine ⟨by omega, ?_⟩
    refine Run_ecL (id := 3) KL128 9 (.first 0 (.first 3 (.first 4 (.first 5 (.alt 1 (.first 2 (.alt 6 (.first 7 (.first 8 .done)) .stop)) (.alt 6 (.first 7 (.first 8 (.alt 1 (.first 2 .done) .stop))) .stop)))))) mixed rfl rfl (by kernel_rfl) (by kernel_rfl) (by kernel_rfl) fun w3 x3 _ => ?_
    have S3 := S2.ext x3
    have n1 := ((h1.keep k2 c1).ext x3).n
    have n2 := ((h2.keep k2 c2).ext x3).n
    obtain ⟨vm3, rb3, _⟩ := S3.r.ex
    have n3 := rb3.n
    simp only [AtN, KS, Nat.reduceAdd, Nat.reduceMul, Nat.reduceEqDiff, ↓reduceIte, UT] at n1 n2 n3
    (try simp (maxSteps := 5000000) only [KS, Nat.reduceAdd, Nat.reduceMul, Nat.reduceEqDiff, ↓reduceIte, forall_const, Int.cast_ofNat_Int, Int.reduceToNat, List.take_succ_cons, List.take_zero, List.drop_succ_cons, List.drop_zero, TF128, KL128, ec, n1, n2, n3, cF, cA, dstL]); (try simp (disch := omega) only [wrapI, tmodI, tdivI])
    have hcall : ∀ K : Value → World → Prop, (∀ v w', Ext w3 w' → BufO (α := MoveD) 70 w3.heap.size w' v (G k).1 → K (.tuple #[v, .int .i64 (G k).2]) w') → CallW Tryz.prog (.func (.func g) #[] cap) [.int .i64 k, .int .i64 hd[k]] w3 K :=
      fun K hK => CallW_cl hg (hdo k hkl w3 S3.e) fun e w' ⟨v, he, x, _, b⟩ => ⟨_, he, hK v w' x b⟩
    have hok : ∀ s', Au.add s2 (G k) = .ok s' → Au.runF G 0 (k + 1) s = .ok s' := fun s' e => by
      rw [Au.runF_succ, hr]; simpa using e
    have hno : ∀ x, Au.add s2 (G k) = .error x → Au.runF G 0 hd.length s = .error x := fun x e => Au.runF_stop hr e _ hkl
    have hI := hI k hkl
    have hB := hB k s2 hkl hr
    generalize G k = r at *
    clear hdo
    refine ⟨Ext.refl _, ⟨Ext.refl _, ?_⟩, Ext.refl _, ?_⟩
    all_goals
      refine hcall _ fun v w4 x4 b4 => ?_
      (try simp (maxSteps := 5000000) only [KS, Nat.reduceAdd, Nat.reduceMul, Nat.reduceEqDiff, ↓reduceIte, forall_const, Int.cast_ofNat_Int, Int.reduceToNat, List.take_succ_cons, List.take_zero, List.drop_succ_cons, List.drop_zero, TF128, KL128, ec]); (try simp (disch := omega) only [wrapI, tmodI, tdivI])
      first | refine ⟨by decide, by decide, x4, ?_⟩ | skip
      first | refine ⟨x4, ?_⟩ | skip
      refine addW S3 x4 b4 rfl hI hB fun w5 k5 => ⟨fun s' hs' hr' => ?_, fun x hx => ?_⟩
      · (repeat with_reducible first | refine js ?_ | refine ja ?_ | refine jw KL128 [3] TF128 fun _ => ?_)
        refine Run_lp ⟨(k + 1, s'), by simp [SubB, fnd, strike, has], ⟨by simp only; omega, hok _ hs', S3.go k5 hr', (k2.trans (Keep.of_ext x3)).trans k5⟩, by simp only; omega⟩
      · simp only [RetsP, PdQ, hno _ hx]
        exact ⟨trivial, (k2.trans (Keep.of_ext x3)).trans k5, trivial⟩
  · simp at h
    obtain rfl : k = hd.length := by omega
    (repeat with_reducible first | refine js ?_ | refine ja ?_ | refine jw KL128 [3] TF128 fun _ => ?_)
    refine Run_nil ?_
    simp only [RetsP, RetM, resV, fnd, oneOr, ↓reduceIte, PdQ, hr]
    exact ⟨k2, trivial, S2.r⟩
end
set_option maxHeartbeats 4000000 in
theorem stEach (x1 fv : Value) (w : World) (h1 : x1.cells = #[x1]) (h2 : fv.cells = #[fv]) :
    Ret Tryz.prog 79 [x1, fv] w fun v w' => ∃ p1 p2 : Addr, v = .func (.func 128) #[] #[.pointer (some p1), .pointer (some p2)] ∧ At w' p1 [x1] ∧ At w' p2 [fv] ∧ w.heap.size ≤ p1.block ∧ w.heap.size ≤ p2.block := by
  refine Calls_of_Run (args := [x1, fv]) (n := 6) (rs := [.tmp 4]) Tryz.func79 rfl rfl rfl (by simp) ?_
  (repeat with_reducible first | refine js ?_ | refine ja ?_ | refine jw KL79 [] TF79 fun _ => ?_)
  refine SemW_box fun p1 w1 h3 => SemW_box fun p2 w2 h4 => ?_
  rw [h1] at h3
  rw [h2] at h4
  have e1 := h3.blk
  have e2 := h4.blk
  have z1 := h3.ext.size
  (repeat with_reducible first | refine js ?_ | refine ja ?_ | refine jw KL79 [] TF79 fun _ => ?_)
  refine Run_ret ?_
  simp [Rets, RetM, resV, fnd, oneOr]
  exact ⟨h3.ext.trans h4.ext, p1, p2, ⟨rfl, rfl⟩, (h3.row.ext h4.ext).at_, h4.row.at_, by omega, by omega⟩
end Go.Proofs.YtoadfmgnpmcbfaaGreat
/- Chapter 41: what catches a stop: settle.All$1. -/
namespace Go.Fk
open Go
/-- what a deferred function's body must come to -/
def RetsS (P : Program) (rs : List ResultVar) (R : Value → World → Prop) : Exit → List DF → FL → World → Prop
  | .normal, [], L, w | .ret, [], L, w => resV P L w rs fun vs => R (oneOr vs) w
  | _, _, _, _ => False
/-- the rest of a deferred function's body, once recover has been asked -/
theorem wpSIn_of_Run {P : Program} {fn : Func} {c0 : Frame} {cs cs0 : List Frame} {u : FrameMode} {c : Code} {n : Nat} {L : FL} {a : Act} {w : World} {R : Ending → FrameMode → World → Prop} {rs : List ResultVar} (hrs : fn.results = rs.toArray) (hcs : cs = { c0 with mode := u } :: cs0) (ha : Fr n [] L a)
    (h : Run P none n [] [.code c] L w (RetsS P rs fun v w' => R (.returned v) u w')) : c.wpSIn (fw none) 0 P (bodyPostS P fn c0 cs0 R) a cs w := by
  refine wpSIn_of_wpIn rfl (wpIn_mono (h a ha) fun e a' w' hq => ?_)
  obtain ⟨ds, L', hL, hq⟩ := hq
  cases ds with
  | nil =>
    cases e <;> first
      | exact hq.elim
      | (obtain ⟨vs, hr, hR⟩ := results_run hL hrs hq
         exact ⟨hL.defers, u, hcs, _, hr, hR⟩)
  | cons d ds => cases e <;> exact hq.elim
end Go.Fk
namespace Go.Proofs.YtoadfmgnpmcbfaaGreat
open Go Go.Fk
set_option linter.unusedSimpArgs false
set_option linter.unusedVariables false
set_option maxRecDepth 100000
theorem fr3 {j : Nat} {a : Act} {v x y : Value} (h0 : a.tmps.size = 17) (hd : a.defers = []) (h1 : a.tmps.getD j undef = v) (h2 : a.tmps.getD 0 undef = x) (h3 : a.tmps.getD 1 undef = y) : Fr 17 [] [(j, some v), (0, some x), (1, some y)] a := by
  refine ⟨h0, hd, fun k u hk => ?_⟩
  simp only [fnd] at hk
  split at hk
  · rename_i e; simp_all
  · split at hk
    · rename_i e; simp_all
    · split at hk
      · rename_i e; simp_all
      · cases hk
theorem taErrno (x : Value) (s : TypeId) (w : World) : (Instr.typeAssert (.iface 36 x) s 36 true).run Tryz.prog w = .ok (.tuple #[x, .bool true]) w := by
  simp [Instr.typeAssert, go_sem, underlying, Tryz.underlying36]
set_option maxHeartbeats 4000000 in
theorem stCatchIdle (pm pe : Addr) (w : World) : CallsDIn (fw none) 0 Tryz.prog 75 #[.pointer (some pm), .pointer (some pe)] .returning w fun e u' w' => e = .returned (.tuple #[]) ∧ u' = .returning ∧ w' = w := by
  refine callsDIn_of_wpSIn Tryz.func75 rfl (by trivial) fun c₀ cs hu => ?_
  apply wpSIn_seq
  apply wpSIn_region
  simp only [List.range, List.range.loop, Array.size, List.size_toArray, List.length_cons, List.length_nil]
  simp [wpOpsSIn, go_sem, recoverD, hu, Exit.thenS]
  apply wpSIn_seq
  apply wpSIn_region
  simp only [List.range, List.range.loop, Array.size, List.size_toArray, List.length_cons, List.length_nil]
  simp [wpOpsSIn, go_sem, Exit.thenS, Tryz.ntmps75]
  refine wpSIn_cond (t := false) (by simp [Act.eval, Array.replicate]) ?_
  simp only [Bool.false_eq_true, if_false]
  refine wpSIn_of_wpIn rfl (wpIn_skip ?_)
  cases c₀
  simp_all [bodyPostS, results, Tryz.results75]
set_option maxHeartbeats 4000000 in
theorem stCatch (pm pe : Addr) (w : World) (x : Int) (vm ve : Value) (T1 T2 : TypeId) (h1 : Row w pm T1 [vm]) (h2 : Row w pe T2 [ve]) (hne : pm.block ≠ pe.block) :
    CallsDIn (fw none) 0 Tryz.prog 75 #[.pointer (some pm), .pointer (some pe)] (.panicking [{ v := .iface 36 (.int .i64 x), recovered := false }]) w fun e u' w' =>
      e = .returned (.tuple #[]) ∧ u' = .panicking [{ v := .iface 36 (.int .i64 x), recovered := true }] ∧ Row w' pm T1 [.slice none 0 0] ∧ Row w' pe T2 [.int .i64 x] ∧ Keep (fun b => b ≠ pm.block ∧ b ≠ pe.block) w w' := by
  refine callsDIn_of_wpSIn Tryz.func75 rfl (by trivial) fun c₀ cs hu => ?_
  apply wpSIn_seq
  apply wpSIn_region
  simp only [List.range, List.range.loop, Array.size, List.size_toArray, List.length_cons, List.length_nil]
  simp [wpOpsSIn, go_sem, recoverD, hu, Exit.thenS]
  apply wpSIn_seq
  apply wpSIn_region
  simp only [List.range, List.range.loop, Array.size, List.size_toArray, List.length_cons, List.length_nil]
  simp [wpOpsSIn, go_sem, Exit.thenS, Tryz.ntmps75]
  refine wpSIn_cond (t := true) (by simp [Act.eval, Array.replicate]) ?_
  simp only [if_true]
  apply wpSIn_seq
  apply wpSIn_region
  simp only [List.range, List.range.loop, Array.size, List.size_toArray, List.length_cons, List.length_nil]
  simp [wpOpsSIn, go_sem, Exit.thenS, Tryz.ntmps75, taErrno]
  apply wpSIn_seq
  apply wpSIn_seq
  apply wpSIn_region
  simp only [List.range, List.range.loop, Array.size, List.size_toArray, List.length_cons, List.length_nil]
  simp [wpOpsSIn, go_sem, Exit.thenS, Tryz.ntmps75]
  refine wpSIn_cond (t := false) (by simp [Act.eval, Array.replicate]) ?_
  simp only [Bool.false_eq_true, if_false]
  refine wpSIn_of_wpIn rfl (wpIn_skip ?_)
  simp only [Exit.thenS]
  refine wpSIn_of_Run (c0 := c₀) (u := .panicking [{ v := .iface 36 (.int .i64 x), recovered := true }]) (n := 17) (rs := []) (L := [(3, some (.int .i64 x)), (0, some (.pointer (some pm))), (1, some (.pointer (some pe)))]) rfl rfl (fr3 ?_ rfl ?_ ?_ ?_) ?_
  rotate_right
  · (repeat with_reducible first | refine js ?_ | refine ja ?_ | refine jw KL75 [] TF75 fun _ => ?_)
    refine setW0 (by rw [cells35]) h1 (by simp) rfl rfl fun w1 r1 k1 _ => ?_
    refine setW0 (by rw [cells36]) (h2.keep k1 (Ne.symm hne)) (by simp) rfl rfl fun w2 r2 k2 _ => ?_
    refine Run_nil ?_
    simp only [RetsS, resV, oneOr]
    exact ⟨trivial, r1.keep k2 hne, r2, (k1.mono fun b _ hb => hb.1).trans (k2.mono fun b _ hb => hb.2)⟩
  all_goals simp [Array.replicate]
end Go.Proofs.YtoadfmgnpmcbfaaGreat
/- Chapter 41: settle.All. -/
namespace Go.Fk
namespace Au
variable (t : TimeD) (f : TariffD) (l : List OrderD) (p : PlanD) (h : List Int)
theorem parts_succ : ∀ (n j : Nat) (s : Bs), parts t f l p h j (n + 1) s = match parts t f l p h j n s with
    | .ok s' => part t f l p h (j + n) s'
    | .error x => .error x
  | 0, j, s => by
    simp only [parts, Nat.add_zero]
    cases part t f l p h j s <;> rfl
  | n + 1, j, s => by
    rw [parts]
    conv => rhs; rw [parts]
    cases hs : part t f l p h j s with
    | error x => rfl
    | ok s' =>
      simp only
      rw [parts_succ n (j + 1) s', show j + 1 + n = j + (n + 1) by omega]
variable {t f l p h}
theorem parts_stop {s s' : Bs} {x : Int} {k : Nat} (h1 : parts t f l p h 0 k s = .ok s') (h2 : part t f l p h k s' = .error x) : ∀ n, k < n → parts t f l p h 0 n s = .error x
  | 0, h => by omega
  | n + 1, h => by
    rw [parts_succ, Nat.zero_add]
    by_cases e : k = n
    · subst e; rw [h1]; exact h2
    · rw [parts_stop h1 h2 n (by omega)]
end Au
end Go.Fk
namespace Go.Proofs.YtoadfmgnpmcbfaaGreat
open Go Go.Fk
set_option linter.unusedSimpArgs false
set_option linter.unusedVariables false
set_option maxRecDepth 100000
/-- what a part adds is not too large -/
structure StOk (t : TimeD) (f : TariffD) (l : List OrderD) (p : PlanD) (h : List Int) : Prop where
  p0 : BsOk ([], 0) (Ec.post t f l p).1.length ∧ MvsOk (Ec.post t f l p)
  p2 : ∀ s, Au.parts t f l p h 0 2 ([], 0) = .ok s → (∀ j, j < h.length → MvsOk (Au.payG t f l p h j)) ∧ ∀ j s', j < h.length → Au.runF (Au.payG t f l p h) 0 j s = .ok s' → BsOk s' (Au.payG t f l p h j).1.length
  p3 : ∀ s, Au.parts t f l p h 0 3 ([], 0) = .ok s → (∀ j, j < h.length → MvsOk (Au.covG t f p h j)) ∧ ∀ j s', j < h.length → Au.runF (Au.covG t f p h) 0 j s = .ok s' → BsOk s' (Au.covG t f p h j).1.length
  p4 : ∀ s, Au.parts t f l p h 0 4 ([], 0) = .ok s → 0 < l.length → BsOk s (Fd.share s.2 l.length).1.length ∧ MvsOk (Fd.share s.2 l.length)
  fin : ∀ s, Au.settle t f l p h = .ok s → s.1.length ≤ 65536
set_option maxHeartbeats 4000000 in
theorem stAll (vl u0 u1 u2 vo v0 v1 v2 vh : Value) (t : TimeD) (f : TariffD) (l : List OrderD) (p : PlanD) (hd : List Int) (w : World) (hl : Sl w vl t.Lines) (hT : TarR w f u0 u1 u2) (ho : Sl w vo l) (hP : PlanR w p v0 v1 v2) (hh : Sl w vh hd) (hok : StOk t f l p hd) :
    Calls Tryz.prog 36 #[.agg (t.cs vl).toArray, .agg (f.cs u0 u1 u2).toArray, vo, .agg (p.cs v0 v1 v2).toArray, vh] w (MvRO w (Au.outE (Au.settle t f l p hd))) := by
  have s1 := ho.s
  have s2 := hh.s
  refine Calls_of_RunD (args := [.agg (t.cs vl).toArray, .agg (f.cs u0 u1 u2).toArray, vo, .agg (p.cs v0 v1 v2).toArray, vh]) (n := 42) (rs := [.cell 10 35, .cell 11 36]) Tryz.func36 rfl rfl rfl (by simp) ?_
  (repeat with_reducible first | refine js ?_ | refine ja ?_ | refine jw KL36 [] TF36 fun _ => ?_)
  refine SemW_box fun pt w1 n1 => SemW_box fun pf w2 n2 => SemW_box fun pl w3 n3 => SemW_box fun pp w4 n4 => SemW_box fun ph w5 n5 => SemW_allocT ti35 fun pm w6 n6 => SemW_allocT ti36 fun pe w7 n7 => ?_
  have z1 := n1.blk
  have z2 := n2.blk
  have z3 := n3.blk
  have z4 := n4.blk
  have z5 := n5.blk
  have z6 := n6.blk
  have z7 := n7.blk
  have y1 := n1.ext.size
  have y2 := n2.ext.size
  have y3 := n3.ext.size
  have y4 := n4.ext.size
  have y5 := n5.ext.size
  have y6 := n6.ext.size
  have y6' := n6.row.lt
  have y7 := n7.row.lt
  have xx := ((((((n1.ext.trans n2.ext).trans n3.ext).trans n4.ext).trans n5.ext).trans n6.ext).trans n7.ext)
  have E7 : SetE w7 pt pf pl pp ph vl u0 u1 u2 vo v0 v1 v2 vh t f l p hd := ⟨(n1.row.ext (((((n2.ext.trans n3.ext).trans n4.ext).trans n5.ext).trans n6.ext).trans n7.ext)).at_, (n2.row.ext ((((n3.ext.trans n4.ext).trans n5.ext).trans n6.ext).trans n7.ext)).at_,
    by have := (n3.row.ext (((n4.ext.trans n5.ext).trans n6.ext).trans n7.ext)).at_; rwa [isS_cells s1] at this, (n4.row.ext ((n5.ext.trans n6.ext).trans n7.ext)).at_, by have := (n5.row.ext (n6.ext.trans n7.ext)).at_; rwa [isS_cells s2] at this,
    hl.ext xx, hT.ext xx, ho.ext xx, hP.ext xx, hh.ext xx⟩
  have rm := n6.row.ext n7.ext
  have re := n7.row
  clear n1 n2 n3 n4 n5 n6 n7
  (repeat with_reducible first | refine jq ?_ | refine jk ?_ | refine jc ?_ | refine jl ?_ | refine jb ?_ | refine jo ?_ | refine ji ?_ | refine jx rfl ?_)
  refine Run_lastDefer (id := 1) KL36 1 rfl rfl rfl rfl rfl rfl (by kernel_rfl) (by kernel_rfl) fun _ => ?_
  (try simp (maxSteps := 5000000) only [KS, Nat.reduceAdd, Nat.reduceMul, Nat.reduceEqDiff, ↓reduceIte, forall_const, Int.cast_ofNat_Int, Int.reduceToNat, List.take_succ_cons, List.take_zero, List.drop_succ_cons, List.drop_zero, TF36, KL36]); (try simp (disch := omega) only [wrapI, tmodI, tdivI])
  refine ⟨_, _, _, rfl, ?_⟩
  have a5 := E7.ah.n
  simp only [AtN, KS, Nat.reduceAdd, Nat.reduceMul, Nat.reduceEqDiff, ↓reduceIte, UT] at a5
  (repeat with_reducible first | refine js ?_ | refine ja ?_ | refine jw KL36 [] (aa TF36 a5) fun _ => ?_)
  have hbd : ∀ w', Sem.run Tryz.prog (Instr.build 134 #[(1, vh)]) w' = Result.ok (.agg #[.slice none 0 0, .int .i64 0, vh]) w' := by
    rcases s2.ex with h | ⟨a, n, c, h⟩ <;> subst h <;> intro w' <;> kernel_rfl
  refine ⟨_, hbd, SemW_box fun pb w8 n8 => SemW_allocT ti130 fun pc w9 n9 => ?_⟩
  have z8 := n8.blk
  have z9 := n9.blk
  have y8 := n8.ext.size
  have x8 := n8.ext
  have n8 := n8.row
  refine SemW_set1 (by rw [cells130]) n9.row rfl rfl fun w10 r10 k10 z10 => ?_
  have hpb : pb.block ≠ pc.block := by have := n8.lt; omega
  have x9 : Ext w7 w9 := (Ext.trans x8 n9.ext)
  have y9 := n9.ext.size
  have y9' := n9.row.lt
  have rb : Row w10 pb 134 [.slice none 0 0, .int .i64 0, vh] := by
    have := (n8.ext n9.ext).keep k10 hpb
    simpa [Value.cells] using this
  have x10 : Ext w7 w10 := Keep.ext x9 k10 fun b hb => by omega
  have y10 := n8.lt
  clear n8 n9 k10
  (repeat with_reducible first | refine jq ?_ | refine jk ?_ | refine jc ?_ | refine jl ?_ | refine jb ?_ | refine jo ?_ | refine ji ?_ | refine jx rfl ?_)
  refine Run_ec (id := 3) KL36 (.first 0 (.first 1 (.first 2 (.first 3 (.first 5 (.first 6 (.first 8 (.first 11 (.alt 4 (.alt 7 (.alt 9 (.first 10 .done) .stop) .stop) .stop))))))))) mixed (by kernel_rfl) (by kernel_rfl) fun w11 x11 _ => ?_
  have c1 := (r10.ext x11).at_.n
  simp only [AtN, KS, Nat.reduceAdd, Nat.reduceMul, Nat.reduceEqDiff, ↓reduceIte, UT] at c1
  (try simp (maxSteps := 5000000) only [KS, Nat.reduceAdd, Nat.reduceMul, Nat.reduceEqDiff, ↓reduceIte, forall_const, Int.cast_ofNat_Int, Int.reduceToNat, List.take_succ_cons, List.take_zero, List.drop_succ_cons, List.drop_zero, TF36, KL36, ec, c1]); (try simp (disch := omega) only [wrapI, tmodI, tdivI])
  refine ⟨Ext.refl _, CallW_ret call79 (stEach _ _ w11 rfl rfl) fun v w12 x12 ⟨pA1, pA2, hv, hA1, hA2, bA1, bA2⟩ => ⟨x12, CallW_ret call79 (stEach _ _ w12 rfl rfl) fun v' w13 x13 ⟨pB1, pB2, hv', hB1, hB2, bB1, bB2⟩ => ⟨x12.trans x13, ?_⟩⟩⟩
  subst hv hv'
  have lA1 := hA1.blk
  have lA2 := hA2.blk
  have lB1 := hB1.blk
  have lB2 := hB2.blk
  refine SemW_buildSlice (n := 5) (vs := [_, _, _, _, _]) Tryz.underlying139 ti1 rfl rfl rfl (by simp [Value.cells]) (by decide) fun q w14 n14 => ?_
  simp only [List.flatMap_cons, List.flatMap_nil, Value.cells, List.append_nil, List.cons_append, List.nil_append, List.singleton_append] at n14
  have z14 := n14.blk
  have x14 := n14.ext
  have r14 := n14.row
  have y14 := r14.lt
  clear n14
  have xq : Ext w11 w14 := (x12.trans x13).trans x14
  have y11 := x11.size
  have y12 := x12.size
  have y13 := x13.size
  have S14 : SetP w7 w14.heap.size pb pc vh ([], 0) w14 := ⟨(x10.trans x11).trans xq, (r10.ext (x11.trans xq)).at_, ⟨_, rb.ext (x11.trans xq), BufO.nil⟩, by omega, by omega, by have := r10.lt; omega, by omega, Nat.le_refl _⟩
  refine ⟨.inr ⟨_, rfl⟩, xq, ?_⟩
  have hcalls : ∀ (k : Nat) (s : Au.Bs) (w' : World), k < 5 → Au.parts t f l p hd 0 k ([], 0) = .ok s → SetP w7 w14.heap.size pb pc vh s w' → Keep (fun b => b < w14.heap.size ∧ b ≠ pb.block) w14 w' → ∃ g cap, mem w' (q.add k) = .func (.func g) #[] cap ∧ has1 w' (q.add k) ∧ callable Tryz.prog g = true ∧ Calls Tryz.prog g cap w' (PdQ w14.heap.size w' pb vh (Au.part t f l p hd k s)) := fun k s w' hk hs hS kk => by
    have rq := (r14.keep kk ⟨by omega, by omega⟩).at_
    rcases (by omega : k = 0 ∨ k = 1 ∨ k = 2 ∨ k = 3 ∨ k = 4) with rfl | rfl | rfl | rfl | rfl
    · refine ⟨_, _, rq.mem (j := 0) (by simp), rq.has (j := 0) (by simp), call76, ?_⟩
      cases hs
      exact stPost E7 hS hok.p0.1 hok.p0.2
    · refine ⟨_, _, rq.mem (j := 1) (by simp), rq.has (j := 1) (by simp), call78, ?_⟩
      exact stLen E7 hS
    · refine ⟨_, _, rq.mem (j := 2) (by simp), rq.has (j := 2) (by simp), call128, ?_⟩
      exact stEachC call80 (fun j hj w'' x => by
        have := stPay E7 x j hd[j] (by have := hh.small; unfold I64; omega)
        rw [show Au.payG t f l p hd j = Ec.pay t f l p j hd[j] by unfold Au.payG; rw [List.getD_eq_getElem?_getD, List.getElem?_eq_getElem hj]; rfl]
        exact this) E7.hh (hok.p2 s hs).1 (hok.p2 s hs).2 hS ((hA1.ext (x13.trans x14)).keep kk ⟨by omega, by omega⟩) ((hA2.ext (x13.trans x14)).keep kk ⟨by omega, by omega⟩) ⟨by omega, by omega⟩ ⟨by omega, by omega⟩
    · refine ⟨_, _, rq.mem (j := 3) (by simp), rq.has (j := 3) (by simp), call128, ?_⟩
      exact stEachC call81 (fun j hj w'' x => by
        have := stCov E7 x j hd[j] (by have := hh.small; unfold I64; omega)
        rw [show Au.covG t f p hd j = Fd.cover t f p j hd[j] by unfold Au.covG; rw [List.getD_eq_getElem?_getD, List.getElem?_eq_getElem hj]; rfl]
        exact this) E7.hh (hok.p3 s hs).1 (hok.p3 s hs).2 hS ((hB1.ext x14).keep kk ⟨by omega, by omega⟩) ((hB2.ext x14).keep kk ⟨by omega, by omega⟩) ⟨by omega, by omega⟩ ⟨by omega, by omega⟩
    · refine ⟨_, _, rq.mem (j := 4) (by simp), rq.has (j := 4) (by simp), call83, ?_⟩
      exact stShare E7 hS (fun h0 => (hok.p4 s hs h0).1) (fun h0 => (hok.p4 s hs h0).2)
  have rm14 := rm.ext (x10.trans (x11.trans xq))
  have re14 := re.ext (x10.trans (x11.trans xq))
  have X14 : Ext w w14 := xx.trans (x10.trans (x11.trans xq))
  clear hA1 hA2 hB1 hB2 r14 rb r10 rm re x10 x11 xq x12 x13 x14 x8 x9
  (repeat with_reducible first | refine js ?_ | refine ja ?_ | refine jw KL36 [] TF36 fun _ => ?_)
  refine Run_loopV [14, 30, 31] (σ := Nat × Au.Bs) (fun q => [(30, some (.int .i64 q.1))]) (fun q w' => q.1 ≤ 5 ∧ Au.parts t f l p hd 0 q.1 ([], 0) = .ok q.2 ∧ SetP w7 w14.heap.size pb pc vh q.2 w' ∧ Keep (fun b => b < w14.heap.size ∧ b ≠ pb.block) w14 w')
    (fun q => 5 - q.1) (0, [], 0) (by simp [SubB, fnd]) ⟨by simp, rfl, S14, Keep.refl _ _⟩ ?_
  rintro ⟨k, s⟩ w2 ⟨hk, hr, S2, k2⟩
  simp only at hk hr S2
  (repeat with_reducible first | refine js ?_ | refine ja ?_ | refine jw KL36 [] TF36 fun _ => ?_)
  refine Run_condS (fun _ => rfl) (fun h => ?_) (fun h => ?_)
  · simp at h
    have hk5 : k < 5 := by omega
    have hcast : (k : Int) < 5 := by omega
    obtain ⟨g, cap, hm, hh1, hg, hC⟩ := hcalls k s w2 hk5 hr S2 k2
    (repeat with_reducible first | refine jq ?_ | refine jk ?_ | refine jc ?_ | refine jl ?_ | refine jb ?_ | refine jo ?_ | refine ji ?_ | refine jx rfl ?_)
    refine Run_regionV KL36 (by kernel_rfl) fun _ => ?_
    (try simp (maxSteps := 5000000) only [KS, Nat.reduceAdd, Nat.reduceMul, Nat.reduceEqDiff, ↓reduceIte, forall_const, Int.cast_ofNat_Int, Int.reduceToNat, List.take_succ_cons, List.take_zero, List.drop_succ_cons, List.drop_zero, TF36, KL36, hm, hh1, hcast]); (try simp (disch := omega) only [wrapI, tmodI, tdivI])
    refine ⟨by omega, ?_⟩
    refine Run_lastCall (id := 6) KL36 1 rfl rfl (by kernel_rfl) fun _ => ?_
    (try simp (maxSteps := 5000000) only [KS, Nat.reduceAdd, Nat.reduceMul, Nat.reduceEqDiff, ↓reduceIte, forall_const, Int.cast_ofNat_Int, Int.reduceToNat, List.take_succ_cons, List.take_zero, List.drop_succ_cons, List.drop_zero, TF36, KL36, cF, cA, dstL]); (try simp (disch := omega) only [wrapI, tmodI, tdivI])
    have xw2 : Ext w w2 := Keep.ext X14 k2 fun b hb => by omega
    have kR : Keep (fun b => b < w14.heap.size ∧ b ≠ pb.block) w14 w2 := k2
    refine CallWP_of hg hC (fun e w3 hq => ?_)
    obtain ⟨k3, hq⟩ := hq
    have k23 := k2.trans k3
    split at hq
    · rename_i s' hs'
      refine .inl ⟨_, hq.1, ?_⟩
      (repeat with_reducible first | refine js ?_ | refine ja ?_ | refine jw KL36 [] TF36 fun _ => ?_)
      refine Run_lp ⟨(k + 1, s'), by simp [SubB, fnd, strike, has], ⟨by simp only; omega, ?_, S2.go k3 hq.2, k23⟩, by simp only; omega⟩
      simp only
      rw [Au.parts_succ, hr, Nat.zero_add]
      exact hs'
    · rename_i x hx
      refine .inr ⟨_, hq, ?_⟩
      have hst : Au.settle t f l p hd = .error x := Au.parts_stop hr hx 5 hk5
      rw [hst]
      simp only [RetsD, LvQ]
      refine ⟨by simp, call75, ?_⟩
      refine (stCatch pm pe w3 x _ _ _ _ ((rm14.keep k23 ⟨by omega, by omega⟩)) ((re14.keep k23 ⟨by omega, by omega⟩)) (by omega)).mono fun e u' w4 hq => ?_
      obtain ⟨he, hu, r1, r2, k4⟩ := hq
      subst he hu
      exact ⟨_, _, rfl, loadVar_row rfl r1, _, _, rfl, loadVar_row rfl r2, _, rfl, Keep.ext (Keep.ext X14 k23 fun b hb => by omega) k4 fun b hb => by omega, Sl.nil _, BufO.nil⟩
  · simp at h
    obtain rfl : k = 5 := by omega
    obtain ⟨vm, rbk, bm⟩ := S2.r.ex
    have c1 := S2.c.n
    have c2 := rbk.n
    simp only [AtN, KS, Nat.reduceAdd, Nat.reduceMul, Nat.reduceEqDiff, ↓reduceIte, UT] at c1 c2
    (repeat with_reducible first | refine js ?_ | refine ja ?_ | refine jw KL36 [] (aa TF36 (aa c1 c2)) fun _ => ?_)
    have hst : Au.settle t f l p hd = .ok s := hr
    have iv := bm.isS
    have xw2 : Ext w w2 := Keep.ext X14 k2 fun b hb => by omega
    refine setW0 (by rw [cells35]) (rm14.keep k2 ⟨by omega, by omega⟩) (by simp [Value.cells]) (isS_cells iv.1) (isS_o iv.1) fun w3 r3 k3 z3 => ?_
    refine setW0 (by rw [cells36]) ((re14.keep k2 ⟨by omega, by omega⟩).keep k3 (by omega)) (by simp [Value.cells]) rfl rfl fun w4 r4 k4 z4 => ?_
    (repeat with_reducible first | refine js ?_ | refine ja ?_ | refine jw KL36 [] TF36 fun _ => ?_)
    refine Run_ret ?_
    rw [hst]
    have r3 := r3.keep k4 (by omega)
    have b4 := (bm.keepQ k3 fun g hg => by have := (bm.own_lt hg).1; omega).keepQ k4 fun g hg => by have := (bm.own_lt hg).1; omega
    have hX4 : Ext w w4 := Keep.ext (Keep.ext xw2 k3 fun b hb => by omega) k4 fun b hb => by omega
    simp only [RetsD, LvQ]
    refine ⟨by simp, call75, ?_⟩
    refine (stCatchIdle pm pe w4).mono fun e u' w5 hq => ?_
    obtain ⟨he, hu, hw⟩ := hq
    subst he hu hw
    exact ⟨_, _, rfl, loadVar_row rfl r3, _, _, rfl, loadVar_row rfl r4, _, rfl, hX4, b4.sl (by have := hok.fin s hst; show s.1.length ≤ _; omega), b4.mono (by omega)⟩
end Go.Proofs.YtoadfmgnpmcbfaaGreat
/- Chapter 41: settle.All on small plans. -/
namespace Go.Proofs.YtoadfmgnpmcbfaaGreat
open Go Go.Fk
set_option linter.unusedSimpArgs false
set_option linter.unusedVariables false
open Au in
theorem stOk {t : TimeD} {f : TariffD} {l : List OrderD} {p : PlanD} {h : List Int} (hR : p.Runs.length ≤ 70) (hl : l.length ≤ 64) : StOk t f l p h where
  p0 := by
    by_cases he : Ec.err t f l p = 0
    · obtain ⟨b1, b2⟩ := post_bd he hR hl
      exact ⟨⟨by simp, by simp only [List.length_nil]; omega⟩, b2⟩
    · have hp : Ec.post t f l p = ([], Ec.err t f l p) := by unfold Ec.post; rw [if_pos he]
      rw [hp]
      exact ⟨⟨by simp, by simp⟩, fun m hm => by cases hm⟩
  p2 := fun s hs => by
    obtain ⟨he, hlen, _⟩ := parts_two hs
    have hb := parts_two_bd hR hl hs
    refine ⟨fun j hj => (payG_mv he hl (by omega)).2, fun j s' hj e => ?_⟩
    obtain ⟨⟨c1, c2, c3⟩, _⟩ := runF_bd hb j s' (fun k hk => payG_mv he hl (by omega)) e
    have := (payG_mv (t := t) (f := f) (p := p) (h := h) he hl (show j < p.Runs.length by omega)).1
    exact ⟨⟨c1, by omega⟩, by omega⟩
  p3 := fun s hs => by
    obtain ⟨hK, he, hb⟩ := parts_three hR hl hs
    have hlen := hK.hl
    have hc : ∀ k, k < h.length → (covG t f p h k).1.length ≤ 8 ∧ ∀ m ∈ (covG t f p h k).1, 0 ≤ m.Amount ∧ m.Amount ≤ 1099511627776 := fun k hk => by
      rw [cover_ok hK (by omega)]
      exact ⟨runCovs_len hK (by omega), fun m hm => (covs_mv hK hR (by omega) m hm).1.2.2.2.1⟩
    refine ⟨fun j hj => (hc j hj).2, fun j s' hj e => ?_⟩
    obtain ⟨⟨c1, c2, c3⟩, _⟩ := runF_bd hb j s' (fun k hk => hc k (by omega)) e
    have := (hc j hj).1
    exact ⟨⟨c1, by omega⟩, by omega⟩
  p4 := fun s hs h0 => by
    obtain ⟨hK, e, hn⟩ := parts_four' hR hl hs
    have hp1 := pre_one hK hR
    have hF : 0 ≤ Ec.eff (pre t f l p h) 1 := by
      have := negAt_no hn (pre t f l p h).length
      rwa [List.take_length] at this
    have hpl := pre_len hK hR
    subst e
    have hsh : Fd.share (St (pre t f l p h)).2 l.length = (shs (Ec.eff (pre t f l p h) 1) l.length, 0) := by
      show Fd.share (Ec.eff (pre t f l p h) 1) l.length = _
      unfold Fd.share
      rw [if_neg (by omega), shs_eq hF, Int.toNat_natCast]
    rw [hsh]
    have hm := shs_mv (a := Ec.eff (pre t f l p h) 1) (n := l.length) ⟨hF, by omega⟩ hl
    refine ⟨⟨⟨hF, ?_⟩, ?_⟩, fun m h => (hm m h).1.2.2.2.1⟩
    · show Ec.eff (pre t f l p h) 1 ≤ _; omega
    · show (num 0 _).length + _ ≤ _
      rw [num_len]; simp only [shs, List.length_map, List.length_range]; omega
  fin := fun s hs => by
    have e := settle_all (t := t) (f := f) (l := l) (p := p) (h := h) hR hl
    rw [hs] at e
    have e1 : s.1 = (all t f l p h).1 := by rw [← e]; rfl
    rw [e1]
    unfold all
    split
    · simp
    · rename_i he
      split
      · simp
      · have := asked_len (err_ok (by simpa using he)) hR
        show (num 0 _).length ≤ _
        rw [num_len]; omega
/-- settle.All on small plans -/
theorem stAllS (vl u0 u1 u2 vo v0 v1 v2 vh : Value) (t : TimeD) (f : TariffD) (l : List OrderD) (p : PlanD) (hd : List Int) (w : World) (hl : Sl w vl t.Lines) (hT : TarR w f u0 u1 u2) (ho : Sl w vo l) (hP : PlanR w p v0 v1 v2) (hh : Sl w vh hd) (hR : p.Runs.length ≤ 70) (hl64 : l.length ≤ 64) :
    Calls Tryz.prog 36 #[.agg (t.cs vl).toArray, .agg (f.cs u0 u1 u2).toArray, vo, .agg (p.cs v0 v1 v2).toArray, vh] w (MvRO w (Au.all t f l p hd)) := by
  rw [← Au.settle_all hR hl64]
  exact stAll vl u0 u1 u2 vo v0 v1 v2 vh t f l p hd w hl hT ho hP hh (stOk hR hl64)
end Go.Proofs.YtoadfmgnpmcbfaaGreat
