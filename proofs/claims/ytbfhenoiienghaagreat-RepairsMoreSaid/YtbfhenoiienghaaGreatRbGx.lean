import Derived.Test.YtbfhenoiienghaaGreatRbW22m
import Derived.Test.YtbfhenoiienghaaGreatRbGs
import Derived.Test.YtbfhenoiienghaaGreatRbGe
import Derived.Test.YtbfhenoiienghaaGreatRbW22s
namespace Go.Proofs.YtbfhenoiienghaaGreat
open Go Go.Fk
set_option linter.unusedSimpArgs false
set_option linter.unusedVariables false
set_option maxRecDepth 100000
theorem rldWith (x : Pl.LoadD) (o : OrderD) (g : Value) (w : World) (hn : 0 ≤ x.n ∧ x.n ≤ 1000000000000000) (hc : 1 ≤ o.Crowd ∧ o.Crowd ≤ 64) :
    Calls Tryz.prog 87 #[ldv x, .agg (o.cs g).toArray] w fun e w' => e = .returned (ldv (x.wth o)) ∧ Ext w w' := by
  unfold ldv
  refine Calls_of_Run (args := [.agg #[.int .i64 x.n, .int .i64 x.c], .agg (o.cs g).toArray]) (n := 15) (rs := [.cell 4 139]) Tryz.func87 rfl rfl rfl (by simp) ?_
  (repeat with_reducible first | refine js ?_ | refine ja ?_ | refine jw KL87 [] TF87 fun _ => ?_)
  refine SemW_box fun px w1 h1 => SemW_box fun po w2 h2 => SemW_allocT ti139 fun pr w3 h3 => ?_
  have b3 := h3.blk
  have z1 := h1.size
  have z2 := h2.size
  have x3 := h1.ext.trans (h2.ext.trans h3.ext)
  have g1 := (h1.at_.ext (h2.ext.trans h3.ext)).n
  have g2 := (h2.at_.ext h3.ext).n
  simp only [OrderD.cs, AtN, KS, Nat.reduceAdd, Nat.reduceMul, Nat.reduceEqDiff, ↓reduceIte, UT] at g1 g2
  (repeat with_reducible first | refine js ?_ | refine ja ?_ | refine jw KL87 [] (aa TF87 (aa g1 g2)) fun _ => ?_)
  refine ⟨ldv (x.wth o), fun _ => by kernel_rfl, ?_⟩
  refine SemW_setW (by rw [cells139]; decide) (by rw [cells139]; rfl) h3.row (by rw [cells139]; rfl) rfl fun w4 r4 k4 z4 => ?_
  have e4 := loadVar_at (P := Tryz.prog) (t := 139) (by kernel_rfl) (by rw [cells139]; decide) (by rw [cells139]; rfl) r4.at_
  (repeat with_reducible first | refine js ?_ | refine ja ?_ | refine jw KL87 [] TF87 fun _ => ?_)
  refine Run_ret ?_
  simp only [Rets, RetM, resV]
  refine ⟨pr, _, rfl, e4, ?_⟩
  simp only [oneOr]
  exact ⟨rfl, Keep.ext x3 k4 fun q hq => by omega⟩
theorem rldCovers (x : Pl.LoadD) (w : World) (hn : 0 ≤ x.n ∧ x.n ≤ 1000000000000000) (hc : 0 ≤ x.c ∧ x.c ≤ 65) : Calls Tryz.prog 86 #[ldv x] w fun e w' => e = .returned (.int .i64 x.covers) ∧ Ext w w' := by
  unfold ldv
  refine Calls_of_Run (args := [.agg #[.int .i64 x.n, .int .i64 x.c]]) (n := 9) (rs := [.tmp 2]) Tryz.func86 rfl rfl rfl (by simp) ?_
  (repeat with_reducible first | refine js ?_ | refine ja ?_ | refine jw KL86 [] TF86 fun _ => ?_)
  refine SemW_box fun px w1 h1 => ?_
  have g1 := h1.at_.n
  simp only [AtN, KS, Nat.reduceAdd, Nat.reduceMul, Nat.reduceEqDiff, ↓reduceIte, UT] at g1
  (repeat with_reducible first | refine js ?_ | refine ja ?_ | refine jw KL86 [] (aa TF86 g1) fun _ => ?_)
  refine Run_ret ?_
  simp [Rets, RetM, resV, fnd, oneOr, h1.ext, Pl.LoadD.covers]
theorem rpRight (vl u0 u1 u2 vo v0 v1 v2 : Value) (t : TimeD) (f : TariffD) (l : List OrderD) (covers : Int) (p : PlanD) (w : World) (hl : Sl w vl t.Lines) (hT : TarR w f u0 u1 u2) (ho : Sl w vo l) (hP : PlanR w p v0 v1 v2) :
    Calls Tryz.prog 45 #[.agg (t.cs vl).toArray, .agg (f.cs u0 u1 u2).toArray, vo, .int .i64 covers, .agg (p.cs v0 v1 v2).toArray] w fun e w' => e = .returned (.int .i64 (Rp.err t f l covers p)) ∧ Ext w w' := by
  refine Calls_of_Run (args := [.agg (t.cs vl).toArray, .agg (f.cs u0 u1 u2).toArray, vo, .int .i64 covers, .agg (p.cs v0 v1 v2).toArray]) (n := 29) (rs := [.tmp 10]) Tryz.func45 rfl rfl rfl (by simp) ?_
  (repeat with_reducible first | refine js ?_ | refine ja ?_ | refine jw KL45 [] TF45 fun _ => ?_)
  refine SemW_box fun pt w1 h1 => SemW_box fun pf w2 h2 => SemW_box fun pp w3 h3 => ?_
  have x3 := h1.ext.trans (h2.ext.trans h3.ext)
  have t3 : AtN w3 pt 0 (t.cs vl) := (h1.at_.ext (h2.ext.trans h3.ext)).n
  have f3 : AtN w3 pf 0 (f.cs u0 u1 u2) := (h2.at_.ext h3.ext).n
  have p3 : AtN w3 pp 0 (p.cs v0 v1 v2) := h3.at_.n
  simp only [TimeD.cs, TariffD.cs, PlanD.cs, AtN, KS, Nat.reduceAdd, Nat.reduceMul, Nat.reduceEqDiff, ↓reduceIte, UT] at t3 f3 p3
  (repeat with_reducible first | refine js ?_ | refine ja ?_ | refine jw KL45 [] (aa TF45 (aa t3 (aa f3 p3))) fun _ => ?_)
  refine CallW_pure call23 (plCheckP vl u0 u1 u2 vo v0 v1 v2 t f l covers p w3 (hl.ext x3) (hT.ext x3) (ho.ext x3) (hP.ext x3)) fun w4 x4 => ?_
  have hd : Rp.err t f l covers p = if (Pl.check t f l covers p).2 ≠ 0 then (Pl.check t f l covers p).2 else if (Pl.check t f l covers p).1 then 0 else 220 := rfl
  rw [hd]
  generalize (Pl.check t f l covers p).1 = b
  generalize (Pl.check t f l covers p).2 = e
  have y4 := x3.trans x4
  by_cases he : e = 0
  · subst he
    cases b
    · (repeat with_reducible first | refine js ?_ | refine ja ?_ | refine jw KL45 [] (aa TF45 KX) fun _ => ?_)
      refine Run_condS (fun _ => rfl) (fun _ => ?_) (fun h => by cases h)
      (repeat with_reducible first | refine js ?_ | refine ja ?_ | refine jw KL45 [] TF45 fun _ => ?_)
      refine Run_ret ?_
      simp [Rets, RetM, resV, fnd, oneOr, y4]
    · (repeat with_reducible first | refine js ?_ | refine ja ?_ | refine jw KL45 [] (aa TF45 KX) fun _ => ?_)
      refine Run_condS (fun _ => rfl) (fun h => by cases h) (fun _ => ?_)
      (repeat with_reducible first | refine js ?_ | refine ja ?_ | refine jw KL45 [] TF45 fun _ => ?_)
      refine Run_ret ?_
      simp [Rets, RetM, resV, fnd, oneOr, y4]
  · have hb : (e == 0) = false := by simpa using he
    (repeat with_reducible first | refine js ?_ | refine ja ?_ | refine jw KL45 [] (aa TF45 (aa hb KX)) fun _ => ?_)
    refine Run_condS (fun _ => rfl) (fun h => by simp at h) (fun _ => ?_)
    (repeat with_reducible first | refine js ?_ | refine ja ?_ | refine jw KL45 [] TF45 fun _ => ?_)
    refine Run_ret ?_
    simp [Rets, RetM, resV, fnd, oneOr, he, y4]
theorem rpRightW {vl u0 u1 u2 vo v0 v1 v2 : Value} {t : TimeD} {f : TariffD} {l : List OrderD} {covers : Int} {p : PlanD} {w : World} {K : Value → World → Prop} (hl : Sl w vl t.Lines) (hT : TarR w f u0 u1 u2) (ho : Sl w vo l) (hP : PlanR w p v0 v1 v2) (hK : ∀ w', Ext w w' → K (.int .i64 (Rp.err t f l covers p)) w') :
    CallW Tryz.prog (.func (.func 45) #[] #[]) [.agg #[.int .i64 t.Offices, vl], .agg #[u0, u1, u2], vo, .int .i64 covers, .agg #[v0, v1, v2]] w K := CallW_pure call45 (rpRight vl u0 u1 u2 vo v0 v1 v2 t f l covers p w hl hT ho hP) hK
theorem rpKept (vs fv : Value) (xs : List RunD) (p : RunD → Bool) (w : World) (hs : Sl w vs xs) (hn : xs.length ≤ 1000000) (hp : ∀ r ∈ xs, ∀ w1, Ext w w1 → ∀ K : Value → World → Prop, (∀ w2, Ext w1 w2 → K (.bool (p r)) w2) → CallW Tryz.prog fv [.agg r.cs.toArray] w1 K) :
    Calls Tryz.prog 83 #[vs, fv] w fun e w' => ∃ v, e = .returned v ∧ Ext w w' ∧ BufO (α := RunD) 50 w.heap.size w' v (xs.filter p) := by
  have hsl := hs.len
  refine Calls_of_Run (args := [vs, fv]) (n := 22) (rs := [.tmp 4]) Tryz.func83 rfl rfl rfl (by simp) ?_
  (repeat with_reducible first | refine js ?_ | refine ja ?_ | refine jw KL83 [] (aa TF83 (aa hs.s hsl)) fun _ => ?_)
  refine Run_loopV [4, 6, 9, 10, 15] (σ := Nat × Value) (fun q => [(9, some (.int .i64 q.1)), (4, some q.2)]) (fun q w' => q.1 ≤ xs.length ∧ Ext w w' ∧ BufO (α := RunD) 50 w.heap.size w' q.2 ((xs.take q.1).filter p)) (fun q => xs.length - q.1) (0, .slice none 0 0) (by simp [SubB, fnd]) ⟨by simp, Ext.refl _, by simpa using BufO.nil⟩ ?_
  rintro ⟨q, vb⟩ w1 ⟨hq, x1, B1⟩
  simp only at hq x1 B1
  (repeat with_reducible first | refine js ?_ | refine ja ?_ | refine jw KL83 [] TF83 fun _ => ?_)
  refine Run_condS (fun _ => rfl) (fun h => ?_) (fun h => ?_)
  · simp at h
    have hql : q < xs.length := by omega
    have hqc : (q : Int) < xs.length := by omega
    clear h
    obtain ⟨r1, r2⟩ := (hs.ext x1).runD hql
    have htk : (xs.take (q + 1)).filter p = if p xs[q] = true then (xs.take q).filter p ++ [xs[q]] else (xs.take q).filter p := by
      rw [List.take_succ_eq_append_getElem hql, List.filter_append]
      by_cases h : p xs[q] = true <;> simp [h]
    have hpr := hp xs[q] (List.getElem_mem hql)
    have hfl : ((xs.take q).filter p).length ≤ q := Nat.le_trans (List.length_filter_le _ _) (by simp; omega)
    generalize (xs.take q).filter p = O at *
    generalize xs[q] = r at *
    simp only [RunD.cs, AtN, KS, Nat.reduceAdd, Nat.reduceMul, Nat.reduceEqDiff, ↓reduceIte, UT] at r1
    (repeat with_reducible first | refine js ?_ | refine ja ?_ | refine jw KL83 [] (aa TF83 (aa hs.s (aa hsl r1))) fun _ => ?_)
    refine SemW_allocT ti50 fun pr w2 h2 => ?_
    have b2 := h2.blk
    (repeat with_reducible first | refine js ?_ | refine ja ?_ | refine jw KL83 [] TF83 fun _ => ?_)
    refine SemW_setW (by rw [cells50]; decide) (by rw [cells50]; rfl) h2.row (by rw [cells50]; rfl) rfl fun w3 r3 k3 z3 => ?_
    have r3 : Row w3 pr 50 r.cs := by simpa [Value.cells, RunD.cs] using r3
    have x3 : Ext w1 w3 := Keep.ext h2.ext k3 fun b hb => by omega
    have n3 := r3.n
    simp only [RunD.cs, AtN, KS, Nat.reduceAdd, Nat.reduceMul, Nat.reduceEqDiff, ↓reduceIte, UT] at n3
    (repeat with_reducible first | refine js ?_ | refine ja ?_ | refine jw KL83 [] (aa TF83 n3) fun _ => ?_)
    refine hpr w3 (x1.trans x3) _ fun w4 x4 => ?_
    have x14 := x3.trans x4
    have B4 := B1.keepQ (Keep.of_ext (S := fun _ => True) x14) fun _ _ => trivial
    have hB4 : w.heap.size ≤ w4.heap.size := (x1.trans x14).size
    have n4 := (r3.ext x4).n
    simp only [RunD.cs, AtN, KS, Nat.reduceAdd, Nat.reduceMul, Nat.reduceEqDiff, ↓reduceIte, UT] at n4
    (repeat with_reducible first | refine js ?_ | refine ja ?_ | refine jw KL83 [] TF83 fun _ => ?_)
    refine Run_condS (fun _ => rfl) (fun h => ?_) (fun h => ?_)
    · rw [if_pos h] at htk
      (repeat with_reducible first | refine js ?_ | refine ja ?_ | refine jw KL83 [] (aa TF83 n4) fun _ => ?_)
      refine SemW_append1Q (α := RunD) Tryz.underlying30 ti50 rfl (by decide) B4 hB4 (x := r) ⟨rfl, r2⟩ (by simp only [maxLen]; omega) fun _ v5 w5 b5 k5 g5 => ?_
      (repeat with_reducible first | refine js ?_ | refine ja ?_ | refine jw KL83 [] TF83 fun _ => ?_)
      refine Run_lp ⟨(q + 1, v5), by simp [SubB, fnd, strike, has], ⟨by show q + 1 ≤ xs.length; omega, Keep.ext (x1.trans x14) k5 fun k hk e => by have := (B4.own_lt e.symm).1; omega, ?_⟩, by show xs.length - (q + 1) < xs.length - q; omega⟩
      show BufO _ _ _ v5 ((xs.take (q + 1)).filter p)
      rw [htk]; exact b5
    · rw [if_neg (by simp [h])] at htk
      (repeat with_reducible first | refine js ?_ | refine ja ?_ | refine jw KL83 [] TF83 fun _ => ?_)
      refine Run_lp ⟨(q + 1, vb), by simp [SubB, fnd, strike, has], ⟨by show q + 1 ≤ xs.length; omega, x1.trans x14, ?_⟩, by show xs.length - (q + 1) < xs.length - q; omega⟩
      show BufO _ _ _ vb ((xs.take (q + 1)).filter p)
      rw [htk]; exact B4
  · simp at h
    obtain rfl : q = xs.length := by omega
    rw [List.take_length] at B1
    (repeat with_reducible first | refine js ?_ | refine ja ?_ | refine jw KL83 [] TF83 fun _ => ?_)
    refine Run_ret ?_
    simp only [Rets, RetM, resV, fnd, oneOr, ↓reduceIte]
    exact ⟨_, rfl, _, rfl, x1, B1⟩
theorem rpOpt1 (pr : Addr) (r y : RunD) (w : World) (hr : At w pr r.cs) :
    Calls Tryz.prog 84 #[.agg y.cs.toArray, .pointer (some pr)] w fun e w' => e = .returned (.bool (decide (r.At < y.At))) ∧ Ext w w' := by
  refine Calls_of_Run (args := [.agg y.cs.toArray, .pointer (some pr)]) (n := 9) (rs := [.tmp 3]) Tryz.func84 rfl rfl rfl (by simp) ?_
  (repeat with_reducible first | refine js ?_ | refine ja ?_ | refine jw KL84 [] TF84 fun _ => ?_)
  refine SemW_box fun py w1 h1 => ?_
  have x1 := h1.ext
  have y1 := h1.at_.n
  have r1 := (hr.ext x1).n
  simp only [RunD.cs, AtN, KS, Nat.reduceAdd, Nat.reduceMul, Nat.reduceEqDiff, ↓reduceIte, UT] at y1 r1
  (repeat with_reducible first | refine js ?_ | refine ja ?_ | refine jw KL84 [] (aa TF84 (aa y1 r1)) fun _ => ?_)
  refine Run_ret ?_
  simp [Rets, RetM, resV, fnd, oneOr, x1]
end Go.Proofs.YtbfhenoiienghaaGreat
namespace Go.Fk
open Go
theorem mset_mem (k : List Int) (x : Value) : ∀ (m : List (List Int × Value)) (p : List Int × Value), p ∈ mset k x m → p.1 = k ∨ p ∈ m
  | [], p, h => by
    rw [show mset k x [] = [(k, x)] from rfl, List.mem_singleton] at h
    exact .inl (by rw [h])
  | q :: m, p, h => by
    unfold mset at h
    split at h
    · rcases List.mem_cons.1 h with e | e
      · exact .inl (by rw [e])
      · exact .inr (List.mem_cons_of_mem _ e)
    · rcases List.mem_cons.1 h with e | e
      · exact .inr (by rw [e]; exact List.mem_cons_self ..)
      · rcases mset_mem k x m p e with g | g
        · exact .inl g
        · exact .inr (List.mem_cons_of_mem _ g)
theorem mget_mem : ∀ {m : List (List Int × Value)}, (m.map (·.1)).Nodup → ∀ p ∈ m, mget m p.1 = some p.2
  | [], _, p, h => by cases h
  | q :: m, hn, p, h => by
    have h0 := List.nodup_cons.1 hn
    rw [mget_cons]
    rcases List.mem_cons.1 h with e | e
    · subst e; simp
    · rw [if_neg, mget_mem h0.2 p e]
      intro e2
      have e2 : p.1 = q.1 := by simpa using e2
      exact h0.1 (by show q.1 ∈ _; rw [← e2]; exact List.mem_map.2 ⟨p, e, rfl⟩)
theorem mget_some {k : List Int} {v : Value} : ∀ {m : List (List Int × Value)}, mget m k = some v → ∃ p ∈ m, p.1 = k
  | [], h => by simp [mget, ffind] at h
  | q :: m, h => by
    rw [mget_cons] at h
    split at h
    · rename_i e
      exact ⟨q, List.mem_cons_self .., (by simpa using e : k = q.1).symm⟩
    · obtain ⟨p, h1, h2⟩ := mget_some h
      exact ⟨p, List.mem_cons_of_mem _ h1, h2⟩
theorem BufO.toL {α : Type} [Enc α] {e : TypeId} {W w : World} {v : Value} {xs : List α} (h : BufO e W.heap.size w v xs) (x : Ext W w) : BufL e W w v xs := by
  obtain ⟨css, hc, hb⟩ := h.ex
  exact ⟨css, hc, ⟨hb, x⟩⟩
end Go.Fk
namespace Go.Proofs.YtbfhenoiienghaaGreat
open Go Go.Fk
set_option linter.unusedSimpArgs false
set_option linter.unusedVariables false
set_option maxRecDepth 100000
structure LdM (m : List (List Int × Value)) (l : List OrderD) (of : List RunD) : Prop where
  g : ∀ r, mget m (rk r) = if r ∈ of then some (ldv (Pl.load l of r)) else none
  k : ∀ p ∈ m, ∃ r, p.1 = rk r
def unk (k : List Int) : RunD := ⟨k.getD 0 0, k.getD 1 0, k.getD 2 0⟩
theorem unk_rk (r : RunD) : unk (rk r) = r := rfl
section
variable {m : List (List Int × Value)} {l : List OrderD} {of : List RunD} {r : RunD}
theorem LdM.nil : LdM [] l [] := ⟨fun r => by simp [mget, ffind], fun p h => by cases h⟩
theorem LdM.are (h : LdM m l of) (hn : of.length ≤ l.length) : LoadsAre m (Pl.load l of) := fun r => by
  rw [h.g r]
  by_cases e : r ∈ of
  · rw [if_pos e]; rfl
  · rw [if_neg e, Rp.load_no of hn e]; rfl
theorem LdM.put (h : LdM m l of) (hk : of.length < l.length) (r : RunD) : LdM (mset (rk r) (ldv (Pl.load l (of ++ [r]) r)) m) l (of ++ [r]) := by
  refine ⟨fun s => ?_, fun p hp => ?_⟩
  · rw [mget_set]
    by_cases e : s = r
    · subst e; simp
    · rw [if_neg (by simp; exact fun h => e (rk_inj h)), h.g s]
      have e2 : Pl.load l (of ++ [r]) s = Pl.load l of s := by rw [Pl.load_snoc hk r s, if_neg fun h => e h.symm]
      simp [e, e2]
  · rcases mset_mem _ _ _ _ hp with e | e
    · exact ⟨r, e⟩
    · exact h.k p e
theorem LdM.old (h : LdM m l (of ++ [r])) (hk : of.length < l.length) (hr : r ∈ of) : LdM (mset (rk r) (ldv (Pl.load l of r)) m) l of := by
  refine ⟨fun s => ?_, fun p hp => ?_⟩
  · rw [mget_set]
    by_cases e : s = r
    · subst e; simp [hr]
    · rw [if_neg (by simp; exact fun h => e (rk_inj h)), h.g s]
      have e2 : Pl.load l (of ++ [r]) s = Pl.load l of s := by rw [Pl.load_snoc hk r s, if_neg fun h => e h.symm]
      simp [e, e2]
  · rcases mset_mem _ _ _ _ hp with e | e
    · exact ⟨r, e⟩
    · exact h.k p e
theorem LdM.del (h : LdM m l (of ++ [r])) (hk : of.length < l.length) (hr : r ∉ of) (x : Value) : LdM (mdel (rk r) (mset (rk r) x m)) l of := by
  refine ⟨fun s => ?_, fun p hp => ?_⟩
  · rw [mget_del, mget_set]
    by_cases e : s = r
    · subst e; simp [hr]
    · rw [if_neg (by simp; exact fun h => e (rk_inj h)), if_neg (by simp; exact fun h => e (rk_inj h)), h.g s]
      have e2 : Pl.load l (of ++ [r]) s = Pl.load l of s := by rw [Pl.load_snoc hk r s, if_neg fun h => e h.symm]
      simp [e, e2]
  · rcases mset_mem _ _ _ _ (List.mem_filter.1 hp).1 with e | e
    · exact ⟨r, e⟩
    · exact h.k p e
theorem LdM.ent (h : LdM m l of) (hnd : (m.map (·.1)).Nodup) : ∀ p ∈ m, ∃ r, r ∈ of ∧ p = (rk r, ldv (Pl.load l of r)) := fun p hp => by
  obtain ⟨r, hr⟩ := h.k p hp
  have h1 := mget_mem hnd p hp
  rw [hr, h.g r] at h1
  by_cases e : r ∈ of
  · rw [if_pos e] at h1
    exact ⟨r, e, by rw [← hr, Option.some.inj h1]⟩
  · rw [if_neg e] at h1; cases h1
def csum (l : List OrderD) (of : List RunD) (m : List (List Int × Value)) : Int := Pl.sum (m.map fun p => (Pl.load l of (unk p.1)).covers)
theorem LdM.tot (h : LdM m l of) (hnd : (m.map (·.1)).Nodup) (hn : of.length ≤ l.length) : csum l of m = Pl.tot l of := by
  have hS : (m.map fun p => unk p.1).Nodup := by
    have h1 := List.pairwise_map.1 hnd
    refine List.pairwise_map.2 (List.Pairwise.imp_of_mem (fun {a b} ha hb hab e => hab ?_) h1)
    obtain ⟨r, hr⟩ := h.k a ha
    obtain ⟨s, hs⟩ := h.k b hb
    rw [hr, hs, unk_rk, unk_rk] at e
    rw [hr, hs, e]
  have := Pl.sum_tot (l := l) hS of hn fun r hr => by
    have h1 := h.g r
    rw [if_pos hr] at h1
    obtain ⟨p, hp, he⟩ := mget_some h1
    exact List.mem_map.2 ⟨p, hp, by rw [he, unk_rk]⟩
  rw [← this, List.map_map]; rfl
end
structure MdW (W0 : World) (pM pF pU pr : Addr) (mb : Nat) (fv : Value) (l : List OrderD) (of : List RunD) (w : World) : Prop where
  e : Ext W0 w
  m : ∃ T, Row w pM T [.map (some mb)]
  f : ∃ T, Row w pF T [.slice (some pr) l.length l.length]
  u : ∃ T, Row w pU T [fv]
  ld : ∃ m, MapO w mb (Tryz.prog.cellsOf 50) m ∧ LdM m l of
  r : ∃ full : List RunD, full.length = l.length ∧ full.take of.length = of ∧ BufO (α := RunD) 50 W0.heap.size w (.slice (some pr) l.length l.length) full
  b : W0.heap.size ≤ mb ∧ W0.heap.size ≤ pr.block ∧ pM.block ≠ mb ∧ pM.block ≠ pr.block ∧ pF.block ≠ mb ∧ pF.block ≠ pr.block ∧ pU.block ≠ mb ∧ pU.block ≠ pr.block ∧ mb ≠ pr.block
theorem MdW.ext {W0 : World} {pM pF pU pr : Addr} {mb : Nat} {fv : Value} {l : List OrderD} {of : List RunD} {w w' : World} (h : MdW W0 pM pF pU pr mb fv l of w) (x : Ext w w') : MdW W0 pM pF pU pr mb fv l of w' := by
  obtain ⟨T1, h1⟩ := h.m
  obtain ⟨T2, h2⟩ := h.f
  obtain ⟨T3, h3⟩ := h.u
  obtain ⟨m, m1, m2⟩ := h.ld
  obtain ⟨full, f1, f2, f3⟩ := h.r
  exact ⟨h.e.trans x, ⟨T1, h1.ext x⟩, ⟨T2, h2.ext x⟩, ⟨T3, h3.ext x⟩, ⟨m, m1.ext x, m2⟩, ⟨full, f1, f2, f3.keepQ (Keep.of_ext (S := fun _ => True) x) fun _ _ => trivial⟩, h.b⟩
theorem MdW.map {W0 : World} {pM pF pU pr : Addr} {mb : Nat} {fv : Value} {l : List OrderD} {of of' : List RunD} {w w' : World} {m : List (List Int × Value)} (h : MdW W0 pM pF pU pr mb fv l of w) (k : Keep (fun b => b ≠ mb) w w') (hM : MapO w' mb (Tryz.prog.cellsOf 50) m) (hL : LdM m l of') (hof : ∀ full : List RunD, full.take of.length = of → full.take of'.length = of') : MdW W0 pM pF pU pr mb fv l of' w' := by
  obtain ⟨b1, b2, b3, b4, b5, b6, b7, b8, b9⟩ := h.b
  obtain ⟨T1, h1⟩ := h.m
  obtain ⟨T2, h2⟩ := h.f
  obtain ⟨T3, h3⟩ := h.u
  obtain ⟨full, f1, f2, f3⟩ := h.r
  refine ⟨Keep.ext h.e k fun b hb => by omega, ⟨T1, h1.keep k b3⟩, ⟨T2, h2.keep k b5⟩, ⟨T3, h3.keep k b7⟩, ⟨m, hM, hL⟩, ⟨full, f1, hof full f2, f3.keepQ k fun g hg => ?_⟩, h.b⟩
  have : pr.block = g := by simpa [Value.ownBlock] using hg
  show g ≠ mb
  omega
theorem MdW.run {W0 : World} {pM pF pU pr : Addr} {mb : Nat} {fv : Value} {l : List OrderD} {of : List RunD} {w w' : World} {full : List RunD} (h : MdW W0 pM pF pU pr mb fv l of w) (k : Keep (fun b => b ≠ pr.block) w w') (f1 : full.length = l.length) (f3 : BufO (α := RunD) 50 W0.heap.size w' (.slice (some pr) l.length l.length) full) (f2 : full.take of.length = of) : MdW W0 pM pF pU pr mb fv l of w' := by
  obtain ⟨b1, b2, b3, b4, b5, b6, b7, b8, b9⟩ := h.b
  obtain ⟨T1, h1⟩ := h.m
  obtain ⟨T2, h2⟩ := h.f
  obtain ⟨T3, h3⟩ := h.u
  obtain ⟨m, m1, m2⟩ := h.ld
  exact ⟨Keep.ext h.e k fun b hb => by omega, ⟨T1, h1.keep k b4⟩, ⟨T2, h2.keep k b6⟩, ⟨T3, h3.keep k b8⟩, ⟨m, m1.keep k b9, m2⟩, ⟨full, f1, f2, f3⟩, h.b⟩
theorem MdW.both {W0 : World} {pM pF pU pr : Addr} {mb : Nat} {fv : Value} {l : List OrderD} {of full : List RunD} {r : RunD} {w w1 w2 : World} {m : List (List Int × Value)} (h : MdW W0 pM pF pU pr mb fv l of w) (k1 : Keep (fun b => b ≠ mb) w w1) (hM : MapO w1 mb (Tryz.prog.cellsOf 50) m) (hL : LdM m l (of ++ [r])) (f1 : full.length = l.length) (f2 : full.take of.length = of) (k2 : Keep (fun b => b ≠ pr.block) w1 w2) (B : BufL (α := RunD) 50 W0 w2 (.slice (some pr) l.length l.length) (full.set of.length r)) (hk : of.length < l.length) : MdW W0 pM pF pU pr mb fv l (of ++ [r]) w2 := by
  obtain ⟨b1, b2, b3, b4, b5, b6, b7, b8, b9⟩ := h.b
  obtain ⟨T1, h1⟩ := h.m
  obtain ⟨T2, h2⟩ := h.f
  obtain ⟨T3, h3⟩ := h.u
  refine ⟨B.ext0, ⟨T1, (h1.keep k1 b3).keep k2 b4⟩, ⟨T2, (h2.keep k1 b5).keep k2 b6⟩, ⟨T3, (h3.keep k1 b7).keep k2 b8⟩, ⟨m, hM.keep k2 b9, hL⟩, ⟨full.set of.length r, by simp [f1], ?_, B.o⟩, h.b⟩
  rw [List.length_append, List.length_singleton, List.take_succ_eq_append_getElem (by simp; omega), List.getElem_set_self, List.take_set_of_le (Nat.le_refl _), f2]
theorem take_less {of full : List RunD} {r : RunD} (h : full.take (of ++ [r]).length = of ++ [r]) : full.take of.length = of := by
  have := congrArg (List.take of.length) h
  rw [List.take_take, List.length_append, Nat.min_eq_left (by omega)] at this
  simpa using this
def MdQ (W0 : World) (pM pF pU pr : Addr) (mb : Nat) (fv : Value) (l : List OrderD) (of : List RunD) (r : Option (List RunD)) (w : World) (e : Ending) (w' : World) : Prop := e = .returned (.bool r.isSome) ∧ Keep (fun b => b ≠ mb ∧ b ≠ pr.block) w w' ∧ MdW W0 pM pF pU pr mb fv l (r.getD of) w'
section
variable {W0 : World} {pL pC pO pM pT pF pU pr : Addr} {mb : Nat} {vl vO vt : Value} {l : List OrderD} {covers : Int} {opts : List (List RunD)} {t : TimeD}
set_option maxHeartbeats 16000000 in
theorem mdLeaf (E : PutE W0 pL pC pO pT vl vO vt l covers opts t) (hl64 : l.length ≤ 64) (hcr : ∀ o ∈ l, 1 ≤ o.Crowd ∧ o.Crowd ≤ 64) (hcv : I64 covers) (fv : Value) (of : List RunD) (k : Int) (w : World) (hk : k = of.length) (hn : of.length = l.length) (S : MdW W0 pM pF pU pr mb fv l of w) :
      Calls Tryz.prog 85 #[.int .i64 k, .pointer (some pL), .pointer (some pM), .pointer (some pC), .pointer (some pO), .pointer (some pT), .pointer (some pF), .pointer (some pU)] w
        (MdQ W0 pM pF pU pr mb fv l of (Pl.srch l (Pl.room t) (Pl.leafT l covers) [] of) w) := by
  have l1 := (E.l_.ext S.e).n
  have c1 := (E.c.ext S.e).n
  have hls := E.hl.s
  have hll := E.hl.len
  obtain ⟨T1, m1⟩ := S.m
  have m1n := m1.n
  obtain ⟨m, hM, hL⟩ := S.ld
  have htb := Pl.tot_bd hcr (show of.length ≤ l.length by omega)
  have htot := hL.tot hM.nd (by omega)
  have hent := hL.ent hM.nd
  subst hk
  have hkl : ((of.length : Int) == l.length) = true := by rw [hn]; simp
  simp only [AtN, KS, Nat.reduceAdd, Nat.reduceMul, Nat.reduceEqDiff, ↓reduceIte, UT] at l1 c1 m1n
  refine Calls_of_Run (args := [.int .i64 of.length, .pointer (some pL), .pointer (some pM), .pointer (some pC), .pointer (some pO), .pointer (some pT), .pointer (some pF), .pointer (some pU)]) (n := 88) (rs := [.tmp 9]) Tryz.func85 rfl rfl rfl (by simp) ?_
  (repeat with_reducible first | refine js ?_ | refine ja ?_ | refine jw KL85 [13] (aa TF85 (aa l1 (aa hls hll))) fun _ => ?_)
  refine Run_condS (fun _ => rfl) (fun _ => ?_) (fun h => by simp [hn] at h)
  (repeat with_reducible first | refine js ?_ | refine ja ?_ | refine jw KL85 [13] TF85 fun _ => ?_)
  refine Run_mid (id := 3) KL85 1 (.tmp 22) (fun v => Instr.range 136 v) rfl (fun _ => rfl) (by simp) rfl rfl (by decide) rfl (by kernel_rfl) (by kernel_rfl) fun t0 => ?_
  (try simp (maxSteps := 5000000) only [KS, Nat.reduceAdd, Nat.reduceMul, Nat.reduceEqDiff, ↓reduceIte, forall_const, Int.cast_ofNat_Int, Int.reduceToNat, List.take_succ_cons, List.take_zero, List.drop_succ_cons, List.drop_zero, TF85, KL85, m1n]); (try simp (disch := omega) only [wrapI, tmodI, tdivI])
  refine SemW_range Tryz.underlying136 hM fun w1 I1 x1 z1 => ?_
  have S1 := S.ext x1
  have hbd : ∀ r, 0 ≤ (Pl.load l of r).covers ∧ (Pl.load l of r).covers ≤ 65 := fun r => Pl.cov_bd hcr of r
  (repeat with_reducible first | refine js ?_ | refine ja ?_ | refine jw KL85 [13] TF85 fun _ => ?_)
  refine Run_loopV [10, 12, 25] (σ := Int × List (List Int × Value)) (fun q => [(10, some (.int .i64 q.1))]) (fun q w' => Ext w w' ∧ IterB w' w.heap.size mb m q.2 ∧ (∀ p ∈ q.2, ∃ r, p = (rk r, ldv (Pl.load l of r))) ∧ q.1 + csum l of q.2 = Pl.tot l of ∧ 0 ≤ q.1) (fun q => q.2.length) (0, m) (by simp [SubB, fnd]) ⟨x1, I1, (fun p hp => by obtain ⟨r, _, h⟩ := hent p hp; exact ⟨r, h⟩), by simp [htot], by simp⟩ ?_
  rintro ⟨s, rest⟩ w2 ⟨x2, I2, hr2, hs2, hs0⟩
  simp only at x2 I2 hr2 hs2 hs0
  (repeat with_reducible first | refine jq ?_ | refine jk ?_ | refine jc ?_ | refine jl ?_ | refine jb ?_ | refine jo ?_ | refine ji ?_ | refine jx rfl ?_)
  refine Run_mid (id := 4) KL85 0 (.tmp 23) (fun v => Instr.next v false 0) rfl (fun _ => rfl) (by simp) rfl rfl (by decide) rfl (by kernel_rfl) (by kernel_rfl) fun t0 => ?_
  (try simp (maxSteps := 5000000) only [KS, Nat.reduceAdd, Nat.reduceMul, Nat.reduceEqDiff, ↓reduceIte, forall_const, Int.cast_ofNat_Int, Int.reduceToNat, List.take_succ_cons, List.take_zero, List.drop_succ_cons, List.drop_zero, TF85, KL85]); (try simp (disch := omega) only [wrapI, tmodI, tdivI])
  refine SemW_next I2 (fun he => ?_) fun p rest' w3 hp I3 En3 k3 z3 => ?_
  · subst he
    (try simp (maxSteps := 5000000) only [KS, Nat.reduceAdd, Nat.reduceMul, Nat.reduceEqDiff, ↓reduceIte, forall_const, Int.cast_ofNat_Int, Int.reduceToNat, List.take_succ_cons, List.take_zero, List.drop_succ_cons, List.drop_zero, TF85, KL85]); (try simp (disch := omega) only [wrapI, tmodI, tdivI])
    refine ⟨by decide, ?_⟩
    (repeat with_reducible first | refine jq ?_ | refine jk ?_ | refine jc ?_ | refine jl ?_ | refine jb ?_ | refine jo ?_ | refine ji ?_ | refine jx rfl ?_)
    refine Run_condS (fun _ => rfl) (fun h => by cases h) (fun _ => ?_)
    have S2 := S.ext x2
    have c2 := (E.c.ext S2.e).n
    have hsum : csum l of [] = 0 := rfl
    rw [hsum] at hs2
    obtain rfl : s = Pl.tot l of := by omega
    simp only [AtN, KS, Nat.reduceAdd, Nat.reduceMul, Nat.reduceEqDiff, ↓reduceIte, UT] at c2
    (repeat with_reducible first | refine js ?_ | refine ja ?_ | refine jw KL85 [13] (aa TF85 c2) fun _ => ?_)
    refine Run_ret ?_
    have hleaf : Pl.srch l (Pl.room t) (Pl.leafT l covers) [] of = if Pl.leafT l covers of then some of else none := rfl
    have hlt : Pl.leafT l covers of = decide (Pl.tot l of ≤ covers) := rfl
    rw [hleaf, hlt]
    simp only [Rets, RetM, resV, fnd, oneOr, ↓reduceIte]
    refine ⟨_, rfl, ?_⟩
    by_cases hc : Pl.tot l of ≤ covers
    · simp only [hc, decide_true, if_true]
      exact ⟨rfl, Keep.of_ext x2, S2⟩
    · simp only [hc, decide_false, Bool.false_eq_true, if_false]
      exact ⟨rfl, Keep.of_ext x2, S2⟩
  · have hpm : p ∈ rest := hp.mem_iff.2 (List.mem_cons_self ..)
    obtain ⟨r, rfl⟩ := hr2 p hpm
    have hr3 : ∀ p ∈ rest', ∃ r, p = (rk r, ldv (Pl.load l of r)) := fun q hq => hr2 q (hp.mem_iff.2 (List.mem_cons_of_mem _ hq))
    have hsum : csum l of rest = (Pl.load l of r).covers + csum l of rest' := by
      unfold csum
      rw [Rp.sum_perm (hp.map _)]; rfl
    have hnn : 0 ≤ csum l of rest' := Rp.sum_nn fun x hx => by
      obtain ⟨q, _, rfl⟩ := List.mem_map.1 hx
      exact (hbd _).1
    have hb := hbd r
    have hlb := Pl.load_bd hcr of r
    rw [hsum] at hs2
    have hlen : rest.length = rest'.length + 1 := by rw [hp.length_eq]; rfl
    have x3 : Ext w w3 := Keep.ext x2 k3 fun b hb => by omega
    (try simp (maxSteps := 5000000) only [KS, Nat.reduceAdd, Nat.reduceMul, Nat.reduceEqDiff, ↓reduceIte, forall_const, Int.cast_ofNat_Int, Int.reduceToNat, List.take_succ_cons, List.take_zero, List.drop_succ_cons, List.drop_zero, TF85, KL85]); (try simp (disch := omega) only [wrapI, tmodI, tdivI])
    refine ⟨by decide, ?_⟩
    (repeat with_reducible first | refine jq ?_ | refine jk ?_ | refine jc ?_ | refine jl ?_ | refine jb ?_ | refine jo ?_ | refine ji ?_ | refine jx rfl ?_)
    refine Run_condS (fun _ => rfl) (fun _ => ?_) (fun h => by cases h)
    (repeat with_reducible first | refine jq ?_ | refine jk ?_ | refine jc ?_ | refine jl ?_ | refine jb ?_ | refine jo ?_ | refine ji ?_ | refine jx rfl ?_)
    refine Run_mid (id := 5) KL85 0 (.tmp 23) (fun v => Instr.entry v) rfl (fun _ => rfl) (by simp) rfl rfl (by decide) rfl (by kernel_rfl) (by kernel_rfl) fun t0 => ?_
    (try simp (maxSteps := 5000000) only [KS, Nat.reduceAdd, Nat.reduceMul, Nat.reduceEqDiff, ↓reduceIte, forall_const, Int.cast_ofNat_Int, Int.reduceToNat, List.take_succ_cons, List.take_zero, List.drop_succ_cons, List.drop_zero, TF85, KL85]); (try simp (disch := omega) only [wrapI, tmodI, tdivI])
    refine SemW_entry En3 ?_
    (try simp (maxSteps := 5000000) only [KS, Nat.reduceAdd, Nat.reduceMul, Nat.reduceEqDiff, ↓reduceIte, forall_const, Int.cast_ofNat_Int, Int.reduceToNat, List.take_succ_cons, List.take_zero, List.drop_succ_cons, List.drop_zero, TF85, KL85]); (try simp (disch := omega) only [wrapI, tmodI, tdivI])
    generalize hx : Pl.load l of r = x at *
    refine ⟨by decide, ?_⟩
    refine SemW_allocT ti139 fun px w4 h4 => ?_
    have b4 := h4.blk
    refine SemW_setW (X := ldv x) (by rw [cells139]; decide) (by rw [cells139]; rfl) h4.row (by rw [cells139]; rfl) rfl fun w5 r5 k5 z5 => ?_
    have r5 : Row w5 px 139 [.int .i64 x.n, .int .i64 x.c] := r5
    have x5 : Ext w3 w5 := Keep.ext h4.ext k5 fun b hb => by omega
    have n5 := r5.n
    simp only [AtN, KS, Nat.reduceAdd, Nat.reduceMul, Nat.reduceEqDiff, ↓reduceIte, UT] at n5
    (repeat with_reducible first | refine js ?_ | refine ja ?_ | refine jw KL85 [13] (aa TF85 n5) fun _ => ?_)
    refine CallW_pure call86 (rldCovers x w5 (by omega) (by omega)) fun w6 x6 => ?_
    (repeat with_reducible first | refine js ?_ | refine ja ?_ | refine jw KL85 [13] TF85 fun _ => ?_)
    have x36 := x5.trans x6
    exact Run_lp ⟨(s + x.covers, rest'), by simp [SubB, fnd, strike, has], ⟨x3.trans x36, I3.ext x36, hr3, by show s + x.covers + csum l of rest' = _; omega, by show 0 ≤ s + x.covers; omega⟩, by show rest'.length < rest.length; omega⟩
set_option maxHeartbeats 16000000 in
theorem rpMend1 (E : PutE W0 pL pC pO pT vl vO vt l covers opts t) (hlen : opts.length = l.length) (hl64 : l.length ≤ 64) (hcr : ∀ o ∈ l, 1 ≤ o.Crowd ∧ o.Crowd ≤ 64) (hopt : ∀ o ∈ opts, ∀ r ∈ o, 0 ≤ r.Line ∧ r.Line < t.Lines.length) (hcv : I64 covers) :
    ∀ (rest : List (List RunD)) (of : List RunD) (k : Int) (w : World), k = of.length → opts.drop of.length = rest → of.length + rest.length = l.length →
      MdW W0 pM pF pU pr mb (.func (.func 85) #[] #[.pointer (some pL), .pointer (some pM), .pointer (some pC), .pointer (some pO), .pointer (some pT), .pointer (some pF), .pointer (some pU)]) l of w →
      Calls Tryz.prog 85 #[.int .i64 k, .pointer (some pL), .pointer (some pM), .pointer (some pC), .pointer (some pO), .pointer (some pT), .pointer (some pF), .pointer (some pU)] w
        (MdQ W0 pM pF pU pr mb (.func (.func 85) #[] #[.pointer (some pL), .pointer (some pM), .pointer (some pC), .pointer (some pO), .pointer (some pT), .pointer (some pF), .pointer (some pU)]) l of (Pl.srch l (Pl.room t) (Pl.leafT l covers) rest of) w) := by
  intro rest
  generalize hfv : (Value.func (.func 85) #[] #[.pointer (some pL), .pointer (some pM), .pointer (some pC), .pointer (some pO), .pointer (some pT), .pointer (some pF), .pointer (some pU)]) = fv
  induction rest with
  | nil =>
    intro of k w hk hdr hn S
    exact mdLeaf E hl64 hcr hcv fv of k w hk (by simpa using hn) S
  | cons o rest ih =>
    intro of k w hk hdr hn S
    have l1 := (E.l_.ext S.e).n
    have o1 := (E.o.ext S.e).n
    have hls := E.hl.s
    have hll := E.hl.len
    have hos := E.ho.s
    have hol := E.ho.len
    simp only [List.length_cons] at hn
    have hk' : of.length < opts.length := by omega
    have hkl : of.length < l.length := by omega
    have hkc : (of.length : Int) < opts.length := by omega
    have hklc : (of.length : Int) < l.length := by omega
    subst hk
    have hko : opts[of.length] = o := by
      have := List.drop_eq_getElem_cons hk'
      rw [hdr] at this
      exact (List.cons.inj this).1.symm
    have hdr2 : opts.drop (of.length + 1) = rest := by
      have := List.drop_eq_getElem_cons hk'
      rw [hdr] at this
      exact (List.cons.inj this).2.symm
    have hps : Pl.srch l (Pl.room t) (Pl.leafT l covers) (o :: rest) of = o.findSome? fun r => if Pl.step l (Pl.room t) of r then Pl.srch l (Pl.room t) (Pl.leafT l covers) rest (of ++ [r]) else none := rfl
    rw [hps]
    generalize hf : (fun r => if Pl.step l (Pl.room t) of r then Pl.srch l (Pl.room t) (Pl.leafT l covers) rest (of ++ [r]) else none) = f
    obtain ⟨cs, ⟨vk, rfl, sk0⟩, ak⟩ := E.ho.at_ of.length hk'
    rw [hko] at sk0
    rw [show of.length * Enc.n (List RunD) = of.length from Nat.mul_one _] at ak
    have ak1 := (ak.ext S.e).n
    simp only [AtN, KS, Nat.reduceAdd, Nat.reduceMul, Nat.reduceEqDiff, ↓reduceIte, UT] at l1 o1 ak1
    have skl := sk0.len
    refine Calls_of_Run (args := [.int .i64 of.length, .pointer (some pL), .pointer (some pM), .pointer (some pC), .pointer (some pO), .pointer (some pT), .pointer (some pF), .pointer (some pU)]) (n := 88) (rs := [.tmp 9]) Tryz.func85 rfl rfl rfl (by simp) ?_
    (repeat with_reducible first | refine js ?_ | refine ja ?_ | refine jw KL85 [13] (aa TF85 (aa l1 (aa hls hll))) fun _ => ?_)
    refine Run_condS (fun _ => rfl) (fun h => by simp at h; omega) (fun _ => ?_)
    (repeat with_reducible first | refine js ?_ | refine ja ?_ | refine jw KL85 [13] (aa TF85 (aa o1 (aa hos (aa hol (aa ak1 (aa sk0.s skl)))))) fun _ => ?_)
    have hcell : Tryz.prog.cellsOf 50 = 3 := cells50
    have hflat : flatT Tryz.prog 50 = true := by kernel_rfl
    have osm := sk0.small
    have hoin : o ∈ opts := by rw [← hko]; exact List.getElem_mem hk'
    refine Run_loopV [9, 14, 15, 16, 17, 40, 41, 68, 79, 84] (σ := Nat) (fun q => [(40, some (.int .i64 q))]) (fun q w' => q ≤ o.length ∧ (o.drop q).findSome? f = o.findSome? f ∧ MdW W0 pM pF pU pr mb fv l of w' ∧ Keep (fun b => b ≠ mb ∧ b ≠ pr.block) w w') (fun q => o.length - q) 0 (by simp [SubB, fnd]) ⟨by omega, rfl, S, Keep.refl _ _⟩ ?_
    rintro q w1 ⟨hq, hfs, S1, k1⟩
    (repeat with_reducible first | refine js ?_ | refine ja ?_ | refine jw KL85 [13] TF85 fun _ => ?_)
    refine Run_condS (fun _ => rfl) (fun h => ?_) (fun h => ?_)
    · simp at h
      have hql : q < o.length := by omega
      have hqc : (q : Int) < o.length := by omega
      clear h
      obtain ⟨r1, r2⟩ := (sk0.ext S1.e).runD hql
      have hline := hopt o hoin o[q] (List.getElem_mem hql)
      have hfr : f o[q] = if Pl.step l (Pl.room t) of o[q] then Pl.srch l (Pl.room t) (Pl.leafT l covers) rest (of ++ [o[q]]) else none := by rw [← hf]
      have hskip := fun e => Pl.findS_skip (f := f) hql e
      have hhit := fun x e => Pl.findS_hit (f := f) (x := x) hql e
      generalize o[q] = r at *
      simp only [RunD.cs, AtN, KS, Nat.reduceAdd, Nat.reduceMul, Nat.reduceEqDiff, ↓reduceIte, UT] at r1
      (repeat with_reducible first | refine js ?_ | refine ja ?_ | refine jw KL85 [13] (aa TF85 (aa sk0.s (aa skl r1))) fun _ => ?_)
      refine SemW_allocT ti50 fun pq w2 h2 => ?_
      have b2 := h2.blk
      (repeat with_reducible first | refine js ?_ | refine ja ?_ | refine jw KL85 [13] TF85 fun _ => ?_)
      refine SemW_setW (by rw [cells50]; decide) (by rw [cells50]; rfl) h2.row (by rw [cells50]; rfl) rfl fun w3 r3 k3 z3 => ?_
      have r3 : Row w3 pq 50 r.cs := by simpa [Value.cells, RunD.cs] using r3
      have x3 : Ext w1 w3 := Keep.ext h2.ext k3 fun b hb => by omega
      have S3 := S1.ext x3
      obtain ⟨T1, m3⟩ := S3.m
      have m3n := m3.n
      have r3n := r3.n
      simp only [RunD.cs, AtN, KS, Nat.reduceAdd, Nat.reduceMul, Nat.reduceEqDiff, ↓reduceIte, UT] at m3n r3n
      (repeat with_reducible first | refine js ?_ | refine ja ?_ | refine jw KL85 [13] (aa TF85 (aa m3n r3n)) fun _ => ?_)
      obtain ⟨mm, hM, hL⟩ := S3.ld
      refine SemW_lookup (k := rk r) Tryz.underlying136 hflat ti139 hM.b (by rw [hcell]; rfl) ?_
      simp only [if_true]
      have hz' : (mget mm (rk r)).getD (.agg #[.int .i64 0, .int .i64 0]) = ldv (Pl.load l of r) := hL.are (by omega) r
      have hus : (mget mm (rk r)).isSome = decide (r ∈ of) := by rw [hL.g r]; by_cases e : r ∈ of <;> simp [e]
      rw [hz', hus]
      have hmbl : mb < w1.heap.size := by
        obtain ⟨_, hM, _⟩ := S1.ld
        exact hM.lt
      have hprl : pr.block < w1.heap.size := by
        obtain ⟨_, _, _, hB⟩ := S1.r
        exact (hB.own_lt rfl).2
      clear hz' hus hM hL mm
      have hxb := Pl.load_bd hcr of r
      have hsn := Pl.load_snoc (l := l) (of := of) hkl r r
      rw [if_pos rfl] at hsn
      have hst : Pl.step l (Pl.room t) of r = decide (max ((Pl.load l of r).wth l[of.length]).n ((Pl.load l of r).wth l[of.length]).c ≤ Pl.room t r) := by unfold Pl.step; rw [hsn]
      have hxb2 := Pl.load_bd hcr (of ++ [r]) r
      rw [hsn] at hxb2
      have hcrk := hcr _ (List.getElem_mem hkl)
      generalize hx : Pl.load l of r = x at hxb hsn hst hxb2 ⊢
      obtain ⟨g, _, gAt0, hO2⟩ := E.hl.ord hkl
      have hone2 := hO2.one
      generalize hok : l[of.length] = ok at *
      generalize hnw : x.wth ok = nw at *
      generalize hud : decide (r ∈ of) = used
      (repeat with_reducible first | refine js ?_ | refine ja ?_ | refine jw KL85 [13] TF85 fun _ => ?_)
      refine SemW_allocT ti139 fun po w4 h4 => ?_
      have b4 := h4.blk
      refine SemW_setW (by rw [cells139]; decide) (by rw [cells139]; rfl) h4.row (by rw [cells139]; rfl) rfl fun w5 r5 k5 z5 => ?_
      have r5 : Row w5 po 139 [.int .i64 x.n, .int .i64 x.c] := by simpa [Value.cells, ldv] using r5
      have x5 : Ext w3 w5 := Keep.ext h4.ext k5 fun b hb => by omega
      have S5 := S3.ext x5
      have s5 := h4.row.lt
      (repeat with_reducible first | refine jq ?_ | refine jk ?_ | refine jc ?_ | refine jl ?_ | refine jb ?_ | refine jo ?_ | refine ji ?_ | refine jx rfl ?_)
      refine Run_cutV [17] (σ := Addr) (fun a => [(17, some (.pointer (some a)))]) (fun a w' => Row w' a 139 [.int .i64 nw.n, .int .i64 nw.c] ∧ w5.heap.size ≤ a.block ∧ Ext w5 w') ?_ ?_
      · (repeat with_reducible first | refine jq ?_ | refine jk ?_ | refine jc ?_ | refine jl ?_ | refine jb ?_ | refine jo ?_ | refine ji ?_ | refine jx rfl ?_)
        refine Run_ec (id := 12) KL85 (.first 0 (.first 1 (.first 2 (.first 3 (.first 4 (.alt 5 (.alt 6 (.alt 7 .done .stop) .stop) (.alt 6 (.alt 5 (.alt 7 .done .stop) .stop) .stop))))))) mixed (by kernel_rfl) (by kernel_rfl) fun w6 x6 _ => ?_
        have S6 := S5.ext x6
        have l6 := (E.l_.ext S6.e).n
        have g6 := (gAt0.ext S6.e).n
        have r6 := (r5.ext x6).n
        simp only [OrderD.cs, AtN, KS, Nat.reduceAdd, Nat.reduceMul, Nat.reduceEqDiff, ↓reduceIte, UT] at l6 g6 r6
        (try simp (maxSteps := 5000000) only [KS, Nat.reduceAdd, Nat.reduceMul, Nat.reduceEqDiff, ↓reduceIte, forall_const, Int.cast_ofNat_Int, Int.reduceToNat, List.take_succ_cons, List.take_zero, List.drop_succ_cons, List.drop_zero, TF85, KL85, ec, l6, g6, r6, hls, hll]); (try simp (disch := omega) only [wrapI, tmodI, tdivI])
        (try simp (maxSteps := 5000000) only [KS, Nat.reduceAdd, Nat.reduceMul, Nat.reduceEqDiff, ↓reduceIte, forall_const, Int.cast_ofNat_Int, Int.reduceToNat, List.take_succ_cons, List.take_zero, List.drop_succ_cons, List.drop_zero, TF85, KL85, ec, l6, g6, r6, hls, hll]); (try simp (disch := omega) only [wrapI, tmodI, tdivI])
        have hxn : 0 ≤ x.n ∧ x.n ≤ 1000000000000000 := by omega
        have hcall : ∀ w' (K : Value → World → Prop), (∀ w'', Ext w' w'' → K (.agg #[.int .i64 nw.n, .int .i64 nw.c]) w'') → CallW Tryz.prog (.func (.func 87) #[] #[]) [.agg #[.int .i64 x.n, .int .i64 x.c], .agg #[.int .i64 ok.From, .int .i64 ok.Person, .int .i64 ok.Dest, .int .i64 ok.Class, .int .i64 ok.After, .int .i64 ok.By, .int .i64 ok.Crowd, .int .i64 ok.Pay, g, .bool ok.Back, .int .i64 ok.Else]] w' K := fun w' K hK => by
          have := rldWith x ok g w' hxn hcrk
          rw [hnw] at this
          exact CallW_pure call87 this hK
        have s6 := x6.size
        refine ⟨⟨by omega, by omega⟩, Ext.refl _, hcall _ _ fun w7 x7 => ⟨x7, SemW_allocT ti139 fun pn w8 h8 => ⟨x7.trans h8.ext, ?_⟩⟩, Ext.refl _, SemW_allocT ti139 fun pn w8 h8 => ⟨h8.ext, hcall _ _ fun w9 x9 => ⟨h8.ext.trans x9, ?_⟩⟩⟩
        · have b8 := h8.blk
          have s7 := x7.size
          refine SemW_setW (by rw [cells139]; decide) (by rw [cells139]; rfl) h8.row (by rw [cells139]; rfl) rfl fun w9 r9 k9 z9 => ?_
          have r9 : Row w9 pn 139 [.int .i64 nw.n, .int .i64 nw.c] := by simpa [Value.cells] using r9
          have x69 : Ext w6 w9 := Keep.ext (x7.trans h8.ext) k9 fun b hb => by omega
          refine ⟨x69, ?_⟩
          (repeat with_reducible first | refine js ?_ | refine ja ?_ | refine jw KL85 [13] TF85 fun _ => ?_)
          exact Run_lp ⟨pn, by simp [SubB, fnd, strike, has], r9, by omega, x6.trans x69⟩
        · have b8 := h8.blk
          refine SemW_setW (by rw [cells139]; decide) (by rw [cells139]; rfl) (h8.row.ext x9) (by rw [cells139]; rfl) rfl fun w10 r9 k9 z9 => ?_
          have r9 : Row w10 pn 139 [.int .i64 nw.n, .int .i64 nw.c] := by simpa [Value.cells] using r9
          have x69 : Ext w6 w10 := Keep.ext (h8.ext.trans x9) k9 fun b hb => by omega
          refine ⟨x69, ?_⟩
          (repeat with_reducible first | refine js ?_ | refine ja ?_ | refine jw KL85 [13] TF85 fun _ => ?_)
          exact Run_lp ⟨pn, by simp [SubB, fnd, strike, has], r9, by omega, x6.trans x69⟩
      rintro pn w6 ⟨r6, b6, x6⟩
      have S6 := S5.ext x6
      have t6 := (E.t_.ext S6.e).n
      have n6 := r6.n
      have pr6 := ((r3.ext x5).ext x6).n
      have hln : r.Line.toNat < t.Lines.length := by omega
      obtain ⟨l0, l1', l2, l3, _, lA, lR⟩ := (E.ht.ext S6.e).line hln
      have hroom : Pl.room t r = t.Lines[r.Line.toNat].Room := by
        unfold Pl.room Pl.lineR
        rw [List.getD_eq_getElem?_getD, List.getElem?_eq_getElem hln]; rfl
      have lAn := lA.n
      have hts := E.ht.s
      have htl := E.ht.len
      simp only [TimeD.cs, RunD.cs, LineD.cs, AtN, KS, Nat.reduceAdd, Nat.reduceMul, Nat.reduceEqDiff, ↓reduceIte, UT] at t6 n6 pr6 lAn
      rw [← hroom] at lAn
      (repeat with_reducible first | refine js ?_ | refine ja ?_ | refine jw KL85 [13] (aa TF85 (aa t6 (aa n6 (aa pr6 (aa hts (aa htl (aa lAn KX))))))) fun _ => ?_)
      intro w7 x7
      have S7 := S6.ext x7
      have k17 : Keep (fun b => b ≠ mb ∧ b ≠ pr.block) w w7 := k1.trans (Keep.of_ext (x3.trans (x5.trans (x6.trans x7))))
      refine Run_condS (fun _ => rfl) (fun h => ?_) (fun h => ?_)
      rotate_left
      · have hno : Pl.step l (Pl.room t) of r = false := by rw [hst]; simp at h ⊢; omega
        clear h
        rw [hno, if_neg (by simp)] at hfr
        (repeat with_reducible first | refine js ?_ | refine ja ?_ | refine jw KL85 [13] TF85 fun _ => ?_)
        exact Run_lp ⟨q + 1, by simp [SubB, fnd, strike, has], ⟨by omega, by rw [← hskip hfr]; exact hfs, S7, k17⟩, by omega⟩
      have hyes : Pl.step l (Pl.room t) of r = true := by rw [hst]; simp at h ⊢; omega
      clear h
      rw [hyes, if_pos rfl] at hfr
      have x37 := x5.trans (x6.trans x7)
      let S : Nat → Prop := fun b => b ≠ mb ∧ b ≠ pr.block
      (repeat with_reducible first | refine jq ?_ | refine jk ?_ | refine jc ?_ | refine jl ?_ | refine jb ?_ | refine jo ?_ | refine ji ?_ | refine jx rfl ?_)
      refine Run_eh S [8] [(0, [8]), (1, [8]), (2, [8]), (4, [8]), (5, [8])] (id := 14) KL85 (.first 0 (.first 1 (.first 2 (.first 3 (.first 4 (.first 5 (.alt true 6 (.first 7 (.alt true 8 (.done false) .stop)) .stop))))))) mixed (by kernel_rfl) (by kernel_rfl) fun w9 x9 _ => ?_
      have S9 := S7.ext x9
      obtain ⟨T9, m9⟩ := S9.m
      obtain ⟨T9', f9⟩ := S9.f
      have m9n := m9.n
      have f9n := f9.n
      have pr9 := (r3.ext (x37.trans x9)).n
      have n9 := (r6.ext (x7.trans x9)).n
      simp only [RunD.cs, AtN, KS, Nat.reduceAdd, Nat.reduceMul, Nat.reduceEqDiff, ↓reduceIte, UT] at m9n f9n pr9 n9
      (try simp (maxSteps := 5000000) only [KS, Nat.reduceAdd, Nat.reduceMul, Nat.reduceEqDiff, ↓reduceIte, forall_const, Int.cast_ofNat_Int, Int.reduceToNat, List.take_succ_cons, List.take_zero, List.drop_succ_cons, List.drop_zero, TF85, KL85, eh, gres, qopS, putL, ung, m9n, f9n, pr9, n9]); (try simp (disch := omega) only [wrapI, tmodI, tdivI])
      obtain ⟨B1, B2, B3, B4, B5, B6, B7, B8, B9⟩ := S9.b
      have s13 := x3.size
      have s35 := x5.size
      have hpq : pq.block ≠ mb ∧ pq.block ≠ pr.block := by omega
      have hpn : pn.block ≠ mb ∧ pn.block ≠ pr.block := by omega
      have hpo : po.block ≠ mb ∧ po.block ≠ pr.block := by omega
      obtain ⟨m9', hM9, hL9⟩ := S9.ld
      obtain ⟨full, fl1, fl2, fl3⟩ := S9.r
      refine ⟨⟨B3, B4⟩, hpq, ⟨B5, B6⟩, hpn, hpq, Keep.refl _ _, ?_⟩
      refine SemW_mapUpdateO (k := rk r) Tryz.underlying136 hflat hM9 (by rw [hcell]; rfl) fun w10 m10 k10 z10 => ⟨⟨by omega, by omega⟩, k10.mono (fun b _ h => h.1), ?_⟩
      have E10 : Ext W0 w10 := Keep.ext S9.e k10 fun b hb => by omega
      have F10 := (fl3.keepQ k10 fun g hg => by have : pr.block = g := by simpa [Value.ownBlock] using hg
                                                omega).toL E10
      refine SemW_setE (X := .agg #[.int .i64 r.Line, .int .i64 r.At, .int .i64 r.Arrive]) F10 of.length (by omega) r cells50 (by decide) ⟨rfl, r2⟩ rfl fun w11 B11 k11 z11 x11 => ⟨fun h => h.elim, ?_⟩
      have S11 : MdW W0 pM pF pU pr mb fv l (of ++ [r]) w11 := S9.both k10 m10 (by have := hL9.put hkl r; rw [hsn] at this; exact this) fl1 fl2 k11 B11 hkl
      have k911 : Keep (fun b => b ≠ mb ∧ b ≠ pr.block) w9 w11 := (k10.mono fun b _ h => h.1).trans (k11.mono fun b _ h => h.2)
      have k111 := (k17.trans (Keep.of_ext x9)).trans k911
      have k311 : Keep (fun b => b ≠ mb ∧ b ≠ pr.block) w3 w11 := (Keep.of_ext (x37.trans x9)).trans k911
      have k511 : Keep (fun b => b ≠ mb ∧ b ≠ pr.block) w5 w11 := (Keep.of_ext ((x6.trans x7).trans x9)).trans k911
      obtain ⟨T11, u11⟩ := S11.u
      have u11n := u11.n
      simp only [AtN, KS, Nat.reduceAdd, Nat.reduceMul, Nat.reduceEqDiff, ↓reduceIte, UT] at u11n
      (repeat with_reducible first | refine js ?_ | refine ja ?_ | refine jw KL85 [13] (aa TF85 u11n) fun _ => ?_)
      subst hfv
      refine CallW_cl call85 (ih (of ++ [r]) ((of.length : Int) + 1) w11 (by simp) (by rw [List.length_append, List.length_singleton]; exact hdr2) (by rw [List.length_append, List.length_singleton]; omega) S11) fun e w14 hq => ?_
      obtain ⟨he, k14, S14⟩ := hq
      refine ⟨_, he, ?_⟩
      have k114 := k111.trans k14
      cases hres : Pl.srch l (Pl.room t) (Pl.leafT l covers) rest (of ++ [r]) with
      | some y =>
        rw [hres] at S14 hfr
        (repeat with_reducible first | refine js ?_ | refine ja ?_ | refine jw KL85 [13] (aa TF85 KX) fun _ => ?_)
        refine Run_condS (fun _ => rfl) (fun _ => ?_) (fun h => by cases h)
        (repeat with_reducible first | refine js ?_ | refine ja ?_ | refine jw KL85 [13] TF85 fun _ => ?_)
        refine Run_ret ?_
        simp only [Rets, RetM, resV, fnd, oneOr, ↓reduceIte]
        refine ⟨_, rfl, ?_⟩
        rw [← hfs, hhit y hfr]
        exact ⟨rfl, k114, S14⟩
      | none =>
        rw [hres] at S14 hfr
        rw [Option.getD_none] at S14
        (repeat with_reducible first | refine js ?_ | refine ja ?_ | refine jw KL85 [13] (aa TF85 KX) fun _ => ?_)
        refine Run_condS (fun _ => rfl) (fun h => by cases h) (fun _ => ?_)
        have pq14 := r3.keep (k311.trans k14) hpq
        have po14 := (r5.keep (k511.trans k14) hpo).n
        obtain ⟨T14, m14⟩ := S14.m
        have m14n := m14.n
        have pr14 := pq14.n
        simp only [RunD.cs, AtN, KS, Nat.reduceAdd, Nat.reduceMul, Nat.reduceEqDiff, ↓reduceIte, UT] at pr14 po14 m14n
        (repeat with_reducible first | refine js ?_ | refine ja ?_ | refine jw KL85 [13] (aa TF85 (aa m14n (aa pr14 po14))) fun _ => ?_)
        obtain ⟨mm, hM, hL⟩ := S14.ld
        refine SemW_mapUpdateO (k := rk r) Tryz.underlying136 hflat hM (by rw [hcell]; rfl) fun w16 m16 k16 z16 => ?_
        (repeat with_reducible first | refine js ?_ | refine ja ?_ | refine jw KL85 [13] TF85 fun _ => ?_)
        by_cases hin : r ∈ of
        · obtain rfl : used = true := by rw [← hud]; exact decide_eq_true hin
          refine Run_condS (fun _ => rfl) (fun h => by cases h) (fun _ => ?_)
          have S16 := S14.map k16 m16 (by have := LdM.old hL hkl hin; rwa [hx] at this) (fun full h => take_less h)
          (repeat with_reducible first | refine js ?_ | refine ja ?_ | refine jw KL85 [13] TF85 fun _ => ?_)
          exact Run_lp ⟨q + 1, by simp [SubB, fnd, strike, has], ⟨by omega, by rw [← hskip hfr]; exact hfs, S16, k114.trans (k16.mono fun b _ h => h.1)⟩, by omega⟩
        · obtain rfl : used = false := by rw [← hud]; exact decide_eq_false hin
          refine Run_condS (fun _ => rfl) (fun _ => ?_) (fun h => by cases h)
          have m16n := (m14.keep k16 B3).n
          have pr16 := (pq14.keep k16 hpq.1).n
          simp only [RunD.cs, AtN, KS, Nat.reduceAdd, Nat.reduceMul, Nat.reduceEqDiff, ↓reduceIte, UT] at m16n pr16
          (repeat with_reducible first | refine js ?_ | refine ja ?_ | refine jw KL85 [13] (aa TF85 (aa m16n pr16)) fun _ => ?_)
          refine SemW_deleteO (k := rk r) Tryz.underlying136 hflat m16 (by rw [hcell]; rfl) (fun w17 m17 k17' z17 => ?_) rfl
          have S17 := S14.map (k16.trans k17') m17 (LdM.del hL hkl hin _) (fun full h => take_less h)
          (repeat with_reducible first | refine js ?_ | refine ja ?_ | refine jw KL85 [13] TF85 fun _ => ?_)
          exact Run_lp ⟨q + 1, by simp [SubB, fnd, strike, has], ⟨by omega, by rw [← hskip hfr]; exact hfs, S17, k114.trans ((k16.trans k17').mono fun b _ h => h.1)⟩, by omega⟩
    · simp at h
      obtain rfl : q = o.length := by omega
      clear h
      rw [List.drop_length] at hfs
      (repeat with_reducible first | refine js ?_ | refine ja ?_ | refine jw KL85 [13] TF85 fun _ => ?_)
      refine Run_ret ?_
      simp only [Rets, RetM, resV, fnd, oneOr, ↓reduceIte]
      refine ⟨_, rfl, ?_⟩
      rw [← hfs]
      exact ⟨rfl, k1, S1⟩
end
end Go.Proofs.YtbfhenoiienghaaGreat
namespace Go.Fk
open Go
theorem ltOfD (a b : SmR) : Go.Proofs.ltOf cmpD a b = Tt.before a.r b.r := by
  unfold Go.Proofs.ltOf
  have h : decide (cmpD a b < 0) = !decide (0 ≤ cmpD a b) := by
    rw [Bool.eq_iff_iff, Bool.not_eq_true', decide_eq_false_iff_not, decide_eq_true_eq]; omega
  rw [h, cmpD_before, Bool.not_not]
theorem swoD : Sort.SWO (Go.Proofs.ltOf cmpD) where
  irrefl x := by rw [ltOfD, not_before]; omega
  trans x y z h1 h2 := by rw [ltOfD] at *; exact Tt.before_trans h1 h2
  ntrans x y z h1 h2 := by rw [ltOfD, not_before] at *; omega
end Go.Fk
namespace Go.Proofs.YtbfhenoiienghaaGreat
open Go Go.Fk
set_option linter.unusedSimpArgs false
set_option linter.unusedVariables false
set_option maxRecDepth 100000
theorem rpCmp (a b : SmR) (w : World) : Calls Tryz.prog 129 #[.agg a.r.cs.toArray, .agg b.r.cs.toArray] w fun e w' => e = .returned (.int .i64 (cmpD a b)) ∧ ∃ q os', w' = Sort.grow (w.drewN q) os' := by
  have ha := a.h
  have hb := b.h
  unfold smallR at ha hb
  have hc : cmpD a b = if a.r.At ≠ b.r.At then a.r.At - b.r.At else a.r.Line - b.r.Line := rfl
  generalize cmpD a b = c at *
  generalize a.r = a at *
  generalize b.r = b at *
  refine Calls_of_Run (args := [.agg a.cs.toArray, .agg b.cs.toArray]) (n := 20) (rs := [.tmp 4]) Tryz.func129 rfl rfl rfl (by simp) ?_
  (repeat with_reducible first | refine js ?_ | refine ja ?_ | refine jw KL129 [] TF129 fun _ => ?_)
  refine SemW_box fun p w1 hN => SemW_box fun q w2 hQ => ?_
  have g1 := (hN.at_.ext hQ.ext).n
  have g2 := hQ.at_.n
  have hw : ∃ q os', w2 = Sort.grow (w.drewN q) os' := by
    rw [hQ.w, hN.w, Sort.alloc_eq_grow, Sort.alloc_eq_grow]
    exact ⟨0, _, Sort.grow_grow w _ _⟩
  simp only [RunD.cs, AtN, KS, Nat.reduceAdd, Nat.reduceMul, Nat.reduceEqDiff, ↓reduceIte, UT] at g1 g2
  (repeat with_reducible first | refine js ?_ | refine ja ?_ | refine jw KL129 [] (aa TF129 (aa g1 g2)) fun _ => ?_)
  refine Run_condS (fun _ => rfl) (fun h => ?_) (fun h => ?_)
  · have h' : a.At ≠ b.At := by simpa using h
    rw [if_pos h'] at hc
    (repeat with_reducible first | refine js ?_ | refine ja ?_ | refine jw KL129 [] (aa TF129 (aa g1 g2)) fun _ => ?_)
    refine Run_ret ?_
    simp only [Rets, RetM, resV, fnd, oneOr, ↓reduceIte]
    exact ⟨_, rfl, by rw [hc], hw⟩
  · have h' : ¬ a.At ≠ b.At := by simpa using h
    rw [if_neg h'] at hc
    (repeat with_reducible first | refine js ?_ | refine ja ?_ | refine jw KL129 [] (aa TF129 (aa g1 g2)) fun _ => ?_)
    refine Run_ret ?_
    simp only [Rets, RetM, resV, fnd, oneOr, ↓reduceIte]
    exact ⟨_, rfl, by rw [hc], hw⟩
theorem cmpDLays (blk off size : Nat) (w : World) : Go.Proofs.CmpLays Tryz.prog 129 #[] (fun s : SmR => s.r.cs) 3 cmpD blk off size w := fun m os dk _ x y => rpCmp x y _
theorem sortD {v : Value} {l : List RunD} {w : World} {B : Nat} (hb : BufO (α := RunD) 50 B w v l) (hn : l.length ≤ 100000) (hsm : ∀ r ∈ l, smallR r) :
    Calls Tryz.prog 125 #[v, .func (.func 129) #[] #[]] w fun e w' => e = .returned (.tuple #[]) ∧ (∃ l', l'.Perm l ∧ l'.Pairwise (fun x y => Tt.before y x = false) ∧ BufO (α := RunD) 50 B w' v l') ∧ Keep (fun k => some k ≠ v.ownBlock) w w' := by
  by_cases h0 : l = []
  · subst h0
    have hv : ∃ p cap, v = .slice p 0 cap := by
      obtain ⟨css, hc, hl, hv⟩ := hb.ex
      rcases hv with ⟨rfl, _⟩ | ⟨g, cap, cur, rfl, _⟩
      · exact ⟨_, _, rfl⟩
      · exact ⟨_, _, rfl⟩
    obtain ⟨p, cap, rfl⟩ := hv
    refine (AnyF.slices_SortFunc_none sortRun p cap _ w).mono fun e w' ⟨he, hw⟩ => ?_
    subst hw
    exact ⟨he, ⟨[], List.Perm.refl _, List.Pairwise.nil, hb⟩, Keep.refl _ _⟩
  obtain ⟨L, hL⟩ := smallR_list hsm
  obtain ⟨css, hc, hl, hv⟩ := hb.ex
  obtain ⟨e1, hr⟩ := hc.runs
  rcases hv with ⟨rfl, h0'⟩ | ⟨g, cap, cur, rfl, hbs, hg, h1, h2, h3, h4⟩
  · exact (h0 (List.eq_nil_of_length_eq_zero h0')).elim
  have e2 : l.flatMap RunD.cs = L.flatMap fun s : SmR => s.r.cs := by rw [← hL, List.flatMap_map]
  have hLn : L.length = l.length := by rw [← hL, List.length_map]
  rw [e1, e2] at h4
  have hlt : g < w.heap.size := (Array.getElem?_eq_some_iff.1 hg).1
  have eg : ∀ args w, (callFunc 129 args).run Tryz.prog w = .ok (.enter 129 args) w := enters_of Tryz.func129 (by kernel_rfl) rfl
  have hk : ∀ x : SmR, x.r.cs.length = 3 := fun _ => rfl
  have hcall := AnyQ.slices_SortFunc sortRun 3 Tryz.isAgg50 Tryz.sizeOf50 (fun s : SmR => s.r.cs) hk (fun x v hv => by simp [RunD.cs] at hv; rcases hv with rfl | rfl | rfl <;> rfl) cmpD swoD 129 #[] g 0 cap L.toArray w eg (cmpDLays _ _ _ _) (holdsK_row hk hg (by rw [hLn]; exact h4)) hlt (by simp; omega)
  simp only [List.size_toArray, hLn] at hcall
  refine hcall.mono fun e w' ⟨he, d', n, os, hp, hs, hw⟩ => ?_
  obtain ⟨l', rfl⟩ : ∃ l' : List SmR, d' = l'.toArray := ⟨d'.toList, by simp⟩
  have hsz : l'.length = l.length := by simpa [hLn] using hp.1
  have hpm : l'.Perm L := by
    have := hp.2.2
    simp [hLn] at this
    rwa [List.take_of_length_le (Nat.le_of_eq hsz), List.take_of_length_le (Nat.le_of_eq hLn)] at this
  have hpm2 : (l'.map SmR.r).Perm l := by rw [← hL]; exact hpm.map _
  have hsrt : (l'.map SmR.r).Pairwise fun x y => Tt.before y x = false := by
    rw [List.pairwise_map]
    refine List.pairwise_iff_getElem.2 fun i j hi hj hij => ?_
    have := hs i j (Nat.zero_le _) hij (by simpa [hsz] using hj)
    rw [ltOfD] at this
    simpa [List.getElem!_eq_getElem?_getD, List.getElem?_eq_getElem hi, List.getElem?_eq_getElem hj] using this
  obtain ⟨⟨cur', q1, q2, q3⟩, q4⟩ := sorted_row hk hg (l := l') (by rw [h3, hsz]; exact Nat.mul_le_mul_right 3 h1) n os
  rw [← hw] at q1 q4
  refine ⟨he, ⟨l'.map SmR.r, hpm2, hsrt, (l'.map SmR.r).map RunD.cs, ?_, ?_, .inr ⟨g, cap, cur', by rw [List.length_map, hsz], hbs, q1, by rw [List.length_map, hsz]; exact h1, h2, by rw [q2]; exact h3, ?_⟩⟩, q4.mono fun k _ hk e => hk (by rw [e]; rfl)⟩
  · exact Cs.ofRuns fun x hx => hr x (hpm2.mem_iff.1 hx) _
  · rw [← List.flatMap_def, flat_len (enc := RunD.cs) (k := 3) (fun _ => rfl)]; rfl
  · rw [← List.flatMap_def, List.flatMap_map, List.length_map]; exact q3
set_option maxHeartbeats 4000000 in
theorem rpPlan (vq vof : Value) (mb : Nat) (m : List (List Int × Value)) (l : List OrderD) (of : List RunD) (w : World) (hof : Sl w vof of) (hn : of.length ≤ l.length) (hl : l.length ≤ 64) (hd : Pl.Dis of) (hsm : ∀ r ∈ of, smallR r) (hcr : ∀ o ∈ l, 1 ≤ o.Crowd ∧ o.Crowd ≤ 64) (hM : MapB w mb (Tryz.prog.cellsOf 50) m) (hL : LoadsAre m (Pl.load l of)) :
    Calls Tryz.prog 88 #[vq, vof, .map (some mb)] w fun e w' => ∃ v0 v1 v2, e = .returned (.agg ((Pl.planOf l of).cs v0 v1 v2).toArray) ∧ Ext w w' ∧ PlanR w' (Pl.planOf l of) v0 v1 v2 := by
  have hs := hof.s
  have hofl := hof.len
  refine Calls_of_Run (args := [vq, vof, .map (some mb)]) (n := 55) (rs := [.cell 6 32]) Tryz.func88 rfl rfl rfl (by simp) ?_
  (repeat with_reducible first | refine js ?_ | refine ja ?_ | refine jw KL88 [] TF88 fun _ => ?_)
  refine SemW_allocT ti32 fun pp w1 h1 => ?_
  have b1 := h1.blk
  have z1 := h1.size
  have x1 := h1.ext
  have r1 : Row w1 pp 32 [.slice none 0 0, .slice none 0 0, .slice none 0 0] := h1.row
  (repeat with_reducible first | refine js ?_ | refine ja ?_ | refine jw KL88 [] TF88 fun _ => ?_)
  refine CallW_gen call123 (clnRuns vof of w1 (hof.ext x1) (by omega)) fun e w2 ⟨v2, he2, B2⟩ => ⟨_, he2, ?_⟩
  have x2 := B2.ext0
  (repeat with_reducible first | refine js ?_ | refine ja ?_ | refine jw KL88 [] TF88 fun _ => ?_)
  have x02 := x1.trans x2
  have pb : pp.block = w.heap.size := by rw [h1.p]
  refine SemW_set0 cells30 (r1.ext x2) (by simp) (isS_c B2.isS.1) (isS_o B2.isS.1) fun w3 r3 k3 z3 => ?_
  have e1 : pp.block + 1 = w1.heap.size := by omega
  have O3 : BufO (α := RunD) 50 (pp.block + 1) w3 v2 of := (e1 ▸ B2.o).keepQ k3 fun g hg => by have := (B2.o.own_lt hg).1; omega
  have r3 : Row w3 pp 32 [v2, .slice none 0 0, .slice none 0 0] := r3
  have x3 : Ext w w3 := Keep.ext x02 k3 fun k hk => by omega
  have n3 := r3.n
  simp only [AtN, KS, Nat.reduceAdd, Nat.reduceMul, Nat.reduceEqDiff, ↓reduceIte, UT] at n3
  (repeat with_reducible first | refine js ?_ | refine ja ?_ | refine jw KL88 [] (aa TF88 n3) fun _ => ?_)
  refine CallW_gen call125 (sortD O3 (by omega) hsm) fun e w4 ⟨he4, ⟨l', hp4, hs4, O4⟩, k4⟩ => ⟨_, he4, ?_⟩
  have r4 := r3.keep k4 (O3.ne r3 (by decide))
  have x4 : Ext w w4 := Keep.ext x3 k4 fun k hk e => by have := (O3.own_lt e.symm).1; omega
  have hB4 : pp.block + 1 ≤ w4.heap.size := r4.lt
  have n4 := r4.n
  simp only [AtN, KS, Nat.reduceAdd, Nat.reduceMul, Nat.reduceEqDiff, ↓reduceIte, UT] at n4
  (repeat with_reducible first | refine js ?_ | refine ja ?_ | refine jw KL88 [] (aa TF88 n4) fun _ => ?_)
  refine CallW_gen call126 (cptR v2 l' _ w4 (O4.cut hB4) (by rw [hp4.length_eq]; omega)) fun e w5 ⟨v5, he5, B5⟩ => ⟨_, he5, ?_⟩
  rw [cpt_dd hp4 hs4 hd] at B5
  have x5 : Ext w w5 := (cutW_of x4 (by omega) hB4).trans B5.ext0
  have r5 := (Row.cut r4 (show pp.block < pp.block + 1 by omega)).ext B5.ext0
  have O5 := B5.o
  rw [cutW_size hB4] at O5
  (repeat with_reducible first | refine js ?_ | refine ja ?_ | refine jw KL88 [] TF88 fun _ => ?_)
  refine SemW_set0 cells30 r5 (by simp) (isS_c B5.isS.1) (isS_o B5.isS.1) fun w6 r6 k6 z6 => ?_
  have r6 : Row w6 pp 32 [v5, .slice none 0 0, .slice none 0 0] := r6
  have O6 := O5.keepQ k6 fun g hg => by have := (O5.own_lt hg).1; omega
  have x6 : Ext w w6 := Keep.ext x5 k6 fun k hk => by omega
  have P6 : PlW w pp v5 (Pl.dd of) [] [] w6 := ⟨x6, by omega, O6, _, _, r6, BufO.nil, BufO.nil, fun g hg => by cases hg⟩
  clear x5 r5 O5 k6 z6 r6 O6 B5 n4 hB4 r4 k4 O4 n3 r3 O3 z3 k3 B2 r1 z1 x02 x2 x1 b1 h1
  have hS64 : (Pl.dd of).length ≤ 64 := by
    rw [← cpt_dd hp4 hs4 hd]
    exact Nat.le_trans (cpt_len l') (by rw [hp4.length_eq]; omega)
  have hmem := (Pl.dd_spec hd).2
  clear hp4 hs4 hd
  generalize hSd : Pl.dd of = R at *
  (repeat with_reducible first | refine js ?_ | refine ja ?_ | refine jw KL88 [] (aa TF88 (aa hs hofl)) fun _ => ?_)
  refine Run_loopV [8, 23, 24] (σ := Nat) (fun q => [(23, some (.int .i64 q))]) (fun q w' => q ≤ of.length ∧ PlW w pp v5 R ((of.take q).map fun r => Pl.ridx r R 0) [] w') (fun q => of.length - q) 0 (by simp [SubB, fnd]) ⟨by omega, P6⟩ ?_
  rintro q w7 ⟨hq, P7⟩
  (repeat with_reducible first | refine js ?_ | refine ja ?_ | refine jw KL88 [] TF88 fun _ => ?_)
  refine Run_condS (fun _ => rfl) (fun h => ?_) (fun h => ?_)
  · simp at h
    have hql : q < of.length := by omega
    have hqc : (q : Int) < of.length := by omega
    clear h
    obtain ⟨r1, r2⟩ := (hof.ext P7.e).runD hql
    have htk : (of.take (q + 1)).map (fun r => Pl.ridx r R 0) = (of.take q).map (fun r => Pl.ridx r R 0) ++ [Pl.ridx of[q] R 0] := by rw [List.take_add_one, List.getElem?_eq_getElem hql, List.map_append]; rfl
    have hrd := Pl.ridx_getD ((hmem _).2 (List.getElem_mem hql))
    have hin := (hmem _).2 (List.getElem_mem hql)
    have hlq : ((of.take q).map fun r => Pl.ridx r R 0).length = q := by rw [List.length_map, List.length_take]; omega
    generalize (of.take q).map (fun r => Pl.ridx r R 0) = O at *
    generalize of[q] = r at *
    simp only [RunD.cs, AtN, KS, Nat.reduceAdd, Nat.reduceMul, Nat.reduceEqDiff, ↓reduceIte, UT] at r1
    (repeat with_reducible first | refine js ?_ | refine ja ?_ | refine jw KL88 [] (aa TF88 (aa hs (aa hofl r1))) fun _ => ?_)
    refine SemW_allocT ti50 fun pr w8 h8 => ?_
    have b8 := h8.blk
    (repeat with_reducible first | refine js ?_ | refine ja ?_ | refine jw KL88 [] TF88 fun _ => ?_)
    refine SemW_setW (by rw [cells50]; decide) (by rw [cells50]; rfl) h8.row (by rw [cells50]; rfl) rfl fun w9 r9 k9 z9 => ?_
    have r9 : Row w9 pr 50 r.cs := by simpa [Value.cells, RunD.cs] using r9
    have x9 : Ext w7 w9 := Keep.ext h8.ext k9 fun b hb => by omega
    obtain ⟨v1, v2', p1, p2, p3, p4⟩ := P7.r
    let S : Nat → Prop := fun b => some b ≠ v1.ownBlock
    have Sp : S pp.block := fun e => by have := (p2.own_lt e.symm).1; omega
    have Sr : S pr.block := fun e => by have := (p2.own_lt e.symm).2; omega
    (repeat with_reducible first | refine jq ?_ | refine jk ?_ | refine jc ?_ | refine jl ?_ | refine jb ?_ | refine jo ?_ | refine ji ?_ | refine jx rfl ?_)
    refine Run_eh S [9] [(1, [9]), (3, [9]), (4, [9])] (id := 7) KL88 (.first 0 (.first 1 (.first 2 (.first 3 (.first 4 (.alt true 5 (.alt true 6 (.alt true 7 (.first 8 (.alt true 9 (.done false) .stop)) .stop) .stop) .stop)))))) mixed (by kernel_rfl) (by kernel_rfl) fun w10 x10 _ => ?_
    have r10 := (r9.ext x10).n
    have x710 := x9.trans x10
    have p10 := (p1.ext x710).n
    simp only [RunD.cs, AtN, KS, Nat.reduceAdd, Nat.reduceMul, Nat.reduceEqDiff, ↓reduceIte, UT] at r10 p10
    (try simp (maxSteps := 5000000) only [KS, Nat.reduceAdd, Nat.reduceMul, Nat.reduceEqDiff, ↓reduceIte, forall_const, Int.cast_ofNat_Int, Int.reduceToNat, List.take_succ_cons, List.take_zero, List.drop_succ_cons, List.drop_zero, TF88, KL88, eh, gres, qopS, putL, ung, r10, p10]); (try simp (disch := omega) only [wrapI, tmodI, tdivI])
    refine ⟨Sp, Sp, Sr, Keep.refl _ _, ?_⟩
    refine CallW_pure call127 (idxR v5 r R w10 ((P7.s.keepQ (Keep.of_ext (S := fun _ => True) x710) fun _ _ => trivial).sl (by omega))) fun w11 x11 => ⟨Keep.of_ext x11, ?_⟩
    have x711 := x710.trans x11
    have k711 := Keep.of_ext (S := fun _ => True) x711
    have hB11 : pp.block + 1 ≤ w11.heap.size := (p1.ext x711).lt
    refine SemW_append1W (α := Int) Tryz.underlying25 ti3 rfl (by decide) (p2.keepQ k711 fun _ _ => trivial) hB11 (x := Pl.ridx r R 0) ⟨rfl, by unfold I64; omega⟩ (by rw [hlq]; simp only [maxLen]; omega) (G := fun w' => Keep S w10 w') (fun w' x => Keep.of_ext (x11.trans x)) fun _ v12 w12 b12 k12 g12 => ⟨(Keep.of_ext x11).trans k12, ?_⟩
    refine SemW_setAt (i := 1) cells25 (p1.ext x711 |>.keep k12 Sp) (by simp) (isS_c b12.isS.1) (isS_o b12.isS.1) fun w13 r13 k13 z13 => ⟨fun h => h.elim, ?_⟩
    (repeat with_reducible first | refine js ?_ | refine ja ?_ | refine jw KL88 [] TF88 fun _ => ?_)
    refine Run_lp ⟨q + 1, by simp [SubB, fnd, strike, has], ⟨by omega, ?_⟩, by omega⟩
    rw [htk]
    exact P7.put1 x711 p1 p2 p3 p4 b12 k12 g12 r13 k13
  · simp at h
    obtain rfl : q = of.length := by omega
    rw [List.take_length] at P7
    obtain ⟨v1, v2', p1, p2, p3, p4⟩ := P7.r
    have p7 := p1.n
    simp only [AtN, KS, Nat.reduceAdd, Nat.reduceMul, Nat.reduceEqDiff, ↓reduceIte, UT] at p7
    have s5 := P7.s.isS.1
    have l5 := P7.s.isS.2
    (repeat with_reducible first | refine js ?_ | refine ja ?_ | refine jw KL88 [] (aa TF88 (aa p7 (aa s5 l5))) fun _ => ?_)
    clear p1 p2 p3 p4 p7 v1 v2'
    refine Run_loopV [10, 40, 41] (σ := Nat) (fun q => [(40, some (.int .i64 q))]) (fun q w' => q ≤ R.length ∧ PlW w pp v5 R (of.map fun r => Pl.ridx r R 0) ((R.take q).map fun r => (Pl.load l of r).covers) w') (fun q => R.length - q) 0 (by simp [SubB, fnd]) ⟨by omega, P7⟩ ?_
    rintro q w7 ⟨hq, P7⟩
    (repeat with_reducible first | refine js ?_ | refine ja ?_ | refine jw KL88 [] TF88 fun _ => ?_)
    refine Run_condS (fun _ => rfl) (fun h => ?_) (fun h => ?_)
    · simp at h
      have hql : q < R.length := by omega
      have hqc : (q : Int) < R.length := by omega
      clear h
      obtain ⟨r1, r2⟩ := (P7.s.sl (by omega)).runD hql
      have htk : (R.take (q + 1)).map (fun r => (Pl.load l of r).covers) = (R.take q).map (fun r => (Pl.load l of r).covers) ++ [(Pl.load l of R[q]).covers] := by rw [List.take_add_one, List.getElem?_eq_getElem hql, List.map_append]; rfl
      have hlq : ((R.take q).map fun r => (Pl.load l of r).covers).length = q := by rw [List.length_map, List.length_take]; omega
      generalize (R.take q).map (fun r => (Pl.load l of r).covers) = C at *
      generalize R[q] = r at *
      have hlr := Pl.load_bd hcr of r
      have hcv := Pl.cov_bd hcr of r
      simp only [RunD.cs, AtN, KS, Nat.reduceAdd, Nat.reduceMul, Nat.reduceEqDiff, ↓reduceIte, UT] at r1
      (repeat with_reducible first | refine js ?_ | refine ja ?_ | refine jw KL88 [] (aa TF88 (aa s5 (aa l5 r1))) fun _ => ?_)
      refine SemW_allocT ti50 fun pr w8 h8 => ?_
      have b8 := h8.blk
      (repeat with_reducible first | refine js ?_ | refine ja ?_ | refine jw KL88 [] TF88 fun _ => ?_)
      refine SemW_setW (by rw [cells50]; decide) (by rw [cells50]; rfl) h8.row (by rw [cells50]; rfl) rfl fun w9 r9 k9 z9 => ?_
      have r9 : Row w9 pr 50 r.cs := by simpa [Value.cells, RunD.cs] using r9
      have x9 : Ext w7 w9 := Keep.ext h8.ext k9 fun b hb => by omega
      obtain ⟨v1, v2', p1, p2, p3, p4⟩ := P7.r
      have hml : mb < w.heap.size := hM.lt
      let S : Nat → Prop := fun b => some b ≠ v2'.ownBlock
      have Sp : S pp.block := fun e => by have := (p3.own_lt e.symm).1; omega
      have Sr : S pr.block := fun e => by have := (p3.own_lt e.symm).2; omega
      have Sm : S mb := fun e => by have := (p3.own_lt e.symm).1; omega
      (repeat with_reducible first | refine jq ?_ | refine jk ?_ | refine jc ?_ | refine jl ?_ | refine jb ?_ | refine jo ?_ | refine ji ?_ | refine jx rfl ?_)
      refine Run_eh S [9] [(1, [9]), (3, [9])] (id := 12) KL88 (.first 0 (.first 1 (.first 2 (.first 3 (.alt true 4 (.alt true 5 (.alt true 6 (.alt true 7 (.first 8 (.alt true 9 (.done false) .stop)) .stop) .stop) .stop) .stop))))) mixed (by kernel_rfl) (by kernel_rfl) fun w10 x10 _ => ?_
      have r10 := (r9.ext x10).n
      have x710 := x9.trans x10
      have p10 := (p1.ext x710).n
      simp only [RunD.cs, AtN, KS, Nat.reduceAdd, Nat.reduceMul, Nat.reduceEqDiff, ↓reduceIte, UT] at r10 p10
      (try simp (maxSteps := 5000000) only [KS, Nat.reduceAdd, Nat.reduceMul, Nat.reduceEqDiff, ↓reduceIte, forall_const, Int.cast_ofNat_Int, Int.reduceToNat, List.take_succ_cons, List.take_zero, List.drop_succ_cons, List.drop_zero, TF88, KL88, eh, gres, qopS, putL, ung, r10, p10]); (try simp (disch := omega) only [wrapI, tmodI, tdivI])
      have hflat : flatT Tryz.prog 50 = true := by kernel_rfl
      refine ⟨Sp, Sr, Keep.refl _ _, ?_⟩
      refine SemW_lookup (k := rk r) Tryz.underlying136 hflat ti139 (hM.ext (P7.e.trans x710)) (by rw [cells50]; rfl) ?_
      simp only [Bool.false_eq_true, if_false]
      have hz' : (mget m (rk r)).getD (.agg #[.int .i64 0, .int .i64 0]) = ldv (Pl.load l of r) := hL r
      rw [hz']
      refine ⟨Keep.refl _ _, ?_⟩
      refine CallW_pure call86 (rldCovers (Pl.load l of r) w10 (by omega) (by omega)) fun w11 x11 => ⟨Keep.of_ext x11, ?_⟩
      have x711 := x710.trans x11
      have k711 := Keep.of_ext (S := fun _ => True) x711
      have hB11 : pp.block + 1 ≤ w11.heap.size := (p1.ext x711).lt
      refine SemW_append1W (α := Int) Tryz.underlying25 ti3 rfl (by decide) (p3.keepQ k711 fun _ _ => trivial) hB11 (x := (Pl.load l of r).covers) ⟨rfl, by unfold I64; omega⟩ (by rw [hlq]; simp only [maxLen]; omega) (G := fun w' => Keep S w10 w') (fun w' x => Keep.of_ext (x11.trans x)) fun _ v12 w12 b12 k12 g12 => ⟨(Keep.of_ext x11).trans k12, ?_⟩
      refine SemW_setAt (i := 2) cells25 (p1.ext x711 |>.keep k12 Sp) (by simp) (isS_c b12.isS.1) (isS_o b12.isS.1) fun w13 r13 k13 z13 => ⟨fun h => h.elim, ?_⟩
      (repeat with_reducible first | refine js ?_ | refine ja ?_ | refine jw KL88 [] TF88 fun _ => ?_)
      refine Run_lp ⟨q + 1, by simp [SubB, fnd, strike, has], ⟨by omega, ?_⟩, by omega⟩
      rw [htk]
      exact P7.put2 x711 p1 p2 p3 p4 b12 k12 g12 r13 k13
    · simp at h
      obtain rfl : q = R.length := by omega
      rw [List.take_length] at P7
      obtain ⟨v1, v2', p1, p2, p3, p4⟩ := P7.r
      have p7 := p1.n
      simp only [AtN, KS, Nat.reduceAdd, Nat.reduceMul, Nat.reduceEqDiff, ↓reduceIte, UT] at p7
      (repeat with_reducible first | refine js ?_ | refine ja ?_ | refine jw KL88 [] (aa TF88 p7) fun _ => ?_)
      refine SemW_setW (by rw [cells32]; decide) (by rw [cells32]; rfl) p1 (by rw [cells32]; rfl) (by simp [Value.cells, isS_o s5, isS_o p2.isS.1, isS_o p3.isS.1]) fun w8 r8 k8 z8 => ?_
      have e8 := loadVar_at (P := Tryz.prog) (t := 32) (by kernel_rfl) (by rw [cells32]; decide) (by rw [cells32]; rfl) r8.at_
      (repeat with_reducible first | refine js ?_ | refine ja ?_ | refine jw KL88 [] TF88 fun _ => ?_)
      refine Run_ret ?_
      simp only [Rets, RetM, resV]
      refine ⟨pp, _, rfl, e8, ?_⟩
      simp only [oneOr]
      have hb := P7.b
      refine ⟨v5, v1, v2', rfl, Keep.ext P7.e k8 fun k hk => by omega, ?_⟩
      refine ⟨?_, ?_, ?_⟩
      · exact (P7.s.keepQ k8 fun g hg => by have := (P7.s.own_lt hg).1; omega).sl (by omega) |> fun h => by unfold Pl.planOf; rw [hSd]; exact h
      · exact (p2.keepQ k8 fun g hg => by have := (p2.own_lt hg).1; omega).sl (by rw [List.length_map]; omega) |> fun h => by unfold Pl.planOf; rw [hSd]; exact h
      · exact (p3.keepQ k8 fun g hg => by have := (p3.own_lt hg).1; omega).sl (by rw [List.length_map]; omega) |> fun h => by unfold Pl.planOf; rw [hSd]; exact h
end Go.Proofs.YtbfhenoiienghaaGreat
namespace Go.Fk
open Go
theorem made3 (a : Value) (m : Nat) : (madeCells #[a, a, a] m).toList = List.replicate m a := by
  apply List.ext_getElem?
  intro j
  by_cases hj : j < m
  · have h3 : j % 3 = 0 ∨ j % 3 = 1 ∨ j % 3 = 2 := by omega
    rcases h3 with h | h | h <;> simp [madeCells, hj, h]
  · simp [madeCells, hj]
def mendPl (l : List OrderD) : Option (List RunD) → PlanD
  | none => Pl.noPlan
  | some of => Pl.planOf l of
end Go.Fk
namespace Go.Proofs.YtbfhenoiienghaaGreat
open Go Go.Fk
set_option linter.unusedSimpArgs false
set_option linter.unusedVariables false
set_option maxRecDepth 100000
set_option maxHeartbeats 4000000 in
theorem rpMend (vl vo vO : Value) (t : TimeD) (l : List OrderD) (covers : Int) (opts : List (List RunD)) (w : World) (hl : Sl w vl t.Lines) (ho : Sl w vo l) (hO : Sl w vO opts) (hlen : opts.length = l.length) (hl64 : l.length ≤ 64) (hcr : ∀ o ∈ l, 1 ≤ o.Crowd ∧ o.Crowd ≤ 64) (hrun : ∀ o ∈ opts, ∀ r ∈ o, Tt.isRun t r = true) (hcv : I64 covers) :
    Calls Tryz.prog 47 #[.agg (t.cs vl).toArray, vo, .int .i64 covers, vO] w fun e w' => ∃ v0 v1 v2, e = .returned (.tuple #[.agg ((mendPl l (Pl.srch l (Pl.room t) (Pl.leafT l covers) opts [])).cs v0 v1 v2).toArray, .bool (Pl.srch l (Pl.room t) (Pl.leafT l covers) opts []).isSome]) ∧ Ext w w' ∧ PlanR w' (mendPl l (Pl.srch l (Pl.room t) (Pl.leafT l covers) opts [])) v0 v1 v2 := by
  have hos := ho.s
  have hol := ho.len
  have hOs := hO.s
  refine Calls_of_Run (args := [.agg (t.cs vl).toArray, vo, .int .i64 covers, vO]) (n := 26) (rs := [.cell 8 32, .tmp 9]) Tryz.func47 rfl rfl rfl (by simp) ?_
  (repeat with_reducible first | refine js ?_ | refine ja ?_ | refine jw KL47 [] TF47 fun _ => ?_)
  refine SemW_box fun pt w1 h1 => SemW_box fun pl w2 h2 => SemW_box fun pc w3 h3 => SemW_box fun po w4 h4 => SemW_allocT ti32 fun pp w5 h5 => ?_
  have b5 := h5.blk
  have z1 := h1.size
  have z2 := h2.size
  have z3 := h3.size
  have z4 := h4.size
  have z5 := h5.size
  have x5 := h1.ext.trans (h2.ext.trans (h3.ext.trans (h4.ext.trans h5.ext)))
  have T0 : ∀ w', Ext w5 w' → At w' pt (t.cs vl) := fun w' x => (h1.at_.ext (h2.ext.trans (h3.ext.trans (h4.ext.trans (h5.ext.trans x)))))
  have L0 : ∀ w', Ext w5 w' → At w' pl [vo] := fun w' x => by simpa [isS_c hos] using (h2.at_.ext (h3.ext.trans (h4.ext.trans (h5.ext.trans x))))
  have C0 : ∀ w', Ext w5 w' → At w' pc [.int .i64 covers] := fun w' x => h3.at_.ext (h4.ext.trans (h5.ext.trans x))
  have O0 : ∀ w', Ext w5 w' → At w' po [vO] := fun w' x => by simpa [isS_c hOs] using (h4.at_.ext (h5.ext.trans x))
  have r5 : Row w5 pp 32 [.slice none 0 0, .slice none 0 0, .slice none 0 0] := h5.row
  have L := fun w' x => (L0 w' x).n
  have P := fun w' x => (Row.ext r5 (w' := w') x).n
  simp only [AtN, KS, Nat.reduceAdd, Nat.reduceMul, Nat.reduceEqDiff, ↓reduceIte, UT] at L P
  (repeat with_reducible first | refine js ?_ | refine ja ?_ | refine jw KL47 [] TF47 fun _ => ?_)
  refine SemW_makeMapO (kt := 50) fun w6 m6 x6 z6 => ?_
  generalize hmb : w5.heap.size = mb at *
  refine SemW_allocT ti136 fun pM w7 h7 => ?_
  have b7 := h7.blk
  have z7 := h7.size
  refine SemW_set0 cells136 h7.row (by show 0 < 1; decide) rfl rfl fun w8 r8 k8 z8 => ?_
  have r8 : Row w8 pM 136 [.map (some mb)] := r8
  have x68 : Ext w6 w8 := Keep.ext h7.ext k8 fun k hk => by omega
  have x58 := x6.trans x68
  have l8 := L w8 x58
  (repeat with_reducible first | refine js ?_ | refine ja ?_ | refine jw KL47 [] (aa TF47 (aa l8 (aa hos hol))) fun _ => ?_)
  refine SemW_makeC (n := l.length) Tryz.underlying30 ti50 (by show l.length * 3 ≤ _; omega) (by omega) (by simp only [maxLen]; omega) fun pr w9 h9 => SemW_allocT ti30 fun pF w10 h10 => ?_
  have b9 := h9.blk
  have z9 := h9.size
  have b10 := h10.blk
  have z10 := h10.size
  have B9 : BufL (α := RunD) 50 w8 w9 (.slice (some pr) l.length l.length) (List.replicate l.length ⟨0, 0, 0⟩) := by
    have hcs : (madeCells (Value.agg #[.int .i64 0, .int .i64 0, .int .i64 0]).cells (l.length * 3)).toList = (List.replicate l.length [Value.int .i64 0, .int .i64 0, .int .i64 0]).flatten := by
      show (madeCells #[Value.int .i64 0, .int .i64 0, .int .i64 0] (l.length * 3)).toList = _
      rw [made3, show [Value.int .i64 0, .int .i64 0, .int .i64 0] = List.replicate 3 (Value.int .i64 0) from rfl, List.flatten_replicate_replicate]
    have := BufL.new (α := RunD) (e := 50) (W := w8) (w := w8) (w' := w9) (p := pr) (css := List.replicate l.length [Value.int .i64 0, .int .i64 0, .int .i64 0]) (xs := List.replicate l.length ⟨0, 0, 0⟩) (by rw [← hcs]; exact h9) (Ext.refl _) ⟨by simp, fun i h1 h2 => by simp only [List.getElem_replicate]; exact ⟨rfl, by simp [I64]⟩⟩ (by simp only [maxLen, List.length_replicate]; omega)
    simpa using this
  refine SemW_set0 cells30 h10.row (by show 0 < 1; decide) rfl rfl fun w11 r11 k11 z11 => ?_
  have r11 : Row w11 pF 30 [.slice (some pr) l.length l.length] := r11
  have x811 : Ext w8 w11 := Keep.ext (h9.ext.trans h10.ext) k11 fun k hk => by omega
  have B11 := (B9.o.keepQ (Keep.of_ext (S := fun _ => True) h10.ext) fun _ _ => trivial).keepQ k11 fun g hg => by
    have : pr.block = g := by simpa [Value.ownBlock] using hg
    omega
  (repeat with_reducible first | refine js ?_ | refine ja ?_ | refine jw KL47 [] TF47 fun _ => ?_)
  refine SemW_allocT ti137 fun pU w12 h12 => ?_
  have b12 := h12.blk
  have z12 := h12.size
  (repeat with_reducible first | refine js ?_ | refine ja ?_ | refine jw KL47 [] TF47 fun _ => ?_)
  refine SemW_set0 cells137 h12.row (by show 0 < 1; decide) rfl rfl fun w13 r13 k13 z13 => ?_
  generalize hfv : (Value.func (.func 85) #[] #[.pointer (some pl), .pointer (some pM), .pointer (some pc), .pointer (some po), .pointer (some pt), .pointer (some pF), .pointer (some pU)]) = fv at r13
  have r13 : Row w13 pU 137 [fv] := r13
  have x1113 : Ext w11 w13 := Keep.ext h12.ext k13 fun k hk => by omega
  have x513 := x58.trans (x811.trans x1113)
  have y13 := x5.trans x513
  have z811 := x811.size
  have z68 := x68.size
  have W13 : MdW w5 pM pF pU pr mb fv l [] w13 := by
    refine ⟨x513, ⟨_, (r8.ext x811).ext x1113⟩, ⟨_, r11.ext x1113⟩, ⟨_, r13⟩, ⟨[], (m6.ext x68).ext (x811.trans x1113), LdM.nil⟩, ⟨List.replicate l.length ⟨0, 0, 0⟩, by simp, by simp, ?_⟩, by omega⟩
    exact (B11.mono (show w5.heap.size ≤ w8.heap.size by omega)).keepQ (Keep.of_ext (S := fun _ => True) x1113) fun _ _ => trivial
  have E : PutE w5 pl pc po pt vo vO vl l covers opts t := ⟨L0 w5 (Ext.refl _), ho.ext x5, C0 w5 (Ext.refl _), O0 w5 (Ext.refl _), hO.ext x5, T0 w5 (Ext.refl _), hl.ext x5⟩
  have u13 := r13.n
  simp only [AtN, KS, Nat.reduceAdd, Nat.reduceMul, Nat.reduceEqDiff, ↓reduceIte, UT] at u13
  (repeat with_reducible first | refine js ?_ | refine ja ?_ | refine jw KL47 [] (aa TF47 u13) fun _ => ?_)
  have hopt : ∀ o ∈ opts, ∀ r ∈ o, 0 ≤ r.Line ∧ r.Line < t.Lines.length := fun o ho' r hr => by
    obtain ⟨g1, g2, g3⟩ := isRunL (hrun o ho' r hr)
    exact ⟨g1, g2⟩
  subst hfv
  refine CallW_cl call85 (rpMend1 E hlen hl64 hcr hopt hcv opts [] 0 w13 rfl rfl (by simpa using hlen) W13) fun e w14 hq => ?_
  obtain ⟨he14, k14, S14⟩ := hq
  refine ⟨_, he14, ?_⟩
  have x514 := S14.e
  cases hres : Pl.srch l (Pl.room t) (Pl.leafT l covers) opts [] with
  | none =>
    have p14 := P w14 x514
    (repeat with_reducible first | refine js ?_ | refine ja ?_ | refine jw KL47 [] (aa TF47 KX) fun _ => ?_)
    refine Run_condS (fun _ => rfl) (fun _ => ?_) (fun h => by cases h)
    (repeat with_reducible first | refine js ?_ | refine ja ?_ | refine jw KL47 [] (aa TF47 p14) fun _ => ?_)
    refine SemW_setW (by rw [cells32]; decide) (by rw [cells32]; rfl) (r5.ext x514) (by rw [cells32]; rfl) rfl fun wz rz kz zz => ?_
    have ez := loadVar_at (P := Tryz.prog) (t := 32) (by kernel_rfl) (by rw [cells32]; decide) (by rw [cells32]; rfl) rz.at_
    (repeat with_reducible first | refine js ?_ | refine ja ?_ | refine jw KL47 [] TF47 fun _ => ?_)
    refine Run_ret ?_
    simp only [Rets, RetM, resV, fnd, oneOr, ↓reduceIte, KS, Nat.reduceAdd, Nat.reduceMul, Nat.reduceEqDiff, ↓reduceIte, UT]
    refine ⟨pp, _, rfl, ez, ?_⟩
    simp [resV, oneOr, fnd, mendPl, Pl.noPlan, PlanD.cs]
    exact ⟨.slice none 0 0, .slice none 0 0, .slice none 0 0, rfl, Keep.ext (x5.trans x514) kz fun k hk => by omega, Sl.nil _, Sl.nil _, Sl.nil _⟩
  | some of =>
    rw [hres, Option.getD_some] at S14
    obtain ⟨s, hp, hes, _⟩ := Pl.srch_some hres
    rw [List.nil_append] at hes
    subst hes
    have hln : of.length = l.length := by rw [Pl.path_len hp, hlen]
    have hrof : ∀ r ∈ of, Tt.isRun t r = true := fun r hr => by
      obtain ⟨k, hk, rfl⟩ := List.getElem_of_mem hr
      have hm := Pl.path_mem hp k hk
      rw [List.getD_eq_getElem?_getD, List.getElem?_eq_getElem (by omega)] at hm
      exact hrun _ (List.getElem_mem _) _ hm
    obtain ⟨full, f1, f2, f3⟩ := S14.r
    have hfo : full = of := by rw [← f2, List.take_of_length_le (by omega)]
    subst hfo
    have s14 := f3.sl (by omega)
    obtain ⟨m14, M1, M2⟩ := S14.ld
    obtain ⟨T1, q1⟩ := S14.m
    obtain ⟨T2, q2⟩ := S14.f
    have q1n := q1.n
    have q2n := q2.n
    have l14 := L w14 x514
    simp only [AtN, KS, Nat.reduceAdd, Nat.reduceMul, Nat.reduceEqDiff, ↓reduceIte, UT] at q1n q2n
    (repeat with_reducible first | refine js ?_ | refine ja ?_ | refine jw KL47 [] (aa TF47 KX) fun _ => ?_)
    refine Run_condS (fun _ => rfl) (fun h => by cases h) (fun _ => ?_)
    (repeat with_reducible first | refine js ?_ | refine ja ?_ | refine jw KL47 [] (aa TF47 (aa q1n (aa q2n l14))) fun _ => ?_)
    refine CallW_gen call88 (rpPlan vo _ mb m14 l full w14 s14 (by omega) hl64 (Pl.isRun_dis hrof) (fun r hr => isRun_small (hrof r hr)) hcr M1.b (M2.are (by omega))) fun e w20 ⟨v0, v1, v2, he20, x20, P20⟩ => ⟨_, he20, ?_⟩
    have y20 := x514.trans x20
    have r20 := r5.ext y20
    refine SemW_setW (by rw [cells32]; decide) (by rw [cells32]; rfl) r20 (by rw [cells32]; rfl) (by simp [Value.cells, PlanD.cs, isS_o P20.r.s, isS_o P20.o.s, isS_o P20.c.s]) fun wz rz kz zz => ?_
    have ez := loadVar_at (P := Tryz.prog) (t := 32) (by kernel_rfl) (by rw [cells32]; decide) (by rw [cells32]; rfl) rz.at_
    have kR : ∀ (v : Value) (xs : List RunD), Sl w20 v xs → Sl wz v xs := fun v xs hv => hv.keepD r20 (fun x _ cs' hc => ⟨.int .i64 x.Line, by rw [hc.1]; rfl, fun hm => by simp at hm⟩) kz
    have kI : ∀ (v : Value) (xs : List Int), Sl w20 v xs → Sl wz v xs := fun v xs hv => hv.keepD r20 (fun x _ cs' hc => ⟨.int .i64 x, by rw [hc.1]; rfl, fun hm => by simp at hm⟩) kz
    (repeat with_reducible first | refine js ?_ | refine ja ?_ | refine jw KL47 [] TF47 fun _ => ?_)
    refine Run_ret ?_
    simp only [Rets, RetM, resV, fnd, oneOr, ↓reduceIte, KS, Nat.reduceAdd, Nat.reduceMul, Nat.reduceEqDiff, ↓reduceIte, UT]
    refine ⟨pp, _, rfl, ez, ?_⟩
    simp [resV, oneOr, fnd, mendPl, PlanD.cs]
    exact ⟨v0, v1, v2, rfl, Keep.ext (x5.trans y20) kz fun k hk => by omega, kR _ _ P20.r, kI _ _ P20.o, kI _ _ P20.c⟩
end Go.Proofs.YtbfhenoiienghaaGreat
