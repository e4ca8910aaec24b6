/- Chapter 19: the function that yields departures. -/
import Derived.Test.YtcncbmdkifdggaaD19f
namespace Go.Proofs.Ytcncbmdkifdggaa
open Go Go.Fk
set_option linter.unusedSimpArgs false
set_option linter.unusedVariables false
set_option maxRecDepth 100000

/-- what who ranges keeps: 'g': the block that the function has made for itself, 'pre': what it has yielded -/
structure DepJ (W : World) (pr po pa : Addr) (va vb : Value) (yv : Value) (D : List Int) (J0 : World → Prop) (J : Nat → List Int → World → Prop) (Jx : World → Prop) : Prop where
  base0 : ∀ w, J0 w → Ext W w ∧ At w pr [va] ∧ At w po [vb]
  start : ∀ w w' g, J0 w → Ext w w' → w.heap.size ≤ g → g < w'.heap.size → J g [] w'
  base : ∀ g pre w, J g pre w → Ext W w ∧ At w pr [va] ∧ At w po [vb]
  step : ∀ g pre w w', J g pre w → Keep (fun k => ¬ (k = pa.block ∨ k = g)) w w' → J g pre w'
  yield : ∀ g pre w x r, J g pre w → D = pre ++ x :: r → CallW Try.prog yv [.int .i64 x] w fun v w' => ∃ b, v = .bool b ∧ Keep (fun k => k = pa.block ∨ k = g) w w' ∧ if b = true then J g (pre ++ [x]) w' else Jx w'

theorem at1 {w : World} {p : Addr} {v : Value} (h : At w p [v]) : mem w p = v ∧ has1 w p := by
  have := h.n
  simp only [AtN, add_zero] at this
  exact ⟨this.2.1, this.1⟩

theorem Row.ints {w : World} {p : Addr} {t : TypeId} {xs : List Int} (h : Row w p t (xs.map (Value.int .i64))) (hI : ∀ x ∈ xs, I64 x) (hb : xs.length ≤ 140737488355328) : Sl w (.slice (some p) xs.length xs.length) xs := by
  refine ⟨by simp, rfl, Nat.le_refl _, hb, by simp [maxLen]; omega, fun i hi => ⟨_, ⟨rfl, hI _ (List.getElem_mem hi)⟩, ?_⟩⟩
  intro j u hj
  rw [add_add]
  cases j with
  | zero => simp at hj; subst hj; exact h.at_ _ _ (by simp [show i * Enc.n Int + 0 = i from Nat.mul_one i, hi])
  | succ j => simp at hj

/-- how it stands between two steps -/
structure DI (pa pl : Addr) (J : Nat → List Int → World → Prop) (pre : List Int) (b : Int) (cs : List Value) (w : World) : Prop where
  j : J pl.block pre w
  a : Row w pa 3 [.int .i64 b]
  l : Row w pl 3 cs
  ne : pl.block ≠ pa.block

section
variable {W : World} {pr po pa pl : Addr} {va vb yv : Value} {J0 : World → Prop} {J : Nat → List Int → World → Prop} {Jx : World → Prop} {D : List Int} (hJ : DepJ W pr po pa va vb yv D J0 J Jx) {pre : List Int} {b : Int} {cs : List Value} {w w' : World}
include hJ
theorem DI.ext (h : DI pa pl J pre b cs w) (hw : Ext w w') : DI pa pl J pre b cs w' :=
  ⟨hJ.step _ _ _ _ h.j (Keep.of_ext hw), h.a.ext hw, h.l.ext hw, h.ne⟩
theorem DI.setl {cs' : List Value} (h : DI pa pl J pre b cs w) (hk : Keep (fun k => k ≠ pl.block) w w') (hr : Row w' pl 3 cs') : DI pa pl J pre b cs' w' :=
  ⟨hJ.step _ _ _ _ h.j (hk.mono fun k _ hn he => hn (.inr he)), h.a.keep hk (Ne.symm h.ne), hr, h.ne⟩
theorem DI.seta {b' : Int} (h : DI pa pl J pre b cs w) (hk : Keep (fun k => k ≠ pa.block) w w') (hr : Row w' pa 3 [.int .i64 b']) : DI pa pl J pre b' cs w' :=
  ⟨hJ.step _ _ _ _ h.j (hk.mono fun k _ hn he => hn (.inl he)), hr, h.l.keep hk h.ne, h.ne⟩
theorem DI.facts (h : DI pa pl J pre b cs w) : Ext W w ∧ mem w pr = va ∧ has1 w pr ∧ mem w po = vb ∧ has1 w po ∧ mem w pa = .int .i64 b ∧ has1 w pa := by
  obtain ⟨h1, h2, h3⟩ := hJ.base _ _ _ h.j
  exact ⟨h1, (at1 h2).1, (at1 h2).2, (at1 h3).1, (at1 h3).2, (at1 h.a.at_).1, (at1 h.a.at_).2⟩
end

theorem depIter {W : World} {pr po pa : Addr} {va vb yv : Value} {J0 : World → Prop} {J : Nat → List Int → World → Prop} {Jx : World → Prop} 
    (rules : List Rule) (off : List Gap) (hx : Sl W va rules) (hy : Sl W vb off) (hok : Cal.Ok rules off) (a : Int) (hJ : DepJ W pr po pa va vb yv (Cal.deps rules off a 2097152) J0 J Jx) (h0 : 0 ≤ a) (hm : a ≤ 2097152) (w : World) (ha : Row w pa 3 [.int .i64 a]) (hN : J0 w) :
    Calls Try.prog 90 #[yv, .pointer (some pr), .pointer (some pa), .pointer (some po)] w fun e w' => e = .returned (.tuple #[]) ∧ (Jx w' ∨ ∃ g, J g (Cal.deps rules off a 2097152) w') := by
  have nr := hok.nr
  have no := hok.no
  obtain ⟨hW, b1, b2⟩ := hJ.base0 _ hN
  obtain ⟨c1, c2⟩ := at1 b1
  refine Calls_of_Run (args := [yv, .pointer (some pr), .pointer (some pa), .pointer (some po)]) (n := 58) (rs := []) Try.func90 rfl rfl rfl (by simp) ?_
  (repeat first | with_reducible refine Run_seq ?_ | with_reducible refine Run_skip ?_ | with_reducible refine Run_scope ?_ | with_reducible refine Run_label ?_ | with_reducible refine Run_sc ?_ | with_reducible refine Run_block ?_ | with_reducible refine Run_blk ?_ | with_reducible refine Run_exit rfl ?_ | (refine Run_region (by kernel_rfl) fun _ => ?_; simp only [KS, Nat.reduceAdd, Nat.reduceMul, Nat.reduceEqDiff, ↓reduceIte, UT, c1, c2, hx.s, hx.len]) | (refine Run_drawn mixed (by kernel_rfl) (by kernel_rfl) fun _ => ?_; simp only [KS, Nat.reduceAdd, Nat.reduceMul, Nat.reduceEqDiff, ↓reduceIte, UT, c1, c2, hx.s, hx.len]) | refine And.intro (by first | assumption | omega | (intros; omega)) ?_)
  refine SemW_make (n := rules.length) Try.underlying25 ti3 (by omega) (by omega) (by unfold maxLen; omega) fun pl w1 cs hcs hNl _ => ?_
  have hlen : cs.length = rules.length := by simpa using hcs
  try simp only [KS, Nat.reduceAdd, Nat.reduceMul, Nat.reduceEqDiff, ↓reduceIte, UT]
  (repeat first | with_reducible refine Run_seq ?_ | with_reducible refine Run_skip ?_ | with_reducible refine Run_scope ?_ | with_reducible refine Run_label ?_ | with_reducible refine Run_sc ?_ | with_reducible refine Run_block ?_ | with_reducible refine Run_blk ?_ | with_reducible refine Run_exit rfl ?_ | (refine Run_region (by kernel_rfl) fun _ => ?_; simp only [KS, Nat.reduceAdd, Nat.reduceMul, Nat.reduceEqDiff, ↓reduceIte, UT]) | (refine Run_drawn mixed (by kernel_rfl) (by kernel_rfl) fun _ => ?_; simp only [KS, Nat.reduceAdd, Nat.reduceMul, Nat.reduceEqDiff, ↓reduceIte, UT]) | refine And.intro (by first | assumption | omega | (intros; omega)) ?_)
  have hD0 : DI pa pl J [] a cs w1 :=
    ⟨hJ.start _ _ _ hN hNl.ext (by rw [hNl.blk]; omega) (by rw [hNl.blk, hNl.size]; omega), ha.ext hNl.ext, hNl.row, by have := ha.lt; rw [hNl.blk]; omega⟩
  refine Run_loop (σ := List Int × Int × List Value) (fun s => [(0, some yv), (1, some (.pointer (some pr))), (2, some (.pointer (some pa))), (3, some (.pointer (some po))), (5, some (.slice (some pl) rules.length rules.length))])
    (fun s w' => DI pa pl J s.1 s.2.1 s.2.2 w' ∧ 0 ≤ s.2.1 ∧ s.2.1 ≤ 2097152 ∧ s.2.2.length = rules.length ∧ Cal.deps rules off a 2097152 = s.1 ++ Cal.deps rules off s.2.1 2097152) (fun s => (2097152 - s.2.1).toNat)
    ([], a, cs) (by simp [SubB, fnd]) ⟨hD0, h0, hm, hlen, by simp⟩ ?_
  rintro ⟨pre, b, cs⟩ w2 ⟨hD, b0, bm, hlen, hd⟩
  simp only at hD b0 bm hlen hd
  obtain ⟨hW, r1, r2, o1, o2, a1, a2⟩ := hD.facts hJ
  (repeat first | with_reducible refine Run_seq ?_ | with_reducible refine Run_skip ?_ | with_reducible refine Run_scope ?_ | with_reducible refine Run_label ?_ | with_reducible refine Run_sc ?_ | with_reducible refine Run_block ?_ | with_reducible refine Run_blk ?_ | with_reducible refine Run_exit rfl ?_ | (refine Run_region (by kernel_rfl) fun _ => ?_; simp only [KS, Nat.reduceAdd, Nat.reduceMul, Nat.reduceEqDiff, ↓reduceIte, UT, a1, a2]) | (refine Run_drawn mixed (by kernel_rfl) (by kernel_rfl) fun _ => ?_; simp only [KS, Nat.reduceAdd, Nat.reduceMul, Nat.reduceEqDiff, ↓reduceIte, UT, a1, a2]) | refine And.intro (by first | assumption | omega | (intros; omega)) ?_)
  refine Run_cond (fun _ => rfl) (fun h1 => ?_) (fun h1 => ?_)
  · simp at h1
    (repeat first | with_reducible refine Run_seq ?_ | with_reducible refine Run_skip ?_ | with_reducible refine Run_scope ?_ | with_reducible refine Run_label ?_ | with_reducible refine Run_sc ?_ | with_reducible refine Run_block ?_ | with_reducible refine Run_blk ?_ | with_reducible refine Run_exit rfl ?_ | (refine Run_region (by kernel_rfl) fun _ => ?_; simp only [KS, Nat.reduceAdd, Nat.reduceMul, Nat.reduceEqDiff, ↓reduceIte, UT, r1, r2, hx.s, hx.len]) | (refine Run_drawn mixed (by kernel_rfl) (by kernel_rfl) fun _ => ?_; simp only [KS, Nat.reduceAdd, Nat.reduceMul, Nat.reduceEqDiff, ↓reduceIte, UT, r1, r2, hx.s, hx.len]) | refine And.intro (by first | assumption | omega | (intros; omega)) ?_)
    refine Run_loop (σ := Nat × List Value) (fun s => [(0, some yv), (1, some (.pointer (some pr))), (2, some (.pointer (some pa))), (3, some (.pointer (some po))), (5, some (.slice (some pl) rules.length rules.length)), (15, some (.int .i64 rules.length)), (16, some (.int .i64 s.1))])
      (fun s w' => DI pa pl J pre b s.2 w' ∧ s.1 ≤ rules.length ∧ s.2.length = rules.length ∧ s.2.take s.1 = (rules.take s.1).map fun x => Value.int .i64 (Cal.after x b)) (fun s => rules.length - s.1)
      (0, cs) (by simp [SubB, fnd]) ⟨hD, by simp, hlen, by simp⟩ ?_
    rintro ⟨k, cs⟩ w2 ⟨hD, hk, hlen, hcs⟩
    simp only at hD hk hlen hcs
    obtain ⟨hW, r1, r2, o1, o2, a1, a2⟩ := hD.facts hJ
    (repeat first | with_reducible refine Run_seq ?_ | with_reducible refine Run_skip ?_ | with_reducible refine Run_scope ?_ | with_reducible refine Run_label ?_ | with_reducible refine Run_sc ?_ | with_reducible refine Run_block ?_ | with_reducible refine Run_blk ?_ | with_reducible refine Run_exit rfl ?_ | (refine Run_region (by kernel_rfl) fun _ => ?_; simp only [KS, Nat.reduceAdd, Nat.reduceMul, Nat.reduceEqDiff, ↓reduceIte, UT]) | (refine Run_drawn mixed (by kernel_rfl) (by kernel_rfl) fun _ => ?_; simp only [KS, Nat.reduceAdd, Nat.reduceMul, Nat.reduceEqDiff, ↓reduceIte, UT]) | refine And.intro (by first | assumption | omega | (intros; omega)) ?_)
    refine Run_cond (fun _ => rfl) (fun h2 => ?_) (fun h2 => ?_)
    · simp at h2
      obtain ⟨f1, f2⟩ := (hx.ext hW).rule h2
      simp only [Rule.cs, AtN, KS, Nat.reduceAdd, Nat.reduceMul, Nat.reduceEqDiff, ↓reduceIte, UT] at f1
      (repeat first | with_reducible refine Run_seq ?_ | with_reducible refine Run_skip ?_ | with_reducible refine Run_scope ?_ | with_reducible refine Run_label ?_ | with_reducible refine Run_sc ?_ | with_reducible refine Run_block ?_ | with_reducible refine Run_blk ?_ | with_reducible refine Run_exit rfl ?_ | (refine Run_region (by kernel_rfl) fun _ => ?_; simp only [KS, Nat.reduceAdd, Nat.reduceMul, Nat.reduceEqDiff, ↓reduceIte, UT, r1, r2]) | refine And.intro (by first | assumption | omega | (intros; omega)) ?_)
      refine Run_tail 9 mixed (by kernel_rfl) (by kernel_rfl) (by kernel_rfl) fun _ => ?_
      simp only [KS, Nat.reduceAdd, Nat.reduceMul, Nat.reduceEqDiff, ↓reduceIte, UT, r1, r2, a1, a2, hx.s, hx.len, f1, List.take_succ_cons, List.take_zero, List.drop_succ_cons, List.drop_zero]
      refine ⟨by omega, ⟨.int .i64 (Cal.after rules[k] b), PC_pure call91 (fun w1 hw1 => calAfter rules[k] b w1 (fit hok h2) b0 bm), by omega, fun w3 hw3 _ => ?_⟩⟩
      have hD3 := hD.ext hJ hw3
      try simp only [KS, Nat.reduceAdd, Nat.reduceMul, Nat.reduceEqDiff, ↓reduceIte, UT]
      refine SemW_setAt cells3 hD3.l (by omega) rfl rfl fun w4 hr4 hk4 _ => ?_
      have hD4 := hD3.setl hJ hk4 hr4
      try simp only [KS, Nat.reduceAdd, Nat.reduceMul, Nat.reduceEqDiff, ↓reduceIte, UT]
      (repeat first | with_reducible refine Run_seq ?_ | with_reducible refine Run_skip ?_ | with_reducible refine Run_scope ?_ | with_reducible refine Run_label ?_ | with_reducible refine Run_sc ?_ | with_reducible refine Run_block ?_ | with_reducible refine Run_blk ?_ | with_reducible refine Run_exit rfl ?_ | (refine Run_region (by kernel_rfl) fun _ => ?_; simp only [KS, Nat.reduceAdd, Nat.reduceMul, Nat.reduceEqDiff, ↓reduceIte, UT]) | (refine Run_drawn mixed (by kernel_rfl) (by kernel_rfl) fun _ => ?_; simp only [KS, Nat.reduceAdd, Nat.reduceMul, Nat.reduceEqDiff, ↓reduceIte, UT]) | refine And.intro (by first | assumption | omega | (intros; omega)) ?_)
      refine Run_lp ⟨(k + 1, _), ?_, ⟨hD4, by simp; omega, by simpa using hlen, ?_⟩, by simp; omega⟩
      · simp [SubB, fnd, wrap_in (x := (k : Int) + 1) (by omega) (by omega)]
      · simp only
        rw [List.take_succ_eq_append_getElem (by simp; omega), List.take_succ_eq_append_getElem h2, List.map_append, ← hcs]
        simp [List.take_set_of_le]
    · simp at h2
      obtain rfl : k = rules.length := by omega
      have hcs' : cs = (rules.map fun x => Cal.after x b).map (Value.int .i64) := by
        rw [List.take_length, ← hlen, List.take_length] at hcs
        rw [hcs]; simp
      have hs : Sl w2 (.slice (some pl) rules.length rules.length) (rules.map fun x => Cal.after x b) := by
        have hr := hD.l
        rw [hcs'] at hr
        have := Row.ints hr (fun x hx => by
          obtain ⟨r, hr, rfl⟩ := List.mem_map.1 hx
          have h := Cal.after_spec (hok.r r hr) bm
          unfold I64; omega) (by simp; omega)
        simpa using this
      have hmin : minL (rules.map fun x => Cal.after x b) = Cal.firstR rules b := by simp [minL, Cal.firstR, List.foldl_map]
      obtain ⟨s1, s2, s3, s4⟩ := Cal.firstR_spec hok.r (m := b) (by omega)
      have hn2 := Cal.nxt_rules hok (m := b) (by omega)
      have hit := Cal.nxt_hit hok (m := b) (by omega)
      have hdn := Cal.deps_nxt (rules := rules) (off := off) (a := b) (b := 2097152) (by omega)
      rw [hn2] at hdn
      (repeat first | with_reducible refine Run_seq ?_ | with_reducible refine Run_skip ?_ | with_reducible refine Run_scope ?_ | with_reducible refine Run_label ?_ | with_reducible refine Run_sc ?_ | with_reducible refine Run_block ?_ | with_reducible refine Run_blk ?_ | with_reducible refine Run_exit rfl ?_ | (refine Run_region (by kernel_rfl) fun _ => ?_; simp only [KS, Nat.reduceAdd, Nat.reduceMul, Nat.reduceEqDiff, ↓reduceIte, UT]) | (refine Run_drawn mixed (by kernel_rfl) (by kernel_rfl) fun _ => ?_; simp only [KS, Nat.reduceAdd, Nat.reduceMul, Nat.reduceEqDiff, ↓reduceIte, UT]) | refine And.intro (by first | assumption | omega | (intros; omega)) ?_)
      refine CallW_pure call92 (calFirst _ _ w2 hs) fun w3 hw3 => ?_
      rw [hmin]
      generalize Cal.firstR rules b = t at *
      have hD3 := hD.ext hJ hw3
      try simp only [KS, Nat.reduceAdd, Nat.reduceMul, Nat.reduceEqDiff, ↓reduceIte, UT]
      refine SemW_set1 cells3 hD3.a rfl rfl fun w4 hr4 hk4 _ => ?_
      have hD4 := hD3.seta hJ hk4 hr4
      obtain ⟨hW, r1, r2, o1, o2, a1, a2⟩ := hD4.facts hJ
      try simp only [KS, Nat.reduceAdd, Nat.reduceMul, Nat.reduceEqDiff, ↓reduceIte, UT]
      (repeat first | with_reducible refine Run_seq ?_ | with_reducible refine Run_skip ?_ | with_reducible refine Run_scope ?_ | with_reducible refine Run_label ?_ | with_reducible refine Run_sc ?_ | with_reducible refine Run_block ?_ | with_reducible refine Run_blk ?_ | with_reducible refine Run_exit rfl ?_ | (refine Run_region (by kernel_rfl) fun _ => ?_; simp only [KS, Nat.reduceAdd, Nat.reduceMul, Nat.reduceEqDiff, ↓reduceIte, UT, a1, a2]) | (refine Run_drawn mixed (by kernel_rfl) (by kernel_rfl) fun _ => ?_; simp only [KS, Nat.reduceAdd, Nat.reduceMul, Nat.reduceEqDiff, ↓reduceIte, UT, a1, a2]) | refine And.intro (by first | assumption | omega | (intros; omega)) ?_)
      refine Run_cond (fun _ => rfl) (fun h3 => ?_) (fun h3 => ?_)
      · simp at h3
        (repeat first | with_reducible refine Run_seq ?_ | with_reducible refine Run_skip ?_ | with_reducible refine Run_scope ?_ | with_reducible refine Run_label ?_ | with_reducible refine Run_sc ?_ | with_reducible refine Run_block ?_ | with_reducible refine Run_blk ?_ | with_reducible refine Run_exit rfl ?_ | (refine Run_region (by kernel_rfl) fun _ => ?_; simp only [KS, Nat.reduceAdd, Nat.reduceMul, Nat.reduceEqDiff, ↓reduceIte, UT]) | (refine Run_drawn mixed (by kernel_rfl) (by kernel_rfl) fun _ => ?_; simp only [KS, Nat.reduceAdd, Nat.reduceMul, Nat.reduceEqDiff, ↓reduceIte, UT]) | refine And.intro (by first | assumption | omega | (intros; omega)) ?_)
        refine Run_ret ?_
        rw [if_neg (by rw [h3, Cal.nxt_end (by omega)]; omega)] at hdn
        rw [hdn, List.append_nil] at hd
        simp only [Rets, RetM, resV, fnd, oneOr]
        exact ⟨by trivial, .inr ⟨_, by rw [hd]; exact hD4.j⟩⟩
      · simp at h3
        (repeat first | with_reducible refine Run_seq ?_ | with_reducible refine Run_skip ?_ | with_reducible refine Run_scope ?_ | with_reducible refine Run_label ?_ | with_reducible refine Run_sc ?_ | with_reducible refine Run_block ?_ | with_reducible refine Run_blk ?_ | with_reducible refine Run_exit rfl ?_ | (refine Run_region (by kernel_rfl) fun _ => ?_; simp only [KS, Nat.reduceAdd, Nat.reduceMul, Nat.reduceEqDiff, ↓reduceIte, UT, o1, o2, hy.s, hy.len]) | (refine Run_drawn mixed (by kernel_rfl) (by kernel_rfl) fun _ => ?_; simp only [KS, Nat.reduceAdd, Nat.reduceMul, Nat.reduceEqDiff, ↓reduceIte, UT, o1, o2, hy.s, hy.len]) | refine And.intro (by first | assumption | omega | (intros; omega)) ?_)
        refine Run_loop (σ := Nat) (fun s => [(0, some yv), (1, some (.pointer (some pr))), (2, some (.pointer (some pa))), (3, some (.pointer (some po))), (5, some (.slice (some pl) rules.length rules.length)), (33, some vb), (34, some (.int .i64 off.length)), (35, some (.int .i64 s))])
          (fun s w' => DI pa pl J pre t cs w' ∧ s ≤ off.length ∧ (off.take s).any (Cal.inGap · t) = false) (fun s => off.length - s)
          0 (by simp [SubB, fnd]) ⟨hD4, by simp, by simp⟩ ?_
        rintro k w5 ⟨hD, hk, hng⟩
        try simp only at hD hk hng
        obtain ⟨hW, r1, r2, o1, o2, a1, a2⟩ := hD.facts hJ
        (repeat first | with_reducible refine Run_seq ?_ | with_reducible refine Run_skip ?_ | with_reducible refine Run_scope ?_ | with_reducible refine Run_label ?_ | with_reducible refine Run_sc ?_ | with_reducible refine Run_block ?_ | with_reducible refine Run_blk ?_ | with_reducible refine Run_exit rfl ?_ | (refine Run_region (by kernel_rfl) fun _ => ?_; simp only [KS, Nat.reduceAdd, Nat.reduceMul, Nat.reduceEqDiff, ↓reduceIte, UT]) | (refine Run_drawn mixed (by kernel_rfl) (by kernel_rfl) fun _ => ?_; simp only [KS, Nat.reduceAdd, Nat.reduceMul, Nat.reduceEqDiff, ↓reduceIte, UT]) | refine And.intro (by first | assumption | omega | (intros; omega)) ?_)
        refine Run_cond (fun _ => rfl) (fun h4 => ?_) (fun h4 => ?_)
        · simp at h4
          obtain ⟨f1, f2⟩ := (hy.ext hW).gap h4
          have hgk := hok.g off[k] (List.getElem_mem h4)
          simp only [Gap.cs, AtN, KS, Nat.reduceAdd, Nat.reduceMul, Nat.reduceEqDiff, ↓reduceIte, UT] at f1
          (repeat first | with_reducible refine Run_seq ?_ | with_reducible refine Run_skip ?_ | with_reducible refine Run_scope ?_ | with_reducible refine Run_label ?_ | with_reducible refine Run_sc ?_ | with_reducible refine Run_block ?_ | with_reducible refine Run_blk ?_ | with_reducible refine Run_exit rfl ?_ | (refine Run_region (by kernel_rfl) fun _ => ?_; simp only [KS, Nat.reduceAdd, Nat.reduceMul, Nat.reduceEqDiff, ↓reduceIte, UT, hy.s, hy.len, f1]) | (refine Run_drawn mixed (by kernel_rfl) (by kernel_rfl) fun _ => ?_; simp only [KS, Nat.reduceAdd, Nat.reduceMul, Nat.reduceEqDiff, ↓reduceIte, UT, hy.s, hy.len, f1]) | refine And.intro (by first | assumption | omega | (intros; omega)) ?_)
          refine SemW_var ti108 rfl rfl (by decide) rfl fun p w6 hN6 => ?_
          have g1 := hN6.at_.n
          simp only [AtN, KS, Nat.reduceAdd, Nat.reduceMul, Nat.reduceEqDiff, ↓reduceIte, UT] at g1
          have hD6 := hD.ext hJ hN6.ext
          obtain ⟨hW, r1, r2, o1, o2, a1, a2⟩ := hD6.facts hJ
          try simp only [KS, Nat.reduceAdd, Nat.reduceMul, Nat.reduceEqDiff, ↓reduceIte, UT]
          (repeat first | with_reducible refine Run_seq ?_ | with_reducible refine Run_skip ?_ | with_reducible refine Run_scope ?_ | with_reducible refine Run_label ?_ | with_reducible refine Run_sc ?_ | with_reducible refine Run_block ?_ | with_reducible refine Run_blk ?_ | with_reducible refine Run_exit rfl ?_ | (refine Run_region (by kernel_rfl) fun _ => ?_; simp only [KS, Nat.reduceAdd, Nat.reduceMul, Nat.reduceEqDiff, ↓reduceIte, UT, g1, a1, a2]) | (refine Run_drawn mixed (by kernel_rfl) (by kernel_rfl) fun _ => ?_; simp only [KS, Nat.reduceAdd, Nat.reduceMul, Nat.reduceEqDiff, ↓reduceIte, UT, g1, a1, a2]) | refine And.intro (by first | assumption | omega | (intros; omega)) ?_)
          have hv : (decide (off[k].From ≤ t) && decide (t < off[k].Until)) = Cal.inGap off[k] t := by
            rw [Bool.eq_iff_iff]; simp [Cal.inGap]
          rw [hv]
          refine Run_cond (fun _ => rfl) (fun h5 => ?_) (fun h5 => ?_)
          · have hgap := Cal.nxt_gap hok (List.getElem_mem h4) h5
            simp [Cal.inGap] at h5
            (repeat first | with_reducible refine Run_seq ?_ | with_reducible refine Run_skip ?_ | with_reducible refine Run_scope ?_ | with_reducible refine Run_label ?_ | with_reducible refine Run_sc ?_ | with_reducible refine Run_block ?_ | with_reducible refine Run_blk ?_ | with_reducible refine Run_exit rfl ?_ | (refine Run_region (by kernel_rfl) fun _ => ?_; simp only [KS, Nat.reduceAdd, Nat.reduceMul, Nat.reduceEqDiff, ↓reduceIte, UT, g1]) | (refine Run_drawn mixed (by kernel_rfl) (by kernel_rfl) fun _ => ?_; simp only [KS, Nat.reduceAdd, Nat.reduceMul, Nat.reduceEqDiff, ↓reduceIte, UT, g1]) | refine And.intro (by first | assumption | omega | (intros; omega)) ?_)
            refine SemW_set1 cells3 hD6.a rfl rfl fun w7 hr7 hk7 _ => ?_
            have hD7 := hD6.seta hJ hk7 hr7
            try simp only [KS, Nat.reduceAdd, Nat.reduceMul, Nat.reduceEqDiff, ↓reduceIte, UT]
            (repeat first | with_reducible refine Run_seq ?_ | with_reducible refine Run_skip ?_ | with_reducible refine Run_scope ?_ | with_reducible refine Run_label ?_ | with_reducible refine Run_sc ?_ | with_reducible refine Run_block ?_ | with_reducible refine Run_blk ?_ | with_reducible refine Run_exit rfl ?_ | (refine Run_region (by kernel_rfl) fun _ => ?_; simp only [KS, Nat.reduceAdd, Nat.reduceMul, Nat.reduceEqDiff, ↓reduceIte, UT]) | (refine Run_drawn mixed (by kernel_rfl) (by kernel_rfl) fun _ => ?_; simp only [KS, Nat.reduceAdd, Nat.reduceMul, Nat.reduceEqDiff, ↓reduceIte, UT]) | refine And.intro (by first | assumption | omega | (intros; omega)) ?_)
            refine Run_lp ⟨(pre, off[k].Until, cs), ?_, ⟨hD7, by simp; omega, by simp; omega, hlen, ?_⟩, by simp; omega⟩
            · simp [SubB, fnd]
            · simp only
              rw [hd, hdn, hgap, ← Cal.deps_nxt (by omega)]
          · (repeat first | with_reducible refine Run_seq ?_ | with_reducible refine Run_skip ?_ | with_reducible refine Run_scope ?_ | with_reducible refine Run_label ?_ | with_reducible refine Run_sc ?_ | with_reducible refine Run_block ?_ | with_reducible refine Run_blk ?_ | with_reducible refine Run_exit rfl ?_ | (refine Run_region (by kernel_rfl) fun _ => ?_; simp only [KS, Nat.reduceAdd, Nat.reduceMul, Nat.reduceEqDiff, ↓reduceIte, UT]) | (refine Run_drawn mixed (by kernel_rfl) (by kernel_rfl) fun _ => ?_; simp only [KS, Nat.reduceAdd, Nat.reduceMul, Nat.reduceEqDiff, ↓reduceIte, UT]) | refine And.intro (by first | assumption | omega | (intros; omega)) ?_)
            refine Run_lp ⟨k + 1, ?_, ⟨hD6, by omega, ?_⟩, by omega⟩
            · simp [SubB, fnd, wrap_in (x := (k : Int) + 1) (by omega) (by omega)]
            · try simp only
              rw [List.take_succ_eq_append_getElem h4, List.any_append, hng]
              simp [h5]
        · simp at h4
          obtain rfl : k = off.length := by omega
          rw [List.take_length] at hng
          have hnt := hit (by omega) hng
          rw [hnt, if_pos (by omega)] at hdn
          (repeat first | with_reducible refine Run_seq ?_ | with_reducible refine Run_skip ?_ | with_reducible refine Run_scope ?_ | with_reducible refine Run_label ?_ | with_reducible refine Run_sc ?_ | with_reducible refine Run_block ?_ | with_reducible refine Run_blk ?_ | with_reducible refine Run_exit rfl ?_ | (refine Run_region (by kernel_rfl) fun _ => ?_; simp only [KS, Nat.reduceAdd, Nat.reduceMul, Nat.reduceEqDiff, ↓reduceIte, UT, a1, a2]) | (refine Run_drawn mixed (by kernel_rfl) (by kernel_rfl) fun _ => ?_; simp only [KS, Nat.reduceAdd, Nat.reduceMul, Nat.reduceEqDiff, ↓reduceIte, UT, a1, a2]) | refine And.intro (by first | assumption | omega | (intros; omega)) ?_)
          refine (hJ.yield _ _ _ t _ hD.j (by rw [hd, hdn])).mono fun v w6 hv => ?_
          obtain ⟨c, rfl, hk6, hc⟩ := hv
          try simp only [KS, Nat.reduceAdd, Nat.reduceMul, Nat.reduceEqDiff, ↓reduceIte, UT]
          (repeat first | with_reducible refine Run_seq ?_ | with_reducible refine Run_skip ?_ | with_reducible refine Run_scope ?_ | with_reducible refine Run_label ?_ | with_reducible refine Run_sc ?_ | with_reducible refine Run_block ?_ | with_reducible refine Run_blk ?_ | with_reducible refine Run_exit rfl ?_ | (refine Run_region (by kernel_rfl) fun _ => ?_; simp only [KS, Nat.reduceAdd, Nat.reduceMul, Nat.reduceEqDiff, ↓reduceIte, UT]) | (refine Run_drawn mixed (by kernel_rfl) (by kernel_rfl) fun _ => ?_; simp only [KS, Nat.reduceAdd, Nat.reduceMul, Nat.reduceEqDiff, ↓reduceIte, UT]) | refine And.intro (by first | assumption | omega | (intros; omega)) ?_)
          refine Run_cond (fun _ => rfl) (fun h5 => ?_) (fun h5 => ?_)
          · simp at h5
            subst h5
            simp at hc
            (repeat first | with_reducible refine Run_seq ?_ | with_reducible refine Run_skip ?_ | with_reducible refine Run_scope ?_ | with_reducible refine Run_label ?_ | with_reducible refine Run_sc ?_ | with_reducible refine Run_block ?_ | with_reducible refine Run_blk ?_ | with_reducible refine Run_exit rfl ?_ | (refine Run_region (by kernel_rfl) fun _ => ?_; simp only [KS, Nat.reduceAdd, Nat.reduceMul, Nat.reduceEqDiff, ↓reduceIte, UT]) | (refine Run_drawn mixed (by kernel_rfl) (by kernel_rfl) fun _ => ?_; simp only [KS, Nat.reduceAdd, Nat.reduceMul, Nat.reduceEqDiff, ↓reduceIte, UT]) | refine And.intro (by first | assumption | omega | (intros; omega)) ?_)
            refine Run_ret ?_
            simp only [Rets, RetM, resV, fnd, oneOr]
            exact ⟨by trivial, .inl hc⟩
          · simp at h5
            subst h5
            simp only [if_true] at hc
            have hD6 : DI pa pl J (pre ++ [t]) t cs w6 := ⟨hc, hD.a.keep hk6 (.inl rfl), hD.l.keep hk6 (.inr rfl), hD.ne⟩
            obtain ⟨hW, r1, r2, o1, o2, a1, a2⟩ := hD6.facts hJ
            (repeat first | with_reducible refine Run_seq ?_ | with_reducible refine Run_skip ?_ | with_reducible refine Run_scope ?_ | with_reducible refine Run_label ?_ | with_reducible refine Run_sc ?_ | with_reducible refine Run_block ?_ | with_reducible refine Run_blk ?_ | with_reducible refine Run_exit rfl ?_ | (refine Run_region (by kernel_rfl) fun _ => ?_; simp only [KS, Nat.reduceAdd, Nat.reduceMul, Nat.reduceEqDiff, ↓reduceIte, UT, a1, a2]) | (refine Run_drawn mixed (by kernel_rfl) (by kernel_rfl) fun _ => ?_; simp only [KS, Nat.reduceAdd, Nat.reduceMul, Nat.reduceEqDiff, ↓reduceIte, UT, a1, a2]) | refine And.intro (by first | assumption | omega | (intros; omega)) ?_)
            rw [wrap_in (x := t + 1) (by omega) (by omega)]
            refine SemW_set1 cells3 hD6.a rfl rfl fun w7 hr7 hk7 _ => ?_
            have hD7 := hD6.seta hJ hk7 hr7
            try simp only [KS, Nat.reduceAdd, Nat.reduceMul, Nat.reduceEqDiff, ↓reduceIte, UT]
            (repeat first | with_reducible refine Run_seq ?_ | with_reducible refine Run_skip ?_ | with_reducible refine Run_scope ?_ | with_reducible refine Run_label ?_ | with_reducible refine Run_sc ?_ | with_reducible refine Run_block ?_ | with_reducible refine Run_blk ?_ | with_reducible refine Run_exit rfl ?_ | (refine Run_region (by kernel_rfl) fun _ => ?_; simp only [KS, Nat.reduceAdd, Nat.reduceMul, Nat.reduceEqDiff, ↓reduceIte, UT]) | (refine Run_drawn mixed (by kernel_rfl) (by kernel_rfl) fun _ => ?_; simp only [KS, Nat.reduceAdd, Nat.reduceMul, Nat.reduceEqDiff, ↓reduceIte, UT]) | refine And.intro (by first | assumption | omega | (intros; omega)) ?_)
            refine Run_lp ⟨(_, t + 1, cs), ?_, ⟨hD7, by simp; omega, by simp; omega, hlen, ?_⟩, by simp; omega⟩
            · simp [SubB, fnd]
            · rw [hd, hdn]; simp
  · simp at h1
    (repeat first | with_reducible refine Run_seq ?_ | with_reducible refine Run_skip ?_ | with_reducible refine Run_scope ?_ | with_reducible refine Run_label ?_ | with_reducible refine Run_sc ?_ | with_reducible refine Run_block ?_ | with_reducible refine Run_blk ?_ | with_reducible refine Run_exit rfl ?_ | (refine Run_region (by kernel_rfl) fun _ => ?_; simp only [KS, Nat.reduceAdd, Nat.reduceMul, Nat.reduceEqDiff, ↓reduceIte, UT]) | (refine Run_drawn mixed (by kernel_rfl) (by kernel_rfl) fun _ => ?_; simp only [KS, Nat.reduceAdd, Nat.reduceMul, Nat.reduceEqDiff, ↓reduceIte, UT]) | refine And.intro (by first | assumption | omega | (intros; omega)) ?_)
    refine Run_nil ?_
    have : Cal.deps rules off b 2097152 = [] := by unfold Cal.deps; rw [show (2097152 - b).toNat = 0 by omega]; rfl
    rw [this, List.append_nil] at hd
    simp only [Rets, RetM, resV, fnd, oneOr]
    exact ⟨by trivial, .inr ⟨_, by rw [hd]; exact hD.j⟩⟩
end Go.Proofs.Ytcncbmdkifdggaa
