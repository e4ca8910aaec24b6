import Derived.Test.YtldjfebokojmfaaGreatRgW20r
import Derived.Test.YtldjfebokojmfaaGreatRgGv
set_option linter.unusedSimpArgs false
set_option linter.unusedVariables false
set_option maxRecDepth 100000
namespace Go.Fk
open Go
theorem BufO.keepP {α : Type} [Enc α] [Flat α] {e : TypeId} {B : Nat} {w w' : World} {v : Value} {xs : List α} {S : Nat → Prop} (h : BufO e B w v xs) (k : Keep S w w') (hS : ∀ g, v.ownBlock = some g → S g) : BufO e B w' v xs := by
  obtain ⟨css, hc, hb⟩ := h.ex
  exact ⟨css, hc.any, ownsRow_blk hb fun g hg => k.block g (hb.lt g hg).2 (hS g hg)⟩
end Go.Fk
namespace Go.Proofs.YtldjfebokojmfaaGreat
open Go Go.Fk
structure AR (w : World) (B : Nat) (ps : Addr) (v : Value) (C : Nat) (ms : List RunD) (w' : World) : Prop where
  keep : Keep (fun k => k < B) w w'
  m : ∃ vm, Row w' ps 59 [vm] ∧ BufO (α := RunD) 34 B w' vm ms ∧ ∀ g, vm.ownBlock = some g → v.ownBlock = some g ∨ C ≤ g
theorem AR.go {w w1 w2 : World} {B : Nat} {ps : Addr} {v : Value} {C : Nat} {ms : List RunD} {S : Nat → Prop} (h : AR w B ps v C ms w1) (hk : Keep S w1 w2) (h1 : ∀ k, k < B → S k) (h2 : S ps.block) (h3 : ∀ g, v.ownBlock = some g → S g) (h4 : ∀ g, C ≤ g → S g) : AR w B ps v C ms w2 := by
  obtain ⟨vm, hr, hb, hg⟩ := h.m
  refine ⟨h.keep.trans (hk.mono fun k _ hk => h1 k hk), vm, hr.keep hk h2, hb.keepP hk fun g hg' => ?_, hg⟩
  rcases hg g hg' with h | h
  · exact h3 g h
  · exact h4 g h
theorem slAppendSeqR (f : FuncId) (cap : Array Value) (items l0 : List RunD) (w : World) (v : Value) (B : Nat) (S : Nat → Prop) (hc : callable Tryz.prog f = true) (hb : BufO (α := RunD) 34 B w v l0) (hB : B ≤ w.heap.size) (hit : IterR Tryz.prog f cap items w S)
    (hS : ∀ k, k < w.heap.size → S k → some k ≠ v.ownBlock) (hI : ∀ m ∈ items, RunI m) (hn : l0.length + items.length ≤ 1000000) :
    Calls Tryz.prog 89 #[v, .func (.func f) #[] cap] w fun e w' => ∃ v', e = .returned v' ∧ BufO (α := RunD) 34 B w' v' (l0 ++ items) ∧ Keep (fun k => k < B) w w' := by
  have hvc := isS_cells hb.isS.1
  refine Calls_of_Run (args := [v, .func (.func f) #[] cap]) (n := 13) (rs := [.tmp 4]) Tryz.func89 rfl rfl rfl (by simp) ?_
  (repeat with_reducible first | refine jy ?_ | refine jw KL89 [] TF89 fun _ => ?_)
  refine SemW_box fun ps w2 h2 => ?_
  have b2 := h2.blk
  have z2 := h2.size
  have x2 := h2.ext
  have r2 := h2.row
  rw [hvc] at r2
  have hown : ∀ g, v.ownBlock = some g → g < w.heap.size := fun g hg => (hb.own_lt hg).2
  have hS2 : AR w B ps v (w2.heap.size + 2) (l0 ++ items.take 0) w2 := ⟨Keep.of_ext x2, v, r2, by rw [List.take_zero, List.append_nil]; exact hb.keepP (Keep.of_ext (S := fun _ => True) x2) fun _ _ => trivial, fun g hg => .inl hg⟩
  (repeat with_reducible first | refine jy ?_ | refine jw KL89 [] TF89 fun _ => ?_)
  refine Run_iter [7] (fun _ => rfl) hc (by simp) (rItems items) (fun x hx => by simp [rItems] at hx; obtain ⟨_, _, rfl⟩ := hx; rfl) (fun _ => False) (fun k => k < w2.heap.size ∧ some k ≠ v.ownBlock ∧ k ≠ ps.block) (fun k hk => hk.elim) (fun k hk => hk.1)
    (fun j w' => AR w B ps v (w2.heap.size + 2) (l0 ++ items.take j) w')
    (fun e w' => False)
    (fun yv J Jx w1 hcs hx1 h0 => hit (fun k => k < w2.heap.size ∧ some k ≠ v.ownBlock ∧ k ≠ ps.block) yv J Jx w1 (fun k hk hs => ⟨by omega, hS k hk hs, by omega⟩) hcs (Keep.of_ext (x2.trans hx1)) h0)
    (fun w1 hx1 _ => hS2.go (Keep.of_ext (S := fun _ => True) hx1) (fun _ _ => trivial) trivial (fun _ _ => trivial) fun _ _ => trivial)
    (fun j u1 u2 hS hk => hS.go hk (fun k hk => ⟨id, by omega, by omega⟩) ⟨id, by omega, by omega⟩ (fun g hg => by have := hown g hg; exact ⟨id, by omega, by omega⟩) (fun g hg => ⟨id, by omega, by omega⟩))
    (fun e u1 u2 he hk => he.elim) ?_ ?_ ?_
  · intro j hj w8 hS8 z8
    rw [rItems_len] at hj
    rw [rItems_get _ hj]
    simp only [zipL]
    have hmI := hI _ (List.getElem_mem hj)
    (repeat with_reducible first | refine jy ?_ | refine jw KL89 [] TF89 fun _ => ?_)
    refine SemW_var ti34 rfl (by simp [Value.cells, RunD.cs]) (by decide) rfl fun pv w9 h9 => ?_
    have b9 := h9.blk
    have z9 := h9.size
    have r9 : Row w9 pv 34 items[j].cs := by simpa [Value.cells] using h9.row
    have hS9 := hS8.go (Keep.of_ext (S := fun _ => True) h9.ext) (fun _ _ => trivial) trivial (fun _ _ => trivial) fun _ _ => trivial
    (repeat with_reducible first | refine jy ?_ | refine jw KL89 [] TF89 fun _ => ?_)
    refine Run_lp ⟨Keep.of_ext h9.ext, fun w10 k10 z10 => ?_⟩
    have hS10 := hS9.go k10 (fun k hk => by omega) (by omega) (fun g hg => by have := hown g hg; omega) (fun g hg => by omega)
    have r10 := r9.keep k10 (by omega)
    obtain ⟨vm, rm, bm, hgm⟩ := hS10.m
    obtain ⟨m1, m2⟩ := row1 rm
    have n1 := r10.n
    simp only [RunD.cs, AtN, KS, Nat.reduceAdd, Nat.reduceMul, Nat.reduceEqDiff, ↓reduceIte, UT] at n1
    (repeat with_reducible first | refine jy ?_ | refine jw KL89 [] (aa TF89 (aa m1 (aa m2 n1))) fun _ => ?_)
    refine SemW_append1P (α := RunD) (X := .agg items[j].cs.toArray) (x := items[j]) Tryz.underlying59 ti34 rfl (by decide) bm (by omega) ⟨rfl, hmI⟩ (by simp [maxLen]; omega) fun s v' w15 b15 k15 o15 => ?_
    have hgs : ∀ k, k < w2.heap.size + 2 → some k ≠ v.ownBlock → some k ≠ vm.ownBlock := fun k hk hne e => by
      rcases hgm k e.symm with h | h
      · exact hne h.symm
      · omega
    have hps : some ps.block ≠ v.ownBlock := fun e => by have := hown _ e.symm; omega
    have kB := bm.below k15
    rw [List.append_assoc, ← List.take_succ_eq_append_getElem hj] at b15
    (repeat with_reducible first | refine jy ?_ | refine jw KL89 [] TF89 fun _ => ?_)
    refine SemW_set1 cells59 (rm.keep k15 (hgs _ (by omega) hps)) (isS_one b15.isS.1).1 (isS_one b15.isS.1).2 fun w16 r16 k16 s16 => ?_
    rw [isS_cells b15.isS.1] at r16
    (repeat with_reducible first | refine jy ?_ | refine jw KL89 [] TF89 fun _ => ?_)
    have z15 := k15.size
    have g16 : ∀ g, v'.ownBlock = some g → v.ownBlock = some g ∨ w2.heap.size + 2 ≤ g := fun g hg => by
      rcases o15 with h | ⟨g', h, h'⟩
      · exact hgm g (h ▸ hg)
      · rw [h] at hg; cases hg; right; omega
    refine Run_nil ⟨(k15.mono fun k hk hk' => ?_).trans (k16.mono fun k hk hk' => ?_), (hS10.keep.trans kB).trans (k16.mono fun k _ hk => by omega), v', r16, b15.keepP k16 (fun g hg => ?_), g16⟩
    · rcases hk' with h | h | h
      · exact hgs k (by omega) h.2.1
      · exact hgs k (by omega) fun e => by have := hown _ e.symm; omega
      · exact hgs k (by omega) fun e => by have := hown _ e.symm; omega
    · rcases hk' with h | h | h <;> omega
    · rcases g16 g hg with h | h
      · have := hown g h; omega
      · omega
  · intro w8 hS8 hd
    rw [rItems_len, List.take_length] at hS8
    obtain ⟨vm, rm, bm, hgm⟩ := hS8.m
    obtain ⟨m1, m2⟩ := row1 rm
    (repeat with_reducible first | refine jy ?_ | refine jw KL89 [] (aa TF89 (aa m1 m2)) fun _ => ?_)
    refine Run_ret (RetM_one (d := w2.heap.size) hd fun w10 k10 _ => ?_)
    simp only [resV]
    refine ⟨vm, rfl, vm, rfl, bm.keepP k10 (fun g hg => ?_), hS8.keep.trans (k10.mono fun k _ hk => by omega)⟩
    rcases hgm g hg with h | h
    · have := hown g h; omega
    · omega
  · intro e w8 he hd
    exact he.elim
theorem betweenOk {t : TimeD} {a b : Int} (h1 : Tt.chk t = 0) (h2 : ¬ (a < 0 ∨ b < a ∨ 2097152 < b)) : Tt.runs t a b = if Tt.anyErr a b t.Lines then ([], 2) else if 2000 < (Tt.allRuns a b 0 t.Lines).length then ([], 2) else (Tt.sortR (Tt.allRuns a b 0 t.Lines), 0) := by
  unfold Tt.runs; rw [if_neg (by simp [h1]), if_neg h2]
theorem anyErr_iff {a b : Int} : ∀ {l : List LineD}, Tt.anyErr a b l = true ↔ ∃ x ∈ l, (Cal.moments x.Rules x.Off a b).2 ≠ 0
  | [] => by simp [Tt.anyErr]
  | x :: l => by simp [Tt.anyErr, anyErr_iff (l := l)]
theorem moments_ok {rules : List Rule} {off : List Gap} {a b : Int} (hc : Cal.chk rules off = 0) (h : ¬ (a < 0 ∨ b < a ∨ 2097152 < b)) : (Cal.moments rules off a b = ([], 2) ∨ Cal.moments rules off a b = (Cal.deps rules off a b, 0) ∧ (Cal.deps rules off a b).length ≤ 2000) := by
  unfold Cal.moments
  rw [if_neg (by simp [hc]), if_neg h]
  split
  · exact .inl rfl
  · right; exact ⟨rfl, by omega⟩
theorem all_take {a b : Int} {l : List LineD} {k : Nat} (h : k < l.length) : Tt.allRuns a b 0 (l.take (k + 1)) = Tt.allRuns a b 0 (l.take k) ++ Tt.lineRuns a b k l[k] := by
  rw [List.take_succ_eq_append_getElem h, Tt.all_split]
  have : 0 + (l.take k).length = k := by simp; omega
  rw [this]
  simp [Tt.allRuns]
theorem all_len {a b : Int} : ∀ {l : List LineD} {i : Nat}, (∀ x ∈ l, (Cal.deps x.Rules x.Off a b).length ≤ 2000) → (Tt.allRuns a b i l).length ≤ 2000 * l.length
  | [], i, _ => by simp [Tt.allRuns]
  | x :: l, i, h => by
    have h1 := h x (List.mem_cons_self ..)
    have h2 := all_len (l := l) (i := i + 1) fun y hy => h y (List.mem_cons_of_mem _ hy)
    have h3 : (Tt.lineRuns a b i x).length ≤ (Cal.deps x.Rules x.Off a b).length := List.length_filterMap_le _ _
    simp only [Tt.allRuns, List.length_append, List.length_cons]
    omega
set_option maxHeartbeats 1000000 in
theorem ttRuns (vl : Value) (t : TimeD) (a b : Int) (w : World) (hl : Sl w vl t.Lines) :
    Calls Tryz.prog 58 #[.agg (t.cs vl).toArray, .int .i64 a, .int .i64 b] w fun e w' => ∃ v, e = .returned (.tuple #[v, .int .i64 (Tt.runs t a b).2]) ∧ Ext w w' ∧ Sl w' v (Tt.runs t a b).1 := by
  have hn := hl.small
  have hlen := hl.len
  refine Calls_of_Run (args := [.agg (t.cs vl).toArray, .int .i64 a, .int .i64 b]) (n := 62) (rs := [.tmp 6, .tmp 7]) Tryz.func58 rfl rfl rfl (by simp) ?_
  (repeat with_reducible first | refine jy ?_ | refine jw KL58 [] TF58 fun _ => ?_)
  refine SemW_box fun p w1 hN => ?_
  have x1 := hN.ext
  have G : ∀ w', Ext w1 w' → AtN w' p 0 (t.cs vl) := fun w' x => (hN.at_.ext x).n
  simp only [TimeD.cs, AtN, KS, Nat.reduceAdd, Nat.reduceMul, Nat.reduceEqDiff, ↓reduceIte, UT] at G
  have g1 := G w1 (Ext.refl _)
  (repeat with_reducible first | refine jy ?_ | refine jw KL58 [] (aa TF58 g1) fun _ => ?_)
  refine chkW rfl (hl.ext x1) fun w2 x2 => ?_
  have y2 := x1.trans x2
  (repeat with_reducible first | refine jy ?_ | refine jw KL58 [] TF58 fun _ => ?_)
  refine Run_condS (fun _ => rfl) (fun h => ?_) (fun h => ?_)
  · simp at h
    (repeat with_reducible first | refine jy ?_ | refine jw KL58 [] TF58 fun _ => ?_)
    refine Run_ret ?_
    have : Tt.runs t a b = ([], Tt.chk t) := by unfold Tt.runs; rw [if_pos h]
    simp [Rets, RetM, resV, fnd, oneOr, this]
    exact ⟨y2, Sl.nil _⟩
  simp at h
  have hc := h
  have ht := Tt.chk_ok hc
  (repeat with_reducible first | refine jy ?_ | refine jw KL58 [] (aa TF58 KX) fun _ => ?_)
  refine Run_condS (fun _ => rfl) (fun h => ?_) (fun h => ?_)
  · have h4 : a < 0 ∨ b < a ∨ 2097152 < b := by simp at h; omega
    (repeat with_reducible first | refine jy ?_ | refine jw KL58 [] TF58 fun _ => ?_)
    refine Run_ret ?_
    have : Tt.runs t a b = ([], 1) := by unfold Tt.runs; rw [if_neg (by simp [hc]), if_pos h4]
    simp [Rets, RetM, resV, fnd, oneOr, this]
    exact ⟨y2, Sl.nil _⟩
  have h4 : ¬ (a < 0 ∨ b < a ∨ 2097152 < b) := by simp at h; omega
  have hres := betweenOk hc h4
  have g2 := G w2 x2
  (repeat with_reducible first | refine jy ?_ | refine jw KL58 [] (aa TF58 (aa g2 (aa hl.s hl.len))) fun _ => ?_)
  refine Run_loopV [6, 7, 8, 9, 10, 11, 31, 32, 47] (σ := Nat × Value) (fun s => [(31, some (.int .i64 s.1)), (6, some s.2)]) (fun s w' => s.1 ≤ t.Lines.length ∧ (∀ j (h : j < t.Lines.length), j < s.1 → (Cal.moments t.Lines[j].Rules t.Lines[j].Off a b).2 = 0) ∧ BufO (α := RunD) 34 w.heap.size w' s.2 (Tt.allRuns a b 0 (t.Lines.take s.1)) ∧ Ext w w') (fun s => t.Lines.length - s.1) (0, .slice none 0 0) (by simp [SubB, fnd]) ⟨by omega, by simp, BufO.nil, y2⟩ ?_
  rintro ⟨k, v⟩ w3 ⟨hk, hf, hb, y3⟩
  simp only at hk hf hb
  (repeat with_reducible first | refine jy ?_ | refine jw KL58 [] TF58 fun _ => ?_)
  refine Run_condS (fun _ => rfl) (fun h => ?_) (fun h => ?_)
  · simp at h
    have hkl := h
    obtain ⟨v0, v1, v2, v3, f0, f2, hR0⟩ := hl.line hkl
    have hR := hR0.ext y3
    have f1 := (f2.ext y3).n
    simp only [LineD.cs, AtN, KS, Nat.reduceAdd, Nat.reduceMul, Nat.reduceEqDiff, ↓reduceIte, UT] at f1
    have hone := hR.one
    simp only [LineD.cs] at hone
    have hmem := List.getElem_mem hkl
    have hxo := Tt.right_ok (ht.r _ hmem)
    have hxc := ht.c _ hmem
    have htk := all_take (a := a) (b := b) hkl
    have hms := moments_ok (a := a) (b := b) hxc h4
    have hal : (Tt.allRuns a b 0 (t.Lines.take k)).length ≤ 2000 * k := by
      have := all_len (a := a) (b := b) (l := t.Lines.take k) (i := 0) fun y hy => by
        obtain ⟨j, hj, rfl⟩ := List.getElem_of_mem hy
        simp only [List.length_take] at hj
        rw [List.getElem_take]
        have h0 := hf j (by omega) (by omega)
        rcases moments_ok (a := a) (b := b) (ht.c _ (List.getElem_mem (by omega : j < t.Lines.length))) h4 with h | ⟨h, hh⟩
        · rw [h] at h0; cases h0
        · exact hh
      rw [List.length_take] at this
      omega
    have hn64 := ht.n
    generalize hxx : t.Lines[k] = x at *
    (repeat with_reducible first | refine jy ?_ | refine jw KL58 [] (aa TF58 (aa hl.s (aa hl.len f1))) fun _ => ?_)
    refine SemW_var ti82 rfl rfl (by decide) (by simpa [Value.cells] using hone) fun px w4 h5 => ?_
    have x4 := h5.ext
    have q4 := h5.at_.n
    simp only [AtN, KS, Nat.reduceAdd, Nat.reduceMul, Nat.reduceEqDiff, ↓reduceIte, UT] at q4
    (repeat with_reducible first | refine jy ?_ | refine jw KL58 [] (aa TF58 q4) fun _ => ?_)
    have hR4 := hR.ext x4
    refine CallW_gen call88 (calMomentsO v2 v3 x.Rules x.Off a b w4 hR4.r hR4.g) fun e w5 ⟨vm, he, x5, s5, nO, xsO, hO⟩ => ⟨_, he, ?_⟩
    have y5 := y3.trans (x4.trans x5)
    (repeat with_reducible first | refine jy ?_ | refine jw KL58 [] TF58 fun _ => ?_)
    refine Run_condS (fun _ => rfl) (fun h => ?_) (fun h => ?_)
    · have he2 : (Cal.moments x.Rules x.Off a b).2 = 2 := by
        rcases hms with h' | ⟨h', _⟩
        · rw [h']
        · simp [h'] at h
      rw [he2]
      (repeat with_reducible first | refine jy ?_ | refine jw KL58 [] TF58 fun _ => ?_)
      refine Run_ret ?_
      have : Tt.runs t a b = ([], 2) := by
        rw [hres, if_pos (anyErr_iff.2 ⟨x, hmem, by omega⟩)]
      simp [Rets, RetM, resV, fnd, oneOr, this]
      exact ⟨y5, Sl.nil _⟩
    have hz : (Cal.moments x.Rules x.Off a b).2 = 0 := by simpa using h
    rcases hms with h' | ⟨hm, hml⟩
    · rw [h'] at hz; cases hz
    rw [hm] at s5
    simp only at s5
    have hb5 := hb.keepP (Keep.of_ext (S := fun _ => True) (x4.trans x5)) fun _ _ => trivial
    have q5 := (h5.at_.ext x5).n
    simp only [AtN, KS, Nat.reduceAdd, Nat.reduceMul, Nat.reduceEqDiff, ↓reduceIte, UT] at q5
    have hvm := isS_cells s5.s
    (repeat with_reducible first | refine jy ?_ | refine jw KL58 [] (aa TF58 q5) fun _ => ?_)
    refine CallW_gen call90 (ttRunsF k x v0 v1 v2 v3 vm w5 hvm) fun e w6 ⟨pm, pn, pq, he6, x6, am, an, ax, bm, bn, bx⟩ => ⟨_, he6, ?_⟩
    have hb6 := hb5.keepP (Keep.of_ext (S := fun _ => True) x6) fun _ _ => trivial
    have z5 := x5.size
    have z6 := x6.size
    have z4 := x4.size
    have zw := y3.size
    have hown : ∀ g, v.ownBlock = some g → w.heap.size ≤ g ∧ g < w3.heap.size := fun g hg => hb.own_lt hg
    have hvl : Cal.deps x.Rules x.Off a b ≠ [] → some (slAt vm).block ≠ v.ownBlock := fun hne e => by
      have h1 := (hown _ e.symm).2
      rcases hO.2 with ⟨rfl, _⟩ | ⟨g, cap, cur, rfl, hbs, _⟩
      · have := s5.len
        simp at this
        exact hne (List.eq_nil_of_length_eq_zero this.symm)
      · simp only [slAt_mk] at h1
        omega
    have hS6 : RnS w pm pn pq vm k x v0 v1 v2 v3 (Cal.deps x.Rules x.Off a b) w6 := ⟨y5.trans x6, am, an, ax, s5.ext x6⟩
    have hbd : ∀ y ∈ Cal.deps x.Rules x.Off a b, 0 ≤ y ∧ y ≤ 2097152 := fun y hy => by
      have := (Cal.deps_mem (by omega)).1 hy
      omega
    have hit : IterR Tryz.prog 126 #[.pointer (some pm), .pointer (some pn), .pointer (some pq)] (Tt.runsL k x (Cal.deps x.Rules x.Off a b)) w6 (fun q => some q ≠ v.ownBlock) :=
      runIter w pm pn pq vm k x v0 v1 v2 v3 _ t.Offices w6 _ hR0 hxo hbd (by omega) hS6 (fun q hq e => by have := (hown q e.symm).1; omega) (fun e => by have := (hown _ e.symm).2; omega) (fun e => by have := (hown _ e.symm).2; omega) (fun e => by have := (hown _ e.symm).2; omega) hvl
    refine CallW_gen call89 (slAppendSeqR 126 #[.pointer (some pm), .pointer (some pn), .pointer (some pq)] (Tt.runsL k x (Cal.deps x.Rules x.Off a b)) (Tt.allRuns a b 0 (t.Lines.take k)) w6 v w.heap.size (fun q => some q ≠ v.ownBlock) call126 hb6 (by omega) hit (fun q _ hq => hq) (fun r hr => ?_) ?_) fun e w7 ⟨v', he7, b7, k7⟩ => ⟨_, he7, ?_⟩
    · obtain ⟨r1, r2, r3, r4⟩ := Tt.mem_runsL.1 hr
      have r5 := hbd _ r1
      have hbd2 := Tt.sm_bd hxo.l x.Legs.length (Nat.le_refl _)
      rw [List.take_length] at hbd2
      unfold Tt.leng at r3
      refine ⟨?_, ?_, ?_⟩ <;> unfold I64 <;> omega
    · have : (Tt.runsL k x (Cal.deps x.Rules x.Off a b)).length ≤ (Cal.deps x.Rules x.Off a b).length := List.length_filterMap_le _ _
      omega
    rw [← Tt.lineRuns, ← htk] at b7
    (repeat with_reducible first | refine jy ?_ | refine jw KL58 [] TF58 fun _ => ?_)
    refine Run_lp ⟨(k + 1, v'), ?_, ⟨by simp only; omega, fun j hj hjk => ?_, b7, ?_⟩, by simp only; omega⟩
    · simp [SubB, fnd, strike, has]
    · by_cases e : j = k
      · subst e; rw [hxx]; exact hz
      · exact hf j hj (by simp only at hjk; omega)
    · exact Keep.ext (y5.trans x6) k7 fun q hq => hq
  · simp at h
    obtain rfl : k = t.Lines.length := by omega
    rw [List.take_length] at hb
    have hne : Tt.anyErr a b t.Lines = false := by
      rw [← Bool.not_eq_true, anyErr_iff]
      rintro ⟨x, hx, h0⟩
      obtain ⟨j, hj, rfl⟩ := List.getElem_of_mem hx
      exact h0 (hf j hj hj)
    rw [if_neg (by simp [hne])] at hres
    (repeat with_reducible first | refine jy ?_ | refine jw KL58 [] (aa TF58 (aa hb.isS.1 hb.isS.2)) fun _ => ?_)
    refine Run_condS (fun _ => rfl) (fun h => ?_) (fun h => ?_)
    · simp at h
      (repeat with_reducible first | refine jy ?_ | refine jw KL58 [] TF58 fun _ => ?_)
      refine Run_ret ?_
      rw [if_pos (by omega)] at hres
      simp [Rets, RetM, resV, fnd, oneOr, hres]
      exact ⟨y3, Sl.nil _⟩
    · simp at h
      rw [if_neg (by omega)] at hres
      (repeat with_reducible first | refine jy ?_ | refine jw KL58 [] TF58 fun _ => ?_)
      refine CallW_gen call67 (sortRuns hb (by omega) (Tt.all_apart a b t.Lines 0)) fun e w4 ⟨he, b4, k4⟩ => ⟨_, he, ?_⟩
      (repeat with_reducible first | refine jy ?_ | refine jw KL58 [] TF58 fun _ => ?_)
      refine Run_ret ?_
      simp [Rets, RetM, resV, fnd, oneOr, hres]
      refine ⟨Keep.ext y3 (hb.below k4) fun q hq => hq, b4.sl ?_⟩
      rw [(Tt.sortR_perm _).length_eq]; omega
end Go.Proofs.YtldjfebokojmfaaGreat
