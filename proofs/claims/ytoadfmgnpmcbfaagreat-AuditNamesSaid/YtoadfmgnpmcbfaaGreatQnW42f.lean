import Derived.Test.YtoadfmgnpmcbfaaGreatQnW42e
namespace Go.Proofs.YtoadfmgnpmcbfaaGreat
open Go Go.Fk
set_option linter.unusedSimpArgs false
set_option linter.unusedVariables false
set_option maxRecDepth 100000
theorem asked_w {t : TimeD} {f : TariffD} {l : List OrderD} {p : PlanD} {hd : List Int} (hok : Au.Ok t f l p hd) (hR : p.Runs.length ≤ 70) : ∀ m ∈ Au.asked t f l p hd, Au.MvW m := fun m hm => by
  have h64 := hok.e.o.n
  have h1 := Au.pre_one hok hR
  rcases List.mem_append.1 hm with hm | hm
  · obtain ⟨a1, a2, _, a3, a4, a5, a6⟩ := Au.pre_mv hok hR m hm
    exact ⟨a1, a2, by omega, by unfold I64; omega, by unfold I64; omega⟩
  · unfold Au.shs at hm
    obtain ⟨i, hi, rfl⟩ := List.mem_map.1 hm
    simp only [List.mem_range] at hi
    have hq := tq_bd (a := Ec.eff (Au.pre t f l p hd) 1) (n := l.length) (M := 1000000000000) (by omega) (by omega)
    unfold Au.shM Au.MvW
    simp only
    refine ⟨by omega, by omega, ?_, by unfold I64; omega, by unfold I64; omega⟩
    split <;> omega
theorem pre_get {ms dn : List MoveD} {y : MoveD} (h : dn ++ [y] <+: ms) : ∃ hk : dn.length < ms.length, ms[dn.length] = y := by
  obtain ⟨s, rfl⟩ := h
  refine ⟨by simp, ?_⟩
  simp
set_option maxHeartbeats 1000000 in
theorem auIter {W : World} {px p1 : Addr} {q : PerV} {t : TimeD} {f : TariffD} {l : List OrderD} {p : PlanD} {hd : List Int} {yv : Value} {J : Nat → World → Prop} {Jx : World → Prop} {priv kp : Nat → Prop} (hp : PerR W q t f l p hd) (hb : W.heap.size ≤ px.block) (hok : Au.Ok t f l p hd) (hR : p.Runs.length ≤ 70)
    (hc : ConsY Tryz.prog yv (Au.items (Au.asked t f l p hd)) priv kp (fun k w => Row w px 112 (q.cs t (Ec.eff ((Au.asked t f l p hd).take (k + 1)) 1)) ∧ Ext W w) J Jx) (w : World)
    (hx : Row w px 112 (q.cs t 0)) (ha1 : At w p1 [.pointer (some px)]) (hE : Ext W w) (hpv : ∀ b, w.heap.size ≤ b → priv b) (hpx : priv px.block) (hpk : ∀ b, priv b → kp b) (hWk : ∀ b, b < W.heap.size → kp b) (hk1 : kp p1.block) (h1x : p1.block ≠ px.block) (h0 : J 0 w) (hyc : yv.cells = #[yv]) :
    Calls Tryz.prog 116 #[yv, .pointer (some p1)] w fun e w' => e = .returned (.tuple #[]) ∧ (Jx w' ∨ J (Au.asked t f l p hd).length w') := by
  have hn64 := hok.e.o.n
  have hmv := asked_w hok hR
  have hml := Au.asked_len hok hR
  have hone1 := Au.pre_one hok hR
  have hask : Au.asked t f l p hd = Au.pre t f l p hd ++ Au.shs (Ec.eff (Au.pre t f l p hd) 1) l.length := rfl
  have hpre : Au.pre t f l p hd = Ec.posts t f l p l.length ++ Au.cat (Au.runPays t f l p hd) p.Runs.length ++ Au.cat (Au.runCovs t f p hd) p.Runs.length := by simp only [Au.pre, List.append_assoc]
  have p1' : Ec.posts t f l p l.length <+: Au.asked t f l p hd := by rw [hask, hpre, List.append_assoc, List.append_assoc]; exact List.prefix_append _ _
  have p2' : Ec.posts t f l p l.length ++ Au.cat (Au.runPays t f l p hd) p.Runs.length <+: Au.asked t f l p hd := by rw [hask, hpre, List.append_assoc]; exact List.prefix_append _ _
  have p3' : Ec.posts t f l p l.length ++ Au.cat (Au.runPays t f l p hd) p.Runs.length ++ Au.cat (Au.runCovs t f p hd) p.Runs.length <+: Au.asked t f l p hd := by rw [hask, hpre]; exact List.prefix_append _ _
  have p4' : Au.pre t f l p hd ++ Au.shs (Ec.eff (Au.pre t f l p hd) 1) l.length <+: Au.asked t f l p hd := by rw [hask]; exact List.prefix_refl _
  have hpl := Ec.posts_len t f l p l.length
  let NN : Nat → Nat := fun j => match j with | 0 => 0 | 1 => l.length | 2 => (Ec.posts t f l p l.length ++ Au.cat (Au.runPays t f l p hd) p.Runs.length).length | 3 => (Au.pre t f l p hd).length | _ => (Au.asked t f l p hd).length
  have h1lt := ha1.blk
  have hxlt := hx.lt
  refine Calls_of_Run (args := [yv, .pointer (some p1)]) (n := 27) (rs := []) Tryz.func116 rfl rfl rfl (by simp) ?_
  (repeat with_reducible first | refine js ?_ | refine ja ?_ | refine jw KL116 [] TF116 fun _ => ?_)
  refine SemW_box fun py w1 h1 => ?_
  have b1 := h1.blk
  have r1 : Row w1 py 177 [yv] := by simpa [hyc] using h1.row
  (repeat with_reducible first | refine js ?_ | refine ja ?_ | refine jw KL116 [] TF116 fun _ => ?_)
  refine SemW_allocT ti3 fun po w2 h2 => ?_
  have b2 := h2.blk
  have r2 : Row w2 po 3 [.int .i64 0] := by simpa [Value.cells] using h2.row
  refine set0W (by rw [cells3]) r2 (by simp) rfl rfl fun w3 r3 k3 z3 => ?_
  have r3 : Row w3 po 3 [.int .i64 0] := r3
  have x3 : Ext w w3 := Keep.ext (h1.ext.trans h2.ext) k3 fun b hb => by have := h1.size; omega
  have s1 := h1.size
  have s2 := h2.size
  have ry3 := (r1.ext h2.ext).keep k3 (by show py.block ≠ po.block; omega)
  have ax3 := ha1.ext x3
  have g3 := ax3.n
  simp only [AtN, KS, Nat.reduceAdd, Nat.reduceMul, Nat.reduceEqDiff, ↓reduceIte, UT] at g3
  (repeat with_reducible first | refine js ?_ | refine ja ?_ | refine jw KL116 [] (aa TF116 g3) fun _ => ?_)
  let F0 : Value := .func (.func 118) #[.pointer (some px)] #[]
  let F1 : Value := .func (.func 119) #[.pointer (some px)] #[]
  let F2 : Value := .func (.func 120) #[.pointer (some px)] #[]
  let F3 : Value := .func (.func 121) #[.pointer (some px)] #[]
  refine SemW_buildSlice (vs := [F0, F1, F2, F3]) Tryz.underlying179 ti178 rfl rfl rfl (by simp [Value.cells, F0, F1, F2, F3]) (by simp) fun pc w4 hB => ?_
  have x4 := hB.ext
  have b4 := hB.blk
  let Tk : Nat → World → Prop := fun k w' => TS W px p1 po py q t yv (Au.asked t f l p hd) J k w' ∧ w3.heap.size ≤ w'.heap.size
  have hTk0 : Tk 0 w4 := ⟨⟨hE.trans (x3.trans x4), hc.step _ _ _ h0 (Keep.of_ext (x3.trans x4)), r3.ext x4, by simpa [Ec.eff] using hx.ext (x3.trans x4), ax3.ext x4, ry3.at_.ext x4⟩, x4.size⟩
  have C : ToC W px q t (Au.asked t f l p hd) (toV po p1 py) Tk Jx (kq kp px po) w3.heap.size := by
    refine ⟨fun k a b h x => ⟨h.1.ext hc.step x, Nat.le_trans h.2 x.size⟩, fun k a h => ⟨h.1.x, h.1.e, h.2⟩, fun b hb' => ⟨hpk _ (hpv _ (by omega)), by omega, by omega⟩, fun dn y a hpr hT => ?_⟩
    obtain ⟨hk, hy⟩ := pre_get hpr
    refine CallW_cl call117 (auTo (B := w.heap.size) hmv (by omega) hc hpv hpx hpk hWk hb (by have := hE.size; omega) (by omega) (by omega) hk1 (by omega) h1x (by omega) (by omega) (by omega) dn.length y a hk hy hT.1 (by have := hT.2; omega)) fun e a' ⟨b, he, hK, hj⟩ => ⟨_, he, b, rfl, hK, ?_⟩
    cases b with
    | true => simp only [if_true] at hj ⊢; exact ⟨hj, Nat.le_trans hT.2 hK.size⟩
    | false => exact hj
  have hKpc : ∀ b, w3.heap.size ≤ b → kq kp px po b := C.new
  have hTJ : ∀ k w', Tk k w' → J k w' := fun k w' h => h.1.j
  clear_value Tk
  (repeat with_reducible first | refine js ?_ | refine ja ?_ | refine jw KL116 [] TF116 fun _ => ?_)
  refine Run_loopV [6, 18, 19, 25] (σ := Nat) (fun j => [(18, some (.int .i64 j))]) (fun j w' => j ≤ 4 ∧ Tk (NN j) w' ∧ Keep (kq kp px po) w4 w') (fun j => 4 - j) 0 (by simp [SubB, fnd]) ⟨by omega, hTk0, Keep.refl _ _⟩ ?_
  rintro j w5 ⟨hj4, hT5, k5⟩
  (repeat with_reducible first | refine js ?_ | refine ja ?_ | refine jw KL116 [] TF116 fun _ => ?_)
  refine Run_condS (fun _ => rfl) (fun h => ?_) (fun h => ?_)
  · simp at h
    have hjl := h
    have g5 := (hB.row.keep k5 (hKpc _ (by omega))).n
    simp only [AtN, KS, Nat.reduceAdd, Nat.reduceMul, Nat.reduceEqDiff, ↓reduceIte, UT, F0, F1, F2, F3, List.flatMap_cons, List.flatMap_nil, Value.cells, List.toList_toArray, List.append_nil, List.cons_append, List.nil_append] at g5
    have hC : ∃ g, (mem w5 (pc.add j) = .func (.func g) #[.pointer (some px)] #[] ∧ has1 w5 (pc.add j)) ∧ (∀ K : Value → World → Prop, (∀ (b : Bool) w', Keep (kq kp px po) w5 w' → (if b = true then Tk (NN (j + 1)) w' else Jx w') → K (.bool b) w') → CallW Tryz.prog (.func (.func g) #[.pointer (some px)] #[]) [toV po p1 py] w5 K) := by
      have : j = 0 ∨ j = 1 ∨ j = 2 ∨ j = 3 := by omega
      rcases this with rfl | rfl | rfl | rfl
      · refine ⟨118, ⟨by rw [add_zero]; exact g5.2.1, by rw [add_zero]; exact g5.1⟩, fun K hK => CallW_cl call118 (auPosts hp hb hok.e C p1' w5 hT5) fun e w' ⟨b, he, k, hj⟩ => ⟨_, he, hK b w' k hj⟩⟩
      · refine ⟨119, ⟨g5.2.2.2.1, g5.2.2.1⟩, fun K hK => CallW_cl call119 (auLegs hp hb hok C p2' w5 hT5) fun e w' ⟨b, he, k, hj⟩ => ⟨_, he, hK b w' k hj⟩⟩
      · refine ⟨120, ⟨g5.2.2.2.2.2.1, g5.2.2.2.2.1⟩, fun K hK => CallW_cl call120 (auCovers hp hb hok _ C p3' w5 hT5) fun e w' ⟨b, he, k, hj⟩ => ⟨_, he, hK b w' k (by rw [← hpre] at hj; exact hj)⟩⟩
      · refine ⟨121, ⟨g5.2.2.2.2.2.2.2, g5.2.2.2.2.2.2.1⟩, fun K hK => CallW_cl call121 (auShares hp _ C hn64 (by omega) p4' w5 hT5) fun e w' ⟨b, he, k, hj⟩ => ⟨_, he, hK b w' k (by rw [← hask] at hj; exact hj)⟩⟩
    obtain ⟨g, ⟨m1, m2⟩, hC⟩ := hC
    (repeat with_reducible first | refine js ?_ | refine ja ?_ | refine jw KL116 [] (aa TF116 (aa m1 m2)) fun _ => ?_)
    refine hC _ fun b w6 k6 hj => ?_
    refine ⟨rfl, ?_⟩
    simp only [bOf_mk]
    cases b with
    | true =>
      refine Run_condS (fun _ => rfl) (fun h => by cases h) (fun _ => ?_)
      (repeat with_reducible first | refine js ?_ | refine ja ?_ | refine jw KL116 [] TF116 fun _ => ?_)
      refine Run_lp ⟨j + 1, ?_, ⟨by omega, hj, k5.trans k6⟩, by omega⟩
      simp [SubB, fnd, strike, has]
    | false =>
      refine Run_condS (fun _ => rfl) (fun _ => ?_) (fun h => by cases h)
      (repeat with_reducible first | refine js ?_ | refine ja ?_ | refine jw KL116 [] TF116 fun _ => ?_)
      refine Run_ret ?_
      simp only [Rets, RetM, resV, oneOr]
      exact ⟨trivial, .inl hj⟩
  · simp at h
    obtain rfl : j = 4 := by omega
    (repeat with_reducible first | refine js ?_ | refine ja ?_ | refine jw KL116 [] TF116 fun _ => ?_)
    refine Run_nil ?_
    simp only [Rets, RetM, resV, oneOr]
    exact ⟨trivial, .inr (hTJ _ _ hT5)⟩
theorem eqM2 (a b : MoveD) : (a.No == b.No && (a.From == b.From && (a.To == b.To && (a.Amount == b.Amount && (a.Why == b.Why && a.Run == b.Run))))) = decide (a = b) := by
  rw [Bool.eq_iff_iff]
  cases a; cases b
  simp
theorem scan_go (b m : List MoveD) : ∀ k, (∀ j, j < k → j < b.length ∧ m[j]? = b[j]? ∧ 0 ≤ Ec.eff (b.take (j + 1)) 1) → Au.scan 0 0 b m = Au.scan k (Ec.eff (b.take k) 1) (b.drop k) (m.drop k)
  | 0, _ => by simp [Ec.eff]
  | k + 1, h => by
    rw [scan_go b m k fun j hj => h j (by omega)]
    obtain ⟨h1, h2, h3⟩ := h k (by omega)
    have hm : k < m.length := by
      rw [List.getElem?_eq_getElem h1] at h2
      exact (List.getElem?_eq_some_iff.1 h2).1
    have he : m[k] = b[k] := by
      rw [List.getElem?_eq_getElem h1, List.getElem?_eq_getElem hm] at h2
      exact Option.some.inj h2
    have hs : Ec.eff (b.take (k + 1)) 1 = Ec.eff (b.take k) 1 + Ec.gain b[k] 1 := by
      rw [List.take_succ_eq_append_getElem h1, Ec.eff_append]; simp [Ec.eff]
    rw [List.drop_eq_getElem_cons h1, List.drop_eq_getElem_cons hm]
    simp only [Au.scan]
    rw [if_pos ⟨he, by omega⟩, ← hs]
theorem scan_stop (b m : List MoveD) {k : Nat} (hk : k < b.length) (h : ∀ j, j < k → j < b.length ∧ m[j]? = b[j]? ∧ 0 ≤ Ec.eff (b.take (j + 1)) 1) (hs : m[k]? = b[k]? → Ec.eff (b.take (k + 1)) 1 < 0) : Au.scan 0 0 b m = (k, false) := by
  rw [scan_go b m k h, List.drop_eq_getElem_cons hk]
  have hs' : Ec.eff (b.take (k + 1)) 1 = Ec.eff (b.take k) 1 + Ec.gain b[k] 1 := by
    rw [List.take_succ_eq_append_getElem hk, Ec.eff_append]; simp [Ec.eff]
  by_cases hm : k < m.length
  · rw [List.drop_eq_getElem_cons hm]
    simp only [Au.scan]
    rw [if_neg]
    rintro ⟨e, h0⟩
    have := hs (by rw [List.getElem?_eq_getElem hk, List.getElem?_eq_getElem hm, e])
    omega
  · rw [show m.drop k = [] from List.drop_eq_nil_of_le (by omega)]; rfl
theorem scan_end (b m : List MoveD) (h : ∀ j, j < b.length → j < b.length ∧ m[j]? = b[j]? ∧ 0 ≤ Ec.eff (b.take (j + 1)) 1) : Au.scan 0 0 b m = if b.length < m.length then (b.length, false) else (0, true) := by
  rw [scan_go b m b.length h, List.drop_length]
  by_cases hm : b.length < m.length
  · rw [List.drop_eq_getElem_cons hm, if_pos hm]; rfl
  · rw [show m.drop b.length = [] from List.drop_eq_nil_of_le (by omega), if_neg hm]; rfl
theorem auAsked (px : Addr) (w : World) : Calls Tryz.prog 67 #[.pointer (some px)] w fun e w' => ∃ pb, e = .returned (.func (.func 116) #[] #[.pointer (some pb)]) ∧ Ext w w' ∧ At w' pb [.pointer (some px)] ∧ w.heap.size ≤ pb.block := by
  refine Calls_of_Run (args := [.pointer (some px)]) (n := 4) (rs := [.tmp 2]) Tryz.func67 rfl rfl rfl (by simp) ?_
  (repeat with_reducible first | refine js ?_ | refine ja ?_ | refine jw KL67 [] TF67 fun _ => ?_)
  refine SemW_box fun pb w1 h1 => ?_
  have b1 := h1.blk
  have r1 : Row w1 pb 110 [.pointer (some px)] := by simpa [Value.cells] using h1.row
  (repeat with_reducible first | refine js ?_ | refine ja ?_ | refine jw KL67 [] TF67 fun _ => ?_)
  refine Run_ret ?_
  simp only [Rets, RetM, resV, fnd, oneOr, ↓reduceIte]
  exact ⟨_, rfl, pb, rfl, h1.ext, r1.at_, by omega⟩
set_option maxHeartbeats 2000000 in
theorem auCheckM (vl u0 u1 u2 vo v0 v1 v2 vh vm : Value) (t : TimeD) (f : TariffD) (l : List OrderD) (p : PlanD) (hd : List Int) (m : List MoveD) (w : World) (hl : Sl w vl t.Lines) (hT : TarR w f u0 u1 u2) (ho : Sl w vo l) (hP : PlanR w p v0 v1 v2) (hh : Sl w vh hd) (hm : Sl w vm m) (hR : p.Runs.length ≤ 70) :
    Calls Tryz.prog 29 #[.agg (t.cs vl).toArray, .agg (f.cs u0 u1 u2).toArray, vo, .agg (p.cs v0 v1 v2).toArray, vh, vm] w fun e w' => e = .returned (.tuple #[.int .i64 (Au.check t f l p hd m).1, .bool (Au.check t f l p hd m).2.1, .int .i64 (Au.check t f l p hd m).2.2]) ∧ Ext w w' := by
  let q : PerV := ⟨vl, u0, u1, u2, vo, v0, v1, v2, vh⟩
  have hp : PerR w q t f l p hd := ⟨hl, hT, ho, hP, hh⟩
  have hvm := hm.s
  refine Calls_of_Run (args := [.agg (t.cs vl).toArray, .agg (f.cs u0 u1 u2).toArray, vo, .agg (p.cs v0 v1 v2).toArray, vh, vm]) (n := 63) (rs := [.cell 12 3, .cell 13 4, .cell 14 36]) Tryz.func29 rfl rfl rfl (by simp) ?_
  (repeat with_reducible first | refine js ?_ | refine ja ?_ | refine jw KL29 [9] TF29 fun _ => ?_)
  refine SemW_box fun pt w1 h1 => SemW_box fun pf w2 h2 => SemW_box fun pp w3 h3 => SemW_box fun pm w4 h4 => SemW_allocT ti3 fun pa w5 h5 => SemW_allocT ti4 fun pk w6 h6 => SemW_allocT ti36 fun pe w7 h7 => ?_
  have b4 := h4.blk
  have b5 := h5.blk
  have b6 := h6.blk
  have b7 := h7.blk
  have s1 := h1.size
  have s2 := h2.size
  have s3 := h3.size
  have s4 := h4.size
  have s5 := h5.size
  have s6 := h6.size
  have x7 := h1.ext.trans (h2.ext.trans (h3.ext.trans (h4.ext.trans (h5.ext.trans (h6.ext.trans h7.ext)))))
  have t7 : AtN w7 pt 0 (t.cs vl) := (h1.at_.ext (h2.ext.trans (h3.ext.trans (h4.ext.trans (h5.ext.trans (h6.ext.trans h7.ext)))))).n
  have f7 : AtN w7 pf 0 (f.cs u0 u1 u2) := (h2.at_.ext (h3.ext.trans (h4.ext.trans (h5.ext.trans (h6.ext.trans h7.ext))))).n
  have p7 : AtN w7 pp 0 (p.cs v0 v1 v2) := (h3.at_.ext (h4.ext.trans (h5.ext.trans (h6.ext.trans h7.ext)))).n
  simp only [TimeD.cs, TariffD.cs, PlanD.cs, AtN, KS, Nat.reduceAdd, Nat.reduceMul, Nat.reduceEqDiff, ↓reduceIte, UT] at t7 f7 p7
  have rm7 : Row w7 pm 35 [vm] := by simpa [isS_cells hvm] using h4.row.ext (h5.ext.trans (h6.ext.trans h7.ext))
  have ra7 : Row w7 pa 3 [.int .i64 0] := by simpa [Value.cells] using h5.row.ext (h6.ext.trans h7.ext)
  have rk7 : Row w7 pk 4 [.bool false] := by simpa [Value.cells] using h6.row.ext h7.ext
  have re7 : Row w7 pe 36 [.int .i64 0] := by simpa [Value.cells] using h7.row
  (repeat with_reducible first | refine js ?_ | refine ja ?_ | refine jw KL29 [9] (aa TF29 (aa t7 (aa f7 p7))) fun _ => ?_)
  have il := isS_cells hl.s
  have i0 := isS_cells hT.b.s
  have i1 := isS_cells hT.l.s
  have i2 := isS_cells hT.t.s
  have io := isS_cells ho.s
  have j0 := isS_cells hP.r.s
  have j1 := isS_cells hP.o.s
  have j2 := isS_cells hP.c.s
  have ih := isS_cells hh.s
  have hbuild : ∀ (vo vh : Value), IsS vo → IsS vh → ∀ w' : World, Sem.run Tryz.prog (Instr.build 112 #[(0, .agg #[.int .i64 t.Offices, vl]), (1, .agg #[u0, u1, u2]), (2, vo), (3, .agg #[v0, v1, v2]), (4, vh)]) w' = Result.ok (.agg #[.int .i64 t.Offices, vl, u0, u1, u2, vo, v0, v1, v2, vh, .int .i64 0]) w' := fun vo vh h1 h2 w' => by
    rcases h1.ex with rfl | ⟨a1, n1, c1, rfl⟩ <;> rcases h2.ex with rfl | ⟨a2, n2, c2, rfl⟩ <;> kernel_rfl
  refine ⟨_, hbuild vo vh ho.s hh.s, ?_⟩
  refine SemW_box fun px w8 h8 => ?_
  have b8 := h8.blk
  have rx8 : Row w8 px 112 (q.cs t 0) := h8.row
  refine SemW_allocT ti110 fun pq w9 h9 => ?_
  have b9 := h9.blk
  have s7 := h7.size
  have s8 := h8.size
  refine set0W (by rw [cells110]) h9.row (by simp [Value.cells]) rfl rfl fun w10 r10 k10 z10 => ?_
  have r10 : Row w10 pq 110 [.pointer (some px)] := by simpa [Value.cells] using r10
  have x10 : Ext w7 w10 := Keep.ext (h8.ext.trans h9.ext) k10 fun b hb => by omega
  have y10 := x7.trans x10
  have rx10 := (rx8.ext h9.ext).keep k10 (by show px.block ≠ pq.block; omega)
  have s9 := h9.size
  have sw := x7.size
  have hbx : w.heap.size ≤ px.block := by omega
  have g10 := r10.n
  simp only [AtN, KS, Nat.reduceAdd, Nat.reduceMul, Nat.reduceEqDiff, ↓reduceIte, UT] at g10
  have hchk : Au.check t f l p hd m = if Au.err t f l p hd ≠ 0 then (0, false, Au.err t f l p hd) else (((Au.scan 0 0 (Au.book t f l p hd) m).1 : Int), (Au.scan 0 0 (Au.book t f l p hd) m).2, 0) := rfl
  (repeat with_reducible first | refine js ?_ | refine ja ?_ | refine jw KL29 [9] (aa TF29 g10) fun _ => ?_)
  refine CallW_pure call66 (auCheck px 0 w10 rx10 hp y10 hbx) fun w11 x11 => ?_
  have ra11 := ra7.ext (x10.trans x11)
  have rk11 := rk7.ext (x10.trans x11)
  have re11 := re7.ext (x10.trans x11)
  have rm11 := rm7.ext (x10.trans x11)
  have rx11 := rx10.ext x11
  have rq11 := r10.ext x11
  have y11 := y10.trans x11
  (repeat with_reducible first | refine js ?_ | refine ja ?_ | refine jw KL29 [9] TF29 fun _ => ?_)
  refine Run_condS (fun _ => rfl) (fun h => ?_) (fun h => ?_)
  · simp at h
    rw [if_pos h] at hchk
    rw [hchk]
    (repeat with_reducible first | refine js ?_ | refine ja ?_ | refine jw KL29 [9] TF29 fun _ => ?_)
    refine set0W (by rw [cells3]) ra11 (by simp) rfl rfl fun w12 r12 k12 z12 => ?_
    (repeat with_reducible first | refine js ?_ | refine ja ?_ | refine jw KL29 [9] TF29 fun _ => ?_)
    refine set0W (by rw [cells4]) (rk11.keep k12 (by show pk.block ≠ pa.block; omega)) (by simp) rfl rfl fun w13 r13 k13 z13 => ?_
    (repeat with_reducible first | refine js ?_ | refine ja ?_ | refine jw KL29 [9] TF29 fun _ => ?_)
    refine set0W (by rw [cells36]) ((re11.keep k12 (by show pe.block ≠ pa.block; omega)).keep k13 (by show pe.block ≠ pk.block; omega)) (by simp) rfl rfl fun w14 r14 k14 z14 => ?_
    have a14 : Row w14 pa 3 [.int .i64 0] := (r12.keep k13 (by show pa.block ≠ pk.block; omega)).keep k14 (by show pa.block ≠ pe.block; omega)
    have c14 : Row w14 pk 4 [.bool false] := r13.keep k14 (by show pk.block ≠ pe.block; omega)
    have e14 : Row w14 pe 36 [.int .i64 (Au.err t f l p hd)] := r14
    (repeat with_reducible first | refine js ?_ | refine ja ?_ | refine jw KL29 [9] TF29 fun _ => ?_)
    refine Run_ret ?_
    simp only [Rets, RetM, resV, fnd, oneOr, ↓reduceIte]
    refine ⟨pa, _, rfl, loadVar_row (by kernel_rfl) a14, pk, _, rfl, loadVar_row (by kernel_rfl) c14, pe, _, rfl, loadVar_row (by kernel_rfl) e14, ?_⟩
    exact ⟨rfl, Keep.ext (Keep.ext (Keep.ext y11 k12 fun b hb => by omega) k13 fun b hb => by omega) k14 fun b hb => by omega⟩
  simp at h
  have hok := Au.err_ok h
  rw [if_neg (by simp [h]), ← Au.scan_asked] at hchk
  clear h
  (repeat with_reducible first | refine js ?_ | refine ja ?_ | refine jw KL29 [9] TF29 fun _ => ?_)
  refine SemW_allocT ti3 fun pn w12 h12 => ?_
  have b12 := h12.blk
  have s11 := x11.size
  refine set0W (by rw [cells3]) h12.row (by simp [Value.cells]) rfl rfl fun w13 r13 k13 z13 => ?_
  have r13 : Row w13 pn 3 [.int .i64 0] := by simpa [Value.cells] using r13
  have s12 := h12.size
  have x13 : Ext w11 w13 := Keep.ext h12.ext k13 fun b hb => by omega
  have y13 := y11.trans x13
  have ra13 := ra11.ext x13
  have rk13 := rk11.ext x13
  have re13 := re11.ext x13
  have rm13 := rm11.ext x13
  have rx13 := rx11.ext x13
  have rq13 := rq11.ext x13
  have g13 := rq13.n
  simp only [AtN, KS, Nat.reduceAdd, Nat.reduceMul, Nat.reduceEqDiff, ↓reduceIte, UT] at g13
  (repeat with_reducible first | refine js ?_ | refine ja ?_ | refine jw KL29 [9] (aa TF29 g13) fun _ => ?_)
  refine CallW_gen call67 (auAsked px w13) fun e w14 ⟨pb, he, x14, ab, hpb⟩ => ⟨_, he, ?_⟩
  have y14 := y13.trans x14
  have hms := asked_w hok hR
  have hml := Au.asked_len hok hR
  have hn64 := hok.e.o.n
  have s14 := x14.size
  have ra14 := ra13.ext x14
  have rk14 := rk13.ext x14
  have re14 := re13.ext x14
  have rm14 := rm13.ext x14
  have rx14 := rx13.ext x14
  have rn14 := r13.ext x14
  have hbl := ab.blk
  have hmn := hm.len
  generalize hMS : Au.asked t f l p hd = ms at *
  have hbn : (Au.num 0 ms).length = ms.length := Au.num_len _ _
  have hbg : ∀ j (h : j < ms.length), (Au.num 0 ms)[j]? = some (⟨(j : Int), ms[j].From, ms[j].To, ms[j].Amount, ms[j].Why, ms[j].Run⟩ : MoveD) := fun j h => by
    rw [Au.num_get, List.getElem?_eq_getElem h]; simp
  have hbe : ∀ k, Ec.eff ((Au.num 0 ms).take k) 1 = Ec.eff (ms.take k) 1 := fun k => by rw [Au.num_take, Au.num_eff]
  (repeat with_reducible first | refine js ?_ | refine ja ?_ | refine jw KL29 [9] TF29 fun _ => ?_)
  generalize hNN : w14.heap.size = N at *
  have hsc := fun k => scan_stop (Au.num 0 ms) m (k := k)
  have hse := scan_end (Au.num 0 ms) m
  rw [hbn] at hsc hse
  simp only [hbe] at hsc hse
  refine Run_iterY [34, 35] (fun _ => rfl) call116 (by simp) (Au.items ms) (fun x hx => by simp [Au.items, Au.item] at hx; obtain ⟨_, _, _, rfl⟩ := hx; rfl) (fun b => b = px.block ∨ N + 2 ≤ b) (fun b => b ≠ pn.block ∧ b ≠ pa.block ∧ b ≠ pk.block ∧ b ≠ pe.block ∧ b ≠ N ∧ b ≠ N + 1) (fun b hb => by omega) (fun b hb => by omega)
    (fun j w' => j ≤ ms.length ∧ (∀ i, i < j → i < ms.length ∧ m[i]? = (Au.num 0 ms)[i]? ∧ 0 ≤ Ec.eff (ms.take (i + 1)) 1) ∧ Row w' pn 3 [.int .i64 j] ∧ Row w' pa 3 [.int .i64 0] ∧ Row w' pk 4 [.bool false] ∧ Row w' pe 36 [.int .i64 0] ∧ Row w' pm 35 [vm] ∧ Row w' pq 110 [.pointer (some px)] ∧ Ext w w')
    (fun k w' => Row w' px 112 (q.cs t (Ec.eff (ms.take (k + 1)) 1)) ∧ Ext w w')
    (fun e w' => e = none ∧ ∃ k : Nat, Au.scan 0 0 (Au.num 0 ms) m = (k, false) ∧ Row w' pa 3 [.int .i64 k] ∧ Row w' pk 4 [.bool false] ∧ Row w' pe 36 [.int .i64 0] ∧ Ext w w')
    (fun yv J Jx w1 hcs hyc hx1 hz hj0 => by
      have := auIter (W := w) (px := px) (p1 := pb) (q := q) (t := t) (f := f) (l := l) (p := p) (hd := hd) hp hbx hok hR (yv := yv) (J := J) (Jx := Jx) (priv := fun b => b = px.block ∨ N + 2 ≤ b) (kp := fun b => b ≠ pn.block ∧ b ≠ pa.block ∧ b ≠ pk.block ∧ b ≠ pe.block ∧ b ≠ N ∧ b ≠ N + 1) (by rw [hMS]; exact hcs) w1 (rx14.ext hx1) (ab.ext hx1) (y14.trans hx1) (fun b hb => Or.inr (by omega)) (Or.inl rfl) (fun b hb => by omega) (fun b hb => by omega) (by omega) (by omega) hj0 hyc
      rw [hMS] at this
      rw [Au.items_len]
      simpa using this)
    (fun w1 hx1 _ => ⟨by omega, fun i hi => by omega, rn14.ext hx1, ra14.ext hx1, rk14.ext hx1, re14.ext hx1, rm14.ext hx1, (rq13.ext x14).ext hx1, y14.trans hx1⟩)
    (fun j u1 u2 ⟨a1, a2, a3, a4, a5, a6, a7, a8, a9⟩ hk => ⟨a1, a2, a3.keep hk (by omega), a4.keep hk (by omega), a5.keep hk (by omega), a6.keep hk (by omega), a7.keep hk (by omega), a8.keep hk (by omega), Keep.ext a9 hk fun b hb => by omega⟩)
    (fun e u1 u2 ⟨a1, k, a2, a3, a4, a5, a6⟩ hk => ⟨a1, k, a2, a3.keep hk (by omega), a4.keep hk (by omega), a5.keep hk (by omega), Keep.ext a6 hk fun b hb => by omega⟩) ?_ ?_ ?_
  · intro j hj w15 ⟨a1, a2, a3, a4, a5, a6, a7, a8, a9⟩ ⟨hY, _⟩ hz
    have hjl : j < ms.length := by rw [Au.items_len] at hj; exact hj
    rw [Au.items_get ms hj]
    simp only [Au.item, zipL]
    (repeat with_reducible first | refine js ?_ | refine ja ?_ | refine jw KL29 [9] TF29 fun _ => ?_)
    refine SemW_allocT ti70 fun pz w16 h16 => ?_
    have b16 := h16.blk
    have s16 := h16.size
    refine SemW_setW (by rw [cells70]; decide) (by rw [cells70]; rfl) h16.row (by rw [cells70]; rfl) rfl fun w17 r17 k17 z17 => ?_
    have hbj := hbg j hjl
    have r17 : Row w17 pz 70 (⟨(j : Int), ms[j].From, ms[j].To, ms[j].Amount, ms[j].Why, ms[j].Run⟩ : MoveD).cs := r17
    have x17 : Ext w15 w17 := Keep.ext h16.ext k17 fun b hb => by omega
    generalize hyy : (⟨(j : Int), ms[j].From, ms[j].To, ms[j].Amount, ms[j].Why, ms[j].Run⟩ : MoveD) = y at *
    refine Run_lp ⟨Keep.of_ext x17, fun w18 k18 z18 => ?_⟩
    have c3 := (a3.ext x17).keep k18 (by omega)
    have c4 := (a4.ext x17).keep k18 (by omega)
    have c5 := (a5.ext x17).keep k18 (by omega)
    have c6 := (a6.ext x17).keep k18 (by omega)
    have c7 := (a7.ext x17).keep k18 (by omega)
    have c8 := (a8.ext x17).keep k18 (by omega)
    have cY := (hY.ext x17).keep k18 (by omega)
    have cz := r17.keep k18 (by omega)
    have c9 : Ext w w18 := Keep.ext (a9.trans x17) k18 fun b hb => by omega
    have s18 := x17.size
    have m7 := c7.n
    have m8 := c8.n
    have mY := cY.n
    have mz := cz.n
    simp only [MoveD.cs, PerV.cs, AtN, KS, Nat.reduceAdd, Nat.reduceMul, Nat.reduceEqDiff, ↓reduceIte, UT] at m7 m8 mY mz
    have hms2 := (hm.ext c9)
    -- the end of the round
    have hstop : (m[j]? = (Au.num 0 ms)[j]? → Ec.eff (ms.take (j + 1)) 1 < 0) → Au.scan 0 0 (Au.num 0 ms) m = (j, false) := fun h => hsc j hjl a2 h
    have hgo : m[j]? = (Au.num 0 ms)[j]? → 0 ≤ Ec.eff (ms.take (j + 1)) 1 → ∀ i, i < j + 1 → i < ms.length ∧ m[i]? = (Au.num 0 ms)[i]? ∧ 0 ≤ Ec.eff (ms.take (i + 1)) 1 := fun h1 h2 i hi => by
      by_cases e : i = j
      · subst e; exact ⟨hjl, h1, h2⟩
      · exact a2 i (by omega)
    rw [hbj] at hstop hgo
    by_cases hjm : j < m.length
    · obtain ⟨n1, n2⟩ := hms2.moveD hjm
      have hmj : m[j]? = some m[j] := List.getElem?_eq_getElem hjm
      rw [hmj] at hstop hgo
      simp only [MoveD.cs, AtN, KS, Nat.reduceAdd, Nat.reduceMul, Nat.reduceEqDiff, ↓reduceIte, UT] at n1
      generalize m[j] = z at *
      generalize Ec.eff (ms.take (j + 1)) 1 = fu at *
      have d0 : decide ((m.length : Int) ≤ j) = false := by simp; omega
      (repeat with_reducible first | refine js ?_ | refine ja ?_ | refine jw KL29 [9] (aa TF29 (aa m7 (aa hm.s (aa hmn (aa d0 (aa n1 (aa mz (aa m8 (aa mY KX))))))))) fun _ => ?_)
      refine ⟨by kernel_rfl, fun w19 x19 => ?_⟩
      rw [eqM2]
      refine Run_condS (fun _ => rfl) (fun h => ?_) (fun h => ?_)
      · have hst := hstop fun e => by
          have e' := Option.some.inj e
          subst e'
          simpa using h
        (repeat with_reducible first | refine js ?_ | refine ja ?_ | refine jw KL29 [9] TF29 fun _ => ?_)
        refine set0W (by rw [cells3]) (c4.ext x19) (by simp) rfl rfl fun w20 r20 k20 z20 => ?_
        (repeat with_reducible first | refine js ?_ | refine ja ?_ | refine jw KL29 [9] TF29 fun _ => ?_)
        refine set0W (by rw [cells4]) ((c5.ext x19).keep k20 (by show pk.block ≠ pa.block; omega)) (by simp) rfl rfl fun w21 r21 k21 z21 => ?_
        (repeat with_reducible first | refine js ?_ | refine ja ?_ | refine jw KL29 [9] TF29 fun _ => ?_)
        refine set0W (by rw [cells36]) (((c6.ext x19).keep k20 (by show pe.block ≠ pa.block; omega)).keep k21 (by show pe.block ≠ pk.block; omega)) (by simp) rfl rfl fun w22 r22 k22 z22 => ?_
        have e22 : Row w22 pa 3 [.int .i64 j] := (r20.keep k21 (by show pa.block ≠ pk.block; omega)).keep k22 (by show pa.block ≠ pe.block; omega)
        have f22 : Row w22 pk 4 [.bool false] := r21.keep k22 (by show pk.block ≠ pe.block; omega)
        have g22 : Row w22 pe 36 [.int .i64 0] := r22
        (repeat with_reducible first | refine js ?_ | refine ja ?_ | refine jw KL29 [9] TF29 fun _ => ?_)
        refine Run_ret ⟨(Keep.of_ext x19).trans ((k20.mono fun b _ hb => by omega).trans ((k21.mono fun b _ hb => by omega).trans (k22.mono fun b _ hb => by omega))), rfl, j, hst, e22, f22, g22, Keep.ext (Keep.ext (Keep.ext (c9.trans x19) k20 fun b hb => by omega) k21 fun b hb => by omega) k22 fun b hb => by omega⟩
      · simp at h
        obtain ⟨hzy, hfu⟩ := h
        have hg2 := hgo (by rw [hzy]) (by omega)
        have d3 := (c3.ext x19).n
        simp only [AtN, KS, Nat.reduceAdd, Nat.reduceMul, Nat.reduceEqDiff, ↓reduceIte, UT] at d3
        (repeat with_reducible first | refine js ?_ | refine ja ?_ | refine jw KL29 [9] (aa TF29 d3) fun _ => ?_)
        refine set0W (by rw [cells3]) (c3.ext x19) (by simp) rfl rfl fun w20 r20 k20 z20 => ?_
        (repeat with_reducible first | refine js ?_ | refine ja ?_ | refine jw KL29 [9] TF29 fun _ => ?_)
        refine Run_nil ⟨(Keep.of_ext x19).trans (k20.mono fun b _ hb => by omega), by omega, hg2, ?_, (c4.ext x19).keep k20 (by show pa.block ≠ pn.block; omega), (c5.ext x19).keep k20 (by show pk.block ≠ pn.block; omega), (c6.ext x19).keep k20 (by show pe.block ≠ pn.block; omega), (c7.ext x19).keep k20 (by show pm.block ≠ pn.block; omega), (c8.ext x19).keep k20 (by show pq.block ≠ pn.block; omega), Keep.ext (c9.trans x19) k20 fun b hb => by omega⟩
        rw [show ((j + 1 : Nat) : Int) = (j : Int) + 1 by omega]
        exact r20
    · have d0 : decide ((m.length : Int) ≤ j) = true := by simp; omega
      (repeat with_reducible first | refine js ?_ | refine ja ?_ | refine jw KL29 [9] (aa TF29 (aa m7 (aa hm.s (aa hmn (aa d0 KX))))) fun _ => ?_)
      refine ⟨by kernel_rfl, fun w19 x19 => ?_⟩
      refine Run_condS (fun _ => rfl) (fun _ => ?_) (fun h => by cases h)
      · have hst := hstop fun e => by rw [List.getElem?_eq_none (by omega)] at e; cases e
        (repeat with_reducible first | refine js ?_ | refine ja ?_ | refine jw KL29 [9] TF29 fun _ => ?_)
        refine set0W (by rw [cells3]) (c4.ext x19) (by simp) rfl rfl fun w20 r20 k20 z20 => ?_
        (repeat with_reducible first | refine js ?_ | refine ja ?_ | refine jw KL29 [9] TF29 fun _ => ?_)
        refine set0W (by rw [cells4]) ((c5.ext x19).keep k20 (by show pk.block ≠ pa.block; omega)) (by simp) rfl rfl fun w21 r21 k21 z21 => ?_
        (repeat with_reducible first | refine js ?_ | refine ja ?_ | refine jw KL29 [9] TF29 fun _ => ?_)
        refine set0W (by rw [cells36]) (((c6.ext x19).keep k20 (by show pe.block ≠ pa.block; omega)).keep k21 (by show pe.block ≠ pk.block; omega)) (by simp) rfl rfl fun w22 r22 k22 z22 => ?_
        have e22 : Row w22 pa 3 [.int .i64 j] := (r20.keep k21 (by show pa.block ≠ pk.block; omega)).keep k22 (by show pa.block ≠ pe.block; omega)
        have f22 : Row w22 pk 4 [.bool false] := r21.keep k22 (by show pk.block ≠ pe.block; omega)
        have g22 : Row w22 pe 36 [.int .i64 0] := r22
        (repeat with_reducible first | refine js ?_ | refine ja ?_ | refine jw KL29 [9] TF29 fun _ => ?_)
        refine Run_ret ⟨(Keep.of_ext x19).trans ((k20.mono fun b _ hb => by omega).trans ((k21.mono fun b _ hb => by omega).trans (k22.mono fun b _ hb => by omega))), rfl, j, hst, e22, f22, g22, Keep.ext (Keep.ext (Keep.ext (c9.trans x19) k20 fun b hb => by omega) k21 fun b hb => by omega) k22 fun b hb => by omega⟩
  · intro w15 ⟨a1, a2, a3, a4, a5, a6, a7, a8, a9⟩ hdf
    rw [Au.items_len] at a1 a2 a3
    have hsc2 := hse fun i hi => a2 i hi
    rw [hsc2] at hchk
    have z15 := a9.size
    rw [hNN] at hdf
    have hNlt : N < w15.heap.size := (Array.getElem?_eq_some_iff.1 hdf).1
    have g3 := a3.n
    have g7 := a7.n
    simp only [AtN, KS, Nat.reduceAdd, Nat.reduceMul, Nat.reduceEqDiff, ↓reduceIte, UT] at g3 g7
    (repeat with_reducible first | refine js ?_ | refine ja ?_ | refine jw KL29 [9] (aa TF29 (aa g3 (aa g7 (aa hm.s hmn)))) fun _ => ?_)
    refine Run_condS (fun _ => rfl) (fun h => ?_) (fun h => ?_)
    · simp at h
      rw [if_pos h] at hchk
      rw [hchk]
      (repeat with_reducible first | refine js ?_ | refine ja ?_ | refine jw KL29 [9] (aa TF29 g3) fun _ => ?_)
      refine set0W (by rw [cells3]) a4 (by simp) rfl rfl fun w20 r20 k20 z20 => ?_
      (repeat with_reducible first | refine js ?_ | refine ja ?_ | refine jw KL29 [9] TF29 fun _ => ?_)
      refine set0W (by rw [cells4]) (a5.keep k20 (by show pk.block ≠ pa.block; omega)) (by simp) rfl rfl fun w21 r21 k21 z21 => ?_
      (repeat with_reducible first | refine js ?_ | refine ja ?_ | refine jw KL29 [9] TF29 fun _ => ?_)
      refine set0W (by rw [cells36]) ((a6.keep k20 (by show pe.block ≠ pa.block; omega)).keep k21 (by show pe.block ≠ pk.block; omega)) (by simp) rfl rfl fun w22 r22 k22 z22 => ?_
      have e22 : Row w22 pa 3 [.int .i64 ms.length] := (r20.keep k21 (by show pa.block ≠ pk.block; omega)).keep k22 (by show pa.block ≠ pe.block; omega)
      have f22 : Row w22 pk 4 [.bool false] := r21.keep k22 (by show pk.block ≠ pe.block; omega)
      have g22 : Row w22 pe 36 [.int .i64 0] := r22
      have d22 : w22.heap[N]? = some (.deferred (some [])) := (k22.block _ (by omega) (by omega)).trans ((k21.block _ (by omega) (by omega)).trans ((k20.block _ (by omega) (by omega)).trans hdf))
      (repeat with_reducible first | refine js ?_ | refine ja ?_ | refine jw KL29 [9] TF29 fun _ => ?_)
      refine Run_ret (RetM_one (d := w14.heap.size) (by rw [hNN]; exact d22) fun w23 k23 _ => ?_)
      simp only [resV, fnd, ↓reduceIte]
      refine ⟨pa, _, rfl, loadVar_row (by kernel_rfl) (e22.keep k23 (by omega)), pk, _, rfl, loadVar_row (by kernel_rfl) (f22.keep k23 (by omega)), pe, _, rfl, loadVar_row (by kernel_rfl) (g22.keep k23 (by omega)), ?_⟩
      exact ⟨rfl, Keep.ext (Keep.ext (Keep.ext (Keep.ext a9 k20 fun b hb => by omega) k21 fun b hb => by omega) k22 fun b hb => by omega) k23 fun b hb => by omega⟩
    · simp at h
      rw [if_neg (by omega)] at hchk
      rw [hchk]
      (repeat with_reducible first | refine js ?_ | refine ja ?_ | refine jw KL29 [9] TF29 fun _ => ?_)
      refine set0W (by rw [cells3]) a4 (by simp) rfl rfl fun w20 r20 k20 z20 => ?_
      (repeat with_reducible first | refine js ?_ | refine ja ?_ | refine jw KL29 [9] TF29 fun _ => ?_)
      refine set0W (by rw [cells4]) (a5.keep k20 (by show pk.block ≠ pa.block; omega)) (by simp) rfl rfl fun w21 r21 k21 z21 => ?_
      (repeat with_reducible first | refine js ?_ | refine ja ?_ | refine jw KL29 [9] TF29 fun _ => ?_)
      refine set0W (by rw [cells36]) ((a6.keep k20 (by show pe.block ≠ pa.block; omega)).keep k21 (by show pe.block ≠ pk.block; omega)) (by simp) rfl rfl fun w22 r22 k22 z22 => ?_
      have e22 : Row w22 pa 3 [.int .i64 0] := (r20.keep k21 (by show pa.block ≠ pk.block; omega)).keep k22 (by show pa.block ≠ pe.block; omega)
      have f22 : Row w22 pk 4 [.bool true] := r21.keep k22 (by show pk.block ≠ pe.block; omega)
      have g22 : Row w22 pe 36 [.int .i64 0] := r22
      have d22 : w22.heap[N]? = some (.deferred (some [])) := (k22.block _ (by omega) (by omega)).trans ((k21.block _ (by omega) (by omega)).trans ((k20.block _ (by omega) (by omega)).trans hdf))
      (repeat with_reducible first | refine js ?_ | refine ja ?_ | refine jw KL29 [9] TF29 fun _ => ?_)
      refine Run_ret (RetM_one (d := w14.heap.size) (by rw [hNN]; exact d22) fun w23 k23 _ => ?_)
      simp only [resV, fnd, ↓reduceIte]
      refine ⟨pa, _, rfl, loadVar_row (by kernel_rfl) (e22.keep k23 (by omega)), pk, _, rfl, loadVar_row (by kernel_rfl) (f22.keep k23 (by omega)), pe, _, rfl, loadVar_row (by kernel_rfl) (g22.keep k23 (by omega)), ?_⟩
      exact ⟨rfl, Keep.ext (Keep.ext (Keep.ext (Keep.ext a9 k20 fun b hb => by omega) k21 fun b hb => by omega) k22 fun b hb => by omega) k23 fun b hb => by omega⟩
  · intro e w15 ⟨he, k, a2, a4, a5, a6, a9⟩ hdf
    subst he
    rw [a2] at hchk
    rw [hchk]
    rw [hNN] at hdf
    have hNlt : N < w15.heap.size := (Array.getElem?_eq_some_iff.1 hdf).1
    show Run _ _ _ _ (.code .ret :: _) _ _ _
    refine Run_ret (RetM_one (d := w14.heap.size) (by rw [hNN]; exact hdf) fun w23 k23 _ => ?_)
    simp only [resV, fnd, ↓reduceIte]
    refine ⟨pa, _, rfl, loadVar_row (by kernel_rfl) (a4.keep k23 (by omega)), pk, _, rfl, loadVar_row (by kernel_rfl) (a5.keep k23 (by omega)), pe, _, rfl, loadVar_row (by kernel_rfl) (a6.keep k23 (by omega)), ?_⟩
    exact ⟨rfl, Keep.ext a9 k23 fun b hb => by omega⟩
end Go.Proofs.YtoadfmgnpmcbfaaGreat
