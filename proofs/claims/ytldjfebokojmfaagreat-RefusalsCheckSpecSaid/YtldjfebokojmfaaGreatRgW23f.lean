import Derived.Test.YtldjfebokojmfaaGreatRgHa
import Derived.Test.YtldjfebokojmfaaGreatRgFv
namespace Go.Fk
open Go
namespace Rf
theorem setsF_cons {n i m : Nat} (h : i < n) : setsF n i (m + 1) = ((setsF n (i + 1) m).map fun s => (i : Int) :: s) ++ setsF n (i + 1) (m + 1) := by
  rw [setsF, setsF]
  obtain ⟨k, hk⟩ : ∃ k, n - i = k + 1 := ⟨n - i - 1, by omega⟩
  have hk2 : n - (i + 1) = k := by omega
  rw [hk, hk2, List.range'_succ, List.flatMap_cons]
theorem setsF_nil {n i m : Nat} (h : n ≤ i) : setsF n i (m + 1) = [] := by
  rw [setsF, Nat.sub_eq_zero_of_le h]; rfl
theorem setsF_mem {n : Nat} : ∀ {m i : Nat} {s : List Int}, s ∈ setsF n i m → s.length = m ∧ (∀ x ∈ s, (i : Int) ≤ x ∧ x < n) ∧ (i ≤ n → i + m ≤ n)
  | 0, i, s, h => by
    rw [setsF, List.mem_singleton] at h
    subst h; simp
  | m + 1, i, s, h => by
    rw [setsF] at h
    obtain ⟨j, hj, hs⟩ := List.mem_flatMap.1 h
    obtain ⟨s', hs', rfl⟩ := List.mem_map.1 hs
    rw [List.mem_range'_1] at hj
    obtain ⟨h1, h2, h3⟩ := setsF_mem hs'
    refine ⟨by simp [h1], fun x hx => ?_, fun _ => by have := h3 (by omega); omega⟩
    rcases List.mem_cons.1 hx with rfl | hx
    · omega
    · have := h2 x hx; omega
def restSets (n many : Nat) : List (List Int) := (List.range' many (n + 1 - many)).flatMap fun m => setsF n 0 m
theorem restSets_zero (n : Nat) : restSets n 0 = allSets n := by
  unfold restSets allSets
  rw [List.range_eq_range']; rfl
theorem restSets_succ {n many : Nat} (h : many ≤ n) : restSets n many = setsF n 0 many ++ restSets n (many + 1) := by
  unfold restSets
  obtain ⟨k, hk⟩ : ∃ k, n + 1 - many = k + 1 := ⟨n - many, by omega⟩
  have hk2 : n + 1 - (many + 1) = k := by omega
  rw [hk, hk2, List.range'_succ, List.flatMap_cons]
theorem restSets_end (n : Nat) : restSets n (n + 1) = [] := by
  unfold restSets
  rw [Nat.sub_self]; rfl
end Rf
end Go.Fk
namespace Go.Proofs.YtldjfebokojmfaaGreat
open Go Go.Fk
set_option linter.unusedSimpArgs false
set_option linter.unusedVariables false
set_option maxRecDepth 100000
theorem appCapI {vx : Value} {x : List Int} {i : Int} {w : World} (hx : Sl w vx x) (hn : x.length ≤ 1000) (hi : I64 i) {t2 : TypeId} {G : World → Prop} (hG : ∀ w', Ext w w' → G w') {K : Value → Value → World → Prop} (hK : ∀ s v w', BufO (α := Int) 3 w.heap.size w' v (x ++ [i]) → Ext w w' → K s v w') :
    SemW Tryz.prog (Instr.buildSlice 25 1 #[(0, .int .i64 i)]) w fun s w1 => G w1 ∧ SemW Tryz.prog (Builtin.append_ #[25, 25] t2 #[slSub 1 vx 0 x.length x.length, s]) w1 (K s) := by
  rcases hx.s.ex with rfl | ⟨p, n, c, rfl⟩
  · have h0 : x = [] := List.eq_nil_of_length_eq_zero (by have := hx.len; simpa using this.symm)
    subst h0
    have e : slSub 1 (.slice none 0 0) 0 ([] : List Int).length ([] : List Int).length = .slice none 0 0 := by simp [slSub]
    rw [e]
    exact SemW_append1W (α := Int) Tryz.underlying25 ti3 rfl (by decide) BufO.nil (Nat.le_refl _) (x := i) ⟨rfl, hi⟩ (by decide) hG fun s v w' b k _ => hK s v w' b (Keep.ext (Ext.refl _) k fun g hg e => by cases e)
  · refine SemW_lit (α := Int) Tryz.underlying25 ti3 rfl (by decide) [_] [i] rfl rfl (Cs.one ⟨rfl, hi⟩) (by show 1 * 1 ≤ 16777216; decide) fun s w1 ss x1 => ⟨hG _ x1, ?_⟩
    have hx1 := hx.ext x1
    have hsub0 := hx1.sub (l := 0) (r := x.length) (m := x.length) (by omega) (by omega) (by omega) hx1.cap
    rw [List.drop_zero, List.take_length] at hsub0
    have hsub1 : ∃ b, slSub 1 (.slice (some p) n c) 0 x.length x.length = .slice (some b) x.length x.length := by simp [slSub]; split <;> exact ⟨_, rfl⟩
    obtain ⟨bf, hbf⟩ := hsub1
    have hbf' : slSub (Enc.n Int) (.slice (some p) n c) 0 x.length x.length = .slice (some bf) x.length x.length := hbf
    rw [hbf'] at hsub0
    rw [hbf]
    exact SemW_appendNew (α := Int) Tryz.underlying25 ti3 rfl (by decide) hsub0 rfl ss (by simp) (by simp only [maxLen, List.length_singleton]; omega) fun v w' b x _ => hK s v w' (b.mono x1.size) (x1.trans x)
structure StW (w : World) (py pn pe : Addr) (yv : Value) (n : Nat) : Prop where
  y : At w py [yv]
  n : At w pn [.int .i64 n]
  e : At w pe [.func (.func 41) #[] #[.pointer (some py), .pointer (some pn), .pointer (some pe)]]
theorem StW.keep {w w' : World} {py pn pe : Addr} {yv : Value} {n : Nat} {kp : Nat → Prop} (h : StW w py pn pe yv n) (k : Keep kp w w') (h1 : kp py.block) (h2 : kp pn.block) (h3 : kp pe.block) : StW w' py pn pe yv n := ⟨h.y.keep k h1, h.n.keep k h2, h.e.keep k h3⟩
set_option maxHeartbeats 4000000 in
theorem stExt {yv : Value} {n : Nat} {items : List (List Int)} {kp : Nat → Prop} {Y : Nat → List Value → World → Prop} {J : Nat → World → Prop} {Jx : World → Prop} {py pn pe : Addr} {N0 : Nat}
    (hc : ConsV Tryz.prog yv 1 items.length (fun _ => False) kp Y J Jx) (hY : ∀ k v w (h : k < items.length), Sl w v items[k] → (items[k] ≠ [] → kp (slAt v).block) → Y k [v] w) (hn : n ≤ 64) (k1 : kp py.block) (k2 : kp pn.block) (k3 : kp pe.block) (hkp : ∀ b, N0 ≤ b → kp b) :
    ∀ (left : Nat) (x : List Int) (at' : Nat) (vx : Value) (w : World) (pre post : List (List Int)), items = pre ++ (Rf.setsF n at' left).map (fun s => x ++ s) ++ post → x.length + left ≤ 100 → at' ≤ 100 → N0 ≤ w.heap.size → StW w py pn pe yv n → Sl w vx x → (x ≠ [] → kp (slAt vx).block) → J pre.length w →
    Calls Tryz.prog 41 #[vx, .int .i64 at', .int .i64 left, .pointer (some py), .pointer (some pn), .pointer (some pe)] w fun e w' => ∃ b, e = .returned (.bool b) ∧ Keep kp w w' ∧ if b = true then J (pre.length + (Rf.setsF n at' left).length) w' else Jx w' := by
  intro left
  induction left with
  | zero =>
    intro x at' vx w pre post hit hxl ha hN Z hx hxk hj
    have sy := Z.y.n
    simp only [AtN, KS, Nat.reduceAdd, Nat.reduceMul, Nat.reduceEqDiff, ↓reduceIte, UT] at sy
    have xs := hx.s
    refine Calls_of_Run (args := [vx, .int .i64 at', .int .i64 ((0 : Nat) : Int), .pointer (some py), .pointer (some pn), .pointer (some pe)]) (n := 38) (rs := [.tmp 9]) Tryz.func41 rfl rfl rfl (by simp) ?_
    (repeat with_reducible first | refine jy ?_ | refine jw KL41 [] (aa TF41 sy) fun _ => ?_)
    refine Run_condS (fun _ => rfl) (fun h => ?_) (fun h => ?_)
    · clear h
      (repeat with_reducible first | refine jy ?_ | refine jw KL41 [] (aa TF41 sy) fun _ => ?_)
      have hi0 : pre.length < items.length := by rw [hit]; simp [Rf.setsF]
      have hix : items[pre.length] = x := by
        have : items[pre.length]? = some x := by rw [hit]; simp [Rf.setsF]
        rw [List.getElem?_eq_getElem hi0] at this
        exact Option.some.inj this
      refine (hc.yield pre.length w [vx] hi0 rfl hj (hY _ _ _ hi0 (by rw [hix]; exact hx) (by rw [hix]; exact hxk))).mono fun v w' ⟨b, hv, kk, hJ⟩ => ?_
      subst hv
      (repeat with_reducible first | refine jy ?_ | refine jw KL41 [] TF41 fun _ => ?_)
      refine Run_ret ?_
      simp only [Rets, RetM, resV, fnd, oneOr, ↓reduceIte, KS, Nat.reduceAdd, Nat.reduceMul, Nat.reduceEqDiff, ↓reduceIte, UT]
      exact ⟨_, rfl, b, rfl, kk, hJ⟩
    · simp at h
  | succ left ih =>
    intro x at' vx w pre post hit hxl ha hN Z hx hxk hj
    refine Calls_of_Run (args := [vx, .int .i64 at', .int .i64 ((left + 1 : Nat) : Int), .pointer (some py), .pointer (some pn), .pointer (some pe)]) (n := 38) (rs := [.tmp 9]) Tryz.func41 rfl rfl rfl (by simp) ?_
    (repeat with_reducible first | refine jy ?_ | refine jw KL41 [] TF41 fun _ => ?_)
    refine Run_condS (fun _ => rfl) (fun h => ?_) (fun h => ?_)
    · simp at h
      omega
    clear h
    (repeat with_reducible first | refine jy ?_ | refine jw KL41 [] TF41 fun _ => ?_)
    refine Run_loopV [9, 10, 19, 37] (σ := Nat) (fun i => [(10, some (.int .i64 i)), (9, some (.bool false))]) (fun i w' => i ≤ 100 ∧ Keep kp w w' ∧ ∃ pre', items = pre' ++ (Rf.setsF n i (left + 1)).map (fun s => x ++ s) ++ post ∧ J pre'.length w') (fun i => 100 - i) at' (by simp [SubB, fnd]) ⟨ha, Keep.refl _ _, pre, hit, hj⟩ ?_
    rintro i w1 ⟨hi, K1, pre', hit', hj'⟩
    have Z1 := Z.keep K1 k1 k2 k3
    have sn := Z1.n.n
    simp only [AtN, KS, Nat.reduceAdd, Nat.reduceMul, Nat.reduceEqDiff, ↓reduceIte, UT] at sn
    have hx1 : Sl w1 vx x := hx.keepF K1 hxk
    have xs := hx1.s
    have xl := hx1.len
    (repeat with_reducible first | refine jy ?_ | refine jw KL41 [] (aa TF41 sn) fun _ => ?_)
    refine Run_condS (fun _ => rfl) (fun h => ?_) (fun h => ?_)
    · simp at h
      have hin : i < n := by omega
      clear h
      (repeat with_reducible first | refine jy ?_ | refine jw KL41 [] TF41 fun _ => ?_)
      let S : Nat → Prop := fun _ => True
      (repeat with_reducible refine js ?_)
      refine Run_eh S [14] [(0, [14])] (id := 6) KL41 (.first 0 (.first 1 (.first 2 (.first 3 (.first 4 (.first 5 (.first 6 (.first 7 (.first 10 (.first 11 (.first 12 (.first 13 (.alt true 8 (.alt true 9 (.alt true 14 (.free (.first 15 .done)) .stop) .stop) .stop))))))))))))) mixed (by kernel_rfl) (by kernel_rfl) fun w8 x8 _ => ?_
      have hS : ∀ w9, Ext w8 w9 → Keep S w8 w9 := fun w9 x => Keep.of_ext x
      have Z8 := Z1.keep (Keep.of_ext (S := kp) x8) k1 k2 k3
      have e8 := Z8.e.n
      simp only [AtN, KS, Nat.reduceAdd, Nat.reduceMul, Nat.reduceEqDiff, ↓reduceIte, UT] at e8
      (try simp (maxSteps := 5000000) only [KS, Nat.reduceAdd, Nat.reduceMul, Nat.reduceEqDiff, ↓reduceIte, forall_const, Int.cast_ofNat_Int, Int.reduceToNat, List.take_succ_cons, List.take_zero, List.drop_succ_cons, List.drop_zero, TF41, KL41, eh, gres, qopS, putL, ung, e8, xs, xl]); (try simp (disch := omega) only [wrapI, tmodI, tdivI])
      refine ⟨trivial, ⟨by omega, by omega, by omega, by have := hx1.cap; omega⟩, Keep.refl _ _, ?_⟩
      refine appCapI (G := fun w' => Keep S w8 w') (hx1.ext x8) (by omega) (by constructor <;> omega) hS fun _ v9 w9 b9 x9 => ⟨hS _ x9, ?_⟩
      have sv9 := b9.sl (by rw [List.length_append, List.length_singleton]; omega)
      have bl9 := b9.le (by decide) (by simp)
      have q8 := x8.size
      have qK := K1.size
      rw [Rf.setsF_cons hin, List.map_append, List.map_map] at hit'
      have hne : (List.map ((fun s => x ++ s) ∘ fun s => (i : Int) :: s) (Rf.setsF n (i + 1) left)) = (Rf.setsF n (i + 1) left).map (fun s => (x ++ [(i : Int)]) ++ s) := List.map_congr_left fun s _ => by simp
      rw [hne] at hit'
      refine CallW_cl (cap := #[.pointer (some py), .pointer (some pn), .pointer (some pe)]) call41 (ih (x ++ [(i : Int)]) (i + 1) v9 w9 pre' ((Rf.setsF n (i + 1) (left + 1)).map (fun s => x ++ s) ++ post) (by rw [hit']; simp only [List.append_assoc]) (by rw [List.length_append, List.length_singleton]; omega) (by omega) (by have := x9.size; omega) (Z8.keep (Keep.of_ext (S := kp) x9) k1 k2 k3) sv9 (fun _ => hkp _ (by omega)) (hc.step _ _ _ hj' (Keep.of_ext (x8.trans x9)))) fun e w10 hq => ?_
      obtain ⟨b, he, K10, hJ⟩ := hq
      refine ⟨_, he, ?_⟩
      have K110 : Keep kp w w10 := K1.trans ((Keep.of_ext (x8.trans x9)).trans K10)
      refine ⟨by simp [IsB], ?_⟩
      cases b with
      | false =>
        refine Run_condS (fun _ => rfl) (fun _ => ?_) (fun h => by simp [bOf] at h)
        (repeat with_reducible first | refine jy ?_ | refine jw KL41 [] TF41 fun _ => ?_)
        refine Run_ret ?_
        simp only [Rets, RetM, resV, fnd, oneOr, ↓reduceIte, KS, Nat.reduceAdd, Nat.reduceMul, Nat.reduceEqDiff, ↓reduceIte, UT]
        exact ⟨_, rfl, false, rfl, K110, hJ⟩
      | true =>
        rw [if_pos rfl] at hJ
        refine Run_condS (fun _ => rfl) (fun h => by simp [bOf] at h) (fun _ => ?_)
        (repeat with_reducible first | refine jy ?_ | refine jw KL41 [] TF41 fun _ => ?_)
        exact Run_lp ⟨i + 1, by simp [SubB, fnd, strike, has], ⟨by omega, K110, pre' ++ (Rf.setsF n (i + 1) left).map (fun s => (x ++ [(i : Int)]) ++ s), by rw [hit']; simp only [List.append_assoc], by rw [List.length_append, List.length_map]; exact hJ⟩, by omega⟩
    simp at h
    have hin : n ≤ i := by omega
    clear h
    (repeat with_reducible first | refine jy ?_ | refine jw KL41 [] TF41 fun _ => ?_)
    refine Run_ret ?_
    simp only [Rets, RetM, resV, fnd, oneOr, ↓reduceIte, KS, Nat.reduceAdd, Nat.reduceMul, Nat.reduceEqDiff, ↓reduceIte, UT]
    refine ⟨_, rfl, true, rfl, K1, ?_⟩
    rw [if_pos rfl]
    rw [Rf.setsF_nil hin] at hit'
    have hlen := congrArg List.length hit'
    rw [hit] at hlen
    simp only [List.length_append, List.length_map, List.map_nil, List.length_nil] at hlen
    have : pre.length + (Rf.setsF n at' (left + 1)).length = pre'.length := by omega
    rw [this]
    exact hj'
def stY (n : Nat) (kp : Nat → Prop) (k : Nat) (xs : List Value) (w : World) : Prop := ∃ (h : k < (Rf.allSets n).length) (v : Value), xs = [v] ∧ Sl w v (Rf.allSets n)[k] ∧ ((Rf.allSets n)[k] ≠ [] → kp (slAt v).block)
set_option maxHeartbeats 4000000 in
theorem stIter {yv : Value} {n : Nat} {kp : Nat → Prop} {J : Nat → World → Prop} {Jx : World → Prop} {pn : Addr} {w : World} (hc : ConsV Tryz.prog yv 1 (Rf.allSets n).length (fun _ => False) kp (stY n kp) J Jx) (hyc : yv.cells = #[yv]) (hn : n ≤ 64) (k2 : kp pn.block) (hkp : ∀ b, w.heap.size ≤ b → kp b) (hpn : At w pn [.int .i64 n]) (hj : J 0 w) :
    Calls Tryz.prog 40 #[yv, .pointer (some pn)] w fun e w' => e = .returned (.tuple #[]) ∧ (Jx w' ∨ J (Rf.allSets n).length w') := by
  refine Calls_of_Run (args := [yv, .pointer (some pn)]) (n := 16) (rs := []) Tryz.func40 rfl rfl rfl (by simp) ?_
  (repeat with_reducible first | refine jy ?_ | refine jw KL40 [] TF40 fun _ => ?_)
  refine SemW_box fun py w1 h1 => ?_
  have b1 := h1.blk
  have s1 := h1.size
  (repeat with_reducible first | refine jy ?_ | refine jw KL40 [] TF40 fun _ => ?_)
  refine SemW_allocT ti97 fun pe w2 h2 => ?_
  have b2 := h2.blk
  have s2 := h2.size
  (repeat with_reducible first | refine jy ?_ | refine jw KL40 [] TF40 fun _ => ?_)
  refine SemW_set0 cells97 h2.row (by show 0 < 1; decide) rfl rfl fun w3 r3 k3 z3 => ?_
  have r3 : Row w3 pe 97 [.func (.func 41) #[] #[.pointer (some py), .pointer (some pn), .pointer (some pe)]] := r3
  have x13 : Ext w1 w3 := Keep.ext h2.ext k3 fun b hb => by omega
  have y3 := h1.ext.trans x13
  have Z3 : StW w3 py pn pe yv n := ⟨by simpa [hyc] using h1.at_.ext x13, hpn.ext y3, r3.at_⟩
  have n3 := Z3.n.n
  simp only [AtN, KS, Nat.reduceAdd, Nat.reduceMul, Nat.reduceEqDiff, ↓reduceIte, UT] at n3
  (repeat with_reducible first | refine jy ?_ | refine jw KL40 [] (aa TF40 n3) fun _ => ?_)
  have j3 := hc.step _ _ _ hj (Keep.of_ext y3)
  refine Run_loopV [4, 8, 9, 14] (σ := Nat) (fun i => [(8, some (.int .i64 i))]) (fun i w' => i ≤ n + 1 ∧ StW w' py pn pe yv n ∧ w.heap.size ≤ w'.heap.size ∧ ∃ pre, Rf.allSets n = pre ++ Rf.restSets n i ∧ J pre.length w') (fun i => n + 1 - i) 0 (by simp [SubB, fnd]) ⟨by omega, Z3, by omega, [], by rw [Rf.restSets_zero]; rfl, j3⟩ ?_
  rintro i w4 ⟨hi, Z4, s4, pre, hit, hJ4⟩
  (repeat with_reducible first | refine jy ?_ | refine jw KL40 [] TF40 fun _ => ?_)
  refine Run_condS (fun _ => rfl) (fun h => ?_) (fun h => ?_)
  · simp at h
    have hin : i ≤ n := by omega
    clear h
    have e4 := Z4.e.n
    simp only [AtN, KS, Nat.reduceAdd, Nat.reduceMul, Nat.reduceEqDiff, ↓reduceIte, UT] at e4
    (repeat with_reducible first | refine jy ?_ | refine jw KL40 [] (aa TF40 e4) fun _ => ?_)
    have hit2 := hit
    rw [Rf.restSets_succ hin, ← List.append_assoc] at hit2
    refine CallW_cl (cap := #[.pointer (some py), .pointer (some pn), .pointer (some pe)]) call41 (stExt (N0 := w.heap.size) (items := Rf.allSets n) hc (fun k v w h hs hkv => ⟨h, v, rfl, hs, hkv⟩) hn (hkp _ (by omega)) k2 (hkp _ (by omega)) hkp i [] 0 (.slice none 0 0) w4 pre (Rf.restSets n (i + 1)) (by rw [hit2]; simp) (by simp; omega) (by omega) s4 Z4 (Sl.nil _) (fun h => (h rfl).elim) hJ4) fun e w5 hq => ?_
    obtain ⟨b, he, K5, hJ⟩ := hq
    refine ⟨_, he, by simp [IsB], ?_⟩
    have q5 := K5.size
    cases b with
    | false =>
      refine Run_condS (fun _ => rfl) (fun _ => ?_) (fun h => by simp [bOf] at h)
      (repeat with_reducible first | refine jy ?_ | refine jw KL40 [] TF40 fun _ => ?_)
      refine Run_ret ?_
      simp only [Rets, RetM, resV, oneOr]
      exact ⟨trivial, .inl hJ⟩
    | true =>
      rw [if_pos rfl] at hJ
      refine Run_condS (fun _ => rfl) (fun h => by simp [bOf] at h) (fun _ => ?_)
      (repeat with_reducible first | refine jy ?_ | refine jw KL40 [] TF40 fun _ => ?_)
      exact Run_lp ⟨i + 1, by simp [SubB, fnd, strike, has], ⟨by omega, Z4.keep K5 (hkp _ (by omega)) k2 (hkp _ (by omega)), by omega, pre ++ Rf.setsF n 0 i, hit2, by rw [List.length_append]; exact hJ⟩, by omega⟩
  simp at h
  obtain rfl : i = n + 1 := by omega
  clear h
  rw [Rf.restSets_end, List.append_nil] at hit
  (repeat with_reducible first | refine jy ?_ | refine jw KL40 [] TF40 fun _ => ?_)
  refine Run_nil ?_
  simp only [Rets, RetM, resV, oneOr]
  exact ⟨trivial, .inr (by rw [hit]; exact hJ4)⟩
theorem rsSets (n : Nat) (w : World) : Calls Tryz.prog 19 #[.int .i64 n] w fun e w' => ∃ pn, e = .returned (.func (.func 40) #[] #[.pointer (some pn)]) ∧ Ext w w' ∧ At w' pn [.int .i64 n] ∧ pn.block = w.heap.size ∧ w'.heap.size = w.heap.size + 1 := by
  refine Calls_of_Run (args := [.int .i64 n]) (n := 4) (rs := [.tmp 2]) Tryz.func19 rfl rfl rfl (by simp) ?_
  (repeat with_reducible first | refine jy ?_ | refine jw KL19 [] TF19 fun _ => ?_)
  refine SemW_box fun pn w1 h1 => ?_
  (repeat with_reducible first | refine jy ?_ | refine jw KL19 [] TF19 fun _ => ?_)
  refine Run_ret ?_
  simp only [Rets, RetM, resV, fnd, oneOr, ↓reduceIte, KS, Nat.reduceAdd, Nat.reduceMul, Nat.reduceEqDiff, ↓reduceIte, UT]
  exact ⟨_, rfl, pn, rfl, h1.ext, h1.at_, h1.blk, h1.size⟩
end Go.Proofs.YtldjfebokojmfaaGreat
