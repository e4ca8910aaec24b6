/- Chapter 20: TimetableLines. -/
import Derived.Test.YtpiijpgfgcbfaaaW20z
import Derived.Test.YtpiijpgfgcbfaaaW20r
set_option linter.unusedSimpArgs false
set_option linter.unusedVariables false
set_option maxRecDepth 100000
namespace Go.Fk
open Go
/-- a line's cells, as they stand -/
structure RawL where
  cs : List Value
instance : Enc RawL where
  n := 6
  rep _ cs x := cs = x.cs ∧ x.cs.length = 6 ∧ x.cs.all Value.oneCell' = true
  len _ _ _ h := by rw [h.1]; exact h.2.1
  ext _ _ _ _ _ h := h
instance : Flat RawL := ⟨fun _ _ _ _ h => h, fun _ _ _ h => by rw [h.1]; exact h.2.2⟩
theorem Sl.raw {w : World} {v : Value} {xs : List LineD} (h : Sl w v xs) : ∃ rs : List RawL, Sl w v rs ∧ rs.length = xs.length ∧ ∀ i (h1 : i < rs.length) (h2 : i < xs.length), Enc.rep w rs[i].cs xs[i] := by
  obtain ⟨css, hc, ha⟩ := h.cells
  have hl := hc.len
  have hraw : Cs w css (css.map RawL.mk) := ⟨by simp, fun i h1 h2 => by
    rw [List.getElem_map]
    have hr := hc.rep i h1 (by omega)
    refine ⟨rfl, Enc.len _ _ _ hr, ?_⟩
    obtain ⟨v0, v1, v2, v3, e, h1, h2, h3, h4, h5, h6⟩ := hr
    have : LineR w xs[i] v0 v1 v2 v3 := ⟨h1, h2, h3, h4, h5, h6⟩
    show List.all css[i] _ = true
    rw [e]; exact this.one⟩
  have hlen : (css.map RawL.mk).length = xs.length := by simp [hl]
  refine ⟨css.map RawL.mk, ⟨h.s, by rw [hlen]; exact h.len, by rw [hlen]; exact h.cap, by rw [hlen]; exact h.big, h.capM, fun i hi => hraw.at_ ha i hi⟩, hlen, fun i h1 h2 => ?_⟩
  rw [List.getElem_map]
  exact hc.rep i (by simpa using h1) h2
theorem Sl.unraw {w : World} {v : Value} {rs : List RawL} {xs : List LineD} (h : Sl w v rs) (hl : rs.length = xs.length) (hr : ∀ i (h1 : i < rs.length) (h2 : i < xs.length), Enc.rep w rs[i].cs xs[i]) : Sl w v xs :=
  ⟨h.s, by rw [← hl]; exact h.len, by rw [← hl]; exact h.cap, by rw [← hl]; exact h.big, h.capM, fun i hi => by
    obtain ⟨cs, ⟨rfl, _⟩, ha⟩ := h.at_ i (by omega)
    exact ⟨_, hr i (by omega) hi, ha⟩⟩
namespace Tt
def fa (k : Nat) (l : List RunD) : List RunD := (l.filter fun r => decide (r.Line ≠ (k : Int))).map (shift k)
def fb (k : Nat) (l : List RunD) : List RunD := (l.filter fun r => decide (r.Line = (k : Int))).map (fun r => (⟨0, r.At, r.Arrive⟩ : RunD))
theorem fa_take {k : Nat} {l : List RunD} {j : Nat} (h : j < l.length) : fa k (l.take (j + 1)) = fa k (l.take j) ++ if l[j].Line = (k : Int) then [] else [shift k l[j]] := by
  unfold fa
  rw [List.take_succ_eq_append_getElem h, List.filter_append, List.map_append]
  congr 1
  by_cases e : l[j].Line = (k : Int) <;> simp [e]
theorem fb_take {k : Nat} {l : List RunD} {j : Nat} (h : j < l.length) : fb k (l.take (j + 1)) = fb k (l.take j) ++ if l[j].Line = (k : Int) then [⟨0, l[j].At, l[j].Arrive⟩] else [] := by
  unfold fb
  rw [List.take_succ_eq_append_getElem h, List.filter_append, List.map_append]
  congr 1
  by_cases e : l[j].Line = (k : Int) <;> simp [e]
theorem fab_len (k : Nat) : ∀ l : List RunD, (fa k l).length + (fb k l).length = l.length
  | [] => rfl
  | r :: l => by
    have ih := fab_len k l
    unfold fa fb at *
    by_cases e : r.Line = (k : Int) <;> simp [e] at ih ⊢ <;> omega
theorem calL_zero : ∀ {l : List LineD}, (∀ x ∈ l, Cal.chk x.Rules x.Off = 0) → calL l = 0
  | [], _ => rfl
  | x :: l, h => by
    unfold calL
    rw [if_neg (by simp [h x (List.mem_cons_self ..)])]
    exact calL_zero fun y hy => h y (List.mem_cons_of_mem _ hy)
theorem chk_sub {t : TimeD} (hc : chk t = 0) {l : List LineD} (hl : ∀ x ∈ l, x ∈ t.Lines) (hn : l.length ≤ 64) : chk ⟨t.Offices, l⟩ = 0 := by
  have ht := chk_ok hc
  unfold chk
  rw [if_neg (by simp; omega), if_neg (by simp; exact ⟨ht.o.1, ht.o.2⟩), if_pos (List.all_eq_true.2 fun x hx => ht.r x (hl x hx))]
  exact calL_zero fun x hx => ht.c x (hl x hx)
/-- without a line; the line alone -/
theorem runs_less {t : TimeD} {a b : Int} (hc : chk t = 0) (h : ¬ (a < 0 ∨ b < a ∨ 2097152 < b)) (h0 : (runs t a b).2 = 0) {k : Nat} (hk : k < t.Lines.length) :
    runs ⟨t.Offices, t.Lines.take k ++ t.Lines.drop (k + 1)⟩ a b = (fa k (sortR (allRuns a b 0 t.Lines)), 0) ∧ runs ⟨t.Offices, [t.Lines[k]]⟩ a b = (fb k (sortR (allRuns a b 0 t.Lines)), 0) := by
  obtain ⟨e, hx, hl⟩ := runs_ok hc h h0
  obtain ⟨e1, e2⟩ := less_eq (a := a) (b := b) hk
  have hn := (chk_ok hc).n
  have hs : ∀ x ∈ t.Lines.take k ++ t.Lines.drop (k + 1), x ∈ t.Lines := fun x hx => by
    rcases List.mem_append.1 hx with h | h
    · exact List.mem_of_mem_take h
    · exact List.mem_of_mem_drop h
  have hs2 : ∀ x ∈ [t.Lines[k]], x ∈ t.Lines := fun x hx => by
    rw [List.mem_singleton] at hx; subst hx; exact List.getElem_mem hk
  have hle : (t.Lines.take k ++ t.Lines.drop (k + 1)).length ≤ 64 := by simp; omega
  have hfl := fab_len k (sortR (allRuns a b 0 t.Lines))
  rw [(sortR_perm _).length_eq] at hfl
  have la := congrArg List.length e1
  have lb := congrArg List.length e2
  rw [(sortR_perm (allRuns a b 0 (t.Lines.take k ++ t.Lines.drop (k + 1)))).length_eq] at la
  rw [(sortR_perm (allRuns a b 0 [t.Lines[k]])).length_eq] at lb
  constructor
  · rw [runs_of (chk_sub hc hs hle) h (fun x h => hx x (hs x h)) (by show (allRuns a b 0 (t.Lines.take k ++ t.Lines.drop (k + 1))).length ≤ 2000; unfold fa at hfl; omega)]
    simp only
    rw [← e1]; rfl
  · rw [runs_of (chk_sub hc hs2 (by simp)) h (fun x h => hx x (hs2 x h)) (by show (allRuns a b 0 [t.Lines[k]]).length ≤ 2000; unfold fb at hfl; omega)]
    simp only
    rw [← e2]; rfl
end Tt
end Go.Fk
namespace Go.Proofs.Ytpiijpgfgcbfaaa
open Go Go.Fk
theorem append2R {v u X : Value} {xs ys : List RunD} {x : RunD} {B : Nat} {w : World} {K : Value → Value → World → Prop} (hv : BufO (α := RunD) 34 B w v xs) (hu : BufO (α := RunD) 34 B w u ys) (hd : ∀ g, v.ownBlock = some g → u.ownBlock ≠ some g) (hB : B ≤ w.heap.size) (hX : X = .agg x.cs.toArray) (hx : RunI x) (hn : xs.length + 1 ≤ 1000000)
    (hK : ∀ s v' w', BufO (α := RunD) 34 B w' v' (xs ++ [x]) → BufO (α := RunD) 34 B w' u ys → (∀ g, v'.ownBlock = some g → u.ownBlock ≠ some g) → Keep (fun k => k < B) w w' → K s v' w') :
    SemW Try.prog (Instr.buildSlice 27 1 #[(0, X)]) w fun s w1 => SemW Try.prog (Builtin.append_ #[27, 27] 27 #[v, s]) w1 (K s) := by
  subst hX
  refine SemW_append1P (α := RunD) (X := .agg x.cs.toArray) (x := x) Try.underlying27 ti34 rfl (by decide) hv hB ⟨rfl, hx⟩ (by simp [maxLen]; omega) fun s v' w' b' k' o' => hK s v' w' b' (hu.keepP k' fun g hg e => ?_) (fun g hg e => ?_) (hv.below k')
  · exact hd g e.symm hg
  · rcases o' with h | ⟨g', h, h'⟩
    · exact hd g (h ▸ hg) e
    · rw [h] at hg; cases hg
      have := (hu.own_lt e).2
      omega
theorem timeBuildS {n : Int} {vl : Value} (hs : IsS vl) (w' : World) : (Instr.build 24 #[(0, .int .i64 n), (1, vl)]).run Try.prog w' = .ok (.agg #[.int .i64 n, vl]) w' := by
  rcases hs.ex with rfl | ⟨_, _, _, rfl⟩ <;> kernel_rfl
/-- a list of lines and a variable, as they come into being -/
structure LS (w0 w : World) (b : Option (Value × List RawL)) (q : Option Addr) : Prop where
  ext : Ext w0 w
  b : ∀ v xs, b = some (v, xs) → BufO (α := RawL) 45 w0.heap.size w v xs
  q : ∀ p, q = some p → Row w p 24 [.int .i64 0, .slice none 0 0] ∧ w0.heap.size ≤ p.block
section
variable {w0 w : World} {b : Option (Value × List RawL)} {q : Option Addr} {v x : Value} {xs ys : List RawL} {p : Addr}
theorem LS.start : LS w0 w0 none none := ⟨Ext.refl _, (fun _ _ h => by cases h), (fun _ h => by cases h)⟩
theorem lsE (h : LS w0 w none q) {K : Value → World → Prop} (hK : ∀ v w', LS w0 w' (some (v, [])) q → K v w') : SemW Try.prog (Instr.buildSlice 22 0 #[]) w K :=
  SemW_buildSlice (vs := []) Try.underlying22 ti45 rfl rfl rfl (by simp) (by simp) fun p w' hN => hK _ w'
    ⟨h.ext.trans hN.ext, fun v xs e => by
      cases e
      exact (BufL.new (css := []) (xs := ([] : List RawL)) (W := w) hN (Ext.refl _) (Cs.nil _) (by simp)).o.mono h.ext.size, fun p e => ⟨(h.q p e).1.ext hN.ext, (h.q p e).2⟩⟩
theorem lsO (h : LS w0 w none q) (cs : List Value) (hc : cs.length = 6 ∧ cs.all Value.oneCell' = true) {K : Value → World → Prop} (hK : ∀ v w', LS w0 w' (some (v, [⟨cs⟩])) q → K v w') : SemW Try.prog (Instr.buildSlice 22 1 #[(0, .agg cs.toArray)]) w K :=
  SemW_buildF (α := RawL) (W := w) Try.underlying22 ti45 rfl (by decide) (Ext.refl _) [.agg cs.toArray] [⟨cs⟩] rfl rfl (Cs.one (by show Enc.rep w cs (⟨cs⟩ : RawL); exact ⟨rfl, hc.1, hc.2⟩)) (by show 1 * 6 ≤ _; decide) fun p w' hb hs hx => hK _ w'
    ⟨h.ext.trans hx, fun v xs e => by cases e; exact hb.o.mono h.ext.size, fun p e => ⟨(h.q p e).1.ext hx, (h.q p e).2⟩⟩
theorem lsA (h : LS w0 w (some (v, xs)) q) (hx : Sl w0 x ys) (hn : xs.length + ys.length ≤ 100) {K : Value → World → Prop} (hK : ∀ v' w', LS w0 w' (some (v', xs ++ ys)) q → K v' w') : SemW Try.prog (Builtin.append_ #[22, 22] 22 #[v, x]) w K :=
  SemW_appendFO (α := RawL) Try.underlying22 ti45 rfl (by decide) (h.b v xs rfl) h.ext.size (hx.ext h.ext) (by simp [maxLen]; omega) fun v' w' b' k' => hK v' w'
    ⟨Keep.ext h.ext ((h.b v xs rfl).below k') fun k hk => hk, fun _ _ e => by cases e; exact b', fun p e => ⟨(h.q p e).1.keep k' ((h.b v xs rfl).ne (h.q p e).1 (by decide)), (h.q p e).2⟩⟩
theorem lsB (h : LS w0 w b none) {K : Value → World → Prop} (hK : ∀ p w', LS w0 w' b (some p) → K (.pointer (some p)) w') : SemW Try.prog (Instr.alloc 24 true (.tuple #[])) w K :=
  SemW_allocT ti24 fun p w' hN => hK p w'
    ⟨h.ext.trans hN.ext, fun v xs e => (h.b v xs e).keepP (Keep.of_ext (S := fun _ => True) hN.ext) fun _ _ => trivial, fun _ e => by cases e; exact ⟨hN.row, by have := hN.blk; have := h.ext.size; omega⟩⟩
theorem lsC (h : LS w0 w (some (v, xs)) (some p)) {n : Int} {K : Unit → World → Prop} (hK : ∀ w', Ext w0 w' → At w' p [.int .i64 n, v] → BufO (α := RawL) 45 w0.heap.size w' v xs → K () w') : SemW Try.prog (Instr.storeAt 24 (.pointer (some p)) (.agg #[.int .i64 n, v])) w K := by
  have hb := h.b v xs rfl
  obtain ⟨hr, hp⟩ := h.q p rfl
  have hne := hb.ne hr (by decide)
  refine SemW_setW c24t (by rw [cells24]; rfl) hr (by rw [cells24]; rfl) (by simp [Value.cells, isS_o hb.isS.1]; rfl) fun w' r' k' _ => hK w' (Keep.ext h.ext k' fun g hg => by show g ≠ p.block; omega) r'.at_ (hb.keepP k' fun g hg e => hne (by rw [← e, hg]))
end
theorem rep_less {w w' : World} {rs : List RawL} {xs : List LineD} (hx : Ext w w') (hl : rs.length = xs.length) (hr : ∀ i (h1 : i < rs.length) (h2 : i < xs.length), Enc.rep w rs[i].cs xs[i]) (k : Nat) :
    ∀ i (h1 : i < (rs.take k ++ rs.drop (k + 1)).length) (h2 : i < (xs.take k ++ xs.drop (k + 1)).length), Enc.rep w' (rs.take k ++ rs.drop (k + 1))[i].cs (xs.take k ++ xs.drop (k + 1))[i] := by
  intro i h1 h2
  simp only [List.length_append, List.length_take, List.length_drop] at h1 h2
  simp only [List.getElem_append, List.length_take, ← hl]
  split
  · rename_i h3
    simp only [List.getElem_take]
    exact Enc.ext _ _ _ _ hx (hr i (by omega) (by omega))
  · rename_i h3
    simp only [List.getElem_drop]
    exact Enc.ext _ _ _ _ hx (hr _ (by omega) (by omega))
set_option maxHeartbeats 2000000 in
theorem lawLines20 (vl : Value) (t : TimeD) (at_ a b : Int) (w : World) (hl : Sl w vl t.Lines) (hat : I64 at_) :
    Calls Try.prog 8 #[.agg (t.cs vl).toArray, .int .i64 at_, .int .i64 a, .int .i64 b] w fun e w' => YesP e ∧ Ext w w' := by
  have hn := hl.small
  refine Calls_of_Run (args := [.agg (t.cs vl).toArray, .int .i64 at_, .int .i64 a, .int .i64 b]) (n := 173) (rs := [.tmp 8]) Try.func8 rfl rfl rfl (by simp) ?_
  (repeat with_reducible first | refine js ?_ | refine ja ?_ | refine jw KL8 [] TF8 fun _ => ?_)
  refine SemW_box fun p w1 hN => ?_
  have x1 := hN.ext
  have G : ∀ w', Ext w1 w' → AtN w' p 0 (t.cs vl) := fun w' x => (hN.at_.ext x).n
  simp only [TimeD.cs, AtN, KS, Nat.reduceAdd, Nat.reduceMul, Nat.reduceEqDiff, ↓reduceIte, UT] at G
  (repeat with_reducible first | refine js ?_ | refine ja ?_ | refine jw KL8 [] TF8 fun _ => ?_)
  refine sane20W fun w2 x2 => ?_
  have y2 := x1.trans x2
  have g2 := G w2 x2
  (repeat with_reducible first | refine js ?_ | refine ja ?_ | refine jw KL8 [] TF8 fun _ => ?_)
  refine Run_condS (fun _ => rfl) (fun h => by cases h) (fun _ => ?_)
  (repeat with_reducible first | refine js ?_ | refine ja ?_ | refine jw KL8 [] (aa TF8 g2) fun _ => ?_)
  refine fewP (hl.ext y2) fun w3 x3 => ?_
  have y3 := y2.trans x3
  have g3 := G w3 (x2.trans x3)
  generalize few20 t a b = fw
  (repeat with_reducible first | refine js ?_ | refine ja ?_ | refine jw KL8 [] (aa TF8 (aa g3 KX)) fun _ => ?_)
  refine .inr ⟨.int .i64 (Tt.chk t), fun _ => PC_pure call14 fun w4 x4 => rfCheck20 vl t w4 (hl.ext (y3.trans x4)), fun w4 x4 => ?_⟩
  unfold hush
  have y4 := y3.trans x4
  have z4 := x2.trans (x3.trans x4)
  have g4 := G w4 z4
  (repeat with_reducible first | refine js ?_ | refine ja ?_ | refine jw KL8 [] (aa TF8 (aa g4 (aa hl.s (aa hl.len KX)))) fun _ => ?_)
  refine Run_condS (fun _ => rfl) (fun h => ?_) (fun h => ?_)
  · (repeat with_reducible first | refine js ?_ | refine ja ?_ | refine jw KL8 [] TF8 fun _ => ?_)
    refine Run_ret ?_
    simp [Rets, RetM, resV, fnd, oneOr, y4]
  simp at h
  obtain ⟨⟨⟨⟨⟨hfw, hc⟩, hne⟩, h0⟩, h1⟩, h2⟩ := h
  subst hfw
  have hlp : 0 < t.Lines.length := List.length_pos_iff.2 hne
  have hn64 := (Tt.chk_ok hc).n
  have hp : ¬ (a < 0 ∨ b < a ∨ 2097152 < b) := by omega
  (repeat with_reducible first | refine js ?_ | refine ja ?_ | refine jw KL8 [] (aa TF8 g4) fun _ => ?_)
  refine runsW rfl (hl.ext y4) fun va w5 x5 sa => ?_
  have y5 := y4.trans x5
  have z5 := z4.trans x5
  have g5 := G w5 z5
  (repeat with_reducible first | refine js ?_ | refine ja ?_ | refine jw KL8 [] TF8 fun _ => ?_)
  refine Run_condS (fun _ => rfl) (fun h => ?_) (fun h => ?_)
  · have hg : (Tt.runs t a b).2 ≠ 0 := by simpa using h
    have he := Tt.runs_err hc hp hg
    rw [he] at sa
    simp only at sa
    have hlen := sa.len
    rw [he]
    (repeat with_reducible first | refine js ?_ | refine ja ?_ | refine jw KL8 [] (aa TF8 (aa sa.s (aa hlen KX))) fun _ => ?_)
    refine Run_ret ?_
    simp [Rets, RetM, resV, fnd, oneOr, y5]
  have hg : (Tt.runs t a b).2 = 0 := by simpa using h
  obtain ⟨k, hk, hkv⟩ : ∃ k : Nat, k < t.Lines.length ∧ (IntKind.u64.wrap at_).tmod (t.Lines.length : Int) = k := by
    have h0 : 0 ≤ IntKind.u64.wrap at_ := by simp only [IntKind.wrap, IntKind.bits, IntKind.signed]; simp; omega
    refine ⟨((IntKind.u64.wrap at_).tmod (t.Lines.length : Int)).toNat, ?_, ?_⟩
    · have h1 := Int.tmod_lt_of_pos (IntKind.u64.wrap at_) (b := (t.Lines.length : Int)) (by omega)
      have h2 := Int.tmod_nonneg (t.Lines.length : Int) h0
      omega
    · have h2 := Int.tmod_nonneg (t.Lines.length : Int) h0
      omega
  obtain ⟨eL, eO⟩ := Tt.runs_less hc hp hg hk
  obtain ⟨eA, _, hL⟩ := Tt.runs_ok hc hp hg
  rw [eA] at sa
  simp only at sa
  have hwl : IntKind.u64.wrap (t.Lines.length : Int) = t.Lines.length := by simp only [IntKind.wrap, IntKind.bits, IntKind.signed]; simp; omega
  (repeat with_reducible first | refine js ?_ | refine ja ?_ | refine jw KL8 [] (aa TF8 (aa g5 (aa hl.s (aa hl.len (aa hwl hkv))))) fun _ => ?_)
  (repeat with_reducible first | refine jq ?_ | refine jk ?_ | refine jc ?_ | refine jl ?_ | refine jb ?_ | refine jo ?_ | refine ji ?_ | refine jx rfl ?_)
  obtain ⟨rs, hrs, hrl, hrr⟩ := hl.raw
  refine Run_cutV [12] (σ := Addr × Value) (fun s => [(12, some (.pointer (some s.1)))]) (fun s w' => Ext w5 w' ∧ At w' s.1 ((⟨t.Offices, t.Lines.take k ++ t.Lines.drop (k + 1)⟩ : TimeD).cs s.2) ∧ Sl w' s.2 (t.Lines.take k ++ t.Lines.drop (k + 1))) ?_ ?_
  · refine Run_ec (id := 9) KL8 (.first 0 (.first 1 (.first 3 (.first 4 (.first 5 (.first 6 (.first 8 (.first 9 (.first 10 (.first 11 (.first 12 (.alt 2 (.alt 7 (.alt 13 (.alt 14 (.alt 15 (.alt 16 .done .stop) .stop) (.alt 15 (.alt 14 (.alt 16 .done .stop) .stop) .stop)) (.alt 15 (.alt 13 (.alt 14 (.alt 16 .done .stop) .stop) .stop) .stop)) (.alt 15 (.alt 7 (.alt 13 (.alt 14 (.alt 16 .done .stop) .stop) .stop) .stop) .stop)) (.alt 15 (.alt 2 (.alt 7 (.alt 13 (.alt 14 (.alt 16 .done .stop) .stop) .stop) .stop) .stop) .stop))))))))))))) mixed (by kernel_rfl) (by kernel_rfl) fun w6 x6 _ => ?_
    have y6 := y5.trans x6
    have g6 := G w6 (z5.trans x6)
    have r6 := hrs.ext y6
    have hcap := r6.cap
    have sA := r6.sub (l := 0) (r := k) (m := slCap vl) (by omega) (by omega) (by omega) (Nat.le_refl _)
    have sB := r6.sub (l := k + 1) (r := rs.length) (m := slCap vl) (by omega) (Nat.le_refl _) (by omega) (Nat.le_refl _)
    rw [List.drop_zero] at sA
    rw [List.take_length] at sB
    have hs := LS.start (w0 := w6)
    have hkn : ((k : Int) + 1).toNat = k + 1 := by omega
    rw [hrl] at sB
    have sA : Sl w6 (slSub 6 vl 0 k (slCap vl)) (rs.take k) := sA
    have sB : Sl w6 (slSub 6 vl ((k : Int) + 1).toNat t.Lines.length (slCap vl)) (rs.drop (k + 1)) := by rw [hkn]; exact sB
    have hlk : (rs.take k).length = k := by simp; omega
    have hlk2 : (rs.drop (k + 1)).length ≤ 64 := by simp; omega
    have z6 := hl.ext y6
    (try simp (maxSteps := 5000000) only [KS, Nat.reduceAdd, Nat.reduceMul, Nat.reduceEqDiff, ↓reduceIte, forall_const, Int.cast_ofNat_Int, Int.reduceToNat, List.take_succ_cons, List.take_zero, List.drop_succ_cons, List.drop_zero, TF8, KL8, ec, g6, hl.s, hl.len]); (try simp (disch := omega) only [wrapI, tmodI, tdivI])
    refine ⟨⟨by omega, by omega, by omega, fun h => h.elim⟩, ⟨by omega, by omega, fun h => h.elim, fun h => h.elim⟩, ?_⟩
    repeat' (first | with_reducible refine And.intro ?_ ?_ | (with_reducible exact hs.ext) | (with_reducible exact yC) | (with_reducible refine lsE hs fun v w7 hs => ?_) | (with_reducible refine lsB hs fun q w7 hs => ?_) | (with_reducible refine lsA hs sA (by simp; omega) fun v w7 hs => ?_) | (with_reducible refine lsA hs sB (by simp; omega) fun v w7 hs => ?_) | (with_reducible refine Exists.intro (.agg #[.int .i64 t.Offices, v]) (And.intro (timeBuildS (hs.b _ _ rfl).isS.1) ?_)) | (with_reducible refine lsC hs fun w8 yC aC bC => ?_))
    all_goals
      refine Run_lp ⟨(q, v), ?_, x6.trans yC, aC, ?_⟩
      · simp [SubB, fnd, strike, has]
      · refine (bC.sl (by simp; omega)).unraw (by simp [hrl]) ?_
        rw [List.nil_append]
        exact rep_less (y6.trans yC) hrl hrr k
  rintro ⟨pl, vl'⟩ w6 ⟨x6, aL, sL⟩
  have y6 := y5.trans x6
  have z6 := z5.trans x6
  obtain ⟨v0, v1, v2, v3, f1, f2, hR⟩ := hl.line hk
  have hone := hR.one
  (repeat with_reducible first | refine jq ?_ | refine jk ?_ | refine jc ?_ | refine jl ?_ | refine jb ?_ | refine jo ?_ | refine ji ?_ | refine jx rfl ?_)
  refine Run_cutV [13] (σ := Addr × Value) (fun s => [(13, some (.pointer (some s.1)))]) (fun s w' => Ext w6 w' ∧ At w' s.1 ((⟨t.Offices, [t.Lines[k]]⟩ : TimeD).cs s.2) ∧ Sl w' s.2 [t.Lines[k]]) ?_ ?_
  · refine Run_ec (id := 10) KL8 (.first 0 (.first 1 (.first 2 (.first 3 (.first 4 (.first 5 (.first 6 (.alt 7 (.alt 8 (.alt 9 (.alt 10 .done .stop) .stop) (.alt 9 (.alt 8 (.alt 10 .done .stop) .stop) .stop)) (.alt 9 (.alt 7 (.alt 8 (.alt 10 .done .stop) .stop) .stop) .stop))))))))) mixed (by kernel_rfl) (by kernel_rfl) fun w7 x7 _ => ?_
    have y7 := y6.trans x7
    have g7 := G w7 (z6.trans x7)
    have f7 := (f2.ext y7).n
    have hs := LS.start (w0 := w7)
    simp only [LineD.cs, AtN, KS, Nat.reduceAdd, Nat.reduceMul, Nat.reduceEqDiff, ↓reduceIte, UT] at f7 hone
    (try simp (maxSteps := 5000000) only [KS, Nat.reduceAdd, Nat.reduceMul, Nat.reduceEqDiff, ↓reduceIte, forall_const, Int.cast_ofNat_Int, Int.reduceToNat, List.take_succ_cons, List.take_zero, List.drop_succ_cons, List.drop_zero, TF8, KL8, ec, g7, hl.s, hl.len, f7]); (try simp (disch := omega) only [wrapI, tmodI, tdivI])
    repeat' (first | with_reducible refine And.intro ?_ ?_ | omega | (with_reducible exact hs.ext) | (with_reducible exact yC) | (with_reducible refine lsB hs fun q w7 hs => ?_) | (with_reducible refine lsO hs [v0, v1, .int .i64 t.Lines[k].Classes, .int .i64 t.Lines[k].Room, v2, v3] ⟨rfl, hone⟩ fun v w7 hs => ?_) | (with_reducible refine Exists.intro (.agg #[.int .i64 t.Offices, v]) (And.intro (timeBuildS (hs.b _ _ rfl).isS.1) ?_)) | (with_reducible refine lsC hs fun w8 yC aC bC => ?_))
    all_goals
      refine Run_lp ⟨(q, v), ?_, x7.trans yC, aC, ?_⟩
      · simp [SubB, fnd, strike, has]
      · refine (bC.sl (by simp)).unraw (by simp) fun i h1 h2 => ?_
        have : i = 0 := by simp at h1; omega
        subst this
        exact Enc.ext _ _ _ _ (y7.trans yC) hR.rep
  rintro ⟨po, vo⟩ w7 ⟨x7, aO, sO⟩
  have y7 := y6.trans x7
  have tL := (aL.ext x7).n
  have tO := aO.n
  simp only [TimeD.cs, AtN, KS, Nat.reduceAdd, Nat.reduceMul, Nat.reduceEqDiff, ↓reduceIte, UT] at tL tO
  (repeat with_reducible first | refine js ?_ | refine ja ?_ | refine jw KL8 [] (aa TF8 tL) fun _ => ?_)
  refine runsW (t := ⟨t.Offices, t.Lines.take k ++ t.Lines.drop (k + 1)⟩) eL (sL.ext x7) fun vm w8 x8 sm => ?_
  have tO8 := (aO.ext x8).n
  simp only [TimeD.cs, AtN, KS, Nat.reduceAdd, Nat.reduceMul, Nat.reduceEqDiff, ↓reduceIte, UT] at tO8
  (repeat with_reducible first | refine js ?_ | refine ja ?_ | refine jw KL8 [] (aa TF8 tO8) fun _ => ?_)
  refine runsW (t := ⟨t.Offices, [t.Lines[k]]⟩) eO (sO.ext x8) fun vn w9 x9 sn => ?_
  simp only at sm sn
  have lC : (Tt.sortR (Tt.allRuns a b 0 t.Lines)).length ≤ 2000 := by rw [(Tt.sortR_perm (Tt.allRuns a b 0 t.Lines)).length_eq]; exact hL
  have hbdC : ∀ r ∈ Tt.sortR (Tt.allRuns a b 0 t.Lines), RunI r ∧ 0 ≤ r.Line ∧ r.Line < 64 := fun r hr => by
    have h5 := (Tt.mem_isR h0 h1 h2).1 ((Tt.sortR_perm (Tt.allRuns a b 0 t.Lines)).mem_iff.1 hr)
    obtain ⟨i0, i1, i2, i3⟩ := isR_bd h5.1
    obtain ⟨j, hj, rfl⟩ := List.getElem_of_mem hr
    exact ⟨((sa.runD hj).2), by omega, by omega⟩
  have y9 := y7.trans (x8.trans x9)
  have x59 := x6.trans (x7.trans (x8.trans x9))
  have sa9 := sa.ext x59
  have sm9 := sm.ext x9
  have hsum := Tt.fab_len k (Tt.sortR (Tt.allRuns a b 0 t.Lines))
  generalize Tt.sortR (Tt.allRuns a b 0 t.Lines) = C at *
  (repeat with_reducible first | refine js ?_ | refine ja ?_ | refine jw KL8 [] (aa TF8 (aa sm.s (aa sm.len (aa sn.s (aa sn.len (aa sa.s (aa sa.len KX))))))) fun _ => ?_)
  refine Run_condS (fun _ => rfl) (fun h => by simp at h; omega) (fun _ => ?_)
  (repeat with_reducible first | refine js ?_ | refine ja ?_ | refine jw KL8 [] (aa TF8 (aa sa.s sa.len)) fun _ => ?_)
  refine Run_loopV [18, 19, 21, 133, 134, 141, 151] (σ := Nat × Value × Value) (fun s => [(133, some (.int .i64 s.1)), (18, some s.2.1), (19, some s.2.2)]) (fun s w' => s.1 ≤ C.length ∧ BufO (α := RunD) 34 w9.heap.size w' s.2.1 (Tt.fa k (C.take s.1)) ∧ BufO (α := RunD) 34 w9.heap.size w' s.2.2 (Tt.fb k (C.take s.1)) ∧ (∀ g, s.2.1.ownBlock = some g → s.2.2.ownBlock ≠ some g) ∧ Ext w9 w') (fun s => C.length - s.1) (0, .slice none 0 0, .slice none 0 0) (by simp [SubB, fnd]) ⟨by omega, by simpa [Tt.fa] using BufO.nil, by simpa [Tt.fb] using BufO.nil, (fun g h => by cases h), Ext.refl _⟩ ?_
  rintro ⟨j, ua, ub⟩ w10 ⟨hj, bA, bB, hd, x10⟩
  simp only at hj bA bB hd
  (repeat with_reducible first | refine js ?_ | refine ja ?_ | refine jw KL8 [] TF8 fun _ => ?_)
  refine Run_condS (fun _ => rfl) (fun h => ?_) (fun h => ?_)
  · simp at h
    have hjl : j < C.length := by omega
    obtain ⟨f1, f2⟩ := (sa9.ext x10).runD hjl
    obtain ⟨hI, l0, l1⟩ := hbdC _ (List.getElem_mem hjl)
    have ta := Tt.fa_take (k := k) hjl
    have tb := Tt.fb_take (k := k) hjl
    have la : (Tt.fa k (C.take j)).length ≤ 2000 := by
      have := Tt.fab_len k (C.take j)
      rw [List.length_take] at this; omega
    have lb : (Tt.fb k (C.take j)).length ≤ 2000 := by
      have := Tt.fab_len k (C.take j)
      rw [List.length_take] at this; omega
    simp only [RunD.cs, AtN, KS, Nat.reduceAdd, Nat.reduceMul, Nat.reduceEqDiff, ↓reduceIte, UT] at f1
    generalize hr : C[j] = r at *
    (repeat with_reducible first | refine js ?_ | refine ja ?_ | refine jw KL8 [] (aa TF8 (aa sa.s (aa sa.len f1))) fun _ => ?_)
    refine SemW_var ti34 rfl rfl (by decide) rfl fun pr w11 h11 => ?_
    have x11 := h11.ext
    have b11 := h11.blk
    have z10 := x10.size
    have r11 : Row w11 pr 34 [.int .i64 r.Line, .int .i64 r.At, .int .i64 r.Arrive] := by simpa [Value.cells] using h11.row
    have ge : w9.heap.size ≤ pr.block := by omega
    have bA1 := bA.keepP (Keep.of_ext (S := fun _ => True) x11) fun _ _ => trivial
    have bB1 := bB.keepP (Keep.of_ext (S := fun _ => True) x11) fun _ _ => trivial
    have ownA : ∀ g, ua.ownBlock = some g → g ≠ pr.block := fun g hg => by have := (bA.own_lt hg).2; omega
    have ownB : ∀ g, ub.ownBlock = some g → g ≠ pr.block := fun g hg => by have := (bB.own_lt hg).2; omega
    have n11 := r11.n
    simp only [AtN, KS, Nat.reduceAdd, Nat.reduceMul, Nat.reduceEqDiff, ↓reduceIte, UT] at n11
    (repeat with_reducible first | refine js ?_ | refine ja ?_ | refine jw KL8 [] (aa TF8 n11) fun _ => ?_)
    refine Run_condS (fun _ => rfl) (fun h => ?_) (fun h => ?_)
    · have hlk : r.Line = k := by simpa using h
      rw [if_pos hlk] at ta tb
      rw [List.append_nil] at ta
      (repeat with_reducible first | refine js ?_ | refine ja ?_ | refine jw KL8 [] TF8 fun _ => ?_)
      refine SemW_set0 cells3 r11 (by show 0 < 3; decide) rfl rfl fun w12 r12 k12 _ => ?_
      have n12 := r12.n
      simp only [List.set_cons_zero, AtN, KS, Nat.reduceAdd, Nat.reduceMul, Nat.reduceEqDiff, ↓reduceIte, UT] at n12
      have x12 : Ext w9 w12 := Keep.ext (x10.trans x11) k12 fun g hg => by show g ≠ pr.block; omega
      (repeat with_reducible first | refine js ?_ | refine ja ?_ | refine jw KL8 [] (aa TF8 n12) fun _ => ?_)
      refine append2R (x := ⟨0, r.At, r.Arrive⟩) (bB1.keepP k12 ownB) (bA1.keepP k12 ownA) (fun g hg e => hd g e hg) x12.size rfl ⟨by simp [I64], hI.2.1, hI.2.2⟩ (by omega) fun s v' w13 b13 c13 d13 k13 => ?_
      rw [← tb] at b13
      (repeat with_reducible first | refine js ?_ | refine ja ?_ | refine jw KL8 [] TF8 fun _ => ?_)
      refine Run_lp ⟨(j + 1, ua, v'), ?_, ⟨by simp only; omega, by simp only; rw [ta]; exact c13, b13, (fun g hg e => d13 g e hg), Keep.ext x12 k13 fun g hg => hg⟩, by simp only; omega⟩
      simp [SubB, fnd, strike, has]
    · have hlk : r.Line ≠ k := by simpa using h
      rw [if_neg hlk] at ta tb
      rw [List.append_nil] at tb
      (repeat with_reducible first | refine js ?_ | refine ja ?_ | refine jw KL8 [] (aa TF8 n11) fun _ => ?_)
      refine Run_condS (fun _ => rfl) (fun h => ?_) (fun h => ?_)
      · have hgt : (k : Int) < r.Line := by simpa using h
        have hsh : Tt.shift k r = ⟨r.Line - 1, r.At, r.Arrive⟩ := by unfold Tt.shift; rw [if_pos hgt]
        rw [hsh] at ta
        (repeat with_reducible first | refine js ?_ | refine ja ?_ | refine jw KL8 [] (aa TF8 n11) fun _ => ?_)
        refine SemW_set0 cells3 r11 (by show 0 < 3; decide) rfl rfl fun w12 r12 k12 _ => ?_
        have n12 := r12.n
        simp only [List.set_cons_zero, AtN, KS, Nat.reduceAdd, Nat.reduceMul, Nat.reduceEqDiff, ↓reduceIte, UT] at n12
        have x12 : Ext w9 w12 := Keep.ext (x10.trans x11) k12 fun g hg => by show g ≠ pr.block; omega
        (repeat with_reducible first | refine js ?_ | refine ja ?_ | refine jw KL8 [] (aa TF8 n12) fun _ => ?_)
        refine append2R (x := ⟨r.Line - 1, r.At, r.Arrive⟩) (bA1.keepP k12 ownA) (bB1.keepP k12 ownB) hd x12.size rfl ⟨by simp only [I64]; omega, hI.2.1, hI.2.2⟩ (by omega) fun s v' w13 b13 c13 d13 k13 => ?_
        rw [← ta] at b13
        (repeat with_reducible first | refine js ?_ | refine ja ?_ | refine jw KL8 [] TF8 fun _ => ?_)
        refine Run_lp ⟨(j + 1, v', ub), ?_, ⟨by simp only; omega, b13, by simp only; rw [tb]; exact c13, d13, Keep.ext x12 k13 fun g hg => hg⟩, by simp only; omega⟩
        simp [SubB, fnd, strike, has]
      · have hgt : ¬ (k : Int) < r.Line := by simpa using h
        have hsh : Tt.shift k r = r := by unfold Tt.shift; rw [if_neg hgt]
        rw [hsh] at ta
        (repeat with_reducible first | refine js ?_ | refine ja ?_ | refine jw KL8 [] (aa TF8 n11) fun _ => ?_)
        refine append2R (x := r) bA1 bB1 hd (x10.trans x11).size rfl hI (by omega) fun s v' w13 b13 c13 d13 k13 => ?_
        rw [← ta] at b13
        (repeat with_reducible first | refine js ?_ | refine ja ?_ | refine jw KL8 [] TF8 fun _ => ?_)
        refine Run_lp ⟨(j + 1, v', ub), ?_, ⟨by simp only; omega, b13, by simp only; rw [tb]; exact c13, d13, Keep.ext (x10.trans x11) k13 fun g hg => hg⟩, by simp only; omega⟩
        simp [SubB, fnd, strike, has]
  · simp at h
    obtain rfl : j = C.length := by omega
    rw [List.take_length] at bA bB
    (repeat with_reducible first | refine js ?_ | refine ja ?_ | refine jw KL8 [] TF8 fun _ => ?_)
    refine same20W (b := true) (by simp) (bA.sl (by omega)) (sm9.ext x10) fun w11 x11 => ?_
    (repeat with_reducible first | refine js ?_ | refine ja ?_ | refine jw KL8 [] (aa TF8 KX) fun _ => ?_)
    refine .inl (same20W (b := true) (by simp) ((bB.sl (by omega)).ext x11) (sn.ext (x10.trans x11)) fun w12 x12 => ?_)
    unfold hush
    (repeat with_reducible first | refine js ?_ | refine ja ?_ | refine jw KL8 [] (aa TF8 KX) fun _ => ?_)
    refine Run_ret ?_
    simp [Rets, RetM, resV, fnd, oneOr]
    exact y9.trans (x10.trans (x11.trans x12))
end Go.Proofs.Ytpiijpgfgcbfaaa
