import Derived.Test.YtldjfebokojmfaaGreatRgP23
import Derived.Test.YtldjfebokojmfaaGreatRgG7
import Derived.Test.YtldjfebokojmfaaGreatRgC22t
set_option linter.unusedVariables false
set_option linter.unusedSimpArgs false
namespace Go.Fk
open Go
def RunJ (r : RunD) : Prop := I64 r.Line ∧ I64 r.At ∧ I64 r.Arrive
def RefusalD.cs (p : RefusalD) (v : Value) : List Value := [.int .i64 p.o, v, .int .i64 p.why, .int .i64 p.run.Line, .int .i64 p.run.At, .int .i64 p.run.Arrive]
inductive RefR (F : Nat → Prop) (w : World) : List Value → RefusalD → Prop where
  | mk (o why : Int) (run : RunD) (kids : List RefusalD) (v : Value) (css : List (List Value)) (io : I64 o) (iw : I64 why) (ir : RunJ run) (s : IsS v) (len : slLen v = kids.length) (cap : kids.length ≤ slCap v) (big : kids.length ≤ 140737488355328) (capM : slCap v ≤ 9223372036854775807)
      (hF : kids ≠ [] → F (slAt v).block) (cl : css.length = kids.length) (at_ : ∀ i (h : i < css.length), At w ((slAt v).add (i * 6)) css[i]) (el : ∀ i (h : i < css.length) (h2 : i < kids.length), RefR F w css[i] kids[i]) :
      RefR F w (RefusalD.cs (.mk o kids why run) v) (.mk o kids why run)
theorem RefR.keep {F S : Nat → Prop} {w w' : World} {cs : List Value} {x : RefusalD} (h : RefR F w cs x) (k : Keep S w w') (hS : ∀ b, F b → S b) : RefR F w' cs x := by
  induction h with
  | mk o why run kids v css io iw ir s len cap big capM hF cl at_ el ih =>
    refine .mk o why run kids v css io iw ir s len cap big capM hF cl (fun i h => (at_ i h).keep k ?_) ih
    rw [blk_add]
    exact hS _ (hF (fun e => by subst e; rw [List.length_nil] at cl; omega))
theorem RefR.mono {F F' : Nat → Prop} {w : World} {cs : List Value} {x : RefusalD} (h : RefR F w cs x) (hS : ∀ b, F b → F' b) : RefR F' w cs x := by
  induction h with
  | mk o why run kids v css io iw ir s len cap big capM hF cl at_ el ih => exact .mk o why run kids v css io iw ir s len cap big capM (fun h => hS _ (hF h)) cl at_ ih
theorem RefR.ext {F : Nat → Prop} {w w' : World} {cs : List Value} {x : RefusalD} (h : RefR F w cs x) (k : Ext w w') : RefR F w' cs x := h.keep (Keep.of_ext (S := fun _ => True) k) fun _ _ => trivial
instance : Enc RefusalD where
  n := 6
  rep w cs x := RefR (fun _ => True) w cs x
  len _ _ _ h := by cases h; rfl
  ext _ _ _ _ hx h := h.ext hx
theorem RefR.op {F : Nat → Prop} {w : World} {cs : List Value} {x : RefusalD} (h : RefR F w cs x) : ∃ v, cs = x.cs v ∧ I64 x.o ∧ I64 x.why ∧ RunJ x.run ∧ Sl w v x.kids := by
  cases h with
  | mk o why run kids v css io iw ir s len cap big capM hF cl at_ el =>
    exact ⟨v, rfl, io, iw, ir, s, len, cap, big, capM, fun i hi => ⟨css[i]'(by rw [cl]; exact hi), (el i (by rw [cl]; exact hi) hi).mono fun _ _ => trivial, at_ i (by rw [cl]; exact hi)⟩⟩
theorem RefR.one {F : Nat → Prop} {w : World} {cs : List Value} {x : RefusalD} (h : RefR F w cs x) : cs.all Value.oneCell' = true := by
  obtain ⟨v, rfl, _, _, _, hs⟩ := h.op
  have := isS_o hs.s
  simp only [RefusalD.cs, List.all_cons, List.all_nil, this]; rfl
structure RawF where
  cs : List Value
instance : Enc RawF where
  n := 6
  rep _ cs x := cs = x.cs ∧ x.cs.length = 6 ∧ x.cs.all Value.oneCell' = true
  len _ _ _ h := by rw [h.1]; exact h.2.1
  ext _ _ _ _ _ h := h
instance : Flat RawF := ⟨fun _ _ _ _ h => h, fun _ _ _ h => by rw [h.1]; exact h.2.2⟩
theorem RefR.raw {F : Nat → Prop} {w w' : World} {cs : List Value} {x : RefusalD} (h : RefR F w cs x) : Enc.rep w' cs (⟨cs⟩ : RawF) := ⟨rfl, Enc.len _ _ _ (show Enc.rep w cs x from h.mono fun _ _ => trivial), h.one⟩
theorem RefR.of_raw {F : Nat → Prop} {w : World} {o why : Int} {run : RunD} {kids : List RefusalD} {v : Value} {rs : List RawF} (io : I64 o) (iw : I64 why) (ir : RunJ run) (h : Sl w v rs) (hn : rs.length = kids.length) (hF : kids ≠ [] → F (slAt v).block) (hr : ∀ i (h1 : i < rs.length) (h2 : i < kids.length), RefR F w rs[i].cs kids[i]) : RefR F w (RefusalD.cs (.mk o kids why run) v) (.mk o kids why run) :=
  .mk o why run kids v (rs.map RawF.cs) io iw ir h.s (by rw [← hn]; exact h.len) (by rw [← hn]; exact h.cap) (by rw [← hn]; exact h.big) h.capM hF (by simp [hn]) (fun i hi => by
    simp only [List.length_map] at hi
    obtain ⟨cs, ⟨rfl, _⟩, ha⟩ := h.at_ i hi
    rw [List.getElem_map]; exact ha) fun i hi h2 => by
    simp only [List.length_map] at hi
    simpa using hr i hi h2
theorem RefR.leaf {F : Nat → Prop} {w : World} {o why : Int} {run : RunD} (io : I64 o) (iw : I64 why) (ir : RunJ run) : RefR F w (RefusalD.cs (.mk o [] why run) (.slice none 0 0)) (.mk o [] why run) := RefR.of_raw (rs := []) io iw ir (Sl.nil _) rfl (fun h => (h rfl).elim) fun i h1 => by simp at h1
theorem Sl.refusal {w : World} {v : Value} {xs : List RefusalD} (h : Sl w v xs) {i : Nat} (hi : i < xs.length) : ∃ u, AtN w ((slAt v).add (i * 6)) 0 (xs[i].cs u) ∧ RefR (fun _ => True) w (xs[i].cs u) xs[i] := by
  obtain ⟨cs, h1, ha⟩ := h.at_ i hi
  have h1 : RefR (fun _ => True) w cs xs[i] := h1
  obtain ⟨u, rfl, _⟩ := h1.op
  exact ⟨u, ha.n, h1⟩
theorem kid_lt {p : RefusalD} {i : Nat} (hi : i < p.kids.length) : SizeOf.sizeOf p.kids[i] < SizeOf.sizeOf p := by
  cases p with
  | mk o kids why run =>
    have := List.sizeOf_lt_of_mem (List.getElem_mem hi)
    simp only [RefusalD.kids] at this ⊢
    simp only [RefusalD.mk.sizeOf_spec]
    omega
end Go.Fk
namespace Go.Fk
open Go Go.RowKit Go.ChangeShapes Go.WideShapes
section
variable {H : Type} {enc : TypeId × Value → H} {P : Program} {W : World}
theorem opn_fieldsL {t : TypeId} {fs : Array Field} (ht : P.underlying t = some (.struct fs)) {fuel : Nat} {cs : List Value} {y : DataW H × List MemPlace} (h : DataW.trod enc P W 0 (fun _ => true) true fuel t cs = some y)
    (hw : (y.1.weights P t).all (· ≤ reachBytes) = true) : cs.length = P.cellsOf t ∧ ∃ n, n < fuel ∧ ∀ (i : Nat) (f : Field), fs[i]? = some f →
      ∃ z, DataW.trod enc P W 0 (fun _ => true) true n f.type ((cs.drop f.offset).take (P.cellsOf f.type)) = some z ∧ (z.1.weights P f.type).all (· ≤ reachBytes) = true := by
  obtain ⟨xs, n, rfl, rfl, hl, hx, hf⟩ := DataW.trod_struct ht h
  refine ⟨hl, n, Nat.lt_succ_self n, fun i f hi => ?_⟩
  have hlt : i < xs.length := by have := (Array.getElem?_eq_some_iff.1 hi).1; omega
  refine ⟨xs[i], (hf i f hi).trans (List.getElem?_eq_getElem hlt), ?_⟩
  simp only [DataW.weights, ht] at hw
  have key : ∀ (l : List Field) (zs : List (DataW H × List MemPlace)) (i : Nat) (f : Field) (h : i < zs.length), l[i]? = some f → (DataW.weightsEach P (l.map (·.type)) (zs.map (·.1))).all (· ≤ reachBytes) = true → (zs[i].1.weights P f.type).all (· ≤ reachBytes) = true := by
    intro l
    induction l with
    | nil => intro zs i f _ hi; simp at hi
    | cons g l ih =>
      intro zs i f hz hi hw
      cases zs with
      | nil => simp at hz
      | cons z zs =>
        simp only [List.map_cons, DataW.weightsEach, List.all_append, Bool.and_eq_true] at hw
        cases i with
        | zero => simp at hi; subst hi; exact hw.1
        | succ i => exact ih zs i f (by simpa using hz) (by simpa using hi) hw.2
  exact key fs.toList xs i f hlt (by simpa using hi) hw
theorem slice_opL {α : Type} [Enc α] {t e : TypeId} (ht : P.underlying t = some (.slice e)) (hce : P.cellsOf e = Enc.n α) (hbe : 0 < P.bytesOf e) {fuel : Nat}
    (hE : ∀ k, k < fuel → ∀ (cs : List Value) (y : DataW H × List MemPlace), DataW.trod enc P W 0 (fun _ => true) true k e cs = some y → (y.1.weights P e).all (· ≤ reachBytes) = true → ∃ x : α, Enc.rep W cs x)
    {cs : List Value} {y : DataW H × List MemPlace} (h : DataW.trod enc P W 0 (fun _ => true) true fuel t cs = some y) (hw : (y.1.weights P t).all (· ≤ reachBytes) = true) : ∃ (xs : List α) (v : Value), cs = [v] ∧ Sl W v xs := by
  rcases DataW.trod_slice ht h with ⟨rfl, rfl⟩ | ⟨a, len, cap, elems, rest, n, rfl, rfl, rfl, h1, h2, h3, h4, h5, h6, h7⟩
  · exact ⟨[], _, rfl, Sl.nil W⟩
  · simp only [DataW.weights, ht, List.all_cons, List.all_append, Bool.and_eq_true, decide_eq_true_eq, List.length_map] at hw
    obtain ⟨hw1, hw2, hw3⟩ := hw
    have hlen : len ≤ 140737488355328 := by
      have : elems.length ≤ (elems.length + rest.length) * P.bytesOf e := by
        have := Nat.mul_le_mul (show elems.length ≤ elems.length + rest.length by omega) (show 1 ≤ P.bytesOf e from hbe)
        omega
      have h8 := reachBytes_lt
      omega
    have hall : ∀ (l : List (DataW H)), (DataW.weightsAll P e l).all (· ≤ reachBytes) = true → ∀ d ∈ l, (d.weights P e).all (· ≤ reachBytes) = true := by
      intro l
      induction l with
      | nil => intro _ d hd; cases hd
      | cons x r ih =>
        intro hx d hd
        simp only [DataW.weightsAll, List.all_append, Bool.and_eq_true] at hx
        rcases List.mem_cons.1 hd with rfl | hd
        · exact hx.1
        · exact ih hx.2 d hd
    have each : ∀ i : Fin len, ∃ x : α, ∃ cs, Enc.rep W cs x ∧ At W (a.add (i * Enc.n α)) cs := by
      intro ⟨i, hi⟩
      have h8 := h5 i hi
      have hil : i < elems.length := by omega
      rw [List.getElem?_eq_getElem hil, Option.bind_eq_some_iff] at h8
      obtain ⟨cs, hcs, htr⟩ := h8
      obtain ⟨x, hx⟩ := hE n (Nat.lt_succ_self n) cs _ htr (hall _ hw2 _ (List.mem_map.2 ⟨_, List.getElem_mem hil, rfl⟩))
      refine ⟨x, cs, hx, ?_⟩
      rw [hce] at hcs
      exact at_cells hcs
    refine ⟨List.ofFn fun i => Classical.choose (each i), .slice (some a) len cap, rfl, by simp, by simp, by simpa using h2, by simpa using hlen, by simpa [maxLen] using h3, fun i hi => ?_⟩
    simp only [List.length_ofFn] at hi
    obtain ⟨cs, hx, hat⟩ := Classical.choose_spec (each ⟨i, hi⟩)
    exact ⟨cs, by simpa using hx, by simpa using hat⟩
end
theorem RefR.of_sl {w : World} {o why : Int} {run : RunD} {kids : List RefusalD} {v : Value} (io : I64 o) (iw : I64 why) (ir : RunJ run) (h : Sl w v kids) : RefR (fun _ => True) w (RefusalD.cs (.mk o kids why run) v) (.mk o kids why run) := by
  have each : ∀ i : Fin kids.length, ∃ cs, RefR (fun _ => True) w cs kids[i] ∧ At w ((slAt v).add (i * 6)) cs := fun ⟨i, hi⟩ => by
    obtain ⟨cs, h1, h2⟩ := h.at_ i hi
    exact ⟨cs, h1, h2⟩
  refine .mk o why run kids v (List.ofFn fun i => Classical.choose (each i)) io iw ir h.s h.len h.cap h.big h.capM (fun _ => trivial) (by simp) (fun i hi => ?_) fun i hi hi2 => ?_
  · simp only [List.length_ofFn] at hi
    simpa using (Classical.choose_spec (each ⟨i, hi⟩)).2
  · simpa using (Classical.choose_spec (each ⟨i, hi2⟩)).1
end Go.Fk
namespace Go.Proofs.YtldjfebokojmfaaGreat
open Go Go.Fk Go.RowKit Go.ChangeShapes Go.WideShapes
set_option linter.unusedVariables false
set_option linter.unusedSimpArgs false
theorem opn36 : Opn RefusalD Tryz.prog 36 := ⟨cells36, of_decide_eq_true (by kernel_rfl), fun {H} enc W fuel => by
  induction fuel using Nat.strongRecOn with
  | _ fuel ih =>
  intro cs y h hw
  obtain ⟨hl, n, hn, hf⟩ := opn_fieldsL Tryz.underlying36 h hw
  rw [cells36] at hl
  obtain ⟨z0, t0, w0⟩ := hf 0 _ rfl
  obtain ⟨x0, e0, b0⟩ := opn3.op enc W n _ _ t0 w0
  obtain ⟨z1, t1, w1⟩ := hf 1 _ rfl
  obtain ⟨x1, u1, e1, b1⟩ := slice_opL (α := RefusalD) Tryz.underlying32 cells36 (of_decide_eq_true (by kernel_rfl)) (fun k hk cs y h hw => ih k (by omega) cs y h hw) t1 w1
  obtain ⟨z2, t2, w2⟩ := hf 2 _ rfl
  obtain ⟨x2, e2, b2⟩ := opn3.op enc W n _ _ t2 w2
  obtain ⟨z3, t3, w3⟩ := hf 3 _ rfl
  obtain ⟨x3, e3, b3⟩ := opn34.op enc W n _ _ t3 w3
  rcases cs with _ | ⟨c0, cs⟩
  · simp at hl
  rcases cs with _ | ⟨c1, cs⟩
  · simp at hl
  rcases cs with _ | ⟨c2, cs⟩
  · simp at hl
  rcases cs with _ | ⟨c3, cs⟩
  · simp at hl
  rcases cs with _ | ⟨c4, cs⟩
  · simp at hl
  rcases cs with _ | ⟨c5, cs⟩
  · simp at hl
  rcases cs with _ | ⟨c, cs⟩
  rotate_left
  · simp at hl
  simp [cells3, cells32, cells34, RunD.cs] at e0 e1 e2 e3
  subst e0 e1 e2
  obtain ⟨rfl, rfl, rfl⟩ := e3
  exact ⟨_, RefR.of_sl b0 b2 b3 b1⟩⟩
end Go.Proofs.YtldjfebokojmfaaGreat
