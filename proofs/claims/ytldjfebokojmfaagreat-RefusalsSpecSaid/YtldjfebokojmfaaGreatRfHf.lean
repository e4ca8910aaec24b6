import Derived.Test.YtldjfebokojmfaaGreatRfP23
import Derived.Test.YtldjfebokojmfaaGreatRfG7
import Derived.Test.YtldjfebokojmfaaGreatRfC22t
set_option linter.unusedVariables false
set_option linter.unusedSimpArgs false
namespace Go.Fk
open Go
def RunJ (r : RunD) : Prop := I64 r.Line ∧ I64 r.At ∧ I64 r.Arrive
def RefusalD.cs (p : RefusalD) (v : Value) : List Value := [.int .i64 p.o, v, .int .i64 p.why, .int .i64 p.run.Line, .int .i64 p.run.At, .int .i64 p.run.Arrive]
inductive RefR (F : Nat → Prop) (w : World) : List Value → RefusalD → Prop where
  | mk (o why : Int) (run : RunD) (kids : List RefusalD) (v : Value) (css : List (List Value)) (io : I64 o) (iw : I64 why) (ir : RunJ run) (s : IsS v) (len : slLen v = kids.length) (cap : kids.length ≤ slCap v) (big : kids.length ≤ 140737488355328) (capM : slCap v ≤ 9223372036854775807)
      (hF : kids ≠ [] → F (slAt v).block) (cl : css.length = kids.length) (at_ : ∀ i (h : i < css.length), At w ((slAt v).add (i * 6)) css[i]) (el : ∀ i (h : i < css.length) (h2 : i < kids.length), RefR F w css[i] kids[i]) :
      RefR F w (RefusalD.cs (.mk o kids why run) v) (.mk o kids why run)
theorem RefR.keep {F S : Nat → Prop} {w w' : World} {cs : List Value} {x : RefusalD} (h : RefR F w cs x) (k : Keep S w w') (hS : ∀ b, F b → S b) : RefR F w' cs x := by
  induction h with
  | mk o why run kids v css io iw ir s len cap big capM hF cl at_ el ih =>
    refine .mk o why run kids v css io iw ir s len cap big capM hF cl (fun i h => (at_ i h).keep k ?_) ih
    rw [blk_add]
    exact hS _ (hF (fun e => by subst e; rw [List.length_nil] at cl; omega))
theorem RefR.mono {F F' : Nat → Prop} {w : World} {cs : List Value} {x : RefusalD} (h : RefR F w cs x) (hS : ∀ b, F b → F' b) : RefR F' w cs x := by
  induction h with
  | mk o why run kids v css io iw ir s len cap big capM hF cl at_ el ih => exact .mk o why run kids v css io iw ir s len cap big capM (fun h => hS _ (hF h)) cl at_ ih
theorem RefR.ext {F : Nat → Prop} {w w' : World} {cs : List Value} {x : RefusalD} (h : RefR F w cs x) (k : Ext w w') : RefR F w' cs x := h.keep (Keep.of_ext (S := fun _ => True) k) fun _ _ => trivial
instance : Enc RefusalD where
  n := 6
  rep w cs x := RefR (fun _ => True) w cs x
  len _ _ _ h := by cases h; rfl
  ext _ _ _ _ hx h := h.ext hx
theorem RefR.op {F : Nat → Prop} {w : World} {cs : List Value} {x : RefusalD} (h : RefR F w cs x) : ∃ v, cs = x.cs v ∧ I64 x.o ∧ I64 x.why ∧ RunJ x.run ∧ Sl w v x.kids := by
  cases h with
  | mk o why run kids v css io iw ir s len cap big capM hF cl at_ el =>
    exact ⟨v, rfl, io, iw, ir, s, len, cap, big, capM, fun i hi => ⟨css[i]'(by rw [cl]; exact hi), (el i (by rw [cl]; exact hi) hi).mono fun _ _ => trivial, at_ i (by rw [cl]; exact hi)⟩⟩
theorem RefR.one {F : Nat → Prop} {w : World} {cs : List Value} {x : RefusalD} (h : RefR F w cs x) : cs.all Value.oneCell' = true := by
  obtain ⟨v, rfl, _, _, _, hs⟩ := h.op
  have := isS_o hs.s
  simp only [RefusalD.cs, List.all_cons, List.all_nil, this]; rfl
structure RawF where
  cs : List Value
instance : Enc RawF where
  n := 6
  rep _ cs x := cs = x.cs ∧ x.cs.length = 6 ∧ x.cs.all Value.oneCell' = true
  len _ _ _ h := by rw [h.1]; exact h.2.1
  ext _ _ _ _ _ h := h
instance : Flat RawF := ⟨fun _ _ _ _ h => h, fun _ _ _ h => by rw [h.1]; exact h.2.2⟩
theorem RefR.raw {F : Nat → Prop} {w w' : World} {cs : List Value} {x : RefusalD} (h : RefR F w cs x) : Enc.rep w' cs (⟨cs⟩ : RawF) := ⟨rfl, Enc.len _ _ _ (show Enc.rep w cs x from h.mono fun _ _ => trivial), h.one⟩
theorem RefR.of_raw {F : Nat → Prop} {w : World} {o why : Int} {run : RunD} {kids : List RefusalD} {v : Value} {rs : List RawF} (io : I64 o) (iw : I64 why) (ir : RunJ run) (h : Sl w v rs) (hn : rs.length = kids.length) (hF : kids ≠ [] → F (slAt v).block) (hr : ∀ i (h1 : i < rs.length) (h2 : i < kids.length), RefR F w rs[i].cs kids[i]) : RefR F w (RefusalD.cs (.mk o kids why run) v) (.mk o kids why run) :=
  .mk o why run kids v (rs.map RawF.cs) io iw ir h.s (by rw [← hn]; exact h.len) (by rw [← hn]; exact h.cap) (by rw [← hn]; exact h.big) h.capM hF (by simp [hn]) (fun i hi => by
    simp only [List.length_map] at hi
    obtain ⟨cs, ⟨rfl, _⟩, ha⟩ := h.at_ i hi
    rw [List.getElem_map]; exact ha) fun i hi h2 => by
    simp only [List.length_map] at hi
    simpa using hr i hi h2
theorem RefR.leaf {F : Nat → Prop} {w : World} {o why : Int} {run : RunD} (io : I64 o) (iw : I64 why) (ir : RunJ run) : RefR F w (RefusalD.cs (.mk o [] why run) (.slice none 0 0)) (.mk o [] why run) := RefR.of_raw (rs := []) io iw ir (Sl.nil _) rfl (fun h => (h rfl).elim) fun i h1 => by simp at h1
theorem Sl.refusal {w : World} {v : Value} {xs : List RefusalD} (h : Sl w v xs) {i : Nat} (hi : i < xs.length) : ∃ u, AtN w ((slAt v).add (i * 6)) 0 (xs[i].cs u) ∧ RefR (fun _ => True) w (xs[i].cs u) xs[i] := by
  obtain ⟨cs, h1, ha⟩ := h.at_ i hi
  have h1 : RefR (fun _ => True) w cs xs[i] := h1
  obtain ⟨u, rfl, _⟩ := h1.op
  exact ⟨u, ha.n, h1⟩
theorem kid_lt {p : RefusalD} {i : Nat} (hi : i < p.kids.length) : SizeOf.sizeOf p.kids[i] < SizeOf.sizeOf p := by
  cases p with
  | mk o kids why run =>
    have := List.sizeOf_lt_of_mem (List.getElem_mem hi)
    simp only [RefusalD.kids] at this ⊢
    simp only [RefusalD.mk.sizeOf_spec]
    omega
end Go.Fk
namespace Go.Fk
open Go Go.RowKit Go.ChangeShapes Go.WideShapes
section
variable {H : Type} {enc : TypeId × Value → H} {P : Program} {W : World}
end
end Go.Fk
namespace Go.Proofs.YtldjfebokojmfaaGreat
open Go Go.Fk Go.RowKit Go.ChangeShapes Go.WideShapes
set_option linter.unusedVariables false
set_option linter.unusedSimpArgs false
end Go.Proofs.YtldjfebokojmfaaGreat
