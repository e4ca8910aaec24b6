import Derived.Test.YtbfhenoiienghaaGreatRaW22f
import Derived.Test.YtbfhenoiienghaaGreatRaGs
import Derived.Test.YtbfhenoiienghaaGreatRaGb
import Derived.Test.YtbfhenoiienghaaGreatRaGe
import Derived.Test.YtbfhenoiienghaaGreatRaG7
namespace Go.Proofs.YtbfhenoiienghaaGreat
open Go Go.Fk
set_option linter.unusedSimpArgs false
set_option linter.unusedVariables false
set_option maxRecDepth 100000
structure PutE (W0 : World) (pL pC pO pT : Addr) (vl vO vt : Value) (l : List OrderD) (covers : Int) (opts : List (List RunD)) (t : TimeD) : Prop where
  l_ : At W0 pL [vl]
  hl : Sl W0 vl l
  c : At W0 pC [.int .i64 covers]
  o : At W0 pO [vO]
  ho : Sl W0 vO opts
  t_ : At W0 pT (t.cs vt)
  ht : Sl W0 vt t.Lines
def PutM (w : World) (mb : Nat) (l : List OrderD) (of : List RunD) : Prop := ∃ m, MapB w mb (Tryz.prog.cellsOf 50) m ∧ LoadsAre m (Pl.load l of)
structure PutW (W0 : World) (pS pM pU : Addr) (mb : Nat) (fv : Value) (l : List OrderD) (of : List RunD) (w : World) : Prop where
  e : Ext W0 w
  s : Row w pS 3 [.int .i64 (Pl.tot l of)]
  m : ∃ T, Row w pM T [.map (some mb)]
  u : ∃ T, Row w pU T [fv]
  l : PutM w mb l of
  b : W0.heap.size ≤ pS.block ∧ W0.heap.size ≤ mb ∧ pM.block ≠ pS.block ∧ pM.block ≠ mb ∧ pU.block ≠ pS.block ∧ pU.block ≠ mb ∧ pS.block ≠ mb
theorem PutM.keep {w w' : World} {mb : Nat} {l : List OrderD} {of : List RunD} {S : Nat → Prop} (h : PutM w mb l of) (k : Keep S w w') (hs : S mb) : PutM w' mb l of := by
  obtain ⟨m, h1, h2⟩ := h
  exact ⟨m, h1.keep k hs, h2⟩
theorem PutW.ext {W0 : World} {pS pM pU : Addr} {mb : Nat} {fv : Value} {l : List OrderD} {of : List RunD} {w w' : World} (h : PutW W0 pS pM pU mb fv l of w) (x : Ext w w') : PutW W0 pS pM pU mb fv l of w' := by
  obtain ⟨T1, h1⟩ := h.m
  obtain ⟨T2, h2⟩ := h.u
  exact ⟨h.e.trans x, h.s.ext x, ⟨T1, h1.ext x⟩, ⟨T2, h2.ext x⟩, h.l.keep (Keep.of_ext (S := fun _ => True) x) trivial, h.b⟩
section
variable {W0 : World} {pS pL pC pO pM pT pU : Addr} {mb : Nat} {vl vO vt : Value} {l : List OrderD} {covers : Int} {opts : List (List RunD)} {t : TimeD}
end
end Go.Proofs.YtbfhenoiienghaaGreat
