/-
  No cell of these rows narrows 'for every input' (looked for: loops, veiled, ifaces, maps, wideKeys, modest, calm, conditions, laid).
  DERIVED. THE GIVEN ROWS OF THIS SEAT. 6 by the template 'for every input the law returns true; each argument reads behind the call as it read before'; 0 by the template 'total and deterministic' (their statements: YtpiijpgfgcbfaaaTotals.lean).
  GIVEN WITH THE SEED: the statements are not yours to turn. If you find one false, say at which input.
  Laid BY PROGRAM, IN A SANDBOX (cutbox-rows.mjs): the forced cells as the released guide's own fill.sh prints them over the translation 6b553610014ff4f7… (all of the seat's roots in one cut). By AI agents, Wed Nov 11 2026. No macro, syntax, notation, axiom, sorry.
-/
import Derived.Test.YtpiijpgfgcbfaaaChecked
import GoSem.Claim
import GoSem.ClaimJoined
import GoSem.ClaimMapViews
import Derived.JoinedTies
import Derived.KernelRfl
namespace Go.Proofs.Ytpiijpgfgcbfaaa
/- THE CELL 'sum', in the pinned program and in every row, IS THE sha256 OF THE DUMP (.gsa) THAT YtpiijpgfgcbfaaaProg.lean LOADS. Nothing in Lean hashes anything: it is a label: what it is worth is what the hold of that sum in a sandbox is worth. -/
noncomputable def Try.pinned : Pinned := { name := "ytpiijpgfgcbfaaa", sum := "6b553610014ff4f71ef67f39849d5299174deeabc673caeda3700792dc10e7eb", checked := Try.checked }
namespace Rows
def none {H : Type} : Left H := { results := [], args := [] }

/-- 'frankinglaw20.TimetableSpec': WHATEVER THE INPUT: true; the input reads as it did. -/
def timetableSpecSpec : ChangeSpec := { name := "timetableSpec", fn := fun _ => fun
  | [d1, d2, d3] => { results := [.lit (.bool true)], args := [d1, d2, d3] }
  | _ => none }
def timetableSpecRow : OpenClaim := { program := "ytpiijpgfgcbfaaa", sum := "6b553610014ff4f71ef67f39849d5299174deeabc673caeda3700792dc10e7eb", func := "franking/frankinglaw20.TimetableSpec", spec := "timetableSpec", unfollowed := true, recurses := true, apart := false }
def TimetableSpecSaid : Prop := timetableSpecRow.holds Try.pinned (OpenSpec.ofChange timetableSpecSpec)

/-- ITS FALSE NEIGHBOUR: 'it returns false'. Refute it at one input. -/
def timetableSpecWrong : ChangeSpec := { name := "timetableSpec", fn := fun _ => fun
  | [d1, d2, d3] => { results := [.lit (.bool false)], args := [d1, d2, d3] }
  | _ => none }
def TimetableSpecWrongFalsely : Prop := timetableSpecRow.holds Try.pinned (OpenSpec.ofChange timetableSpecWrong)

/-- 'frankinglaw20.TimetableTimesSpec': WHATEVER THE INPUT: true; the input reads as it did. -/
def timetableTimesSpecSpec : ChangeSpec := { name := "timetableTimesSpec", fn := fun _ => fun
  | [d1, d2] => { results := [.lit (.bool true)], args := [d1, d2] }
  | _ => none }
def timetableTimesSpecRow : OpenClaim := { program := "ytpiijpgfgcbfaaa", sum := "6b553610014ff4f71ef67f39849d5299174deeabc673caeda3700792dc10e7eb", func := "franking/frankinglaw20.TimetableTimesSpec", spec := "timetableTimesSpec", unfollowed := true, recurses := true, apart := false }
def TimetableTimesSpecSaid : Prop := timetableTimesSpecRow.holds Try.pinned (OpenSpec.ofChange timetableTimesSpecSpec)

/-- ITS FALSE NEIGHBOUR: 'it returns false'. Refute it at one input. -/
def timetableTimesSpecWrong : ChangeSpec := { name := "timetableTimesSpec", fn := fun _ => fun
  | [d1, d2] => { results := [.lit (.bool false)], args := [d1, d2] }
  | _ => none }
def TimetableTimesSpecWrongFalsely : Prop := timetableTimesSpecRow.holds Try.pinned (OpenSpec.ofChange timetableTimesSpecWrong)

/-- 'frankinglaw20.TimetableParts': WHATEVER THE INPUT: true; the input reads as it did. -/
def timetablePartsSpec : ChangeSpec := { name := "timetableParts", fn := fun _ => fun
  | [d1, d2, d3, d4] => { results := [.lit (.bool true)], args := [d1, d2, d3, d4] }
  | _ => none }
def timetablePartsRow : OpenClaim := { program := "ytpiijpgfgcbfaaa", sum := "6b553610014ff4f71ef67f39849d5299174deeabc673caeda3700792dc10e7eb", func := "franking/frankinglaw20.TimetableParts", spec := "timetableParts", unfollowed := true, recurses := true, apart := false }
def TimetablePartsSaid : Prop := timetablePartsRow.holds Try.pinned (OpenSpec.ofChange timetablePartsSpec)

/-- ITS FALSE NEIGHBOUR: 'it returns false'. Refute it at one input. -/
def timetablePartsWrong : ChangeSpec := { name := "timetableParts", fn := fun _ => fun
  | [d1, d2, d3, d4] => { results := [.lit (.bool false)], args := [d1, d2, d3, d4] }
  | _ => none }
def TimetablePartsWrongFalsely : Prop := timetablePartsRow.holds Try.pinned (OpenSpec.ofChange timetablePartsWrong)

/-- 'frankinglaw20.TimetableIs': WHATEVER THE INPUT: true; the input reads as it did. -/
def timetableIsSpec : ChangeSpec := { name := "timetableIs", fn := fun _ => fun
  | [d1, d2] => { results := [.lit (.bool true)], args := [d1, d2] }
  | _ => none }
def timetableIsRow : OpenClaim := { program := "ytpiijpgfgcbfaaa", sum := "6b553610014ff4f71ef67f39849d5299174deeabc673caeda3700792dc10e7eb", func := "franking/frankinglaw20.TimetableIs", spec := "timetableIs", unfollowed := true, recurses := true, apart := false }
def TimetableIsSaid : Prop := timetableIsRow.holds Try.pinned (OpenSpec.ofChange timetableIsSpec)

/-- ITS FALSE NEIGHBOUR: 'it returns false'. Refute it at one input. -/
def timetableIsWrong : ChangeSpec := { name := "timetableIs", fn := fun _ => fun
  | [d1, d2] => { results := [.lit (.bool false)], args := [d1, d2] }
  | _ => none }
def TimetableIsWrongFalsely : Prop := timetableIsRow.holds Try.pinned (OpenSpec.ofChange timetableIsWrong)

/-- 'frankinglaw20.TimetableTimes': WHATEVER THE INPUT: true; the input reads as it did. -/
def timetableTimesSpec : ChangeSpec := { name := "timetableTimes", fn := fun _ => fun
  | [d1, d2] => { results := [.lit (.bool true)], args := [d1, d2] }
  | _ => none }
def timetableTimesRow : OpenClaim := { program := "ytpiijpgfgcbfaaa", sum := "6b553610014ff4f71ef67f39849d5299174deeabc673caeda3700792dc10e7eb", func := "franking/frankinglaw20.TimetableTimes", spec := "timetableTimes", unfollowed := true, recurses := true, apart := false }
def TimetableTimesSaid : Prop := timetableTimesRow.holds Try.pinned (OpenSpec.ofChange timetableTimesSpec)

/-- ITS FALSE NEIGHBOUR: 'it returns false'. Refute it at one input. -/
def timetableTimesWrong : ChangeSpec := { name := "timetableTimes", fn := fun _ => fun
  | [d1, d2] => { results := [.lit (.bool false)], args := [d1, d2] }
  | _ => none }
def TimetableTimesWrongFalsely : Prop := timetableTimesRow.holds Try.pinned (OpenSpec.ofChange timetableTimesWrong)

/-- 'frankinglaw20.TimetableLines': WHATEVER THE INPUT: true; the input reads as it did. -/
def timetableLinesSpec : ChangeSpec := { name := "timetableLines", fn := fun _ => fun
  | [d1, d2, d3, d4] => { results := [.lit (.bool true)], args := [d1, d2, d3, d4] }
  | _ => none }
def timetableLinesRow : OpenClaim := { program := "ytpiijpgfgcbfaaa", sum := "6b553610014ff4f71ef67f39849d5299174deeabc673caeda3700792dc10e7eb", func := "franking/frankinglaw20.TimetableLines", spec := "timetableLines", unfollowed := true, recurses := true, apart := false }
def TimetableLinesSaid : Prop := timetableLinesRow.holds Try.pinned (OpenSpec.ofChange timetableLinesSpec)

/-- ITS FALSE NEIGHBOUR: 'it returns false'. Refute it at one input. -/
def timetableLinesWrong : ChangeSpec := { name := "timetableLines", fn := fun _ => fun
  | [d1, d2, d3, d4] => { results := [.lit (.bool false)], args := [d1, d2, d3, d4] }
  | _ => none }
def TimetableLinesWrongFalsely : Prop := timetableLinesRow.holds Try.pinned (OpenSpec.ofChange timetableLinesWrong)

/- THE SECOND FORM. 'bulk': how many values and letters a reading holds, each counted each time it is reached (what is shared counts as often as it is met; a slice's spare places count too). A statement '..UptoSaid' is the law's where the arguments, and the package variables that the reading takes, are together of bulk at most 1048576: NARROWER than '..Said'. Prove '..Said' where nothing that the law and all that it calls make is longer than what came in: it says more and counts as full. Else prove '..UptoSaid'. A law counts once. -/
mutual
def uptoBulk {H : Type} : DataW H → Nat
  | .lit (.string bytes) => bytes.length + 1
  | .lit _ => 1
  | .nil => 1
  | .ptr d => uptoBulk d + 1
  | .slice elems spare => uptoBulkAll elems + uptoBulkAll spare + 1
  | .agg parts => uptoBulkAll parts + 1
  | .iface _ d => uptoBulk d + 1
  | .map entries => uptoBulkEntries entries + 1
  | .held _ => 1
def uptoBulkAll {H : Type} : List (DataW H) → Nat
  | [] => 0
  | d :: r => uptoBulk d + uptoBulkAll r
def uptoBulkEntries {H : Type} : List (Lit × DataW H) → Nat
  | [] => 0
  | x :: r => uptoBulkEntry x + uptoBulkEntries r
def uptoBulkEntry {H : Type} : Lit × DataW H → Nat
  | (.string bytes, d) => bytes.length + uptoBulk d + 1
  | (_, d) => uptoBulk d + 1
 end
def uptoSmall : (H : Type) → List (DataW H) → Bool := fun _ ds => decide (uptoBulkAll ds ≤ 1048576)
def OpenSpec.upto (s : _root_.Go.ChangeSpec) : _root_.Go.OpenSpec := { _root_.Go.OpenSpec.ofChange s with cond := some uptoSmall }

/-- 'frankinglaw20.TimetableSpec', WHERE WHAT IT READS IS OF BULK AT MOST 1048576: true; the input reads as it did. -/
def timetableSpecUptoRow : OpenClaim := { program := "ytpiijpgfgcbfaaa", sum := "6b553610014ff4f71ef67f39849d5299174deeabc673caeda3700792dc10e7eb", func := "franking/frankinglaw20.TimetableSpec", spec := "timetableSpec", unfollowed := true, recurses := true, apart := false, narrowed := true }
def TimetableSpecUptoSaid : Prop := timetableSpecUptoRow.holds Try.pinned (OpenSpec.upto timetableSpecSpec)

/-- 'frankinglaw20.TimetableTimesSpec', WHERE WHAT IT READS IS OF BULK AT MOST 1048576: true; the input reads as it did. -/
def timetableTimesSpecUptoRow : OpenClaim := { program := "ytpiijpgfgcbfaaa", sum := "6b553610014ff4f71ef67f39849d5299174deeabc673caeda3700792dc10e7eb", func := "franking/frankinglaw20.TimetableTimesSpec", spec := "timetableTimesSpec", unfollowed := true, recurses := true, apart := false, narrowed := true }
def TimetableTimesSpecUptoSaid : Prop := timetableTimesSpecUptoRow.holds Try.pinned (OpenSpec.upto timetableTimesSpecSpec)

/-- 'frankinglaw20.TimetableParts', WHERE WHAT IT READS IS OF BULK AT MOST 1048576: true; the input reads as it did. -/
def timetablePartsUptoRow : OpenClaim := { program := "ytpiijpgfgcbfaaa", sum := "6b553610014ff4f71ef67f39849d5299174deeabc673caeda3700792dc10e7eb", func := "franking/frankinglaw20.TimetableParts", spec := "timetableParts", unfollowed := true, recurses := true, apart := false, narrowed := true }
def TimetablePartsUptoSaid : Prop := timetablePartsUptoRow.holds Try.pinned (OpenSpec.upto timetablePartsSpec)

/-- 'frankinglaw20.TimetableIs', WHERE WHAT IT READS IS OF BULK AT MOST 1048576: true; the input reads as it did. -/
def timetableIsUptoRow : OpenClaim := { program := "ytpiijpgfgcbfaaa", sum := "6b553610014ff4f71ef67f39849d5299174deeabc673caeda3700792dc10e7eb", func := "franking/frankinglaw20.TimetableIs", spec := "timetableIs", unfollowed := true, recurses := true, apart := false, narrowed := true }
def TimetableIsUptoSaid : Prop := timetableIsUptoRow.holds Try.pinned (OpenSpec.upto timetableIsSpec)

/-- 'frankinglaw20.TimetableTimes', WHERE WHAT IT READS IS OF BULK AT MOST 1048576: true; the input reads as it did. -/
def timetableTimesUptoRow : OpenClaim := { program := "ytpiijpgfgcbfaaa", sum := "6b553610014ff4f71ef67f39849d5299174deeabc673caeda3700792dc10e7eb", func := "franking/frankinglaw20.TimetableTimes", spec := "timetableTimes", unfollowed := true, recurses := true, apart := false, narrowed := true }
def TimetableTimesUptoSaid : Prop := timetableTimesUptoRow.holds Try.pinned (OpenSpec.upto timetableTimesSpec)

/-- 'frankinglaw20.TimetableLines', WHERE WHAT IT READS IS OF BULK AT MOST 1048576: true; the input reads as it did. -/
def timetableLinesUptoRow : OpenClaim := { program := "ytpiijpgfgcbfaaa", sum := "6b553610014ff4f71ef67f39849d5299174deeabc673caeda3700792dc10e7eb", func := "franking/frankinglaw20.TimetableLines", spec := "timetableLines", unfollowed := true, recurses := true, apart := false, narrowed := true }
def TimetableLinesUptoSaid : Prop := timetableLinesUptoRow.holds Try.pinned (OpenSpec.upto timetableLinesSpec)

end Rows
end Go.Proofs.Ytpiijpgfgcbfaaa
