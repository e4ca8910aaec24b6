/-
  No cell of these rows narrows 'for every input' (looked for: loops, veiled, ifaces, maps, wideKeys, modest, calm, conditions, laid).
  DERIVED. THE GIVEN ROWS OF THIS SEAT. 6 by the template 'for every input the law returns true; each argument reads behind the call as it read before'; 0 by the template 'total and deterministic' (their statements: YtpgbaaabfbkdjaaTotals.lean).
  GIVEN WITH THE SEED: the statements are not yours to turn. If you find one false, say at which input.
  Laid BY PROGRAM, IN A SANDBOX (cutbox-rows.mjs): the forced cells as the released guide's own fill.sh prints them over the translation 6f5a477de97c1e39… (all of the seat's roots in one cut). By AI agents, Wed Nov 11 2026. No macro, syntax, notation, axiom, sorry.
-/
import Derived.Test.YtpgbaaabfbkdjaaChecked
import GoSem.Claim
import GoSem.ClaimJoined
import GoSem.ClaimMapViews
import Derived.JoinedTies
import Derived.KernelRfl
namespace Go.Proofs.Ytpgbaaabfbkdjaa
/- THE CELL 'sum', in the pinned program and in every row, IS THE sha256 OF THE DUMP (.gsa) THAT YtpgbaaabfbkdjaaProg.lean LOADS. Nothing in Lean hashes anything: it is a label: what it is worth is what the hold of that sum in a sandbox is worth. -/
noncomputable def Try.pinned : Pinned := { name := "ytpgbaaabfbkdjaa", sum := "6f5a477de97c1e39b14fd11ccc0fc332f4b13bed960a0e53093d0dfd7ce9ddd2", checked := Try.checked }
namespace Rows
def none {H : Type} : Left H := { results := [], args := [] }

/-- 'frankinglaw19.CalendarSpec': WHATEVER THE INPUT: true; the input reads as it did. -/
def calendarSpecSpec : ChangeSpec := { name := "calendarSpec", fn := fun _ => fun
  | [d1, d2, d3, d4] => { results := [.lit (.bool true)], args := [d1, d2, d3, d4] }
  | _ => none }
def calendarSpecRow : OpenClaim := { program := "ytpgbaaabfbkdjaa", sum := "6f5a477de97c1e39b14fd11ccc0fc332f4b13bed960a0e53093d0dfd7ce9ddd2", func := "franking/frankinglaw19.CalendarSpec", spec := "calendarSpec", unfollowed := true, recurses := true, apart := false }
def CalendarSpecSaid : Prop := calendarSpecRow.holds Try.pinned (OpenSpec.ofChange calendarSpecSpec)

/-- ITS FALSE NEIGHBOUR: 'it returns false'. Refute it at one input. -/
def calendarSpecWrong : ChangeSpec := { name := "calendarSpec", fn := fun _ => fun
  | [d1, d2, d3, d4] => { results := [.lit (.bool false)], args := [d1, d2, d3, d4] }
  | _ => none }
def CalendarSpecWrongFalsely : Prop := calendarSpecRow.holds Try.pinned (OpenSpec.ofChange calendarSpecWrong)

/-- 'frankinglaw19.CalendarNextSpec': WHATEVER THE INPUT: true; the input reads as it did. -/
def calendarNextSpecSpec : ChangeSpec := { name := "calendarNextSpec", fn := fun _ => fun
  | [d1, d2, d3] => { results := [.lit (.bool true)], args := [d1, d2, d3] }
  | _ => none }
def calendarNextSpecRow : OpenClaim := { program := "ytpgbaaabfbkdjaa", sum := "6f5a477de97c1e39b14fd11ccc0fc332f4b13bed960a0e53093d0dfd7ce9ddd2", func := "franking/frankinglaw19.CalendarNextSpec", spec := "calendarNextSpec", unfollowed := true, recurses := true, apart := false }
def CalendarNextSpecSaid : Prop := calendarNextSpecRow.holds Try.pinned (OpenSpec.ofChange calendarNextSpecSpec)

/-- ITS FALSE NEIGHBOUR: 'it returns false'. Refute it at one input. -/
def calendarNextSpecWrong : ChangeSpec := { name := "calendarNextSpec", fn := fun _ => fun
  | [d1, d2, d3] => { results := [.lit (.bool false)], args := [d1, d2, d3] }
  | _ => none }
def CalendarNextSpecWrongFalsely : Prop := calendarNextSpecRow.holds Try.pinned (OpenSpec.ofChange calendarNextSpecWrong)

/-- 'frankinglaw19.CalendarMoments': WHATEVER THE INPUT: true; the input reads as it did. -/
def calendarMomentsSpec : ChangeSpec := { name := "calendarMoments", fn := fun _ => fun
  | [d1, d2, d3, d4, d5] => { results := [.lit (.bool true)], args := [d1, d2, d3, d4, d5] }
  | _ => none }
def calendarMomentsRow : OpenClaim := { program := "ytpgbaaabfbkdjaa", sum := "6f5a477de97c1e39b14fd11ccc0fc332f4b13bed960a0e53093d0dfd7ce9ddd2", func := "franking/frankinglaw19.CalendarMoments", spec := "calendarMoments", unfollowed := true, recurses := true, apart := false }
def CalendarMomentsSaid : Prop := calendarMomentsRow.holds Try.pinned (OpenSpec.ofChange calendarMomentsSpec)

/-- ITS FALSE NEIGHBOUR: 'it returns false'. Refute it at one input. -/
def calendarMomentsWrong : ChangeSpec := { name := "calendarMoments", fn := fun _ => fun
  | [d1, d2, d3, d4, d5] => { results := [.lit (.bool false)], args := [d1, d2, d3, d4, d5] }
  | _ => none }
def CalendarMomentsWrongFalsely : Prop := calendarMomentsRow.holds Try.pinned (OpenSpec.ofChange calendarMomentsWrong)

/-- 'frankinglaw19.CalendarParts': WHATEVER THE INPUT: true; the input reads as it did. -/
def calendarPartsSpec : ChangeSpec := { name := "calendarParts", fn := fun _ => fun
  | [d1, d2, d3, d4, d5] => { results := [.lit (.bool true)], args := [d1, d2, d3, d4, d5] }
  | _ => none }
def calendarPartsRow : OpenClaim := { program := "ytpgbaaabfbkdjaa", sum := "6f5a477de97c1e39b14fd11ccc0fc332f4b13bed960a0e53093d0dfd7ce9ddd2", func := "franking/frankinglaw19.CalendarParts", spec := "calendarParts", unfollowed := true, recurses := true, apart := false }
def CalendarPartsSaid : Prop := calendarPartsRow.holds Try.pinned (OpenSpec.ofChange calendarPartsSpec)

/-- ITS FALSE NEIGHBOUR: 'it returns false'. Refute it at one input. -/
def calendarPartsWrong : ChangeSpec := { name := "calendarParts", fn := fun _ => fun
  | [d1, d2, d3, d4, d5] => { results := [.lit (.bool false)], args := [d1, d2, d3, d4, d5] }
  | _ => none }
def CalendarPartsWrongFalsely : Prop := calendarPartsRow.holds Try.pinned (OpenSpec.ofChange calendarPartsWrong)

/-- 'frankinglaw19.CalendarNext': WHATEVER THE INPUT: true; the input reads as it did. -/
def calendarNextSpec : ChangeSpec := { name := "calendarNext", fn := fun _ => fun
  | [d1, d2, d3, d4] => { results := [.lit (.bool true)], args := [d1, d2, d3, d4] }
  | _ => none }
def calendarNextRow : OpenClaim := { program := "ytpgbaaabfbkdjaa", sum := "6f5a477de97c1e39b14fd11ccc0fc332f4b13bed960a0e53093d0dfd7ce9ddd2", func := "franking/frankinglaw19.CalendarNext", spec := "calendarNext", unfollowed := true, recurses := true, apart := false }
def CalendarNextSaid : Prop := calendarNextRow.holds Try.pinned (OpenSpec.ofChange calendarNextSpec)

/-- ITS FALSE NEIGHBOUR: 'it returns false'. Refute it at one input. -/
def calendarNextWrong : ChangeSpec := { name := "calendarNext", fn := fun _ => fun
  | [d1, d2, d3, d4] => { results := [.lit (.bool false)], args := [d1, d2, d3, d4] }
  | _ => none }
def CalendarNextWrongFalsely : Prop := calendarNextRow.holds Try.pinned (OpenSpec.ofChange calendarNextWrong)

/-- 'frankinglaw19.CalendarMore': WHATEVER THE INPUT: true; the input reads as it did. -/
def calendarMoreSpec : ChangeSpec := { name := "calendarMore", fn := fun _ => fun
  | [d1, d2, d3, d4, d5, d6] => { results := [.lit (.bool true)], args := [d1, d2, d3, d4, d5, d6] }
  | _ => none }
def calendarMoreRow : OpenClaim := { program := "ytpgbaaabfbkdjaa", sum := "6f5a477de97c1e39b14fd11ccc0fc332f4b13bed960a0e53093d0dfd7ce9ddd2", func := "franking/frankinglaw19.CalendarMore", spec := "calendarMore", unfollowed := true, recurses := true, apart := false }
def CalendarMoreSaid : Prop := calendarMoreRow.holds Try.pinned (OpenSpec.ofChange calendarMoreSpec)

/-- ITS FALSE NEIGHBOUR: 'it returns false'. Refute it at one input. -/
def calendarMoreWrong : ChangeSpec := { name := "calendarMore", fn := fun _ => fun
  | [d1, d2, d3, d4, d5, d6] => { results := [.lit (.bool false)], args := [d1, d2, d3, d4, d5, d6] }
  | _ => none }
def CalendarMoreWrongFalsely : Prop := calendarMoreRow.holds Try.pinned (OpenSpec.ofChange calendarMoreWrong)

/- THE SECOND FORM. 'bulk': how many values and letters a reading holds, each counted each time it is reached (what is shared counts as often as it is met; a slice's spare places count too). A statement '..UptoSaid' is the law's where the arguments, and the package variables that the reading takes, are together of bulk at most 1048576: NARROWER than '..Said'. Prove '..Said' where nothing that the law and all that it calls make is longer than what came in: it says more and counts as full. Else prove '..UptoSaid'. A law counts once. -/
mutual
def uptoBulk {H : Type} : DataW H → Nat
  | .lit (.string bytes) => bytes.length + 1
  | .lit _ => 1
  | .nil => 1
  | .ptr d => uptoBulk d + 1
  | .slice elems spare => uptoBulkAll elems + uptoBulkAll spare + 1
  | .agg parts => uptoBulkAll parts + 1
  | .iface _ d => uptoBulk d + 1
  | .map entries => uptoBulkEntries entries + 1
  | .held _ => 1
def uptoBulkAll {H : Type} : List (DataW H) → Nat
  | [] => 0
  | d :: r => uptoBulk d + uptoBulkAll r
def uptoBulkEntries {H : Type} : List (Lit × DataW H) → Nat
  | [] => 0
  | x :: r => uptoBulkEntry x + uptoBulkEntries r
def uptoBulkEntry {H : Type} : Lit × DataW H → Nat
  | (.string bytes, d) => bytes.length + uptoBulk d + 1
  | (_, d) => uptoBulk d + 1
 end
def uptoSmall : (H : Type) → List (DataW H) → Bool := fun _ ds => decide (uptoBulkAll ds ≤ 1048576)
def OpenSpec.upto (s : _root_.Go.ChangeSpec) : _root_.Go.OpenSpec := { _root_.Go.OpenSpec.ofChange s with cond := some uptoSmall }

/-- 'frankinglaw19.CalendarSpec', WHERE WHAT IT READS IS OF BULK AT MOST 1048576: true; the input reads as it did. -/
def calendarSpecUptoRow : OpenClaim := { program := "ytpgbaaabfbkdjaa", sum := "6f5a477de97c1e39b14fd11ccc0fc332f4b13bed960a0e53093d0dfd7ce9ddd2", func := "franking/frankinglaw19.CalendarSpec", spec := "calendarSpec", unfollowed := true, recurses := true, apart := false, narrowed := true }
def CalendarSpecUptoSaid : Prop := calendarSpecUptoRow.holds Try.pinned (OpenSpec.upto calendarSpecSpec)

/-- 'frankinglaw19.CalendarNextSpec', WHERE WHAT IT READS IS OF BULK AT MOST 1048576: true; the input reads as it did. -/
def calendarNextSpecUptoRow : OpenClaim := { program := "ytpgbaaabfbkdjaa", sum := "6f5a477de97c1e39b14fd11ccc0fc332f4b13bed960a0e53093d0dfd7ce9ddd2", func := "franking/frankinglaw19.CalendarNextSpec", spec := "calendarNextSpec", unfollowed := true, recurses := true, apart := false, narrowed := true }
def CalendarNextSpecUptoSaid : Prop := calendarNextSpecUptoRow.holds Try.pinned (OpenSpec.upto calendarNextSpecSpec)

/-- 'frankinglaw19.CalendarMoments', WHERE WHAT IT READS IS OF BULK AT MOST 1048576: true; the input reads as it did. -/
def calendarMomentsUptoRow : OpenClaim := { program := "ytpgbaaabfbkdjaa", sum := "6f5a477de97c1e39b14fd11ccc0fc332f4b13bed960a0e53093d0dfd7ce9ddd2", func := "franking/frankinglaw19.CalendarMoments", spec := "calendarMoments", unfollowed := true, recurses := true, apart := false, narrowed := true }
def CalendarMomentsUptoSaid : Prop := calendarMomentsUptoRow.holds Try.pinned (OpenSpec.upto calendarMomentsSpec)

/-- 'frankinglaw19.CalendarParts', WHERE WHAT IT READS IS OF BULK AT MOST 1048576: true; the input reads as it did. -/
def calendarPartsUptoRow : OpenClaim := { program := "ytpgbaaabfbkdjaa", sum := "6f5a477de97c1e39b14fd11ccc0fc332f4b13bed960a0e53093d0dfd7ce9ddd2", func := "franking/frankinglaw19.CalendarParts", spec := "calendarParts", unfollowed := true, recurses := true, apart := false, narrowed := true }
def CalendarPartsUptoSaid : Prop := calendarPartsUptoRow.holds Try.pinned (OpenSpec.upto calendarPartsSpec)

/-- 'frankinglaw19.CalendarNext', WHERE WHAT IT READS IS OF BULK AT MOST 1048576: true; the input reads as it did. -/
def calendarNextUptoRow : OpenClaim := { program := "ytpgbaaabfbkdjaa", sum := "6f5a477de97c1e39b14fd11ccc0fc332f4b13bed960a0e53093d0dfd7ce9ddd2", func := "franking/frankinglaw19.CalendarNext", spec := "calendarNext", unfollowed := true, recurses := true, apart := false, narrowed := true }
def CalendarNextUptoSaid : Prop := calendarNextUptoRow.holds Try.pinned (OpenSpec.upto calendarNextSpec)

/-- 'frankinglaw19.CalendarMore', WHERE WHAT IT READS IS OF BULK AT MOST 1048576: true; the input reads as it did. -/
def calendarMoreUptoRow : OpenClaim := { program := "ytpgbaaabfbkdjaa", sum := "6f5a477de97c1e39b14fd11ccc0fc332f4b13bed960a0e53093d0dfd7ce9ddd2", func := "franking/frankinglaw19.CalendarMore", spec := "calendarMore", unfollowed := true, recurses := true, apart := false, narrowed := true }
def CalendarMoreUptoSaid : Prop := calendarMoreUptoRow.holds Try.pinned (OpenSpec.upto calendarMoreSpec)

end Rows
end Go.Proofs.Ytpgbaaabfbkdjaa
