/-
  No cell of these rows narrows 'for every input' (looked for: loops, veiled, ifaces, maps, wideKeys, modest, calm, conditions, laid).
  DERIVED. THE GIVEN ROWS OF THIS SEAT. 6 by the template 'for every input the law returns true; each argument reads behind the call as it read before'; 0 by the template 'total and deterministic' (their statements: YtkhfmgikbkjjjaaTotals.lean).
  GIVEN WITH THE SEED: the statements are not yours to turn. If you find one false, say at which input.
  Laid BY PROGRAM, IN A SANDBOX (cutbox-rows.mjs): the forced cells as the released guide's own fill.sh prints them over the translation 933c4a8265096ceb… (all of the seat's roots in one cut). By AI agents, Wed Nov 11 2026. No macro, syntax, notation, axiom, sorry.
-/
import Derived.Test.YtkhfmgikbkjjjaaChecked
import GoSem.Claim
import GoSem.ClaimJoined
import GoSem.ClaimMapViews
import Derived.JoinedTies
import Derived.KernelRfl
namespace Go.Proofs.Ytkhfmgikbkjjjaa
/- THE CELL 'sum', in the pinned program and in every row, IS THE sha256 OF THE DUMP (.gsa) THAT YtkhfmgikbkjjjaaProg.lean LOADS. Nothing in Lean hashes anything: it is a label: what it is worth is what the hold of that sum in a sandbox is worth. -/
noncomputable def Try.pinned : Pinned := { name := "ytkhfmgikbkjjjaa", sum := "933c4a8265096cebd10fc6f2175ac4f5fe382942a86f223c18a8fa78b525417f", checked := Try.checked }
namespace Rows
def none {H : Type} : Left H := { results := [], args := [] }

/-- 'frankinglaw38.BooksSpec': WHATEVER THE INPUT: true; the input reads as it did. -/
def booksSpecSpec : ChangeSpec := { name := "booksSpec", fn := fun _ => fun
  | [d1, d2] => { results := [.lit (.bool true)], args := [d1, d2] }
  | _ => none }
def booksSpecRow : OpenClaim := { program := "ytkhfmgikbkjjjaa", sum := "933c4a8265096cebd10fc6f2175ac4f5fe382942a86f223c18a8fa78b525417f", func := "franking/frankinglaw38.BooksSpec", spec := "booksSpec", unfollowed := true, recurses := true, apart := false }
def BooksSpecSaid : Prop := booksSpecRow.holds Try.pinned (OpenSpec.ofChange booksSpecSpec)

/-- ITS FALSE NEIGHBOUR: 'it returns false'. Refute it at one input. -/
def booksSpecWrong : ChangeSpec := { name := "booksSpec", fn := fun _ => fun
  | [d1, d2] => { results := [.lit (.bool false)], args := [d1, d2] }
  | _ => none }
def BooksSpecWrongFalsely : Prop := booksSpecRow.holds Try.pinned (OpenSpec.ofChange booksSpecWrong)

/-- 'frankinglaw38.BooksSum': WHATEVER THE INPUT: true; the input reads as it did. -/
def booksSumSpec : ChangeSpec := { name := "booksSum", fn := fun _ => fun
  | [d1, d2] => { results := [.lit (.bool true)], args := [d1, d2] }
  | _ => none }
def booksSumRow : OpenClaim := { program := "ytkhfmgikbkjjjaa", sum := "933c4a8265096cebd10fc6f2175ac4f5fe382942a86f223c18a8fa78b525417f", func := "franking/frankinglaw38.BooksSum", spec := "booksSum", unfollowed := true, recurses := true, apart := false }
def BooksSumSaid : Prop := booksSumRow.holds Try.pinned (OpenSpec.ofChange booksSumSpec)

/-- ITS FALSE NEIGHBOUR: 'it returns false'. Refute it at one input. -/
def booksSumWrong : ChangeSpec := { name := "booksSum", fn := fun _ => fun
  | [d1, d2] => { results := [.lit (.bool false)], args := [d1, d2] }
  | _ => none }
def BooksSumWrongFalsely : Prop := booksSumRow.holds Try.pinned (OpenSpec.ofChange booksSumWrong)

/-- 'frankinglaw38.BooksFirst': WHATEVER THE INPUT: true; the input reads as it did. -/
def booksFirstSpec : ChangeSpec := { name := "booksFirst", fn := fun _ => fun
  | [d1, d2] => { results := [.lit (.bool true)], args := [d1, d2] }
  | _ => none }
def booksFirstRow : OpenClaim := { program := "ytkhfmgikbkjjjaa", sum := "933c4a8265096cebd10fc6f2175ac4f5fe382942a86f223c18a8fa78b525417f", func := "franking/frankinglaw38.BooksFirst", spec := "booksFirst", unfollowed := true, recurses := true, apart := false }
def BooksFirstSaid : Prop := booksFirstRow.holds Try.pinned (OpenSpec.ofChange booksFirstSpec)

/-- ITS FALSE NEIGHBOUR: 'it returns false'. Refute it at one input. -/
def booksFirstWrong : ChangeSpec := { name := "booksFirst", fn := fun _ => fun
  | [d1, d2] => { results := [.lit (.bool false)], args := [d1, d2] }
  | _ => none }
def BooksFirstWrongFalsely : Prop := booksFirstRow.holds Try.pinned (OpenSpec.ofChange booksFirstWrong)

/-- 'frankinglaw38.BooksSteps': WHATEVER THE INPUT: true; the input reads as it did. -/
def booksStepsSpec : ChangeSpec := { name := "booksSteps", fn := fun _ => fun
  | [d1, d2, d3] => { results := [.lit (.bool true)], args := [d1, d2, d3] }
  | _ => none }
def booksStepsRow : OpenClaim := { program := "ytkhfmgikbkjjjaa", sum := "933c4a8265096cebd10fc6f2175ac4f5fe382942a86f223c18a8fa78b525417f", func := "franking/frankinglaw38.BooksSteps", spec := "booksSteps", unfollowed := true, recurses := true, apart := false }
def BooksStepsSaid : Prop := booksStepsRow.holds Try.pinned (OpenSpec.ofChange booksStepsSpec)

/-- ITS FALSE NEIGHBOUR: 'it returns false'. Refute it at one input. -/
def booksStepsWrong : ChangeSpec := { name := "booksSteps", fn := fun _ => fun
  | [d1, d2, d3] => { results := [.lit (.bool false)], args := [d1, d2, d3] }
  | _ => none }
def BooksStepsWrongFalsely : Prop := booksStepsRow.holds Try.pinned (OpenSpec.ofChange booksStepsWrong)

/-- 'frankinglaw38.BooksOrder': WHATEVER THE INPUT: true; the input reads as it did. -/
def booksOrderSpec : ChangeSpec := { name := "booksOrder", fn := fun _ => fun
  | [d1, d2, d3] => { results := [.lit (.bool true)], args := [d1, d2, d3] }
  | _ => none }
def booksOrderRow : OpenClaim := { program := "ytkhfmgikbkjjjaa", sum := "933c4a8265096cebd10fc6f2175ac4f5fe382942a86f223c18a8fa78b525417f", func := "franking/frankinglaw38.BooksOrder", spec := "booksOrder", unfollowed := true, recurses := true, apart := false }
def BooksOrderSaid : Prop := booksOrderRow.holds Try.pinned (OpenSpec.ofChange booksOrderSpec)

/-- ITS FALSE NEIGHBOUR: 'it returns false'. Refute it at one input. -/
def booksOrderWrong : ChangeSpec := { name := "booksOrder", fn := fun _ => fun
  | [d1, d2, d3] => { results := [.lit (.bool false)], args := [d1, d2, d3] }
  | _ => none }
def BooksOrderWrongFalsely : Prop := booksOrderRow.holds Try.pinned (OpenSpec.ofChange booksOrderWrong)

/-- 'frankinglaw38.BooksOne': WHATEVER THE INPUT: true; the input reads as it did. -/
def booksOneSpec : ChangeSpec := { name := "booksOne", fn := fun _ => fun
  | [d1, d2, d3] => { results := [.lit (.bool true)], args := [d1, d2, d3] }
  | _ => none }
def booksOneRow : OpenClaim := { program := "ytkhfmgikbkjjjaa", sum := "933c4a8265096cebd10fc6f2175ac4f5fe382942a86f223c18a8fa78b525417f", func := "franking/frankinglaw38.BooksOne", spec := "booksOne", unfollowed := true, recurses := true, apart := false }
def BooksOneSaid : Prop := booksOneRow.holds Try.pinned (OpenSpec.ofChange booksOneSpec)

/-- ITS FALSE NEIGHBOUR: 'it returns false'. Refute it at one input. -/
def booksOneWrong : ChangeSpec := { name := "booksOne", fn := fun _ => fun
  | [d1, d2, d3] => { results := [.lit (.bool false)], args := [d1, d2, d3] }
  | _ => none }
def BooksOneWrongFalsely : Prop := booksOneRow.holds Try.pinned (OpenSpec.ofChange booksOneWrong)

/- THE SECOND FORM. 'bulk': how many values and letters a reading holds, each counted each time it is reached (what is shared counts as often as it is met; a slice's spare places count too). A statement '..UptoSaid' is the law's where the arguments, and the package variables that the reading takes, are together of bulk at most 1048576: NARROWER than '..Said'. Prove '..Said' where nothing that the law and all that it calls make is longer than what came in: it says more and counts as full. Else prove '..UptoSaid'. A law counts once. -/
mutual
def uptoBulk {H : Type} : DataW H → Nat
  | .lit (.string bytes) => bytes.length + 1
  | .lit _ => 1
  | .nil => 1
  | .ptr d => uptoBulk d + 1
  | .slice elems spare => uptoBulkAll elems + uptoBulkAll spare + 1
  | .agg parts => uptoBulkAll parts + 1
  | .iface _ d => uptoBulk d + 1
  | .map entries => uptoBulkEntries entries + 1
  | .held _ => 1
def uptoBulkAll {H : Type} : List (DataW H) → Nat
  | [] => 0
  | d :: r => uptoBulk d + uptoBulkAll r
def uptoBulkEntries {H : Type} : List (Lit × DataW H) → Nat
  | [] => 0
  | x :: r => uptoBulkEntry x + uptoBulkEntries r
def uptoBulkEntry {H : Type} : Lit × DataW H → Nat
  | (.string bytes, d) => bytes.length + uptoBulk d + 1
  | (_, d) => uptoBulk d + 1
 end
def uptoSmall : (H : Type) → List (DataW H) → Bool := fun _ ds => decide (uptoBulkAll ds ≤ 1048576)
def OpenSpec.upto (s : _root_.Go.ChangeSpec) : _root_.Go.OpenSpec := { _root_.Go.OpenSpec.ofChange s with cond := some uptoSmall }

/-- 'frankinglaw38.BooksSpec', WHERE WHAT IT READS IS OF BULK AT MOST 1048576: true; the input reads as it did. -/
def booksSpecUptoRow : OpenClaim := { program := "ytkhfmgikbkjjjaa", sum := "933c4a8265096cebd10fc6f2175ac4f5fe382942a86f223c18a8fa78b525417f", func := "franking/frankinglaw38.BooksSpec", spec := "booksSpec", unfollowed := true, recurses := true, apart := false, narrowed := true }
def BooksSpecUptoSaid : Prop := booksSpecUptoRow.holds Try.pinned (OpenSpec.upto booksSpecSpec)

/-- 'frankinglaw38.BooksSum', WHERE WHAT IT READS IS OF BULK AT MOST 1048576: true; the input reads as it did. -/
def booksSumUptoRow : OpenClaim := { program := "ytkhfmgikbkjjjaa", sum := "933c4a8265096cebd10fc6f2175ac4f5fe382942a86f223c18a8fa78b525417f", func := "franking/frankinglaw38.BooksSum", spec := "booksSum", unfollowed := true, recurses := true, apart := false, narrowed := true }
def BooksSumUptoSaid : Prop := booksSumUptoRow.holds Try.pinned (OpenSpec.upto booksSumSpec)

/-- 'frankinglaw38.BooksFirst', WHERE WHAT IT READS IS OF BULK AT MOST 1048576: true; the input reads as it did. -/
def booksFirstUptoRow : OpenClaim := { program := "ytkhfmgikbkjjjaa", sum := "933c4a8265096cebd10fc6f2175ac4f5fe382942a86f223c18a8fa78b525417f", func := "franking/frankinglaw38.BooksFirst", spec := "booksFirst", unfollowed := true, recurses := true, apart := false, narrowed := true }
def BooksFirstUptoSaid : Prop := booksFirstUptoRow.holds Try.pinned (OpenSpec.upto booksFirstSpec)

/-- 'frankinglaw38.BooksSteps', WHERE WHAT IT READS IS OF BULK AT MOST 1048576: true; the input reads as it did. -/
def booksStepsUptoRow : OpenClaim := { program := "ytkhfmgikbkjjjaa", sum := "933c4a8265096cebd10fc6f2175ac4f5fe382942a86f223c18a8fa78b525417f", func := "franking/frankinglaw38.BooksSteps", spec := "booksSteps", unfollowed := true, recurses := true, apart := false, narrowed := true }
def BooksStepsUptoSaid : Prop := booksStepsUptoRow.holds Try.pinned (OpenSpec.upto booksStepsSpec)

/-- 'frankinglaw38.BooksOrder', WHERE WHAT IT READS IS OF BULK AT MOST 1048576: true; the input reads as it did. -/
def booksOrderUptoRow : OpenClaim := { program := "ytkhfmgikbkjjjaa", sum := "933c4a8265096cebd10fc6f2175ac4f5fe382942a86f223c18a8fa78b525417f", func := "franking/frankinglaw38.BooksOrder", spec := "booksOrder", unfollowed := true, recurses := true, apart := false, narrowed := true }
def BooksOrderUptoSaid : Prop := booksOrderUptoRow.holds Try.pinned (OpenSpec.upto booksOrderSpec)

/-- 'frankinglaw38.BooksOne', WHERE WHAT IT READS IS OF BULK AT MOST 1048576: true; the input reads as it did. -/
def booksOneUptoRow : OpenClaim := { program := "ytkhfmgikbkjjjaa", sum := "933c4a8265096cebd10fc6f2175ac4f5fe382942a86f223c18a8fa78b525417f", func := "franking/frankinglaw38.BooksOne", spec := "booksOne", unfollowed := true, recurses := true, apart := false, narrowed := true }
def BooksOneUptoSaid : Prop := booksOneUptoRow.holds Try.pinned (OpenSpec.upto booksOneSpec)

end Rows
end Go.Proofs.Ytkhfmgikbkjjjaa
