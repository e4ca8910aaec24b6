/-
  No cell of these rows narrows 'for every input' (looked for: loops, veiled, ifaces, maps, wideKeys, modest, calm, conditions, laid).
  DERIVED. THE GIVEN ROWS OF THIS SEAT. 4 by the template 'for every input the law returns true; each argument reads behind the call as it read before'; 0 by the template 'total and deterministic' (their statements: YtpkopdhdnnkemaaTotals.lean).
  GIVEN WITH THE SEED: the statements are not yours to turn. If you find one false, say at which input.
  Laid BY PROGRAM, IN A SANDBOX (cutbox-rows.mjs): the forced cells as the released guide's own fill.sh prints them over the translation de64741a70dbb2fe… (all of the seat's roots in one cut). By AI agents, Wed Nov 11 2026. No macro, syntax, notation, axiom, sorry.
-/
import Derived.Test.YtpkopdhdnnkemaaChecked
import GoSem.Claim
import GoSem.ClaimJoined
import GoSem.ClaimMapViews
import Derived.JoinedTies
import Derived.KernelRfl
namespace Go.Proofs.Ytpkopdhdnnkemaa
/- THE CELL 'sum', in the pinned program and in every row, IS THE sha256 OF THE DUMP (.gsa) THAT YtpkopdhdnnkemaaProg.lean LOADS. Nothing in Lean hashes anything: it is a label: what it is worth is what the hold of that sum in a sandbox is worth. -/
noncomputable def Try.pinned : Pinned := { name := "ytpkopdhdnnkemaa", sum := "de64741a70dbb2fe9c2150fd8bed3713501ba4f448008743ab5c26cb731da243", checked := Try.checked }
namespace Rows
def none {H : Type} : Left H := { results := [], args := [] }

/-- 'frankinglaw58.BondsSpec': WHATEVER THE INPUT: true; the input reads as it did. -/
def bondsSpecSpec : ChangeSpec := { name := "bondsSpec", fn := fun _ => fun
  | [d1, d2, d3] => { results := [.lit (.bool true)], args := [d1, d2, d3] }
  | _ => none }
def bondsSpecRow : OpenClaim := { program := "ytpkopdhdnnkemaa", sum := "de64741a70dbb2fe9c2150fd8bed3713501ba4f448008743ab5c26cb731da243", func := "franking/frankinglaw58.BondsSpec", spec := "bondsSpec", unfollowed := true, recurses := true, apart := false }
def BondsSpecSaid : Prop := bondsSpecRow.holds Try.pinned (OpenSpec.ofChange bondsSpecSpec)

/-- ITS FALSE NEIGHBOUR: 'it returns false'. Refute it at one input. -/
def bondsSpecWrong : ChangeSpec := { name := "bondsSpec", fn := fun _ => fun
  | [d1, d2, d3] => { results := [.lit (.bool false)], args := [d1, d2, d3] }
  | _ => none }
def BondsSpecWrongFalsely : Prop := bondsSpecRow.holds Try.pinned (OpenSpec.ofChange bondsSpecWrong)

/-- 'frankinglaw58.BondsPaySpec': WHATEVER THE INPUT: true; the input reads as it did. -/
def bondsPaySpecSpec : ChangeSpec := { name := "bondsPaySpec", fn := fun _ => fun
  | [d1, d2, d3, d4, d5] => { results := [.lit (.bool true)], args := [d1, d2, d3, d4, d5] }
  | _ => none }
def bondsPaySpecRow : OpenClaim := { program := "ytpkopdhdnnkemaa", sum := "de64741a70dbb2fe9c2150fd8bed3713501ba4f448008743ab5c26cb731da243", func := "franking/frankinglaw58.BondsPaySpec", spec := "bondsPaySpec", unfollowed := true, recurses := true, apart := false }
def BondsPaySpecSaid : Prop := bondsPaySpecRow.holds Try.pinned (OpenSpec.ofChange bondsPaySpecSpec)

/-- ITS FALSE NEIGHBOUR: 'it returns false'. Refute it at one input. -/
def bondsPaySpecWrong : ChangeSpec := { name := "bondsPaySpec", fn := fun _ => fun
  | [d1, d2, d3, d4, d5] => { results := [.lit (.bool false)], args := [d1, d2, d3, d4, d5] }
  | _ => none }
def BondsPaySpecWrongFalsely : Prop := bondsPaySpecRow.holds Try.pinned (OpenSpec.ofChange bondsPaySpecWrong)

/-- 'frankinglaw58.BondsOnly': WHATEVER THE INPUT: true; the input reads as it did. -/
def bondsOnlySpec : ChangeSpec := { name := "bondsOnly", fn := fun _ => fun
  | [d1, d2, d3, d4, d5] => { results := [.lit (.bool true)], args := [d1, d2, d3, d4, d5] }
  | _ => none }
def bondsOnlyRow : OpenClaim := { program := "ytpkopdhdnnkemaa", sum := "de64741a70dbb2fe9c2150fd8bed3713501ba4f448008743ab5c26cb731da243", func := "franking/frankinglaw58.BondsOnly", spec := "bondsOnly", unfollowed := true, recurses := true, apart := false }
def BondsOnlySaid : Prop := bondsOnlyRow.holds Try.pinned (OpenSpec.ofChange bondsOnlySpec)

/-- ITS FALSE NEIGHBOUR: 'it returns false'. Refute it at one input. -/
def bondsOnlyWrong : ChangeSpec := { name := "bondsOnly", fn := fun _ => fun
  | [d1, d2, d3, d4, d5] => { results := [.lit (.bool false)], args := [d1, d2, d3, d4, d5] }
  | _ => none }
def BondsOnlyWrongFalsely : Prop := bondsOnlyRow.holds Try.pinned (OpenSpec.ofChange bondsOnlyWrong)

/-- 'frankinglaw58.BondsPromise': WHATEVER THE INPUT: true; the input reads as it did. -/
def bondsPromiseSpec : ChangeSpec := { name := "bondsPromise", fn := fun _ => fun
  | [d1, d2, d3] => { results := [.lit (.bool true)], args := [d1, d2, d3] }
  | _ => none }
def bondsPromiseRow : OpenClaim := { program := "ytpkopdhdnnkemaa", sum := "de64741a70dbb2fe9c2150fd8bed3713501ba4f448008743ab5c26cb731da243", func := "franking/frankinglaw58.BondsPromise", spec := "bondsPromise", unfollowed := true, recurses := true, apart := false }
def BondsPromiseSaid : Prop := bondsPromiseRow.holds Try.pinned (OpenSpec.ofChange bondsPromiseSpec)

/-- ITS FALSE NEIGHBOUR: 'it returns false'. Refute it at one input. -/
def bondsPromiseWrong : ChangeSpec := { name := "bondsPromise", fn := fun _ => fun
  | [d1, d2, d3] => { results := [.lit (.bool false)], args := [d1, d2, d3] }
  | _ => none }
def BondsPromiseWrongFalsely : Prop := bondsPromiseRow.holds Try.pinned (OpenSpec.ofChange bondsPromiseWrong)

/- THE SECOND FORM. 'bulk': how many values and letters a reading holds, each counted each time it is reached (what is shared counts as often as it is met; a slice's spare places count too). A statement '..UptoSaid' is the law's where the arguments, and the package variables that the reading takes, are together of bulk at most 1048576: NARROWER than '..Said'. Prove '..Said' where nothing that the law and all that it calls make is longer than what came in: it says more and counts as full. Else prove '..UptoSaid'. A law counts once. -/
mutual
def uptoBulk {H : Type} : DataW H → Nat
  | .lit (.string bytes) => bytes.length + 1
  | .lit _ => 1
  | .nil => 1
  | .ptr d => uptoBulk d + 1
  | .slice elems spare => uptoBulkAll elems + uptoBulkAll spare + 1
  | .agg parts => uptoBulkAll parts + 1
  | .iface _ d => uptoBulk d + 1
  | .map entries => uptoBulkEntries entries + 1
  | .held _ => 1
def uptoBulkAll {H : Type} : List (DataW H) → Nat
  | [] => 0
  | d :: r => uptoBulk d + uptoBulkAll r
def uptoBulkEntries {H : Type} : List (Lit × DataW H) → Nat
  | [] => 0
  | x :: r => uptoBulkEntry x + uptoBulkEntries r
def uptoBulkEntry {H : Type} : Lit × DataW H → Nat
  | (.string bytes, d) => bytes.length + uptoBulk d + 1
  | (_, d) => uptoBulk d + 1
 end
def uptoSmall : (H : Type) → List (DataW H) → Bool := fun _ ds => decide (uptoBulkAll ds ≤ 1048576)
def OpenSpec.upto (s : _root_.Go.ChangeSpec) : _root_.Go.OpenSpec := { _root_.Go.OpenSpec.ofChange s with cond := some uptoSmall }

/-- 'frankinglaw58.BondsSpec', WHERE WHAT IT READS IS OF BULK AT MOST 1048576: true; the input reads as it did. -/
def bondsSpecUptoRow : OpenClaim := { program := "ytpkopdhdnnkemaa", sum := "de64741a70dbb2fe9c2150fd8bed3713501ba4f448008743ab5c26cb731da243", func := "franking/frankinglaw58.BondsSpec", spec := "bondsSpec", unfollowed := true, recurses := true, apart := false, narrowed := true }
def BondsSpecUptoSaid : Prop := bondsSpecUptoRow.holds Try.pinned (OpenSpec.upto bondsSpecSpec)

/-- 'frankinglaw58.BondsPaySpec', WHERE WHAT IT READS IS OF BULK AT MOST 1048576: true; the input reads as it did. -/
def bondsPaySpecUptoRow : OpenClaim := { program := "ytpkopdhdnnkemaa", sum := "de64741a70dbb2fe9c2150fd8bed3713501ba4f448008743ab5c26cb731da243", func := "franking/frankinglaw58.BondsPaySpec", spec := "bondsPaySpec", unfollowed := true, recurses := true, apart := false, narrowed := true }
def BondsPaySpecUptoSaid : Prop := bondsPaySpecUptoRow.holds Try.pinned (OpenSpec.upto bondsPaySpecSpec)

/-- 'frankinglaw58.BondsOnly', WHERE WHAT IT READS IS OF BULK AT MOST 1048576: true; the input reads as it did. -/
def bondsOnlyUptoRow : OpenClaim := { program := "ytpkopdhdnnkemaa", sum := "de64741a70dbb2fe9c2150fd8bed3713501ba4f448008743ab5c26cb731da243", func := "franking/frankinglaw58.BondsOnly", spec := "bondsOnly", unfollowed := true, recurses := true, apart := false, narrowed := true }
def BondsOnlyUptoSaid : Prop := bondsOnlyUptoRow.holds Try.pinned (OpenSpec.upto bondsOnlySpec)

/-- 'frankinglaw58.BondsPromise', WHERE WHAT IT READS IS OF BULK AT MOST 1048576: true; the input reads as it did. -/
def bondsPromiseUptoRow : OpenClaim := { program := "ytpkopdhdnnkemaa", sum := "de64741a70dbb2fe9c2150fd8bed3713501ba4f448008743ab5c26cb731da243", func := "franking/frankinglaw58.BondsPromise", spec := "bondsPromise", unfollowed := true, recurses := true, apart := false, narrowed := true }
def BondsPromiseUptoSaid : Prop := bondsPromiseUptoRow.holds Try.pinned (OpenSpec.upto bondsPromiseSpec)

end Rows
end Go.Proofs.Ytpkopdhdnnkemaa
