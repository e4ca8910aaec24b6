/-
  No cell of these rows narrows 'for every input' (looked for: loops, veiled, ifaces, maps, wideKeys, modest, calm, conditions, laid).
  DERIVED. THE GIVEN ROWS OF THIS SEAT. 5 by the template 'for every input the law returns true; each argument reads behind the call as it read before'; 0 by the template 'total and deterministic' (their statements: YtcncbmdkifdggaaTotals.lean).
  GIVEN WITH THE SEED: the statements are not yours to turn. If you find one false, say at which input.
  Laid BY PROGRAM, IN A SANDBOX (cutbox-rows.mjs): the forced cells as the released guide's own fill.sh prints them over the translation 1d0f9625a1ed4e79… (all of the seat's roots in one cut). By AI agents, Wed Nov 11 2026. No macro, syntax, notation, axiom, sorry.
-/
import Derived.Test.YtcncbmdkifdggaaChecked
import GoSem.Claim
import GoSem.ClaimJoined
import GoSem.ClaimMapViews
import Derived.JoinedTies
import Derived.KernelRfl
namespace Go.Proofs.Ytcncbmdkifdggaa
/- THE CELL 'sum', in the pinned program and in every row, IS THE sha256 OF THE DUMP (.gsa) THAT YtcncbmdkifdggaaProg.lean LOADS. Nothing in Lean hashes anything: it is a label: what it is worth is what the hold of that sum in a sandbox is worth. -/
noncomputable def Try.pinned : Pinned := { name := "ytcncbmdkifdggaa", sum := "1d0f9625a1ed4e79244a1c6ebb26e68d06773340eedb27d8e11ee5e48d0636b7", checked := Try.checked }
namespace Rows
def none {H : Type} : Left H := { results := [], args := [] }

/-- 'frankinglaw40.FundSpec': WHATEVER THE INPUT: true; the input reads as it did. -/
def fundSpecSpec : ChangeSpec := { name := "fundSpec", fn := fun _ => fun
  | [d1, d2, d3, d4, d5] => { results := [.lit (.bool true)], args := [d1, d2, d3, d4, d5] }
  | _ => none }
def fundSpecRow : OpenClaim := { program := "ytcncbmdkifdggaa", sum := "1d0f9625a1ed4e79244a1c6ebb26e68d06773340eedb27d8e11ee5e48d0636b7", func := "franking/frankinglaw40.FundSpec", spec := "fundSpec", unfollowed := true, recurses := true, apart := false }
def FundSpecSaid : Prop := fundSpecRow.holds Try.pinned (OpenSpec.ofChange fundSpecSpec)

/-- ITS FALSE NEIGHBOUR: 'it returns false'. Refute it at one input. -/
def fundSpecWrong : ChangeSpec := { name := "fundSpec", fn := fun _ => fun
  | [d1, d2, d3, d4, d5] => { results := [.lit (.bool false)], args := [d1, d2, d3, d4, d5] }
  | _ => none }
def FundSpecWrongFalsely : Prop := fundSpecRow.holds Try.pinned (OpenSpec.ofChange fundSpecWrong)

/-- 'frankinglaw40.FundShareSpec': WHATEVER THE INPUT: true; the input reads as it did. -/
def fundShareSpecSpec : ChangeSpec := { name := "fundShareSpec", fn := fun _ => fun
  | [d1, d2] => { results := [.lit (.bool true)], args := [d1, d2] }
  | _ => none }
def fundShareSpecRow : OpenClaim := { program := "ytcncbmdkifdggaa", sum := "1d0f9625a1ed4e79244a1c6ebb26e68d06773340eedb27d8e11ee5e48d0636b7", func := "franking/frankinglaw40.FundShareSpec", spec := "fundShareSpec", unfollowed := true, recurses := true, apart := false }
def FundShareSpecSaid : Prop := fundShareSpecRow.holds Try.pinned (OpenSpec.ofChange fundShareSpecSpec)

/-- ITS FALSE NEIGHBOUR: 'it returns false'. Refute it at one input. -/
def fundShareSpecWrong : ChangeSpec := { name := "fundShareSpec", fn := fun _ => fun
  | [d1, d2] => { results := [.lit (.bool false)], args := [d1, d2] }
  | _ => none }
def FundShareSpecWrongFalsely : Prop := fundShareSpecRow.holds Try.pinned (OpenSpec.ofChange fundShareSpecWrong)

/-- 'frankinglaw40.FundLegs': WHATEVER THE INPUT: true; the input reads as it did. -/
def fundLegsSpec : ChangeSpec := { name := "fundLegs", fn := fun _ => fun
  | [d1, d2, d3, d4, d5] => { results := [.lit (.bool true)], args := [d1, d2, d3, d4, d5] }
  | _ => none }
def fundLegsRow : OpenClaim := { program := "ytcncbmdkifdggaa", sum := "1d0f9625a1ed4e79244a1c6ebb26e68d06773340eedb27d8e11ee5e48d0636b7", func := "franking/frankinglaw40.FundLegs", spec := "fundLegs", unfollowed := true, recurses := true, apart := false }
def FundLegsSaid : Prop := fundLegsRow.holds Try.pinned (OpenSpec.ofChange fundLegsSpec)

/-- ITS FALSE NEIGHBOUR: 'it returns false'. Refute it at one input. -/
def fundLegsWrong : ChangeSpec := { name := "fundLegs", fn := fun _ => fun
  | [d1, d2, d3, d4, d5] => { results := [.lit (.bool false)], args := [d1, d2, d3, d4, d5] }
  | _ => none }
def FundLegsWrongFalsely : Prop := fundLegsRow.holds Try.pinned (OpenSpec.ofChange fundLegsWrong)

/-- 'frankinglaw40.FundShares': WHATEVER THE INPUT: true; the input reads as it did. -/
def fundSharesSpec : ChangeSpec := { name := "fundShares", fn := fun _ => fun
  | [d1, d2] => { results := [.lit (.bool true)], args := [d1, d2] }
  | _ => none }
def fundSharesRow : OpenClaim := { program := "ytcncbmdkifdggaa", sum := "1d0f9625a1ed4e79244a1c6ebb26e68d06773340eedb27d8e11ee5e48d0636b7", func := "franking/frankinglaw40.FundShares", spec := "fundShares", unfollowed := true, recurses := true, apart := false }
def FundSharesSaid : Prop := fundSharesRow.holds Try.pinned (OpenSpec.ofChange fundSharesSpec)

/-- ITS FALSE NEIGHBOUR: 'it returns false'. Refute it at one input. -/
def fundSharesWrong : ChangeSpec := { name := "fundShares", fn := fun _ => fun
  | [d1, d2] => { results := [.lit (.bool false)], args := [d1, d2] }
  | _ => none }
def FundSharesWrongFalsely : Prop := fundSharesRow.holds Try.pinned (OpenSpec.ofChange fundSharesWrong)

/-- 'frankinglaw40.FundCovers': WHATEVER THE INPUT: true; the input reads as it did. -/
def fundCoversSpec : ChangeSpec := { name := "fundCovers", fn := fun _ => fun
  | [d1, d2, d3, d4, d5] => { results := [.lit (.bool true)], args := [d1, d2, d3, d4, d5] }
  | _ => none }
def fundCoversRow : OpenClaim := { program := "ytcncbmdkifdggaa", sum := "1d0f9625a1ed4e79244a1c6ebb26e68d06773340eedb27d8e11ee5e48d0636b7", func := "franking/frankinglaw40.FundCovers", spec := "fundCovers", unfollowed := true, recurses := true, apart := false }
def FundCoversSaid : Prop := fundCoversRow.holds Try.pinned (OpenSpec.ofChange fundCoversSpec)

/-- ITS FALSE NEIGHBOUR: 'it returns false'. Refute it at one input. -/
def fundCoversWrong : ChangeSpec := { name := "fundCovers", fn := fun _ => fun
  | [d1, d2, d3, d4, d5] => { results := [.lit (.bool false)], args := [d1, d2, d3, d4, d5] }
  | _ => none }
def FundCoversWrongFalsely : Prop := fundCoversRow.holds Try.pinned (OpenSpec.ofChange fundCoversWrong)

/- THE SECOND FORM. 'bulk': how many values and letters a reading holds, each counted each time it is reached (what is shared counts as often as it is met; a slice's spare places count too). A statement '..UptoSaid' is the law's where the arguments, and the package variables that the reading takes, are together of bulk at most 1048576: NARROWER than '..Said'. Prove '..Said' where nothing that the law and all that it calls make is longer than what came in: it says more and counts as full. Else prove '..UptoSaid'. A law counts once. -/
mutual
def uptoBulk {H : Type} : DataW H → Nat
  | .lit (.string bytes) => bytes.length + 1
  | .lit _ => 1
  | .nil => 1
  | .ptr d => uptoBulk d + 1
  | .slice elems spare => uptoBulkAll elems + uptoBulkAll spare + 1
  | .agg parts => uptoBulkAll parts + 1
  | .iface _ d => uptoBulk d + 1
  | .map entries => uptoBulkEntries entries + 1
  | .held _ => 1
def uptoBulkAll {H : Type} : List (DataW H) → Nat
  | [] => 0
  | d :: r => uptoBulk d + uptoBulkAll r
def uptoBulkEntries {H : Type} : List (Lit × DataW H) → Nat
  | [] => 0
  | x :: r => uptoBulkEntry x + uptoBulkEntries r
def uptoBulkEntry {H : Type} : Lit × DataW H → Nat
  | (.string bytes, d) => bytes.length + uptoBulk d + 1
  | (_, d) => uptoBulk d + 1
 end
def uptoSmall : (H : Type) → List (DataW H) → Bool := fun _ ds => decide (uptoBulkAll ds ≤ 1048576)
def OpenSpec.upto (s : _root_.Go.ChangeSpec) : _root_.Go.OpenSpec := { _root_.Go.OpenSpec.ofChange s with cond := some uptoSmall }

/-- 'frankinglaw40.FundSpec', WHERE WHAT IT READS IS OF BULK AT MOST 1048576: true; the input reads as it did. -/
def fundSpecUptoRow : OpenClaim := { program := "ytcncbmdkifdggaa", sum := "1d0f9625a1ed4e79244a1c6ebb26e68d06773340eedb27d8e11ee5e48d0636b7", func := "franking/frankinglaw40.FundSpec", spec := "fundSpec", unfollowed := true, recurses := true, apart := false, narrowed := true }
def FundSpecUptoSaid : Prop := fundSpecUptoRow.holds Try.pinned (OpenSpec.upto fundSpecSpec)

/-- 'frankinglaw40.FundShareSpec', WHERE WHAT IT READS IS OF BULK AT MOST 1048576: true; the input reads as it did. -/
def fundShareSpecUptoRow : OpenClaim := { program := "ytcncbmdkifdggaa", sum := "1d0f9625a1ed4e79244a1c6ebb26e68d06773340eedb27d8e11ee5e48d0636b7", func := "franking/frankinglaw40.FundShareSpec", spec := "fundShareSpec", unfollowed := true, recurses := true, apart := false, narrowed := true }
def FundShareSpecUptoSaid : Prop := fundShareSpecUptoRow.holds Try.pinned (OpenSpec.upto fundShareSpecSpec)

/-- 'frankinglaw40.FundLegs', WHERE WHAT IT READS IS OF BULK AT MOST 1048576: true; the input reads as it did. -/
def fundLegsUptoRow : OpenClaim := { program := "ytcncbmdkifdggaa", sum := "1d0f9625a1ed4e79244a1c6ebb26e68d06773340eedb27d8e11ee5e48d0636b7", func := "franking/frankinglaw40.FundLegs", spec := "fundLegs", unfollowed := true, recurses := true, apart := false, narrowed := true }
def FundLegsUptoSaid : Prop := fundLegsUptoRow.holds Try.pinned (OpenSpec.upto fundLegsSpec)

/-- 'frankinglaw40.FundShares', WHERE WHAT IT READS IS OF BULK AT MOST 1048576: true; the input reads as it did. -/
def fundSharesUptoRow : OpenClaim := { program := "ytcncbmdkifdggaa", sum := "1d0f9625a1ed4e79244a1c6ebb26e68d06773340eedb27d8e11ee5e48d0636b7", func := "franking/frankinglaw40.FundShares", spec := "fundShares", unfollowed := true, recurses := true, apart := false, narrowed := true }
def FundSharesUptoSaid : Prop := fundSharesUptoRow.holds Try.pinned (OpenSpec.upto fundSharesSpec)

/-- 'frankinglaw40.FundCovers', WHERE WHAT IT READS IS OF BULK AT MOST 1048576: true; the input reads as it did. -/
def fundCoversUptoRow : OpenClaim := { program := "ytcncbmdkifdggaa", sum := "1d0f9625a1ed4e79244a1c6ebb26e68d06773340eedb27d8e11ee5e48d0636b7", func := "franking/frankinglaw40.FundCovers", spec := "fundCovers", unfollowed := true, recurses := true, apart := false, narrowed := true }
def FundCoversUptoSaid : Prop := fundCoversUptoRow.holds Try.pinned (OpenSpec.upto fundCoversSpec)

end Rows
end Go.Proofs.Ytcncbmdkifdggaa
