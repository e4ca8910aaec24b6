/-
  No cell of these rows narrows 'for every input' (looked for: loops, veiled, ifaces, maps, wideKeys, modest, calm, conditions, laid).
  DERIVED. THE GIVEN ROWS OF THIS SEAT. 13 by the template 'for every input the law returns true; each argument reads behind the call as it read before'; 0 by the template 'total and deterministic' (their statements: YtoadfmgnpmcbfaaGreatTotals.lean).
  GIVEN WITH THE SEED: the statements are not yours to turn. If you find one false, say at which input.
  Laid BY PROGRAM, IN A SANDBOX (cutbox-rows.mjs): the forced cells as the released guide's own fill.sh prints them over the translation 80929956161362a0… (all of the seat's roots in one cut). By AI agents, Wed Nov 11 2026. No macro, syntax, notation, axiom, sorry.
-/
import Derived.Test.YtoadfmgnpmcbfaaGreatChecked
import GoSem.Claim
import GoSem.ClaimJoined
import GoSem.ClaimMapViews
import Derived.JoinedTies
import Derived.KernelRfl
namespace Go.Proofs.YtoadfmgnpmcbfaaGreat
/- THE CELL 'sum', in the pinned program and in every row, IS THE sha256 OF THE DUMP (.gsa) THAT YtoadfmgnpmcbfaaGreatProg.lean LOADS. Nothing in Lean hashes anything: it is a label: what it is worth is what the hold of that sum in a sandbox is worth. -/
noncomputable def Tryz.pinned : Pinned := { name := "ytoadfmgnpmcbfaagreat", sum := "80929956161362a0fccb30fdfdde1ae0a6c6da3fc7598f4d11cfff5bfe1bccf1", checked := Tryz.checked }
namespace Rows
def none {H : Type} : Left H := { results := [], args := [] }

/-- 'frankinglaw39.EscrowSpec': WHATEVER THE INPUT: true; the input reads as it did. -/
def escrowSpecSpec : ChangeSpec := { name := "escrowSpec", fn := fun _ => fun
  | [d1, d2, d3, d4] => { results := [.lit (.bool true)], args := [d1, d2, d3, d4] }
  | _ => none }
def escrowSpecRow : OpenClaim := { program := "ytoadfmgnpmcbfaagreat", sum := "80929956161362a0fccb30fdfdde1ae0a6c6da3fc7598f4d11cfff5bfe1bccf1", func := "franking/frankinglaw39.EscrowSpec", spec := "escrowSpec", unfollowed := true, recurses := true, plainKeys := false, apart := false }
def EscrowSpecSaid : Prop := escrowSpecRow.holds Tryz.pinned (OpenSpec.ofChange escrowSpecSpec)

/-- ITS FALSE NEIGHBOUR: 'it returns false'. Refute it at one input. -/
def escrowSpecWrong : ChangeSpec := { name := "escrowSpec", fn := fun _ => fun
  | [d1, d2, d3, d4] => { results := [.lit (.bool false)], args := [d1, d2, d3, d4] }
  | _ => none }
def EscrowSpecWrongFalsely : Prop := escrowSpecRow.holds Tryz.pinned (OpenSpec.ofChange escrowSpecWrong)

/-- 'frankinglaw39.EscrowPaySpec': WHATEVER THE INPUT: true; the input reads as it did. -/
def escrowPaySpecSpec : ChangeSpec := { name := "escrowPaySpec", fn := fun _ => fun
  | [d1, d2, d3, d4, d5, d6] => { results := [.lit (.bool true)], args := [d1, d2, d3, d4, d5, d6] }
  | _ => none }
def escrowPaySpecRow : OpenClaim := { program := "ytoadfmgnpmcbfaagreat", sum := "80929956161362a0fccb30fdfdde1ae0a6c6da3fc7598f4d11cfff5bfe1bccf1", func := "franking/frankinglaw39.EscrowPaySpec", spec := "escrowPaySpec", unfollowed := true, recurses := true, plainKeys := false, apart := false }
def EscrowPaySpecSaid : Prop := escrowPaySpecRow.holds Tryz.pinned (OpenSpec.ofChange escrowPaySpecSpec)

/-- ITS FALSE NEIGHBOUR: 'it returns false'. Refute it at one input. -/
def escrowPaySpecWrong : ChangeSpec := { name := "escrowPaySpec", fn := fun _ => fun
  | [d1, d2, d3, d4, d5, d6] => { results := [.lit (.bool false)], args := [d1, d2, d3, d4, d5, d6] }
  | _ => none }
def EscrowPaySpecWrongFalsely : Prop := escrowPaySpecRow.holds Tryz.pinned (OpenSpec.ofChange escrowPaySpecWrong)

/-- 'frankinglaw39.EscrowEven': WHATEVER THE INPUT: true; the input reads as it did. -/
def escrowEvenSpec : ChangeSpec := { name := "escrowEven", fn := fun _ => fun
  | [d1, d2, d3, d4, d5, d6] => { results := [.lit (.bool true)], args := [d1, d2, d3, d4, d5, d6] }
  | _ => none }
def escrowEvenRow : OpenClaim := { program := "ytoadfmgnpmcbfaagreat", sum := "80929956161362a0fccb30fdfdde1ae0a6c6da3fc7598f4d11cfff5bfe1bccf1", func := "franking/frankinglaw39.EscrowEven", spec := "escrowEven", unfollowed := true, recurses := true, plainKeys := false, apart := false }
def EscrowEvenSaid : Prop := escrowEvenRow.holds Tryz.pinned (OpenSpec.ofChange escrowEvenSpec)

/-- ITS FALSE NEIGHBOUR: 'it returns false'. Refute it at one input. -/
def escrowEvenWrong : ChangeSpec := { name := "escrowEven", fn := fun _ => fun
  | [d1, d2, d3, d4, d5, d6] => { results := [.lit (.bool false)], args := [d1, d2, d3, d4, d5, d6] }
  | _ => none }
def EscrowEvenWrongFalsely : Prop := escrowEvenRow.holds Tryz.pinned (OpenSpec.ofChange escrowEvenWrong)

/-- 'frankinglaw39.EscrowLeg': WHATEVER THE INPUT: true; the input reads as it did. -/
def escrowLegSpec : ChangeSpec := { name := "escrowLeg", fn := fun _ => fun
  | [d1, d2, d3, d4, d5, d6] => { results := [.lit (.bool true)], args := [d1, d2, d3, d4, d5, d6] }
  | _ => none }
def escrowLegRow : OpenClaim := { program := "ytoadfmgnpmcbfaagreat", sum := "80929956161362a0fccb30fdfdde1ae0a6c6da3fc7598f4d11cfff5bfe1bccf1", func := "franking/frankinglaw39.EscrowLeg", spec := "escrowLeg", unfollowed := true, recurses := true, plainKeys := false, apart := false }
def EscrowLegSaid : Prop := escrowLegRow.holds Tryz.pinned (OpenSpec.ofChange escrowLegSpec)

/-- ITS FALSE NEIGHBOUR: 'it returns false'. Refute it at one input. -/
def escrowLegWrong : ChangeSpec := { name := "escrowLeg", fn := fun _ => fun
  | [d1, d2, d3, d4, d5, d6] => { results := [.lit (.bool false)], args := [d1, d2, d3, d4, d5, d6] }
  | _ => none }
def EscrowLegWrongFalsely : Prop := escrowLegRow.holds Tryz.pinned (OpenSpec.ofChange escrowLegWrong)

/-- 'frankinglaw42.AuditSpec': WHATEVER THE INPUT: true; the input reads as it did. -/
def auditSpecSpec : ChangeSpec := { name := "auditSpec", fn := fun _ => fun
  | [d1, d2, d3, d4, d5, d6] => { results := [.lit (.bool true)], args := [d1, d2, d3, d4, d5, d6] }
  | _ => none }
def auditSpecRow : OpenClaim := { program := "ytoadfmgnpmcbfaagreat", sum := "80929956161362a0fccb30fdfdde1ae0a6c6da3fc7598f4d11cfff5bfe1bccf1", func := "franking/frankinglaw42.AuditSpec", spec := "auditSpec", unfollowed := true, recurses := true, plainKeys := false, apart := false }
def AuditSpecSaid : Prop := auditSpecRow.holds Tryz.pinned (OpenSpec.ofChange auditSpecSpec)

/-- ITS FALSE NEIGHBOUR: 'it returns false'. Refute it at one input. -/
def auditSpecWrong : ChangeSpec := { name := "auditSpec", fn := fun _ => fun
  | [d1, d2, d3, d4, d5, d6] => { results := [.lit (.bool false)], args := [d1, d2, d3, d4, d5, d6] }
  | _ => none }
def AuditSpecWrongFalsely : Prop := auditSpecRow.holds Tryz.pinned (OpenSpec.ofChange auditSpecWrong)

/-- 'frankinglaw42.AuditMoney': WHATEVER THE INPUT: true; the input reads as it did. -/
def auditMoneySpec : ChangeSpec := { name := "auditMoney", fn := fun _ => fun
  | [d1, d2, d3, d4, d5, d6] => { results := [.lit (.bool true)], args := [d1, d2, d3, d4, d5, d6] }
  | _ => none }
def auditMoneyRow : OpenClaim := { program := "ytoadfmgnpmcbfaagreat", sum := "80929956161362a0fccb30fdfdde1ae0a6c6da3fc7598f4d11cfff5bfe1bccf1", func := "franking/frankinglaw42.AuditMoney", spec := "auditMoney", unfollowed := true, recurses := true, plainKeys := false, apart := false }
def AuditMoneySaid : Prop := auditMoneyRow.holds Tryz.pinned (OpenSpec.ofChange auditMoneySpec)

/-- ITS FALSE NEIGHBOUR: 'it returns false'. Refute it at one input. -/
def auditMoneyWrong : ChangeSpec := { name := "auditMoney", fn := fun _ => fun
  | [d1, d2, d3, d4, d5, d6] => { results := [.lit (.bool false)], args := [d1, d2, d3, d4, d5, d6] }
  | _ => none }
def AuditMoneyWrongFalsely : Prop := auditMoneyRow.holds Tryz.pinned (OpenSpec.ofChange auditMoneyWrong)

/-- 'frankinglaw41.SettleSpec': WHATEVER THE INPUT: true; the input reads as it did. -/
def settleSpecSpec : ChangeSpec := { name := "settleSpec", fn := fun _ => fun
  | [d1, d2, d3, d4, d5] => { results := [.lit (.bool true)], args := [d1, d2, d3, d4, d5] }
  | _ => none }
def settleSpecRow : OpenClaim := { program := "ytoadfmgnpmcbfaagreat", sum := "80929956161362a0fccb30fdfdde1ae0a6c6da3fc7598f4d11cfff5bfe1bccf1", func := "franking/frankinglaw41.SettleSpec", spec := "settleSpec", unfollowed := true, recurses := true, plainKeys := false, apart := false }
def SettleSpecSaid : Prop := settleSpecRow.holds Tryz.pinned (OpenSpec.ofChange settleSpecSpec)

/-- ITS FALSE NEIGHBOUR: 'it returns false'. Refute it at one input. -/
def settleSpecWrong : ChangeSpec := { name := "settleSpec", fn := fun _ => fun
  | [d1, d2, d3, d4, d5] => { results := [.lit (.bool false)], args := [d1, d2, d3, d4, d5] }
  | _ => none }
def SettleSpecWrongFalsely : Prop := settleSpecRow.holds Tryz.pinned (OpenSpec.ofChange settleSpecWrong)

/-- 'frankinglaw41.SettleOffices': WHATEVER THE INPUT: true; the input reads as it did. -/
def settleOfficesSpec : ChangeSpec := { name := "settleOffices", fn := fun _ => fun
  | [d1, d2, d3, d4, d5] => { results := [.lit (.bool true)], args := [d1, d2, d3, d4, d5] }
  | _ => none }
def settleOfficesRow : OpenClaim := { program := "ytoadfmgnpmcbfaagreat", sum := "80929956161362a0fccb30fdfdde1ae0a6c6da3fc7598f4d11cfff5bfe1bccf1", func := "franking/frankinglaw41.SettleOffices", spec := "settleOffices", unfollowed := true, recurses := true, plainKeys := false, apart := false }
def SettleOfficesSaid : Prop := settleOfficesRow.holds Tryz.pinned (OpenSpec.ofChange settleOfficesSpec)

/-- ITS FALSE NEIGHBOUR: 'it returns false'. Refute it at one input. -/
def settleOfficesWrong : ChangeSpec := { name := "settleOffices", fn := fun _ => fun
  | [d1, d2, d3, d4, d5] => { results := [.lit (.bool false)], args := [d1, d2, d3, d4, d5] }
  | _ => none }
def SettleOfficesWrongFalsely : Prop := settleOfficesRow.holds Tryz.pinned (OpenSpec.ofChange settleOfficesWrong)

/-- 'frankinglaw41.SettleBack': WHATEVER THE INPUT: true; the input reads as it did. -/
def settleBackSpec : ChangeSpec := { name := "settleBack", fn := fun _ => fun
  | [d1, d2, d3, d4, d5] => { results := [.lit (.bool true)], args := [d1, d2, d3, d4, d5] }
  | _ => none }
def settleBackRow : OpenClaim := { program := "ytoadfmgnpmcbfaagreat", sum := "80929956161362a0fccb30fdfdde1ae0a6c6da3fc7598f4d11cfff5bfe1bccf1", func := "franking/frankinglaw41.SettleBack", spec := "settleBack", unfollowed := true, recurses := true, plainKeys := false, apart := false }
def SettleBackSaid : Prop := settleBackRow.holds Tryz.pinned (OpenSpec.ofChange settleBackSpec)

/-- ITS FALSE NEIGHBOUR: 'it returns false'. Refute it at one input. -/
def settleBackWrong : ChangeSpec := { name := "settleBack", fn := fun _ => fun
  | [d1, d2, d3, d4, d5] => { results := [.lit (.bool false)], args := [d1, d2, d3, d4, d5] }
  | _ => none }
def SettleBackWrongFalsely : Prop := settleBackRow.holds Tryz.pinned (OpenSpec.ofChange settleBackWrong)

/-- 'frankinglaw41.SettleOrder': WHATEVER THE INPUT: true; the input reads as it did. -/
def settleOrderSpec : ChangeSpec := { name := "settleOrder", fn := fun _ => fun
  | [d1, d2, d3, d4, d5] => { results := [.lit (.bool true)], args := [d1, d2, d3, d4, d5] }
  | _ => none }
def settleOrderRow : OpenClaim := { program := "ytoadfmgnpmcbfaagreat", sum := "80929956161362a0fccb30fdfdde1ae0a6c6da3fc7598f4d11cfff5bfe1bccf1", func := "franking/frankinglaw41.SettleOrder", spec := "settleOrder", unfollowed := true, recurses := true, plainKeys := false, apart := false }
def SettleOrderSaid : Prop := settleOrderRow.holds Tryz.pinned (OpenSpec.ofChange settleOrderSpec)

/-- ITS FALSE NEIGHBOUR: 'it returns false'. Refute it at one input. -/
def settleOrderWrong : ChangeSpec := { name := "settleOrder", fn := fun _ => fun
  | [d1, d2, d3, d4, d5] => { results := [.lit (.bool false)], args := [d1, d2, d3, d4, d5] }
  | _ => none }
def SettleOrderWrongFalsely : Prop := settleOrderRow.holds Tryz.pinned (OpenSpec.ofChange settleOrderWrong)

/-- 'frankinglaw41.SettleZero': WHATEVER THE INPUT: true; the input reads as it did. -/
def settleZeroSpec : ChangeSpec := { name := "settleZero", fn := fun _ => fun
  | [d1, d2, d3, d4, d5] => { results := [.lit (.bool true)], args := [d1, d2, d3, d4, d5] }
  | _ => none }
def settleZeroRow : OpenClaim := { program := "ytoadfmgnpmcbfaagreat", sum := "80929956161362a0fccb30fdfdde1ae0a6c6da3fc7598f4d11cfff5bfe1bccf1", func := "franking/frankinglaw41.SettleZero", spec := "settleZero", unfollowed := true, recurses := true, plainKeys := false, apart := false }
def SettleZeroSaid : Prop := settleZeroRow.holds Tryz.pinned (OpenSpec.ofChange settleZeroSpec)

/-- ITS FALSE NEIGHBOUR: 'it returns false'. Refute it at one input. -/
def settleZeroWrong : ChangeSpec := { name := "settleZero", fn := fun _ => fun
  | [d1, d2, d3, d4, d5] => { results := [.lit (.bool false)], args := [d1, d2, d3, d4, d5] }
  | _ => none }
def SettleZeroWrongFalsely : Prop := settleZeroRow.holds Tryz.pinned (OpenSpec.ofChange settleZeroWrong)

/-- 'frankinglaw42.AuditSettles': WHATEVER THE INPUT: true; the input reads as it did. -/
def auditSettlesSpec : ChangeSpec := { name := "auditSettles", fn := fun _ => fun
  | [d1, d2, d3, d4, d5, d6] => { results := [.lit (.bool true)], args := [d1, d2, d3, d4, d5, d6] }
  | _ => none }
def auditSettlesRow : OpenClaim := { program := "ytoadfmgnpmcbfaagreat", sum := "80929956161362a0fccb30fdfdde1ae0a6c6da3fc7598f4d11cfff5bfe1bccf1", func := "franking/frankinglaw42.AuditSettles", spec := "auditSettles", unfollowed := true, recurses := true, plainKeys := false, apart := false }
def AuditSettlesSaid : Prop := auditSettlesRow.holds Tryz.pinned (OpenSpec.ofChange auditSettlesSpec)

/-- ITS FALSE NEIGHBOUR: 'it returns false'. Refute it at one input. -/
def auditSettlesWrong : ChangeSpec := { name := "auditSettles", fn := fun _ => fun
  | [d1, d2, d3, d4, d5, d6] => { results := [.lit (.bool false)], args := [d1, d2, d3, d4, d5, d6] }
  | _ => none }
def AuditSettlesWrongFalsely : Prop := auditSettlesRow.holds Tryz.pinned (OpenSpec.ofChange auditSettlesWrong)

/-- 'frankinglaw42.AuditNames': WHATEVER THE INPUT: true; the input reads as it did. -/
def auditNamesSpec : ChangeSpec := { name := "auditNames", fn := fun _ => fun
  | [d1, d2, d3, d4, d5, d6, d7] => { results := [.lit (.bool true)], args := [d1, d2, d3, d4, d5, d6, d7] }
  | _ => none }
def auditNamesRow : OpenClaim := { program := "ytoadfmgnpmcbfaagreat", sum := "80929956161362a0fccb30fdfdde1ae0a6c6da3fc7598f4d11cfff5bfe1bccf1", func := "franking/frankinglaw42.AuditNames", spec := "auditNames", unfollowed := true, recurses := true, plainKeys := false, apart := false }
def AuditNamesSaid : Prop := auditNamesRow.holds Tryz.pinned (OpenSpec.ofChange auditNamesSpec)

/-- ITS FALSE NEIGHBOUR: 'it returns false'. Refute it at one input. -/
def auditNamesWrong : ChangeSpec := { name := "auditNames", fn := fun _ => fun
  | [d1, d2, d3, d4, d5, d6, d7] => { results := [.lit (.bool false)], args := [d1, d2, d3, d4, d5, d6, d7] }
  | _ => none }
def AuditNamesWrongFalsely : Prop := auditNamesRow.holds Tryz.pinned (OpenSpec.ofChange auditNamesWrong)

/- THE SECOND FORM. 'bulk': how many values and letters a reading holds, each counted each time it is reached (what is shared counts as often as it is met; a slice's spare places count too). A statement '..UptoSaid' is the law's where the arguments, and the package variables that the reading takes, are together of bulk at most 1048576: NARROWER than '..Said'. Prove '..Said' where nothing that the law and all that it calls make is longer than what came in: it says more and counts as full. Else prove '..UptoSaid'. A law counts once. -/
mutual
def uptoBulk {H : Type} : DataW H → Nat
  | .lit (.string bytes) => bytes.length + 1
  | .lit _ => 1
  | .nil => 1
  | .ptr d => uptoBulk d + 1
  | .slice elems spare => uptoBulkAll elems + uptoBulkAll spare + 1
  | .agg parts => uptoBulkAll parts + 1
  | .iface _ d => uptoBulk d + 1
  | .map entries => uptoBulkEntries entries + 1
  | .held _ => 1
def uptoBulkAll {H : Type} : List (DataW H) → Nat
  | [] => 0
  | d :: r => uptoBulk d + uptoBulkAll r
def uptoBulkEntries {H : Type} : List (Lit × DataW H) → Nat
  | [] => 0
  | x :: r => uptoBulkEntry x + uptoBulkEntries r
def uptoBulkEntry {H : Type} : Lit × DataW H → Nat
  | (.string bytes, d) => bytes.length + uptoBulk d + 1
  | (_, d) => uptoBulk d + 1
 end
def uptoSmall : (H : Type) → List (DataW H) → Bool := fun _ ds => decide (uptoBulkAll ds ≤ 1048576)
def OpenSpec.upto (s : _root_.Go.ChangeSpec) : _root_.Go.OpenSpec := { _root_.Go.OpenSpec.ofChange s with cond := some uptoSmall }

/-- 'frankinglaw39.EscrowSpec', WHERE WHAT IT READS IS OF BULK AT MOST 1048576: true; the input reads as it did. -/
def escrowSpecUptoRow : OpenClaim := { program := "ytoadfmgnpmcbfaagreat", sum := "80929956161362a0fccb30fdfdde1ae0a6c6da3fc7598f4d11cfff5bfe1bccf1", func := "franking/frankinglaw39.EscrowSpec", spec := "escrowSpec", unfollowed := true, recurses := true, plainKeys := false, apart := false, narrowed := true }
def EscrowSpecUptoSaid : Prop := escrowSpecUptoRow.holds Tryz.pinned (OpenSpec.upto escrowSpecSpec)

/-- 'frankinglaw39.EscrowPaySpec', WHERE WHAT IT READS IS OF BULK AT MOST 1048576: true; the input reads as it did. -/
def escrowPaySpecUptoRow : OpenClaim := { program := "ytoadfmgnpmcbfaagreat", sum := "80929956161362a0fccb30fdfdde1ae0a6c6da3fc7598f4d11cfff5bfe1bccf1", func := "franking/frankinglaw39.EscrowPaySpec", spec := "escrowPaySpec", unfollowed := true, recurses := true, plainKeys := false, apart := false, narrowed := true }
def EscrowPaySpecUptoSaid : Prop := escrowPaySpecUptoRow.holds Tryz.pinned (OpenSpec.upto escrowPaySpecSpec)

/-- 'frankinglaw39.EscrowEven', WHERE WHAT IT READS IS OF BULK AT MOST 1048576: true; the input reads as it did. -/
def escrowEvenUptoRow : OpenClaim := { program := "ytoadfmgnpmcbfaagreat", sum := "80929956161362a0fccb30fdfdde1ae0a6c6da3fc7598f4d11cfff5bfe1bccf1", func := "franking/frankinglaw39.EscrowEven", spec := "escrowEven", unfollowed := true, recurses := true, plainKeys := false, apart := false, narrowed := true }
def EscrowEvenUptoSaid : Prop := escrowEvenUptoRow.holds Tryz.pinned (OpenSpec.upto escrowEvenSpec)

/-- 'frankinglaw39.EscrowLeg', WHERE WHAT IT READS IS OF BULK AT MOST 1048576: true; the input reads as it did. -/
def escrowLegUptoRow : OpenClaim := { program := "ytoadfmgnpmcbfaagreat", sum := "80929956161362a0fccb30fdfdde1ae0a6c6da3fc7598f4d11cfff5bfe1bccf1", func := "franking/frankinglaw39.EscrowLeg", spec := "escrowLeg", unfollowed := true, recurses := true, plainKeys := false, apart := false, narrowed := true }
def EscrowLegUptoSaid : Prop := escrowLegUptoRow.holds Tryz.pinned (OpenSpec.upto escrowLegSpec)

/-- 'frankinglaw42.AuditSpec', WHERE WHAT IT READS IS OF BULK AT MOST 1048576: true; the input reads as it did. -/
def auditSpecUptoRow : OpenClaim := { program := "ytoadfmgnpmcbfaagreat", sum := "80929956161362a0fccb30fdfdde1ae0a6c6da3fc7598f4d11cfff5bfe1bccf1", func := "franking/frankinglaw42.AuditSpec", spec := "auditSpec", unfollowed := true, recurses := true, plainKeys := false, apart := false, narrowed := true }
def AuditSpecUptoSaid : Prop := auditSpecUptoRow.holds Tryz.pinned (OpenSpec.upto auditSpecSpec)

/-- 'frankinglaw42.AuditMoney', WHERE WHAT IT READS IS OF BULK AT MOST 1048576: true; the input reads as it did. -/
def auditMoneyUptoRow : OpenClaim := { program := "ytoadfmgnpmcbfaagreat", sum := "80929956161362a0fccb30fdfdde1ae0a6c6da3fc7598f4d11cfff5bfe1bccf1", func := "franking/frankinglaw42.AuditMoney", spec := "auditMoney", unfollowed := true, recurses := true, plainKeys := false, apart := false, narrowed := true }
def AuditMoneyUptoSaid : Prop := auditMoneyUptoRow.holds Tryz.pinned (OpenSpec.upto auditMoneySpec)

/-- 'frankinglaw41.SettleSpec', WHERE WHAT IT READS IS OF BULK AT MOST 1048576: true; the input reads as it did. -/
def settleSpecUptoRow : OpenClaim := { program := "ytoadfmgnpmcbfaagreat", sum := "80929956161362a0fccb30fdfdde1ae0a6c6da3fc7598f4d11cfff5bfe1bccf1", func := "franking/frankinglaw41.SettleSpec", spec := "settleSpec", unfollowed := true, recurses := true, plainKeys := false, apart := false, narrowed := true }
def SettleSpecUptoSaid : Prop := settleSpecUptoRow.holds Tryz.pinned (OpenSpec.upto settleSpecSpec)

/-- 'frankinglaw41.SettleOffices', WHERE WHAT IT READS IS OF BULK AT MOST 1048576: true; the input reads as it did. -/
def settleOfficesUptoRow : OpenClaim := { program := "ytoadfmgnpmcbfaagreat", sum := "80929956161362a0fccb30fdfdde1ae0a6c6da3fc7598f4d11cfff5bfe1bccf1", func := "franking/frankinglaw41.SettleOffices", spec := "settleOffices", unfollowed := true, recurses := true, plainKeys := false, apart := false, narrowed := true }
def SettleOfficesUptoSaid : Prop := settleOfficesUptoRow.holds Tryz.pinned (OpenSpec.upto settleOfficesSpec)

/-- 'frankinglaw41.SettleBack', WHERE WHAT IT READS IS OF BULK AT MOST 1048576: true; the input reads as it did. -/
def settleBackUptoRow : OpenClaim := { program := "ytoadfmgnpmcbfaagreat", sum := "80929956161362a0fccb30fdfdde1ae0a6c6da3fc7598f4d11cfff5bfe1bccf1", func := "franking/frankinglaw41.SettleBack", spec := "settleBack", unfollowed := true, recurses := true, plainKeys := false, apart := false, narrowed := true }
def SettleBackUptoSaid : Prop := settleBackUptoRow.holds Tryz.pinned (OpenSpec.upto settleBackSpec)

/-- 'frankinglaw41.SettleOrder', WHERE WHAT IT READS IS OF BULK AT MOST 1048576: true; the input reads as it did. -/
def settleOrderUptoRow : OpenClaim := { program := "ytoadfmgnpmcbfaagreat", sum := "80929956161362a0fccb30fdfdde1ae0a6c6da3fc7598f4d11cfff5bfe1bccf1", func := "franking/frankinglaw41.SettleOrder", spec := "settleOrder", unfollowed := true, recurses := true, plainKeys := false, apart := false, narrowed := true }
def SettleOrderUptoSaid : Prop := settleOrderUptoRow.holds Tryz.pinned (OpenSpec.upto settleOrderSpec)

/-- 'frankinglaw41.SettleZero', WHERE WHAT IT READS IS OF BULK AT MOST 1048576: true; the input reads as it did. -/
def settleZeroUptoRow : OpenClaim := { program := "ytoadfmgnpmcbfaagreat", sum := "80929956161362a0fccb30fdfdde1ae0a6c6da3fc7598f4d11cfff5bfe1bccf1", func := "franking/frankinglaw41.SettleZero", spec := "settleZero", unfollowed := true, recurses := true, plainKeys := false, apart := false, narrowed := true }
def SettleZeroUptoSaid : Prop := settleZeroUptoRow.holds Tryz.pinned (OpenSpec.upto settleZeroSpec)

/-- 'frankinglaw42.AuditSettles', WHERE WHAT IT READS IS OF BULK AT MOST 1048576: true; the input reads as it did. -/
def auditSettlesUptoRow : OpenClaim := { program := "ytoadfmgnpmcbfaagreat", sum := "80929956161362a0fccb30fdfdde1ae0a6c6da3fc7598f4d11cfff5bfe1bccf1", func := "franking/frankinglaw42.AuditSettles", spec := "auditSettles", unfollowed := true, recurses := true, plainKeys := false, apart := false, narrowed := true }
def AuditSettlesUptoSaid : Prop := auditSettlesUptoRow.holds Tryz.pinned (OpenSpec.upto auditSettlesSpec)

/-- 'frankinglaw42.AuditNames', WHERE WHAT IT READS IS OF BULK AT MOST 1048576: true; the input reads as it did. -/
def auditNamesUptoRow : OpenClaim := { program := "ytoadfmgnpmcbfaagreat", sum := "80929956161362a0fccb30fdfdde1ae0a6c6da3fc7598f4d11cfff5bfe1bccf1", func := "franking/frankinglaw42.AuditNames", spec := "auditNames", unfollowed := true, recurses := true, plainKeys := false, apart := false, narrowed := true }
def AuditNamesUptoSaid : Prop := auditNamesUptoRow.holds Tryz.pinned (OpenSpec.upto auditNamesSpec)

end Rows
end Go.Proofs.YtoadfmgnpmcbfaaGreat
