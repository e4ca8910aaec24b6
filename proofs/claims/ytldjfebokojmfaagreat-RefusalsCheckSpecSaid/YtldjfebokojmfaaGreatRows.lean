/-
  NARROWER THAN 'FOR EVERY INPUT', by the rows' own cells (each row's printed sentence says how): RefusalsCheckSpec: loops.
  DERIVED. THE GIVEN ROWS OF THIS SEAT. 2 by the template 'for every input the law returns true; each argument reads behind the call as it read before'; 0 by the template 'total and deterministic' (their statements: YtldjfebokojmfaaGreatTotals.lean).
  GIVEN WITH THE SEED: the statements are not yours to turn. If you find one false, say at which input.
  Laid BY PROGRAM, IN A SANDBOX (cutbox-rows.mjs): the forced cells as the released guide's own fill.sh prints them over the translation 3af5563a5adee972… (all of the seat's roots in one cut). By AI agents, Wed Nov 11 2026. No macro, syntax, notation, axiom, sorry.
-/
import Derived.Test.YtldjfebokojmfaaGreatChecked
import GoSem.Claim
import GoSem.ClaimJoined
import GoSem.ClaimMapViews
import Derived.JoinedTies
import Derived.KernelRfl
namespace Go.Proofs.YtldjfebokojmfaaGreat
/- THE CELL 'sum', in the pinned program and in every row, IS THE sha256 OF THE DUMP (.gsa) THAT YtldjfebokojmfaaGreatProg.lean LOADS. Nothing in Lean hashes anything: it is a label: what it is worth is what the hold of that sum in a sandbox is worth. -/
noncomputable def Tryz.pinned : Pinned := { name := "ytldjfebokojmfaagreat", sum := "3af5563a5adee9723e51e0f9ecab8cfd90c4dc41862b431aa482c688bf6d7c1e", checked := Tryz.checked }
namespace Rows
def none {H : Type} : Left H := { results := [], args := [] }

/-- 'frankinglaw23.RefusalsSpec': WHATEVER THE INPUT: true; the input reads as it did. -/
def refusalsSpecSpec : ChangeSpec := { name := "refusalsSpec", fn := fun _ => fun
  | [d1, d2, d3, d4] => { results := [.lit (.bool true)], args := [d1, d2, d3, d4] }
  | _ => none }
def refusalsSpecRow : OpenClaim := { program := "ytldjfebokojmfaagreat", sum := "3af5563a5adee9723e51e0f9ecab8cfd90c4dc41862b431aa482c688bf6d7c1e", func := "franking/frankinglaw23.RefusalsSpec", spec := "refusalsSpec", unfollowed := true, recurses := true, plainKeys := false, apart := false }
def RefusalsSpecSaid : Prop := refusalsSpecRow.holds Tryz.pinned (OpenSpec.ofChange refusalsSpecSpec)

/-- ITS FALSE NEIGHBOUR: 'it returns false'. Refute it at one input. -/
def refusalsSpecWrong : ChangeSpec := { name := "refusalsSpec", fn := fun _ => fun
  | [d1, d2, d3, d4] => { results := [.lit (.bool false)], args := [d1, d2, d3, d4] }
  | _ => none }
def RefusalsSpecWrongFalsely : Prop := refusalsSpecRow.holds Tryz.pinned (OpenSpec.ofChange refusalsSpecWrong)

/-- 'frankinglaw23.RefusalsCheckSpec': WHATEVER THE INPUT: true; the input reads as it did. -/
def refusalsCheckSpecSpec : ChangeSpec := { name := "refusalsCheckSpec", fn := fun _ => fun
  | [d1, d2, d3, d4, d5] => { results := [.lit (.bool true)], args := [d1, d2, d3, d4, d5] }
  | _ => none }
def refusalsCheckSpecRow : OpenClaim := { program := "ytldjfebokojmfaagreat", sum := "3af5563a5adee9723e51e0f9ecab8cfd90c4dc41862b431aa482c688bf6d7c1e", func := "franking/frankinglaw23.RefusalsCheckSpec", spec := "refusalsCheckSpec", unfollowed := true, recurses := true, loops := true, plainKeys := false, apart := false }
def RefusalsCheckSpecSaid : Prop := refusalsCheckSpecRow.holds Tryz.pinned (OpenSpec.ofChange refusalsCheckSpecSpec)

/-- ITS FALSE NEIGHBOUR: 'it returns false'. Refute it at one input. -/
def refusalsCheckSpecWrong : ChangeSpec := { name := "refusalsCheckSpec", fn := fun _ => fun
  | [d1, d2, d3, d4, d5] => { results := [.lit (.bool false)], args := [d1, d2, d3, d4, d5] }
  | _ => none }
def RefusalsCheckSpecWrongFalsely : Prop := refusalsCheckSpecRow.holds Tryz.pinned (OpenSpec.ofChange refusalsCheckSpecWrong)

/- THE SECOND FORM. 'bulk': how many values and letters a reading holds, each counted each time it is reached (what is shared counts as often as it is met; a slice's spare places count too). A statement '..UptoSaid' is the law's where the arguments, and the package variables that the reading takes, are together of bulk at most 1048576: NARROWER than '..Said'. Prove '..Said' where nothing that the law and all that it calls make is longer than what came in: it says more and counts as full. Else prove '..UptoSaid'. A law counts once. -/
mutual
def uptoBulk {H : Type} : DataW H → Nat
  | .lit (.string bytes) => bytes.length + 1
  | .lit _ => 1
  | .nil => 1
  | .ptr d => uptoBulk d + 1
  | .slice elems spare => uptoBulkAll elems + uptoBulkAll spare + 1
  | .agg parts => uptoBulkAll parts + 1
  | .iface _ d => uptoBulk d + 1
  | .map entries => uptoBulkEntries entries + 1
  | .held _ => 1
def uptoBulkAll {H : Type} : List (DataW H) → Nat
  | [] => 0
  | d :: r => uptoBulk d + uptoBulkAll r
def uptoBulkEntries {H : Type} : List (Lit × DataW H) → Nat
  | [] => 0
  | x :: r => uptoBulkEntry x + uptoBulkEntries r
def uptoBulkEntry {H : Type} : Lit × DataW H → Nat
  | (.string bytes, d) => bytes.length + uptoBulk d + 1
  | (_, d) => uptoBulk d + 1
 end
def uptoSmall : (H : Type) → List (DataW H) → Bool := fun _ ds => decide (uptoBulkAll ds ≤ 1048576)
def OpenSpec.upto (s : _root_.Go.ChangeSpec) : _root_.Go.OpenSpec := { _root_.Go.OpenSpec.ofChange s with cond := some uptoSmall }

/-- 'frankinglaw23.RefusalsSpec', WHERE WHAT IT READS IS OF BULK AT MOST 1048576: true; the input reads as it did. -/
def refusalsSpecUptoRow : OpenClaim := { program := "ytldjfebokojmfaagreat", sum := "3af5563a5adee9723e51e0f9ecab8cfd90c4dc41862b431aa482c688bf6d7c1e", func := "franking/frankinglaw23.RefusalsSpec", spec := "refusalsSpec", unfollowed := true, recurses := true, plainKeys := false, apart := false, narrowed := true }
def RefusalsSpecUptoSaid : Prop := refusalsSpecUptoRow.holds Tryz.pinned (OpenSpec.upto refusalsSpecSpec)

/-- 'frankinglaw23.RefusalsCheckSpec', WHERE WHAT IT READS IS OF BULK AT MOST 1048576: true; the input reads as it did. -/
def refusalsCheckSpecUptoRow : OpenClaim := { program := "ytldjfebokojmfaagreat", sum := "3af5563a5adee9723e51e0f9ecab8cfd90c4dc41862b431aa482c688bf6d7c1e", func := "franking/frankinglaw23.RefusalsCheckSpec", spec := "refusalsCheckSpec", unfollowed := true, recurses := true, loops := true, plainKeys := false, apart := false, narrowed := true }
def RefusalsCheckSpecUptoSaid : Prop := refusalsCheckSpecUptoRow.holds Tryz.pinned (OpenSpec.upto refusalsCheckSpecSpec)

end Rows
end Go.Proofs.YtldjfebokojmfaaGreat
