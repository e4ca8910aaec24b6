/-
  No cell of these rows narrows 'for every input' (looked for: loops, veiled, ifaces, maps, wideKeys, modest, calm, conditions, laid).
  DERIVED. THE GIVEN ROWS OF THIS SEAT. 8 by the template 'for every input the law returns true; each argument reads behind the call as it read before'; 0 by the template 'total and deterministic' (their statements: YthengmdnikaooaaGreatTotals.lean).
  GIVEN WITH THE SEED: the statements are not yours to turn. If you find one false, say at which input.
  Laid BY PROGRAM, IN A SANDBOX (cutbox-rows.mjs): the forced cells as the released guide's own fill.sh prints them over the translation 865a70f078c94115… (all of the seat's roots in one cut). By AI agents, Wed Nov 11 2026. No macro, syntax, notation, axiom, sorry.
-/
import Derived.Test.YthengmdnikaooaaGreatChecked
import GoSem.Claim
import GoSem.ClaimJoined
import GoSem.ClaimMapViews
import Derived.JoinedTies
import Derived.KernelRfl
namespace Go.Proofs.YthengmdnikaooaaGreat
/- THE CELL 'sum', in the pinned program and in every row, IS THE sha256 OF THE DUMP (.gsa) THAT YthengmdnikaooaaGreatProg.lean LOADS. Nothing in Lean hashes anything: it is a label: what it is worth is what the hold of that sum in a sandbox is worth. -/
noncomputable def Tryz.pinned : Pinned := { name := "ythengmdnikaooaagreat", sum := "865a70f078c9411561a8bb5bb2c38ebf87eb1706ac9c608ecc62ce7f02e72d5a", checked := Tryz.checked }
namespace Rows
def none {H : Type} : Left H := { results := [], args := [] }

/-- 'frankinglaw22.PlansFitsSpec': WHATEVER THE INPUT: true; the input reads as it did. -/
def plansFitsSpecSpec : ChangeSpec := { name := "plansFitsSpec", fn := fun _ => fun
  | [d1, d2, d3, d4] => { results := [.lit (.bool true)], args := [d1, d2, d3, d4] }
  | _ => none }
def plansFitsSpecRow : OpenClaim := { program := "ythengmdnikaooaagreat", sum := "865a70f078c9411561a8bb5bb2c38ebf87eb1706ac9c608ecc62ce7f02e72d5a", func := "franking/frankinglaw22.PlansFitsSpec", spec := "plansFitsSpec", unfollowed := true, recurses := true, plainKeys := false, apart := false }
def PlansFitsSpecSaid : Prop := plansFitsSpecRow.holds Tryz.pinned (OpenSpec.ofChange plansFitsSpecSpec)

/-- ITS FALSE NEIGHBOUR: 'it returns false'. Refute it at one input. -/
def plansFitsSpecWrong : ChangeSpec := { name := "plansFitsSpec", fn := fun _ => fun
  | [d1, d2, d3, d4] => { results := [.lit (.bool false)], args := [d1, d2, d3, d4] }
  | _ => none }
def PlansFitsSpecWrongFalsely : Prop := plansFitsSpecRow.holds Tryz.pinned (OpenSpec.ofChange plansFitsSpecWrong)

/-- 'frankinglaw22.PlansMakeSpec': WHATEVER THE INPUT: true; the input reads as it did. -/
def plansMakeSpecSpec : ChangeSpec := { name := "plansMakeSpec", fn := fun _ => fun
  | [d1, d2, d3, d4] => { results := [.lit (.bool true)], args := [d1, d2, d3, d4] }
  | _ => none }
def plansMakeSpecRow : OpenClaim := { program := "ythengmdnikaooaagreat", sum := "865a70f078c9411561a8bb5bb2c38ebf87eb1706ac9c608ecc62ce7f02e72d5a", func := "franking/frankinglaw22.PlansMakeSpec", spec := "plansMakeSpec", unfollowed := true, recurses := true, plainKeys := false, apart := false }
def PlansMakeSpecSaid : Prop := plansMakeSpecRow.holds Tryz.pinned (OpenSpec.ofChange plansMakeSpecSpec)

/-- ITS FALSE NEIGHBOUR: 'it returns false'. Refute it at one input. -/
def plansMakeSpecWrong : ChangeSpec := { name := "plansMakeSpec", fn := fun _ => fun
  | [d1, d2, d3, d4] => { results := [.lit (.bool false)], args := [d1, d2, d3, d4] }
  | _ => none }
def PlansMakeSpecWrongFalsely : Prop := plansMakeSpecRow.holds Tryz.pinned (OpenSpec.ofChange plansMakeSpecWrong)

/-- 'frankinglaw22.PlansCheckSpec': WHATEVER THE INPUT: true; the input reads as it did. -/
def plansCheckSpecSpec : ChangeSpec := { name := "plansCheckSpec", fn := fun _ => fun
  | [d1, d2, d3, d4, d5] => { results := [.lit (.bool true)], args := [d1, d2, d3, d4, d5] }
  | _ => none }
def plansCheckSpecRow : OpenClaim := { program := "ythengmdnikaooaagreat", sum := "865a70f078c9411561a8bb5bb2c38ebf87eb1706ac9c608ecc62ce7f02e72d5a", func := "franking/frankinglaw22.PlansCheckSpec", spec := "plansCheckSpec", unfollowed := true, recurses := true, plainKeys := false, apart := false }
def PlansCheckSpecSaid : Prop := plansCheckSpecRow.holds Tryz.pinned (OpenSpec.ofChange plansCheckSpecSpec)

/-- ITS FALSE NEIGHBOUR: 'it returns false'. Refute it at one input. -/
def plansCheckSpecWrong : ChangeSpec := { name := "plansCheckSpec", fn := fun _ => fun
  | [d1, d2, d3, d4, d5] => { results := [.lit (.bool false)], args := [d1, d2, d3, d4, d5] }
  | _ => none }
def PlansCheckSpecWrongFalsely : Prop := plansCheckSpecRow.holds Tryz.pinned (OpenSpec.ofChange plansCheckSpecWrong)

/-- 'frankinglaw22.PlansKept': WHATEVER THE INPUT: true; the input reads as it did. -/
def plansKeptSpec : ChangeSpec := { name := "plansKept", fn := fun _ => fun
  | [d1, d2, d3, d4, d5] => { results := [.lit (.bool true)], args := [d1, d2, d3, d4, d5] }
  | _ => none }
def plansKeptRow : OpenClaim := { program := "ythengmdnikaooaagreat", sum := "865a70f078c9411561a8bb5bb2c38ebf87eb1706ac9c608ecc62ce7f02e72d5a", func := "franking/frankinglaw22.PlansKept", spec := "plansKept", unfollowed := true, recurses := true, plainKeys := false, apart := false }
def PlansKeptSaid : Prop := plansKeptRow.holds Tryz.pinned (OpenSpec.ofChange plansKeptSpec)

/-- ITS FALSE NEIGHBOUR: 'it returns false'. Refute it at one input. -/
def plansKeptWrong : ChangeSpec := { name := "plansKept", fn := fun _ => fun
  | [d1, d2, d3, d4, d5] => { results := [.lit (.bool false)], args := [d1, d2, d3, d4, d5] }
  | _ => none }
def PlansKeptWrongFalsely : Prop := plansKeptRow.holds Tryz.pinned (OpenSpec.ofChange plansKeptWrong)

/-- 'frankinglaw22.PlansLeast': WHATEVER THE INPUT: true; the input reads as it did. -/
def plansLeastSpec : ChangeSpec := { name := "plansLeast", fn := fun _ => fun
  | [d1, d2, d3, d4, d5] => { results := [.lit (.bool true)], args := [d1, d2, d3, d4, d5] }
  | _ => none }
def plansLeastRow : OpenClaim := { program := "ythengmdnikaooaagreat", sum := "865a70f078c9411561a8bb5bb2c38ebf87eb1706ac9c608ecc62ce7f02e72d5a", func := "franking/frankinglaw22.PlansLeast", spec := "plansLeast", unfollowed := true, recurses := true, plainKeys := false, apart := false }
def PlansLeastSaid : Prop := plansLeastRow.holds Tryz.pinned (OpenSpec.ofChange plansLeastSpec)

/-- ITS FALSE NEIGHBOUR: 'it returns false'. Refute it at one input. -/
def plansLeastWrong : ChangeSpec := { name := "plansLeast", fn := fun _ => fun
  | [d1, d2, d3, d4, d5] => { results := [.lit (.bool false)], args := [d1, d2, d3, d4, d5] }
  | _ => none }
def PlansLeastWrongFalsely : Prop := plansLeastRow.holds Tryz.pinned (OpenSpec.ofChange plansLeastWrong)

/-- 'frankinglaw22.PlansAlone': WHATEVER THE INPUT: true; the input reads as it did. -/
def plansAloneSpec : ChangeSpec := { name := "plansAlone", fn := fun _ => fun
  | [d1, d2, d3, d4] => { results := [.lit (.bool true)], args := [d1, d2, d3, d4] }
  | _ => none }
def plansAloneRow : OpenClaim := { program := "ythengmdnikaooaagreat", sum := "865a70f078c9411561a8bb5bb2c38ebf87eb1706ac9c608ecc62ce7f02e72d5a", func := "franking/frankinglaw22.PlansAlone", spec := "plansAlone", unfollowed := true, recurses := true, plainKeys := false, apart := false }
def PlansAloneSaid : Prop := plansAloneRow.holds Tryz.pinned (OpenSpec.ofChange plansAloneSpec)

/-- ITS FALSE NEIGHBOUR: 'it returns false'. Refute it at one input. -/
def plansAloneWrong : ChangeSpec := { name := "plansAlone", fn := fun _ => fun
  | [d1, d2, d3, d4] => { results := [.lit (.bool false)], args := [d1, d2, d3, d4] }
  | _ => none }
def PlansAloneWrongFalsely : Prop := plansAloneRow.holds Tryz.pinned (OpenSpec.ofChange plansAloneWrong)

/-- 'frankinglaw22.PlansMore': WHATEVER THE INPUT: true; the input reads as it did. -/
def plansMoreSpec : ChangeSpec := { name := "plansMore", fn := fun _ => fun
  | [d1, d2, d3, d4, d5, d6] => { results := [.lit (.bool true)], args := [d1, d2, d3, d4, d5, d6] }
  | _ => none }
def plansMoreRow : OpenClaim := { program := "ythengmdnikaooaagreat", sum := "865a70f078c9411561a8bb5bb2c38ebf87eb1706ac9c608ecc62ce7f02e72d5a", func := "franking/frankinglaw22.PlansMore", spec := "plansMore", unfollowed := true, recurses := true, plainKeys := false, apart := false }
def PlansMoreSaid : Prop := plansMoreRow.holds Tryz.pinned (OpenSpec.ofChange plansMoreSpec)

/-- ITS FALSE NEIGHBOUR: 'it returns false'. Refute it at one input. -/
def plansMoreWrong : ChangeSpec := { name := "plansMore", fn := fun _ => fun
  | [d1, d2, d3, d4, d5, d6] => { results := [.lit (.bool false)], args := [d1, d2, d3, d4, d5, d6] }
  | _ => none }
def PlansMoreWrongFalsely : Prop := plansMoreRow.holds Tryz.pinned (OpenSpec.ofChange plansMoreWrong)

/-- 'frankinglaw22.PlansNone': WHATEVER THE INPUT: true; the input reads as it did. -/
def plansNoneSpec : ChangeSpec := { name := "plansNone", fn := fun _ => fun
  | [d1, d2, d3, d4, d5, d6] => { results := [.lit (.bool true)], args := [d1, d2, d3, d4, d5, d6] }
  | _ => none }
def plansNoneRow : OpenClaim := { program := "ythengmdnikaooaagreat", sum := "865a70f078c9411561a8bb5bb2c38ebf87eb1706ac9c608ecc62ce7f02e72d5a", func := "franking/frankinglaw22.PlansNone", spec := "plansNone", unfollowed := true, recurses := true, plainKeys := false, apart := false }
def PlansNoneSaid : Prop := plansNoneRow.holds Tryz.pinned (OpenSpec.ofChange plansNoneSpec)

/-- ITS FALSE NEIGHBOUR: 'it returns false'. Refute it at one input. -/
def plansNoneWrong : ChangeSpec := { name := "plansNone", fn := fun _ => fun
  | [d1, d2, d3, d4, d5, d6] => { results := [.lit (.bool false)], args := [d1, d2, d3, d4, d5, d6] }
  | _ => none }
def PlansNoneWrongFalsely : Prop := plansNoneRow.holds Tryz.pinned (OpenSpec.ofChange plansNoneWrong)

/- THE SECOND FORM. 'bulk': how many values and letters a reading holds, each counted each time it is reached (what is shared counts as often as it is met; a slice's spare places count too). A statement '..UptoSaid' is the law's where the arguments, and the package variables that the reading takes, are together of bulk at most 1048576: NARROWER than '..Said'. Prove '..Said' where nothing that the law and all that it calls make is longer than what came in: it says more and counts as full. Else prove '..UptoSaid'. A law counts once. -/
mutual
def uptoBulk {H : Type} : DataW H → Nat
  | .lit (.string bytes) => bytes.length + 1
  | .lit _ => 1
  | .nil => 1
  | .ptr d => uptoBulk d + 1
  | .slice elems spare => uptoBulkAll elems + uptoBulkAll spare + 1
  | .agg parts => uptoBulkAll parts + 1
  | .iface _ d => uptoBulk d + 1
  | .map entries => uptoBulkEntries entries + 1
  | .held _ => 1
def uptoBulkAll {H : Type} : List (DataW H) → Nat
  | [] => 0
  | d :: r => uptoBulk d + uptoBulkAll r
def uptoBulkEntries {H : Type} : List (Lit × DataW H) → Nat
  | [] => 0
  | x :: r => uptoBulkEntry x + uptoBulkEntries r
def uptoBulkEntry {H : Type} : Lit × DataW H → Nat
  | (.string bytes, d) => bytes.length + uptoBulk d + 1
  | (_, d) => uptoBulk d + 1
 end
def uptoSmall : (H : Type) → List (DataW H) → Bool := fun _ ds => decide (uptoBulkAll ds ≤ 1048576)
def OpenSpec.upto (s : _root_.Go.ChangeSpec) : _root_.Go.OpenSpec := { _root_.Go.OpenSpec.ofChange s with cond := some uptoSmall }

/-- 'frankinglaw22.PlansFitsSpec', WHERE WHAT IT READS IS OF BULK AT MOST 1048576: true; the input reads as it did. -/
def plansFitsSpecUptoRow : OpenClaim := { program := "ythengmdnikaooaagreat", sum := "865a70f078c9411561a8bb5bb2c38ebf87eb1706ac9c608ecc62ce7f02e72d5a", func := "franking/frankinglaw22.PlansFitsSpec", spec := "plansFitsSpec", unfollowed := true, recurses := true, plainKeys := false, apart := false, narrowed := true }
def PlansFitsSpecUptoSaid : Prop := plansFitsSpecUptoRow.holds Tryz.pinned (OpenSpec.upto plansFitsSpecSpec)

/-- 'frankinglaw22.PlansMakeSpec', WHERE WHAT IT READS IS OF BULK AT MOST 1048576: true; the input reads as it did. -/
def plansMakeSpecUptoRow : OpenClaim := { program := "ythengmdnikaooaagreat", sum := "865a70f078c9411561a8bb5bb2c38ebf87eb1706ac9c608ecc62ce7f02e72d5a", func := "franking/frankinglaw22.PlansMakeSpec", spec := "plansMakeSpec", unfollowed := true, recurses := true, plainKeys := false, apart := false, narrowed := true }
def PlansMakeSpecUptoSaid : Prop := plansMakeSpecUptoRow.holds Tryz.pinned (OpenSpec.upto plansMakeSpecSpec)

/-- 'frankinglaw22.PlansCheckSpec', WHERE WHAT IT READS IS OF BULK AT MOST 1048576: true; the input reads as it did. -/
def plansCheckSpecUptoRow : OpenClaim := { program := "ythengmdnikaooaagreat", sum := "865a70f078c9411561a8bb5bb2c38ebf87eb1706ac9c608ecc62ce7f02e72d5a", func := "franking/frankinglaw22.PlansCheckSpec", spec := "plansCheckSpec", unfollowed := true, recurses := true, plainKeys := false, apart := false, narrowed := true }
def PlansCheckSpecUptoSaid : Prop := plansCheckSpecUptoRow.holds Tryz.pinned (OpenSpec.upto plansCheckSpecSpec)

/-- 'frankinglaw22.PlansKept', WHERE WHAT IT READS IS OF BULK AT MOST 1048576: true; the input reads as it did. -/
def plansKeptUptoRow : OpenClaim := { program := "ythengmdnikaooaagreat", sum := "865a70f078c9411561a8bb5bb2c38ebf87eb1706ac9c608ecc62ce7f02e72d5a", func := "franking/frankinglaw22.PlansKept", spec := "plansKept", unfollowed := true, recurses := true, plainKeys := false, apart := false, narrowed := true }
def PlansKeptUptoSaid : Prop := plansKeptUptoRow.holds Tryz.pinned (OpenSpec.upto plansKeptSpec)

/-- 'frankinglaw22.PlansLeast', WHERE WHAT IT READS IS OF BULK AT MOST 1048576: true; the input reads as it did. -/
def plansLeastUptoRow : OpenClaim := { program := "ythengmdnikaooaagreat", sum := "865a70f078c9411561a8bb5bb2c38ebf87eb1706ac9c608ecc62ce7f02e72d5a", func := "franking/frankinglaw22.PlansLeast", spec := "plansLeast", unfollowed := true, recurses := true, plainKeys := false, apart := false, narrowed := true }
def PlansLeastUptoSaid : Prop := plansLeastUptoRow.holds Tryz.pinned (OpenSpec.upto plansLeastSpec)

/-- 'frankinglaw22.PlansAlone', WHERE WHAT IT READS IS OF BULK AT MOST 1048576: true; the input reads as it did. -/
def plansAloneUptoRow : OpenClaim := { program := "ythengmdnikaooaagreat", sum := "865a70f078c9411561a8bb5bb2c38ebf87eb1706ac9c608ecc62ce7f02e72d5a", func := "franking/frankinglaw22.PlansAlone", spec := "plansAlone", unfollowed := true, recurses := true, plainKeys := false, apart := false, narrowed := true }
def PlansAloneUptoSaid : Prop := plansAloneUptoRow.holds Tryz.pinned (OpenSpec.upto plansAloneSpec)

/-- 'frankinglaw22.PlansMore', WHERE WHAT IT READS IS OF BULK AT MOST 1048576: true; the input reads as it did. -/
def plansMoreUptoRow : OpenClaim := { program := "ythengmdnikaooaagreat", sum := "865a70f078c9411561a8bb5bb2c38ebf87eb1706ac9c608ecc62ce7f02e72d5a", func := "franking/frankinglaw22.PlansMore", spec := "plansMore", unfollowed := true, recurses := true, plainKeys := false, apart := false, narrowed := true }
def PlansMoreUptoSaid : Prop := plansMoreUptoRow.holds Tryz.pinned (OpenSpec.upto plansMoreSpec)

/-- 'frankinglaw22.PlansNone', WHERE WHAT IT READS IS OF BULK AT MOST 1048576: true; the input reads as it did. -/
def plansNoneUptoRow : OpenClaim := { program := "ythengmdnikaooaagreat", sum := "865a70f078c9411561a8bb5bb2c38ebf87eb1706ac9c608ecc62ce7f02e72d5a", func := "franking/frankinglaw22.PlansNone", spec := "plansNone", unfollowed := true, recurses := true, plainKeys := false, apart := false, narrowed := true }
def PlansNoneUptoSaid : Prop := plansNoneUptoRow.holds Tryz.pinned (OpenSpec.upto plansNoneSpec)

end Rows
end Go.Proofs.YthengmdnikaooaaGreat
