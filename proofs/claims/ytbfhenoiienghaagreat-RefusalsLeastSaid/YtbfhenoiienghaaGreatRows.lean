/-
  NARROWER THAN 'FOR EVERY INPUT', by the rows' own cells (each row's printed sentence says how): RefusalsCheckSpec: loops · RefusalsTrue: loops · RefusalsFewer: loops.
  DERIVED. THE GIVEN ROWS OF THIS SEAT. 11 by the template 'for every input the law returns true; each argument reads behind the call as it read before'; 0 by the template 'total and deterministic' (their statements: YtbfhenoiienghaaGreatTotals.lean).
  GIVEN WITH THE SEED: the statements are not yours to turn. If you find one false, say at which input.
  Laid BY PROGRAM, IN A SANDBOX (cutbox-rows.mjs): the forced cells as the released guide's own fill.sh prints them over the translation 52bbc299ff4774f6… (all of the seat's roots in one cut). By AI agents, Wed Nov 11 2026. No macro, syntax, notation, axiom, sorry.
-/
import Derived.Test.YtbfhenoiienghaaGreatChecked
import GoSem.Claim
import GoSem.ClaimJoined
import GoSem.ClaimMapViews
import Derived.JoinedTies
import Derived.KernelRfl
namespace Go.Proofs.YtbfhenoiienghaaGreat
/- THE CELL 'sum', in the pinned program and in every row, IS THE sha256 OF THE DUMP (.gsa) THAT YtbfhenoiienghaaGreatProg.lean LOADS. Nothing in Lean hashes anything: it is a label: what it is worth is what the hold of that sum in a sandbox is worth. -/
noncomputable def Tryz.pinned : Pinned := { name := "ytbfhenoiienghaagreat", sum := "52bbc299ff4774f610caba882ff3b8015b1ff9f06345f917e8b8c2cdeaabfe43", checked := Tryz.checked }
namespace Rows
def none {H : Type} : Left H := { results := [], args := [] }

/-- 'frankinglaw24.RepairsSpec': WHATEVER THE INPUT: true; the input reads as it did. -/
def repairsSpecSpec : ChangeSpec := { name := "repairsSpec", fn := fun _ => fun
  | [d1, d2, d3, d4, d5, d6] => { results := [.lit (.bool true)], args := [d1, d2, d3, d4, d5, d6] }
  | _ => none }
def repairsSpecRow : OpenClaim := { program := "ytbfhenoiienghaagreat", sum := "52bbc299ff4774f610caba882ff3b8015b1ff9f06345f917e8b8c2cdeaabfe43", func := "franking/frankinglaw24.RepairsSpec", spec := "repairsSpec", unfollowed := true, recurses := true, plainKeys := false, apart := false }
def RepairsSpecSaid : Prop := repairsSpecRow.holds Tryz.pinned (OpenSpec.ofChange repairsSpecSpec)

/-- ITS FALSE NEIGHBOUR: 'it returns false'. Refute it at one input. -/
def repairsSpecWrong : ChangeSpec := { name := "repairsSpec", fn := fun _ => fun
  | [d1, d2, d3, d4, d5, d6] => { results := [.lit (.bool false)], args := [d1, d2, d3, d4, d5, d6] }
  | _ => none }
def RepairsSpecWrongFalsely : Prop := repairsSpecRow.holds Tryz.pinned (OpenSpec.ofChange repairsSpecWrong)

/-- 'frankinglaw24.RepairsWeakSpec': WHATEVER THE INPUT: true; the input reads as it did. -/
def repairsWeakSpecSpec : ChangeSpec := { name := "repairsWeakSpec", fn := fun _ => fun
  | [d1, d2, d3, d4, d5] => { results := [.lit (.bool true)], args := [d1, d2, d3, d4, d5] }
  | _ => none }
def repairsWeakSpecRow : OpenClaim := { program := "ytbfhenoiienghaagreat", sum := "52bbc299ff4774f610caba882ff3b8015b1ff9f06345f917e8b8c2cdeaabfe43", func := "franking/frankinglaw24.RepairsWeakSpec", spec := "repairsWeakSpec", unfollowed := true, recurses := true, plainKeys := false, apart := false }
def RepairsWeakSpecSaid : Prop := repairsWeakSpecRow.holds Tryz.pinned (OpenSpec.ofChange repairsWeakSpecSpec)

/-- ITS FALSE NEIGHBOUR: 'it returns false'. Refute it at one input. -/
def repairsWeakSpecWrong : ChangeSpec := { name := "repairsWeakSpec", fn := fun _ => fun
  | [d1, d2, d3, d4, d5] => { results := [.lit (.bool false)], args := [d1, d2, d3, d4, d5] }
  | _ => none }
def RepairsWeakSpecWrongFalsely : Prop := repairsWeakSpecRow.holds Tryz.pinned (OpenSpec.ofChange repairsWeakSpecWrong)

/-- 'frankinglaw24.RepairsKept': WHATEVER THE INPUT: true; the input reads as it did. -/
def repairsKeptSpec : ChangeSpec := { name := "repairsKept", fn := fun _ => fun
  | [d1, d2, d3, d4, d5, d6] => { results := [.lit (.bool true)], args := [d1, d2, d3, d4, d5, d6] }
  | _ => none }
def repairsKeptRow : OpenClaim := { program := "ytbfhenoiienghaagreat", sum := "52bbc299ff4774f610caba882ff3b8015b1ff9f06345f917e8b8c2cdeaabfe43", func := "franking/frankinglaw24.RepairsKept", spec := "repairsKept", unfollowed := true, recurses := true, plainKeys := false, apart := false }
def RepairsKeptSaid : Prop := repairsKeptRow.holds Tryz.pinned (OpenSpec.ofChange repairsKeptSpec)

/-- ITS FALSE NEIGHBOUR: 'it returns false'. Refute it at one input. -/
def repairsKeptWrong : ChangeSpec := { name := "repairsKept", fn := fun _ => fun
  | [d1, d2, d3, d4, d5, d6] => { results := [.lit (.bool false)], args := [d1, d2, d3, d4, d5, d6] }
  | _ => none }
def RepairsKeptWrongFalsely : Prop := repairsKeptRow.holds Tryz.pinned (OpenSpec.ofChange repairsKeptWrong)

/-- 'frankinglaw24.RepairsLeast': WHATEVER THE INPUT: true; the input reads as it did. -/
def repairsLeastSpec : ChangeSpec := { name := "repairsLeast", fn := fun _ => fun
  | [d1, d2, d3, d4, d5, d6, d7] => { results := [.lit (.bool true)], args := [d1, d2, d3, d4, d5, d6, d7] }
  | _ => none }
def repairsLeastRow : OpenClaim := { program := "ytbfhenoiienghaagreat", sum := "52bbc299ff4774f610caba882ff3b8015b1ff9f06345f917e8b8c2cdeaabfe43", func := "franking/frankinglaw24.RepairsLeast", spec := "repairsLeast", unfollowed := true, recurses := true, plainKeys := false, apart := false }
def RepairsLeastSaid : Prop := repairsLeastRow.holds Tryz.pinned (OpenSpec.ofChange repairsLeastSpec)

/-- ITS FALSE NEIGHBOUR: 'it returns false'. Refute it at one input. -/
def repairsLeastWrong : ChangeSpec := { name := "repairsLeast", fn := fun _ => fun
  | [d1, d2, d3, d4, d5, d6, d7] => { results := [.lit (.bool false)], args := [d1, d2, d3, d4, d5, d6, d7] }
  | _ => none }
def RepairsLeastWrongFalsely : Prop := repairsLeastRow.holds Tryz.pinned (OpenSpec.ofChange repairsLeastWrong)

/-- 'frankinglaw24.RepairsMore': WHATEVER THE INPUT: true; the input reads as it did. -/
def repairsMoreSpec : ChangeSpec := { name := "repairsMore", fn := fun _ => fun
  | [d1, d2, d3, d4, d5, d6, d7] => { results := [.lit (.bool true)], args := [d1, d2, d3, d4, d5, d6, d7] }
  | _ => none }
def repairsMoreRow : OpenClaim := { program := "ytbfhenoiienghaagreat", sum := "52bbc299ff4774f610caba882ff3b8015b1ff9f06345f917e8b8c2cdeaabfe43", func := "franking/frankinglaw24.RepairsMore", spec := "repairsMore", unfollowed := true, recurses := true, plainKeys := false, apart := false }
def RepairsMoreSaid : Prop := repairsMoreRow.holds Tryz.pinned (OpenSpec.ofChange repairsMoreSpec)

/-- ITS FALSE NEIGHBOUR: 'it returns false'. Refute it at one input. -/
def repairsMoreWrong : ChangeSpec := { name := "repairsMore", fn := fun _ => fun
  | [d1, d2, d3, d4, d5, d6, d7] => { results := [.lit (.bool false)], args := [d1, d2, d3, d4, d5, d6, d7] }
  | _ => none }
def RepairsMoreWrongFalsely : Prop := repairsMoreRow.holds Tryz.pinned (OpenSpec.ofChange repairsMoreWrong)

/-- 'frankinglaw24.RepairsWeak': WHATEVER THE INPUT: true; the input reads as it did. -/
def repairsWeakSpec : ChangeSpec := { name := "repairsWeak", fn := fun _ => fun
  | [d1, d2, d3, d4, d5] => { results := [.lit (.bool true)], args := [d1, d2, d3, d4, d5] }
  | _ => none }
def repairsWeakRow : OpenClaim := { program := "ytbfhenoiienghaagreat", sum := "52bbc299ff4774f610caba882ff3b8015b1ff9f06345f917e8b8c2cdeaabfe43", func := "franking/frankinglaw24.RepairsWeak", spec := "repairsWeak", unfollowed := true, recurses := true, plainKeys := false, apart := false }
def RepairsWeakSaid : Prop := repairsWeakRow.holds Tryz.pinned (OpenSpec.ofChange repairsWeakSpec)

/-- ITS FALSE NEIGHBOUR: 'it returns false'. Refute it at one input. -/
def repairsWeakWrong : ChangeSpec := { name := "repairsWeak", fn := fun _ => fun
  | [d1, d2, d3, d4, d5] => { results := [.lit (.bool false)], args := [d1, d2, d3, d4, d5] }
  | _ => none }
def RepairsWeakWrongFalsely : Prop := repairsWeakRow.holds Tryz.pinned (OpenSpec.ofChange repairsWeakWrong)

/-- 'frankinglaw23.RefusalsSpec': WHATEVER THE INPUT: true; the input reads as it did. -/
def refusalsSpecSpec : ChangeSpec := { name := "refusalsSpec", fn := fun _ => fun
  | [d1, d2, d3, d4] => { results := [.lit (.bool true)], args := [d1, d2, d3, d4] }
  | _ => none }
def refusalsSpecRow : OpenClaim := { program := "ytbfhenoiienghaagreat", sum := "52bbc299ff4774f610caba882ff3b8015b1ff9f06345f917e8b8c2cdeaabfe43", func := "franking/frankinglaw23.RefusalsSpec", spec := "refusalsSpec", unfollowed := true, recurses := true, plainKeys := false, apart := false }
def RefusalsSpecSaid : Prop := refusalsSpecRow.holds Tryz.pinned (OpenSpec.ofChange refusalsSpecSpec)

/-- ITS FALSE NEIGHBOUR: 'it returns false'. Refute it at one input. -/
def refusalsSpecWrong : ChangeSpec := { name := "refusalsSpec", fn := fun _ => fun
  | [d1, d2, d3, d4] => { results := [.lit (.bool false)], args := [d1, d2, d3, d4] }
  | _ => none }
def RefusalsSpecWrongFalsely : Prop := refusalsSpecRow.holds Tryz.pinned (OpenSpec.ofChange refusalsSpecWrong)

/-- 'frankinglaw23.RefusalsCheckSpec': WHATEVER THE INPUT: true; the input reads as it did. -/
def refusalsCheckSpecSpec : ChangeSpec := { name := "refusalsCheckSpec", fn := fun _ => fun
  | [d1, d2, d3, d4, d5] => { results := [.lit (.bool true)], args := [d1, d2, d3, d4, d5] }
  | _ => none }
def refusalsCheckSpecRow : OpenClaim := { program := "ytbfhenoiienghaagreat", sum := "52bbc299ff4774f610caba882ff3b8015b1ff9f06345f917e8b8c2cdeaabfe43", func := "franking/frankinglaw23.RefusalsCheckSpec", spec := "refusalsCheckSpec", unfollowed := true, recurses := true, loops := true, plainKeys := false, apart := false }
def RefusalsCheckSpecSaid : Prop := refusalsCheckSpecRow.holds Tryz.pinned (OpenSpec.ofChange refusalsCheckSpecSpec)

/-- ITS FALSE NEIGHBOUR: 'it returns false'. Refute it at one input. -/
def refusalsCheckSpecWrong : ChangeSpec := { name := "refusalsCheckSpec", fn := fun _ => fun
  | [d1, d2, d3, d4, d5] => { results := [.lit (.bool false)], args := [d1, d2, d3, d4, d5] }
  | _ => none }
def RefusalsCheckSpecWrongFalsely : Prop := refusalsCheckSpecRow.holds Tryz.pinned (OpenSpec.ofChange refusalsCheckSpecWrong)

/-- 'frankinglaw23.RefusalsTrue': WHATEVER THE INPUT: true; the input reads as it did. -/
def refusalsTrueSpec : ChangeSpec := { name := "refusalsTrue", fn := fun _ => fun
  | [d1, d2, d3, d4, d5, d6] => { results := [.lit (.bool true)], args := [d1, d2, d3, d4, d5, d6] }
  | _ => none }
def refusalsTrueRow : OpenClaim := { program := "ytbfhenoiienghaagreat", sum := "52bbc299ff4774f610caba882ff3b8015b1ff9f06345f917e8b8c2cdeaabfe43", func := "franking/frankinglaw23.RefusalsTrue", spec := "refusalsTrue", unfollowed := true, recurses := true, loops := true, plainKeys := false, apart := false }
def RefusalsTrueSaid : Prop := refusalsTrueRow.holds Tryz.pinned (OpenSpec.ofChange refusalsTrueSpec)

/-- ITS FALSE NEIGHBOUR: 'it returns false'. Refute it at one input. -/
def refusalsTrueWrong : ChangeSpec := { name := "refusalsTrue", fn := fun _ => fun
  | [d1, d2, d3, d4, d5, d6] => { results := [.lit (.bool false)], args := [d1, d2, d3, d4, d5, d6] }
  | _ => none }
def RefusalsTrueWrongFalsely : Prop := refusalsTrueRow.holds Tryz.pinned (OpenSpec.ofChange refusalsTrueWrong)

/-- 'frankinglaw23.RefusalsLeast': WHATEVER THE INPUT: true; the input reads as it did. -/
def refusalsLeastSpec : ChangeSpec := { name := "refusalsLeast", fn := fun _ => fun
  | [d1, d2, d3, d4] => { results := [.lit (.bool true)], args := [d1, d2, d3, d4] }
  | _ => none }
def refusalsLeastRow : OpenClaim := { program := "ytbfhenoiienghaagreat", sum := "52bbc299ff4774f610caba882ff3b8015b1ff9f06345f917e8b8c2cdeaabfe43", func := "franking/frankinglaw23.RefusalsLeast", spec := "refusalsLeast", unfollowed := true, recurses := true, plainKeys := false, apart := false }
def RefusalsLeastSaid : Prop := refusalsLeastRow.holds Tryz.pinned (OpenSpec.ofChange refusalsLeastSpec)

/-- ITS FALSE NEIGHBOUR: 'it returns false'. Refute it at one input. -/
def refusalsLeastWrong : ChangeSpec := { name := "refusalsLeast", fn := fun _ => fun
  | [d1, d2, d3, d4] => { results := [.lit (.bool false)], args := [d1, d2, d3, d4] }
  | _ => none }
def RefusalsLeastWrongFalsely : Prop := refusalsLeastRow.holds Tryz.pinned (OpenSpec.ofChange refusalsLeastWrong)

/-- 'frankinglaw23.RefusalsFewer': WHATEVER THE INPUT: true; the input reads as it did. -/
def refusalsFewerSpec : ChangeSpec := { name := "refusalsFewer", fn := fun _ => fun
  | [d1, d2, d3, d4, d5, d6] => { results := [.lit (.bool true)], args := [d1, d2, d3, d4, d5, d6] }
  | _ => none }
def refusalsFewerRow : OpenClaim := { program := "ytbfhenoiienghaagreat", sum := "52bbc299ff4774f610caba882ff3b8015b1ff9f06345f917e8b8c2cdeaabfe43", func := "franking/frankinglaw23.RefusalsFewer", spec := "refusalsFewer", unfollowed := true, recurses := true, loops := true, plainKeys := false, apart := false }
def RefusalsFewerSaid : Prop := refusalsFewerRow.holds Tryz.pinned (OpenSpec.ofChange refusalsFewerSpec)

/-- ITS FALSE NEIGHBOUR: 'it returns false'. Refute it at one input. -/
def refusalsFewerWrong : ChangeSpec := { name := "refusalsFewer", fn := fun _ => fun
  | [d1, d2, d3, d4, d5, d6] => { results := [.lit (.bool false)], args := [d1, d2, d3, d4, d5, d6] }
  | _ => none }
def RefusalsFewerWrongFalsely : Prop := refusalsFewerRow.holds Tryz.pinned (OpenSpec.ofChange refusalsFewerWrong)

/- THE SECOND FORM. 'bulk': how many values and letters a reading holds, each counted each time it is reached (what is shared counts as often as it is met; a slice's spare places count too). A statement '..UptoSaid' is the law's where the arguments, and the package variables that the reading takes, are together of bulk at most 1048576: NARROWER than '..Said'. Prove '..Said' where nothing that the law and all that it calls make is longer than what came in: it says more and counts as full. Else prove '..UptoSaid'. A law counts once. -/
mutual
def uptoBulk {H : Type} : DataW H → Nat
  | .lit (.string bytes) => bytes.length + 1
  | .lit _ => 1
  | .nil => 1
  | .ptr d => uptoBulk d + 1
  | .slice elems spare => uptoBulkAll elems + uptoBulkAll spare + 1
  | .agg parts => uptoBulkAll parts + 1
  | .iface _ d => uptoBulk d + 1
  | .map entries => uptoBulkEntries entries + 1
  | .held _ => 1
def uptoBulkAll {H : Type} : List (DataW H) → Nat
  | [] => 0
  | d :: r => uptoBulk d + uptoBulkAll r
def uptoBulkEntries {H : Type} : List (Lit × DataW H) → Nat
  | [] => 0
  | x :: r => uptoBulkEntry x + uptoBulkEntries r
def uptoBulkEntry {H : Type} : Lit × DataW H → Nat
  | (.string bytes, d) => bytes.length + uptoBulk d + 1
  | (_, d) => uptoBulk d + 1
 end
def uptoSmall : (H : Type) → List (DataW H) → Bool := fun _ ds => decide (uptoBulkAll ds ≤ 1048576)
def OpenSpec.upto (s : _root_.Go.ChangeSpec) : _root_.Go.OpenSpec := { _root_.Go.OpenSpec.ofChange s with cond := some uptoSmall }

/-- 'frankinglaw24.RepairsSpec', WHERE WHAT IT READS IS OF BULK AT MOST 1048576: true; the input reads as it did. -/
def repairsSpecUptoRow : OpenClaim := { program := "ytbfhenoiienghaagreat", sum := "52bbc299ff4774f610caba882ff3b8015b1ff9f06345f917e8b8c2cdeaabfe43", func := "franking/frankinglaw24.RepairsSpec", spec := "repairsSpec", unfollowed := true, recurses := true, plainKeys := false, apart := false, narrowed := true }
def RepairsSpecUptoSaid : Prop := repairsSpecUptoRow.holds Tryz.pinned (OpenSpec.upto repairsSpecSpec)

/-- 'frankinglaw24.RepairsWeakSpec', WHERE WHAT IT READS IS OF BULK AT MOST 1048576: true; the input reads as it did. -/
def repairsWeakSpecUptoRow : OpenClaim := { program := "ytbfhenoiienghaagreat", sum := "52bbc299ff4774f610caba882ff3b8015b1ff9f06345f917e8b8c2cdeaabfe43", func := "franking/frankinglaw24.RepairsWeakSpec", spec := "repairsWeakSpec", unfollowed := true, recurses := true, plainKeys := false, apart := false, narrowed := true }
def RepairsWeakSpecUptoSaid : Prop := repairsWeakSpecUptoRow.holds Tryz.pinned (OpenSpec.upto repairsWeakSpecSpec)

/-- 'frankinglaw24.RepairsKept', WHERE WHAT IT READS IS OF BULK AT MOST 1048576: true; the input reads as it did. -/
def repairsKeptUptoRow : OpenClaim := { program := "ytbfhenoiienghaagreat", sum := "52bbc299ff4774f610caba882ff3b8015b1ff9f06345f917e8b8c2cdeaabfe43", func := "franking/frankinglaw24.RepairsKept", spec := "repairsKept", unfollowed := true, recurses := true, plainKeys := false, apart := false, narrowed := true }
def RepairsKeptUptoSaid : Prop := repairsKeptUptoRow.holds Tryz.pinned (OpenSpec.upto repairsKeptSpec)

/-- 'frankinglaw24.RepairsLeast', WHERE WHAT IT READS IS OF BULK AT MOST 1048576: true; the input reads as it did. -/
def repairsLeastUptoRow : OpenClaim := { program := "ytbfhenoiienghaagreat", sum := "52bbc299ff4774f610caba882ff3b8015b1ff9f06345f917e8b8c2cdeaabfe43", func := "franking/frankinglaw24.RepairsLeast", spec := "repairsLeast", unfollowed := true, recurses := true, plainKeys := false, apart := false, narrowed := true }
def RepairsLeastUptoSaid : Prop := repairsLeastUptoRow.holds Tryz.pinned (OpenSpec.upto repairsLeastSpec)

/-- 'frankinglaw24.RepairsMore', WHERE WHAT IT READS IS OF BULK AT MOST 1048576: true; the input reads as it did. -/
def repairsMoreUptoRow : OpenClaim := { program := "ytbfhenoiienghaagreat", sum := "52bbc299ff4774f610caba882ff3b8015b1ff9f06345f917e8b8c2cdeaabfe43", func := "franking/frankinglaw24.RepairsMore", spec := "repairsMore", unfollowed := true, recurses := true, plainKeys := false, apart := false, narrowed := true }
def RepairsMoreUptoSaid : Prop := repairsMoreUptoRow.holds Tryz.pinned (OpenSpec.upto repairsMoreSpec)

/-- 'frankinglaw24.RepairsWeak', WHERE WHAT IT READS IS OF BULK AT MOST 1048576: true; the input reads as it did. -/
def repairsWeakUptoRow : OpenClaim := { program := "ytbfhenoiienghaagreat", sum := "52bbc299ff4774f610caba882ff3b8015b1ff9f06345f917e8b8c2cdeaabfe43", func := "franking/frankinglaw24.RepairsWeak", spec := "repairsWeak", unfollowed := true, recurses := true, plainKeys := false, apart := false, narrowed := true }
def RepairsWeakUptoSaid : Prop := repairsWeakUptoRow.holds Tryz.pinned (OpenSpec.upto repairsWeakSpec)

/-- 'frankinglaw23.RefusalsSpec', WHERE WHAT IT READS IS OF BULK AT MOST 1048576: true; the input reads as it did. -/
def refusalsSpecUptoRow : OpenClaim := { program := "ytbfhenoiienghaagreat", sum := "52bbc299ff4774f610caba882ff3b8015b1ff9f06345f917e8b8c2cdeaabfe43", func := "franking/frankinglaw23.RefusalsSpec", spec := "refusalsSpec", unfollowed := true, recurses := true, plainKeys := false, apart := false, narrowed := true }
def RefusalsSpecUptoSaid : Prop := refusalsSpecUptoRow.holds Tryz.pinned (OpenSpec.upto refusalsSpecSpec)

/-- 'frankinglaw23.RefusalsCheckSpec', WHERE WHAT IT READS IS OF BULK AT MOST 1048576: true; the input reads as it did. -/
def refusalsCheckSpecUptoRow : OpenClaim := { program := "ytbfhenoiienghaagreat", sum := "52bbc299ff4774f610caba882ff3b8015b1ff9f06345f917e8b8c2cdeaabfe43", func := "franking/frankinglaw23.RefusalsCheckSpec", spec := "refusalsCheckSpec", unfollowed := true, recurses := true, loops := true, plainKeys := false, apart := false, narrowed := true }
def RefusalsCheckSpecUptoSaid : Prop := refusalsCheckSpecUptoRow.holds Tryz.pinned (OpenSpec.upto refusalsCheckSpecSpec)

/-- 'frankinglaw23.RefusalsTrue', WHERE WHAT IT READS IS OF BULK AT MOST 1048576: true; the input reads as it did. -/
def refusalsTrueUptoRow : OpenClaim := { program := "ytbfhenoiienghaagreat", sum := "52bbc299ff4774f610caba882ff3b8015b1ff9f06345f917e8b8c2cdeaabfe43", func := "franking/frankinglaw23.RefusalsTrue", spec := "refusalsTrue", unfollowed := true, recurses := true, loops := true, plainKeys := false, apart := false, narrowed := true }
def RefusalsTrueUptoSaid : Prop := refusalsTrueUptoRow.holds Tryz.pinned (OpenSpec.upto refusalsTrueSpec)

/-- 'frankinglaw23.RefusalsLeast', WHERE WHAT IT READS IS OF BULK AT MOST 1048576: true; the input reads as it did. -/
def refusalsLeastUptoRow : OpenClaim := { program := "ytbfhenoiienghaagreat", sum := "52bbc299ff4774f610caba882ff3b8015b1ff9f06345f917e8b8c2cdeaabfe43", func := "franking/frankinglaw23.RefusalsLeast", spec := "refusalsLeast", unfollowed := true, recurses := true, plainKeys := false, apart := false, narrowed := true }
def RefusalsLeastUptoSaid : Prop := refusalsLeastUptoRow.holds Tryz.pinned (OpenSpec.upto refusalsLeastSpec)

/-- 'frankinglaw23.RefusalsFewer', WHERE WHAT IT READS IS OF BULK AT MOST 1048576: true; the input reads as it did. -/
def refusalsFewerUptoRow : OpenClaim := { program := "ytbfhenoiienghaagreat", sum := "52bbc299ff4774f610caba882ff3b8015b1ff9f06345f917e8b8c2cdeaabfe43", func := "franking/frankinglaw23.RefusalsFewer", spec := "refusalsFewer", unfollowed := true, recurses := true, loops := true, plainKeys := false, apart := false, narrowed := true }
def RefusalsFewerUptoSaid : Prop := refusalsFewerUptoRow.holds Tryz.pinned (OpenSpec.upto refusalsFewerSpec)

end Rows
end Go.Proofs.YtbfhenoiienghaaGreat
