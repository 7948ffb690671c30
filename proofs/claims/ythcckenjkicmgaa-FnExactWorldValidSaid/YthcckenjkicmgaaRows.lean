/-
  No cell of these rows narrows 'for every input' (looked for: loops, veiled, ifaces, maps, wideKeys, modest, calm, conditions, laid).
  DERIVED. THE GIVEN ROWS OF THIS SEAT. 7 by the template 'for every input the law returns true; each argument reads behind the call as it read before'; 0 by the template 'total and deterministic' (their statements: YthcckenjkicmgaaTotals.lean).
  GIVEN WITH THE SEED: the statements are not yours to turn. If you find one false, say at which input.
  Laid BY PROGRAM, IN A SANDBOX (cutbox-rows.mjs): the forced cells as the released guide's own fill.sh prints them over the translation 42e841990de16b9a… (all of the seat's roots in one cut). By AI agents, Wed Nov 11 2026. No macro, syntax, notation, axiom, sorry.
-/
import Derived.Test.YthcckenjkicmgaaChecked
import GoSem.Claim
import GoSem.ClaimJoined
import GoSem.ClaimMapViews
import Derived.JoinedTies
import Derived.KernelRfl
namespace Go.Proofs.Ythcckenjkicmgaa
/- THE CELL 'sum', in the pinned program and in every row, IS THE sha256 OF THE DUMP (.gsa) THAT YthcckenjkicmgaaProg.lean LOADS. Nothing in Lean hashes anything: it is a label: what it is worth is what the hold of that sum in a sandbox is worth. -/
noncomputable def Try.pinned : Pinned := { name := "ythcckenjkicmgaa", sum := "42e841990de16b9abbe35982c705da5637e89475417ade0e50a4e2299c93351f", checked := Try.checked }
namespace Rows
def none {H : Type} : Left H := { results := [], args := [] }

/-- 'laws.FnClaimMovedUsed': WHATEVER THE INPUT: true; the input reads as it did. -/
def fnClaimMovedUsedSpec : ChangeSpec := { name := "fnClaimMovedUsed", fn := fun _ => fun
  | [d] => { results := [.lit (.bool true)], args := [d] }
  | _ => none }
def fnClaimMovedUsedRow : OpenClaim := { program := "ythcckenjkicmgaa", sum := "42e841990de16b9abbe35982c705da5637e89475417ade0e50a4e2299c93351f", func := "loop.example/linkstaterouting/laws.FnClaimMovedUsed", spec := "fnClaimMovedUsed", unfollowed := true, recurses := true, apart := false }
def FnClaimMovedUsedSaid : Prop := fnClaimMovedUsedRow.holds Try.pinned (OpenSpec.ofChange fnClaimMovedUsedSpec)

/-- ITS FALSE NEIGHBOUR: 'it returns false'. Refute it at one input. -/
def fnClaimMovedUsedWrong : ChangeSpec := { name := "fnClaimMovedUsed", fn := fun _ => fun
  | [d] => { results := [.lit (.bool false)], args := [d] }
  | _ => none }
def FnClaimMovedUsedWrongFalsely : Prop := fnClaimMovedUsedRow.holds Try.pinned (OpenSpec.ofChange fnClaimMovedUsedWrong)

/-- 'laws.FnClaimMoved': WHATEVER THE INPUT: true; the input reads as it did. -/
def fnClaimMovedSpec : ChangeSpec := { name := "fnClaimMoved", fn := fun _ => fun
  | [d] => { results := [.lit (.bool true)], args := [d] }
  | _ => none }
def fnClaimMovedRow : OpenClaim := { program := "ythcckenjkicmgaa", sum := "42e841990de16b9abbe35982c705da5637e89475417ade0e50a4e2299c93351f", func := "loop.example/linkstaterouting/laws.FnClaimMoved", spec := "fnClaimMoved", unfollowed := true, recurses := true, apart := false }
def FnClaimMovedSaid : Prop := fnClaimMovedRow.holds Try.pinned (OpenSpec.ofChange fnClaimMovedSpec)

/-- ITS FALSE NEIGHBOUR: 'it returns false'. Refute it at one input. -/
def fnClaimMovedWrong : ChangeSpec := { name := "fnClaimMoved", fn := fun _ => fun
  | [d] => { results := [.lit (.bool false)], args := [d] }
  | _ => none }
def FnClaimMovedWrongFalsely : Prop := fnClaimMovedRow.holds Try.pinned (OpenSpec.ofChange fnClaimMovedWrong)

/-- 'laws.FnExactClaimMoved': WHATEVER THE INPUT: true; the input reads as it did. -/
def fnExactClaimMovedSpec : ChangeSpec := { name := "fnExactClaimMoved", fn := fun _ => fun
  | [d1, d2, d3, d4] => { results := [.lit (.bool true)], args := [d1, d2, d3, d4] }
  | _ => none }
def fnExactClaimMovedRow : OpenClaim := { program := "ythcckenjkicmgaa", sum := "42e841990de16b9abbe35982c705da5637e89475417ade0e50a4e2299c93351f", func := "loop.example/linkstaterouting/laws.FnExactClaimMoved", spec := "fnExactClaimMoved", unfollowed := true, recurses := true, apart := false }
def FnExactClaimMovedSaid : Prop := fnExactClaimMovedRow.holds Try.pinned (OpenSpec.ofChange fnExactClaimMovedSpec)

/-- ITS FALSE NEIGHBOUR: 'it returns false'. Refute it at one input. -/
def fnExactClaimMovedWrong : ChangeSpec := { name := "fnExactClaimMoved", fn := fun _ => fun
  | [d1, d2, d3, d4] => { results := [.lit (.bool false)], args := [d1, d2, d3, d4] }
  | _ => none }
def FnExactClaimMovedWrongFalsely : Prop := fnExactClaimMovedRow.holds Try.pinned (OpenSpec.ofChange fnExactClaimMovedWrong)

/-- 'laws.FnExactAreaSummary': WHATEVER THE INPUT: true; the input reads as it did. -/
def fnExactAreaSummarySpec : ChangeSpec := { name := "fnExactAreaSummary", fn := fun _ => fun
  | [d1, d2, d3] => { results := [.lit (.bool true)], args := [d1, d2, d3] }
  | _ => none }
def fnExactAreaSummaryRow : OpenClaim := { program := "ythcckenjkicmgaa", sum := "42e841990de16b9abbe35982c705da5637e89475417ade0e50a4e2299c93351f", func := "loop.example/linkstaterouting/laws.FnExactAreaSummary", spec := "fnExactAreaSummary", apart := false }
def FnExactAreaSummarySaid : Prop := fnExactAreaSummaryRow.holds Try.pinned (OpenSpec.ofChange fnExactAreaSummarySpec)

/-- ITS FALSE NEIGHBOUR: 'it returns false'. Refute it at one input. -/
def fnExactAreaSummaryWrong : ChangeSpec := { name := "fnExactAreaSummary", fn := fun _ => fun
  | [d1, d2, d3] => { results := [.lit (.bool false)], args := [d1, d2, d3] }
  | _ => none }
def FnExactAreaSummaryWrongFalsely : Prop := fnExactAreaSummaryRow.holds Try.pinned (OpenSpec.ofChange fnExactAreaSummaryWrong)

/-- 'laws.FnExactAreaJoin': WHATEVER THE INPUT: true; the input reads as it did. -/
def fnExactAreaJoinSpec : ChangeSpec := { name := "fnExactAreaJoin", fn := fun _ => fun
  | [d1, d2, d3] => { results := [.lit (.bool true)], args := [d1, d2, d3] }
  | _ => none }
def fnExactAreaJoinRow : OpenClaim := { program := "ythcckenjkicmgaa", sum := "42e841990de16b9abbe35982c705da5637e89475417ade0e50a4e2299c93351f", func := "loop.example/linkstaterouting/laws.FnExactAreaJoin", spec := "fnExactAreaJoin", unfollowed := true, recurses := true, apart := false }
def FnExactAreaJoinSaid : Prop := fnExactAreaJoinRow.holds Try.pinned (OpenSpec.ofChange fnExactAreaJoinSpec)

/-- ITS FALSE NEIGHBOUR: 'it returns false'. Refute it at one input. -/
def fnExactAreaJoinWrong : ChangeSpec := { name := "fnExactAreaJoin", fn := fun _ => fun
  | [d1, d2, d3] => { results := [.lit (.bool false)], args := [d1, d2, d3] }
  | _ => none }
def FnExactAreaJoinWrongFalsely : Prop := fnExactAreaJoinRow.holds Try.pinned (OpenSpec.ofChange fnExactAreaJoinWrong)

/-- 'laws.FnExactClaimGraph': WHATEVER THE INPUT: true; the input reads as it did. -/
def fnExactClaimGraphSpec : ChangeSpec := { name := "fnExactClaimGraph", fn := fun _ => fun
  | [d1, d2, d3] => { results := [.lit (.bool true)], args := [d1, d2, d3] }
  | _ => none }
def fnExactClaimGraphRow : OpenClaim := { program := "ythcckenjkicmgaa", sum := "42e841990de16b9abbe35982c705da5637e89475417ade0e50a4e2299c93351f", func := "loop.example/linkstaterouting/laws.FnExactClaimGraph", spec := "fnExactClaimGraph", unfollowed := true, recurses := true, apart := false }
def FnExactClaimGraphSaid : Prop := fnExactClaimGraphRow.holds Try.pinned (OpenSpec.ofChange fnExactClaimGraphSpec)

/-- ITS FALSE NEIGHBOUR: 'it returns false'. Refute it at one input. -/
def fnExactClaimGraphWrong : ChangeSpec := { name := "fnExactClaimGraph", fn := fun _ => fun
  | [d1, d2, d3] => { results := [.lit (.bool false)], args := [d1, d2, d3] }
  | _ => none }
def FnExactClaimGraphWrongFalsely : Prop := fnExactClaimGraphRow.holds Try.pinned (OpenSpec.ofChange fnExactClaimGraphWrong)

/-- 'laws.FnExactWorldValid': WHATEVER THE INPUT: true; the input reads as it did. -/
def fnExactWorldValidSpec : ChangeSpec := { name := "fnExactWorldValid", fn := fun _ => fun
  | [d] => { results := [.lit (.bool true)], args := [d] }
  | _ => none }
def fnExactWorldValidRow : OpenClaim := { program := "ythcckenjkicmgaa", sum := "42e841990de16b9abbe35982c705da5637e89475417ade0e50a4e2299c93351f", func := "loop.example/linkstaterouting/laws.FnExactWorldValid", spec := "fnExactWorldValid", unfollowed := true, recurses := true, apart := false }
def FnExactWorldValidSaid : Prop := fnExactWorldValidRow.holds Try.pinned (OpenSpec.ofChange fnExactWorldValidSpec)

/-- ITS FALSE NEIGHBOUR: 'it returns false'. Refute it at one input. -/
def fnExactWorldValidWrong : ChangeSpec := { name := "fnExactWorldValid", fn := fun _ => fun
  | [d] => { results := [.lit (.bool false)], args := [d] }
  | _ => none }
def FnExactWorldValidWrongFalsely : Prop := fnExactWorldValidRow.holds Try.pinned (OpenSpec.ofChange fnExactWorldValidWrong)

/- THE SECOND FORM. 'bulk': how many values and letters a reading holds, each counted each time it is reached (what is shared counts as often as it is met; a slice's spare places count too). A statement '..UptoSaid' is the law's where the arguments, and the package variables that the reading takes, are together of bulk at most 1048576: NARROWER than '..Said'. Prove '..Said' where nothing that the law and all that it calls make is longer than what came in: it says more and counts as full. Else prove '..UptoSaid'. A law counts once. -/
mutual
def uptoBulk {H : Type} : DataW H → Nat
  | .lit (.string bytes) => bytes.length + 1
  | .lit _ => 1
  | .nil => 1
  | .ptr d => uptoBulk d + 1
  | .slice elems spare => uptoBulkAll elems + uptoBulkAll spare + 1
  | .agg parts => uptoBulkAll parts + 1
  | .iface _ d => uptoBulk d + 1
  | .map entries => uptoBulkEntries entries + 1
  | .held _ => 1
def uptoBulkAll {H : Type} : List (DataW H) → Nat
  | [] => 0
  | d :: r => uptoBulk d + uptoBulkAll r
def uptoBulkEntries {H : Type} : List (Lit × DataW H) → Nat
  | [] => 0
  | x :: r => uptoBulkEntry x + uptoBulkEntries r
def uptoBulkEntry {H : Type} : Lit × DataW H → Nat
  | (.string bytes, d) => bytes.length + uptoBulk d + 1
  | (_, d) => uptoBulk d + 1
 end
def uptoSmall : (H : Type) → List (DataW H) → Bool := fun _ ds => decide (uptoBulkAll ds ≤ 1048576)
def OpenSpec.upto (s : _root_.Go.ChangeSpec) : _root_.Go.OpenSpec := { _root_.Go.OpenSpec.ofChange s with cond := some uptoSmall }

/-- 'laws.FnClaimMovedUsed', WHERE WHAT IT READS IS OF BULK AT MOST 1048576: true; the input reads as it did. -/
def fnClaimMovedUsedUptoRow : OpenClaim := { program := "ythcckenjkicmgaa", sum := "42e841990de16b9abbe35982c705da5637e89475417ade0e50a4e2299c93351f", func := "loop.example/linkstaterouting/laws.FnClaimMovedUsed", spec := "fnClaimMovedUsed", unfollowed := true, recurses := true, apart := false, narrowed := true }
def FnClaimMovedUsedUptoSaid : Prop := fnClaimMovedUsedUptoRow.holds Try.pinned (OpenSpec.upto fnClaimMovedUsedSpec)

/-- 'laws.FnClaimMoved', WHERE WHAT IT READS IS OF BULK AT MOST 1048576: true; the input reads as it did. -/
def fnClaimMovedUptoRow : OpenClaim := { program := "ythcckenjkicmgaa", sum := "42e841990de16b9abbe35982c705da5637e89475417ade0e50a4e2299c93351f", func := "loop.example/linkstaterouting/laws.FnClaimMoved", spec := "fnClaimMoved", unfollowed := true, recurses := true, apart := false, narrowed := true }
def FnClaimMovedUptoSaid : Prop := fnClaimMovedUptoRow.holds Try.pinned (OpenSpec.upto fnClaimMovedSpec)

/-- 'laws.FnExactClaimMoved', WHERE WHAT IT READS IS OF BULK AT MOST 1048576: true; the input reads as it did. -/
def fnExactClaimMovedUptoRow : OpenClaim := { program := "ythcckenjkicmgaa", sum := "42e841990de16b9abbe35982c705da5637e89475417ade0e50a4e2299c93351f", func := "loop.example/linkstaterouting/laws.FnExactClaimMoved", spec := "fnExactClaimMoved", unfollowed := true, recurses := true, apart := false, narrowed := true }
def FnExactClaimMovedUptoSaid : Prop := fnExactClaimMovedUptoRow.holds Try.pinned (OpenSpec.upto fnExactClaimMovedSpec)

/-- 'laws.FnExactAreaSummary', WHERE WHAT IT READS IS OF BULK AT MOST 1048576: true; the input reads as it did. -/
def fnExactAreaSummaryUptoRow : OpenClaim := { program := "ythcckenjkicmgaa", sum := "42e841990de16b9abbe35982c705da5637e89475417ade0e50a4e2299c93351f", func := "loop.example/linkstaterouting/laws.FnExactAreaSummary", spec := "fnExactAreaSummary", apart := false, narrowed := true }
def FnExactAreaSummaryUptoSaid : Prop := fnExactAreaSummaryUptoRow.holds Try.pinned (OpenSpec.upto fnExactAreaSummarySpec)

/-- 'laws.FnExactAreaJoin', WHERE WHAT IT READS IS OF BULK AT MOST 1048576: true; the input reads as it did. -/
def fnExactAreaJoinUptoRow : OpenClaim := { program := "ythcckenjkicmgaa", sum := "42e841990de16b9abbe35982c705da5637e89475417ade0e50a4e2299c93351f", func := "loop.example/linkstaterouting/laws.FnExactAreaJoin", spec := "fnExactAreaJoin", unfollowed := true, recurses := true, apart := false, narrowed := true }
def FnExactAreaJoinUptoSaid : Prop := fnExactAreaJoinUptoRow.holds Try.pinned (OpenSpec.upto fnExactAreaJoinSpec)

/-- 'laws.FnExactClaimGraph', WHERE WHAT IT READS IS OF BULK AT MOST 1048576: true; the input reads as it did. -/
def fnExactClaimGraphUptoRow : OpenClaim := { program := "ythcckenjkicmgaa", sum := "42e841990de16b9abbe35982c705da5637e89475417ade0e50a4e2299c93351f", func := "loop.example/linkstaterouting/laws.FnExactClaimGraph", spec := "fnExactClaimGraph", unfollowed := true, recurses := true, apart := false, narrowed := true }
def FnExactClaimGraphUptoSaid : Prop := fnExactClaimGraphUptoRow.holds Try.pinned (OpenSpec.upto fnExactClaimGraphSpec)

/-- 'laws.FnExactWorldValid', WHERE WHAT IT READS IS OF BULK AT MOST 1048576: true; the input reads as it did. -/
def fnExactWorldValidUptoRow : OpenClaim := { program := "ythcckenjkicmgaa", sum := "42e841990de16b9abbe35982c705da5637e89475417ade0e50a4e2299c93351f", func := "loop.example/linkstaterouting/laws.FnExactWorldValid", spec := "fnExactWorldValid", unfollowed := true, recurses := true, apart := false, narrowed := true }
def FnExactWorldValidUptoSaid : Prop := fnExactWorldValidUptoRow.holds Try.pinned (OpenSpec.upto fnExactWorldValidSpec)

end Rows
end Go.Proofs.Ythcckenjkicmgaa
