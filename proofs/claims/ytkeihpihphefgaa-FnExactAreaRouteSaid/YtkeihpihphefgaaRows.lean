/-
  No cell of these rows narrows 'for every input' (looked for: loops, veiled, ifaces, maps, wideKeys, modest, calm, conditions, laid).
  DERIVED. THE GIVEN ROWS OF THIS SEAT. 8 by the template 'for every input the law returns true; each argument reads behind the call as it read before'; 0 by the template 'total and deterministic' (their statements: YtkeihpihphefgaaTotals.lean).
  GIVEN WITH THE SEED: the statements are not yours to turn. If you find one false, say at which input.
  Laid BY PROGRAM, IN A SANDBOX (cutbox-rows.mjs): the forced cells as the released guide's own fill.sh prints them over the translation a5a1d81b0c9acc14… (all of the seat's roots in one cut). By AI agents, Wed Nov 11 2026. No macro, syntax, notation, axiom, sorry.
-/
import Derived.Test.YtkeihpihphefgaaChecked
import GoSem.Claim
import GoSem.ClaimJoined
import GoSem.ClaimMapViews
import Derived.JoinedTies
import Derived.KernelRfl
namespace Go.Proofs.Ytkeihpihphefgaa
/- THE CELL 'sum', in the pinned program and in every row, IS THE sha256 OF THE DUMP (.gsa) THAT YtkeihpihphefgaaProg.lean LOADS. Nothing in Lean hashes anything: it is a label: what it is worth is what the hold of that sum in a sandbox is worth. -/
noncomputable def Try.pinned : Pinned := { name := "ytkeihpihphefgaa", sum := "a5a1d81b0c9acc149553b9a8feb5f3bd1b302fd48d41f311d4291ccbde466c18", checked := Try.checked }
namespace Rows
def none {H : Type} : Left H := { results := [], args := [] }

/-- 'laws.FnSummaryBorder': WHATEVER THE INPUT: true; the input reads as it did. -/
def fnSummaryBorderSpec : ChangeSpec := { name := "fnSummaryBorder", fn := fun _ => fun
  | [d1, d2] => { results := [.lit (.bool true)], args := [d1, d2] }
  | _ => none }
def fnSummaryBorderRow : OpenClaim := { program := "ytkeihpihphefgaa", sum := "a5a1d81b0c9acc149553b9a8feb5f3bd1b302fd48d41f311d4291ccbde466c18", func := "loop.example/linkstaterouting/laws.FnSummaryBorder", spec := "fnSummaryBorder", apart := false }
def FnSummaryBorderSaid : Prop := fnSummaryBorderRow.holds Try.pinned (OpenSpec.ofChange fnSummaryBorderSpec)

/-- ITS FALSE NEIGHBOUR: 'it returns false'. Refute it at one input. -/
def fnSummaryBorderWrong : ChangeSpec := { name := "fnSummaryBorder", fn := fun _ => fun
  | [d1, d2] => { results := [.lit (.bool false)], args := [d1, d2] }
  | _ => none }
def FnSummaryBorderWrongFalsely : Prop := fnSummaryBorderRow.holds Try.pinned (OpenSpec.ofChange fnSummaryBorderWrong)

/-- 'laws.FnSummary': WHATEVER THE INPUT: true; the input reads as it did. -/
def fnSummarySpec : ChangeSpec := { name := "fnSummary", fn := fun _ => fun
  | [d] => { results := [.lit (.bool true)], args := [d] }
  | _ => none }
def fnSummaryRow : OpenClaim := { program := "ytkeihpihphefgaa", sum := "a5a1d81b0c9acc149553b9a8feb5f3bd1b302fd48d41f311d4291ccbde466c18", func := "loop.example/linkstaterouting/laws.FnSummary", spec := "fnSummary", apart := false }
def FnSummarySaid : Prop := fnSummaryRow.holds Try.pinned (OpenSpec.ofChange fnSummarySpec)

/-- ITS FALSE NEIGHBOUR: 'it returns false'. Refute it at one input. -/
def fnSummaryWrong : ChangeSpec := { name := "fnSummary", fn := fun _ => fun
  | [d] => { results := [.lit (.bool false)], args := [d] }
  | _ => none }
def FnSummaryWrongFalsely : Prop := fnSummaryRow.holds Try.pinned (OpenSpec.ofChange fnSummaryWrong)

/-- 'laws.FnExactAreaRoute': WHATEVER THE INPUT: true; the input reads as it did. -/
def fnExactAreaRouteSpec : ChangeSpec := { name := "fnExactAreaRoute", fn := fun _ => fun
  | [d1, d2, d3, d4, d5] => { results := [.lit (.bool true)], args := [d1, d2, d3, d4, d5] }
  | _ => none }
def fnExactAreaRouteRow : OpenClaim := { program := "ytkeihpihphefgaa", sum := "a5a1d81b0c9acc149553b9a8feb5f3bd1b302fd48d41f311d4291ccbde466c18", func := "loop.example/linkstaterouting/laws.FnExactAreaRoute", spec := "fnExactAreaRoute", apart := false }
def FnExactAreaRouteSaid : Prop := fnExactAreaRouteRow.holds Try.pinned (OpenSpec.ofChange fnExactAreaRouteSpec)

/-- ITS FALSE NEIGHBOUR: 'it returns false'. Refute it at one input. -/
def fnExactAreaRouteWrong : ChangeSpec := { name := "fnExactAreaRoute", fn := fun _ => fun
  | [d1, d2, d3, d4, d5] => { results := [.lit (.bool false)], args := [d1, d2, d3, d4, d5] }
  | _ => none }
def FnExactAreaRouteWrongFalsely : Prop := fnExactAreaRouteRow.holds Try.pinned (OpenSpec.ofChange fnExactAreaRouteWrong)

/-- 'laws.FnExactAreaSummary': WHATEVER THE INPUT: true; the input reads as it did. -/
def fnExactAreaSummarySpec : ChangeSpec := { name := "fnExactAreaSummary", fn := fun _ => fun
  | [d1, d2, d3] => { results := [.lit (.bool true)], args := [d1, d2, d3] }
  | _ => none }
def fnExactAreaSummaryRow : OpenClaim := { program := "ytkeihpihphefgaa", sum := "a5a1d81b0c9acc149553b9a8feb5f3bd1b302fd48d41f311d4291ccbde466c18", func := "loop.example/linkstaterouting/laws.FnExactAreaSummary", spec := "fnExactAreaSummary", apart := false }
def FnExactAreaSummarySaid : Prop := fnExactAreaSummaryRow.holds Try.pinned (OpenSpec.ofChange fnExactAreaSummarySpec)

/-- ITS FALSE NEIGHBOUR: 'it returns false'. Refute it at one input. -/
def fnExactAreaSummaryWrong : ChangeSpec := { name := "fnExactAreaSummary", fn := fun _ => fun
  | [d1, d2, d3] => { results := [.lit (.bool false)], args := [d1, d2, d3] }
  | _ => none }
def FnExactAreaSummaryWrongFalsely : Prop := fnExactAreaSummaryRow.holds Try.pinned (OpenSpec.ofChange fnExactAreaSummaryWrong)

/-- 'laws.FnAreaRouteBorder': WHATEVER THE INPUT: true; the input reads as it did. -/
def fnAreaRouteBorderSpec : ChangeSpec := { name := "fnAreaRouteBorder", fn := fun _ => fun
  | [d1, d2] => { results := [.lit (.bool true)], args := [d1, d2] }
  | _ => none }
def fnAreaRouteBorderRow : OpenClaim := { program := "ytkeihpihphefgaa", sum := "a5a1d81b0c9acc149553b9a8feb5f3bd1b302fd48d41f311d4291ccbde466c18", func := "loop.example/linkstaterouting/laws.FnAreaRouteBorder", spec := "fnAreaRouteBorder", apart := false }
def FnAreaRouteBorderSaid : Prop := fnAreaRouteBorderRow.holds Try.pinned (OpenSpec.ofChange fnAreaRouteBorderSpec)

/-- ITS FALSE NEIGHBOUR: 'it returns false'. Refute it at one input. -/
def fnAreaRouteBorderWrong : ChangeSpec := { name := "fnAreaRouteBorder", fn := fun _ => fun
  | [d1, d2] => { results := [.lit (.bool false)], args := [d1, d2] }
  | _ => none }
def FnAreaRouteBorderWrongFalsely : Prop := fnAreaRouteBorderRow.holds Try.pinned (OpenSpec.ofChange fnAreaRouteBorderWrong)

/-- 'laws.FnAreaRouteMore': WHATEVER THE INPUT: true; the input reads as it did. -/
def fnAreaRouteMoreSpec : ChangeSpec := { name := "fnAreaRouteMore", fn := fun _ => fun
  | [d1, d2] => { results := [.lit (.bool true)], args := [d1, d2] }
  | _ => none }
def fnAreaRouteMoreRow : OpenClaim := { program := "ytkeihpihphefgaa", sum := "a5a1d81b0c9acc149553b9a8feb5f3bd1b302fd48d41f311d4291ccbde466c18", func := "loop.example/linkstaterouting/laws.FnAreaRouteMore", spec := "fnAreaRouteMore", apart := false }
def FnAreaRouteMoreSaid : Prop := fnAreaRouteMoreRow.holds Try.pinned (OpenSpec.ofChange fnAreaRouteMoreSpec)

/-- ITS FALSE NEIGHBOUR: 'it returns false'. Refute it at one input. -/
def fnAreaRouteMoreWrong : ChangeSpec := { name := "fnAreaRouteMore", fn := fun _ => fun
  | [d1, d2] => { results := [.lit (.bool false)], args := [d1, d2] }
  | _ => none }
def FnAreaRouteMoreWrongFalsely : Prop := fnAreaRouteMoreRow.holds Try.pinned (OpenSpec.ofChange fnAreaRouteMoreWrong)

/-- 'laws.FnAreaRouteLeast': WHATEVER THE INPUT: true; the input reads as it did. -/
def fnAreaRouteLeastSpec : ChangeSpec := { name := "fnAreaRouteLeast", fn := fun _ => fun
  | [d] => { results := [.lit (.bool true)], args := [d] }
  | _ => none }
def fnAreaRouteLeastRow : OpenClaim := { program := "ytkeihpihphefgaa", sum := "a5a1d81b0c9acc149553b9a8feb5f3bd1b302fd48d41f311d4291ccbde466c18", func := "loop.example/linkstaterouting/laws.FnAreaRouteLeast", spec := "fnAreaRouteLeast", apart := false }
def FnAreaRouteLeastSaid : Prop := fnAreaRouteLeastRow.holds Try.pinned (OpenSpec.ofChange fnAreaRouteLeastSpec)

/-- ITS FALSE NEIGHBOUR: 'it returns false'. Refute it at one input. -/
def fnAreaRouteLeastWrong : ChangeSpec := { name := "fnAreaRouteLeast", fn := fun _ => fun
  | [d] => { results := [.lit (.bool false)], args := [d] }
  | _ => none }
def FnAreaRouteLeastWrongFalsely : Prop := fnAreaRouteLeastRow.holds Try.pinned (OpenSpec.ofChange fnAreaRouteLeastWrong)

/-- 'laws.FnAreaRoute': WHATEVER THE INPUT: true; the input reads as it did. -/
def fnAreaRouteSpec : ChangeSpec := { name := "fnAreaRoute", fn := fun _ => fun
  | [d] => { results := [.lit (.bool true)], args := [d] }
  | _ => none }
def fnAreaRouteRow : OpenClaim := { program := "ytkeihpihphefgaa", sum := "a5a1d81b0c9acc149553b9a8feb5f3bd1b302fd48d41f311d4291ccbde466c18", func := "loop.example/linkstaterouting/laws.FnAreaRoute", spec := "fnAreaRoute", apart := false }
def FnAreaRouteSaid : Prop := fnAreaRouteRow.holds Try.pinned (OpenSpec.ofChange fnAreaRouteSpec)

/-- ITS FALSE NEIGHBOUR: 'it returns false'. Refute it at one input. -/
def fnAreaRouteWrong : ChangeSpec := { name := "fnAreaRoute", fn := fun _ => fun
  | [d] => { results := [.lit (.bool false)], args := [d] }
  | _ => none }
def FnAreaRouteWrongFalsely : Prop := fnAreaRouteRow.holds Try.pinned (OpenSpec.ofChange fnAreaRouteWrong)

/- THE SECOND FORM. 'bulk': how many values and letters a reading holds, each counted each time it is reached (what is shared counts as often as it is met; a slice's spare places count too). A statement '..UptoSaid' is the law's where the arguments, and the package variables that the reading takes, are together of bulk at most 1048576: NARROWER than '..Said'. Prove '..Said' where nothing that the law and all that it calls make is longer than what came in: it says more and counts as full. Else prove '..UptoSaid'. A law counts once. -/
mutual
def uptoBulk {H : Type} : DataW H → Nat
  | .lit (.string bytes) => bytes.length + 1
  | .lit _ => 1
  | .nil => 1
  | .ptr d => uptoBulk d + 1
  | .slice elems spare => uptoBulkAll elems + uptoBulkAll spare + 1
  | .agg parts => uptoBulkAll parts + 1
  | .iface _ d => uptoBulk d + 1
  | .map entries => uptoBulkEntries entries + 1
  | .held _ => 1
def uptoBulkAll {H : Type} : List (DataW H) → Nat
  | [] => 0
  | d :: r => uptoBulk d + uptoBulkAll r
def uptoBulkEntries {H : Type} : List (Lit × DataW H) → Nat
  | [] => 0
  | x :: r => uptoBulkEntry x + uptoBulkEntries r
def uptoBulkEntry {H : Type} : Lit × DataW H → Nat
  | (.string bytes, d) => bytes.length + uptoBulk d + 1
  | (_, d) => uptoBulk d + 1
 end
def uptoSmall : (H : Type) → List (DataW H) → Bool := fun _ ds => decide (uptoBulkAll ds ≤ 1048576)
def OpenSpec.upto (s : _root_.Go.ChangeSpec) : _root_.Go.OpenSpec := { _root_.Go.OpenSpec.ofChange s with cond := some uptoSmall }

/-- 'laws.FnSummaryBorder', WHERE WHAT IT READS IS OF BULK AT MOST 1048576: true; the input reads as it did. -/
def fnSummaryBorderUptoRow : OpenClaim := { program := "ytkeihpihphefgaa", sum := "a5a1d81b0c9acc149553b9a8feb5f3bd1b302fd48d41f311d4291ccbde466c18", func := "loop.example/linkstaterouting/laws.FnSummaryBorder", spec := "fnSummaryBorder", apart := false, narrowed := true }
def FnSummaryBorderUptoSaid : Prop := fnSummaryBorderUptoRow.holds Try.pinned (OpenSpec.upto fnSummaryBorderSpec)

/-- 'laws.FnSummary', WHERE WHAT IT READS IS OF BULK AT MOST 1048576: true; the input reads as it did. -/
def fnSummaryUptoRow : OpenClaim := { program := "ytkeihpihphefgaa", sum := "a5a1d81b0c9acc149553b9a8feb5f3bd1b302fd48d41f311d4291ccbde466c18", func := "loop.example/linkstaterouting/laws.FnSummary", spec := "fnSummary", apart := false, narrowed := true }
def FnSummaryUptoSaid : Prop := fnSummaryUptoRow.holds Try.pinned (OpenSpec.upto fnSummarySpec)

/-- 'laws.FnExactAreaRoute', WHERE WHAT IT READS IS OF BULK AT MOST 1048576: true; the input reads as it did. -/
def fnExactAreaRouteUptoRow : OpenClaim := { program := "ytkeihpihphefgaa", sum := "a5a1d81b0c9acc149553b9a8feb5f3bd1b302fd48d41f311d4291ccbde466c18", func := "loop.example/linkstaterouting/laws.FnExactAreaRoute", spec := "fnExactAreaRoute", apart := false, narrowed := true }
def FnExactAreaRouteUptoSaid : Prop := fnExactAreaRouteUptoRow.holds Try.pinned (OpenSpec.upto fnExactAreaRouteSpec)

/-- 'laws.FnExactAreaSummary', WHERE WHAT IT READS IS OF BULK AT MOST 1048576: true; the input reads as it did. -/
def fnExactAreaSummaryUptoRow : OpenClaim := { program := "ytkeihpihphefgaa", sum := "a5a1d81b0c9acc149553b9a8feb5f3bd1b302fd48d41f311d4291ccbde466c18", func := "loop.example/linkstaterouting/laws.FnExactAreaSummary", spec := "fnExactAreaSummary", apart := false, narrowed := true }
def FnExactAreaSummaryUptoSaid : Prop := fnExactAreaSummaryUptoRow.holds Try.pinned (OpenSpec.upto fnExactAreaSummarySpec)

/-- 'laws.FnAreaRouteBorder', WHERE WHAT IT READS IS OF BULK AT MOST 1048576: true; the input reads as it did. -/
def fnAreaRouteBorderUptoRow : OpenClaim := { program := "ytkeihpihphefgaa", sum := "a5a1d81b0c9acc149553b9a8feb5f3bd1b302fd48d41f311d4291ccbde466c18", func := "loop.example/linkstaterouting/laws.FnAreaRouteBorder", spec := "fnAreaRouteBorder", apart := false, narrowed := true }
def FnAreaRouteBorderUptoSaid : Prop := fnAreaRouteBorderUptoRow.holds Try.pinned (OpenSpec.upto fnAreaRouteBorderSpec)

/-- 'laws.FnAreaRouteMore', WHERE WHAT IT READS IS OF BULK AT MOST 1048576: true; the input reads as it did. -/
def fnAreaRouteMoreUptoRow : OpenClaim := { program := "ytkeihpihphefgaa", sum := "a5a1d81b0c9acc149553b9a8feb5f3bd1b302fd48d41f311d4291ccbde466c18", func := "loop.example/linkstaterouting/laws.FnAreaRouteMore", spec := "fnAreaRouteMore", apart := false, narrowed := true }
def FnAreaRouteMoreUptoSaid : Prop := fnAreaRouteMoreUptoRow.holds Try.pinned (OpenSpec.upto fnAreaRouteMoreSpec)

/-- 'laws.FnAreaRouteLeast', WHERE WHAT IT READS IS OF BULK AT MOST 1048576: true; the input reads as it did. -/
def fnAreaRouteLeastUptoRow : OpenClaim := { program := "ytkeihpihphefgaa", sum := "a5a1d81b0c9acc149553b9a8feb5f3bd1b302fd48d41f311d4291ccbde466c18", func := "loop.example/linkstaterouting/laws.FnAreaRouteLeast", spec := "fnAreaRouteLeast", apart := false, narrowed := true }
def FnAreaRouteLeastUptoSaid : Prop := fnAreaRouteLeastUptoRow.holds Try.pinned (OpenSpec.upto fnAreaRouteLeastSpec)

/-- 'laws.FnAreaRoute', WHERE WHAT IT READS IS OF BULK AT MOST 1048576: true; the input reads as it did. -/
def fnAreaRouteUptoRow : OpenClaim := { program := "ytkeihpihphefgaa", sum := "a5a1d81b0c9acc149553b9a8feb5f3bd1b302fd48d41f311d4291ccbde466c18", func := "loop.example/linkstaterouting/laws.FnAreaRoute", spec := "fnAreaRoute", apart := false, narrowed := true }
def FnAreaRouteUptoSaid : Prop := fnAreaRouteUptoRow.holds Try.pinned (OpenSpec.upto fnAreaRouteSpec)

end Rows
end Go.Proofs.Ytkeihpihphefgaa
