/-
  No cell of these rows narrows 'for every input' (looked for: loops, veiled, ifaces, maps, wideKeys, modest, calm, conditions, laid).
  DERIVED. THE GIVEN ROWS OF THIS SEAT. 4 by the template 'for every input the law returns true; each argument reads behind the call as it read before'; 0 by the template 'total and deterministic' (their statements: YtdfkphagjkpgdaaTotals.lean).
  GIVEN WITH THE SEED: the statements are not yours to turn. If you find one false, say at which input.
  Laid BY PROGRAM, IN A SANDBOX (cutbox-rows.mjs): the forced cells as the released guide's own fill.sh prints them over the translation 26be48ba7b6a9879… (all of the seat's roots in one cut). By AI agents, Wed Nov 11 2026. No macro, syntax, notation, axiom, sorry.
-/
import Derived.Test.YtdfkphagjkpgdaaChecked
import GoSem.Claim
import GoSem.ClaimJoined
import GoSem.ClaimMapViews
import Derived.JoinedTies
import Derived.KernelRfl
namespace Go.Proofs.Ytdfkphagjkpgdaa
/- THE CELL 'sum', in the pinned program and in every row, IS THE sha256 OF THE DUMP (.gsa) THAT YtdfkphagjkpgdaaProg.lean LOADS. Nothing in Lean hashes anything: it is a label: what it is worth is what the hold of that sum in a sandbox is worth. -/
noncomputable def Try.pinned : Pinned := { name := "ytdfkphagjkpgdaa", sum := "26be48ba7b6a9879fc57fc12ab6bc2bb2447605b6ee9161c11d902bbf7eff075", checked := Try.checked }
namespace Rows
def none {H : Type} : Left H := { results := [], args := [] }

/-- 'laws.FnWorldNew': WHATEVER THE INPUT: true; the input reads as it did. -/
def fnWorldNewSpec : ChangeSpec := { name := "fnWorldNew", fn := fun _ => fun
  | [d] => { results := [.lit (.bool true)], args := [d] }
  | _ => none }
def fnWorldNewRow : OpenClaim := { program := "ytdfkphagjkpgdaa", sum := "26be48ba7b6a9879fc57fc12ab6bc2bb2447605b6ee9161c11d902bbf7eff075", func := "loop.example/linkstaterouting/laws.FnWorldNew", spec := "fnWorldNew", unfollowed := true, recurses := true, apart := false }
def FnWorldNewSaid : Prop := fnWorldNewRow.holds Try.pinned (OpenSpec.ofChange fnWorldNewSpec)

/-- ITS FALSE NEIGHBOUR: 'it returns false'. Refute it at one input. -/
def fnWorldNewWrong : ChangeSpec := { name := "fnWorldNew", fn := fun _ => fun
  | [d] => { results := [.lit (.bool false)], args := [d] }
  | _ => none }
def FnWorldNewWrongFalsely : Prop := fnWorldNewRow.holds Try.pinned (OpenSpec.ofChange fnWorldNewWrong)

/-- 'laws.FnWorldTruth': WHATEVER THE INPUT: true; the input reads as it did. -/
def fnWorldTruthSpec : ChangeSpec := { name := "fnWorldTruth", fn := fun _ => fun
  | [d] => { results := [.lit (.bool true)], args := [d] }
  | _ => none }
def fnWorldTruthRow : OpenClaim := { program := "ytdfkphagjkpgdaa", sum := "26be48ba7b6a9879fc57fc12ab6bc2bb2447605b6ee9161c11d902bbf7eff075", func := "loop.example/linkstaterouting/laws.FnWorldTruth", spec := "fnWorldTruth", unfollowed := true, recurses := true, apart := false }
def FnWorldTruthSaid : Prop := fnWorldTruthRow.holds Try.pinned (OpenSpec.ofChange fnWorldTruthSpec)

/-- ITS FALSE NEIGHBOUR: 'it returns false'. Refute it at one input. -/
def fnWorldTruthWrong : ChangeSpec := { name := "fnWorldTruth", fn := fun _ => fun
  | [d] => { results := [.lit (.bool false)], args := [d] }
  | _ => none }
def FnWorldTruthWrongFalsely : Prop := fnWorldTruthRow.holds Try.pinned (OpenSpec.ofChange fnWorldTruthWrong)

/-- 'laws.FnWorldSeen': WHATEVER THE INPUT: true; the input reads as it did. -/
def fnWorldSeenSpec : ChangeSpec := { name := "fnWorldSeen", fn := fun _ => fun
  | [d] => { results := [.lit (.bool true)], args := [d] }
  | _ => none }
def fnWorldSeenRow : OpenClaim := { program := "ytdfkphagjkpgdaa", sum := "26be48ba7b6a9879fc57fc12ab6bc2bb2447605b6ee9161c11d902bbf7eff075", func := "loop.example/linkstaterouting/laws.FnWorldSeen", spec := "fnWorldSeen", unfollowed := true, recurses := true, apart := false }
def FnWorldSeenSaid : Prop := fnWorldSeenRow.holds Try.pinned (OpenSpec.ofChange fnWorldSeenSpec)

/-- ITS FALSE NEIGHBOUR: 'it returns false'. Refute it at one input. -/
def fnWorldSeenWrong : ChangeSpec := { name := "fnWorldSeen", fn := fun _ => fun
  | [d] => { results := [.lit (.bool false)], args := [d] }
  | _ => none }
def FnWorldSeenWrongFalsely : Prop := fnWorldSeenRow.holds Try.pinned (OpenSpec.ofChange fnWorldSeenWrong)

/-- 'laws.FnWorldOwn': WHATEVER THE INPUT: true; the input reads as it did. -/
def fnWorldOwnSpec : ChangeSpec := { name := "fnWorldOwn", fn := fun _ => fun
  | [d] => { results := [.lit (.bool true)], args := [d] }
  | _ => none }
def fnWorldOwnRow : OpenClaim := { program := "ytdfkphagjkpgdaa", sum := "26be48ba7b6a9879fc57fc12ab6bc2bb2447605b6ee9161c11d902bbf7eff075", func := "loop.example/linkstaterouting/laws.FnWorldOwn", spec := "fnWorldOwn", unfollowed := true, recurses := true, apart := false }
def FnWorldOwnSaid : Prop := fnWorldOwnRow.holds Try.pinned (OpenSpec.ofChange fnWorldOwnSpec)

/-- ITS FALSE NEIGHBOUR: 'it returns false'. Refute it at one input. -/
def fnWorldOwnWrong : ChangeSpec := { name := "fnWorldOwn", fn := fun _ => fun
  | [d] => { results := [.lit (.bool false)], args := [d] }
  | _ => none }
def FnWorldOwnWrongFalsely : Prop := fnWorldOwnRow.holds Try.pinned (OpenSpec.ofChange fnWorldOwnWrong)

/- THE SECOND FORM. 'bulk': how many values and letters a reading holds, each counted each time it is reached (what is shared counts as often as it is met; a slice's spare places count too). A statement '..UptoSaid' is the law's where the arguments, and the package variables that the reading takes, are together of bulk at most 1048576: NARROWER than '..Said'. Prove '..Said' where nothing that the law and all that it calls make is longer than what came in: it says more and counts as full. Else prove '..UptoSaid'. A law counts once. -/
mutual
def uptoBulk {H : Type} : DataW H → Nat
  | .lit (.string bytes) => bytes.length + 1
  | .lit _ => 1
  | .nil => 1
  | .ptr d => uptoBulk d + 1
  | .slice elems spare => uptoBulkAll elems + uptoBulkAll spare + 1
  | .agg parts => uptoBulkAll parts + 1
  | .iface _ d => uptoBulk d + 1
  | .map entries => uptoBulkEntries entries + 1
  | .held _ => 1
def uptoBulkAll {H : Type} : List (DataW H) → Nat
  | [] => 0
  | d :: r => uptoBulk d + uptoBulkAll r
def uptoBulkEntries {H : Type} : List (Lit × DataW H) → Nat
  | [] => 0
  | x :: r => uptoBulkEntry x + uptoBulkEntries r
def uptoBulkEntry {H : Type} : Lit × DataW H → Nat
  | (.string bytes, d) => bytes.length + uptoBulk d + 1
  | (_, d) => uptoBulk d + 1
 end
def uptoSmall : (H : Type) → List (DataW H) → Bool := fun _ ds => decide (uptoBulkAll ds ≤ 1048576)
def OpenSpec.upto (s : _root_.Go.ChangeSpec) : _root_.Go.OpenSpec := { _root_.Go.OpenSpec.ofChange s with cond := some uptoSmall }

/-- 'laws.FnWorldNew', WHERE WHAT IT READS IS OF BULK AT MOST 1048576: true; the input reads as it did. -/
def fnWorldNewUptoRow : OpenClaim := { program := "ytdfkphagjkpgdaa", sum := "26be48ba7b6a9879fc57fc12ab6bc2bb2447605b6ee9161c11d902bbf7eff075", func := "loop.example/linkstaterouting/laws.FnWorldNew", spec := "fnWorldNew", unfollowed := true, recurses := true, apart := false, narrowed := true }
def FnWorldNewUptoSaid : Prop := fnWorldNewUptoRow.holds Try.pinned (OpenSpec.upto fnWorldNewSpec)

/-- 'laws.FnWorldTruth', WHERE WHAT IT READS IS OF BULK AT MOST 1048576: true; the input reads as it did. -/
def fnWorldTruthUptoRow : OpenClaim := { program := "ytdfkphagjkpgdaa", sum := "26be48ba7b6a9879fc57fc12ab6bc2bb2447605b6ee9161c11d902bbf7eff075", func := "loop.example/linkstaterouting/laws.FnWorldTruth", spec := "fnWorldTruth", unfollowed := true, recurses := true, apart := false, narrowed := true }
def FnWorldTruthUptoSaid : Prop := fnWorldTruthUptoRow.holds Try.pinned (OpenSpec.upto fnWorldTruthSpec)

/-- 'laws.FnWorldSeen', WHERE WHAT IT READS IS OF BULK AT MOST 1048576: true; the input reads as it did. -/
def fnWorldSeenUptoRow : OpenClaim := { program := "ytdfkphagjkpgdaa", sum := "26be48ba7b6a9879fc57fc12ab6bc2bb2447605b6ee9161c11d902bbf7eff075", func := "loop.example/linkstaterouting/laws.FnWorldSeen", spec := "fnWorldSeen", unfollowed := true, recurses := true, apart := false, narrowed := true }
def FnWorldSeenUptoSaid : Prop := fnWorldSeenUptoRow.holds Try.pinned (OpenSpec.upto fnWorldSeenSpec)

/-- 'laws.FnWorldOwn', WHERE WHAT IT READS IS OF BULK AT MOST 1048576: true; the input reads as it did. -/
def fnWorldOwnUptoRow : OpenClaim := { program := "ytdfkphagjkpgdaa", sum := "26be48ba7b6a9879fc57fc12ab6bc2bb2447605b6ee9161c11d902bbf7eff075", func := "loop.example/linkstaterouting/laws.FnWorldOwn", spec := "fnWorldOwn", unfollowed := true, recurses := true, apart := false, narrowed := true }
def FnWorldOwnUptoSaid : Prop := fnWorldOwnUptoRow.holds Try.pinned (OpenSpec.upto fnWorldOwnSpec)

end Rows
end Go.Proofs.Ytdfkphagjkpgdaa
