/-
  No cell of these rows narrows 'for every input' (looked for: loops, veiled, ifaces, maps, wideKeys, modest, calm, conditions, laid).
  DERIVED. THE GIVEN ROWS OF THIS SEAT. 12 by the template 'for every input the law returns true; each argument reads behind the call as it read before'; 0 by the template 'total and deterministic' (their statements: YtjdebphkndfolaaTotals.lean).
  GIVEN WITH THE SEED: the statements are not yours to turn. If you find one false, say at which input.
  Laid BY PROGRAM, IN A SANDBOX (cutbox-rows.mjs): the forced cells as the released guide's own fill.sh prints them over the translation 16337edc3a5fb00b… (all of the seat's roots in one cut). By AI agents, Wed Nov 11 2026. No macro, syntax, notation, axiom, sorry.
-/
import Derived.Test.YtjdebphkndfolaaChecked
import GoSem.Claim
import GoSem.ClaimJoined
import GoSem.ClaimMapViews
import Derived.JoinedTies
import Derived.KernelRfl
namespace Go.Proofs.Ytjdebphkndfolaa
/- THE CELL 'sum', in the pinned program and in every row, IS THE sha256 OF THE DUMP (.gsa) THAT YtjdebphkndfolaaProg.lean LOADS. Nothing in Lean hashes anything: it is a label: what it is worth is what the hold of that sum in a sandbox is worth. -/
noncomputable def Try.pinned : Pinned := { name := "ytjdebphkndfolaa", sum := "16337edc3a5fb00bec402d84789bdb45323a7ed253d7459bc371494e41950f3f", checked := Try.checked }
namespace Rows
def none {H : Type} : Left H := { results := [], args := [] }

/-- 'laws.FnAreaJoinBack': WHATEVER THE INPUT: true; the input reads as it did. -/
def fnAreaJoinBackSpec : ChangeSpec := { name := "fnAreaJoinBack", fn := fun _ => fun
  | [d] => { results := [.lit (.bool true)], args := [d] }
  | _ => none }
def fnAreaJoinBackRow : OpenClaim := { program := "ytjdebphkndfolaa", sum := "16337edc3a5fb00bec402d84789bdb45323a7ed253d7459bc371494e41950f3f", func := "loop.example/linkstaterouting/laws.FnAreaJoinBack", spec := "fnAreaJoinBack", unfollowed := true, recurses := true, apart := false }
def FnAreaJoinBackSaid : Prop := fnAreaJoinBackRow.holds Try.pinned (OpenSpec.ofChange fnAreaJoinBackSpec)

/-- ITS FALSE NEIGHBOUR: 'it returns false'. Refute it at one input. -/
def fnAreaJoinBackWrong : ChangeSpec := { name := "fnAreaJoinBack", fn := fun _ => fun
  | [d] => { results := [.lit (.bool false)], args := [d] }
  | _ => none }
def FnAreaJoinBackWrongFalsely : Prop := fnAreaJoinBackRow.holds Try.pinned (OpenSpec.ofChange fnAreaJoinBackWrong)

/-- 'laws.FnAreaJoin': WHATEVER THE INPUT: true; the input reads as it did. -/
def fnAreaJoinSpec : ChangeSpec := { name := "fnAreaJoin", fn := fun _ => fun
  | [d] => { results := [.lit (.bool true)], args := [d] }
  | _ => none }
def fnAreaJoinRow : OpenClaim := { program := "ytjdebphkndfolaa", sum := "16337edc3a5fb00bec402d84789bdb45323a7ed253d7459bc371494e41950f3f", func := "loop.example/linkstaterouting/laws.FnAreaJoin", spec := "fnAreaJoin", unfollowed := true, recurses := true, apart := false }
def FnAreaJoinSaid : Prop := fnAreaJoinRow.holds Try.pinned (OpenSpec.ofChange fnAreaJoinSpec)

/-- ITS FALSE NEIGHBOUR: 'it returns false'. Refute it at one input. -/
def fnAreaJoinWrong : ChangeSpec := { name := "fnAreaJoin", fn := fun _ => fun
  | [d] => { results := [.lit (.bool false)], args := [d] }
  | _ => none }
def FnAreaJoinWrongFalsely : Prop := fnAreaJoinRow.holds Try.pinned (OpenSpec.ofChange fnAreaJoinWrong)

/-- 'laws.FnExactAreaJoin': WHATEVER THE INPUT: true; the input reads as it did. -/
def fnExactAreaJoinSpec : ChangeSpec := { name := "fnExactAreaJoin", fn := fun _ => fun
  | [d1, d2, d3] => { results := [.lit (.bool true)], args := [d1, d2, d3] }
  | _ => none }
def fnExactAreaJoinRow : OpenClaim := { program := "ytjdebphkndfolaa", sum := "16337edc3a5fb00bec402d84789bdb45323a7ed253d7459bc371494e41950f3f", func := "loop.example/linkstaterouting/laws.FnExactAreaJoin", spec := "fnExactAreaJoin", unfollowed := true, recurses := true, apart := false }
def FnExactAreaJoinSaid : Prop := fnExactAreaJoinRow.holds Try.pinned (OpenSpec.ofChange fnExactAreaJoinSpec)

/-- ITS FALSE NEIGHBOUR: 'it returns false'. Refute it at one input. -/
def fnExactAreaJoinWrong : ChangeSpec := { name := "fnExactAreaJoin", fn := fun _ => fun
  | [d1, d2, d3] => { results := [.lit (.bool false)], args := [d1, d2, d3] }
  | _ => none }
def FnExactAreaJoinWrongFalsely : Prop := fnExactAreaJoinRow.holds Try.pinned (OpenSpec.ofChange fnExactAreaJoinWrong)

/-- 'laws.FnAreaJoinSame': WHATEVER THE INPUT: true; the input reads as it did. -/
def fnAreaJoinSameSpec : ChangeSpec := { name := "fnAreaJoinSame", fn := fun _ => fun
  | [d] => { results := [.lit (.bool true)], args := [d] }
  | _ => none }
def fnAreaJoinSameRow : OpenClaim := { program := "ytjdebphkndfolaa", sum := "16337edc3a5fb00bec402d84789bdb45323a7ed253d7459bc371494e41950f3f", func := "loop.example/linkstaterouting/laws.FnAreaJoinSame", spec := "fnAreaJoinSame", unfollowed := true, recurses := true, apart := false }
def FnAreaJoinSameSaid : Prop := fnAreaJoinSameRow.holds Try.pinned (OpenSpec.ofChange fnAreaJoinSameSpec)

/-- ITS FALSE NEIGHBOUR: 'it returns false'. Refute it at one input. -/
def fnAreaJoinSameWrong : ChangeSpec := { name := "fnAreaJoinSame", fn := fun _ => fun
  | [d] => { results := [.lit (.bool false)], args := [d] }
  | _ => none }
def FnAreaJoinSameWrongFalsely : Prop := fnAreaJoinSameRow.holds Try.pinned (OpenSpec.ofChange fnAreaJoinSameWrong)

/-- 'laws.FnAreaNotShorter': WHATEVER THE INPUT: true; the input reads as it did. -/
def fnAreaNotShorterSpec : ChangeSpec := { name := "fnAreaNotShorter", fn := fun _ => fun
  | [d1, d2] => { results := [.lit (.bool true)], args := [d1, d2] }
  | _ => none }
def fnAreaNotShorterRow : OpenClaim := { program := "ytjdebphkndfolaa", sum := "16337edc3a5fb00bec402d84789bdb45323a7ed253d7459bc371494e41950f3f", func := "loop.example/linkstaterouting/laws.FnAreaNotShorter", spec := "fnAreaNotShorter", unfollowed := true, recurses := true, apart := false }
def FnAreaNotShorterSaid : Prop := fnAreaNotShorterRow.holds Try.pinned (OpenSpec.ofChange fnAreaNotShorterSpec)

/-- ITS FALSE NEIGHBOUR: 'it returns false'. Refute it at one input. -/
def fnAreaNotShorterWrong : ChangeSpec := { name := "fnAreaNotShorter", fn := fun _ => fun
  | [d1, d2] => { results := [.lit (.bool false)], args := [d1, d2] }
  | _ => none }
def FnAreaNotShorterWrongFalsely : Prop := fnAreaNotShorterRow.holds Try.pinned (OpenSpec.ofChange fnAreaNotShorterWrong)

/-- 'laws.FnAreaSingle': WHATEVER THE INPUT: true; the input reads as it did. -/
def fnAreaSingleSpec : ChangeSpec := { name := "fnAreaSingle", fn := fun _ => fun
  | [d1, d2] => { results := [.lit (.bool true)], args := [d1, d2] }
  | _ => none }
def fnAreaSingleRow : OpenClaim := { program := "ytjdebphkndfolaa", sum := "16337edc3a5fb00bec402d84789bdb45323a7ed253d7459bc371494e41950f3f", func := "loop.example/linkstaterouting/laws.FnAreaSingle", spec := "fnAreaSingle", unfollowed := true, recurses := true, apart := false }
def FnAreaSingleSaid : Prop := fnAreaSingleRow.holds Try.pinned (OpenSpec.ofChange fnAreaSingleSpec)

/-- ITS FALSE NEIGHBOUR: 'it returns false'. Refute it at one input. -/
def fnAreaSingleWrong : ChangeSpec := { name := "fnAreaSingle", fn := fun _ => fun
  | [d1, d2] => { results := [.lit (.bool false)], args := [d1, d2] }
  | _ => none }
def FnAreaSingleWrongFalsely : Prop := fnAreaSingleRow.holds Try.pinned (OpenSpec.ofChange fnAreaSingleWrong)

/-- 'laws.FnClaim': WHATEVER THE INPUT: true; the input reads as it did. -/
def fnClaimSpec : ChangeSpec := { name := "fnClaim", fn := fun _ => fun
  | [d] => { results := [.lit (.bool true)], args := [d] }
  | _ => none }
def fnClaimRow : OpenClaim := { program := "ytjdebphkndfolaa", sum := "16337edc3a5fb00bec402d84789bdb45323a7ed253d7459bc371494e41950f3f", func := "loop.example/linkstaterouting/laws.FnClaim", spec := "fnClaim", unfollowed := true, recurses := true, apart := false }
def FnClaimSaid : Prop := fnClaimRow.holds Try.pinned (OpenSpec.ofChange fnClaimSpec)

/-- ITS FALSE NEIGHBOUR: 'it returns false'. Refute it at one input. -/
def fnClaimWrong : ChangeSpec := { name := "fnClaim", fn := fun _ => fun
  | [d] => { results := [.lit (.bool false)], args := [d] }
  | _ => none }
def FnClaimWrongFalsely : Prop := fnClaimRow.holds Try.pinned (OpenSpec.ofChange fnClaimWrong)

/-- 'laws.FnClaimNothing': WHATEVER THE INPUT: true; the input reads as it did. -/
def fnClaimNothingSpec : ChangeSpec := { name := "fnClaimNothing", fn := fun _ => fun
  | [d] => { results := [.lit (.bool true)], args := [d] }
  | _ => none }
def fnClaimNothingRow : OpenClaim := { program := "ytjdebphkndfolaa", sum := "16337edc3a5fb00bec402d84789bdb45323a7ed253d7459bc371494e41950f3f", func := "loop.example/linkstaterouting/laws.FnClaimNothing", spec := "fnClaimNothing", unfollowed := true, recurses := true, apart := false }
def FnClaimNothingSaid : Prop := fnClaimNothingRow.holds Try.pinned (OpenSpec.ofChange fnClaimNothingSpec)

/-- ITS FALSE NEIGHBOUR: 'it returns false'. Refute it at one input. -/
def fnClaimNothingWrong : ChangeSpec := { name := "fnClaimNothing", fn := fun _ => fun
  | [d] => { results := [.lit (.bool false)], args := [d] }
  | _ => none }
def FnClaimNothingWrongFalsely : Prop := fnClaimNothingRow.holds Try.pinned (OpenSpec.ofChange fnClaimNothingWrong)

/-- 'laws.FnExactClaimGraph': WHATEVER THE INPUT: true; the input reads as it did. -/
def fnExactClaimGraphSpec : ChangeSpec := { name := "fnExactClaimGraph", fn := fun _ => fun
  | [d1, d2, d3] => { results := [.lit (.bool true)], args := [d1, d2, d3] }
  | _ => none }
def fnExactClaimGraphRow : OpenClaim := { program := "ytjdebphkndfolaa", sum := "16337edc3a5fb00bec402d84789bdb45323a7ed253d7459bc371494e41950f3f", func := "loop.example/linkstaterouting/laws.FnExactClaimGraph", spec := "fnExactClaimGraph", unfollowed := true, recurses := true, apart := false }
def FnExactClaimGraphSaid : Prop := fnExactClaimGraphRow.holds Try.pinned (OpenSpec.ofChange fnExactClaimGraphSpec)

/-- ITS FALSE NEIGHBOUR: 'it returns false'. Refute it at one input. -/
def fnExactClaimGraphWrong : ChangeSpec := { name := "fnExactClaimGraph", fn := fun _ => fun
  | [d1, d2, d3] => { results := [.lit (.bool false)], args := [d1, d2, d3] }
  | _ => none }
def FnExactClaimGraphWrongFalsely : Prop := fnExactClaimGraphRow.holds Try.pinned (OpenSpec.ofChange fnExactClaimGraphWrong)

/-- 'laws.FnClaimDraws': WHATEVER THE INPUT: true; the input reads as it did. -/
def fnClaimDrawsSpec : ChangeSpec := { name := "fnClaimDraws", fn := fun _ => fun
  | [d1, d2] => { results := [.lit (.bool true)], args := [d1, d2] }
  | _ => none }
def fnClaimDrawsRow : OpenClaim := { program := "ytjdebphkndfolaa", sum := "16337edc3a5fb00bec402d84789bdb45323a7ed253d7459bc371494e41950f3f", func := "loop.example/linkstaterouting/laws.FnClaimDraws", spec := "fnClaimDraws", unfollowed := true, recurses := true, apart := false }
def FnClaimDrawsSaid : Prop := fnClaimDrawsRow.holds Try.pinned (OpenSpec.ofChange fnClaimDrawsSpec)

/-- ITS FALSE NEIGHBOUR: 'it returns false'. Refute it at one input. -/
def fnClaimDrawsWrong : ChangeSpec := { name := "fnClaimDraws", fn := fun _ => fun
  | [d1, d2] => { results := [.lit (.bool false)], args := [d1, d2] }
  | _ => none }
def FnClaimDrawsWrongFalsely : Prop := fnClaimDrawsRow.holds Try.pinned (OpenSpec.ofChange fnClaimDrawsWrong)

/-- 'laws.FnClaimDistance': WHATEVER THE INPUT: true; the input reads as it did. -/
def fnClaimDistanceSpec : ChangeSpec := { name := "fnClaimDistance", fn := fun _ => fun
  | [d1, d2] => { results := [.lit (.bool true)], args := [d1, d2] }
  | _ => none }
def fnClaimDistanceRow : OpenClaim := { program := "ytjdebphkndfolaa", sum := "16337edc3a5fb00bec402d84789bdb45323a7ed253d7459bc371494e41950f3f", func := "loop.example/linkstaterouting/laws.FnClaimDistance", spec := "fnClaimDistance", unfollowed := true, recurses := true, apart := false }
def FnClaimDistanceSaid : Prop := fnClaimDistanceRow.holds Try.pinned (OpenSpec.ofChange fnClaimDistanceSpec)

/-- ITS FALSE NEIGHBOUR: 'it returns false'. Refute it at one input. -/
def fnClaimDistanceWrong : ChangeSpec := { name := "fnClaimDistance", fn := fun _ => fun
  | [d1, d2] => { results := [.lit (.bool false)], args := [d1, d2] }
  | _ => none }
def FnClaimDistanceWrongFalsely : Prop := fnClaimDistanceRow.holds Try.pinned (OpenSpec.ofChange fnClaimDistanceWrong)

/-- 'laws.FnClaimTrue': WHATEVER THE INPUT: true; the input reads as it did. -/
def fnClaimTrueSpec : ChangeSpec := { name := "fnClaimTrue", fn := fun _ => fun
  | [d1, d2] => { results := [.lit (.bool true)], args := [d1, d2] }
  | _ => none }
def fnClaimTrueRow : OpenClaim := { program := "ytjdebphkndfolaa", sum := "16337edc3a5fb00bec402d84789bdb45323a7ed253d7459bc371494e41950f3f", func := "loop.example/linkstaterouting/laws.FnClaimTrue", spec := "fnClaimTrue", unfollowed := true, recurses := true, apart := false }
def FnClaimTrueSaid : Prop := fnClaimTrueRow.holds Try.pinned (OpenSpec.ofChange fnClaimTrueSpec)

/-- ITS FALSE NEIGHBOUR: 'it returns false'. Refute it at one input. -/
def fnClaimTrueWrong : ChangeSpec := { name := "fnClaimTrue", fn := fun _ => fun
  | [d1, d2] => { results := [.lit (.bool false)], args := [d1, d2] }
  | _ => none }
def FnClaimTrueWrongFalsely : Prop := fnClaimTrueRow.holds Try.pinned (OpenSpec.ofChange fnClaimTrueWrong)

/- THE SECOND FORM. 'bulk': how many values and letters a reading holds, each counted each time it is reached (what is shared counts as often as it is met; a slice's spare places count too). A statement '..UptoSaid' is the law's where the arguments, and the package variables that the reading takes, are together of bulk at most 1048576: NARROWER than '..Said'. Prove '..Said' where nothing that the law and all that it calls make is longer than what came in: it says more and counts as full. Else prove '..UptoSaid'. A law counts once. -/
mutual
def uptoBulk {H : Type} : DataW H → Nat
  | .lit (.string bytes) => bytes.length + 1
  | .lit _ => 1
  | .nil => 1
  | .ptr d => uptoBulk d + 1
  | .slice elems spare => uptoBulkAll elems + uptoBulkAll spare + 1
  | .agg parts => uptoBulkAll parts + 1
  | .iface _ d => uptoBulk d + 1
  | .map entries => uptoBulkEntries entries + 1
  | .held _ => 1
def uptoBulkAll {H : Type} : List (DataW H) → Nat
  | [] => 0
  | d :: r => uptoBulk d + uptoBulkAll r
def uptoBulkEntries {H : Type} : List (Lit × DataW H) → Nat
  | [] => 0
  | x :: r => uptoBulkEntry x + uptoBulkEntries r
def uptoBulkEntry {H : Type} : Lit × DataW H → Nat
  | (.string bytes, d) => bytes.length + uptoBulk d + 1
  | (_, d) => uptoBulk d + 1
 end
def uptoSmall : (H : Type) → List (DataW H) → Bool := fun _ ds => decide (uptoBulkAll ds ≤ 1048576)
def OpenSpec.upto (s : _root_.Go.ChangeSpec) : _root_.Go.OpenSpec := { _root_.Go.OpenSpec.ofChange s with cond := some uptoSmall }

/-- 'laws.FnAreaJoinBack', WHERE WHAT IT READS IS OF BULK AT MOST 1048576: true; the input reads as it did. -/
def fnAreaJoinBackUptoRow : OpenClaim := { program := "ytjdebphkndfolaa", sum := "16337edc3a5fb00bec402d84789bdb45323a7ed253d7459bc371494e41950f3f", func := "loop.example/linkstaterouting/laws.FnAreaJoinBack", spec := "fnAreaJoinBack", unfollowed := true, recurses := true, apart := false, narrowed := true }
def FnAreaJoinBackUptoSaid : Prop := fnAreaJoinBackUptoRow.holds Try.pinned (OpenSpec.upto fnAreaJoinBackSpec)

/-- 'laws.FnAreaJoin', WHERE WHAT IT READS IS OF BULK AT MOST 1048576: true; the input reads as it did. -/
def fnAreaJoinUptoRow : OpenClaim := { program := "ytjdebphkndfolaa", sum := "16337edc3a5fb00bec402d84789bdb45323a7ed253d7459bc371494e41950f3f", func := "loop.example/linkstaterouting/laws.FnAreaJoin", spec := "fnAreaJoin", unfollowed := true, recurses := true, apart := false, narrowed := true }
def FnAreaJoinUptoSaid : Prop := fnAreaJoinUptoRow.holds Try.pinned (OpenSpec.upto fnAreaJoinSpec)

/-- 'laws.FnExactAreaJoin', WHERE WHAT IT READS IS OF BULK AT MOST 1048576: true; the input reads as it did. -/
def fnExactAreaJoinUptoRow : OpenClaim := { program := "ytjdebphkndfolaa", sum := "16337edc3a5fb00bec402d84789bdb45323a7ed253d7459bc371494e41950f3f", func := "loop.example/linkstaterouting/laws.FnExactAreaJoin", spec := "fnExactAreaJoin", unfollowed := true, recurses := true, apart := false, narrowed := true }
def FnExactAreaJoinUptoSaid : Prop := fnExactAreaJoinUptoRow.holds Try.pinned (OpenSpec.upto fnExactAreaJoinSpec)

/-- 'laws.FnAreaJoinSame', WHERE WHAT IT READS IS OF BULK AT MOST 1048576: true; the input reads as it did. -/
def fnAreaJoinSameUptoRow : OpenClaim := { program := "ytjdebphkndfolaa", sum := "16337edc3a5fb00bec402d84789bdb45323a7ed253d7459bc371494e41950f3f", func := "loop.example/linkstaterouting/laws.FnAreaJoinSame", spec := "fnAreaJoinSame", unfollowed := true, recurses := true, apart := false, narrowed := true }
def FnAreaJoinSameUptoSaid : Prop := fnAreaJoinSameUptoRow.holds Try.pinned (OpenSpec.upto fnAreaJoinSameSpec)

/-- 'laws.FnAreaNotShorter', WHERE WHAT IT READS IS OF BULK AT MOST 1048576: true; the input reads as it did. -/
def fnAreaNotShorterUptoRow : OpenClaim := { program := "ytjdebphkndfolaa", sum := "16337edc3a5fb00bec402d84789bdb45323a7ed253d7459bc371494e41950f3f", func := "loop.example/linkstaterouting/laws.FnAreaNotShorter", spec := "fnAreaNotShorter", unfollowed := true, recurses := true, apart := false, narrowed := true }
def FnAreaNotShorterUptoSaid : Prop := fnAreaNotShorterUptoRow.holds Try.pinned (OpenSpec.upto fnAreaNotShorterSpec)

/-- 'laws.FnAreaSingle', WHERE WHAT IT READS IS OF BULK AT MOST 1048576: true; the input reads as it did. -/
def fnAreaSingleUptoRow : OpenClaim := { program := "ytjdebphkndfolaa", sum := "16337edc3a5fb00bec402d84789bdb45323a7ed253d7459bc371494e41950f3f", func := "loop.example/linkstaterouting/laws.FnAreaSingle", spec := "fnAreaSingle", unfollowed := true, recurses := true, apart := false, narrowed := true }
def FnAreaSingleUptoSaid : Prop := fnAreaSingleUptoRow.holds Try.pinned (OpenSpec.upto fnAreaSingleSpec)

/-- 'laws.FnClaim', WHERE WHAT IT READS IS OF BULK AT MOST 1048576: true; the input reads as it did. -/
def fnClaimUptoRow : OpenClaim := { program := "ytjdebphkndfolaa", sum := "16337edc3a5fb00bec402d84789bdb45323a7ed253d7459bc371494e41950f3f", func := "loop.example/linkstaterouting/laws.FnClaim", spec := "fnClaim", unfollowed := true, recurses := true, apart := false, narrowed := true }
def FnClaimUptoSaid : Prop := fnClaimUptoRow.holds Try.pinned (OpenSpec.upto fnClaimSpec)

/-- 'laws.FnClaimNothing', WHERE WHAT IT READS IS OF BULK AT MOST 1048576: true; the input reads as it did. -/
def fnClaimNothingUptoRow : OpenClaim := { program := "ytjdebphkndfolaa", sum := "16337edc3a5fb00bec402d84789bdb45323a7ed253d7459bc371494e41950f3f", func := "loop.example/linkstaterouting/laws.FnClaimNothing", spec := "fnClaimNothing", unfollowed := true, recurses := true, apart := false, narrowed := true }
def FnClaimNothingUptoSaid : Prop := fnClaimNothingUptoRow.holds Try.pinned (OpenSpec.upto fnClaimNothingSpec)

/-- 'laws.FnExactClaimGraph', WHERE WHAT IT READS IS OF BULK AT MOST 1048576: true; the input reads as it did. -/
def fnExactClaimGraphUptoRow : OpenClaim := { program := "ytjdebphkndfolaa", sum := "16337edc3a5fb00bec402d84789bdb45323a7ed253d7459bc371494e41950f3f", func := "loop.example/linkstaterouting/laws.FnExactClaimGraph", spec := "fnExactClaimGraph", unfollowed := true, recurses := true, apart := false, narrowed := true }
def FnExactClaimGraphUptoSaid : Prop := fnExactClaimGraphUptoRow.holds Try.pinned (OpenSpec.upto fnExactClaimGraphSpec)

/-- 'laws.FnClaimDraws', WHERE WHAT IT READS IS OF BULK AT MOST 1048576: true; the input reads as it did. -/
def fnClaimDrawsUptoRow : OpenClaim := { program := "ytjdebphkndfolaa", sum := "16337edc3a5fb00bec402d84789bdb45323a7ed253d7459bc371494e41950f3f", func := "loop.example/linkstaterouting/laws.FnClaimDraws", spec := "fnClaimDraws", unfollowed := true, recurses := true, apart := false, narrowed := true }
def FnClaimDrawsUptoSaid : Prop := fnClaimDrawsUptoRow.holds Try.pinned (OpenSpec.upto fnClaimDrawsSpec)

/-- 'laws.FnClaimDistance', WHERE WHAT IT READS IS OF BULK AT MOST 1048576: true; the input reads as it did. -/
def fnClaimDistanceUptoRow : OpenClaim := { program := "ytjdebphkndfolaa", sum := "16337edc3a5fb00bec402d84789bdb45323a7ed253d7459bc371494e41950f3f", func := "loop.example/linkstaterouting/laws.FnClaimDistance", spec := "fnClaimDistance", unfollowed := true, recurses := true, apart := false, narrowed := true }
def FnClaimDistanceUptoSaid : Prop := fnClaimDistanceUptoRow.holds Try.pinned (OpenSpec.upto fnClaimDistanceSpec)

/-- 'laws.FnClaimTrue', WHERE WHAT IT READS IS OF BULK AT MOST 1048576: true; the input reads as it did. -/
def fnClaimTrueUptoRow : OpenClaim := { program := "ytjdebphkndfolaa", sum := "16337edc3a5fb00bec402d84789bdb45323a7ed253d7459bc371494e41950f3f", func := "loop.example/linkstaterouting/laws.FnClaimTrue", spec := "fnClaimTrue", unfollowed := true, recurses := true, apart := false, narrowed := true }
def FnClaimTrueUptoSaid : Prop := fnClaimTrueUptoRow.holds Try.pinned (OpenSpec.upto fnClaimTrueSpec)

end Rows
end Go.Proofs.Ytjdebphkndfolaa
