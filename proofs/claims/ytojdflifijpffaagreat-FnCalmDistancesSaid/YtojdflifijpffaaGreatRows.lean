/-
  No cell of these rows narrows 'for every input' (looked for: loops, veiled, ifaces, maps, wideKeys, modest, calm, conditions, laid).
  DERIVED. THE GIVEN ROWS OF THIS SEAT. 11 by the template 'for every input the law returns true; each argument reads behind the call as it read before'; 0 by the template 'total and deterministic' (their statements: YtojdflifijpffaaGreatTotals.lean).
  GIVEN WITH THE SEED: the statements are not yours to turn. If you find one false, say at which input.
  Laid BY PROGRAM, IN A SANDBOX (cutbox-rows.mjs): the forced cells as the released guide's own fill.sh prints them over the translation f86780d1001c14e6… (all of the seat's roots in one cut). By AI agents, Wed Nov 11 2026. No macro, syntax, notation, axiom, sorry.
-/
import Derived.Test.YtojdflifijpffaaGreatChecked
import GoSem.Claim
import GoSem.ClaimJoined
import GoSem.ClaimMapViews
import Derived.JoinedTies
import Derived.KernelRfl
namespace Go.Proofs.YtojdflifijpffaaGreat
/- THE CELL 'sum', in the pinned program and in every row, IS THE sha256 OF THE DUMP (.gsa) THAT YtojdflifijpffaaGreatProg.lean LOADS. Nothing in Lean hashes anything: it is a label: what it is worth is what the hold of that sum in a sandbox is worth. -/
noncomputable def Tryz.pinned : Pinned := { name := "ytojdflifijpffaagreat", sum := "f86780d1001c14e6e1ae1d74948b0b3e10c163d4d8fcd0ec5a2ca45336de289b", checked := Tryz.checked }
namespace Rows
def none {H : Type} : Left H := { results := [], args := [] }

/-- 'laws.FnWorldInvalid': WHATEVER THE INPUT: true; the input reads as it did. -/
def fnWorldInvalidSpec : ChangeSpec := { name := "fnWorldInvalid", fn := fun _ => fun
  | [d] => { results := [.lit (.bool true)], args := [d] }
  | _ => none }
def fnWorldInvalidRow : OpenClaim := { program := "ytojdflifijpffaagreat", sum := "f86780d1001c14e6e1ae1d74948b0b3e10c163d4d8fcd0ec5a2ca45336de289b", func := "loop.example/linkstaterouting/laws.FnWorldInvalid", spec := "fnWorldInvalid", inPlace := ["slices.overlaps[loop.example/linkstaterouting/impl.Lsa]"], unfollowed := true, recurses := true, apart := false }
def FnWorldInvalidSaid : Prop := fnWorldInvalidRow.holds Tryz.pinned (OpenSpec.ofChange fnWorldInvalidSpec)

/-- ITS FALSE NEIGHBOUR: 'it returns false'. Refute it at one input. -/
def fnWorldInvalidWrong : ChangeSpec := { name := "fnWorldInvalid", fn := fun _ => fun
  | [d] => { results := [.lit (.bool false)], args := [d] }
  | _ => none }
def FnWorldInvalidWrongFalsely : Prop := fnWorldInvalidRow.holds Tryz.pinned (OpenSpec.ofChange fnWorldInvalidWrong)

/-- 'laws.FnWorldDownTwice': WHATEVER THE INPUT: true; the input reads as it did. -/
def fnWorldDownTwiceSpec : ChangeSpec := { name := "fnWorldDownTwice", fn := fun _ => fun
  | [d1, d2] => { results := [.lit (.bool true)], args := [d1, d2] }
  | _ => none }
def fnWorldDownTwiceRow : OpenClaim := { program := "ytojdflifijpffaagreat", sum := "f86780d1001c14e6e1ae1d74948b0b3e10c163d4d8fcd0ec5a2ca45336de289b", func := "loop.example/linkstaterouting/laws.FnWorldDownTwice", spec := "fnWorldDownTwice", inPlace := ["slices.overlaps[loop.example/linkstaterouting/impl.Lsa]"], unfollowed := true, recurses := true, apart := false }
def FnWorldDownTwiceSaid : Prop := fnWorldDownTwiceRow.holds Tryz.pinned (OpenSpec.ofChange fnWorldDownTwiceSpec)

/-- ITS FALSE NEIGHBOUR: 'it returns false'. Refute it at one input. -/
def fnWorldDownTwiceWrong : ChangeSpec := { name := "fnWorldDownTwice", fn := fun _ => fun
  | [d1, d2] => { results := [.lit (.bool false)], args := [d1, d2] }
  | _ => none }
def FnWorldDownTwiceWrongFalsely : Prop := fnWorldDownTwiceRow.holds Tryz.pinned (OpenSpec.ofChange fnWorldDownTwiceWrong)

/-- 'laws.FnWorldLose': WHATEVER THE INPUT: true; the input reads as it did. -/
def fnWorldLoseSpec : ChangeSpec := { name := "fnWorldLose", fn := fun _ => fun
  | [d1, d2] => { results := [.lit (.bool true)], args := [d1, d2] }
  | _ => none }
def fnWorldLoseRow : OpenClaim := { program := "ytojdflifijpffaagreat", sum := "f86780d1001c14e6e1ae1d74948b0b3e10c163d4d8fcd0ec5a2ca45336de289b", func := "loop.example/linkstaterouting/laws.FnWorldLose", spec := "fnWorldLose", inPlace := ["slices.overlaps[loop.example/linkstaterouting/impl.Lsa]"], unfollowed := true, recurses := true, apart := false }
def FnWorldLoseSaid : Prop := fnWorldLoseRow.holds Tryz.pinned (OpenSpec.ofChange fnWorldLoseSpec)

/-- ITS FALSE NEIGHBOUR: 'it returns false'. Refute it at one input. -/
def fnWorldLoseWrong : ChangeSpec := { name := "fnWorldLose", fn := fun _ => fun
  | [d1, d2] => { results := [.lit (.bool false)], args := [d1, d2] }
  | _ => none }
def FnWorldLoseWrongFalsely : Prop := fnWorldLoseRow.holds Tryz.pinned (OpenSpec.ofChange fnWorldLoseWrong)

/-- 'laws.FnWorldSyncOthers': WHATEVER THE INPUT: true; the input reads as it did. -/
def fnWorldSyncOthersSpec : ChangeSpec := { name := "fnWorldSyncOthers", fn := fun _ => fun
  | [d1, d2] => { results := [.lit (.bool true)], args := [d1, d2] }
  | _ => none }
def fnWorldSyncOthersRow : OpenClaim := { program := "ytojdflifijpffaagreat", sum := "f86780d1001c14e6e1ae1d74948b0b3e10c163d4d8fcd0ec5a2ca45336de289b", func := "loop.example/linkstaterouting/laws.FnWorldSyncOthers", spec := "fnWorldSyncOthers", inPlace := ["slices.overlaps[loop.example/linkstaterouting/impl.Lsa]"], unfollowed := true, recurses := true, apart := false }
def FnWorldSyncOthersSaid : Prop := fnWorldSyncOthersRow.holds Tryz.pinned (OpenSpec.ofChange fnWorldSyncOthersSpec)

/-- ITS FALSE NEIGHBOUR: 'it returns false'. Refute it at one input. -/
def fnWorldSyncOthersWrong : ChangeSpec := { name := "fnWorldSyncOthers", fn := fun _ => fun
  | [d1, d2] => { results := [.lit (.bool false)], args := [d1, d2] }
  | _ => none }
def FnWorldSyncOthersWrongFalsely : Prop := fnWorldSyncOthersRow.holds Tryz.pinned (OpenSpec.ofChange fnWorldSyncOthersWrong)

/-- 'laws.FnWorldRepaired': WHATEVER THE INPUT: true; the input reads as it did. -/
def fnWorldRepairedSpec : ChangeSpec := { name := "fnWorldRepaired", fn := fun _ => fun
  | [d1, d2] => { results := [.lit (.bool true)], args := [d1, d2] }
  | _ => none }
def fnWorldRepairedRow : OpenClaim := { program := "ytojdflifijpffaagreat", sum := "f86780d1001c14e6e1ae1d74948b0b3e10c163d4d8fcd0ec5a2ca45336de289b", func := "loop.example/linkstaterouting/laws.FnWorldRepaired", spec := "fnWorldRepaired", inPlace := ["slices.overlaps[loop.example/linkstaterouting/impl.Lsa]"], unfollowed := true, recurses := true, apart := false }
def FnWorldRepairedSaid : Prop := fnWorldRepairedRow.holds Tryz.pinned (OpenSpec.ofChange fnWorldRepairedSpec)

/-- ITS FALSE NEIGHBOUR: 'it returns false'. Refute it at one input. -/
def fnWorldRepairedWrong : ChangeSpec := { name := "fnWorldRepaired", fn := fun _ => fun
  | [d1, d2] => { results := [.lit (.bool false)], args := [d1, d2] }
  | _ => none }
def FnWorldRepairedWrongFalsely : Prop := fnWorldRepairedRow.holds Tryz.pinned (OpenSpec.ofChange fnWorldRepairedWrong)

/-- 'laws.FnWorldOneDb': WHATEVER THE INPUT: true; the input reads as it did. -/
def fnWorldOneDbSpec : ChangeSpec := { name := "fnWorldOneDb", fn := fun _ => fun
  | [d1, d2] => { results := [.lit (.bool true)], args := [d1, d2] }
  | _ => none }
def fnWorldOneDbRow : OpenClaim := { program := "ytojdflifijpffaagreat", sum := "f86780d1001c14e6e1ae1d74948b0b3e10c163d4d8fcd0ec5a2ca45336de289b", func := "loop.example/linkstaterouting/laws.FnWorldOneDb", spec := "fnWorldOneDb", inPlace := ["slices.overlaps[loop.example/linkstaterouting/impl.Lsa]"], unfollowed := true, recurses := true, apart := false }
def FnWorldOneDbSaid : Prop := fnWorldOneDbRow.holds Tryz.pinned (OpenSpec.ofChange fnWorldOneDbSpec)

/-- ITS FALSE NEIGHBOUR: 'it returns false'. Refute it at one input. -/
def fnWorldOneDbWrong : ChangeSpec := { name := "fnWorldOneDb", fn := fun _ => fun
  | [d1, d2] => { results := [.lit (.bool false)], args := [d1, d2] }
  | _ => none }
def FnWorldOneDbWrongFalsely : Prop := fnWorldOneDbRow.holds Tryz.pinned (OpenSpec.ofChange fnWorldOneDbWrong)

/-- 'laws.FnWorldStale': WHATEVER THE INPUT: true; the input reads as it did. -/
def fnWorldStaleSpec : ChangeSpec := { name := "fnWorldStale", fn := fun _ => fun
  | [d1, d2] => { results := [.lit (.bool true)], args := [d1, d2] }
  | _ => none }
def fnWorldStaleRow : OpenClaim := { program := "ytojdflifijpffaagreat", sum := "f86780d1001c14e6e1ae1d74948b0b3e10c163d4d8fcd0ec5a2ca45336de289b", func := "loop.example/linkstaterouting/laws.FnWorldStale", spec := "fnWorldStale", inPlace := ["slices.overlaps[loop.example/linkstaterouting/impl.Lsa]"], unfollowed := true, recurses := true, apart := false }
def FnWorldStaleSaid : Prop := fnWorldStaleRow.holds Tryz.pinned (OpenSpec.ofChange fnWorldStaleSpec)

/-- ITS FALSE NEIGHBOUR: 'it returns false'. Refute it at one input. -/
def fnWorldStaleWrong : ChangeSpec := { name := "fnWorldStale", fn := fun _ => fun
  | [d1, d2] => { results := [.lit (.bool false)], args := [d1, d2] }
  | _ => none }
def FnWorldStaleWrongFalsely : Prop := fnWorldStaleRow.holds Tryz.pinned (OpenSpec.ofChange fnWorldStaleWrong)

/-- 'laws.FnWorldSync': WHATEVER THE INPUT: true; the input reads as it did. -/
def fnWorldSyncSpec : ChangeSpec := { name := "fnWorldSync", fn := fun _ => fun
  | [d1, d2] => { results := [.lit (.bool true)], args := [d1, d2] }
  | _ => none }
def fnWorldSyncRow : OpenClaim := { program := "ytojdflifijpffaagreat", sum := "f86780d1001c14e6e1ae1d74948b0b3e10c163d4d8fcd0ec5a2ca45336de289b", func := "loop.example/linkstaterouting/laws.FnWorldSync", spec := "fnWorldSync", inPlace := ["slices.overlaps[loop.example/linkstaterouting/impl.Lsa]"], unfollowed := true, recurses := true, apart := false }
def FnWorldSyncSaid : Prop := fnWorldSyncRow.holds Tryz.pinned (OpenSpec.ofChange fnWorldSyncSpec)

/-- ITS FALSE NEIGHBOUR: 'it returns false'. Refute it at one input. -/
def fnWorldSyncWrong : ChangeSpec := { name := "fnWorldSync", fn := fun _ => fun
  | [d1, d2] => { results := [.lit (.bool false)], args := [d1, d2] }
  | _ => none }
def FnWorldSyncWrongFalsely : Prop := fnWorldSyncRow.holds Tryz.pinned (OpenSpec.ofChange fnWorldSyncWrong)

/-- 'laws.FnCalmSame': WHATEVER THE INPUT: true; the input reads as it did. -/
def fnCalmSameSpec : ChangeSpec := { name := "fnCalmSame", fn := fun _ => fun
  | [d] => { results := [.lit (.bool true)], args := [d] }
  | _ => none }
def fnCalmSameRow : OpenClaim := { program := "ytojdflifijpffaagreat", sum := "f86780d1001c14e6e1ae1d74948b0b3e10c163d4d8fcd0ec5a2ca45336de289b", func := "loop.example/linkstaterouting/laws.FnCalmSame", spec := "fnCalmSame", inPlace := ["slices.overlaps[loop.example/linkstaterouting/impl.Lsa]"], unfollowed := true, recurses := true, apart := false }
def FnCalmSameSaid : Prop := fnCalmSameRow.holds Tryz.pinned (OpenSpec.ofChange fnCalmSameSpec)

/-- ITS FALSE NEIGHBOUR: 'it returns false'. Refute it at one input. -/
def fnCalmSameWrong : ChangeSpec := { name := "fnCalmSame", fn := fun _ => fun
  | [d] => { results := [.lit (.bool false)], args := [d] }
  | _ => none }
def FnCalmSameWrongFalsely : Prop := fnCalmSameRow.holds Tryz.pinned (OpenSpec.ofChange fnCalmSameWrong)

/-- 'laws.FnCalmTrue': WHATEVER THE INPUT: true; the input reads as it did. -/
def fnCalmTrueSpec : ChangeSpec := { name := "fnCalmTrue", fn := fun _ => fun
  | [d] => { results := [.lit (.bool true)], args := [d] }
  | _ => none }
def fnCalmTrueRow : OpenClaim := { program := "ytojdflifijpffaagreat", sum := "f86780d1001c14e6e1ae1d74948b0b3e10c163d4d8fcd0ec5a2ca45336de289b", func := "loop.example/linkstaterouting/laws.FnCalmTrue", spec := "fnCalmTrue", inPlace := ["slices.overlaps[loop.example/linkstaterouting/impl.Lsa]"], unfollowed := true, recurses := true, apart := false }
def FnCalmTrueSaid : Prop := fnCalmTrueRow.holds Tryz.pinned (OpenSpec.ofChange fnCalmTrueSpec)

/-- ITS FALSE NEIGHBOUR: 'it returns false'. Refute it at one input. -/
def fnCalmTrueWrong : ChangeSpec := { name := "fnCalmTrue", fn := fun _ => fun
  | [d] => { results := [.lit (.bool false)], args := [d] }
  | _ => none }
def FnCalmTrueWrongFalsely : Prop := fnCalmTrueRow.holds Tryz.pinned (OpenSpec.ofChange fnCalmTrueWrong)

/-- 'laws.FnCalmDistances': WHATEVER THE INPUT: true; the input reads as it did. -/
def fnCalmDistancesSpec : ChangeSpec := { name := "fnCalmDistances", fn := fun _ => fun
  | [d] => { results := [.lit (.bool true)], args := [d] }
  | _ => none }
def fnCalmDistancesRow : OpenClaim := { program := "ytojdflifijpffaagreat", sum := "f86780d1001c14e6e1ae1d74948b0b3e10c163d4d8fcd0ec5a2ca45336de289b", func := "loop.example/linkstaterouting/laws.FnCalmDistances", spec := "fnCalmDistances", inPlace := ["slices.overlaps[loop.example/linkstaterouting/impl.Lsa]"], unfollowed := true, recurses := true, apart := false }
def FnCalmDistancesSaid : Prop := fnCalmDistancesRow.holds Tryz.pinned (OpenSpec.ofChange fnCalmDistancesSpec)

/-- ITS FALSE NEIGHBOUR: 'it returns false'. Refute it at one input. -/
def fnCalmDistancesWrong : ChangeSpec := { name := "fnCalmDistances", fn := fun _ => fun
  | [d] => { results := [.lit (.bool false)], args := [d] }
  | _ => none }
def FnCalmDistancesWrongFalsely : Prop := fnCalmDistancesRow.holds Tryz.pinned (OpenSpec.ofChange fnCalmDistancesWrong)

/- THE SECOND FORM. 'bulk': how many values and letters a reading holds, each counted each time it is reached (what is shared counts as often as it is met; a slice's spare places count too). A statement '..UptoSaid' is the law's where the arguments, and the package variables that the reading takes, are together of bulk at most 1048576: NARROWER than '..Said'. Prove '..Said' where nothing that the law and all that it calls make is longer than what came in: it says more and counts as full. Else prove '..UptoSaid'. A law counts once. -/
mutual
def uptoBulk {H : Type} : DataW H → Nat
  | .lit (.string bytes) => bytes.length + 1
  | .lit _ => 1
  | .nil => 1
  | .ptr d => uptoBulk d + 1
  | .slice elems spare => uptoBulkAll elems + uptoBulkAll spare + 1
  | .agg parts => uptoBulkAll parts + 1
  | .iface _ d => uptoBulk d + 1
  | .map entries => uptoBulkEntries entries + 1
  | .held _ => 1
def uptoBulkAll {H : Type} : List (DataW H) → Nat
  | [] => 0
  | d :: r => uptoBulk d + uptoBulkAll r
def uptoBulkEntries {H : Type} : List (Lit × DataW H) → Nat
  | [] => 0
  | x :: r => uptoBulkEntry x + uptoBulkEntries r
def uptoBulkEntry {H : Type} : Lit × DataW H → Nat
  | (.string bytes, d) => bytes.length + uptoBulk d + 1
  | (_, d) => uptoBulk d + 1
 end
def uptoSmall : (H : Type) → List (DataW H) → Bool := fun _ ds => decide (uptoBulkAll ds ≤ 1048576)
def OpenSpec.upto (s : _root_.Go.ChangeSpec) : _root_.Go.OpenSpec := { _root_.Go.OpenSpec.ofChange s with cond := some uptoSmall }

/-- 'laws.FnWorldInvalid', WHERE WHAT IT READS IS OF BULK AT MOST 1048576: true; the input reads as it did. -/
def fnWorldInvalidUptoRow : OpenClaim := { program := "ytojdflifijpffaagreat", sum := "f86780d1001c14e6e1ae1d74948b0b3e10c163d4d8fcd0ec5a2ca45336de289b", func := "loop.example/linkstaterouting/laws.FnWorldInvalid", spec := "fnWorldInvalid", inPlace := ["slices.overlaps[loop.example/linkstaterouting/impl.Lsa]"], unfollowed := true, recurses := true, apart := false, narrowed := true }
def FnWorldInvalidUptoSaid : Prop := fnWorldInvalidUptoRow.holds Tryz.pinned (OpenSpec.upto fnWorldInvalidSpec)

/-- 'laws.FnWorldDownTwice', WHERE WHAT IT READS IS OF BULK AT MOST 1048576: true; the input reads as it did. -/
def fnWorldDownTwiceUptoRow : OpenClaim := { program := "ytojdflifijpffaagreat", sum := "f86780d1001c14e6e1ae1d74948b0b3e10c163d4d8fcd0ec5a2ca45336de289b", func := "loop.example/linkstaterouting/laws.FnWorldDownTwice", spec := "fnWorldDownTwice", inPlace := ["slices.overlaps[loop.example/linkstaterouting/impl.Lsa]"], unfollowed := true, recurses := true, apart := false, narrowed := true }
def FnWorldDownTwiceUptoSaid : Prop := fnWorldDownTwiceUptoRow.holds Tryz.pinned (OpenSpec.upto fnWorldDownTwiceSpec)

/-- 'laws.FnWorldLose', WHERE WHAT IT READS IS OF BULK AT MOST 1048576: true; the input reads as it did. -/
def fnWorldLoseUptoRow : OpenClaim := { program := "ytojdflifijpffaagreat", sum := "f86780d1001c14e6e1ae1d74948b0b3e10c163d4d8fcd0ec5a2ca45336de289b", func := "loop.example/linkstaterouting/laws.FnWorldLose", spec := "fnWorldLose", inPlace := ["slices.overlaps[loop.example/linkstaterouting/impl.Lsa]"], unfollowed := true, recurses := true, apart := false, narrowed := true }
def FnWorldLoseUptoSaid : Prop := fnWorldLoseUptoRow.holds Tryz.pinned (OpenSpec.upto fnWorldLoseSpec)

/-- 'laws.FnWorldSyncOthers', WHERE WHAT IT READS IS OF BULK AT MOST 1048576: true; the input reads as it did. -/
def fnWorldSyncOthersUptoRow : OpenClaim := { program := "ytojdflifijpffaagreat", sum := "f86780d1001c14e6e1ae1d74948b0b3e10c163d4d8fcd0ec5a2ca45336de289b", func := "loop.example/linkstaterouting/laws.FnWorldSyncOthers", spec := "fnWorldSyncOthers", inPlace := ["slices.overlaps[loop.example/linkstaterouting/impl.Lsa]"], unfollowed := true, recurses := true, apart := false, narrowed := true }
def FnWorldSyncOthersUptoSaid : Prop := fnWorldSyncOthersUptoRow.holds Tryz.pinned (OpenSpec.upto fnWorldSyncOthersSpec)

/-- 'laws.FnWorldRepaired', WHERE WHAT IT READS IS OF BULK AT MOST 1048576: true; the input reads as it did. -/
def fnWorldRepairedUptoRow : OpenClaim := { program := "ytojdflifijpffaagreat", sum := "f86780d1001c14e6e1ae1d74948b0b3e10c163d4d8fcd0ec5a2ca45336de289b", func := "loop.example/linkstaterouting/laws.FnWorldRepaired", spec := "fnWorldRepaired", inPlace := ["slices.overlaps[loop.example/linkstaterouting/impl.Lsa]"], unfollowed := true, recurses := true, apart := false, narrowed := true }
def FnWorldRepairedUptoSaid : Prop := fnWorldRepairedUptoRow.holds Tryz.pinned (OpenSpec.upto fnWorldRepairedSpec)

/-- 'laws.FnWorldOneDb', WHERE WHAT IT READS IS OF BULK AT MOST 1048576: true; the input reads as it did. -/
def fnWorldOneDbUptoRow : OpenClaim := { program := "ytojdflifijpffaagreat", sum := "f86780d1001c14e6e1ae1d74948b0b3e10c163d4d8fcd0ec5a2ca45336de289b", func := "loop.example/linkstaterouting/laws.FnWorldOneDb", spec := "fnWorldOneDb", inPlace := ["slices.overlaps[loop.example/linkstaterouting/impl.Lsa]"], unfollowed := true, recurses := true, apart := false, narrowed := true }
def FnWorldOneDbUptoSaid : Prop := fnWorldOneDbUptoRow.holds Tryz.pinned (OpenSpec.upto fnWorldOneDbSpec)

/-- 'laws.FnWorldStale', WHERE WHAT IT READS IS OF BULK AT MOST 1048576: true; the input reads as it did. -/
def fnWorldStaleUptoRow : OpenClaim := { program := "ytojdflifijpffaagreat", sum := "f86780d1001c14e6e1ae1d74948b0b3e10c163d4d8fcd0ec5a2ca45336de289b", func := "loop.example/linkstaterouting/laws.FnWorldStale", spec := "fnWorldStale", inPlace := ["slices.overlaps[loop.example/linkstaterouting/impl.Lsa]"], unfollowed := true, recurses := true, apart := false, narrowed := true }
def FnWorldStaleUptoSaid : Prop := fnWorldStaleUptoRow.holds Tryz.pinned (OpenSpec.upto fnWorldStaleSpec)

/-- 'laws.FnWorldSync', WHERE WHAT IT READS IS OF BULK AT MOST 1048576: true; the input reads as it did. -/
def fnWorldSyncUptoRow : OpenClaim := { program := "ytojdflifijpffaagreat", sum := "f86780d1001c14e6e1ae1d74948b0b3e10c163d4d8fcd0ec5a2ca45336de289b", func := "loop.example/linkstaterouting/laws.FnWorldSync", spec := "fnWorldSync", inPlace := ["slices.overlaps[loop.example/linkstaterouting/impl.Lsa]"], unfollowed := true, recurses := true, apart := false, narrowed := true }
def FnWorldSyncUptoSaid : Prop := fnWorldSyncUptoRow.holds Tryz.pinned (OpenSpec.upto fnWorldSyncSpec)

/-- 'laws.FnCalmSame', WHERE WHAT IT READS IS OF BULK AT MOST 1048576: true; the input reads as it did. -/
def fnCalmSameUptoRow : OpenClaim := { program := "ytojdflifijpffaagreat", sum := "f86780d1001c14e6e1ae1d74948b0b3e10c163d4d8fcd0ec5a2ca45336de289b", func := "loop.example/linkstaterouting/laws.FnCalmSame", spec := "fnCalmSame", inPlace := ["slices.overlaps[loop.example/linkstaterouting/impl.Lsa]"], unfollowed := true, recurses := true, apart := false, narrowed := true }
def FnCalmSameUptoSaid : Prop := fnCalmSameUptoRow.holds Tryz.pinned (OpenSpec.upto fnCalmSameSpec)

/-- 'laws.FnCalmTrue', WHERE WHAT IT READS IS OF BULK AT MOST 1048576: true; the input reads as it did. -/
def fnCalmTrueUptoRow : OpenClaim := { program := "ytojdflifijpffaagreat", sum := "f86780d1001c14e6e1ae1d74948b0b3e10c163d4d8fcd0ec5a2ca45336de289b", func := "loop.example/linkstaterouting/laws.FnCalmTrue", spec := "fnCalmTrue", inPlace := ["slices.overlaps[loop.example/linkstaterouting/impl.Lsa]"], unfollowed := true, recurses := true, apart := false, narrowed := true }
def FnCalmTrueUptoSaid : Prop := fnCalmTrueUptoRow.holds Tryz.pinned (OpenSpec.upto fnCalmTrueSpec)

/-- 'laws.FnCalmDistances', WHERE WHAT IT READS IS OF BULK AT MOST 1048576: true; the input reads as it did. -/
def fnCalmDistancesUptoRow : OpenClaim := { program := "ytojdflifijpffaagreat", sum := "f86780d1001c14e6e1ae1d74948b0b3e10c163d4d8fcd0ec5a2ca45336de289b", func := "loop.example/linkstaterouting/laws.FnCalmDistances", spec := "fnCalmDistances", inPlace := ["slices.overlaps[loop.example/linkstaterouting/impl.Lsa]"], unfollowed := true, recurses := true, apart := false, narrowed := true }
def FnCalmDistancesUptoSaid : Prop := fnCalmDistancesUptoRow.holds Tryz.pinned (OpenSpec.upto fnCalmDistancesSpec)

end Rows
end Go.Proofs.YtojdflifijpffaaGreat
