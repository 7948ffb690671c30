/-
  No cell of these rows narrows 'for every input' (looked for: loops, veiled, ifaces, maps, wideKeys, modest, calm, conditions, laid).
  DERIVED. THE GIVEN ROWS OF THIS SEAT. 8 by the template 'for every input the law returns true; each argument reads behind the call as it read before'; 0 by the template 'total and deterministic' (their statements: YtdfkphagjkpgdaaGreatTotals.lean).
  GIVEN WITH THE SEED: the statements are not yours to turn. If you find one false, say at which input.
  Laid BY PROGRAM, IN A SANDBOX (cutbox-rows.mjs): the forced cells as the released guide's own fill.sh prints them over the translation 0cba64bb8eed098b… (all of the seat's roots in one cut). By AI agents, Wed Nov 11 2026. No macro, syntax, notation, axiom, sorry.
-/
import Derived.Test.YtdfkphagjkpgdaaGreatChecked
import GoSem.Claim
import GoSem.ClaimJoined
import GoSem.ClaimMapViews
import Derived.JoinedTies
import Derived.KernelRfl
namespace Go.Proofs.YtdfkphagjkpgdaaGreat
/- THE CELL 'sum', in the pinned program and in every row, IS THE sha256 OF THE DUMP (.gsa) THAT YtdfkphagjkpgdaaGreatProg.lean LOADS. Nothing in Lean hashes anything: it is a label: what it is worth is what the hold of that sum in a sandbox is worth. -/
noncomputable def Tryz.pinned : Pinned := { name := "ytdfkphagjkpgdaagreat", sum := "0cba64bb8eed098b0613326d017da5479aeba5a68abb67afcc06f7fa868efd35", checked := Tryz.checked }
namespace Rows
def none {H : Type} : Left H := { results := [], args := [] }

/-- 'laws.FnWorldKeeps': WHATEVER THE INPUT: true; the input reads as it did. -/
def fnWorldKeepsSpec : ChangeSpec := { name := "fnWorldKeeps", fn := fun _ => fun
  | [d] => { results := [.lit (.bool true)], args := [d] }
  | _ => none }
def fnWorldKeepsRow : OpenClaim := { program := "ytdfkphagjkpgdaagreat", sum := "0cba64bb8eed098b0613326d017da5479aeba5a68abb67afcc06f7fa868efd35", func := "loop.example/linkstaterouting/laws.FnWorldKeeps", spec := "fnWorldKeeps", inPlace := ["slices.overlaps[loop.example/linkstaterouting/impl.Lsa]"], unfollowed := true, recurses := true, apart := false }
def FnWorldKeepsSaid : Prop := fnWorldKeepsRow.holds Tryz.pinned (OpenSpec.ofChange fnWorldKeepsSpec)

/-- ITS FALSE NEIGHBOUR: 'it returns false'. Refute it at one input. -/
def fnWorldKeepsWrong : ChangeSpec := { name := "fnWorldKeeps", fn := fun _ => fun
  | [d] => { results := [.lit (.bool false)], args := [d] }
  | _ => none }
def FnWorldKeepsWrongFalsely : Prop := fnWorldKeepsRow.holds Tryz.pinned (OpenSpec.ofChange fnWorldKeepsWrong)

/-- 'laws.FnWorldNewer': WHATEVER THE INPUT: true; the input reads as it did. -/
def fnWorldNewerSpec : ChangeSpec := { name := "fnWorldNewer", fn := fun _ => fun
  | [d] => { results := [.lit (.bool true)], args := [d] }
  | _ => none }
def fnWorldNewerRow : OpenClaim := { program := "ytdfkphagjkpgdaagreat", sum := "0cba64bb8eed098b0613326d017da5479aeba5a68abb67afcc06f7fa868efd35", func := "loop.example/linkstaterouting/laws.FnWorldNewer", spec := "fnWorldNewer", inPlace := ["slices.overlaps[loop.example/linkstaterouting/impl.Lsa]"], unfollowed := true, recurses := true, apart := false }
def FnWorldNewerSaid : Prop := fnWorldNewerRow.holds Tryz.pinned (OpenSpec.ofChange fnWorldNewerSpec)

/-- ITS FALSE NEIGHBOUR: 'it returns false'. Refute it at one input. -/
def fnWorldNewerWrong : ChangeSpec := { name := "fnWorldNewer", fn := fun _ => fun
  | [d] => { results := [.lit (.bool false)], args := [d] }
  | _ => none }
def FnWorldNewerWrongFalsely : Prop := fnWorldNewerRow.holds Tryz.pinned (OpenSpec.ofChange fnWorldNewerWrong)

/-- 'laws.FnWorldDown': WHATEVER THE INPUT: true; the input reads as it did. -/
def fnWorldDownSpec : ChangeSpec := { name := "fnWorldDown", fn := fun _ => fun
  | [d1, d2] => { results := [.lit (.bool true)], args := [d1, d2] }
  | _ => none }
def fnWorldDownRow : OpenClaim := { program := "ytdfkphagjkpgdaagreat", sum := "0cba64bb8eed098b0613326d017da5479aeba5a68abb67afcc06f7fa868efd35", func := "loop.example/linkstaterouting/laws.FnWorldDown", spec := "fnWorldDown", inPlace := ["slices.overlaps[loop.example/linkstaterouting/impl.Lsa]"], unfollowed := true, recurses := true, apart := false }
def FnWorldDownSaid : Prop := fnWorldDownRow.holds Tryz.pinned (OpenSpec.ofChange fnWorldDownSpec)

/-- ITS FALSE NEIGHBOUR: 'it returns false'. Refute it at one input. -/
def fnWorldDownWrong : ChangeSpec := { name := "fnWorldDown", fn := fun _ => fun
  | [d1, d2] => { results := [.lit (.bool false)], args := [d1, d2] }
  | _ => none }
def FnWorldDownWrongFalsely : Prop := fnWorldDownRow.holds Tryz.pinned (OpenSpec.ofChange fnWorldDownWrong)

/-- 'laws.FnWorldUnknown': WHATEVER THE INPUT: true; the input reads as it did. -/
def fnWorldUnknownSpec : ChangeSpec := { name := "fnWorldUnknown", fn := fun _ => fun
  | [d1, d2] => { results := [.lit (.bool true)], args := [d1, d2] }
  | _ => none }
def fnWorldUnknownRow : OpenClaim := { program := "ytdfkphagjkpgdaagreat", sum := "0cba64bb8eed098b0613326d017da5479aeba5a68abb67afcc06f7fa868efd35", func := "loop.example/linkstaterouting/laws.FnWorldUnknown", spec := "fnWorldUnknown", inPlace := ["slices.overlaps[loop.example/linkstaterouting/impl.Lsa]"], unfollowed := true, recurses := true, apart := false }
def FnWorldUnknownSaid : Prop := fnWorldUnknownRow.holds Tryz.pinned (OpenSpec.ofChange fnWorldUnknownSpec)

/-- ITS FALSE NEIGHBOUR: 'it returns false'. Refute it at one input. -/
def fnWorldUnknownWrong : ChangeSpec := { name := "fnWorldUnknown", fn := fun _ => fun
  | [d1, d2] => { results := [.lit (.bool false)], args := [d1, d2] }
  | _ => none }
def FnWorldUnknownWrongFalsely : Prop := fnWorldUnknownRow.holds Tryz.pinned (OpenSpec.ofChange fnWorldUnknownWrong)

/-- 'laws.FnWorldPlay': WHATEVER THE INPUT: true; the input reads as it did. -/
def fnWorldPlaySpec : ChangeSpec := { name := "fnWorldPlay", fn := fun _ => fun
  | [d1, d2] => { results := [.lit (.bool true)], args := [d1, d2] }
  | _ => none }
def fnWorldPlayRow : OpenClaim := { program := "ytdfkphagjkpgdaagreat", sum := "0cba64bb8eed098b0613326d017da5479aeba5a68abb67afcc06f7fa868efd35", func := "loop.example/linkstaterouting/laws.FnWorldPlay", spec := "fnWorldPlay", inPlace := ["slices.overlaps[loop.example/linkstaterouting/impl.Lsa]"], unfollowed := true, recurses := true, apart := false }
def FnWorldPlaySaid : Prop := fnWorldPlayRow.holds Tryz.pinned (OpenSpec.ofChange fnWorldPlaySpec)

/-- ITS FALSE NEIGHBOUR: 'it returns false'. Refute it at one input. -/
def fnWorldPlayWrong : ChangeSpec := { name := "fnWorldPlay", fn := fun _ => fun
  | [d1, d2] => { results := [.lit (.bool false)], args := [d1, d2] }
  | _ => none }
def FnWorldPlayWrongFalsely : Prop := fnWorldPlayRow.holds Tryz.pinned (OpenSpec.ofChange fnWorldPlayWrong)

/-- 'laws.FnCalmKeeps': WHATEVER THE INPUT: true; the input reads as it did. -/
def fnCalmKeepsSpec : ChangeSpec := { name := "fnCalmKeeps", fn := fun _ => fun
  | [d] => { results := [.lit (.bool true)], args := [d] }
  | _ => none }
def fnCalmKeepsRow : OpenClaim := { program := "ytdfkphagjkpgdaagreat", sum := "0cba64bb8eed098b0613326d017da5479aeba5a68abb67afcc06f7fa868efd35", func := "loop.example/linkstaterouting/laws.FnCalmKeeps", spec := "fnCalmKeeps", inPlace := ["slices.overlaps[loop.example/linkstaterouting/impl.Lsa]"], unfollowed := true, recurses := true, apart := false }
def FnCalmKeepsSaid : Prop := fnCalmKeepsRow.holds Tryz.pinned (OpenSpec.ofChange fnCalmKeepsSpec)

/-- ITS FALSE NEIGHBOUR: 'it returns false'. Refute it at one input. -/
def fnCalmKeepsWrong : ChangeSpec := { name := "fnCalmKeeps", fn := fun _ => fun
  | [d] => { results := [.lit (.bool false)], args := [d] }
  | _ => none }
def FnCalmKeepsWrongFalsely : Prop := fnCalmKeepsRow.holds Tryz.pinned (OpenSpec.ofChange fnCalmKeepsWrong)

/-- 'laws.FnCalmTwice': WHATEVER THE INPUT: true; the input reads as it did. -/
def fnCalmTwiceSpec : ChangeSpec := { name := "fnCalmTwice", fn := fun _ => fun
  | [d] => { results := [.lit (.bool true)], args := [d] }
  | _ => none }
def fnCalmTwiceRow : OpenClaim := { program := "ytdfkphagjkpgdaagreat", sum := "0cba64bb8eed098b0613326d017da5479aeba5a68abb67afcc06f7fa868efd35", func := "loop.example/linkstaterouting/laws.FnCalmTwice", spec := "fnCalmTwice", inPlace := ["slices.overlaps[loop.example/linkstaterouting/impl.Lsa]"], unfollowed := true, recurses := true, apart := false }
def FnCalmTwiceSaid : Prop := fnCalmTwiceRow.holds Tryz.pinned (OpenSpec.ofChange fnCalmTwiceSpec)

/-- ITS FALSE NEIGHBOUR: 'it returns false'. Refute it at one input. -/
def fnCalmTwiceWrong : ChangeSpec := { name := "fnCalmTwice", fn := fun _ => fun
  | [d] => { results := [.lit (.bool false)], args := [d] }
  | _ => none }
def FnCalmTwiceWrongFalsely : Prop := fnCalmTwiceRow.holds Tryz.pinned (OpenSpec.ofChange fnCalmTwiceWrong)

/-- 'laws.FnCalmPaths': WHATEVER THE INPUT: true; the input reads as it did. -/
def fnCalmPathsSpec : ChangeSpec := { name := "fnCalmPaths", fn := fun _ => fun
  | [d1, d2] => { results := [.lit (.bool true)], args := [d1, d2] }
  | _ => none }
def fnCalmPathsRow : OpenClaim := { program := "ytdfkphagjkpgdaagreat", sum := "0cba64bb8eed098b0613326d017da5479aeba5a68abb67afcc06f7fa868efd35", func := "loop.example/linkstaterouting/laws.FnCalmPaths", spec := "fnCalmPaths", inPlace := ["slices.overlaps[loop.example/linkstaterouting/impl.Lsa]"], unfollowed := true, recurses := true, apart := false }
def FnCalmPathsSaid : Prop := fnCalmPathsRow.holds Tryz.pinned (OpenSpec.ofChange fnCalmPathsSpec)

/-- ITS FALSE NEIGHBOUR: 'it returns false'. Refute it at one input. -/
def fnCalmPathsWrong : ChangeSpec := { name := "fnCalmPaths", fn := fun _ => fun
  | [d1, d2] => { results := [.lit (.bool false)], args := [d1, d2] }
  | _ => none }
def FnCalmPathsWrongFalsely : Prop := fnCalmPathsRow.holds Tryz.pinned (OpenSpec.ofChange fnCalmPathsWrong)

/- THE SECOND FORM. 'bulk': how many values and letters a reading holds, each counted each time it is reached (what is shared counts as often as it is met; a slice's spare places count too). A statement '..UptoSaid' is the law's where the arguments, and the package variables that the reading takes, are together of bulk at most 1048576: NARROWER than '..Said'. Prove '..Said' where nothing that the law and all that it calls make is longer than what came in: it says more and counts as full. Else prove '..UptoSaid'. A law counts once. -/
mutual
def uptoBulk {H : Type} : DataW H → Nat
  | .lit (.string bytes) => bytes.length + 1
  | .lit _ => 1
  | .nil => 1
  | .ptr d => uptoBulk d + 1
  | .slice elems spare => uptoBulkAll elems + uptoBulkAll spare + 1
  | .agg parts => uptoBulkAll parts + 1
  | .iface _ d => uptoBulk d + 1
  | .map entries => uptoBulkEntries entries + 1
  | .held _ => 1
def uptoBulkAll {H : Type} : List (DataW H) → Nat
  | [] => 0
  | d :: r => uptoBulk d + uptoBulkAll r
def uptoBulkEntries {H : Type} : List (Lit × DataW H) → Nat
  | [] => 0
  | x :: r => uptoBulkEntry x + uptoBulkEntries r
def uptoBulkEntry {H : Type} : Lit × DataW H → Nat
  | (.string bytes, d) => bytes.length + uptoBulk d + 1
  | (_, d) => uptoBulk d + 1
 end
def uptoSmall : (H : Type) → List (DataW H) → Bool := fun _ ds => decide (uptoBulkAll ds ≤ 1048576)
def OpenSpec.upto (s : _root_.Go.ChangeSpec) : _root_.Go.OpenSpec := { _root_.Go.OpenSpec.ofChange s with cond := some uptoSmall }

/-- 'laws.FnWorldKeeps', WHERE WHAT IT READS IS OF BULK AT MOST 1048576: true; the input reads as it did. -/
def fnWorldKeepsUptoRow : OpenClaim := { program := "ytdfkphagjkpgdaagreat", sum := "0cba64bb8eed098b0613326d017da5479aeba5a68abb67afcc06f7fa868efd35", func := "loop.example/linkstaterouting/laws.FnWorldKeeps", spec := "fnWorldKeeps", inPlace := ["slices.overlaps[loop.example/linkstaterouting/impl.Lsa]"], unfollowed := true, recurses := true, apart := false, narrowed := true }
def FnWorldKeepsUptoSaid : Prop := fnWorldKeepsUptoRow.holds Tryz.pinned (OpenSpec.upto fnWorldKeepsSpec)

/-- 'laws.FnWorldNewer', WHERE WHAT IT READS IS OF BULK AT MOST 1048576: true; the input reads as it did. -/
def fnWorldNewerUptoRow : OpenClaim := { program := "ytdfkphagjkpgdaagreat", sum := "0cba64bb8eed098b0613326d017da5479aeba5a68abb67afcc06f7fa868efd35", func := "loop.example/linkstaterouting/laws.FnWorldNewer", spec := "fnWorldNewer", inPlace := ["slices.overlaps[loop.example/linkstaterouting/impl.Lsa]"], unfollowed := true, recurses := true, apart := false, narrowed := true }
def FnWorldNewerUptoSaid : Prop := fnWorldNewerUptoRow.holds Tryz.pinned (OpenSpec.upto fnWorldNewerSpec)

/-- 'laws.FnWorldDown', WHERE WHAT IT READS IS OF BULK AT MOST 1048576: true; the input reads as it did. -/
def fnWorldDownUptoRow : OpenClaim := { program := "ytdfkphagjkpgdaagreat", sum := "0cba64bb8eed098b0613326d017da5479aeba5a68abb67afcc06f7fa868efd35", func := "loop.example/linkstaterouting/laws.FnWorldDown", spec := "fnWorldDown", inPlace := ["slices.overlaps[loop.example/linkstaterouting/impl.Lsa]"], unfollowed := true, recurses := true, apart := false, narrowed := true }
def FnWorldDownUptoSaid : Prop := fnWorldDownUptoRow.holds Tryz.pinned (OpenSpec.upto fnWorldDownSpec)

/-- 'laws.FnWorldUnknown', WHERE WHAT IT READS IS OF BULK AT MOST 1048576: true; the input reads as it did. -/
def fnWorldUnknownUptoRow : OpenClaim := { program := "ytdfkphagjkpgdaagreat", sum := "0cba64bb8eed098b0613326d017da5479aeba5a68abb67afcc06f7fa868efd35", func := "loop.example/linkstaterouting/laws.FnWorldUnknown", spec := "fnWorldUnknown", inPlace := ["slices.overlaps[loop.example/linkstaterouting/impl.Lsa]"], unfollowed := true, recurses := true, apart := false, narrowed := true }
def FnWorldUnknownUptoSaid : Prop := fnWorldUnknownUptoRow.holds Tryz.pinned (OpenSpec.upto fnWorldUnknownSpec)

/-- 'laws.FnWorldPlay', WHERE WHAT IT READS IS OF BULK AT MOST 1048576: true; the input reads as it did. -/
def fnWorldPlayUptoRow : OpenClaim := { program := "ytdfkphagjkpgdaagreat", sum := "0cba64bb8eed098b0613326d017da5479aeba5a68abb67afcc06f7fa868efd35", func := "loop.example/linkstaterouting/laws.FnWorldPlay", spec := "fnWorldPlay", inPlace := ["slices.overlaps[loop.example/linkstaterouting/impl.Lsa]"], unfollowed := true, recurses := true, apart := false, narrowed := true }
def FnWorldPlayUptoSaid : Prop := fnWorldPlayUptoRow.holds Tryz.pinned (OpenSpec.upto fnWorldPlaySpec)

/-- 'laws.FnCalmKeeps', WHERE WHAT IT READS IS OF BULK AT MOST 1048576: true; the input reads as it did. -/
def fnCalmKeepsUptoRow : OpenClaim := { program := "ytdfkphagjkpgdaagreat", sum := "0cba64bb8eed098b0613326d017da5479aeba5a68abb67afcc06f7fa868efd35", func := "loop.example/linkstaterouting/laws.FnCalmKeeps", spec := "fnCalmKeeps", inPlace := ["slices.overlaps[loop.example/linkstaterouting/impl.Lsa]"], unfollowed := true, recurses := true, apart := false, narrowed := true }
def FnCalmKeepsUptoSaid : Prop := fnCalmKeepsUptoRow.holds Tryz.pinned (OpenSpec.upto fnCalmKeepsSpec)

/-- 'laws.FnCalmTwice', WHERE WHAT IT READS IS OF BULK AT MOST 1048576: true; the input reads as it did. -/
def fnCalmTwiceUptoRow : OpenClaim := { program := "ytdfkphagjkpgdaagreat", sum := "0cba64bb8eed098b0613326d017da5479aeba5a68abb67afcc06f7fa868efd35", func := "loop.example/linkstaterouting/laws.FnCalmTwice", spec := "fnCalmTwice", inPlace := ["slices.overlaps[loop.example/linkstaterouting/impl.Lsa]"], unfollowed := true, recurses := true, apart := false, narrowed := true }
def FnCalmTwiceUptoSaid : Prop := fnCalmTwiceUptoRow.holds Tryz.pinned (OpenSpec.upto fnCalmTwiceSpec)

/-- 'laws.FnCalmPaths', WHERE WHAT IT READS IS OF BULK AT MOST 1048576: true; the input reads as it did. -/
def fnCalmPathsUptoRow : OpenClaim := { program := "ytdfkphagjkpgdaagreat", sum := "0cba64bb8eed098b0613326d017da5479aeba5a68abb67afcc06f7fa868efd35", func := "loop.example/linkstaterouting/laws.FnCalmPaths", spec := "fnCalmPaths", inPlace := ["slices.overlaps[loop.example/linkstaterouting/impl.Lsa]"], unfollowed := true, recurses := true, apart := false, narrowed := true }
def FnCalmPathsUptoSaid : Prop := fnCalmPathsUptoRow.holds Tryz.pinned (OpenSpec.upto fnCalmPathsSpec)

end Rows
end Go.Proofs.YtdfkphagjkpgdaaGreat
