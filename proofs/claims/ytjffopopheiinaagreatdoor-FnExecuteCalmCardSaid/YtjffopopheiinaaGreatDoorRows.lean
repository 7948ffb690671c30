/-
  NARROWER THAN 'FOR EVERY INPUT', by the rows' own cells (each row's printed sentence says how): FnExactExecute: laid · FnExecuteEmpty: laid · FnExecuteLines: laid · FnExecuteUnknown: laid · FnExecuteQueries: laid · FnExecuteIncomplete: laid · FnExecutePath: laid · FnExecuteRepair: laid · FnExecuteOrder: laid · FnExecuteCalm: laid · FnExecuteSeen: laid.
  DERIVED. THE GIVEN ROWS OF THIS SEAT. 11 by the template 'for every input the law returns true; each argument reads behind the call as it read before'; 0 by the template 'total and deterministic' (their statements: YtjffopopheiinaaGreatDoorTotals.lean).
  GIVEN WITH THE SEED: the statements are not yours to turn. If you find one false, say at which input.
  Laid BY PROGRAM, IN A SANDBOX (cutbox-rows.mjs): the forced cells as the released guide's own fill.sh prints them over the translation a6155eaa6625e07e… (all of the seat's roots in one cut). By AI agents, Wed Nov 11 2026. No macro, syntax, notation, axiom, sorry.
-/
import Derived.Test.YtjffopopheiinaaGreatDoorChecked
import GoSem.PinnedTables
import GoSem.Claim
import GoSem.ClaimJoined
import GoSem.ClaimMapViews
import Derived.JoinedTies
import Derived.KernelRfl
namespace Go.Proofs.YtjffopopheiinaaGreatDoor
/- THE CELL 'sum', in the pinned program and in every row, IS THE sha256 OF THE DUMP (.gsa) THAT YtjffopopheiinaaGreatDoorProg.lean LOADS. Nothing in Lean hashes anything: it is a label: what it is worth is what the hold of that sum in a sandbox is worth. -/
noncomputable def Tryz.pinned : Pinned := { name := "ytjffopopheiinaagreatdoor", sum := "a6155eaa6625e07e9c251f7607c4126c5bb221c6ba2c8b1ffe51daddb85a1e38", checked := Tryz.checked }
namespace Rows
def none {H : Type} : Left H := { results := [], args := [] }

/- WHAT THE LISTED PACKAGE-LEVEL VARIABLES READ AS WHEN THE CALL BEGINS. Each datum BY PROGRAM (the guide's laid-datum.mjs) off the statement by which the dump's own 'gosem.cut.vars' lays the variable. In a bare row this is a premise. The card (YtjffopopheiinaaGreatDoorCards.lean) ties it to the program's text. -/
def laid_math_bits_deBruijn32tab {H : Type} : DataW H := .agg [.lit (.int .u8 0), .lit (.int .u8 1), .lit (.int .u8 28), .lit (.int .u8 2), .lit (.int .u8 29), .lit (.int .u8 14), .lit (.int .u8 24), .lit (.int .u8 3), .lit (.int .u8 30), .lit (.int .u8 22), .lit (.int .u8 20), .lit (.int .u8 15), .lit (.int .u8 25), .lit (.int .u8 17), .lit (.int .u8 4), .lit (.int .u8 8), .lit (.int .u8 31), .lit (.int .u8 27), .lit (.int .u8 13), .lit (.int .u8 23), .lit (.int .u8 21), .lit (.int .u8 19), .lit (.int .u8 16), .lit (.int .u8 7), .lit (.int .u8 26), .lit (.int .u8 12), .lit (.int .u8 18), .lit (.int .u8 6), .lit (.int .u8 11), .lit (.int .u8 5), .lit (.int .u8 10), .lit (.int .u8 9)]
def laid_math_bits_deBruijn64tab {H : Type} : DataW H := .agg [.lit (.int .u8 0), .lit (.int .u8 1), .lit (.int .u8 56), .lit (.int .u8 2), .lit (.int .u8 57), .lit (.int .u8 49), .lit (.int .u8 28), .lit (.int .u8 3), .lit (.int .u8 61), .lit (.int .u8 58), .lit (.int .u8 42), .lit (.int .u8 50), .lit (.int .u8 38), .lit (.int .u8 29), .lit (.int .u8 17), .lit (.int .u8 4), .lit (.int .u8 62), .lit (.int .u8 47), .lit (.int .u8 59), .lit (.int .u8 36), .lit (.int .u8 45), .lit (.int .u8 43), .lit (.int .u8 51), .lit (.int .u8 22), .lit (.int .u8 53), .lit (.int .u8 39), .lit (.int .u8 33), .lit (.int .u8 30), .lit (.int .u8 24), .lit (.int .u8 18), .lit (.int .u8 12), .lit (.int .u8 5), .lit (.int .u8 63), .lit (.int .u8 55), .lit (.int .u8 48), .lit (.int .u8 27), .lit (.int .u8 60), .lit (.int .u8 41), .lit (.int .u8 37), .lit (.int .u8 16), .lit (.int .u8 46), .lit (.int .u8 35), .lit (.int .u8 44), .lit (.int .u8 21), .lit (.int .u8 52), .lit (.int .u8 32), .lit (.int .u8 23), .lit (.int .u8 11), .lit (.int .u8 54), .lit (.int .u8 26), .lit (.int .u8 40), .lit (.int .u8 15), .lit (.int .u8 34), .lit (.int .u8 20), .lit (.int .u8 31), .lit (.int .u8 10), .lit (.int .u8 25), .lit (.int .u8 14), .lit (.int .u8 19), .lit (.int .u8 9), .lit (.int .u8 13), .lit (.int .u8 8), .lit (.int .u8 7), .lit (.int .u8 6)]
def laid_internal_strconv_uint64pow10 {H : Type} : DataW H := .agg [.lit (.int .u64 1), .lit (.int .u64 10), .lit (.int .u64 100), .lit (.int .u64 1000), .lit (.int .u64 10000), .lit (.int .u64 100000), .lit (.int .u64 1000000), .lit (.int .u64 10000000), .lit (.int .u64 100000000), .lit (.int .u64 1000000000), .lit (.int .u64 10000000000), .lit (.int .u64 100000000000), .lit (.int .u64 1000000000000), .lit (.int .u64 10000000000000), .lit (.int .u64 100000000000000), .lit (.int .u64 1000000000000000), .lit (.int .u64 10000000000000000), .lit (.int .u64 100000000000000000), .lit (.int .u64 1000000000000000000), .lit (.int .u64 10000000000000000000)]
def laid_unicode_utf8_acceptRanges {H : Type} : DataW H := .agg [.agg [.lit (.int .u8 128), .lit (.int .u8 191)], .agg [.lit (.int .u8 160), .lit (.int .u8 191)], .agg [.lit (.int .u8 128), .lit (.int .u8 159)], .agg [.lit (.int .u8 144), .lit (.int .u8 191)], .agg [.lit (.int .u8 128), .lit (.int .u8 143)], .agg [.lit (.int .u8 0), .lit (.int .u8 0)], .agg [.lit (.int .u8 0), .lit (.int .u8 0)], .agg [.lit (.int .u8 0), .lit (.int .u8 0)], .agg [.lit (.int .u8 0), .lit (.int .u8 0)], .agg [.lit (.int .u8 0), .lit (.int .u8 0)], .agg [.lit (.int .u8 0), .lit (.int .u8 0)], .agg [.lit (.int .u8 0), .lit (.int .u8 0)], .agg [.lit (.int .u8 0), .lit (.int .u8 0)], .agg [.lit (.int .u8 0), .lit (.int .u8 0)], .agg [.lit (.int .u8 0), .lit (.int .u8 0)], .agg [.lit (.int .u8 0), .lit (.int .u8 0)]]
/-- One of Go's own tables, pinned by name: the form's constant. -/
def laid_unicode_utf8_first : DataW Unit := Go.Pinned.utf8First

/-- 'laws.FnExactExecute': WHATEVER THE INPUT: true; the input reads as it did. -/
def fnExactExecuteSpec : ChangeSpec := { name := "fnExactExecute", fn := fun _ => fun
  | [d] => { results := [.lit (.bool true)], args := [d] }
  | _ => none }
def fnExactExecuteRow : OpenClaim := { program := "ytjffopopheiinaagreatdoor", sum := "a6155eaa6625e07e9c251f7607c4126c5bb221c6ba2c8b1ffe51daddb85a1e38", func := "loop.example/linkstaterouting/laws.FnExactExecute", spec := "fnExactExecute", inPlace := ["internal/bytealg.CountString", "internal/bytealg.IndexByteString", "internal/bytealg.IndexString", "slices.overlaps[loop.example/linkstaterouting/impl.Lsa]"], unfollowed := true, recurses := true, named := ["unicode/utf8.first", "unicode/utf8.acceptRanges", "internal/bytealg.MaxLen", "internal/strconv.uint64pow10", "math/bits.deBruijn32tab", "math/bits.deBruijn64tab"], apart := false, laid := [("math/bits.deBruijn32tab", laid_math_bits_deBruijn32tab), ("math/bits.deBruijn64tab", laid_math_bits_deBruijn64tab), ("internal/strconv.uint64pow10", laid_internal_strconv_uint64pow10), ("unicode/utf8.acceptRanges", laid_unicode_utf8_acceptRanges), ("unicode/utf8.first", laid_unicode_utf8_first)] }
def FnExactExecuteSaid : Prop := fnExactExecuteRow.holds Tryz.pinned (OpenSpec.ofChange fnExactExecuteSpec)

/-- ITS FALSE NEIGHBOUR: 'it returns false'. Refute it at one input. -/
def fnExactExecuteWrong : ChangeSpec := { name := "fnExactExecute", fn := fun _ => fun
  | [d] => { results := [.lit (.bool false)], args := [d] }
  | _ => none }
def FnExactExecuteWrongFalsely : Prop := fnExactExecuteRow.holds Tryz.pinned (OpenSpec.ofChange fnExactExecuteWrong)

/-- 'laws.FnExecuteEmpty': WHATEVER THE INPUT: true; the input reads as it did. -/
def fnExecuteEmptySpec : ChangeSpec := { name := "fnExecuteEmpty", fn := fun _ => fun
  | [d] => { results := [.lit (.bool true)], args := [d] }
  | _ => none }
def fnExecuteEmptyRow : OpenClaim := { program := "ytjffopopheiinaagreatdoor", sum := "a6155eaa6625e07e9c251f7607c4126c5bb221c6ba2c8b1ffe51daddb85a1e38", func := "loop.example/linkstaterouting/laws.FnExecuteEmpty", spec := "fnExecuteEmpty", inPlace := ["internal/bytealg.CountString", "internal/bytealg.IndexByteString", "internal/bytealg.IndexString", "slices.overlaps[loop.example/linkstaterouting/impl.Lsa]"], unfollowed := true, recurses := true, named := ["unicode/utf8.first", "unicode/utf8.acceptRanges", "internal/bytealg.MaxLen", "internal/strconv.uint64pow10", "math/bits.deBruijn32tab", "math/bits.deBruijn64tab"], apart := false, laid := [("math/bits.deBruijn32tab", laid_math_bits_deBruijn32tab), ("math/bits.deBruijn64tab", laid_math_bits_deBruijn64tab), ("internal/strconv.uint64pow10", laid_internal_strconv_uint64pow10), ("unicode/utf8.acceptRanges", laid_unicode_utf8_acceptRanges), ("unicode/utf8.first", laid_unicode_utf8_first)] }
def FnExecuteEmptySaid : Prop := fnExecuteEmptyRow.holds Tryz.pinned (OpenSpec.ofChange fnExecuteEmptySpec)

/-- ITS FALSE NEIGHBOUR: 'it returns false'. Refute it at one input. -/
def fnExecuteEmptyWrong : ChangeSpec := { name := "fnExecuteEmpty", fn := fun _ => fun
  | [d] => { results := [.lit (.bool false)], args := [d] }
  | _ => none }
def FnExecuteEmptyWrongFalsely : Prop := fnExecuteEmptyRow.holds Tryz.pinned (OpenSpec.ofChange fnExecuteEmptyWrong)

/-- 'laws.FnExecuteLines': WHATEVER THE INPUT: true; the input reads as it did. -/
def fnExecuteLinesSpec : ChangeSpec := { name := "fnExecuteLines", fn := fun _ => fun
  | [d] => { results := [.lit (.bool true)], args := [d] }
  | _ => none }
def fnExecuteLinesRow : OpenClaim := { program := "ytjffopopheiinaagreatdoor", sum := "a6155eaa6625e07e9c251f7607c4126c5bb221c6ba2c8b1ffe51daddb85a1e38", func := "loop.example/linkstaterouting/laws.FnExecuteLines", spec := "fnExecuteLines", inPlace := ["internal/bytealg.CountString", "internal/bytealg.IndexByteString", "internal/bytealg.IndexString", "slices.overlaps[loop.example/linkstaterouting/impl.Lsa]"], unfollowed := true, recurses := true, named := ["unicode/utf8.first", "unicode/utf8.acceptRanges", "internal/bytealg.MaxLen", "internal/strconv.uint64pow10", "math/bits.deBruijn32tab", "math/bits.deBruijn64tab"], apart := false, laid := [("math/bits.deBruijn32tab", laid_math_bits_deBruijn32tab), ("math/bits.deBruijn64tab", laid_math_bits_deBruijn64tab), ("internal/strconv.uint64pow10", laid_internal_strconv_uint64pow10), ("unicode/utf8.acceptRanges", laid_unicode_utf8_acceptRanges), ("unicode/utf8.first", laid_unicode_utf8_first)] }
def FnExecuteLinesSaid : Prop := fnExecuteLinesRow.holds Tryz.pinned (OpenSpec.ofChange fnExecuteLinesSpec)

/-- ITS FALSE NEIGHBOUR: 'it returns false'. Refute it at one input. -/
def fnExecuteLinesWrong : ChangeSpec := { name := "fnExecuteLines", fn := fun _ => fun
  | [d] => { results := [.lit (.bool false)], args := [d] }
  | _ => none }
def FnExecuteLinesWrongFalsely : Prop := fnExecuteLinesRow.holds Tryz.pinned (OpenSpec.ofChange fnExecuteLinesWrong)

/-- 'laws.FnExecuteUnknown': WHATEVER THE INPUT: true; the input reads as it did. -/
def fnExecuteUnknownSpec : ChangeSpec := { name := "fnExecuteUnknown", fn := fun _ => fun
  | [d] => { results := [.lit (.bool true)], args := [d] }
  | _ => none }
def fnExecuteUnknownRow : OpenClaim := { program := "ytjffopopheiinaagreatdoor", sum := "a6155eaa6625e07e9c251f7607c4126c5bb221c6ba2c8b1ffe51daddb85a1e38", func := "loop.example/linkstaterouting/laws.FnExecuteUnknown", spec := "fnExecuteUnknown", inPlace := ["internal/bytealg.CountString", "internal/bytealg.IndexByteString", "internal/bytealg.IndexString", "slices.overlaps[loop.example/linkstaterouting/impl.Lsa]"], unfollowed := true, recurses := true, named := ["unicode/utf8.first", "unicode/utf8.acceptRanges", "internal/bytealg.MaxLen", "internal/strconv.uint64pow10", "math/bits.deBruijn32tab", "math/bits.deBruijn64tab"], apart := false, laid := [("math/bits.deBruijn32tab", laid_math_bits_deBruijn32tab), ("math/bits.deBruijn64tab", laid_math_bits_deBruijn64tab), ("internal/strconv.uint64pow10", laid_internal_strconv_uint64pow10), ("unicode/utf8.acceptRanges", laid_unicode_utf8_acceptRanges), ("unicode/utf8.first", laid_unicode_utf8_first)] }
def FnExecuteUnknownSaid : Prop := fnExecuteUnknownRow.holds Tryz.pinned (OpenSpec.ofChange fnExecuteUnknownSpec)

/-- ITS FALSE NEIGHBOUR: 'it returns false'. Refute it at one input. -/
def fnExecuteUnknownWrong : ChangeSpec := { name := "fnExecuteUnknown", fn := fun _ => fun
  | [d] => { results := [.lit (.bool false)], args := [d] }
  | _ => none }
def FnExecuteUnknownWrongFalsely : Prop := fnExecuteUnknownRow.holds Tryz.pinned (OpenSpec.ofChange fnExecuteUnknownWrong)

/-- 'laws.FnExecuteQueries': WHATEVER THE INPUT: true; the input reads as it did. -/
def fnExecuteQueriesSpec : ChangeSpec := { name := "fnExecuteQueries", fn := fun _ => fun
  | [d] => { results := [.lit (.bool true)], args := [d] }
  | _ => none }
def fnExecuteQueriesRow : OpenClaim := { program := "ytjffopopheiinaagreatdoor", sum := "a6155eaa6625e07e9c251f7607c4126c5bb221c6ba2c8b1ffe51daddb85a1e38", func := "loop.example/linkstaterouting/laws.FnExecuteQueries", spec := "fnExecuteQueries", inPlace := ["internal/bytealg.CountString", "internal/bytealg.IndexByteString", "internal/bytealg.IndexString", "slices.overlaps[loop.example/linkstaterouting/impl.Lsa]"], unfollowed := true, recurses := true, named := ["unicode/utf8.first", "unicode/utf8.acceptRanges", "internal/bytealg.MaxLen", "internal/strconv.uint64pow10", "math/bits.deBruijn32tab", "math/bits.deBruijn64tab"], apart := false, laid := [("math/bits.deBruijn32tab", laid_math_bits_deBruijn32tab), ("math/bits.deBruijn64tab", laid_math_bits_deBruijn64tab), ("internal/strconv.uint64pow10", laid_internal_strconv_uint64pow10), ("unicode/utf8.acceptRanges", laid_unicode_utf8_acceptRanges), ("unicode/utf8.first", laid_unicode_utf8_first)] }
def FnExecuteQueriesSaid : Prop := fnExecuteQueriesRow.holds Tryz.pinned (OpenSpec.ofChange fnExecuteQueriesSpec)

/-- ITS FALSE NEIGHBOUR: 'it returns false'. Refute it at one input. -/
def fnExecuteQueriesWrong : ChangeSpec := { name := "fnExecuteQueries", fn := fun _ => fun
  | [d] => { results := [.lit (.bool false)], args := [d] }
  | _ => none }
def FnExecuteQueriesWrongFalsely : Prop := fnExecuteQueriesRow.holds Tryz.pinned (OpenSpec.ofChange fnExecuteQueriesWrong)

/-- 'laws.FnExecuteIncomplete': WHATEVER THE INPUT: true; the input reads as it did. -/
def fnExecuteIncompleteSpec : ChangeSpec := { name := "fnExecuteIncomplete", fn := fun _ => fun
  | [d] => { results := [.lit (.bool true)], args := [d] }
  | _ => none }
def fnExecuteIncompleteRow : OpenClaim := { program := "ytjffopopheiinaagreatdoor", sum := "a6155eaa6625e07e9c251f7607c4126c5bb221c6ba2c8b1ffe51daddb85a1e38", func := "loop.example/linkstaterouting/laws.FnExecuteIncomplete", spec := "fnExecuteIncomplete", inPlace := ["internal/bytealg.CountString", "internal/bytealg.IndexByteString", "internal/bytealg.IndexString", "slices.overlaps[loop.example/linkstaterouting/impl.Lsa]"], unfollowed := true, recurses := true, named := ["unicode/utf8.first", "unicode/utf8.acceptRanges", "internal/bytealg.MaxLen", "internal/strconv.uint64pow10", "math/bits.deBruijn32tab", "math/bits.deBruijn64tab"], apart := false, laid := [("math/bits.deBruijn32tab", laid_math_bits_deBruijn32tab), ("math/bits.deBruijn64tab", laid_math_bits_deBruijn64tab), ("internal/strconv.uint64pow10", laid_internal_strconv_uint64pow10), ("unicode/utf8.acceptRanges", laid_unicode_utf8_acceptRanges), ("unicode/utf8.first", laid_unicode_utf8_first)] }
def FnExecuteIncompleteSaid : Prop := fnExecuteIncompleteRow.holds Tryz.pinned (OpenSpec.ofChange fnExecuteIncompleteSpec)

/-- ITS FALSE NEIGHBOUR: 'it returns false'. Refute it at one input. -/
def fnExecuteIncompleteWrong : ChangeSpec := { name := "fnExecuteIncomplete", fn := fun _ => fun
  | [d] => { results := [.lit (.bool false)], args := [d] }
  | _ => none }
def FnExecuteIncompleteWrongFalsely : Prop := fnExecuteIncompleteRow.holds Tryz.pinned (OpenSpec.ofChange fnExecuteIncompleteWrong)

/-- 'laws.FnExecutePath': WHATEVER THE INPUT: true; the input reads as it did. -/
def fnExecutePathSpec : ChangeSpec := { name := "fnExecutePath", fn := fun _ => fun
  | [d] => { results := [.lit (.bool true)], args := [d] }
  | _ => none }
def fnExecutePathRow : OpenClaim := { program := "ytjffopopheiinaagreatdoor", sum := "a6155eaa6625e07e9c251f7607c4126c5bb221c6ba2c8b1ffe51daddb85a1e38", func := "loop.example/linkstaterouting/laws.FnExecutePath", spec := "fnExecutePath", inPlace := ["internal/bytealg.CountString", "internal/bytealg.IndexByteString", "internal/bytealg.IndexString", "slices.overlaps[loop.example/linkstaterouting/impl.Lsa]"], unfollowed := true, recurses := true, named := ["unicode/utf8.first", "unicode/utf8.acceptRanges", "internal/bytealg.MaxLen", "internal/strconv.uint64pow10", "math/bits.deBruijn32tab", "math/bits.deBruijn64tab"], apart := false, laid := [("math/bits.deBruijn32tab", laid_math_bits_deBruijn32tab), ("math/bits.deBruijn64tab", laid_math_bits_deBruijn64tab), ("internal/strconv.uint64pow10", laid_internal_strconv_uint64pow10), ("unicode/utf8.acceptRanges", laid_unicode_utf8_acceptRanges), ("unicode/utf8.first", laid_unicode_utf8_first)] }
def FnExecutePathSaid : Prop := fnExecutePathRow.holds Tryz.pinned (OpenSpec.ofChange fnExecutePathSpec)

/-- ITS FALSE NEIGHBOUR: 'it returns false'. Refute it at one input. -/
def fnExecutePathWrong : ChangeSpec := { name := "fnExecutePath", fn := fun _ => fun
  | [d] => { results := [.lit (.bool false)], args := [d] }
  | _ => none }
def FnExecutePathWrongFalsely : Prop := fnExecutePathRow.holds Tryz.pinned (OpenSpec.ofChange fnExecutePathWrong)

/-- 'laws.FnExecuteRepair': WHATEVER THE INPUT: true; the input reads as it did. -/
def fnExecuteRepairSpec : ChangeSpec := { name := "fnExecuteRepair", fn := fun _ => fun
  | [d] => { results := [.lit (.bool true)], args := [d] }
  | _ => none }
def fnExecuteRepairRow : OpenClaim := { program := "ytjffopopheiinaagreatdoor", sum := "a6155eaa6625e07e9c251f7607c4126c5bb221c6ba2c8b1ffe51daddb85a1e38", func := "loop.example/linkstaterouting/laws.FnExecuteRepair", spec := "fnExecuteRepair", inPlace := ["internal/bytealg.CountString", "internal/bytealg.IndexByteString", "internal/bytealg.IndexString", "slices.overlaps[loop.example/linkstaterouting/impl.Lsa]"], unfollowed := true, recurses := true, named := ["unicode/utf8.first", "unicode/utf8.acceptRanges", "internal/bytealg.MaxLen", "internal/strconv.uint64pow10", "math/bits.deBruijn32tab", "math/bits.deBruijn64tab"], apart := false, laid := [("math/bits.deBruijn32tab", laid_math_bits_deBruijn32tab), ("math/bits.deBruijn64tab", laid_math_bits_deBruijn64tab), ("internal/strconv.uint64pow10", laid_internal_strconv_uint64pow10), ("unicode/utf8.acceptRanges", laid_unicode_utf8_acceptRanges), ("unicode/utf8.first", laid_unicode_utf8_first)] }
def FnExecuteRepairSaid : Prop := fnExecuteRepairRow.holds Tryz.pinned (OpenSpec.ofChange fnExecuteRepairSpec)

/-- ITS FALSE NEIGHBOUR: 'it returns false'. Refute it at one input. -/
def fnExecuteRepairWrong : ChangeSpec := { name := "fnExecuteRepair", fn := fun _ => fun
  | [d] => { results := [.lit (.bool false)], args := [d] }
  | _ => none }
def FnExecuteRepairWrongFalsely : Prop := fnExecuteRepairRow.holds Tryz.pinned (OpenSpec.ofChange fnExecuteRepairWrong)

/-- 'laws.FnExecuteOrder': WHATEVER THE INPUT: true; the input reads as it did. -/
def fnExecuteOrderSpec : ChangeSpec := { name := "fnExecuteOrder", fn := fun _ => fun
  | [d] => { results := [.lit (.bool true)], args := [d] }
  | _ => none }
def fnExecuteOrderRow : OpenClaim := { program := "ytjffopopheiinaagreatdoor", sum := "a6155eaa6625e07e9c251f7607c4126c5bb221c6ba2c8b1ffe51daddb85a1e38", func := "loop.example/linkstaterouting/laws.FnExecuteOrder", spec := "fnExecuteOrder", inPlace := ["internal/bytealg.CountString", "internal/bytealg.IndexByteString", "internal/bytealg.IndexString", "slices.overlaps[loop.example/linkstaterouting/impl.Lsa]"], unfollowed := true, recurses := true, named := ["unicode/utf8.first", "unicode/utf8.acceptRanges", "internal/bytealg.MaxLen", "internal/strconv.uint64pow10", "math/bits.deBruijn32tab", "math/bits.deBruijn64tab"], apart := false, laid := [("math/bits.deBruijn32tab", laid_math_bits_deBruijn32tab), ("math/bits.deBruijn64tab", laid_math_bits_deBruijn64tab), ("internal/strconv.uint64pow10", laid_internal_strconv_uint64pow10), ("unicode/utf8.acceptRanges", laid_unicode_utf8_acceptRanges), ("unicode/utf8.first", laid_unicode_utf8_first)] }
def FnExecuteOrderSaid : Prop := fnExecuteOrderRow.holds Tryz.pinned (OpenSpec.ofChange fnExecuteOrderSpec)

/-- ITS FALSE NEIGHBOUR: 'it returns false'. Refute it at one input. -/
def fnExecuteOrderWrong : ChangeSpec := { name := "fnExecuteOrder", fn := fun _ => fun
  | [d] => { results := [.lit (.bool false)], args := [d] }
  | _ => none }
def FnExecuteOrderWrongFalsely : Prop := fnExecuteOrderRow.holds Tryz.pinned (OpenSpec.ofChange fnExecuteOrderWrong)

/-- 'laws.FnExecuteCalm': WHATEVER THE INPUT: true; the input reads as it did. -/
def fnExecuteCalmSpec : ChangeSpec := { name := "fnExecuteCalm", fn := fun _ => fun
  | [d] => { results := [.lit (.bool true)], args := [d] }
  | _ => none }
def fnExecuteCalmRow : OpenClaim := { program := "ytjffopopheiinaagreatdoor", sum := "a6155eaa6625e07e9c251f7607c4126c5bb221c6ba2c8b1ffe51daddb85a1e38", func := "loop.example/linkstaterouting/laws.FnExecuteCalm", spec := "fnExecuteCalm", inPlace := ["internal/bytealg.CountString", "internal/bytealg.IndexByteString", "internal/bytealg.IndexString", "slices.overlaps[loop.example/linkstaterouting/impl.Lsa]"], unfollowed := true, recurses := true, named := ["unicode/utf8.first", "unicode/utf8.acceptRanges", "internal/bytealg.MaxLen", "internal/strconv.uint64pow10", "math/bits.deBruijn32tab", "math/bits.deBruijn64tab"], apart := false, laid := [("math/bits.deBruijn32tab", laid_math_bits_deBruijn32tab), ("math/bits.deBruijn64tab", laid_math_bits_deBruijn64tab), ("internal/strconv.uint64pow10", laid_internal_strconv_uint64pow10), ("unicode/utf8.acceptRanges", laid_unicode_utf8_acceptRanges), ("unicode/utf8.first", laid_unicode_utf8_first)] }
def FnExecuteCalmSaid : Prop := fnExecuteCalmRow.holds Tryz.pinned (OpenSpec.ofChange fnExecuteCalmSpec)

/-- ITS FALSE NEIGHBOUR: 'it returns false'. Refute it at one input. -/
def fnExecuteCalmWrong : ChangeSpec := { name := "fnExecuteCalm", fn := fun _ => fun
  | [d] => { results := [.lit (.bool false)], args := [d] }
  | _ => none }
def FnExecuteCalmWrongFalsely : Prop := fnExecuteCalmRow.holds Tryz.pinned (OpenSpec.ofChange fnExecuteCalmWrong)

/-- 'laws.FnExecuteSeen': WHATEVER THE INPUT: true; the input reads as it did. -/
def fnExecuteSeenSpec : ChangeSpec := { name := "fnExecuteSeen", fn := fun _ => fun
  | [d] => { results := [.lit (.bool true)], args := [d] }
  | _ => none }
def fnExecuteSeenRow : OpenClaim := { program := "ytjffopopheiinaagreatdoor", sum := "a6155eaa6625e07e9c251f7607c4126c5bb221c6ba2c8b1ffe51daddb85a1e38", func := "loop.example/linkstaterouting/laws.FnExecuteSeen", spec := "fnExecuteSeen", inPlace := ["internal/bytealg.CountString", "internal/bytealg.IndexByteString", "internal/bytealg.IndexString", "slices.overlaps[loop.example/linkstaterouting/impl.Lsa]"], unfollowed := true, recurses := true, named := ["unicode/utf8.first", "unicode/utf8.acceptRanges", "internal/bytealg.MaxLen", "internal/strconv.uint64pow10", "math/bits.deBruijn32tab", "math/bits.deBruijn64tab"], apart := false, laid := [("math/bits.deBruijn32tab", laid_math_bits_deBruijn32tab), ("math/bits.deBruijn64tab", laid_math_bits_deBruijn64tab), ("internal/strconv.uint64pow10", laid_internal_strconv_uint64pow10), ("unicode/utf8.acceptRanges", laid_unicode_utf8_acceptRanges), ("unicode/utf8.first", laid_unicode_utf8_first)] }
def FnExecuteSeenSaid : Prop := fnExecuteSeenRow.holds Tryz.pinned (OpenSpec.ofChange fnExecuteSeenSpec)

/-- ITS FALSE NEIGHBOUR: 'it returns false'. Refute it at one input. -/
def fnExecuteSeenWrong : ChangeSpec := { name := "fnExecuteSeen", fn := fun _ => fun
  | [d] => { results := [.lit (.bool false)], args := [d] }
  | _ => none }
def FnExecuteSeenWrongFalsely : Prop := fnExecuteSeenRow.holds Tryz.pinned (OpenSpec.ofChange fnExecuteSeenWrong)

/- THE SECOND FORM. 'bulk': how many values and letters a reading holds, each counted each time it is reached (what is shared counts as often as it is met; a slice's spare places count too). A statement '..UptoSaid' is the law's where the arguments, and the package variables that the reading takes, are together of bulk at most 1048576: NARROWER than '..Said'. Prove '..Said' where nothing that the law and all that it calls make is longer than what came in: it says more and counts as full. Else prove '..UptoSaid'. A law counts once. -/
mutual
def uptoBulk {H : Type} : DataW H → Nat
  | .lit (.string bytes) => bytes.length + 1
  | .lit _ => 1
  | .nil => 1
  | .ptr d => uptoBulk d + 1
  | .slice elems spare => uptoBulkAll elems + uptoBulkAll spare + 1
  | .agg parts => uptoBulkAll parts + 1
  | .iface _ d => uptoBulk d + 1
  | .map entries => uptoBulkEntries entries + 1
  | .held _ => 1
def uptoBulkAll {H : Type} : List (DataW H) → Nat
  | [] => 0
  | d :: r => uptoBulk d + uptoBulkAll r
def uptoBulkEntries {H : Type} : List (Lit × DataW H) → Nat
  | [] => 0
  | x :: r => uptoBulkEntry x + uptoBulkEntries r
def uptoBulkEntry {H : Type} : Lit × DataW H → Nat
  | (.string bytes, d) => bytes.length + uptoBulk d + 1
  | (_, d) => uptoBulk d + 1
 end
def uptoSmall : (H : Type) → List (DataW H) → Bool := fun _ ds => decide (uptoBulkAll ds ≤ 1048576)
def OpenSpec.upto (s : _root_.Go.ChangeSpec) : _root_.Go.OpenSpec := { _root_.Go.OpenSpec.ofChange s with cond := some uptoSmall }

/-- 'laws.FnExactExecute', WHERE WHAT IT READS IS OF BULK AT MOST 1048576: true; the input reads as it did. -/
def fnExactExecuteUptoRow : OpenClaim := { program := "ytjffopopheiinaagreatdoor", sum := "a6155eaa6625e07e9c251f7607c4126c5bb221c6ba2c8b1ffe51daddb85a1e38", func := "loop.example/linkstaterouting/laws.FnExactExecute", spec := "fnExactExecute", inPlace := ["internal/bytealg.CountString", "internal/bytealg.IndexByteString", "internal/bytealg.IndexString", "slices.overlaps[loop.example/linkstaterouting/impl.Lsa]"], unfollowed := true, recurses := true, named := ["unicode/utf8.first", "unicode/utf8.acceptRanges", "internal/bytealg.MaxLen", "internal/strconv.uint64pow10", "math/bits.deBruijn32tab", "math/bits.deBruijn64tab"], apart := false, laid := [("math/bits.deBruijn32tab", laid_math_bits_deBruijn32tab), ("math/bits.deBruijn64tab", laid_math_bits_deBruijn64tab), ("internal/strconv.uint64pow10", laid_internal_strconv_uint64pow10), ("unicode/utf8.acceptRanges", laid_unicode_utf8_acceptRanges), ("unicode/utf8.first", laid_unicode_utf8_first)], narrowed := true }
def FnExactExecuteUptoSaid : Prop := fnExactExecuteUptoRow.holds Tryz.pinned (OpenSpec.upto fnExactExecuteSpec)

/-- 'laws.FnExecuteEmpty', WHERE WHAT IT READS IS OF BULK AT MOST 1048576: true; the input reads as it did. -/
def fnExecuteEmptyUptoRow : OpenClaim := { program := "ytjffopopheiinaagreatdoor", sum := "a6155eaa6625e07e9c251f7607c4126c5bb221c6ba2c8b1ffe51daddb85a1e38", func := "loop.example/linkstaterouting/laws.FnExecuteEmpty", spec := "fnExecuteEmpty", inPlace := ["internal/bytealg.CountString", "internal/bytealg.IndexByteString", "internal/bytealg.IndexString", "slices.overlaps[loop.example/linkstaterouting/impl.Lsa]"], unfollowed := true, recurses := true, named := ["unicode/utf8.first", "unicode/utf8.acceptRanges", "internal/bytealg.MaxLen", "internal/strconv.uint64pow10", "math/bits.deBruijn32tab", "math/bits.deBruijn64tab"], apart := false, laid := [("math/bits.deBruijn32tab", laid_math_bits_deBruijn32tab), ("math/bits.deBruijn64tab", laid_math_bits_deBruijn64tab), ("internal/strconv.uint64pow10", laid_internal_strconv_uint64pow10), ("unicode/utf8.acceptRanges", laid_unicode_utf8_acceptRanges), ("unicode/utf8.first", laid_unicode_utf8_first)], narrowed := true }
def FnExecuteEmptyUptoSaid : Prop := fnExecuteEmptyUptoRow.holds Tryz.pinned (OpenSpec.upto fnExecuteEmptySpec)

/-- 'laws.FnExecuteLines', WHERE WHAT IT READS IS OF BULK AT MOST 1048576: true; the input reads as it did. -/
def fnExecuteLinesUptoRow : OpenClaim := { program := "ytjffopopheiinaagreatdoor", sum := "a6155eaa6625e07e9c251f7607c4126c5bb221c6ba2c8b1ffe51daddb85a1e38", func := "loop.example/linkstaterouting/laws.FnExecuteLines", spec := "fnExecuteLines", inPlace := ["internal/bytealg.CountString", "internal/bytealg.IndexByteString", "internal/bytealg.IndexString", "slices.overlaps[loop.example/linkstaterouting/impl.Lsa]"], unfollowed := true, recurses := true, named := ["unicode/utf8.first", "unicode/utf8.acceptRanges", "internal/bytealg.MaxLen", "internal/strconv.uint64pow10", "math/bits.deBruijn32tab", "math/bits.deBruijn64tab"], apart := false, laid := [("math/bits.deBruijn32tab", laid_math_bits_deBruijn32tab), ("math/bits.deBruijn64tab", laid_math_bits_deBruijn64tab), ("internal/strconv.uint64pow10", laid_internal_strconv_uint64pow10), ("unicode/utf8.acceptRanges", laid_unicode_utf8_acceptRanges), ("unicode/utf8.first", laid_unicode_utf8_first)], narrowed := true }
def FnExecuteLinesUptoSaid : Prop := fnExecuteLinesUptoRow.holds Tryz.pinned (OpenSpec.upto fnExecuteLinesSpec)

/-- 'laws.FnExecuteUnknown', WHERE WHAT IT READS IS OF BULK AT MOST 1048576: true; the input reads as it did. -/
def fnExecuteUnknownUptoRow : OpenClaim := { program := "ytjffopopheiinaagreatdoor", sum := "a6155eaa6625e07e9c251f7607c4126c5bb221c6ba2c8b1ffe51daddb85a1e38", func := "loop.example/linkstaterouting/laws.FnExecuteUnknown", spec := "fnExecuteUnknown", inPlace := ["internal/bytealg.CountString", "internal/bytealg.IndexByteString", "internal/bytealg.IndexString", "slices.overlaps[loop.example/linkstaterouting/impl.Lsa]"], unfollowed := true, recurses := true, named := ["unicode/utf8.first", "unicode/utf8.acceptRanges", "internal/bytealg.MaxLen", "internal/strconv.uint64pow10", "math/bits.deBruijn32tab", "math/bits.deBruijn64tab"], apart := false, laid := [("math/bits.deBruijn32tab", laid_math_bits_deBruijn32tab), ("math/bits.deBruijn64tab", laid_math_bits_deBruijn64tab), ("internal/strconv.uint64pow10", laid_internal_strconv_uint64pow10), ("unicode/utf8.acceptRanges", laid_unicode_utf8_acceptRanges), ("unicode/utf8.first", laid_unicode_utf8_first)], narrowed := true }
def FnExecuteUnknownUptoSaid : Prop := fnExecuteUnknownUptoRow.holds Tryz.pinned (OpenSpec.upto fnExecuteUnknownSpec)

/-- 'laws.FnExecuteQueries', WHERE WHAT IT READS IS OF BULK AT MOST 1048576: true; the input reads as it did. -/
def fnExecuteQueriesUptoRow : OpenClaim := { program := "ytjffopopheiinaagreatdoor", sum := "a6155eaa6625e07e9c251f7607c4126c5bb221c6ba2c8b1ffe51daddb85a1e38", func := "loop.example/linkstaterouting/laws.FnExecuteQueries", spec := "fnExecuteQueries", inPlace := ["internal/bytealg.CountString", "internal/bytealg.IndexByteString", "internal/bytealg.IndexString", "slices.overlaps[loop.example/linkstaterouting/impl.Lsa]"], unfollowed := true, recurses := true, named := ["unicode/utf8.first", "unicode/utf8.acceptRanges", "internal/bytealg.MaxLen", "internal/strconv.uint64pow10", "math/bits.deBruijn32tab", "math/bits.deBruijn64tab"], apart := false, laid := [("math/bits.deBruijn32tab", laid_math_bits_deBruijn32tab), ("math/bits.deBruijn64tab", laid_math_bits_deBruijn64tab), ("internal/strconv.uint64pow10", laid_internal_strconv_uint64pow10), ("unicode/utf8.acceptRanges", laid_unicode_utf8_acceptRanges), ("unicode/utf8.first", laid_unicode_utf8_first)], narrowed := true }
def FnExecuteQueriesUptoSaid : Prop := fnExecuteQueriesUptoRow.holds Tryz.pinned (OpenSpec.upto fnExecuteQueriesSpec)

/-- 'laws.FnExecuteIncomplete', WHERE WHAT IT READS IS OF BULK AT MOST 1048576: true; the input reads as it did. -/
def fnExecuteIncompleteUptoRow : OpenClaim := { program := "ytjffopopheiinaagreatdoor", sum := "a6155eaa6625e07e9c251f7607c4126c5bb221c6ba2c8b1ffe51daddb85a1e38", func := "loop.example/linkstaterouting/laws.FnExecuteIncomplete", spec := "fnExecuteIncomplete", inPlace := ["internal/bytealg.CountString", "internal/bytealg.IndexByteString", "internal/bytealg.IndexString", "slices.overlaps[loop.example/linkstaterouting/impl.Lsa]"], unfollowed := true, recurses := true, named := ["unicode/utf8.first", "unicode/utf8.acceptRanges", "internal/bytealg.MaxLen", "internal/strconv.uint64pow10", "math/bits.deBruijn32tab", "math/bits.deBruijn64tab"], apart := false, laid := [("math/bits.deBruijn32tab", laid_math_bits_deBruijn32tab), ("math/bits.deBruijn64tab", laid_math_bits_deBruijn64tab), ("internal/strconv.uint64pow10", laid_internal_strconv_uint64pow10), ("unicode/utf8.acceptRanges", laid_unicode_utf8_acceptRanges), ("unicode/utf8.first", laid_unicode_utf8_first)], narrowed := true }
def FnExecuteIncompleteUptoSaid : Prop := fnExecuteIncompleteUptoRow.holds Tryz.pinned (OpenSpec.upto fnExecuteIncompleteSpec)

/-- 'laws.FnExecutePath', WHERE WHAT IT READS IS OF BULK AT MOST 1048576: true; the input reads as it did. -/
def fnExecutePathUptoRow : OpenClaim := { program := "ytjffopopheiinaagreatdoor", sum := "a6155eaa6625e07e9c251f7607c4126c5bb221c6ba2c8b1ffe51daddb85a1e38", func := "loop.example/linkstaterouting/laws.FnExecutePath", spec := "fnExecutePath", inPlace := ["internal/bytealg.CountString", "internal/bytealg.IndexByteString", "internal/bytealg.IndexString", "slices.overlaps[loop.example/linkstaterouting/impl.Lsa]"], unfollowed := true, recurses := true, named := ["unicode/utf8.first", "unicode/utf8.acceptRanges", "internal/bytealg.MaxLen", "internal/strconv.uint64pow10", "math/bits.deBruijn32tab", "math/bits.deBruijn64tab"], apart := false, laid := [("math/bits.deBruijn32tab", laid_math_bits_deBruijn32tab), ("math/bits.deBruijn64tab", laid_math_bits_deBruijn64tab), ("internal/strconv.uint64pow10", laid_internal_strconv_uint64pow10), ("unicode/utf8.acceptRanges", laid_unicode_utf8_acceptRanges), ("unicode/utf8.first", laid_unicode_utf8_first)], narrowed := true }
def FnExecutePathUptoSaid : Prop := fnExecutePathUptoRow.holds Tryz.pinned (OpenSpec.upto fnExecutePathSpec)

/-- 'laws.FnExecuteRepair', WHERE WHAT IT READS IS OF BULK AT MOST 1048576: true; the input reads as it did. -/
def fnExecuteRepairUptoRow : OpenClaim := { program := "ytjffopopheiinaagreatdoor", sum := "a6155eaa6625e07e9c251f7607c4126c5bb221c6ba2c8b1ffe51daddb85a1e38", func := "loop.example/linkstaterouting/laws.FnExecuteRepair", spec := "fnExecuteRepair", inPlace := ["internal/bytealg.CountString", "internal/bytealg.IndexByteString", "internal/bytealg.IndexString", "slices.overlaps[loop.example/linkstaterouting/impl.Lsa]"], unfollowed := true, recurses := true, named := ["unicode/utf8.first", "unicode/utf8.acceptRanges", "internal/bytealg.MaxLen", "internal/strconv.uint64pow10", "math/bits.deBruijn32tab", "math/bits.deBruijn64tab"], apart := false, laid := [("math/bits.deBruijn32tab", laid_math_bits_deBruijn32tab), ("math/bits.deBruijn64tab", laid_math_bits_deBruijn64tab), ("internal/strconv.uint64pow10", laid_internal_strconv_uint64pow10), ("unicode/utf8.acceptRanges", laid_unicode_utf8_acceptRanges), ("unicode/utf8.first", laid_unicode_utf8_first)], narrowed := true }
def FnExecuteRepairUptoSaid : Prop := fnExecuteRepairUptoRow.holds Tryz.pinned (OpenSpec.upto fnExecuteRepairSpec)

/-- 'laws.FnExecuteOrder', WHERE WHAT IT READS IS OF BULK AT MOST 1048576: true; the input reads as it did. -/
def fnExecuteOrderUptoRow : OpenClaim := { program := "ytjffopopheiinaagreatdoor", sum := "a6155eaa6625e07e9c251f7607c4126c5bb221c6ba2c8b1ffe51daddb85a1e38", func := "loop.example/linkstaterouting/laws.FnExecuteOrder", spec := "fnExecuteOrder", inPlace := ["internal/bytealg.CountString", "internal/bytealg.IndexByteString", "internal/bytealg.IndexString", "slices.overlaps[loop.example/linkstaterouting/impl.Lsa]"], unfollowed := true, recurses := true, named := ["unicode/utf8.first", "unicode/utf8.acceptRanges", "internal/bytealg.MaxLen", "internal/strconv.uint64pow10", "math/bits.deBruijn32tab", "math/bits.deBruijn64tab"], apart := false, laid := [("math/bits.deBruijn32tab", laid_math_bits_deBruijn32tab), ("math/bits.deBruijn64tab", laid_math_bits_deBruijn64tab), ("internal/strconv.uint64pow10", laid_internal_strconv_uint64pow10), ("unicode/utf8.acceptRanges", laid_unicode_utf8_acceptRanges), ("unicode/utf8.first", laid_unicode_utf8_first)], narrowed := true }
def FnExecuteOrderUptoSaid : Prop := fnExecuteOrderUptoRow.holds Tryz.pinned (OpenSpec.upto fnExecuteOrderSpec)

/-- 'laws.FnExecuteCalm', WHERE WHAT IT READS IS OF BULK AT MOST 1048576: true; the input reads as it did. -/
def fnExecuteCalmUptoRow : OpenClaim := { program := "ytjffopopheiinaagreatdoor", sum := "a6155eaa6625e07e9c251f7607c4126c5bb221c6ba2c8b1ffe51daddb85a1e38", func := "loop.example/linkstaterouting/laws.FnExecuteCalm", spec := "fnExecuteCalm", inPlace := ["internal/bytealg.CountString", "internal/bytealg.IndexByteString", "internal/bytealg.IndexString", "slices.overlaps[loop.example/linkstaterouting/impl.Lsa]"], unfollowed := true, recurses := true, named := ["unicode/utf8.first", "unicode/utf8.acceptRanges", "internal/bytealg.MaxLen", "internal/strconv.uint64pow10", "math/bits.deBruijn32tab", "math/bits.deBruijn64tab"], apart := false, laid := [("math/bits.deBruijn32tab", laid_math_bits_deBruijn32tab), ("math/bits.deBruijn64tab", laid_math_bits_deBruijn64tab), ("internal/strconv.uint64pow10", laid_internal_strconv_uint64pow10), ("unicode/utf8.acceptRanges", laid_unicode_utf8_acceptRanges), ("unicode/utf8.first", laid_unicode_utf8_first)], narrowed := true }
def FnExecuteCalmUptoSaid : Prop := fnExecuteCalmUptoRow.holds Tryz.pinned (OpenSpec.upto fnExecuteCalmSpec)

/-- 'laws.FnExecuteSeen', WHERE WHAT IT READS IS OF BULK AT MOST 1048576: true; the input reads as it did. -/
def fnExecuteSeenUptoRow : OpenClaim := { program := "ytjffopopheiinaagreatdoor", sum := "a6155eaa6625e07e9c251f7607c4126c5bb221c6ba2c8b1ffe51daddb85a1e38", func := "loop.example/linkstaterouting/laws.FnExecuteSeen", spec := "fnExecuteSeen", inPlace := ["internal/bytealg.CountString", "internal/bytealg.IndexByteString", "internal/bytealg.IndexString", "slices.overlaps[loop.example/linkstaterouting/impl.Lsa]"], unfollowed := true, recurses := true, named := ["unicode/utf8.first", "unicode/utf8.acceptRanges", "internal/bytealg.MaxLen", "internal/strconv.uint64pow10", "math/bits.deBruijn32tab", "math/bits.deBruijn64tab"], apart := false, laid := [("math/bits.deBruijn32tab", laid_math_bits_deBruijn32tab), ("math/bits.deBruijn64tab", laid_math_bits_deBruijn64tab), ("internal/strconv.uint64pow10", laid_internal_strconv_uint64pow10), ("unicode/utf8.acceptRanges", laid_unicode_utf8_acceptRanges), ("unicode/utf8.first", laid_unicode_utf8_first)], narrowed := true }
def FnExecuteSeenUptoSaid : Prop := fnExecuteSeenUptoRow.holds Tryz.pinned (OpenSpec.upto fnExecuteSeenSpec)

end Rows
end Go.Proofs.YtjffopopheiinaaGreatDoor
