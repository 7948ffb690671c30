/-
  DERIVED. GIVEN WITH THE SEED: THE CARDS: each row of YtjffopopheiinaaGreatDoorRows.lean that lists a variable, with what it lists TIED to the program's text (the seventh form; the later family's looks); each row that meets fmt, with fmt's text TOLD by the authors' own Lean function (tested against real Go, not proved from fmt's source: count such statements apart). THE CARD IS WHAT COUNTS. Prove the row's statement (the work); the ties are given (YtjffopopheiinaaGreatDoorTie.lean); close each card by the builder's one call (the guide's Derived/Test/ToyasCard.lean, 'card_holds'). Laid BY PROGRAM, IN A SANDBOX (cutbox-door.mjs). By AI agents, Wed Nov 11 2026. No macro, syntax, notation, axiom, sorry.
-/
import Derived.Test.YtjffopopheiinaaGreatDoorRows
import GoSem.ClaimSeven
namespace Go.Proofs.YtjffopopheiinaaGreatDoor
namespace Rows

/-- THE TIED CARD OF 'laws.FnExactExecute'. -/
def fnExactExecuteCard : Claim7 := { stood := { row := fnExactExecuteRow, standIns := [], harness := (true, "068744d2d06e4fd53b5714a8a2bb854e38bb8805119364ab6c0ee3c288c05673"), looks := false }, kinds := [], alts := [], laidByText := true, laidKinds := [.data, .data, .data, .data, .pinned], laidTests := true, laidLooks := .later }
def FnExactExecuteCardSaid : Prop := Claim7.holds Tryz.pinned (.plain (OpenSpec.ofChange fnExactExecuteSpec)) fnExactExecuteCard

/-- THE TIED CARD OF 'laws.FnExecuteEmpty'. -/
def fnExecuteEmptyCard : Claim7 := { stood := { row := fnExecuteEmptyRow, standIns := [], harness := (true, "068744d2d06e4fd53b5714a8a2bb854e38bb8805119364ab6c0ee3c288c05673"), looks := false }, kinds := [], alts := [], laidByText := true, laidKinds := [.data, .data, .data, .data, .pinned], laidTests := true, laidLooks := .later }
def FnExecuteEmptyCardSaid : Prop := Claim7.holds Tryz.pinned (.plain (OpenSpec.ofChange fnExecuteEmptySpec)) fnExecuteEmptyCard

/-- THE TIED CARD OF 'laws.FnExecuteLines'. -/
def fnExecuteLinesCard : Claim7 := { stood := { row := fnExecuteLinesRow, standIns := [], harness := (true, "068744d2d06e4fd53b5714a8a2bb854e38bb8805119364ab6c0ee3c288c05673"), looks := false }, kinds := [], alts := [], laidByText := true, laidKinds := [.data, .data, .data, .data, .pinned], laidTests := true, laidLooks := .later }
def FnExecuteLinesCardSaid : Prop := Claim7.holds Tryz.pinned (.plain (OpenSpec.ofChange fnExecuteLinesSpec)) fnExecuteLinesCard

/-- THE TIED CARD OF 'laws.FnExecuteUnknown'. -/
def fnExecuteUnknownCard : Claim7 := { stood := { row := fnExecuteUnknownRow, standIns := [], harness := (true, "068744d2d06e4fd53b5714a8a2bb854e38bb8805119364ab6c0ee3c288c05673"), looks := false }, kinds := [], alts := [], laidByText := true, laidKinds := [.data, .data, .data, .data, .pinned], laidTests := true, laidLooks := .later }
def FnExecuteUnknownCardSaid : Prop := Claim7.holds Tryz.pinned (.plain (OpenSpec.ofChange fnExecuteUnknownSpec)) fnExecuteUnknownCard

/-- THE TIED CARD OF 'laws.FnExecuteQueries'. -/
def fnExecuteQueriesCard : Claim7 := { stood := { row := fnExecuteQueriesRow, standIns := [], harness := (true, "068744d2d06e4fd53b5714a8a2bb854e38bb8805119364ab6c0ee3c288c05673"), looks := false }, kinds := [], alts := [], laidByText := true, laidKinds := [.data, .data, .data, .data, .pinned], laidTests := true, laidLooks := .later }
def FnExecuteQueriesCardSaid : Prop := Claim7.holds Tryz.pinned (.plain (OpenSpec.ofChange fnExecuteQueriesSpec)) fnExecuteQueriesCard

/-- THE TIED CARD OF 'laws.FnExecuteIncomplete'. -/
def fnExecuteIncompleteCard : Claim7 := { stood := { row := fnExecuteIncompleteRow, standIns := [], harness := (true, "068744d2d06e4fd53b5714a8a2bb854e38bb8805119364ab6c0ee3c288c05673"), looks := false }, kinds := [], alts := [], laidByText := true, laidKinds := [.data, .data, .data, .data, .pinned], laidTests := true, laidLooks := .later }
def FnExecuteIncompleteCardSaid : Prop := Claim7.holds Tryz.pinned (.plain (OpenSpec.ofChange fnExecuteIncompleteSpec)) fnExecuteIncompleteCard

/-- THE TIED CARD OF 'laws.FnExecutePath'. -/
def fnExecutePathCard : Claim7 := { stood := { row := fnExecutePathRow, standIns := [], harness := (true, "068744d2d06e4fd53b5714a8a2bb854e38bb8805119364ab6c0ee3c288c05673"), looks := false }, kinds := [], alts := [], laidByText := true, laidKinds := [.data, .data, .data, .data, .pinned], laidTests := true, laidLooks := .later }
def FnExecutePathCardSaid : Prop := Claim7.holds Tryz.pinned (.plain (OpenSpec.ofChange fnExecutePathSpec)) fnExecutePathCard

/-- THE TIED CARD OF 'laws.FnExecuteRepair'. -/
def fnExecuteRepairCard : Claim7 := { stood := { row := fnExecuteRepairRow, standIns := [], harness := (true, "068744d2d06e4fd53b5714a8a2bb854e38bb8805119364ab6c0ee3c288c05673"), looks := false }, kinds := [], alts := [], laidByText := true, laidKinds := [.data, .data, .data, .data, .pinned], laidTests := true, laidLooks := .later }
def FnExecuteRepairCardSaid : Prop := Claim7.holds Tryz.pinned (.plain (OpenSpec.ofChange fnExecuteRepairSpec)) fnExecuteRepairCard

/-- THE TIED CARD OF 'laws.FnExecuteOrder'. -/
def fnExecuteOrderCard : Claim7 := { stood := { row := fnExecuteOrderRow, standIns := [], harness := (true, "068744d2d06e4fd53b5714a8a2bb854e38bb8805119364ab6c0ee3c288c05673"), looks := false }, kinds := [], alts := [], laidByText := true, laidKinds := [.data, .data, .data, .data, .pinned], laidTests := true, laidLooks := .later }
def FnExecuteOrderCardSaid : Prop := Claim7.holds Tryz.pinned (.plain (OpenSpec.ofChange fnExecuteOrderSpec)) fnExecuteOrderCard

/-- THE TIED CARD OF 'laws.FnExecuteCalm'. -/
def fnExecuteCalmCard : Claim7 := { stood := { row := fnExecuteCalmRow, standIns := [], harness := (true, "068744d2d06e4fd53b5714a8a2bb854e38bb8805119364ab6c0ee3c288c05673"), looks := false }, kinds := [], alts := [], laidByText := true, laidKinds := [.data, .data, .data, .data, .pinned], laidTests := true, laidLooks := .later }
def FnExecuteCalmCardSaid : Prop := Claim7.holds Tryz.pinned (.plain (OpenSpec.ofChange fnExecuteCalmSpec)) fnExecuteCalmCard

/-- THE TIED CARD OF 'laws.FnExecuteSeen'. -/
def fnExecuteSeenCard : Claim7 := { stood := { row := fnExecuteSeenRow, standIns := [], harness := (true, "068744d2d06e4fd53b5714a8a2bb854e38bb8805119364ab6c0ee3c288c05673"), looks := false }, kinds := [], alts := [], laidByText := true, laidKinds := [.data, .data, .data, .data, .pinned], laidTests := true, laidLooks := .later }
def FnExecuteSeenCardSaid : Prop := Claim7.holds Tryz.pinned (.plain (OpenSpec.ofChange fnExecuteSeenSpec)) fnExecuteSeenCard

/-- THE SECOND FORM's CARD OF 'laws.FnExactExecute'. -/
def fnExactExecuteUptoCard : Claim7 := { stood := { row := fnExactExecuteUptoRow, standIns := [], harness := (true, "068744d2d06e4fd53b5714a8a2bb854e38bb8805119364ab6c0ee3c288c05673"), looks := false }, kinds := [], alts := [], laidByText := true, laidKinds := [.data, .data, .data, .data, .pinned], laidTests := true, laidLooks := .later }
def FnExactExecuteUptoCardSaid : Prop := Claim7.holds Tryz.pinned (.plain (OpenSpec.upto fnExactExecuteSpec)) fnExactExecuteUptoCard

/-- THE SECOND FORM's CARD OF 'laws.FnExecuteEmpty'. -/
def fnExecuteEmptyUptoCard : Claim7 := { stood := { row := fnExecuteEmptyUptoRow, standIns := [], harness := (true, "068744d2d06e4fd53b5714a8a2bb854e38bb8805119364ab6c0ee3c288c05673"), looks := false }, kinds := [], alts := [], laidByText := true, laidKinds := [.data, .data, .data, .data, .pinned], laidTests := true, laidLooks := .later }
def FnExecuteEmptyUptoCardSaid : Prop := Claim7.holds Tryz.pinned (.plain (OpenSpec.upto fnExecuteEmptySpec)) fnExecuteEmptyUptoCard

/-- THE SECOND FORM's CARD OF 'laws.FnExecuteLines'. -/
def fnExecuteLinesUptoCard : Claim7 := { stood := { row := fnExecuteLinesUptoRow, standIns := [], harness := (true, "068744d2d06e4fd53b5714a8a2bb854e38bb8805119364ab6c0ee3c288c05673"), looks := false }, kinds := [], alts := [], laidByText := true, laidKinds := [.data, .data, .data, .data, .pinned], laidTests := true, laidLooks := .later }
def FnExecuteLinesUptoCardSaid : Prop := Claim7.holds Tryz.pinned (.plain (OpenSpec.upto fnExecuteLinesSpec)) fnExecuteLinesUptoCard

/-- THE SECOND FORM's CARD OF 'laws.FnExecuteUnknown'. -/
def fnExecuteUnknownUptoCard : Claim7 := { stood := { row := fnExecuteUnknownUptoRow, standIns := [], harness := (true, "068744d2d06e4fd53b5714a8a2bb854e38bb8805119364ab6c0ee3c288c05673"), looks := false }, kinds := [], alts := [], laidByText := true, laidKinds := [.data, .data, .data, .data, .pinned], laidTests := true, laidLooks := .later }
def FnExecuteUnknownUptoCardSaid : Prop := Claim7.holds Tryz.pinned (.plain (OpenSpec.upto fnExecuteUnknownSpec)) fnExecuteUnknownUptoCard

/-- THE SECOND FORM's CARD OF 'laws.FnExecuteQueries'. -/
def fnExecuteQueriesUptoCard : Claim7 := { stood := { row := fnExecuteQueriesUptoRow, standIns := [], harness := (true, "068744d2d06e4fd53b5714a8a2bb854e38bb8805119364ab6c0ee3c288c05673"), looks := false }, kinds := [], alts := [], laidByText := true, laidKinds := [.data, .data, .data, .data, .pinned], laidTests := true, laidLooks := .later }
def FnExecuteQueriesUptoCardSaid : Prop := Claim7.holds Tryz.pinned (.plain (OpenSpec.upto fnExecuteQueriesSpec)) fnExecuteQueriesUptoCard

/-- THE SECOND FORM's CARD OF 'laws.FnExecuteIncomplete'. -/
def fnExecuteIncompleteUptoCard : Claim7 := { stood := { row := fnExecuteIncompleteUptoRow, standIns := [], harness := (true, "068744d2d06e4fd53b5714a8a2bb854e38bb8805119364ab6c0ee3c288c05673"), looks := false }, kinds := [], alts := [], laidByText := true, laidKinds := [.data, .data, .data, .data, .pinned], laidTests := true, laidLooks := .later }
def FnExecuteIncompleteUptoCardSaid : Prop := Claim7.holds Tryz.pinned (.plain (OpenSpec.upto fnExecuteIncompleteSpec)) fnExecuteIncompleteUptoCard

/-- THE SECOND FORM's CARD OF 'laws.FnExecutePath'. -/
def fnExecutePathUptoCard : Claim7 := { stood := { row := fnExecutePathUptoRow, standIns := [], harness := (true, "068744d2d06e4fd53b5714a8a2bb854e38bb8805119364ab6c0ee3c288c05673"), looks := false }, kinds := [], alts := [], laidByText := true, laidKinds := [.data, .data, .data, .data, .pinned], laidTests := true, laidLooks := .later }
def FnExecutePathUptoCardSaid : Prop := Claim7.holds Tryz.pinned (.plain (OpenSpec.upto fnExecutePathSpec)) fnExecutePathUptoCard

/-- THE SECOND FORM's CARD OF 'laws.FnExecuteRepair'. -/
def fnExecuteRepairUptoCard : Claim7 := { stood := { row := fnExecuteRepairUptoRow, standIns := [], harness := (true, "068744d2d06e4fd53b5714a8a2bb854e38bb8805119364ab6c0ee3c288c05673"), looks := false }, kinds := [], alts := [], laidByText := true, laidKinds := [.data, .data, .data, .data, .pinned], laidTests := true, laidLooks := .later }
def FnExecuteRepairUptoCardSaid : Prop := Claim7.holds Tryz.pinned (.plain (OpenSpec.upto fnExecuteRepairSpec)) fnExecuteRepairUptoCard

/-- THE SECOND FORM's CARD OF 'laws.FnExecuteOrder'. -/
def fnExecuteOrderUptoCard : Claim7 := { stood := { row := fnExecuteOrderUptoRow, standIns := [], harness := (true, "068744d2d06e4fd53b5714a8a2bb854e38bb8805119364ab6c0ee3c288c05673"), looks := false }, kinds := [], alts := [], laidByText := true, laidKinds := [.data, .data, .data, .data, .pinned], laidTests := true, laidLooks := .later }
def FnExecuteOrderUptoCardSaid : Prop := Claim7.holds Tryz.pinned (.plain (OpenSpec.upto fnExecuteOrderSpec)) fnExecuteOrderUptoCard

/-- THE SECOND FORM's CARD OF 'laws.FnExecuteCalm'. -/
def fnExecuteCalmUptoCard : Claim7 := { stood := { row := fnExecuteCalmUptoRow, standIns := [], harness := (true, "068744d2d06e4fd53b5714a8a2bb854e38bb8805119364ab6c0ee3c288c05673"), looks := false }, kinds := [], alts := [], laidByText := true, laidKinds := [.data, .data, .data, .data, .pinned], laidTests := true, laidLooks := .later }
def FnExecuteCalmUptoCardSaid : Prop := Claim7.holds Tryz.pinned (.plain (OpenSpec.upto fnExecuteCalmSpec)) fnExecuteCalmUptoCard

/-- THE SECOND FORM's CARD OF 'laws.FnExecuteSeen'. -/
def fnExecuteSeenUptoCard : Claim7 := { stood := { row := fnExecuteSeenUptoRow, standIns := [], harness := (true, "068744d2d06e4fd53b5714a8a2bb854e38bb8805119364ab6c0ee3c288c05673"), looks := false }, kinds := [], alts := [], laidByText := true, laidKinds := [.data, .data, .data, .data, .pinned], laidTests := true, laidLooks := .later }
def FnExecuteSeenUptoCardSaid : Prop := Claim7.holds Tryz.pinned (.plain (OpenSpec.upto fnExecuteSeenSpec)) fnExecuteSeenUptoCard
end Rows
end Go.Proofs.YtjffopopheiinaaGreatDoor
