/-
  DERIVED. GIVEN WITH THE SEED: THE CARDS: each row of YtiphcamiidggcaaGreatDoorRows.lean that lists a variable, with what it lists TIED to the program's text (the seventh form; the later family's looks); each row that meets fmt, with fmt's text TOLD by the authors' own Lean function (tested against real Go, not proved from fmt's source: count such statements apart). THE CARD IS WHAT COUNTS. Prove the row's statement (the work); the ties are given (YtiphcamiidggcaaGreatDoorTie.lean); close each card by the builder's one call (the guide's Derived/Test/ToyasCard.lean, 'card_holds'). Laid BY PROGRAM, IN A SANDBOX (cutbox-door.mjs). By AI agents, Wed Nov 11 2026. No macro, syntax, notation, axiom, sorry.
-/
import Derived.Test.YtiphcamiidggcaaGreatDoorRows
import GoSem.ClaimSeven
namespace Go.Proofs.YtiphcamiidggcaaGreatDoor
namespace Rows

/-- THE TIED CARD OF 'laws.FnExactTreeTake'. -/
def fnExactTreeTakeCard : Claim7 := { stood := { row := fnExactTreeTakeRow, standIns := [], harness := (true, "aa7a1427f03079db5cea3e29d8da9786196e087a58f7d41393c16dd0882c0c39"), looks := false }, kinds := [], alts := [], laidByText := true, laidKinds := [.data, .widerDeep, .pinned], laidTests := true, laidLooks := .later }
def FnExactTreeTakeCardSaid : Prop := Claim7.holds Tryz.pinned (.plain (OpenSpec.ofChange fnExactTreeTakeSpec)) fnExactTreeTakeCard

/-- THE TIED CARD OF 'laws.FnZipJoinOne'. -/
def fnZipJoinOneCard : Claim7 := { stood := { row := fnZipJoinOneRow, standIns := [], harness := (true, "aa7a1427f03079db5cea3e29d8da9786196e087a58f7d41393c16dd0882c0c39"), looks := false }, kinds := [], alts := [], laidByText := true, laidKinds := [.data, .widerDeep, .pinned], laidTests := true, laidLooks := .later }
def FnZipJoinOneCardSaid : Prop := Claim7.holds Tryz.pinned (.plain (OpenSpec.ofChange fnZipJoinOneSpec)) fnZipJoinOneCard

/-- THE TIED CARD OF 'laws.FnZipJoin'. -/
def fnZipJoinCard : Claim7 := { stood := { row := fnZipJoinRow, standIns := [], harness := (true, "aa7a1427f03079db5cea3e29d8da9786196e087a58f7d41393c16dd0882c0c39"), looks := false }, kinds := [], alts := [], laidByText := true, laidKinds := [.data, .widerDeep, .pinned], laidTests := true, laidLooks := .later }
def FnZipJoinCardSaid : Prop := Claim7.holds Tryz.pinned (.plain (OpenSpec.ofChange fnZipJoinSpec)) fnZipJoinCard

/-- THE TIED CARD OF 'laws.FnZipDrop'. -/
def fnZipDropCard : Claim7 := { stood := { row := fnZipDropRow, standIns := [], harness := (true, "aa7a1427f03079db5cea3e29d8da9786196e087a58f7d41393c16dd0882c0c39"), looks := false }, kinds := [], alts := [], laidByText := true, laidKinds := [.data, .widerDeep, .pinned], laidTests := true, laidLooks := .later }
def FnZipDropCardSaid : Prop := Claim7.holds Tryz.pinned (.plain (OpenSpec.ofChange fnZipDropSpec)) fnZipDropCard

/-- THE TIED CARD OF 'laws.FnZipMove'. -/
def fnZipMoveCard : Claim7 := { stood := { row := fnZipMoveRow, standIns := [], harness := (true, "aa7a1427f03079db5cea3e29d8da9786196e087a58f7d41393c16dd0882c0c39"), looks := false }, kinds := [], alts := [], laidByText := true, laidKinds := [.data, .widerDeep, .pinned], laidTests := true, laidLooks := .later }
def FnZipMoveCardSaid : Prop := Claim7.holds Tryz.pinned (.plain (OpenSpec.ofChange fnZipMoveSpec)) fnZipMoveCard

/-- THE TIED CARD OF 'laws.FnZipTwice'. -/
def fnZipTwiceCard : Claim7 := { stood := { row := fnZipTwiceRow, standIns := [], harness := (true, "aa7a1427f03079db5cea3e29d8da9786196e087a58f7d41393c16dd0882c0c39"), looks := false }, kinds := [], alts := [], laidByText := true, laidKinds := [.data, .widerDeep, .pinned], laidTests := true, laidLooks := .later }
def FnZipTwiceCardSaid : Prop := Claim7.holds Tryz.pinned (.plain (OpenSpec.ofChange fnZipTwiceSpec)) fnZipTwiceCard

/-- THE TIED CARD OF 'laws.FnZipSwap'. -/
def fnZipSwapCard : Claim7 := { stood := { row := fnZipSwapRow, standIns := [], harness := (true, "aa7a1427f03079db5cea3e29d8da9786196e087a58f7d41393c16dd0882c0c39"), looks := false }, kinds := [], alts := [], laidByText := true, laidKinds := [.data, .widerDeep, .pinned], laidTests := true, laidLooks := .later }
def FnZipSwapCardSaid : Prop := Claim7.holds Tryz.pinned (.plain (OpenSpec.ofChange fnZipSwapSpec)) fnZipSwapCard

/-- THE TIED CARD OF 'laws.FnZipAdd'. -/
def fnZipAddCard : Claim7 := { stood := { row := fnZipAddRow, standIns := [], harness := (true, "aa7a1427f03079db5cea3e29d8da9786196e087a58f7d41393c16dd0882c0c39"), looks := false }, kinds := [], alts := [], laidByText := true, laidKinds := [.data, .widerDeep, .pinned], laidTests := true, laidLooks := .later }
def FnZipAddCardSaid : Prop := Claim7.holds Tryz.pinned (.plain (OpenSpec.ofChange fnZipAddSpec)) fnZipAddCard

/-- THE TIED CARD OF 'laws.FnTreeZip'. -/
def fnTreeZipCard : Claim7 := { stood := { row := fnTreeZipRow, standIns := [], harness := (true, "aa7a1427f03079db5cea3e29d8da9786196e087a58f7d41393c16dd0882c0c39"), looks := false }, kinds := [], alts := [], laidByText := true, laidKinds := [.data, .widerDeep, .pinned], laidTests := true, laidLooks := .later }
def FnTreeZipCardSaid : Prop := Claim7.holds Tryz.pinned (.plain (OpenSpec.ofChange fnTreeZipSpec)) fnTreeZipCard

/-- THE TIED CARD OF 'laws.FnTreeBack'. -/
def fnTreeBackCard : Claim7 := { stood := { row := fnTreeBackRow, standIns := [], harness := (true, "aa7a1427f03079db5cea3e29d8da9786196e087a58f7d41393c16dd0882c0c39"), looks := false }, kinds := [], alts := [], laidByText := true, laidKinds := [.data, .widerDeep, .pinned], laidTests := true, laidLooks := .later }
def FnTreeBackCardSaid : Prop := Claim7.holds Tryz.pinned (.plain (OpenSpec.ofChange fnTreeBackSpec)) fnTreeBackCard

/-- THE TIED CARD OF 'laws.FnTreeTake'. -/
def fnTreeTakeCard : Claim7 := { stood := { row := fnTreeTakeRow, standIns := [], harness := (true, "aa7a1427f03079db5cea3e29d8da9786196e087a58f7d41393c16dd0882c0c39"), looks := false }, kinds := [], alts := [], laidByText := true, laidKinds := [.data, .widerDeep, .pinned], laidTests := true, laidLooks := .later }
def FnTreeTakeCardSaid : Prop := Claim7.holds Tryz.pinned (.plain (OpenSpec.ofChange fnTreeTakeSpec)) fnTreeTakeCard

/-- THE TIED CARD OF 'laws.FnDiskNone'. -/
def fnDiskNoneCard : Claim7 := { stood := { row := fnDiskNoneRow, standIns := [], harness := (true, "aa7a1427f03079db5cea3e29d8da9786196e087a58f7d41393c16dd0882c0c39"), looks := false }, kinds := [], alts := [], laidByText := true, laidKinds := [.data, .data, .data, .data, .widerDeep, .pinned], laidTests := true, laidLooks := .later }
def FnDiskNoneCardSaid : Prop := Claim7.holds Tryz.pinned (.plain (OpenSpec.ofChange fnDiskNoneSpec)) fnDiskNoneCard

/-- THE SECOND FORM's CARD OF 'laws.FnExactTreeTake'. -/
def fnExactTreeTakeUptoCard : Claim7 := { stood := { row := fnExactTreeTakeUptoRow, standIns := [], harness := (true, "aa7a1427f03079db5cea3e29d8da9786196e087a58f7d41393c16dd0882c0c39"), looks := false }, kinds := [], alts := [], laidByText := true, laidKinds := [.data, .widerDeep, .pinned], laidTests := true, laidLooks := .later }
def FnExactTreeTakeUptoCardSaid : Prop := Claim7.holds Tryz.pinned (.plain (OpenSpec.upto fnExactTreeTakeSpec)) fnExactTreeTakeUptoCard

/-- THE SECOND FORM's CARD OF 'laws.FnZipJoinOne'. -/
def fnZipJoinOneUptoCard : Claim7 := { stood := { row := fnZipJoinOneUptoRow, standIns := [], harness := (true, "aa7a1427f03079db5cea3e29d8da9786196e087a58f7d41393c16dd0882c0c39"), looks := false }, kinds := [], alts := [], laidByText := true, laidKinds := [.data, .widerDeep, .pinned], laidTests := true, laidLooks := .later }
def FnZipJoinOneUptoCardSaid : Prop := Claim7.holds Tryz.pinned (.plain (OpenSpec.upto fnZipJoinOneSpec)) fnZipJoinOneUptoCard

/-- THE SECOND FORM's CARD OF 'laws.FnZipJoin'. -/
def fnZipJoinUptoCard : Claim7 := { stood := { row := fnZipJoinUptoRow, standIns := [], harness := (true, "aa7a1427f03079db5cea3e29d8da9786196e087a58f7d41393c16dd0882c0c39"), looks := false }, kinds := [], alts := [], laidByText := true, laidKinds := [.data, .widerDeep, .pinned], laidTests := true, laidLooks := .later }
def FnZipJoinUptoCardSaid : Prop := Claim7.holds Tryz.pinned (.plain (OpenSpec.upto fnZipJoinSpec)) fnZipJoinUptoCard

/-- THE SECOND FORM's CARD OF 'laws.FnZipDrop'. -/
def fnZipDropUptoCard : Claim7 := { stood := { row := fnZipDropUptoRow, standIns := [], harness := (true, "aa7a1427f03079db5cea3e29d8da9786196e087a58f7d41393c16dd0882c0c39"), looks := false }, kinds := [], alts := [], laidByText := true, laidKinds := [.data, .widerDeep, .pinned], laidTests := true, laidLooks := .later }
def FnZipDropUptoCardSaid : Prop := Claim7.holds Tryz.pinned (.plain (OpenSpec.upto fnZipDropSpec)) fnZipDropUptoCard

/-- THE SECOND FORM's CARD OF 'laws.FnZipMove'. -/
def fnZipMoveUptoCard : Claim7 := { stood := { row := fnZipMoveUptoRow, standIns := [], harness := (true, "aa7a1427f03079db5cea3e29d8da9786196e087a58f7d41393c16dd0882c0c39"), looks := false }, kinds := [], alts := [], laidByText := true, laidKinds := [.data, .widerDeep, .pinned], laidTests := true, laidLooks := .later }
def FnZipMoveUptoCardSaid : Prop := Claim7.holds Tryz.pinned (.plain (OpenSpec.upto fnZipMoveSpec)) fnZipMoveUptoCard

/-- THE SECOND FORM's CARD OF 'laws.FnZipTwice'. -/
def fnZipTwiceUptoCard : Claim7 := { stood := { row := fnZipTwiceUptoRow, standIns := [], harness := (true, "aa7a1427f03079db5cea3e29d8da9786196e087a58f7d41393c16dd0882c0c39"), looks := false }, kinds := [], alts := [], laidByText := true, laidKinds := [.data, .widerDeep, .pinned], laidTests := true, laidLooks := .later }
def FnZipTwiceUptoCardSaid : Prop := Claim7.holds Tryz.pinned (.plain (OpenSpec.upto fnZipTwiceSpec)) fnZipTwiceUptoCard

/-- THE SECOND FORM's CARD OF 'laws.FnZipSwap'. -/
def fnZipSwapUptoCard : Claim7 := { stood := { row := fnZipSwapUptoRow, standIns := [], harness := (true, "aa7a1427f03079db5cea3e29d8da9786196e087a58f7d41393c16dd0882c0c39"), looks := false }, kinds := [], alts := [], laidByText := true, laidKinds := [.data, .widerDeep, .pinned], laidTests := true, laidLooks := .later }
def FnZipSwapUptoCardSaid : Prop := Claim7.holds Tryz.pinned (.plain (OpenSpec.upto fnZipSwapSpec)) fnZipSwapUptoCard

/-- THE SECOND FORM's CARD OF 'laws.FnZipAdd'. -/
def fnZipAddUptoCard : Claim7 := { stood := { row := fnZipAddUptoRow, standIns := [], harness := (true, "aa7a1427f03079db5cea3e29d8da9786196e087a58f7d41393c16dd0882c0c39"), looks := false }, kinds := [], alts := [], laidByText := true, laidKinds := [.data, .widerDeep, .pinned], laidTests := true, laidLooks := .later }
def FnZipAddUptoCardSaid : Prop := Claim7.holds Tryz.pinned (.plain (OpenSpec.upto fnZipAddSpec)) fnZipAddUptoCard

/-- THE SECOND FORM's CARD OF 'laws.FnTreeZip'. -/
def fnTreeZipUptoCard : Claim7 := { stood := { row := fnTreeZipUptoRow, standIns := [], harness := (true, "aa7a1427f03079db5cea3e29d8da9786196e087a58f7d41393c16dd0882c0c39"), looks := false }, kinds := [], alts := [], laidByText := true, laidKinds := [.data, .widerDeep, .pinned], laidTests := true, laidLooks := .later }
def FnTreeZipUptoCardSaid : Prop := Claim7.holds Tryz.pinned (.plain (OpenSpec.upto fnTreeZipSpec)) fnTreeZipUptoCard

/-- THE SECOND FORM's CARD OF 'laws.FnTreeBack'. -/
def fnTreeBackUptoCard : Claim7 := { stood := { row := fnTreeBackUptoRow, standIns := [], harness := (true, "aa7a1427f03079db5cea3e29d8da9786196e087a58f7d41393c16dd0882c0c39"), looks := false }, kinds := [], alts := [], laidByText := true, laidKinds := [.data, .widerDeep, .pinned], laidTests := true, laidLooks := .later }
def FnTreeBackUptoCardSaid : Prop := Claim7.holds Tryz.pinned (.plain (OpenSpec.upto fnTreeBackSpec)) fnTreeBackUptoCard

/-- THE SECOND FORM's CARD OF 'laws.FnTreeTake'. -/
def fnTreeTakeUptoCard : Claim7 := { stood := { row := fnTreeTakeUptoRow, standIns := [], harness := (true, "aa7a1427f03079db5cea3e29d8da9786196e087a58f7d41393c16dd0882c0c39"), looks := false }, kinds := [], alts := [], laidByText := true, laidKinds := [.data, .widerDeep, .pinned], laidTests := true, laidLooks := .later }
def FnTreeTakeUptoCardSaid : Prop := Claim7.holds Tryz.pinned (.plain (OpenSpec.upto fnTreeTakeSpec)) fnTreeTakeUptoCard

/-- THE SECOND FORM's CARD OF 'laws.FnDiskNone'. -/
def fnDiskNoneUptoCard : Claim7 := { stood := { row := fnDiskNoneUptoRow, standIns := [], harness := (true, "aa7a1427f03079db5cea3e29d8da9786196e087a58f7d41393c16dd0882c0c39"), looks := false }, kinds := [], alts := [], laidByText := true, laidKinds := [.data, .data, .data, .data, .widerDeep, .pinned], laidTests := true, laidLooks := .later }
def FnDiskNoneUptoCardSaid : Prop := Claim7.holds Tryz.pinned (.plain (OpenSpec.upto fnDiskNoneSpec)) fnDiskNoneUptoCard
end Rows
end Go.Proofs.YtiphcamiidggcaaGreatDoor
