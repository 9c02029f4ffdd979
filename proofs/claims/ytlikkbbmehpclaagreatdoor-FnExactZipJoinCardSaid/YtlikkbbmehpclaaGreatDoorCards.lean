/-
  DERIVED. GIVEN WITH THE SEED: THE CARDS: each row of YtlikkbbmehpclaaGreatDoorRows.lean that lists a variable, with what it lists TIED to the program's text (the seventh form; the later family's looks); each row that meets fmt, with fmt's text TOLD by the authors' own Lean function (tested against real Go, not proved from fmt's source: count such statements apart). THE CARD IS WHAT COUNTS. Prove the row's statement (the work); the ties are given (YtlikkbbmehpclaaGreatDoorTie.lean); close each card by the builder's one call (the guide's Derived/Test/ToyasCard.lean, 'card_holds'). Laid BY PROGRAM, IN A SANDBOX (cutbox-door.mjs). By AI agents, Wed Nov 11 2026. No macro, syntax, notation, axiom, sorry.
-/
import Derived.Test.YtlikkbbmehpclaaGreatDoorRows
import GoSem.ClaimSeven
namespace Go.Proofs.YtlikkbbmehpclaaGreatDoor
namespace Rows

/-- THE TIED CARD OF 'laws.FnZip'. -/
def fnZipCard : Claim7 := { stood := { row := fnZipRow, standIns := [], harness := (true, "4e2fd618442085843cce66f455f203ea7553e98b67ebc681d0de4153a66fd22b"), looks := false }, kinds := [], alts := [], laidByText := true, laidKinds := [.data, .widerDeep, .pinned], laidTests := true, laidLooks := .later }
def FnZipCardSaid : Prop := Claim7.holds Tryz.pinned (.plain (OpenSpec.ofChange fnZipSpec)) fnZipCard

/-- THE TIED CARD OF 'laws.FnExactTreeTake'. -/
def fnExactTreeTakeCard : Claim7 := { stood := { row := fnExactTreeTakeRow, standIns := [], harness := (true, "4e2fd618442085843cce66f455f203ea7553e98b67ebc681d0de4153a66fd22b"), looks := false }, kinds := [], alts := [], laidByText := true, laidKinds := [.data, .widerDeep, .pinned], laidTests := true, laidLooks := .later }
def FnExactTreeTakeCardSaid : Prop := Claim7.holds Tryz.pinned (.plain (OpenSpec.ofChange fnExactTreeTakeSpec)) fnExactTreeTakeCard

/-- THE TIED CARD OF 'laws.FnExactZipDrop'. -/
def fnExactZipDropCard : Claim7 := { stood := { row := fnExactZipDropRow, standIns := [], harness := (true, "4e2fd618442085843cce66f455f203ea7553e98b67ebc681d0de4153a66fd22b"), looks := false }, kinds := [], alts := [], laidByText := true, laidKinds := [.data, .widerDeep, .pinned], laidTests := true, laidLooks := .later }
def FnExactZipDropCardSaid : Prop := Claim7.holds Tryz.pinned (.plain (OpenSpec.ofChange fnExactZipDropSpec)) fnExactZipDropCard

/-- THE TIED CARD OF 'laws.FnDiskOver'. -/
def fnDiskOverCard : Claim7 := { stood := { row := fnDiskOverRow, standIns := [], harness := (true, "4e2fd618442085843cce66f455f203ea7553e98b67ebc681d0de4153a66fd22b"), looks := false }, kinds := [], alts := [], laidByText := true, laidKinds := [.data, .data, .data, .data, .widerDeep, .pinned], laidTests := true, laidLooks := .later }
def FnDiskOverCardSaid : Prop := Claim7.holds Tryz.pinned (.plain (OpenSpec.ofChange fnDiskOverSpec)) fnDiskOverCard

/-- THE TIED CARD OF 'laws.FnDiskTear'. -/
def fnDiskTearCard : Claim7 := { stood := { row := fnDiskTearRow, standIns := [], harness := (true, "4e2fd618442085843cce66f455f203ea7553e98b67ebc681d0de4153a66fd22b"), looks := false }, kinds := [], alts := [], laidByText := true, laidKinds := [.data, .data, .data, .data, .widerDeep, .pinned], laidTests := true, laidLooks := .later }
def FnDiskTearCardSaid : Prop := Claim7.holds Tryz.pinned (.plain (OpenSpec.ofChange fnDiskTearSpec)) fnDiskTearCard

/-- THE TIED CARD OF 'laws.FnExactZipMove'. -/
def fnExactZipMoveCard : Claim7 := { stood := { row := fnExactZipMoveRow, standIns := [], harness := (true, "4e2fd618442085843cce66f455f203ea7553e98b67ebc681d0de4153a66fd22b"), looks := false }, kinds := [], alts := [], laidByText := true, laidKinds := [.data, .widerDeep, .pinned], laidTests := true, laidLooks := .later }
def FnExactZipMoveCardSaid : Prop := Claim7.holds Tryz.pinned (.plain (OpenSpec.ofChange fnExactZipMoveSpec)) fnExactZipMoveCard

/-- THE TIED CARD OF 'laws.FnExactZipJoin'. -/
def fnExactZipJoinCard : Claim7 := { stood := { row := fnExactZipJoinRow, standIns := [], harness := (true, "4e2fd618442085843cce66f455f203ea7553e98b67ebc681d0de4153a66fd22b"), looks := false }, kinds := [], alts := [], laidByText := true, laidKinds := [.data, .widerDeep, .pinned], laidTests := true, laidLooks := .later }
def FnExactZipJoinCardSaid : Prop := Claim7.holds Tryz.pinned (.plain (OpenSpec.ofChange fnExactZipJoinSpec)) fnExactZipJoinCard

/-- THE TIED CARD OF 'laws.FnExactZipSwap'. -/
def fnExactZipSwapCard : Claim7 := { stood := { row := fnExactZipSwapRow, standIns := [], harness := (true, "4e2fd618442085843cce66f455f203ea7553e98b67ebc681d0de4153a66fd22b"), looks := false }, kinds := [], alts := [], laidByText := true, laidKinds := [.data, .widerDeep, .pinned], laidTests := true, laidLooks := .later }
def FnExactZipSwapCardSaid : Prop := Claim7.holds Tryz.pinned (.plain (OpenSpec.ofChange fnExactZipSwapSpec)) fnExactZipSwapCard

/-- THE TIED CARD OF 'laws.FnExactZipAdd'. -/
def fnExactZipAddCard : Claim7 := { stood := { row := fnExactZipAddRow, standIns := [], harness := (true, "4e2fd618442085843cce66f455f203ea7553e98b67ebc681d0de4153a66fd22b"), looks := false }, kinds := [], alts := [], laidByText := true, laidKinds := [.data, .widerDeep, .pinned], laidTests := true, laidLooks := .later }
def FnExactZipAddCardSaid : Prop := Claim7.holds Tryz.pinned (.plain (OpenSpec.ofChange fnExactZipAddSpec)) fnExactZipAddCard

/-- THE TIED CARD OF 'laws.FnDiskRise'. -/
def fnDiskRiseCard : Claim7 := { stood := { row := fnDiskRiseRow, standIns := [], harness := (true, "4e2fd618442085843cce66f455f203ea7553e98b67ebc681d0de4153a66fd22b"), looks := false }, kinds := [], alts := [], laidByText := true, laidKinds := [.data, .data, .data, .data, .widerDeep, .pinned], laidTests := true, laidLooks := .later }
def FnDiskRiseCardSaid : Prop := Claim7.holds Tryz.pinned (.plain (OpenSpec.ofChange fnDiskRiseSpec)) fnDiskRiseCard

/-- THE TIED CARD OF 'laws.FnDiskNew'. -/
def fnDiskNewCard : Claim7 := { stood := { row := fnDiskNewRow, standIns := [], harness := (true, "4e2fd618442085843cce66f455f203ea7553e98b67ebc681d0de4153a66fd22b"), looks := false }, kinds := [], alts := [], laidByText := true, laidKinds := [.data, .data, .data, .data, .widerDeep, .pinned], laidTests := true, laidLooks := .later }
def FnDiskNewCardSaid : Prop := Claim7.holds Tryz.pinned (.plain (OpenSpec.ofChange fnDiskNewSpec)) fnDiskNewCard

/-- THE TIED CARD OF 'laws.FnZipGet'. -/
def fnZipGetCard : Claim7 := { stood := { row := fnZipGetRow, standIns := [], harness := (true, "4e2fd618442085843cce66f455f203ea7553e98b67ebc681d0de4153a66fd22b"), looks := false }, kinds := [], alts := [], laidByText := true, laidKinds := [.data, .widerDeep, .pinned], laidTests := true, laidLooks := .later }
def FnZipGetCardSaid : Prop := Claim7.holds Tryz.pinned (.plain (OpenSpec.ofChange fnZipGetSpec)) fnZipGetCard

/-- THE SECOND FORM's CARD OF 'laws.FnZip'. -/
def fnZipUptoCard : Claim7 := { stood := { row := fnZipUptoRow, standIns := [], harness := (true, "4e2fd618442085843cce66f455f203ea7553e98b67ebc681d0de4153a66fd22b"), looks := false }, kinds := [], alts := [], laidByText := true, laidKinds := [.data, .widerDeep, .pinned], laidTests := true, laidLooks := .later }
def FnZipUptoCardSaid : Prop := Claim7.holds Tryz.pinned (.plain (OpenSpec.upto fnZipSpec)) fnZipUptoCard

/-- THE SECOND FORM's CARD OF 'laws.FnExactTreeTake'. -/
def fnExactTreeTakeUptoCard : Claim7 := { stood := { row := fnExactTreeTakeUptoRow, standIns := [], harness := (true, "4e2fd618442085843cce66f455f203ea7553e98b67ebc681d0de4153a66fd22b"), looks := false }, kinds := [], alts := [], laidByText := true, laidKinds := [.data, .widerDeep, .pinned], laidTests := true, laidLooks := .later }
def FnExactTreeTakeUptoCardSaid : Prop := Claim7.holds Tryz.pinned (.plain (OpenSpec.upto fnExactTreeTakeSpec)) fnExactTreeTakeUptoCard

/-- THE SECOND FORM's CARD OF 'laws.FnExactZipDrop'. -/
def fnExactZipDropUptoCard : Claim7 := { stood := { row := fnExactZipDropUptoRow, standIns := [], harness := (true, "4e2fd618442085843cce66f455f203ea7553e98b67ebc681d0de4153a66fd22b"), looks := false }, kinds := [], alts := [], laidByText := true, laidKinds := [.data, .widerDeep, .pinned], laidTests := true, laidLooks := .later }
def FnExactZipDropUptoCardSaid : Prop := Claim7.holds Tryz.pinned (.plain (OpenSpec.upto fnExactZipDropSpec)) fnExactZipDropUptoCard

/-- THE SECOND FORM's CARD OF 'laws.FnDiskOver'. -/
def fnDiskOverUptoCard : Claim7 := { stood := { row := fnDiskOverUptoRow, standIns := [], harness := (true, "4e2fd618442085843cce66f455f203ea7553e98b67ebc681d0de4153a66fd22b"), looks := false }, kinds := [], alts := [], laidByText := true, laidKinds := [.data, .data, .data, .data, .widerDeep, .pinned], laidTests := true, laidLooks := .later }
def FnDiskOverUptoCardSaid : Prop := Claim7.holds Tryz.pinned (.plain (OpenSpec.upto fnDiskOverSpec)) fnDiskOverUptoCard

/-- THE SECOND FORM's CARD OF 'laws.FnDiskTear'. -/
def fnDiskTearUptoCard : Claim7 := { stood := { row := fnDiskTearUptoRow, standIns := [], harness := (true, "4e2fd618442085843cce66f455f203ea7553e98b67ebc681d0de4153a66fd22b"), looks := false }, kinds := [], alts := [], laidByText := true, laidKinds := [.data, .data, .data, .data, .widerDeep, .pinned], laidTests := true, laidLooks := .later }
def FnDiskTearUptoCardSaid : Prop := Claim7.holds Tryz.pinned (.plain (OpenSpec.upto fnDiskTearSpec)) fnDiskTearUptoCard

/-- THE SECOND FORM's CARD OF 'laws.FnExactZipMove'. -/
def fnExactZipMoveUptoCard : Claim7 := { stood := { row := fnExactZipMoveUptoRow, standIns := [], harness := (true, "4e2fd618442085843cce66f455f203ea7553e98b67ebc681d0de4153a66fd22b"), looks := false }, kinds := [], alts := [], laidByText := true, laidKinds := [.data, .widerDeep, .pinned], laidTests := true, laidLooks := .later }
def FnExactZipMoveUptoCardSaid : Prop := Claim7.holds Tryz.pinned (.plain (OpenSpec.upto fnExactZipMoveSpec)) fnExactZipMoveUptoCard

/-- THE SECOND FORM's CARD OF 'laws.FnExactZipJoin'. -/
def fnExactZipJoinUptoCard : Claim7 := { stood := { row := fnExactZipJoinUptoRow, standIns := [], harness := (true, "4e2fd618442085843cce66f455f203ea7553e98b67ebc681d0de4153a66fd22b"), looks := false }, kinds := [], alts := [], laidByText := true, laidKinds := [.data, .widerDeep, .pinned], laidTests := true, laidLooks := .later }
def FnExactZipJoinUptoCardSaid : Prop := Claim7.holds Tryz.pinned (.plain (OpenSpec.upto fnExactZipJoinSpec)) fnExactZipJoinUptoCard

/-- THE SECOND FORM's CARD OF 'laws.FnExactZipSwap'. -/
def fnExactZipSwapUptoCard : Claim7 := { stood := { row := fnExactZipSwapUptoRow, standIns := [], harness := (true, "4e2fd618442085843cce66f455f203ea7553e98b67ebc681d0de4153a66fd22b"), looks := false }, kinds := [], alts := [], laidByText := true, laidKinds := [.data, .widerDeep, .pinned], laidTests := true, laidLooks := .later }
def FnExactZipSwapUptoCardSaid : Prop := Claim7.holds Tryz.pinned (.plain (OpenSpec.upto fnExactZipSwapSpec)) fnExactZipSwapUptoCard

/-- THE SECOND FORM's CARD OF 'laws.FnExactZipAdd'. -/
def fnExactZipAddUptoCard : Claim7 := { stood := { row := fnExactZipAddUptoRow, standIns := [], harness := (true, "4e2fd618442085843cce66f455f203ea7553e98b67ebc681d0de4153a66fd22b"), looks := false }, kinds := [], alts := [], laidByText := true, laidKinds := [.data, .widerDeep, .pinned], laidTests := true, laidLooks := .later }
def FnExactZipAddUptoCardSaid : Prop := Claim7.holds Tryz.pinned (.plain (OpenSpec.upto fnExactZipAddSpec)) fnExactZipAddUptoCard

/-- THE SECOND FORM's CARD OF 'laws.FnDiskRise'. -/
def fnDiskRiseUptoCard : Claim7 := { stood := { row := fnDiskRiseUptoRow, standIns := [], harness := (true, "4e2fd618442085843cce66f455f203ea7553e98b67ebc681d0de4153a66fd22b"), looks := false }, kinds := [], alts := [], laidByText := true, laidKinds := [.data, .data, .data, .data, .widerDeep, .pinned], laidTests := true, laidLooks := .later }
def FnDiskRiseUptoCardSaid : Prop := Claim7.holds Tryz.pinned (.plain (OpenSpec.upto fnDiskRiseSpec)) fnDiskRiseUptoCard

/-- THE SECOND FORM's CARD OF 'laws.FnDiskNew'. -/
def fnDiskNewUptoCard : Claim7 := { stood := { row := fnDiskNewUptoRow, standIns := [], harness := (true, "4e2fd618442085843cce66f455f203ea7553e98b67ebc681d0de4153a66fd22b"), looks := false }, kinds := [], alts := [], laidByText := true, laidKinds := [.data, .data, .data, .data, .widerDeep, .pinned], laidTests := true, laidLooks := .later }
def FnDiskNewUptoCardSaid : Prop := Claim7.holds Tryz.pinned (.plain (OpenSpec.upto fnDiskNewSpec)) fnDiskNewUptoCard

/-- THE SECOND FORM's CARD OF 'laws.FnZipGet'. -/
def fnZipGetUptoCard : Claim7 := { stood := { row := fnZipGetUptoRow, standIns := [], harness := (true, "4e2fd618442085843cce66f455f203ea7553e98b67ebc681d0de4153a66fd22b"), looks := false }, kinds := [], alts := [], laidByText := true, laidKinds := [.data, .widerDeep, .pinned], laidTests := true, laidLooks := .later }
def FnZipGetUptoCardSaid : Prop := Claim7.holds Tryz.pinned (.plain (OpenSpec.upto fnZipGetSpec)) fnZipGetUptoCard
end Rows
end Go.Proofs.YtlikkbbmehpclaaGreatDoor
