/-
  DERIVED. GIVEN WITH THE SEED: THE CARDS: each row of YtckgjeigokngiaaGreatDoorRows.lean that lists a variable, with what it lists TIED to the program's text (the seventh form; the later family's looks); each row that meets fmt, with fmt's text TOLD by the authors' own Lean function (tested against real Go, not proved from fmt's source: count such statements apart). THE CARD IS WHAT COUNTS. Prove the row's statement (the work); the ties are given (YtckgjeigokngiaaGreatDoorTie.lean); close each card by the builder's one call (the guide's Derived/Test/ToyasCard.lean, 'card_holds'). Laid BY PROGRAM, IN A SANDBOX (cutbox-door.mjs). By AI agents, Wed Nov 11 2026. No macro, syntax, notation, axiom, sorry.
-/
import Derived.Test.YtckgjeigokngiaaGreatDoorRows
import GoSem.ClaimSeven
namespace Go.Proofs.YtckgjeigokngiaaGreatDoor
namespace Rows

/-- THE TIED CARD OF 'laws.FnZipNone'. -/
def fnZipNoneCard : Claim7 := { stood := { row := fnZipNoneRow, standIns := [], harness := (true, "afe4863839049d3dc9f5e55638e202679faea2ca5d9b900cc5ae0fff8d4cd301"), looks := false }, kinds := [], alts := [], laidByText := true, laidKinds := [.data, .widerDeep, .pinned], laidTests := true, laidLooks := .later }
def FnZipNoneCardSaid : Prop := Claim7.holds Tryz.pinned (.plain (OpenSpec.ofChange fnZipNoneSpec)) fnZipNoneCard

/-- THE TIED CARD OF 'laws.FnExactDiskOk'. -/
def fnExactDiskOkCard : Claim7 := { stood := { row := fnExactDiskOkRow, standIns := [], harness := (true, "afe4863839049d3dc9f5e55638e202679faea2ca5d9b900cc5ae0fff8d4cd301"), looks := false }, kinds := [], alts := [], laidByText := true, laidKinds := [.data, .widerDeep, .pinned], laidTests := true, laidLooks := .later }
def FnExactDiskOkCardSaid : Prop := Claim7.holds Tryz.pinned (.plain (OpenSpec.ofChange fnExactDiskOkSpec)) fnExactDiskOkCard

/-- THE TIED CARD OF 'laws.FnZipUnder'. -/
def fnZipUnderCard : Claim7 := { stood := { row := fnZipUnderRow, standIns := [], harness := (true, "afe4863839049d3dc9f5e55638e202679faea2ca5d9b900cc5ae0fff8d4cd301"), looks := false }, kinds := [], alts := [], laidByText := true, laidKinds := [.data, .widerDeep, .pinned], laidTests := true, laidLooks := .later }
def FnZipUnderCardSaid : Prop := Claim7.holds Tryz.pinned (.plain (OpenSpec.ofChange fnZipUnderSpec)) fnZipUnderCard

/-- THE TIED CARD OF 'laws.FnZipFull'. -/
def fnZipFullCard : Claim7 := { stood := { row := fnZipFullRow, standIns := [], harness := (true, "afe4863839049d3dc9f5e55638e202679faea2ca5d9b900cc5ae0fff8d4cd301"), looks := false }, kinds := [], alts := [], laidByText := true, laidKinds := [.data, .widerDeep, .pinned], laidTests := true, laidLooks := .later }
def FnZipFullCardSaid : Prop := Claim7.holds Tryz.pinned (.plain (OpenSpec.ofChange fnZipFullSpec)) fnZipFullCard

/-- THE TIED CARD OF 'laws.FnSessionLong'. -/
def fnSessionLongCard : Claim7 := { stood := { row := fnSessionLongRow, standIns := [], harness := (true, "afe4863839049d3dc9f5e55638e202679faea2ca5d9b900cc5ae0fff8d4cd301"), looks := false }, kinds := [], alts := [], laidByText := true, laidKinds := [.data, .data, .data, .data, .data, .data, .data, .widerDeep, .pinned], laidTests := true, laidLooks := .later }
def FnSessionLongCardSaid : Prop := Claim7.holds Tryz.pinned (.plain (OpenSpec.ofChange fnSessionLongSpec)) fnSessionLongCard

/-- THE TIED CARD OF 'laws.FnZipJoinSelf'. -/
def fnZipJoinSelfCard : Claim7 := { stood := { row := fnZipJoinSelfRow, standIns := [], harness := (true, "afe4863839049d3dc9f5e55638e202679faea2ca5d9b900cc5ae0fff8d4cd301"), looks := false }, kinds := [], alts := [], laidByText := true, laidKinds := [.data, .widerDeep, .pinned], laidTests := true, laidLooks := .later }
def FnZipJoinSelfCardSaid : Prop := Claim7.holds Tryz.pinned (.plain (OpenSpec.ofChange fnZipJoinSelfSpec)) fnZipJoinSelfCard

/-- THE TIED CARD OF 'laws.FnZipMoveSame'. -/
def fnZipMoveSameCard : Claim7 := { stood := { row := fnZipMoveSameRow, standIns := [], harness := (true, "afe4863839049d3dc9f5e55638e202679faea2ca5d9b900cc5ae0fff8d4cd301"), looks := false }, kinds := [], alts := [], laidByText := true, laidKinds := [.data, .widerDeep, .pinned], laidTests := true, laidLooks := .later }
def FnZipMoveSameCardSaid : Prop := Claim7.holds Tryz.pinned (.plain (OpenSpec.ofChange fnZipMoveSameSpec)) fnZipMoveSameCard

/-- THE TIED CARD OF 'laws.FnZipDropAll'. -/
def fnZipDropAllCard : Claim7 := { stood := { row := fnZipDropAllRow, standIns := [], harness := (true, "afe4863839049d3dc9f5e55638e202679faea2ca5d9b900cc5ae0fff8d4cd301"), looks := false }, kinds := [], alts := [], laidByText := true, laidKinds := [.data, .widerDeep, .pinned], laidTests := true, laidLooks := .later }
def FnZipDropAllCardSaid : Prop := Claim7.holds Tryz.pinned (.plain (OpenSpec.ofChange fnZipDropAllSpec)) fnZipDropAllCard

/-- THE TIED CARD OF 'laws.FnExactTreeZip'. -/
def fnExactTreeZipCard : Claim7 := { stood := { row := fnExactTreeZipRow, standIns := [], harness := (true, "afe4863839049d3dc9f5e55638e202679faea2ca5d9b900cc5ae0fff8d4cd301"), looks := false }, kinds := [], alts := [], laidByText := true, laidKinds := [.data, .widerDeep, .pinned], laidTests := true, laidLooks := .later }
def FnExactTreeZipCardSaid : Prop := Claim7.holds Tryz.pinned (.plain (OpenSpec.ofChange fnExactTreeZipSpec)) fnExactTreeZipCard

/-- THE TIED CARD OF 'laws.FnExactZipPut'. -/
def fnExactZipPutCard : Claim7 := { stood := { row := fnExactZipPutRow, standIns := [], harness := (true, "afe4863839049d3dc9f5e55638e202679faea2ca5d9b900cc5ae0fff8d4cd301"), looks := false }, kinds := [], alts := [], laidByText := true, laidKinds := [.data, .widerDeep, .pinned], laidTests := true, laidLooks := .later }
def FnExactZipPutCardSaid : Prop := Claim7.holds Tryz.pinned (.plain (OpenSpec.ofChange fnExactZipPutSpec)) fnExactZipPutCard

/-- THE TIED CARD OF 'laws.FnSessionLook'. -/
def fnSessionLookCard : Claim7 := { stood := { row := fnSessionLookRow, standIns := [], harness := (true, "afe4863839049d3dc9f5e55638e202679faea2ca5d9b900cc5ae0fff8d4cd301"), looks := false }, kinds := [], alts := [], laidByText := true, laidKinds := [.data, .data, .data, .data, .data, .data, .data, .widerDeep, .pinned], laidTests := true, laidLooks := .later }
def FnSessionLookCardSaid : Prop := Claim7.holds Tryz.pinned (.plain (OpenSpec.ofChange fnSessionLookSpec)) fnSessionLookCard

/-- THE TIED CARD OF 'laws.FnExactDiskNew'. -/
def fnExactDiskNewCard : Claim7 := { stood := { row := fnExactDiskNewRow, standIns := [], harness := (true, "afe4863839049d3dc9f5e55638e202679faea2ca5d9b900cc5ae0fff8d4cd301"), looks := false }, kinds := [], alts := [], laidByText := true, laidKinds := [.data, .widerDeep, .pinned], laidTests := true, laidLooks := .later }
def FnExactDiskNewCardSaid : Prop := Claim7.holds Tryz.pinned (.plain (OpenSpec.ofChange fnExactDiskNewSpec)) fnExactDiskNewCard

/-- THE SECOND FORM's CARD OF 'laws.FnZipNone'. -/
def fnZipNoneUptoCard : Claim7 := { stood := { row := fnZipNoneUptoRow, standIns := [], harness := (true, "afe4863839049d3dc9f5e55638e202679faea2ca5d9b900cc5ae0fff8d4cd301"), looks := false }, kinds := [], alts := [], laidByText := true, laidKinds := [.data, .widerDeep, .pinned], laidTests := true, laidLooks := .later }
def FnZipNoneUptoCardSaid : Prop := Claim7.holds Tryz.pinned (.plain (OpenSpec.upto fnZipNoneSpec)) fnZipNoneUptoCard

/-- THE SECOND FORM's CARD OF 'laws.FnExactDiskOk'. -/
def fnExactDiskOkUptoCard : Claim7 := { stood := { row := fnExactDiskOkUptoRow, standIns := [], harness := (true, "afe4863839049d3dc9f5e55638e202679faea2ca5d9b900cc5ae0fff8d4cd301"), looks := false }, kinds := [], alts := [], laidByText := true, laidKinds := [.data, .widerDeep, .pinned], laidTests := true, laidLooks := .later }
def FnExactDiskOkUptoCardSaid : Prop := Claim7.holds Tryz.pinned (.plain (OpenSpec.upto fnExactDiskOkSpec)) fnExactDiskOkUptoCard

/-- THE SECOND FORM's CARD OF 'laws.FnZipUnder'. -/
def fnZipUnderUptoCard : Claim7 := { stood := { row := fnZipUnderUptoRow, standIns := [], harness := (true, "afe4863839049d3dc9f5e55638e202679faea2ca5d9b900cc5ae0fff8d4cd301"), looks := false }, kinds := [], alts := [], laidByText := true, laidKinds := [.data, .widerDeep, .pinned], laidTests := true, laidLooks := .later }
def FnZipUnderUptoCardSaid : Prop := Claim7.holds Tryz.pinned (.plain (OpenSpec.upto fnZipUnderSpec)) fnZipUnderUptoCard

/-- THE SECOND FORM's CARD OF 'laws.FnZipFull'. -/
def fnZipFullUptoCard : Claim7 := { stood := { row := fnZipFullUptoRow, standIns := [], harness := (true, "afe4863839049d3dc9f5e55638e202679faea2ca5d9b900cc5ae0fff8d4cd301"), looks := false }, kinds := [], alts := [], laidByText := true, laidKinds := [.data, .widerDeep, .pinned], laidTests := true, laidLooks := .later }
def FnZipFullUptoCardSaid : Prop := Claim7.holds Tryz.pinned (.plain (OpenSpec.upto fnZipFullSpec)) fnZipFullUptoCard

/-- THE SECOND FORM's CARD OF 'laws.FnSessionLong'. -/
def fnSessionLongUptoCard : Claim7 := { stood := { row := fnSessionLongUptoRow, standIns := [], harness := (true, "afe4863839049d3dc9f5e55638e202679faea2ca5d9b900cc5ae0fff8d4cd301"), looks := false }, kinds := [], alts := [], laidByText := true, laidKinds := [.data, .data, .data, .data, .data, .data, .data, .widerDeep, .pinned], laidTests := true, laidLooks := .later }
def FnSessionLongUptoCardSaid : Prop := Claim7.holds Tryz.pinned (.plain (OpenSpec.upto fnSessionLongSpec)) fnSessionLongUptoCard

/-- THE SECOND FORM's CARD OF 'laws.FnZipJoinSelf'. -/
def fnZipJoinSelfUptoCard : Claim7 := { stood := { row := fnZipJoinSelfUptoRow, standIns := [], harness := (true, "afe4863839049d3dc9f5e55638e202679faea2ca5d9b900cc5ae0fff8d4cd301"), looks := false }, kinds := [], alts := [], laidByText := true, laidKinds := [.data, .widerDeep, .pinned], laidTests := true, laidLooks := .later }
def FnZipJoinSelfUptoCardSaid : Prop := Claim7.holds Tryz.pinned (.plain (OpenSpec.upto fnZipJoinSelfSpec)) fnZipJoinSelfUptoCard

/-- THE SECOND FORM's CARD OF 'laws.FnZipMoveSame'. -/
def fnZipMoveSameUptoCard : Claim7 := { stood := { row := fnZipMoveSameUptoRow, standIns := [], harness := (true, "afe4863839049d3dc9f5e55638e202679faea2ca5d9b900cc5ae0fff8d4cd301"), looks := false }, kinds := [], alts := [], laidByText := true, laidKinds := [.data, .widerDeep, .pinned], laidTests := true, laidLooks := .later }
def FnZipMoveSameUptoCardSaid : Prop := Claim7.holds Tryz.pinned (.plain (OpenSpec.upto fnZipMoveSameSpec)) fnZipMoveSameUptoCard

/-- THE SECOND FORM's CARD OF 'laws.FnZipDropAll'. -/
def fnZipDropAllUptoCard : Claim7 := { stood := { row := fnZipDropAllUptoRow, standIns := [], harness := (true, "afe4863839049d3dc9f5e55638e202679faea2ca5d9b900cc5ae0fff8d4cd301"), looks := false }, kinds := [], alts := [], laidByText := true, laidKinds := [.data, .widerDeep, .pinned], laidTests := true, laidLooks := .later }
def FnZipDropAllUptoCardSaid : Prop := Claim7.holds Tryz.pinned (.plain (OpenSpec.upto fnZipDropAllSpec)) fnZipDropAllUptoCard

/-- THE SECOND FORM's CARD OF 'laws.FnExactTreeZip'. -/
def fnExactTreeZipUptoCard : Claim7 := { stood := { row := fnExactTreeZipUptoRow, standIns := [], harness := (true, "afe4863839049d3dc9f5e55638e202679faea2ca5d9b900cc5ae0fff8d4cd301"), looks := false }, kinds := [], alts := [], laidByText := true, laidKinds := [.data, .widerDeep, .pinned], laidTests := true, laidLooks := .later }
def FnExactTreeZipUptoCardSaid : Prop := Claim7.holds Tryz.pinned (.plain (OpenSpec.upto fnExactTreeZipSpec)) fnExactTreeZipUptoCard

/-- THE SECOND FORM's CARD OF 'laws.FnExactZipPut'. -/
def fnExactZipPutUptoCard : Claim7 := { stood := { row := fnExactZipPutUptoRow, standIns := [], harness := (true, "afe4863839049d3dc9f5e55638e202679faea2ca5d9b900cc5ae0fff8d4cd301"), looks := false }, kinds := [], alts := [], laidByText := true, laidKinds := [.data, .widerDeep, .pinned], laidTests := true, laidLooks := .later }
def FnExactZipPutUptoCardSaid : Prop := Claim7.holds Tryz.pinned (.plain (OpenSpec.upto fnExactZipPutSpec)) fnExactZipPutUptoCard

/-- THE SECOND FORM's CARD OF 'laws.FnSessionLook'. -/
def fnSessionLookUptoCard : Claim7 := { stood := { row := fnSessionLookUptoRow, standIns := [], harness := (true, "afe4863839049d3dc9f5e55638e202679faea2ca5d9b900cc5ae0fff8d4cd301"), looks := false }, kinds := [], alts := [], laidByText := true, laidKinds := [.data, .data, .data, .data, .data, .data, .data, .widerDeep, .pinned], laidTests := true, laidLooks := .later }
def FnSessionLookUptoCardSaid : Prop := Claim7.holds Tryz.pinned (.plain (OpenSpec.upto fnSessionLookSpec)) fnSessionLookUptoCard

/-- THE SECOND FORM's CARD OF 'laws.FnExactDiskNew'. -/
def fnExactDiskNewUptoCard : Claim7 := { stood := { row := fnExactDiskNewUptoRow, standIns := [], harness := (true, "afe4863839049d3dc9f5e55638e202679faea2ca5d9b900cc5ae0fff8d4cd301"), looks := false }, kinds := [], alts := [], laidByText := true, laidKinds := [.data, .widerDeep, .pinned], laidTests := true, laidLooks := .later }
def FnExactDiskNewUptoCardSaid : Prop := Claim7.holds Tryz.pinned (.plain (OpenSpec.upto fnExactDiskNewSpec)) fnExactDiskNewUptoCard
end Rows
end Go.Proofs.YtckgjeigokngiaaGreatDoor
