/-
  DERIVED. GIVEN WITH THE SEED: THE CARDS: each row of YtadeffpcedlalaaGreatDoorRows.lean that lists a variable, with what it lists TIED to the program's text (the seventh form; the later family's looks); each row that meets fmt, with fmt's text TOLD by the authors' own Lean function (tested against real Go, not proved from fmt's source: count such statements apart). THE CARD IS WHAT COUNTS. Prove the row's statement (the work); the ties are given (YtadeffpcedlalaaGreatDoorTie.lean); close each card by the builder's one call (the guide's Derived/Test/ToyasCard.lean, 'card_holds'). Laid BY PROGRAM, IN A SANDBOX (cutbox-door.mjs). By AI agents, Wed Nov 11 2026. No macro, syntax, notation, axiom, sorry.
-/
import Derived.Test.YtadeffpcedlalaaGreatDoorRows
import GoSem.ClaimSeven
namespace Go.Proofs.YtadeffpcedlalaaGreatDoor
namespace Rows

/-- THE TIED CARD OF 'laws.FnTreeUnder'. -/
def fnTreeUnderCard : Claim7 := { stood := { row := fnTreeUnderRow, standIns := [], harness := (true, "f140fde393fad7354b61e8b57297980d94886fc49d696616f7d8989a063c4caf"), looks := false }, kinds := [], alts := [], laidByText := true, laidKinds := [.data, .widerDeep, .pinned], laidTests := true, laidLooks := .later }
def FnTreeUnderCardSaid : Prop := Claim7.holds Tryz.pinned (.plain (OpenSpec.ofChange fnTreeUnderSpec)) fnTreeUnderCard

/-- THE TIED CARD OF 'laws.FnTreeNone'. -/
def fnTreeNoneCard : Claim7 := { stood := { row := fnTreeNoneRow, standIns := [], harness := (true, "f140fde393fad7354b61e8b57297980d94886fc49d696616f7d8989a063c4caf"), looks := false }, kinds := [], alts := [], laidByText := true, laidKinds := [.data, .widerDeep, .pinned], laidTests := true, laidLooks := .later }
def FnTreeNoneCardSaid : Prop := Claim7.holds Tryz.pinned (.plain (OpenSpec.ofChange fnTreeNoneSpec)) fnTreeNoneCard

/-- THE TIED CARD OF 'laws.FnZipOrder'. -/
def fnZipOrderCard : Claim7 := { stood := { row := fnZipOrderRow, standIns := [], harness := (true, "f140fde393fad7354b61e8b57297980d94886fc49d696616f7d8989a063c4caf"), looks := false }, kinds := [], alts := [], laidByText := true, laidKinds := [.data, .widerDeep, .pinned], laidTests := true, laidLooks := .later }
def FnZipOrderCardSaid : Prop := Claim7.holds Tryz.pinned (.plain (OpenSpec.ofChange fnZipOrderSpec)) fnZipOrderCard

/-- THE TIED CARD OF 'laws.FnLocalGet'. -/
def fnLocalGetCard : Claim7 := { stood := { row := fnLocalGetRow, standIns := [], harness := (true, "f140fde393fad7354b61e8b57297980d94886fc49d696616f7d8989a063c4caf"), looks := false }, kinds := [], alts := [], laidByText := true, laidKinds := [.data, .widerDeep, .pinned], laidTests := true, laidLooks := .later }
def FnLocalGetCardSaid : Prop := Claim7.holds Tryz.pinned (.plain (OpenSpec.ofChange fnLocalGetSpec)) fnLocalGetCard

/-- THE TIED CARD OF 'laws.FnZipCut'. -/
def fnZipCutCard : Claim7 := { stood := { row := fnZipCutRow, standIns := [], harness := (true, "f140fde393fad7354b61e8b57297980d94886fc49d696616f7d8989a063c4caf"), looks := false }, kinds := [], alts := [], laidByText := true, laidKinds := [.data, .widerDeep, .pinned], laidTests := true, laidLooks := .later }
def FnZipCutCardSaid : Prop := Claim7.holds Tryz.pinned (.plain (OpenSpec.ofChange fnZipCutSpec)) fnZipCutCard

/-- THE TIED CARD OF 'laws.FnZipHeads'. -/
def fnZipHeadsCard : Claim7 := { stood := { row := fnZipHeadsRow, standIns := [], harness := (true, "f140fde393fad7354b61e8b57297980d94886fc49d696616f7d8989a063c4caf"), looks := false }, kinds := [], alts := [], laidByText := true, laidKinds := [.data, .widerDeep, .pinned], laidTests := true, laidLooks := .later }
def FnZipHeadsCardSaid : Prop := Claim7.holds Tryz.pinned (.plain (OpenSpec.ofChange fnZipHeadsSpec)) fnZipHeadsCard

/-- THE TIED CARD OF 'laws.FnZip'. -/
def fnZipCard : Claim7 := { stood := { row := fnZipRow, standIns := [], harness := (true, "f140fde393fad7354b61e8b57297980d94886fc49d696616f7d8989a063c4caf"), looks := false }, kinds := [], alts := [], laidByText := true, laidKinds := [.data, .widerDeep, .pinned], laidTests := true, laidLooks := .later }
def FnZipCardSaid : Prop := Claim7.holds Tryz.pinned (.plain (OpenSpec.ofChange fnZipSpec)) fnZipCard

/-- THE TIED CARD OF 'laws.FnDiskOver'. -/
def fnDiskOverCard : Claim7 := { stood := { row := fnDiskOverRow, standIns := [], harness := (true, "f140fde393fad7354b61e8b57297980d94886fc49d696616f7d8989a063c4caf"), looks := false }, kinds := [], alts := [], laidByText := true, laidKinds := [.data, .data, .data, .data, .widerDeep, .pinned], laidTests := true, laidLooks := .later }
def FnDiskOverCardSaid : Prop := Claim7.holds Tryz.pinned (.plain (OpenSpec.ofChange fnDiskOverSpec)) fnDiskOverCard

/-- THE TIED CARD OF 'laws.FnDiskTear'. -/
def fnDiskTearCard : Claim7 := { stood := { row := fnDiskTearRow, standIns := [], harness := (true, "f140fde393fad7354b61e8b57297980d94886fc49d696616f7d8989a063c4caf"), looks := false }, kinds := [], alts := [], laidByText := true, laidKinds := [.data, .data, .data, .data, .widerDeep, .pinned], laidTests := true, laidLooks := .later }
def FnDiskTearCardSaid : Prop := Claim7.holds Tryz.pinned (.plain (OpenSpec.ofChange fnDiskTearSpec)) fnDiskTearCard

/-- THE TIED CARD OF 'laws.FnDiskRise'. -/
def fnDiskRiseCard : Claim7 := { stood := { row := fnDiskRiseRow, standIns := [], harness := (true, "f140fde393fad7354b61e8b57297980d94886fc49d696616f7d8989a063c4caf"), looks := false }, kinds := [], alts := [], laidByText := true, laidKinds := [.data, .data, .data, .data, .widerDeep, .pinned], laidTests := true, laidLooks := .later }
def FnDiskRiseCardSaid : Prop := Claim7.holds Tryz.pinned (.plain (OpenSpec.ofChange fnDiskRiseSpec)) fnDiskRiseCard

/-- THE TIED CARD OF 'laws.FnDiskNew'. -/
def fnDiskNewCard : Claim7 := { stood := { row := fnDiskNewRow, standIns := [], harness := (true, "f140fde393fad7354b61e8b57297980d94886fc49d696616f7d8989a063c4caf"), looks := false }, kinds := [], alts := [], laidByText := true, laidKinds := [.data, .data, .data, .data, .widerDeep, .pinned], laidTests := true, laidLooks := .later }
def FnDiskNewCardSaid : Prop := Claim7.holds Tryz.pinned (.plain (OpenSpec.ofChange fnDiskNewSpec)) fnDiskNewCard

/-- THE TIED CARD OF 'laws.FnZipGet'. -/
def fnZipGetCard : Claim7 := { stood := { row := fnZipGetRow, standIns := [], harness := (true, "f140fde393fad7354b61e8b57297980d94886fc49d696616f7d8989a063c4caf"), looks := false }, kinds := [], alts := [], laidByText := true, laidKinds := [.data, .widerDeep, .pinned], laidTests := true, laidLooks := .later }
def FnZipGetCardSaid : Prop := Claim7.holds Tryz.pinned (.plain (OpenSpec.ofChange fnZipGetSpec)) fnZipGetCard

/-- THE SECOND FORM's CARD OF 'laws.FnTreeUnder'. -/
def fnTreeUnderUptoCard : Claim7 := { stood := { row := fnTreeUnderUptoRow, standIns := [], harness := (true, "f140fde393fad7354b61e8b57297980d94886fc49d696616f7d8989a063c4caf"), looks := false }, kinds := [], alts := [], laidByText := true, laidKinds := [.data, .widerDeep, .pinned], laidTests := true, laidLooks := .later }
def FnTreeUnderUptoCardSaid : Prop := Claim7.holds Tryz.pinned (.plain (OpenSpec.upto fnTreeUnderSpec)) fnTreeUnderUptoCard

/-- THE SECOND FORM's CARD OF 'laws.FnTreeNone'. -/
def fnTreeNoneUptoCard : Claim7 := { stood := { row := fnTreeNoneUptoRow, standIns := [], harness := (true, "f140fde393fad7354b61e8b57297980d94886fc49d696616f7d8989a063c4caf"), looks := false }, kinds := [], alts := [], laidByText := true, laidKinds := [.data, .widerDeep, .pinned], laidTests := true, laidLooks := .later }
def FnTreeNoneUptoCardSaid : Prop := Claim7.holds Tryz.pinned (.plain (OpenSpec.upto fnTreeNoneSpec)) fnTreeNoneUptoCard

/-- THE SECOND FORM's CARD OF 'laws.FnZipOrder'. -/
def fnZipOrderUptoCard : Claim7 := { stood := { row := fnZipOrderUptoRow, standIns := [], harness := (true, "f140fde393fad7354b61e8b57297980d94886fc49d696616f7d8989a063c4caf"), looks := false }, kinds := [], alts := [], laidByText := true, laidKinds := [.data, .widerDeep, .pinned], laidTests := true, laidLooks := .later }
def FnZipOrderUptoCardSaid : Prop := Claim7.holds Tryz.pinned (.plain (OpenSpec.upto fnZipOrderSpec)) fnZipOrderUptoCard

/-- THE SECOND FORM's CARD OF 'laws.FnLocalGet'. -/
def fnLocalGetUptoCard : Claim7 := { stood := { row := fnLocalGetUptoRow, standIns := [], harness := (true, "f140fde393fad7354b61e8b57297980d94886fc49d696616f7d8989a063c4caf"), looks := false }, kinds := [], alts := [], laidByText := true, laidKinds := [.data, .widerDeep, .pinned], laidTests := true, laidLooks := .later }
def FnLocalGetUptoCardSaid : Prop := Claim7.holds Tryz.pinned (.plain (OpenSpec.upto fnLocalGetSpec)) fnLocalGetUptoCard

/-- THE SECOND FORM's CARD OF 'laws.FnZipCut'. -/
def fnZipCutUptoCard : Claim7 := { stood := { row := fnZipCutUptoRow, standIns := [], harness := (true, "f140fde393fad7354b61e8b57297980d94886fc49d696616f7d8989a063c4caf"), looks := false }, kinds := [], alts := [], laidByText := true, laidKinds := [.data, .widerDeep, .pinned], laidTests := true, laidLooks := .later }
def FnZipCutUptoCardSaid : Prop := Claim7.holds Tryz.pinned (.plain (OpenSpec.upto fnZipCutSpec)) fnZipCutUptoCard

/-- THE SECOND FORM's CARD OF 'laws.FnZipHeads'. -/
def fnZipHeadsUptoCard : Claim7 := { stood := { row := fnZipHeadsUptoRow, standIns := [], harness := (true, "f140fde393fad7354b61e8b57297980d94886fc49d696616f7d8989a063c4caf"), looks := false }, kinds := [], alts := [], laidByText := true, laidKinds := [.data, .widerDeep, .pinned], laidTests := true, laidLooks := .later }
def FnZipHeadsUptoCardSaid : Prop := Claim7.holds Tryz.pinned (.plain (OpenSpec.upto fnZipHeadsSpec)) fnZipHeadsUptoCard

/-- THE SECOND FORM's CARD OF 'laws.FnZip'. -/
def fnZipUptoCard : Claim7 := { stood := { row := fnZipUptoRow, standIns := [], harness := (true, "f140fde393fad7354b61e8b57297980d94886fc49d696616f7d8989a063c4caf"), looks := false }, kinds := [], alts := [], laidByText := true, laidKinds := [.data, .widerDeep, .pinned], laidTests := true, laidLooks := .later }
def FnZipUptoCardSaid : Prop := Claim7.holds Tryz.pinned (.plain (OpenSpec.upto fnZipSpec)) fnZipUptoCard

/-- THE SECOND FORM's CARD OF 'laws.FnDiskOver'. -/
def fnDiskOverUptoCard : Claim7 := { stood := { row := fnDiskOverUptoRow, standIns := [], harness := (true, "f140fde393fad7354b61e8b57297980d94886fc49d696616f7d8989a063c4caf"), looks := false }, kinds := [], alts := [], laidByText := true, laidKinds := [.data, .data, .data, .data, .widerDeep, .pinned], laidTests := true, laidLooks := .later }
def FnDiskOverUptoCardSaid : Prop := Claim7.holds Tryz.pinned (.plain (OpenSpec.upto fnDiskOverSpec)) fnDiskOverUptoCard

/-- THE SECOND FORM's CARD OF 'laws.FnDiskTear'. -/
def fnDiskTearUptoCard : Claim7 := { stood := { row := fnDiskTearUptoRow, standIns := [], harness := (true, "f140fde393fad7354b61e8b57297980d94886fc49d696616f7d8989a063c4caf"), looks := false }, kinds := [], alts := [], laidByText := true, laidKinds := [.data, .data, .data, .data, .widerDeep, .pinned], laidTests := true, laidLooks := .later }
def FnDiskTearUptoCardSaid : Prop := Claim7.holds Tryz.pinned (.plain (OpenSpec.upto fnDiskTearSpec)) fnDiskTearUptoCard

/-- THE SECOND FORM's CARD OF 'laws.FnDiskRise'. -/
def fnDiskRiseUptoCard : Claim7 := { stood := { row := fnDiskRiseUptoRow, standIns := [], harness := (true, "f140fde393fad7354b61e8b57297980d94886fc49d696616f7d8989a063c4caf"), looks := false }, kinds := [], alts := [], laidByText := true, laidKinds := [.data, .data, .data, .data, .widerDeep, .pinned], laidTests := true, laidLooks := .later }
def FnDiskRiseUptoCardSaid : Prop := Claim7.holds Tryz.pinned (.plain (OpenSpec.upto fnDiskRiseSpec)) fnDiskRiseUptoCard

/-- THE SECOND FORM's CARD OF 'laws.FnDiskNew'. -/
def fnDiskNewUptoCard : Claim7 := { stood := { row := fnDiskNewUptoRow, standIns := [], harness := (true, "f140fde393fad7354b61e8b57297980d94886fc49d696616f7d8989a063c4caf"), looks := false }, kinds := [], alts := [], laidByText := true, laidKinds := [.data, .data, .data, .data, .widerDeep, .pinned], laidTests := true, laidLooks := .later }
def FnDiskNewUptoCardSaid : Prop := Claim7.holds Tryz.pinned (.plain (OpenSpec.upto fnDiskNewSpec)) fnDiskNewUptoCard

/-- THE SECOND FORM's CARD OF 'laws.FnZipGet'. -/
def fnZipGetUptoCard : Claim7 := { stood := { row := fnZipGetUptoRow, standIns := [], harness := (true, "f140fde393fad7354b61e8b57297980d94886fc49d696616f7d8989a063c4caf"), looks := false }, kinds := [], alts := [], laidByText := true, laidKinds := [.data, .widerDeep, .pinned], laidTests := true, laidLooks := .later }
def FnZipGetUptoCardSaid : Prop := Claim7.holds Tryz.pinned (.plain (OpenSpec.upto fnZipGetSpec)) fnZipGetUptoCard
end Rows
end Go.Proofs.YtadeffpcedlalaaGreatDoor
