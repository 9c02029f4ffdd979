/-
  DERIVED. GIVEN WITH THE SEED: THE CARDS: each row of YtnllgghlojppfaaGreatDoorRows.lean that lists a variable, with what it lists TIED to the program's text (the seventh form; the later family's looks); each row that meets fmt, with fmt's text TOLD by the authors' own Lean function (tested against real Go, not proved from fmt's source: count such statements apart). THE CARD IS WHAT COUNTS. Prove the row's statement (the work); the ties are given (YtnllgghlojppfaaGreatDoorTie.lean); close each card by the builder's one call (the guide's Derived/Test/ToyasCard.lean, 'card_holds'). Laid BY PROGRAM, IN A SANDBOX (cutbox-door.mjs). By AI agents, Wed Nov 11 2026. No macro, syntax, notation, axiom, sorry.
-/
import Derived.Test.YtnllgghlojppfaaGreatDoorRows
import GoSem.ClaimSeven
namespace Go.Proofs.YtnllgghlojppfaaGreatDoor
namespace Rows

/-- THE TIED CARD OF 'laws.FnLocalBent'. -/
def fnLocalBentCard : Claim7 := { stood := { row := fnLocalBentRow, standIns := [], harness := (true, "205359dcb97258d16c866adf30f7de88646af2b4091ac034dd9602d94850e02a"), looks := false }, kinds := [], alts := [], laidByText := true, laidKinds := [.data, .widerDeep, .pinned], laidTests := true, laidLooks := .later }
def FnLocalBentCardSaid : Prop := Claim7.holds Tryz.pinned (.plain (OpenSpec.ofChange fnLocalBentSpec)) fnLocalBentCard

/-- THE TIED CARD OF 'laws.FnLocalTwo'. -/
def fnLocalTwoCard : Claim7 := { stood := { row := fnLocalTwoRow, standIns := [], harness := (true, "205359dcb97258d16c866adf30f7de88646af2b4091ac034dd9602d94850e02a"), looks := false }, kinds := [], alts := [], laidByText := true, laidKinds := [.data, .widerDeep, .pinned], laidTests := true, laidLooks := .later }
def FnLocalTwoCardSaid : Prop := Claim7.holds Tryz.pinned (.plain (OpenSpec.ofChange fnLocalTwoSpec)) fnLocalTwoCard

/-- THE TIED CARD OF 'laws.FnLocal'. -/
def fnLocalCard : Claim7 := { stood := { row := fnLocalRow, standIns := [], harness := (true, "205359dcb97258d16c866adf30f7de88646af2b4091ac034dd9602d94850e02a"), looks := false }, kinds := [], alts := [], laidByText := true, laidKinds := [.data, .widerDeep, .pinned], laidTests := true, laidLooks := .later }
def FnLocalCardSaid : Prop := Claim7.holds Tryz.pinned (.plain (OpenSpec.ofChange fnLocalSpec)) fnLocalCard

/-- THE TIED CARD OF 'laws.FnExactDiskTear'. -/
def fnExactDiskTearCard : Claim7 := { stood := { row := fnExactDiskTearRow, standIns := [], harness := (true, "205359dcb97258d16c866adf30f7de88646af2b4091ac034dd9602d94850e02a"), looks := false }, kinds := [], alts := [], laidByText := true, laidKinds := [.data, .data, .data, .data, .widerDeep, .pinned], laidTests := true, laidLooks := .later }
def FnExactDiskTearCardSaid : Prop := Claim7.holds Tryz.pinned (.plain (OpenSpec.ofChange fnExactDiskTearSpec)) fnExactDiskTearCard

/-- THE TIED CARD OF 'laws.FnSessionZip'. -/
def fnSessionZipCard : Claim7 := { stood := { row := fnSessionZipRow, standIns := [], harness := (true, "205359dcb97258d16c866adf30f7de88646af2b4091ac034dd9602d94850e02a"), looks := false }, kinds := [], alts := [], laidByText := true, laidKinds := [.data, .data, .data, .data, .data, .data, .data, .widerDeep, .pinned], laidTests := true, laidLooks := .later }
def FnSessionZipCardSaid : Prop := Claim7.holds Tryz.pinned (.plain (OpenSpec.ofChange fnSessionZipSpec)) fnSessionZipCard

/-- THE TIED CARD OF 'laws.FnExactDiskRise'. -/
def fnExactDiskRiseCard : Claim7 := { stood := { row := fnExactDiskRiseRow, standIns := [], harness := (true, "205359dcb97258d16c866adf30f7de88646af2b4091ac034dd9602d94850e02a"), looks := false }, kinds := [], alts := [], laidByText := true, laidKinds := [.data, .data, .data, .data, .widerDeep, .pinned], laidTests := true, laidLooks := .later }
def FnExactDiskRiseCardSaid : Prop := Claim7.holds Tryz.pinned (.plain (OpenSpec.ofChange fnExactDiskRiseSpec)) fnExactDiskRiseCard

/-- THE TIED CARD OF 'laws.FnTreeUnder'. -/
def fnTreeUnderCard : Claim7 := { stood := { row := fnTreeUnderRow, standIns := [], harness := (true, "205359dcb97258d16c866adf30f7de88646af2b4091ac034dd9602d94850e02a"), looks := false }, kinds := [], alts := [], laidByText := true, laidKinds := [.data, .widerDeep, .pinned], laidTests := true, laidLooks := .later }
def FnTreeUnderCardSaid : Prop := Claim7.holds Tryz.pinned (.plain (OpenSpec.ofChange fnTreeUnderSpec)) fnTreeUnderCard

/-- THE TIED CARD OF 'laws.FnTreeNone'. -/
def fnTreeNoneCard : Claim7 := { stood := { row := fnTreeNoneRow, standIns := [], harness := (true, "205359dcb97258d16c866adf30f7de88646af2b4091ac034dd9602d94850e02a"), looks := false }, kinds := [], alts := [], laidByText := true, laidKinds := [.data, .widerDeep, .pinned], laidTests := true, laidLooks := .later }
def FnTreeNoneCardSaid : Prop := Claim7.holds Tryz.pinned (.plain (OpenSpec.ofChange fnTreeNoneSpec)) fnTreeNoneCard

/-- THE TIED CARD OF 'laws.FnZipOrder'. -/
def fnZipOrderCard : Claim7 := { stood := { row := fnZipOrderRow, standIns := [], harness := (true, "205359dcb97258d16c866adf30f7de88646af2b4091ac034dd9602d94850e02a"), looks := false }, kinds := [], alts := [], laidByText := true, laidKinds := [.data, .widerDeep, .pinned], laidTests := true, laidLooks := .later }
def FnZipOrderCardSaid : Prop := Claim7.holds Tryz.pinned (.plain (OpenSpec.ofChange fnZipOrderSpec)) fnZipOrderCard

/-- THE TIED CARD OF 'laws.FnLocalGet'. -/
def fnLocalGetCard : Claim7 := { stood := { row := fnLocalGetRow, standIns := [], harness := (true, "205359dcb97258d16c866adf30f7de88646af2b4091ac034dd9602d94850e02a"), looks := false }, kinds := [], alts := [], laidByText := true, laidKinds := [.data, .widerDeep, .pinned], laidTests := true, laidLooks := .later }
def FnLocalGetCardSaid : Prop := Claim7.holds Tryz.pinned (.plain (OpenSpec.ofChange fnLocalGetSpec)) fnLocalGetCard

/-- THE TIED CARD OF 'laws.FnZipCut'. -/
def fnZipCutCard : Claim7 := { stood := { row := fnZipCutRow, standIns := [], harness := (true, "205359dcb97258d16c866adf30f7de88646af2b4091ac034dd9602d94850e02a"), looks := false }, kinds := [], alts := [], laidByText := true, laidKinds := [.data, .widerDeep, .pinned], laidTests := true, laidLooks := .later }
def FnZipCutCardSaid : Prop := Claim7.holds Tryz.pinned (.plain (OpenSpec.ofChange fnZipCutSpec)) fnZipCutCard

/-- THE TIED CARD OF 'laws.FnZipHeads'. -/
def fnZipHeadsCard : Claim7 := { stood := { row := fnZipHeadsRow, standIns := [], harness := (true, "205359dcb97258d16c866adf30f7de88646af2b4091ac034dd9602d94850e02a"), looks := false }, kinds := [], alts := [], laidByText := true, laidKinds := [.data, .widerDeep, .pinned], laidTests := true, laidLooks := .later }
def FnZipHeadsCardSaid : Prop := Claim7.holds Tryz.pinned (.plain (OpenSpec.ofChange fnZipHeadsSpec)) fnZipHeadsCard

/-- THE SECOND FORM's CARD OF 'laws.FnLocalBent'. -/
def fnLocalBentUptoCard : Claim7 := { stood := { row := fnLocalBentUptoRow, standIns := [], harness := (true, "205359dcb97258d16c866adf30f7de88646af2b4091ac034dd9602d94850e02a"), looks := false }, kinds := [], alts := [], laidByText := true, laidKinds := [.data, .widerDeep, .pinned], laidTests := true, laidLooks := .later }
def FnLocalBentUptoCardSaid : Prop := Claim7.holds Tryz.pinned (.plain (OpenSpec.upto fnLocalBentSpec)) fnLocalBentUptoCard

/-- THE SECOND FORM's CARD OF 'laws.FnLocalTwo'. -/
def fnLocalTwoUptoCard : Claim7 := { stood := { row := fnLocalTwoUptoRow, standIns := [], harness := (true, "205359dcb97258d16c866adf30f7de88646af2b4091ac034dd9602d94850e02a"), looks := false }, kinds := [], alts := [], laidByText := true, laidKinds := [.data, .widerDeep, .pinned], laidTests := true, laidLooks := .later }
def FnLocalTwoUptoCardSaid : Prop := Claim7.holds Tryz.pinned (.plain (OpenSpec.upto fnLocalTwoSpec)) fnLocalTwoUptoCard

/-- THE SECOND FORM's CARD OF 'laws.FnLocal'. -/
def fnLocalUptoCard : Claim7 := { stood := { row := fnLocalUptoRow, standIns := [], harness := (true, "205359dcb97258d16c866adf30f7de88646af2b4091ac034dd9602d94850e02a"), looks := false }, kinds := [], alts := [], laidByText := true, laidKinds := [.data, .widerDeep, .pinned], laidTests := true, laidLooks := .later }
def FnLocalUptoCardSaid : Prop := Claim7.holds Tryz.pinned (.plain (OpenSpec.upto fnLocalSpec)) fnLocalUptoCard

/-- THE SECOND FORM's CARD OF 'laws.FnExactDiskTear'. -/
def fnExactDiskTearUptoCard : Claim7 := { stood := { row := fnExactDiskTearUptoRow, standIns := [], harness := (true, "205359dcb97258d16c866adf30f7de88646af2b4091ac034dd9602d94850e02a"), looks := false }, kinds := [], alts := [], laidByText := true, laidKinds := [.data, .data, .data, .data, .widerDeep, .pinned], laidTests := true, laidLooks := .later }
def FnExactDiskTearUptoCardSaid : Prop := Claim7.holds Tryz.pinned (.plain (OpenSpec.upto fnExactDiskTearSpec)) fnExactDiskTearUptoCard

/-- THE SECOND FORM's CARD OF 'laws.FnSessionZip'. -/
def fnSessionZipUptoCard : Claim7 := { stood := { row := fnSessionZipUptoRow, standIns := [], harness := (true, "205359dcb97258d16c866adf30f7de88646af2b4091ac034dd9602d94850e02a"), looks := false }, kinds := [], alts := [], laidByText := true, laidKinds := [.data, .data, .data, .data, .data, .data, .data, .widerDeep, .pinned], laidTests := true, laidLooks := .later }
def FnSessionZipUptoCardSaid : Prop := Claim7.holds Tryz.pinned (.plain (OpenSpec.upto fnSessionZipSpec)) fnSessionZipUptoCard

/-- THE SECOND FORM's CARD OF 'laws.FnExactDiskRise'. -/
def fnExactDiskRiseUptoCard : Claim7 := { stood := { row := fnExactDiskRiseUptoRow, standIns := [], harness := (true, "205359dcb97258d16c866adf30f7de88646af2b4091ac034dd9602d94850e02a"), looks := false }, kinds := [], alts := [], laidByText := true, laidKinds := [.data, .data, .data, .data, .widerDeep, .pinned], laidTests := true, laidLooks := .later }
def FnExactDiskRiseUptoCardSaid : Prop := Claim7.holds Tryz.pinned (.plain (OpenSpec.upto fnExactDiskRiseSpec)) fnExactDiskRiseUptoCard

/-- THE SECOND FORM's CARD OF 'laws.FnTreeUnder'. -/
def fnTreeUnderUptoCard : Claim7 := { stood := { row := fnTreeUnderUptoRow, standIns := [], harness := (true, "205359dcb97258d16c866adf30f7de88646af2b4091ac034dd9602d94850e02a"), looks := false }, kinds := [], alts := [], laidByText := true, laidKinds := [.data, .widerDeep, .pinned], laidTests := true, laidLooks := .later }
def FnTreeUnderUptoCardSaid : Prop := Claim7.holds Tryz.pinned (.plain (OpenSpec.upto fnTreeUnderSpec)) fnTreeUnderUptoCard

/-- THE SECOND FORM's CARD OF 'laws.FnTreeNone'. -/
def fnTreeNoneUptoCard : Claim7 := { stood := { row := fnTreeNoneUptoRow, standIns := [], harness := (true, "205359dcb97258d16c866adf30f7de88646af2b4091ac034dd9602d94850e02a"), looks := false }, kinds := [], alts := [], laidByText := true, laidKinds := [.data, .widerDeep, .pinned], laidTests := true, laidLooks := .later }
def FnTreeNoneUptoCardSaid : Prop := Claim7.holds Tryz.pinned (.plain (OpenSpec.upto fnTreeNoneSpec)) fnTreeNoneUptoCard

/-- THE SECOND FORM's CARD OF 'laws.FnZipOrder'. -/
def fnZipOrderUptoCard : Claim7 := { stood := { row := fnZipOrderUptoRow, standIns := [], harness := (true, "205359dcb97258d16c866adf30f7de88646af2b4091ac034dd9602d94850e02a"), looks := false }, kinds := [], alts := [], laidByText := true, laidKinds := [.data, .widerDeep, .pinned], laidTests := true, laidLooks := .later }
def FnZipOrderUptoCardSaid : Prop := Claim7.holds Tryz.pinned (.plain (OpenSpec.upto fnZipOrderSpec)) fnZipOrderUptoCard

/-- THE SECOND FORM's CARD OF 'laws.FnLocalGet'. -/
def fnLocalGetUptoCard : Claim7 := { stood := { row := fnLocalGetUptoRow, standIns := [], harness := (true, "205359dcb97258d16c866adf30f7de88646af2b4091ac034dd9602d94850e02a"), looks := false }, kinds := [], alts := [], laidByText := true, laidKinds := [.data, .widerDeep, .pinned], laidTests := true, laidLooks := .later }
def FnLocalGetUptoCardSaid : Prop := Claim7.holds Tryz.pinned (.plain (OpenSpec.upto fnLocalGetSpec)) fnLocalGetUptoCard

/-- THE SECOND FORM's CARD OF 'laws.FnZipCut'. -/
def fnZipCutUptoCard : Claim7 := { stood := { row := fnZipCutUptoRow, standIns := [], harness := (true, "205359dcb97258d16c866adf30f7de88646af2b4091ac034dd9602d94850e02a"), looks := false }, kinds := [], alts := [], laidByText := true, laidKinds := [.data, .widerDeep, .pinned], laidTests := true, laidLooks := .later }
def FnZipCutUptoCardSaid : Prop := Claim7.holds Tryz.pinned (.plain (OpenSpec.upto fnZipCutSpec)) fnZipCutUptoCard

/-- THE SECOND FORM's CARD OF 'laws.FnZipHeads'. -/
def fnZipHeadsUptoCard : Claim7 := { stood := { row := fnZipHeadsUptoRow, standIns := [], harness := (true, "205359dcb97258d16c866adf30f7de88646af2b4091ac034dd9602d94850e02a"), looks := false }, kinds := [], alts := [], laidByText := true, laidKinds := [.data, .widerDeep, .pinned], laidTests := true, laidLooks := .later }
def FnZipHeadsUptoCardSaid : Prop := Claim7.holds Tryz.pinned (.plain (OpenSpec.upto fnZipHeadsSpec)) fnZipHeadsUptoCard
end Rows
end Go.Proofs.YtnllgghlojppfaaGreatDoor
