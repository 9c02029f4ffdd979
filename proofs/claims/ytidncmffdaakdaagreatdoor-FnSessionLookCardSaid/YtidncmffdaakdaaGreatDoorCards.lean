/-
  DERIVED. GIVEN WITH THE SEED: THE CARDS: each row of YtidncmffdaakdaaGreatDoorRows.lean that lists a variable, with what it lists TIED to the program's text (the seventh form; the later family's looks); each row that meets fmt, with fmt's text TOLD by the authors' own Lean function (tested against real Go, not proved from fmt's source: count such statements apart). THE CARD IS WHAT COUNTS. Prove the row's statement (the work); the ties are given (YtidncmffdaakdaaGreatDoorTie.lean); close each card by the builder's one call (the guide's Derived/Test/ToyasCard.lean, 'card_holds'). Laid BY PROGRAM, IN A SANDBOX (cutbox-door.mjs). By AI agents, Wed Nov 11 2026. No macro, syntax, notation, axiom, sorry.
-/
import Derived.Test.YtidncmffdaakdaaGreatDoorRows
import GoSem.ClaimSeven
namespace Go.Proofs.YtidncmffdaakdaaGreatDoor
namespace Rows

/-- THE TIED CARD OF 'laws.FnSessionLong'. -/
def fnSessionLongCard : Claim7 := { stood := { row := fnSessionLongRow, standIns := [], harness := (true, "f0a8930f34e6a204e3686dc7d785b9b0bdeb0ebb780fb27a94beae9a726fdaa0"), looks := false }, kinds := [], alts := [], laidByText := true, laidKinds := [.data, .data, .data, .data, .data, .data, .data, .widerDeep, .pinned], laidTests := true, laidLooks := .later }
def FnSessionLongCardSaid : Prop := Claim7.holds Tryz.pinned (.plain (OpenSpec.ofChange fnSessionLongSpec)) fnSessionLongCard

/-- THE TIED CARD OF 'laws.FnSessionLook'. -/
def fnSessionLookCard : Claim7 := { stood := { row := fnSessionLookRow, standIns := [], harness := (true, "f0a8930f34e6a204e3686dc7d785b9b0bdeb0ebb780fb27a94beae9a726fdaa0"), looks := false }, kinds := [], alts := [], laidByText := true, laidKinds := [.data, .data, .data, .data, .data, .data, .data, .widerDeep, .pinned], laidTests := true, laidLooks := .later }
def FnSessionLookCardSaid : Prop := Claim7.holds Tryz.pinned (.plain (OpenSpec.ofChange fnSessionLookSpec)) fnSessionLookCard

/-- THE TIED CARD OF 'laws.FnSessionZip'. -/
def fnSessionZipCard : Claim7 := { stood := { row := fnSessionZipRow, standIns := [], harness := (true, "f0a8930f34e6a204e3686dc7d785b9b0bdeb0ebb780fb27a94beae9a726fdaa0"), looks := false }, kinds := [], alts := [], laidByText := true, laidKinds := [.data, .data, .data, .data, .data, .data, .data, .widerDeep, .pinned], laidTests := true, laidLooks := .later }
def FnSessionZipCardSaid : Prop := Claim7.holds Tryz.pinned (.plain (OpenSpec.ofChange fnSessionZipSpec)) fnSessionZipCard

/-- THE TIED CARD OF 'laws.FnExactSession'. -/
def fnExactSessionCard : Claim7 := { stood := { row := fnExactSessionRow, standIns := [], harness := (true, "f0a8930f34e6a204e3686dc7d785b9b0bdeb0ebb780fb27a94beae9a726fdaa0"), looks := false }, kinds := [], alts := [], laidByText := true, laidKinds := [.data, .data, .data, .data, .data, .data, .data, .widerDeep, .pinned], laidTests := true, laidLooks := .later }
def FnExactSessionCardSaid : Prop := Claim7.holds Tryz.pinned (.plain (OpenSpec.ofChange fnExactSessionSpec)) fnExactSessionCard

/-- THE TIED CARD OF 'laws.FnSession'. -/
def fnSessionCard : Claim7 := { stood := { row := fnSessionRow, standIns := [], harness := (true, "f0a8930f34e6a204e3686dc7d785b9b0bdeb0ebb780fb27a94beae9a726fdaa0"), looks := false }, kinds := [], alts := [], laidByText := true, laidKinds := [.data, .data, .data, .data, .data, .data, .data, .widerDeep, .pinned], laidTests := true, laidLooks := .later }
def FnSessionCardSaid : Prop := Claim7.holds Tryz.pinned (.plain (OpenSpec.ofChange fnSessionSpec)) fnSessionCard

/-- THE SECOND FORM's CARD OF 'laws.FnSessionLong'. -/
def fnSessionLongUptoCard : Claim7 := { stood := { row := fnSessionLongUptoRow, standIns := [], harness := (true, "f0a8930f34e6a204e3686dc7d785b9b0bdeb0ebb780fb27a94beae9a726fdaa0"), looks := false }, kinds := [], alts := [], laidByText := true, laidKinds := [.data, .data, .data, .data, .data, .data, .data, .widerDeep, .pinned], laidTests := true, laidLooks := .later }
def FnSessionLongUptoCardSaid : Prop := Claim7.holds Tryz.pinned (.plain (OpenSpec.upto fnSessionLongSpec)) fnSessionLongUptoCard

/-- THE SECOND FORM's CARD OF 'laws.FnSessionLook'. -/
def fnSessionLookUptoCard : Claim7 := { stood := { row := fnSessionLookUptoRow, standIns := [], harness := (true, "f0a8930f34e6a204e3686dc7d785b9b0bdeb0ebb780fb27a94beae9a726fdaa0"), looks := false }, kinds := [], alts := [], laidByText := true, laidKinds := [.data, .data, .data, .data, .data, .data, .data, .widerDeep, .pinned], laidTests := true, laidLooks := .later }
def FnSessionLookUptoCardSaid : Prop := Claim7.holds Tryz.pinned (.plain (OpenSpec.upto fnSessionLookSpec)) fnSessionLookUptoCard

/-- THE SECOND FORM's CARD OF 'laws.FnSessionZip'. -/
def fnSessionZipUptoCard : Claim7 := { stood := { row := fnSessionZipUptoRow, standIns := [], harness := (true, "f0a8930f34e6a204e3686dc7d785b9b0bdeb0ebb780fb27a94beae9a726fdaa0"), looks := false }, kinds := [], alts := [], laidByText := true, laidKinds := [.data, .data, .data, .data, .data, .data, .data, .widerDeep, .pinned], laidTests := true, laidLooks := .later }
def FnSessionZipUptoCardSaid : Prop := Claim7.holds Tryz.pinned (.plain (OpenSpec.upto fnSessionZipSpec)) fnSessionZipUptoCard

/-- THE SECOND FORM's CARD OF 'laws.FnExactSession'. -/
def fnExactSessionUptoCard : Claim7 := { stood := { row := fnExactSessionUptoRow, standIns := [], harness := (true, "f0a8930f34e6a204e3686dc7d785b9b0bdeb0ebb780fb27a94beae9a726fdaa0"), looks := false }, kinds := [], alts := [], laidByText := true, laidKinds := [.data, .data, .data, .data, .data, .data, .data, .widerDeep, .pinned], laidTests := true, laidLooks := .later }
def FnExactSessionUptoCardSaid : Prop := Claim7.holds Tryz.pinned (.plain (OpenSpec.upto fnExactSessionSpec)) fnExactSessionUptoCard

/-- THE SECOND FORM's CARD OF 'laws.FnSession'. -/
def fnSessionUptoCard : Claim7 := { stood := { row := fnSessionUptoRow, standIns := [], harness := (true, "f0a8930f34e6a204e3686dc7d785b9b0bdeb0ebb780fb27a94beae9a726fdaa0"), looks := false }, kinds := [], alts := [], laidByText := true, laidKinds := [.data, .data, .data, .data, .data, .data, .data, .widerDeep, .pinned], laidTests := true, laidLooks := .later }
def FnSessionUptoCardSaid : Prop := Claim7.holds Tryz.pinned (.plain (OpenSpec.upto fnSessionSpec)) fnSessionUptoCard
end Rows
end Go.Proofs.YtidncmffdaakdaaGreatDoor
