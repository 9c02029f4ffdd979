/-
  DERIVED. GIVEN WITH THE SEED: THE CARDS: each row of YtbokmcaoggnjhaaDoorRows.lean that lists a variable, with what it lists TIED to the program's text (the seventh form; the later family's looks); each row that meets fmt, with fmt's text TOLD by the authors' own Lean function (tested against real Go, not proved from fmt's source: count such statements apart). THE CARD IS WHAT COUNTS. Prove the row's statement (the work); the ties are given (YtbokmcaoggnjhaaDoorTie.lean); close each card by the builder's one call (the guide's Derived/Test/ToyasCard.lean, 'card_holds'). Laid BY PROGRAM, IN A SANDBOX (cutbox-door.mjs). By AI agents, Wed Nov 11 2026. No macro, syntax, notation, axiom, sorry.
-/
import Derived.Test.YtbokmcaoggnjhaaDoorRows
import GoSem.ClaimSeven
namespace Go.Proofs.YtbokmcaoggnjhaaDoor
namespace Rows

/-- THE TIED CARD OF 'laws.FnExactTreeOk'. -/
def fnExactTreeOkCard : Claim7 := { stood := { row := fnExactTreeOkRow, standIns := [], harness := (true, "80b51c02e4e58ebcd5faab0c2853a3bf37a3cb4f1f4a4c9d7f2f1c978847f0f9"), looks := false }, kinds := [], alts := [], laidByText := true, laidKinds := [.data, .pinned], laidTests := true, laidLooks := .later }
def FnExactTreeOkCardSaid : Prop := Claim7.holds Tryd.pinned (.plain (OpenSpec.ofChange fnExactTreeOkSpec)) fnExactTreeOkCard

/-- THE TIED CARD OF 'laws.FnTreeLess'. -/
def fnTreeLessCard : Claim7 := { stood := { row := fnTreeLessRow, standIns := [], harness := (true, "80b51c02e4e58ebcd5faab0c2853a3bf37a3cb4f1f4a4c9d7f2f1c978847f0f9"), looks := false }, kinds := [], alts := [], laidByText := true, laidKinds := [.data, .pinned], laidTests := true, laidLooks := .later }
def FnTreeLessCardSaid : Prop := Claim7.holds Tryd.pinned (.plain (OpenSpec.ofChange fnTreeLessSpec)) fnTreeLessCard

/-- THE SECOND FORM's CARD OF 'laws.FnExactTreeOk'. -/
def fnExactTreeOkUptoCard : Claim7 := { stood := { row := fnExactTreeOkUptoRow, standIns := [], harness := (true, "80b51c02e4e58ebcd5faab0c2853a3bf37a3cb4f1f4a4c9d7f2f1c978847f0f9"), looks := false }, kinds := [], alts := [], laidByText := true, laidKinds := [.data, .pinned], laidTests := true, laidLooks := .later }
def FnExactTreeOkUptoCardSaid : Prop := Claim7.holds Tryd.pinned (.plain (OpenSpec.upto fnExactTreeOkSpec)) fnExactTreeOkUptoCard

/-- THE SECOND FORM's CARD OF 'laws.FnTreeLess'. -/
def fnTreeLessUptoCard : Claim7 := { stood := { row := fnTreeLessUptoRow, standIns := [], harness := (true, "80b51c02e4e58ebcd5faab0c2853a3bf37a3cb4f1f4a4c9d7f2f1c978847f0f9"), looks := false }, kinds := [], alts := [], laidByText := true, laidKinds := [.data, .pinned], laidTests := true, laidLooks := .later }
def FnTreeLessUptoCardSaid : Prop := Claim7.holds Tryd.pinned (.plain (OpenSpec.upto fnTreeLessSpec)) fnTreeLessUptoCard
end Rows
end Go.Proofs.YtbokmcaoggnjhaaDoor
