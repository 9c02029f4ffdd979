/- Library functions by the kit's own contracts. Conditions: as stated. -/
import Derived.Shelf.Strings.OnBuilder
import Derived.Test.YtnllgghlojppfaaGreatDoorAGA2
section
set_option linter.unusedVariables false
set_option linter.unusedSimpArgs false
namespace Ev
open Go Go.Proofs Go.Shelf
def joinL (xs : List Str) (sep : Str) : Str := sep.intercalate xs
end Ev
end
