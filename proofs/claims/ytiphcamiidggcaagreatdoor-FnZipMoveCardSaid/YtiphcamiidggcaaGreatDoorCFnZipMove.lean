/- The tied card of FnZipMove holds. Conditions: those of the card. -/
import Derived.Test.YtiphcamiidggcaaGreatDoorRFnZipMove
import Derived.Test.YtiphcamiidggcaaGreatDoorCards
import Derived.Test.YtiphcamiidggcaaGreatDoorTie
import Derived.SevenTiedAt
namespace Go.Proofs.YtiphcamiidggcaaGreatDoor
theorem fnZipMove_cw : Rows.fnZipMoveRow.wfByText (OpenSpec.ofChange Rows.fnZipMoveSpec) = true := by kernel_rfl
theorem fnZipMove_cm : Tryz.prog.mainIs = some ((true, "aa7a1427f03079db5cea3e29d8da9786196e087a58f7d41393c16dd0882c0c39").1, (true, "aa7a1427f03079db5cea3e29d8da9786196e087a58f7d41393c16dd0882c0c39").2.toList) := by kernel_rfl
theorem fnZipMove_cf : Tryz.prog.funcNamed "loop.example/corbel/laws.FnZipMove" = some 7 := by kernel_rfl
theorem fnZipMove_cl : false = Tryz.prog.looks [] := by kernel_rfl
theorem fnZipMove_cg : false = Rows.fnZipMoveRow.goesBy Tryz.prog := by kernel_rfl
theorem fnZipMove_card_holds : Rows.FnZipMoveCardSaid :=
  Claim7.holds_tied_plain_at .later [] [.data, .widerDeep, .pinned] true (true, "aa7a1427f03079db5cea3e29d8da9786196e087a58f7d41393c16dd0882c0c39") false
    fnZipMove.over (fun _ h => by cases h) fnZipMove_cw (fun _ h => by cases h) fnZipMove_row_tie rfl ⟨rfl, rfl⟩ fnZipMove_cm rfl
    (fun f fn hf hfn => by
      obtain rfl : f = 7 := Option.some.inj (fnZipMove_cf.symm.trans hf) |>.symm
      obtain rfl : fn = Tryz.f7 := (Option.some.inj (Tryz.func7.symm.trans hfn)).symm
      exact ⟨fnZipMove_cl, fun j t ht => by
        rw [Tryz.params7] at ht
        rcases j with _ | j
        · obtain rfl : t = 31 := by simpa using ht.symm
          exact (show Tryz.prog.wantsStandIn 31 = false by kernel_rfl)
        · simp at ht⟩)
    fnZipMove_cg
#print axioms fnZipMove_card_holds
end Go.Proofs.YtiphcamiidggcaaGreatDoor
