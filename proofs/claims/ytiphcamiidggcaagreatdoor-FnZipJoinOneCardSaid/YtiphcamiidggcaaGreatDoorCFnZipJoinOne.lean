/- The tied card of FnZipJoinOne holds. Conditions: those of the card. -/
import Derived.Test.YtiphcamiidggcaaGreatDoorRFnZipJoinOne
import Derived.Test.YtiphcamiidggcaaGreatDoorCards
import Derived.Test.YtiphcamiidggcaaGreatDoorTie
import Derived.SevenTiedAt
namespace Go.Proofs.YtiphcamiidggcaaGreatDoor
theorem fnZipJoinOne_cw : Rows.fnZipJoinOneRow.wfByText (OpenSpec.ofChange Rows.fnZipJoinOneSpec) = true := by kernel_rfl
theorem fnZipJoinOne_cm : Tryz.prog.mainIs = some ((true, "aa7a1427f03079db5cea3e29d8da9786196e087a58f7d41393c16dd0882c0c39").1, (true, "aa7a1427f03079db5cea3e29d8da9786196e087a58f7d41393c16dd0882c0c39").2.toList) := by kernel_rfl
theorem fnZipJoinOne_cf : Tryz.prog.funcNamed "loop.example/corbel/laws.FnZipJoinOne" = some 4 := by kernel_rfl
theorem fnZipJoinOne_cl : false = Tryz.prog.looks [] := by kernel_rfl
theorem fnZipJoinOne_cg : false = Rows.fnZipJoinOneRow.goesBy Tryz.prog := by kernel_rfl
theorem fnZipJoinOne_card_holds : Rows.FnZipJoinOneCardSaid :=
  Claim7.holds_tied_plain_at .later [] [.data, .widerDeep, .pinned] true (true, "aa7a1427f03079db5cea3e29d8da9786196e087a58f7d41393c16dd0882c0c39") false
    fnZipJoinOne.over (fun _ h => by cases h) fnZipJoinOne_cw (fun _ h => by cases h) fnZipJoinOne_row_tie rfl ⟨rfl, rfl⟩ fnZipJoinOne_cm rfl
    (fun f fn hf hfn => by
      obtain rfl : f = 4 := Option.some.inj (fnZipJoinOne_cf.symm.trans hf) |>.symm
      obtain rfl : fn = Tryz.f4 := (Option.some.inj (Tryz.func4.symm.trans hfn)).symm
      exact ⟨fnZipJoinOne_cl, fun j t ht => by
        rw [Tryz.params4] at ht
        rcases j with _ | j
        · obtain rfl : t = 31 := by simpa using ht.symm
          exact (show Tryz.prog.wantsStandIn 31 = false by kernel_rfl)
        · simp at ht⟩)
    fnZipJoinOne_cg
#print axioms fnZipJoinOne_card_holds
end Go.Proofs.YtiphcamiidggcaaGreatDoor
