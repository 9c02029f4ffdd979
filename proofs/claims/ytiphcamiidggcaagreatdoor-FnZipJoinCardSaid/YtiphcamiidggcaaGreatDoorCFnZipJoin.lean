/- The tied card of FnZipJoin holds. Conditions: those of the card. -/
import Derived.Test.YtiphcamiidggcaaGreatDoorRFnZipJoin
import Derived.Test.YtiphcamiidggcaaGreatDoorCards
import Derived.Test.YtiphcamiidggcaaGreatDoorTie
import Derived.SevenTiedAt
namespace Go.Proofs.YtiphcamiidggcaaGreatDoor
theorem fnZipJoin_cw : Rows.fnZipJoinRow.wfByText (OpenSpec.ofChange Rows.fnZipJoinSpec) = true := by kernel_rfl
theorem fnZipJoin_cm : Tryz.prog.mainIs = some ((true, "aa7a1427f03079db5cea3e29d8da9786196e087a58f7d41393c16dd0882c0c39").1, (true, "aa7a1427f03079db5cea3e29d8da9786196e087a58f7d41393c16dd0882c0c39").2.toList) := by kernel_rfl
theorem fnZipJoin_cf : Tryz.prog.funcNamed "loop.example/corbel/laws.FnZipJoin" = some 5 := by kernel_rfl
theorem fnZipJoin_cl : false = Tryz.prog.looks [] := by kernel_rfl
theorem fnZipJoin_cg : false = Rows.fnZipJoinRow.goesBy Tryz.prog := by kernel_rfl
theorem fnZipJoin_card_holds : Rows.FnZipJoinCardSaid :=
  Claim7.holds_tied_plain_at .later [] [.data, .widerDeep, .pinned] true (true, "aa7a1427f03079db5cea3e29d8da9786196e087a58f7d41393c16dd0882c0c39") false
    fnZipJoin.over (fun _ h => by cases h) fnZipJoin_cw (fun _ h => by cases h) fnZipJoin_row_tie rfl ⟨rfl, rfl⟩ fnZipJoin_cm rfl
    (fun f fn hf hfn => by
      obtain rfl : f = 5 := Option.some.inj (fnZipJoin_cf.symm.trans hf) |>.symm
      obtain rfl : fn = Tryz.f5 := (Option.some.inj (Tryz.func5.symm.trans hfn)).symm
      exact ⟨fnZipJoin_cl, fun j t ht => by
        rw [Tryz.params5] at ht
        rcases j with _ | j
        · obtain rfl : t = 31 := by simpa using ht.symm
          exact (show Tryz.prog.wantsStandIn 31 = false by kernel_rfl)
        · simp at ht⟩)
    fnZipJoin_cg
#print axioms fnZipJoin_card_holds
end Go.Proofs.YtiphcamiidggcaaGreatDoor
