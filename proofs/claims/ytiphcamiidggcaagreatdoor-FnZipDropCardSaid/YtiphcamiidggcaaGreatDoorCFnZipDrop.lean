/- The tied card of FnZipDrop holds. Conditions: those of the card. -/
import Derived.Test.YtiphcamiidggcaaGreatDoorRFnZipDrop
import Derived.Test.YtiphcamiidggcaaGreatDoorCards
import Derived.Test.YtiphcamiidggcaaGreatDoorTie
import Derived.SevenTiedAt
namespace Go.Proofs.YtiphcamiidggcaaGreatDoor
theorem fnZipDrop_cw : Rows.fnZipDropRow.wfByText (OpenSpec.ofChange Rows.fnZipDropSpec) = true := by kernel_rfl
theorem fnZipDrop_cm : Tryz.prog.mainIs = some ((true, "aa7a1427f03079db5cea3e29d8da9786196e087a58f7d41393c16dd0882c0c39").1, (true, "aa7a1427f03079db5cea3e29d8da9786196e087a58f7d41393c16dd0882c0c39").2.toList) := by kernel_rfl
theorem fnZipDrop_cf : Tryz.prog.funcNamed "loop.example/corbel/laws.FnZipDrop" = some 6 := by kernel_rfl
theorem fnZipDrop_cl : false = Tryz.prog.looks [] := by kernel_rfl
theorem fnZipDrop_cg : false = Rows.fnZipDropRow.goesBy Tryz.prog := by kernel_rfl
theorem fnZipDrop_card_holds : Rows.FnZipDropCardSaid :=
  Claim7.holds_tied_plain_at .later [] [.data, .widerDeep, .pinned] true (true, "aa7a1427f03079db5cea3e29d8da9786196e087a58f7d41393c16dd0882c0c39") false
    fnZipDrop.over (fun _ h => by cases h) fnZipDrop_cw (fun _ h => by cases h) fnZipDrop_row_tie rfl ⟨rfl, rfl⟩ fnZipDrop_cm rfl
    (fun f fn hf hfn => by
      obtain rfl : f = 6 := Option.some.inj (fnZipDrop_cf.symm.trans hf) |>.symm
      obtain rfl : fn = Tryz.f6 := (Option.some.inj (Tryz.func6.symm.trans hfn)).symm
      exact ⟨fnZipDrop_cl, fun j t ht => by
        rw [Tryz.params6] at ht
        rcases j with _ | j
        · obtain rfl : t = 31 := by simpa using ht.symm
          exact (show Tryz.prog.wantsStandIn 31 = false by kernel_rfl)
        · simp at ht⟩)
    fnZipDrop_cg
#print axioms fnZipDrop_card_holds
end Go.Proofs.YtiphcamiidggcaaGreatDoor
