/- The tied card of FnZipSwap holds. Conditions: those of the card. -/
import Derived.Test.YtiphcamiidggcaaGreatDoorRFnZipSwap
import Derived.Test.YtiphcamiidggcaaGreatDoorCards
import Derived.Test.YtiphcamiidggcaaGreatDoorTie
import Derived.SevenTiedAt
namespace Go.Proofs.YtiphcamiidggcaaGreatDoor
theorem fnZipSwap_cw : Rows.fnZipSwapRow.wfByText (OpenSpec.ofChange Rows.fnZipSwapSpec) = true := by kernel_rfl
theorem fnZipSwap_cm : Tryz.prog.mainIs = some ((true, "aa7a1427f03079db5cea3e29d8da9786196e087a58f7d41393c16dd0882c0c39").1, (true, "aa7a1427f03079db5cea3e29d8da9786196e087a58f7d41393c16dd0882c0c39").2.toList) := by kernel_rfl
theorem fnZipSwap_cf : Tryz.prog.funcNamed "loop.example/corbel/laws.FnZipSwap" = some 9 := by kernel_rfl
theorem fnZipSwap_cl : false = Tryz.prog.looks [] := by kernel_rfl
theorem fnZipSwap_cg : false = Rows.fnZipSwapRow.goesBy Tryz.prog := by kernel_rfl
theorem fnZipSwap_card_holds : Rows.FnZipSwapCardSaid :=
  Claim7.holds_tied_plain_at .later [] [.data, .widerDeep, .pinned] true (true, "aa7a1427f03079db5cea3e29d8da9786196e087a58f7d41393c16dd0882c0c39") false
    fnZipSwap.over (fun _ h => by cases h) fnZipSwap_cw (fun _ h => by cases h) fnZipSwap_row_tie rfl ⟨rfl, rfl⟩ fnZipSwap_cm rfl
    (fun f fn hf hfn => by
      obtain rfl : f = 9 := Option.some.inj (fnZipSwap_cf.symm.trans hf) |>.symm
      obtain rfl : fn = Tryz.f9 := (Option.some.inj (Tryz.func9.symm.trans hfn)).symm
      exact ⟨fnZipSwap_cl, fun j t ht => by
        rw [Tryz.params9] at ht
        rcases j with _ | j
        · obtain rfl : t = 31 := by simpa using ht.symm
          exact (show Tryz.prog.wantsStandIn 31 = false by kernel_rfl)
        · simp at ht⟩)
    fnZipSwap_cg
#print axioms fnZipSwap_card_holds
end Go.Proofs.YtiphcamiidggcaaGreatDoor
