/- The tied card of FnZipTwice holds. Conditions: those of the card. -/
import Derived.Test.YtiphcamiidggcaaGreatDoorRFnZipTwice
import Derived.Test.YtiphcamiidggcaaGreatDoorCards
import Derived.Test.YtiphcamiidggcaaGreatDoorTie
import Derived.SevenTiedAt
namespace Go.Proofs.YtiphcamiidggcaaGreatDoor
theorem fnZipTwice_cw : Rows.fnZipTwiceRow.wfByText (OpenSpec.ofChange Rows.fnZipTwiceSpec) = true := by kernel_rfl
theorem fnZipTwice_cm : Tryz.prog.mainIs = some ((true, "aa7a1427f03079db5cea3e29d8da9786196e087a58f7d41393c16dd0882c0c39").1, (true, "aa7a1427f03079db5cea3e29d8da9786196e087a58f7d41393c16dd0882c0c39").2.toList) := by kernel_rfl
theorem fnZipTwice_cf : Tryz.prog.funcNamed "loop.example/corbel/laws.FnZipTwice" = some 8 := by kernel_rfl
theorem fnZipTwice_cl : false = Tryz.prog.looks [] := by kernel_rfl
theorem fnZipTwice_cg : false = Rows.fnZipTwiceRow.goesBy Tryz.prog := by kernel_rfl
theorem fnZipTwice_card_holds : Rows.FnZipTwiceCardSaid :=
  Claim7.holds_tied_plain_at .later [] [.data, .widerDeep, .pinned] true (true, "aa7a1427f03079db5cea3e29d8da9786196e087a58f7d41393c16dd0882c0c39") false
    fnZipTwice.over (fun _ h => by cases h) fnZipTwice_cw (fun _ h => by cases h) fnZipTwice_row_tie rfl ⟨rfl, rfl⟩ fnZipTwice_cm rfl
    (fun f fn hf hfn => by
      obtain rfl : f = 8 := Option.some.inj (fnZipTwice_cf.symm.trans hf) |>.symm
      obtain rfl : fn = Tryz.f8 := (Option.some.inj (Tryz.func8.symm.trans hfn)).symm
      exact ⟨fnZipTwice_cl, fun j t ht => by
        rw [Tryz.params8] at ht
        rcases j with _ | j
        · obtain rfl : t = 31 := by simpa using ht.symm
          exact (show Tryz.prog.wantsStandIn 31 = false by kernel_rfl)
        · rcases j with _ | j
          · obtain rfl : t = 31 := by simpa using ht.symm
            exact (show Tryz.prog.wantsStandIn 31 = false by kernel_rfl)
          · simp at ht⟩)
    fnZipTwice_cg
#print axioms fnZipTwice_card_holds
end Go.Proofs.YtiphcamiidggcaaGreatDoor
