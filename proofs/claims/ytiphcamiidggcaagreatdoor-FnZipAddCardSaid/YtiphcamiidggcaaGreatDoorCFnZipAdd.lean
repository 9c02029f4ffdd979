/- The tied card of FnZipAdd holds. Conditions: those of the card. -/
import Derived.Test.YtiphcamiidggcaaGreatDoorRFnZipAdd
import Derived.Test.YtiphcamiidggcaaGreatDoorCards
import Derived.Test.YtiphcamiidggcaaGreatDoorTie
import Derived.SevenTiedAt
namespace Go.Proofs.YtiphcamiidggcaaGreatDoor
theorem fnZipAdd_cw : Rows.fnZipAddRow.wfByText (OpenSpec.ofChange Rows.fnZipAddSpec) = true := by kernel_rfl
theorem fnZipAdd_cm : Tryz.prog.mainIs = some ((true, "aa7a1427f03079db5cea3e29d8da9786196e087a58f7d41393c16dd0882c0c39").1, (true, "aa7a1427f03079db5cea3e29d8da9786196e087a58f7d41393c16dd0882c0c39").2.toList) := by kernel_rfl
theorem fnZipAdd_cf : Tryz.prog.funcNamed "loop.example/corbel/laws.FnZipAdd" = some 10 := by kernel_rfl
theorem fnZipAdd_cl : false = Tryz.prog.looks [] := by kernel_rfl
theorem fnZipAdd_cg : false = Rows.fnZipAddRow.goesBy Tryz.prog := by kernel_rfl
theorem fnZipAdd_card_holds : Rows.FnZipAddCardSaid :=
  Claim7.holds_tied_plain_at .later [] [.data, .widerDeep, .pinned] true (true, "aa7a1427f03079db5cea3e29d8da9786196e087a58f7d41393c16dd0882c0c39") false
    fnZipAdd.over (fun _ h => by cases h) fnZipAdd_cw (fun _ h => by cases h) fnZipAdd_row_tie rfl ⟨rfl, rfl⟩ fnZipAdd_cm rfl
    (fun f fn hf hfn => by
      obtain rfl : f = 10 := Option.some.inj (fnZipAdd_cf.symm.trans hf) |>.symm
      obtain rfl : fn = Tryz.f10 := (Option.some.inj (Tryz.func10.symm.trans hfn)).symm
      exact ⟨fnZipAdd_cl, fun j t ht => by
        rw [Tryz.params10] at ht
        rcases j with _ | j
        · obtain rfl : t = 31 := by simpa using ht.symm
          exact (show Tryz.prog.wantsStandIn 31 = false by kernel_rfl)
        · simp at ht⟩)
    fnZipAdd_cg
#print axioms fnZipAdd_card_holds
end Go.Proofs.YtiphcamiidggcaaGreatDoor
