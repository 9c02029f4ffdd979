/- The tied card of FnTreeZip holds. Conditions: those of the card. -/
import Derived.Test.YtiphcamiidggcaaGreatDoorRFnTreeZip
import Derived.Test.YtiphcamiidggcaaGreatDoorCards
import Derived.Test.YtiphcamiidggcaaGreatDoorTie
import Derived.SevenTiedAt
namespace Go.Proofs.YtiphcamiidggcaaGreatDoor
theorem fnTreeZip_cw : Rows.fnTreeZipRow.wfByText (OpenSpec.ofChange Rows.fnTreeZipSpec) = true := by kernel_rfl
theorem fnTreeZip_cm : Tryz.prog.mainIs = some ((true, "aa7a1427f03079db5cea3e29d8da9786196e087a58f7d41393c16dd0882c0c39").1, (true, "aa7a1427f03079db5cea3e29d8da9786196e087a58f7d41393c16dd0882c0c39").2.toList) := by kernel_rfl
theorem fnTreeZip_cf : Tryz.prog.funcNamed "loop.example/corbel/laws.FnTreeZip" = some 11 := by kernel_rfl
theorem fnTreeZip_cl : false = Tryz.prog.looks [] := by kernel_rfl
theorem fnTreeZip_cg : false = Rows.fnTreeZipRow.goesBy Tryz.prog := by kernel_rfl
theorem fnTreeZip_card_holds : Rows.FnTreeZipCardSaid :=
  Claim7.holds_tied_plain_at .later [] [.data, .widerDeep, .pinned] true (true, "aa7a1427f03079db5cea3e29d8da9786196e087a58f7d41393c16dd0882c0c39") false
    fnTreeZip.over (fun _ h => by cases h) fnTreeZip_cw (fun _ h => by cases h) fnTreeZip_row_tie rfl ⟨rfl, rfl⟩ fnTreeZip_cm rfl
    (fun f fn hf hfn => by
      obtain rfl : f = 11 := Option.some.inj (fnTreeZip_cf.symm.trans hf) |>.symm
      obtain rfl : fn = Tryz.f11 := (Option.some.inj (Tryz.func11.symm.trans hfn)).symm
      exact ⟨fnTreeZip_cl, fun j t ht => by
        rw [Tryz.params11] at ht
        rcases j with _ | j
        · obtain rfl : t = 31 := by simpa using ht.symm
          exact (show Tryz.prog.wantsStandIn 31 = false by kernel_rfl)
        · simp at ht⟩)
    fnTreeZip_cg
#print axioms fnTreeZip_card_holds
end Go.Proofs.YtiphcamiidggcaaGreatDoor
