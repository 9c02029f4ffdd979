/- The tied card of FnDiskNone holds. Conditions: those of the card. -/
import Derived.Test.YtiphcamiidggcaaGreatDoorRFnDiskNone
import Derived.Test.YtiphcamiidggcaaGreatDoorCards
import Derived.Test.YtiphcamiidggcaaGreatDoorTie
import Derived.SevenTiedAt
namespace Go.Proofs.YtiphcamiidggcaaGreatDoor
theorem fnDiskNone_cw : Rows.fnDiskNoneRow.wfByText (OpenSpec.ofChange Rows.fnDiskNoneSpec) = true := by kernel_rfl
theorem fnDiskNone_cm : Tryz.prog.mainIs = some ((true, "aa7a1427f03079db5cea3e29d8da9786196e087a58f7d41393c16dd0882c0c39").1, (true, "aa7a1427f03079db5cea3e29d8da9786196e087a58f7d41393c16dd0882c0c39").2.toList) := by kernel_rfl
theorem fnDiskNone_cf : Tryz.prog.funcNamed "loop.example/corbel/laws.FnDiskNone" = some 14 := by kernel_rfl
theorem fnDiskNone_cl : false = Tryz.prog.looks [] := by kernel_rfl
theorem fnDiskNone_cg : false = Rows.fnDiskNoneRow.goesBy Tryz.prog := by kernel_rfl
theorem fnDiskNone_card_holds : Rows.FnDiskNoneCardSaid :=
  Claim7.holds_tied_plain_at .later [] [.data, .data, .data, .data, .widerDeep, .pinned] true (true, "aa7a1427f03079db5cea3e29d8da9786196e087a58f7d41393c16dd0882c0c39") false
    fnDiskNone.over (fun _ h => by cases h) fnDiskNone_cw (fun _ h => by cases h) fnDiskNone_row_tie rfl ⟨rfl, rfl⟩ fnDiskNone_cm rfl
    (fun f fn hf hfn => by
      obtain rfl : f = 14 := Option.some.inj (fnDiskNone_cf.symm.trans hf) |>.symm
      obtain rfl : fn = Tryz.f14 := (Option.some.inj (Tryz.func14.symm.trans hfn)).symm
      exact ⟨fnDiskNone_cl, fun j t ht => by
        rw [Tryz.params14] at ht
        rcases j with _ | j
        · obtain rfl : t = 31 := by simpa using ht.symm
          exact (show Tryz.prog.wantsStandIn 31 = false by kernel_rfl)
        · simp at ht⟩)
    fnDiskNone_cg
#print axioms fnDiskNone_card_holds
end Go.Proofs.YtiphcamiidggcaaGreatDoor
