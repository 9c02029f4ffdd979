/- The tied card of FnExactTreeTake holds. Conditions: those of the card. -/
import Derived.Test.YtiphcamiidggcaaGreatDoorRFnExactTreeTake
import Derived.Test.YtiphcamiidggcaaGreatDoorCards
import Derived.Test.YtiphcamiidggcaaGreatDoorTie
import Derived.SevenTiedAt
namespace Go.Proofs.YtiphcamiidggcaaGreatDoor
theorem fnExactTreeTake_cw : Rows.fnExactTreeTakeRow.wfByText (OpenSpec.ofChange Rows.fnExactTreeTakeSpec) = true := by kernel_rfl
theorem fnExactTreeTake_cm : Tryz.prog.mainIs = some ((true, "aa7a1427f03079db5cea3e29d8da9786196e087a58f7d41393c16dd0882c0c39").1, (true, "aa7a1427f03079db5cea3e29d8da9786196e087a58f7d41393c16dd0882c0c39").2.toList) := by kernel_rfl
theorem fnExactTreeTake_cf : Tryz.prog.funcNamed "loop.example/corbel/laws.FnExactTreeTake" = some 3 := by kernel_rfl
theorem fnExactTreeTake_cl : false = Tryz.prog.looks [] := by kernel_rfl
theorem fnExactTreeTake_cg : false = Rows.fnExactTreeTakeRow.goesBy Tryz.prog := by kernel_rfl
theorem fnExactTreeTake_card_holds : Rows.FnExactTreeTakeCardSaid :=
  Claim7.holds_tied_plain_at .later [] [.data, .widerDeep, .pinned] true (true, "aa7a1427f03079db5cea3e29d8da9786196e087a58f7d41393c16dd0882c0c39") false
    fnExactTreeTake.over (fun _ h => by cases h) fnExactTreeTake_cw (fun _ h => by cases h) fnExactTreeTake_row_tie rfl ⟨rfl, rfl⟩ fnExactTreeTake_cm rfl
    (fun f fn hf hfn => by
      obtain rfl : f = 3 := Option.some.inj (fnExactTreeTake_cf.symm.trans hf) |>.symm
      obtain rfl : fn = Tryz.f3 := (Option.some.inj (Tryz.func3.symm.trans hfn)).symm
      exact ⟨fnExactTreeTake_cl, fun j t ht => by
        rw [Tryz.params3] at ht
        rcases j with _ | j
        · obtain rfl : t = 22 := by simpa using ht.symm
          exact (show Tryz.prog.wantsStandIn 22 = false by kernel_rfl)
        · rcases j with _ | j
          · obtain rfl : t = 9 := by simpa using ht.symm
            exact (show Tryz.prog.wantsStandIn 9 = false by kernel_rfl)
          · simp at ht⟩)
    fnExactTreeTake_cg
#print axioms fnExactTreeTake_card_holds
end Go.Proofs.YtiphcamiidggcaaGreatDoor
