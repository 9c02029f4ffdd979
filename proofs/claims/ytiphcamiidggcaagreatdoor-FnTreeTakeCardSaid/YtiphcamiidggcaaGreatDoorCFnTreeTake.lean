/- The tied card of FnTreeTake holds. Conditions: those of the card. -/
import Derived.Test.YtiphcamiidggcaaGreatDoorRFnTreeTake
import Derived.Test.YtiphcamiidggcaaGreatDoorCards
import Derived.Test.YtiphcamiidggcaaGreatDoorTie
import Derived.SevenTiedAt
namespace Go.Proofs.YtiphcamiidggcaaGreatDoor
theorem fnTreeTake_cw : Rows.fnTreeTakeRow.wfByText (OpenSpec.ofChange Rows.fnTreeTakeSpec) = true := by kernel_rfl
theorem fnTreeTake_cm : Tryz.prog.mainIs = some ((true, "aa7a1427f03079db5cea3e29d8da9786196e087a58f7d41393c16dd0882c0c39").1, (true, "aa7a1427f03079db5cea3e29d8da9786196e087a58f7d41393c16dd0882c0c39").2.toList) := by kernel_rfl
theorem fnTreeTake_cf : Tryz.prog.funcNamed "loop.example/corbel/laws.FnTreeTake" = some 13 := by kernel_rfl
theorem fnTreeTake_cl : false = Tryz.prog.looks [] := by kernel_rfl
theorem fnTreeTake_cg : false = Rows.fnTreeTakeRow.goesBy Tryz.prog := by kernel_rfl
theorem fnTreeTake_card_holds : Rows.FnTreeTakeCardSaid :=
  Claim7.holds_tied_plain_at .later [] [.data, .widerDeep, .pinned] true (true, "aa7a1427f03079db5cea3e29d8da9786196e087a58f7d41393c16dd0882c0c39") false
    fnTreeTake.over (fun _ h => by cases h) fnTreeTake_cw (fun _ h => by cases h) fnTreeTake_row_tie rfl ⟨rfl, rfl⟩ fnTreeTake_cm rfl
    (fun f fn hf hfn => by
      obtain rfl : f = 13 := Option.some.inj (fnTreeTake_cf.symm.trans hf) |>.symm
      obtain rfl : fn = Tryz.f13 := (Option.some.inj (Tryz.func13.symm.trans hfn)).symm
      exact ⟨fnTreeTake_cl, fun j t ht => by
        rw [Tryz.params13] at ht
        rcases j with _ | j
        · obtain rfl : t = 31 := by simpa using ht.symm
          exact (show Tryz.prog.wantsStandIn 31 = false by kernel_rfl)
        · simp at ht⟩)
    fnTreeTake_cg
#print axioms fnTreeTake_card_holds
end Go.Proofs.YtiphcamiidggcaaGreatDoor
