/- The tied card of FnTreeBack holds. Conditions: those of the card. -/
import Derived.Test.YtiphcamiidggcaaGreatDoorRFnTreeBack
import Derived.Test.YtiphcamiidggcaaGreatDoorCards
import Derived.Test.YtiphcamiidggcaaGreatDoorTie
import Derived.SevenTiedAt
namespace Go.Proofs.YtiphcamiidggcaaGreatDoor
theorem fnTreeBack_cw : Rows.fnTreeBackRow.wfByText (OpenSpec.ofChange Rows.fnTreeBackSpec) = true := by kernel_rfl
theorem fnTreeBack_cm : Tryz.prog.mainIs = some ((true, "aa7a1427f03079db5cea3e29d8da9786196e087a58f7d41393c16dd0882c0c39").1, (true, "aa7a1427f03079db5cea3e29d8da9786196e087a58f7d41393c16dd0882c0c39").2.toList) := by kernel_rfl
theorem fnTreeBack_cf : Tryz.prog.funcNamed "loop.example/corbel/laws.FnTreeBack" = some 12 := by kernel_rfl
theorem fnTreeBack_cl : false = Tryz.prog.looks [] := by kernel_rfl
theorem fnTreeBack_cg : false = Rows.fnTreeBackRow.goesBy Tryz.prog := by kernel_rfl
theorem fnTreeBack_card_holds : Rows.FnTreeBackCardSaid :=
  Claim7.holds_tied_plain_at .later [] [.data, .widerDeep, .pinned] true (true, "aa7a1427f03079db5cea3e29d8da9786196e087a58f7d41393c16dd0882c0c39") false
    fnTreeBack.over (fun _ h => by cases h) fnTreeBack_cw (fun _ h => by cases h) fnTreeBack_row_tie rfl ⟨rfl, rfl⟩ fnTreeBack_cm rfl
    (fun f fn hf hfn => by
      obtain rfl : f = 12 := Option.some.inj (fnTreeBack_cf.symm.trans hf) |>.symm
      obtain rfl : fn = Tryz.f12 := (Option.some.inj (Tryz.func12.symm.trans hfn)).symm
      exact ⟨fnTreeBack_cl, fun j t ht => by
        rw [Tryz.params12] at ht
        rcases j with _ | j
        · obtain rfl : t = 31 := by simpa using ht.symm
          exact (show Tryz.prog.wantsStandIn 31 = false by kernel_rfl)
        · simp at ht⟩)
    fnTreeBack_cg
#print axioms fnTreeBack_card_holds
end Go.Proofs.YtiphcamiidggcaaGreatDoor
