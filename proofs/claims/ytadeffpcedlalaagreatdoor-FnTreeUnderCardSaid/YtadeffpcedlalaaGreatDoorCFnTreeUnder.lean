/- The tied card of FnTreeUnder holds. Conditions: those of the card. -/
import Derived.Test.YtadeffpcedlalaaGreatDoorRFnTreeUnder
import Derived.Test.YtadeffpcedlalaaGreatDoorCards
import Derived.Test.YtadeffpcedlalaaGreatDoorTie
import Derived.SevenTiedAt
namespace Go.Proofs.YtadeffpcedlalaaGreatDoor
theorem fnTreeUnder_cw : Rows.fnTreeUnderRow.wfByText (OpenSpec.ofChange Rows.fnTreeUnderSpec) = true := by kernel_rfl
theorem fnTreeUnder_cm : Tryz.prog.mainIs = some ((true, "f140fde393fad7354b61e8b57297980d94886fc49d696616f7d8989a063c4caf").1, (true, "f140fde393fad7354b61e8b57297980d94886fc49d696616f7d8989a063c4caf").2.toList) := by kernel_rfl
theorem fnTreeUnder_cf : Tryz.prog.funcNamed "loop.example/corbel/laws.FnTreeUnder" = some 3 := by kernel_rfl
theorem fnTreeUnder_cl : false = Tryz.prog.looks [] := by kernel_rfl
theorem fnTreeUnder_cg : false = Rows.fnTreeUnderRow.goesBy Tryz.prog := by kernel_rfl
theorem fnTreeUnder_card_holds : Rows.FnTreeUnderCardSaid :=
  Claim7.holds_tied_plain_at .later [] [.data, .widerDeep, .pinned] true (true, "f140fde393fad7354b61e8b57297980d94886fc49d696616f7d8989a063c4caf") false
    fnTreeUnder.over (fun _ h => by cases h) fnTreeUnder_cw (fun _ h => by cases h) fnTreeUnder_row_tie rfl ⟨rfl, rfl⟩ fnTreeUnder_cm rfl
    (fun f fn hf hfn => by
      obtain rfl : f = 3 := Option.some.inj (fnTreeUnder_cf.symm.trans hf) |>.symm
      obtain rfl : fn = Tryz.f3 := (Option.some.inj (Tryz.func3.symm.trans hfn)).symm
      exact ⟨fnTreeUnder_cl, fun j t ht => by
        rw [Tryz.params3] at ht
        rcases j with _ | j
        · obtain rfl : t = 22 := by simpa using ht.symm
          exact (show Tryz.prog.wantsStandIn 22 = false by kernel_rfl)
        · simp at ht⟩)
    fnTreeUnder_cg
#print axioms fnTreeUnder_card_holds
end Go.Proofs.YtadeffpcedlalaaGreatDoor
