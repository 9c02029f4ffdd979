/- The tied card of FnDiskRise holds. Conditions: those of the card. -/
import Derived.Test.YtadeffpcedlalaaGreatDoorRFnDiskRise
import Derived.Test.YtadeffpcedlalaaGreatDoorCards
import Derived.Test.YtadeffpcedlalaaGreatDoorTie
import Derived.SevenTiedAt
namespace Go.Proofs.YtadeffpcedlalaaGreatDoor
theorem fnDiskRise_cw : Rows.fnDiskRiseRow.wfByText (OpenSpec.ofChange Rows.fnDiskRiseSpec) = true := by kernel_rfl
theorem fnDiskRise_cm : Tryz.prog.mainIs = some ((true, "f140fde393fad7354b61e8b57297980d94886fc49d696616f7d8989a063c4caf").1, (true, "f140fde393fad7354b61e8b57297980d94886fc49d696616f7d8989a063c4caf").2.toList) := by kernel_rfl
theorem fnDiskRise_cf : Tryz.prog.funcNamed "loop.example/corbel/laws.FnDiskRise" = some 12 := by kernel_rfl
theorem fnDiskRise_cl : false = Tryz.prog.looks [] := by kernel_rfl
theorem fnDiskRise_cg : false = Rows.fnDiskRiseRow.goesBy Tryz.prog := by kernel_rfl
theorem fnDiskRise_card_holds : Rows.FnDiskRiseCardSaid :=
  Claim7.holds_tied_plain_at .later [] [.data, .data, .data, .data, .widerDeep, .pinned] true (true, "f140fde393fad7354b61e8b57297980d94886fc49d696616f7d8989a063c4caf") false
    fnDiskRise.over (fun _ h => by cases h) fnDiskRise_cw (fun _ h => by cases h) fnDiskRise_row_tie rfl ⟨rfl, rfl⟩ fnDiskRise_cm rfl
    (fun f fn hf hfn => by
      obtain rfl : f = 12 := Option.some.inj (fnDiskRise_cf.symm.trans hf) |>.symm
      obtain rfl : fn = Tryz.f12 := (Option.some.inj (Tryz.func12.symm.trans hfn)).symm
      exact ⟨fnDiskRise_cl, fun j t ht => by
        rw [Tryz.params12] at ht
        rcases j with _ | j
        · obtain rfl : t = 22 := by simpa using ht.symm
          exact (show Tryz.prog.wantsStandIn 22 = false by kernel_rfl)
        · simp at ht⟩)
    fnDiskRise_cg
#print axioms fnDiskRise_card_holds
end Go.Proofs.YtadeffpcedlalaaGreatDoor
