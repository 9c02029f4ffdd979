/- The tied card of FnDiskOver holds. Conditions: those of the card. -/
import Derived.Test.YtadeffpcedlalaaGreatDoorRFnDiskOver
import Derived.Test.YtadeffpcedlalaaGreatDoorCards
import Derived.Test.YtadeffpcedlalaaGreatDoorTie
import Derived.SevenTiedAt
namespace Go.Proofs.YtadeffpcedlalaaGreatDoor
theorem fnDiskOver_cw : Rows.fnDiskOverRow.wfByText (OpenSpec.ofChange Rows.fnDiskOverSpec) = true := by kernel_rfl
theorem fnDiskOver_cm : Tryz.prog.mainIs = some ((true, "f140fde393fad7354b61e8b57297980d94886fc49d696616f7d8989a063c4caf").1, (true, "f140fde393fad7354b61e8b57297980d94886fc49d696616f7d8989a063c4caf").2.toList) := by kernel_rfl
theorem fnDiskOver_cf : Tryz.prog.funcNamed "loop.example/corbel/laws.FnDiskOver" = some 10 := by kernel_rfl
theorem fnDiskOver_cl : false = Tryz.prog.looks [] := by kernel_rfl
theorem fnDiskOver_cg : false = Rows.fnDiskOverRow.goesBy Tryz.prog := by kernel_rfl
theorem fnDiskOver_card_holds : Rows.FnDiskOverCardSaid :=
  Claim7.holds_tied_plain_at .later [] [.data, .data, .data, .data, .widerDeep, .pinned] true (true, "f140fde393fad7354b61e8b57297980d94886fc49d696616f7d8989a063c4caf") false
    fnDiskOver.over (fun _ h => by cases h) fnDiskOver_cw (fun _ h => by cases h) fnDiskOver_row_tie rfl ⟨rfl, rfl⟩ fnDiskOver_cm rfl
    (fun f fn hf hfn => by
      obtain rfl : f = 10 := Option.some.inj (fnDiskOver_cf.symm.trans hf) |>.symm
      obtain rfl : fn = Tryz.f10 := (Option.some.inj (Tryz.func10.symm.trans hfn)).symm
      exact ⟨fnDiskOver_cl, fun j t ht => by
        rw [Tryz.params10] at ht
        rcases j with _ | j
        · obtain rfl : t = 22 := by simpa using ht.symm
          exact (show Tryz.prog.wantsStandIn 22 = false by kernel_rfl)
        · simp at ht⟩)
    fnDiskOver_cg
#print axioms fnDiskOver_card_holds
end Go.Proofs.YtadeffpcedlalaaGreatDoor
