/- The tied card of FnDiskTear holds. Conditions: those of the card. -/
import Derived.Test.YtadeffpcedlalaaGreatDoorRFnDiskTear
import Derived.Test.YtadeffpcedlalaaGreatDoorCards
import Derived.Test.YtadeffpcedlalaaGreatDoorTie
import Derived.SevenTiedAt
namespace Go.Proofs.YtadeffpcedlalaaGreatDoor
theorem fnDiskTear_cw : Rows.fnDiskTearRow.wfByText (OpenSpec.ofChange Rows.fnDiskTearSpec) = true := by kernel_rfl
theorem fnDiskTear_cm : Tryz.prog.mainIs = some ((true, "f140fde393fad7354b61e8b57297980d94886fc49d696616f7d8989a063c4caf").1, (true, "f140fde393fad7354b61e8b57297980d94886fc49d696616f7d8989a063c4caf").2.toList) := by kernel_rfl
theorem fnDiskTear_cf : Tryz.prog.funcNamed "loop.example/corbel/laws.FnDiskTear" = some 11 := by kernel_rfl
theorem fnDiskTear_cl : false = Tryz.prog.looks [] := by kernel_rfl
theorem fnDiskTear_cg : false = Rows.fnDiskTearRow.goesBy Tryz.prog := by kernel_rfl
theorem fnDiskTear_card_holds : Rows.FnDiskTearCardSaid :=
  Claim7.holds_tied_plain_at .later [] [.data, .data, .data, .data, .widerDeep, .pinned] true (true, "f140fde393fad7354b61e8b57297980d94886fc49d696616f7d8989a063c4caf") false
    fnDiskTear.over (fun _ h => by cases h) fnDiskTear_cw (fun _ h => by cases h) fnDiskTear_row_tie rfl ⟨rfl, rfl⟩ fnDiskTear_cm rfl
    (fun f fn hf hfn => by
      obtain rfl : f = 11 := Option.some.inj (fnDiskTear_cf.symm.trans hf) |>.symm
      obtain rfl : fn = Tryz.f11 := (Option.some.inj (Tryz.func11.symm.trans hfn)).symm
      exact ⟨fnDiskTear_cl, fun j t ht => by
        rw [Tryz.params11] at ht
        rcases j with _ | j
        · obtain rfl : t = 22 := by simpa using ht.symm
          exact (show Tryz.prog.wantsStandIn 22 = false by kernel_rfl)
        · simp at ht⟩)
    fnDiskTear_cg
#print axioms fnDiskTear_card_holds
end Go.Proofs.YtadeffpcedlalaaGreatDoor
