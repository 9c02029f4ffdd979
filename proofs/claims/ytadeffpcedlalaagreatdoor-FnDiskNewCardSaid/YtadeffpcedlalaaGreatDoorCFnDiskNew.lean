/- The tied card of FnDiskNew holds. Conditions: those of the card. -/
import Derived.Test.YtadeffpcedlalaaGreatDoorRFnDiskNew
import Derived.Test.YtadeffpcedlalaaGreatDoorCards
import Derived.Test.YtadeffpcedlalaaGreatDoorTie
import Derived.SevenTiedAt
namespace Go.Proofs.YtadeffpcedlalaaGreatDoor
theorem fnDiskNew_cw : Rows.fnDiskNewRow.wfByText (OpenSpec.ofChange Rows.fnDiskNewSpec) = true := by kernel_rfl
theorem fnDiskNew_cm : Tryz.prog.mainIs = some ((true, "f140fde393fad7354b61e8b57297980d94886fc49d696616f7d8989a063c4caf").1, (true, "f140fde393fad7354b61e8b57297980d94886fc49d696616f7d8989a063c4caf").2.toList) := by kernel_rfl
theorem fnDiskNew_cf : Tryz.prog.funcNamed "loop.example/corbel/laws.FnDiskNew" = some 13 := by kernel_rfl
theorem fnDiskNew_cl : false = Tryz.prog.looks [] := by kernel_rfl
theorem fnDiskNew_cg : false = Rows.fnDiskNewRow.goesBy Tryz.prog := by kernel_rfl
theorem fnDiskNew_card_holds : Rows.FnDiskNewCardSaid :=
  Claim7.holds_tied_plain_at .later [] [.data, .data, .data, .data, .widerDeep, .pinned] true (true, "f140fde393fad7354b61e8b57297980d94886fc49d696616f7d8989a063c4caf") false
    fnDiskNew.over (fun _ h => by cases h) fnDiskNew_cw (fun _ h => by cases h) fnDiskNew_row_tie rfl ⟨rfl, rfl⟩ fnDiskNew_cm rfl
    (fun f fn hf hfn => by
      obtain rfl : f = 13 := Option.some.inj (fnDiskNew_cf.symm.trans hf) |>.symm
      obtain rfl : fn = Tryz.f13 := (Option.some.inj (Tryz.func13.symm.trans hfn)).symm
      exact ⟨fnDiskNew_cl, fun j t ht => by
        rw [Tryz.params13] at ht
        rcases j with _ | j
        · obtain rfl : t = 22 := by simpa using ht.symm
          exact (show Tryz.prog.wantsStandIn 22 = false by kernel_rfl)
        · simp at ht⟩)
    fnDiskNew_cg
#print axioms fnDiskNew_card_holds
end Go.Proofs.YtadeffpcedlalaaGreatDoor
