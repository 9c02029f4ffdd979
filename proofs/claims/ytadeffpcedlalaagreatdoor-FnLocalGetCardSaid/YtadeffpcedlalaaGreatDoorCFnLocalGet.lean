/- The tied card of FnLocalGet holds. Conditions: those of the card. -/
import Derived.Test.YtadeffpcedlalaaGreatDoorRFnLocalGet
import Derived.Test.YtadeffpcedlalaaGreatDoorCards
import Derived.Test.YtadeffpcedlalaaGreatDoorTie
import Derived.SevenTiedAt
namespace Go.Proofs.YtadeffpcedlalaaGreatDoor
theorem fnLocalGet_cw : Rows.fnLocalGetRow.wfByText (OpenSpec.ofChange Rows.fnLocalGetSpec) = true := by kernel_rfl
theorem fnLocalGet_cm : Tryz.prog.mainIs = some ((true, "f140fde393fad7354b61e8b57297980d94886fc49d696616f7d8989a063c4caf").1, (true, "f140fde393fad7354b61e8b57297980d94886fc49d696616f7d8989a063c4caf").2.toList) := by kernel_rfl
theorem fnLocalGet_cf : Tryz.prog.funcNamed "loop.example/corbel/laws.FnLocalGet" = some 6 := by kernel_rfl
theorem fnLocalGet_cl : false = Tryz.prog.looks [] := by kernel_rfl
theorem fnLocalGet_cg : false = Rows.fnLocalGetRow.goesBy Tryz.prog := by kernel_rfl
theorem fnLocalGet_card_holds : Rows.FnLocalGetCardSaid :=
  Claim7.holds_tied_plain_at .later [] [.data, .widerDeep, .pinned] true (true, "f140fde393fad7354b61e8b57297980d94886fc49d696616f7d8989a063c4caf") false
    fnLocalGet.over (fun _ h => by cases h) fnLocalGet_cw (fun _ h => by cases h) fnLocalGet_row_tie rfl ⟨rfl, rfl⟩ fnLocalGet_cm rfl
    (fun f fn hf hfn => by
      obtain rfl : f = 6 := Option.some.inj (fnLocalGet_cf.symm.trans hf) |>.symm
      obtain rfl : fn = Tryz.f6 := (Option.some.inj (Tryz.func6.symm.trans hfn)).symm
      exact ⟨fnLocalGet_cl, fun j t ht => by
        rw [Tryz.params6] at ht
        rcases j with _ | j
        · obtain rfl : t = 22 := by simpa using ht.symm
          exact (show Tryz.prog.wantsStandIn 22 = false by kernel_rfl)
        · simp at ht⟩)
    fnLocalGet_cg
#print axioms fnLocalGet_card_holds
end Go.Proofs.YtadeffpcedlalaaGreatDoor
