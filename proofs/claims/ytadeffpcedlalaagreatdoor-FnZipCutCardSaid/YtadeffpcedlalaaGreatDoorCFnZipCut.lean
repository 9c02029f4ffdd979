/- The tied card of FnZipCut holds. Conditions: those of the card. -/
import Derived.Test.YtadeffpcedlalaaGreatDoorRFnZipCut
import Derived.Test.YtadeffpcedlalaaGreatDoorCards
import Derived.Test.YtadeffpcedlalaaGreatDoorTie
import Derived.SevenTiedAt
namespace Go.Proofs.YtadeffpcedlalaaGreatDoor
theorem fnZipCut_cw : Rows.fnZipCutRow.wfByText (OpenSpec.ofChange Rows.fnZipCutSpec) = true := by kernel_rfl
theorem fnZipCut_cm : Tryz.prog.mainIs = some ((true, "f140fde393fad7354b61e8b57297980d94886fc49d696616f7d8989a063c4caf").1, (true, "f140fde393fad7354b61e8b57297980d94886fc49d696616f7d8989a063c4caf").2.toList) := by kernel_rfl
theorem fnZipCut_cf : Tryz.prog.funcNamed "loop.example/corbel/laws.FnZipCut" = some 7 := by kernel_rfl
theorem fnZipCut_cl : false = Tryz.prog.looks [] := by kernel_rfl
theorem fnZipCut_cg : false = Rows.fnZipCutRow.goesBy Tryz.prog := by kernel_rfl
theorem fnZipCut_card_holds : Rows.FnZipCutCardSaid :=
  Claim7.holds_tied_plain_at .later [] [.data, .widerDeep, .pinned] true (true, "f140fde393fad7354b61e8b57297980d94886fc49d696616f7d8989a063c4caf") false
    fnZipCut.over (fun _ h => by cases h) fnZipCut_cw (fun _ h => by cases h) fnZipCut_row_tie rfl ⟨rfl, rfl⟩ fnZipCut_cm rfl
    (fun f fn hf hfn => by
      obtain rfl : f = 7 := Option.some.inj (fnZipCut_cf.symm.trans hf) |>.symm
      obtain rfl : fn = Tryz.f7 := (Option.some.inj (Tryz.func7.symm.trans hfn)).symm
      exact ⟨fnZipCut_cl, fun j t ht => by
        rw [Tryz.params7] at ht
        rcases j with _ | j
        · obtain rfl : t = 22 := by simpa using ht.symm
          exact (show Tryz.prog.wantsStandIn 22 = false by kernel_rfl)
        · simp at ht⟩)
    fnZipCut_cg
#print axioms fnZipCut_card_holds
end Go.Proofs.YtadeffpcedlalaaGreatDoor
