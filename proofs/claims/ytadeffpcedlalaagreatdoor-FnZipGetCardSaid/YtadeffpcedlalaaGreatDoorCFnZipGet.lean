/- The tied card of FnZipGet holds. Conditions: those of the card. -/
import Derived.Test.YtadeffpcedlalaaGreatDoorRFnZipGet
import Derived.Test.YtadeffpcedlalaaGreatDoorCards
import Derived.Test.YtadeffpcedlalaaGreatDoorTie
import Derived.SevenTiedAt
namespace Go.Proofs.YtadeffpcedlalaaGreatDoor
theorem fnZipGet_cw : Rows.fnZipGetRow.wfByText (OpenSpec.ofChange Rows.fnZipGetSpec) = true := by kernel_rfl
theorem fnZipGet_cm : Tryz.prog.mainIs = some ((true, "f140fde393fad7354b61e8b57297980d94886fc49d696616f7d8989a063c4caf").1, (true, "f140fde393fad7354b61e8b57297980d94886fc49d696616f7d8989a063c4caf").2.toList) := by kernel_rfl
theorem fnZipGet_cf : Tryz.prog.funcNamed "loop.example/corbel/laws.FnZipGet" = some 14 := by kernel_rfl
theorem fnZipGet_cl : false = Tryz.prog.looks [] := by kernel_rfl
theorem fnZipGet_cg : false = Rows.fnZipGetRow.goesBy Tryz.prog := by kernel_rfl
theorem fnZipGet_card_holds : Rows.FnZipGetCardSaid :=
  Claim7.holds_tied_plain_at .later [] [.data, .widerDeep, .pinned] true (true, "f140fde393fad7354b61e8b57297980d94886fc49d696616f7d8989a063c4caf") false
    fnZipGet.over (fun _ h => by cases h) fnZipGet_cw (fun _ h => by cases h) fnZipGet_row_tie rfl ⟨rfl, rfl⟩ fnZipGet_cm rfl
    (fun f fn hf hfn => by
      obtain rfl : f = 14 := Option.some.inj (fnZipGet_cf.symm.trans hf) |>.symm
      obtain rfl : fn = Tryz.f14 := (Option.some.inj (Tryz.func14.symm.trans hfn)).symm
      exact ⟨fnZipGet_cl, fun j t ht => by
        rw [Tryz.params14] at ht
        rcases j with _ | j
        · obtain rfl : t = 22 := by simpa using ht.symm
          exact (show Tryz.prog.wantsStandIn 22 = false by kernel_rfl)
        · simp at ht⟩)
    fnZipGet_cg
#print axioms fnZipGet_card_holds
end Go.Proofs.YtadeffpcedlalaaGreatDoor
