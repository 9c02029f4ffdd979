/- The tied card of FnZipOrder holds. Conditions: those of the card. -/
import Derived.Test.YtadeffpcedlalaaGreatDoorRFnZipOrder
import Derived.Test.YtadeffpcedlalaaGreatDoorCards
import Derived.Test.YtadeffpcedlalaaGreatDoorTie
import Derived.SevenTiedAt
namespace Go.Proofs.YtadeffpcedlalaaGreatDoor
theorem fnZipOrder_cw : Rows.fnZipOrderRow.wfByText (OpenSpec.ofChange Rows.fnZipOrderSpec) = true := by kernel_rfl
theorem fnZipOrder_cm : Tryz.prog.mainIs = some ((true, "f140fde393fad7354b61e8b57297980d94886fc49d696616f7d8989a063c4caf").1, (true, "f140fde393fad7354b61e8b57297980d94886fc49d696616f7d8989a063c4caf").2.toList) := by kernel_rfl
theorem fnZipOrder_cf : Tryz.prog.funcNamed "loop.example/corbel/laws.FnZipOrder" = some 5 := by kernel_rfl
theorem fnZipOrder_cl : false = Tryz.prog.looks [] := by kernel_rfl
theorem fnZipOrder_cg : false = Rows.fnZipOrderRow.goesBy Tryz.prog := by kernel_rfl
theorem fnZipOrder_card_holds : Rows.FnZipOrderCardSaid :=
  Claim7.holds_tied_plain_at .later [] [.data, .widerDeep, .pinned] true (true, "f140fde393fad7354b61e8b57297980d94886fc49d696616f7d8989a063c4caf") false
    fnZipOrder.over (fun _ h => by cases h) fnZipOrder_cw (fun _ h => by cases h) fnZipOrder_row_tie rfl ⟨rfl, rfl⟩ fnZipOrder_cm rfl
    (fun f fn hf hfn => by
      obtain rfl : f = 5 := Option.some.inj (fnZipOrder_cf.symm.trans hf) |>.symm
      obtain rfl : fn = Tryz.f5 := (Option.some.inj (Tryz.func5.symm.trans hfn)).symm
      exact ⟨fnZipOrder_cl, fun j t ht => by
        rw [Tryz.params5] at ht
        rcases j with _ | j
        · obtain rfl : t = 22 := by simpa using ht.symm
          exact (show Tryz.prog.wantsStandIn 22 = false by kernel_rfl)
        · simp at ht⟩)
    fnZipOrder_cg
#print axioms fnZipOrder_card_holds
end Go.Proofs.YtadeffpcedlalaaGreatDoor
