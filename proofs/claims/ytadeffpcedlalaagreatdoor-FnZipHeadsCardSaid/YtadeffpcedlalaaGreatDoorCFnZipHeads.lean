/- The tied card of FnZipHeads holds. Conditions: those of the card. -/
import Derived.Test.YtadeffpcedlalaaGreatDoorRFnZipHeads
import Derived.Test.YtadeffpcedlalaaGreatDoorCards
import Derived.Test.YtadeffpcedlalaaGreatDoorTie
import Derived.SevenTiedAt
namespace Go.Proofs.YtadeffpcedlalaaGreatDoor
theorem fnZipHeads_cw : Rows.fnZipHeadsRow.wfByText (OpenSpec.ofChange Rows.fnZipHeadsSpec) = true := by kernel_rfl
theorem fnZipHeads_cm : Tryz.prog.mainIs = some ((true, "f140fde393fad7354b61e8b57297980d94886fc49d696616f7d8989a063c4caf").1, (true, "f140fde393fad7354b61e8b57297980d94886fc49d696616f7d8989a063c4caf").2.toList) := by kernel_rfl
theorem fnZipHeads_cf : Tryz.prog.funcNamed "loop.example/corbel/laws.FnZipHeads" = some 8 := by kernel_rfl
theorem fnZipHeads_cl : false = Tryz.prog.looks [] := by kernel_rfl
theorem fnZipHeads_cg : false = Rows.fnZipHeadsRow.goesBy Tryz.prog := by kernel_rfl
theorem fnZipHeads_card_holds : Rows.FnZipHeadsCardSaid :=
  Claim7.holds_tied_plain_at .later [] [.data, .widerDeep, .pinned] true (true, "f140fde393fad7354b61e8b57297980d94886fc49d696616f7d8989a063c4caf") false
    fnZipHeads.over (fun _ h => by cases h) fnZipHeads_cw (fun _ h => by cases h) fnZipHeads_row_tie rfl ⟨rfl, rfl⟩ fnZipHeads_cm rfl
    (fun f fn hf hfn => by
      obtain rfl : f = 8 := Option.some.inj (fnZipHeads_cf.symm.trans hf) |>.symm
      obtain rfl : fn = Tryz.f8 := (Option.some.inj (Tryz.func8.symm.trans hfn)).symm
      exact ⟨fnZipHeads_cl, fun j t ht => by
        rw [Tryz.params8] at ht
        rcases j with _ | j
        · obtain rfl : t = 22 := by simpa using ht.symm
          exact (show Tryz.prog.wantsStandIn 22 = false by kernel_rfl)
        · rcases j with _ | j
          · obtain rfl : t = 22 := by simpa using ht.symm
            exact (show Tryz.prog.wantsStandIn 22 = false by kernel_rfl)
          · simp at ht⟩)
    fnZipHeads_cg
#print axioms fnZipHeads_card_holds
end Go.Proofs.YtadeffpcedlalaaGreatDoor
