/- The tied card of FnZip holds. Conditions: those of the card. -/
import Derived.Test.YtadeffpcedlalaaGreatDoorRFnZip
import Derived.Test.YtadeffpcedlalaaGreatDoorCards
import Derived.Test.YtadeffpcedlalaaGreatDoorTie
import Derived.SevenTiedAt
namespace Go.Proofs.YtadeffpcedlalaaGreatDoor
theorem fnZip_cw : Rows.fnZipRow.wfByText (OpenSpec.ofChange Rows.fnZipSpec) = true := by kernel_rfl
theorem fnZip_cm : Tryz.prog.mainIs = some ((true, "f140fde393fad7354b61e8b57297980d94886fc49d696616f7d8989a063c4caf").1, (true, "f140fde393fad7354b61e8b57297980d94886fc49d696616f7d8989a063c4caf").2.toList) := by kernel_rfl
theorem fnZip_cf : Tryz.prog.funcNamed "loop.example/corbel/laws.FnZip" = some 9 := by kernel_rfl
theorem fnZip_cl : false = Tryz.prog.looks [] := by kernel_rfl
theorem fnZip_cg : false = Rows.fnZipRow.goesBy Tryz.prog := by kernel_rfl
theorem fnZip_card_holds : Rows.FnZipCardSaid :=
  Claim7.holds_tied_plain_at .later [] [.data, .widerDeep, .pinned] true (true, "f140fde393fad7354b61e8b57297980d94886fc49d696616f7d8989a063c4caf") false
    fnZip.over (fun _ h => by cases h) fnZip_cw (fun _ h => by cases h) fnZip_row_tie rfl ⟨rfl, rfl⟩ fnZip_cm rfl
    (fun f fn hf hfn => by
      obtain rfl : f = 9 := Option.some.inj (fnZip_cf.symm.trans hf) |>.symm
      obtain rfl : fn = Tryz.f9 := (Option.some.inj (Tryz.func9.symm.trans hfn)).symm
      exact ⟨fnZip_cl, fun j t ht => by
        rw [Tryz.params9] at ht
        rcases j with _ | j
        · obtain rfl : t = 22 := by simpa using ht.symm
          exact (show Tryz.prog.wantsStandIn 22 = false by kernel_rfl)
        · simp at ht⟩)
    fnZip_cg
#print axioms fnZip_card_holds
end Go.Proofs.YtadeffpcedlalaaGreatDoor
