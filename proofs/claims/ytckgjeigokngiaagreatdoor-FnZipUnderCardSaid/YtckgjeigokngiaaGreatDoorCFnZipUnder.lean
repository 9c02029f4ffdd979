/- The tied card of FnZipUnder holds. Conditions: those of the card. -/
import Derived.Test.YtckgjeigokngiaaGreatDoorRFnZipUnder
import Derived.Test.YtckgjeigokngiaaGreatDoorCards
import Derived.Test.YtckgjeigokngiaaGreatDoorTie
import Derived.SevenTiedAt
namespace Go.Proofs.YtckgjeigokngiaaGreatDoor
theorem fnZipUnder_cw : Rows.fnZipUnderRow.wfByText (OpenSpec.ofChange Rows.fnZipUnderSpec) = true := by kernel_rfl
theorem fnZipUnder_cm : Tryz.prog.mainIs = some ((true, "afe4863839049d3dc9f5e55638e202679faea2ca5d9b900cc5ae0fff8d4cd301").1, (true, "afe4863839049d3dc9f5e55638e202679faea2ca5d9b900cc5ae0fff8d4cd301").2.toList) := by kernel_rfl
theorem fnZipUnder_cf : Tryz.prog.funcNamed "loop.example/corbel/laws.FnZipUnder" = some 5 := by kernel_rfl
theorem fnZipUnder_cl : false = Tryz.prog.looks [] := by kernel_rfl
theorem fnZipUnder_cg : false = Rows.fnZipUnderRow.goesBy Tryz.prog := by kernel_rfl
theorem fnZipUnder_card_holds : Rows.FnZipUnderCardSaid :=
  Claim7.holds_tied_plain_at .later [] [.data, .widerDeep, .pinned] true (true, "afe4863839049d3dc9f5e55638e202679faea2ca5d9b900cc5ae0fff8d4cd301") false
    fnZipUnder.over (fun _ h => by cases h) fnZipUnder_cw (fun _ h => by cases h) fnZipUnder_row_tie rfl ⟨rfl, rfl⟩ fnZipUnder_cm rfl
    (fun f fn hf hfn => by
      obtain rfl : f = 5 := Option.some.inj (fnZipUnder_cf.symm.trans hf) |>.symm
      obtain rfl : fn = Tryz.f5 := (Option.some.inj (Tryz.func5.symm.trans hfn)).symm
      exact ⟨fnZipUnder_cl, fun j t ht => by
        rw [Tryz.params5] at ht
        rcases j with _ | j
        · obtain rfl : t = 22 := by simpa using ht.symm
          exact (show Tryz.prog.wantsStandIn 22 = false by kernel_rfl)
        · simp at ht⟩)
    fnZipUnder_cg
#print axioms fnZipUnder_card_holds
end Go.Proofs.YtckgjeigokngiaaGreatDoor
