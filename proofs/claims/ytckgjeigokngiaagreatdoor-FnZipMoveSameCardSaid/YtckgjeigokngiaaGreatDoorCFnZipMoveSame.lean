/- The tied card of FnZipMoveSame holds. Conditions: those of the card. -/
import Derived.Test.YtckgjeigokngiaaGreatDoorRFnZipMoveSame
import Derived.Test.YtckgjeigokngiaaGreatDoorCards
import Derived.Test.YtckgjeigokngiaaGreatDoorTie
import Derived.SevenTiedAt
namespace Go.Proofs.YtckgjeigokngiaaGreatDoor
theorem fnZipMoveSame_cw : Rows.fnZipMoveSameRow.wfByText (OpenSpec.ofChange Rows.fnZipMoveSameSpec) = true := by kernel_rfl
theorem fnZipMoveSame_cm : Tryz.prog.mainIs = some ((true, "afe4863839049d3dc9f5e55638e202679faea2ca5d9b900cc5ae0fff8d4cd301").1, (true, "afe4863839049d3dc9f5e55638e202679faea2ca5d9b900cc5ae0fff8d4cd301").2.toList) := by kernel_rfl
theorem fnZipMoveSame_cf : Tryz.prog.funcNamed "loop.example/corbel/laws.FnZipMoveSame" = some 9 := by kernel_rfl
theorem fnZipMoveSame_cl : false = Tryz.prog.looks [] := by kernel_rfl
theorem fnZipMoveSame_cg : false = Rows.fnZipMoveSameRow.goesBy Tryz.prog := by kernel_rfl
theorem fnZipMoveSame_card_holds : Rows.FnZipMoveSameCardSaid :=
  Claim7.holds_tied_plain_at .later [] [.data, .widerDeep, .pinned] true (true, "afe4863839049d3dc9f5e55638e202679faea2ca5d9b900cc5ae0fff8d4cd301") false
    fnZipMoveSame.over (fun _ h => by cases h) fnZipMoveSame_cw (fun _ h => by cases h) fnZipMoveSame_row_tie rfl ⟨rfl, rfl⟩ fnZipMoveSame_cm rfl
    (fun f fn hf hfn => by
      obtain rfl : f = 9 := Option.some.inj (fnZipMoveSame_cf.symm.trans hf) |>.symm
      obtain rfl : fn = Tryz.f9 := (Option.some.inj (Tryz.func9.symm.trans hfn)).symm
      exact ⟨fnZipMoveSame_cl, fun j t ht => by
        rw [Tryz.params9] at ht
        rcases j with _ | j
        · obtain rfl : t = 22 := by simpa using ht.symm
          exact (show Tryz.prog.wantsStandIn 22 = false by kernel_rfl)
        · simp at ht⟩)
    fnZipMoveSame_cg
#print axioms fnZipMoveSame_card_holds
end Go.Proofs.YtckgjeigokngiaaGreatDoor
