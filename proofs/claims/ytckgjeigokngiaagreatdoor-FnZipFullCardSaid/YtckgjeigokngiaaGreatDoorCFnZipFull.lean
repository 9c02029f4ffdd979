/- The tied card of FnZipFull holds. Conditions: those of the card. -/
import Derived.Test.YtckgjeigokngiaaGreatDoorRFnZipFull
import Derived.Test.YtckgjeigokngiaaGreatDoorCards
import Derived.Test.YtckgjeigokngiaaGreatDoorTie
import Derived.SevenTiedAt
namespace Go.Proofs.YtckgjeigokngiaaGreatDoor
theorem fnZipFull_cw : Rows.fnZipFullRow.wfByText (OpenSpec.ofChange Rows.fnZipFullSpec) = true := by kernel_rfl
theorem fnZipFull_cm : Tryz.prog.mainIs = some ((true, "afe4863839049d3dc9f5e55638e202679faea2ca5d9b900cc5ae0fff8d4cd301").1, (true, "afe4863839049d3dc9f5e55638e202679faea2ca5d9b900cc5ae0fff8d4cd301").2.toList) := by kernel_rfl
theorem fnZipFull_cf : Tryz.prog.funcNamed "loop.example/corbel/laws.FnZipFull" = some 6 := by kernel_rfl
theorem fnZipFull_cl : false = Tryz.prog.looks [] := by kernel_rfl
theorem fnZipFull_cg : false = Rows.fnZipFullRow.goesBy Tryz.prog := by kernel_rfl
theorem fnZipFull_card_holds : Rows.FnZipFullCardSaid :=
  Claim7.holds_tied_plain_at .later [] [.data, .widerDeep, .pinned] true (true, "afe4863839049d3dc9f5e55638e202679faea2ca5d9b900cc5ae0fff8d4cd301") false
    fnZipFull.over (fun _ h => by cases h) fnZipFull_cw (fun _ h => by cases h) fnZipFull_row_tie rfl ⟨rfl, rfl⟩ fnZipFull_cm rfl
    (fun f fn hf hfn => by
      obtain rfl : f = 6 := Option.some.inj (fnZipFull_cf.symm.trans hf) |>.symm
      obtain rfl : fn = Tryz.f6 := (Option.some.inj (Tryz.func6.symm.trans hfn)).symm
      exact ⟨fnZipFull_cl, fun j t ht => by
        rw [Tryz.params6] at ht
        rcases j with _ | j
        · obtain rfl : t = 22 := by simpa using ht.symm
          exact (show Tryz.prog.wantsStandIn 22 = false by kernel_rfl)
        · simp at ht⟩)
    fnZipFull_cg
#print axioms fnZipFull_card_holds
end Go.Proofs.YtckgjeigokngiaaGreatDoor
