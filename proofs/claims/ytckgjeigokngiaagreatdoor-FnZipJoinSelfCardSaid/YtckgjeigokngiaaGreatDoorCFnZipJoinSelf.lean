/- The tied card of FnZipJoinSelf holds. Conditions: those of the card. -/
import Derived.Test.YtckgjeigokngiaaGreatDoorRFnZipJoinSelf
import Derived.Test.YtckgjeigokngiaaGreatDoorCards
import Derived.Test.YtckgjeigokngiaaGreatDoorTie
import Derived.SevenTiedAt
namespace Go.Proofs.YtckgjeigokngiaaGreatDoor
theorem fnZipJoinSelf_cw : Rows.fnZipJoinSelfRow.wfByText (OpenSpec.ofChange Rows.fnZipJoinSelfSpec) = true := by kernel_rfl
theorem fnZipJoinSelf_cm : Tryz.prog.mainIs = some ((true, "afe4863839049d3dc9f5e55638e202679faea2ca5d9b900cc5ae0fff8d4cd301").1, (true, "afe4863839049d3dc9f5e55638e202679faea2ca5d9b900cc5ae0fff8d4cd301").2.toList) := by kernel_rfl
theorem fnZipJoinSelf_cf : Tryz.prog.funcNamed "loop.example/corbel/laws.FnZipJoinSelf" = some 8 := by kernel_rfl
theorem fnZipJoinSelf_cl : false = Tryz.prog.looks [] := by kernel_rfl
theorem fnZipJoinSelf_cg : false = Rows.fnZipJoinSelfRow.goesBy Tryz.prog := by kernel_rfl
theorem fnZipJoinSelf_card_holds : Rows.FnZipJoinSelfCardSaid :=
  Claim7.holds_tied_plain_at .later [] [.data, .widerDeep, .pinned] true (true, "afe4863839049d3dc9f5e55638e202679faea2ca5d9b900cc5ae0fff8d4cd301") false
    fnZipJoinSelf.over (fun _ h => by cases h) fnZipJoinSelf_cw (fun _ h => by cases h) fnZipJoinSelf_row_tie rfl ⟨rfl, rfl⟩ fnZipJoinSelf_cm rfl
    (fun f fn hf hfn => by
      obtain rfl : f = 8 := Option.some.inj (fnZipJoinSelf_cf.symm.trans hf) |>.symm
      obtain rfl : fn = Tryz.f8 := (Option.some.inj (Tryz.func8.symm.trans hfn)).symm
      exact ⟨fnZipJoinSelf_cl, fun j t ht => by
        rw [Tryz.params8] at ht
        rcases j with _ | j
        · obtain rfl : t = 22 := by simpa using ht.symm
          exact (show Tryz.prog.wantsStandIn 22 = false by kernel_rfl)
        · simp at ht⟩)
    fnZipJoinSelf_cg
#print axioms fnZipJoinSelf_card_holds
end Go.Proofs.YtckgjeigokngiaaGreatDoor
