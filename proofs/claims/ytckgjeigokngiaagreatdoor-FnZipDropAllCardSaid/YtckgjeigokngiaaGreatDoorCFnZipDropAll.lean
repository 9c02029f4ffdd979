/- The tied card of FnZipDropAll holds. Conditions: those of the card. -/
import Derived.Test.YtckgjeigokngiaaGreatDoorRFnZipDropAll
import Derived.Test.YtckgjeigokngiaaGreatDoorCards
import Derived.Test.YtckgjeigokngiaaGreatDoorTie
import Derived.SevenTiedAt
namespace Go.Proofs.YtckgjeigokngiaaGreatDoor
theorem fnZipDropAll_cw : Rows.fnZipDropAllRow.wfByText (OpenSpec.ofChange Rows.fnZipDropAllSpec) = true := by kernel_rfl
theorem fnZipDropAll_cm : Tryz.prog.mainIs = some ((true, "afe4863839049d3dc9f5e55638e202679faea2ca5d9b900cc5ae0fff8d4cd301").1, (true, "afe4863839049d3dc9f5e55638e202679faea2ca5d9b900cc5ae0fff8d4cd301").2.toList) := by kernel_rfl
theorem fnZipDropAll_cf : Tryz.prog.funcNamed "loop.example/corbel/laws.FnZipDropAll" = some 10 := by kernel_rfl
theorem fnZipDropAll_cl : false = Tryz.prog.looks [] := by kernel_rfl
theorem fnZipDropAll_cg : false = Rows.fnZipDropAllRow.goesBy Tryz.prog := by kernel_rfl
theorem fnZipDropAll_card_holds : Rows.FnZipDropAllCardSaid :=
  Claim7.holds_tied_plain_at .later [] [.data, .widerDeep, .pinned] true (true, "afe4863839049d3dc9f5e55638e202679faea2ca5d9b900cc5ae0fff8d4cd301") false
    fnZipDropAll.over (fun _ h => by cases h) fnZipDropAll_cw (fun _ h => by cases h) fnZipDropAll_row_tie rfl ⟨rfl, rfl⟩ fnZipDropAll_cm rfl
    (fun f fn hf hfn => by
      obtain rfl : f = 10 := Option.some.inj (fnZipDropAll_cf.symm.trans hf) |>.symm
      obtain rfl : fn = Tryz.f10 := (Option.some.inj (Tryz.func10.symm.trans hfn)).symm
      exact ⟨fnZipDropAll_cl, fun j t ht => by
        rw [Tryz.params10] at ht
        rcases j with _ | j
        · obtain rfl : t = 22 := by simpa using ht.symm
          exact (show Tryz.prog.wantsStandIn 22 = false by kernel_rfl)
        · simp at ht⟩)
    fnZipDropAll_cg
#print axioms fnZipDropAll_card_holds
end Go.Proofs.YtckgjeigokngiaaGreatDoor
