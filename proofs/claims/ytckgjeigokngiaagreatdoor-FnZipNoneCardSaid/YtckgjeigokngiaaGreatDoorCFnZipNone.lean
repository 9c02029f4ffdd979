/- The tied card of FnZipNone holds. Conditions: those of the card. -/
import Derived.Test.YtckgjeigokngiaaGreatDoorRFnZipNone
import Derived.Test.YtckgjeigokngiaaGreatDoorCards
import Derived.Test.YtckgjeigokngiaaGreatDoorTie
import Derived.SevenTiedAt
namespace Go.Proofs.YtckgjeigokngiaaGreatDoor
theorem fnZipNone_cw : Rows.fnZipNoneRow.wfByText (OpenSpec.ofChange Rows.fnZipNoneSpec) = true := by kernel_rfl
theorem fnZipNone_cm : Tryz.prog.mainIs = some ((true, "afe4863839049d3dc9f5e55638e202679faea2ca5d9b900cc5ae0fff8d4cd301").1, (true, "afe4863839049d3dc9f5e55638e202679faea2ca5d9b900cc5ae0fff8d4cd301").2.toList) := by kernel_rfl
theorem fnZipNone_cf : Tryz.prog.funcNamed "loop.example/corbel/laws.FnZipNone" = some 3 := by kernel_rfl
theorem fnZipNone_cl : false = Tryz.prog.looks [] := by kernel_rfl
theorem fnZipNone_cg : false = Rows.fnZipNoneRow.goesBy Tryz.prog := by kernel_rfl
theorem fnZipNone_card_holds : Rows.FnZipNoneCardSaid :=
  Claim7.holds_tied_plain_at .later [] [.data, .widerDeep, .pinned] true (true, "afe4863839049d3dc9f5e55638e202679faea2ca5d9b900cc5ae0fff8d4cd301") false
    fnZipNone.over (fun _ h => by cases h) fnZipNone_cw (fun _ h => by cases h) fnZipNone_row_tie rfl ⟨rfl, rfl⟩ fnZipNone_cm rfl
    (fun f fn hf hfn => by
      obtain rfl : f = 3 := Option.some.inj (fnZipNone_cf.symm.trans hf) |>.symm
      obtain rfl : fn = Tryz.f3 := (Option.some.inj (Tryz.func3.symm.trans hfn)).symm
      exact ⟨fnZipNone_cl, fun j t ht => by
        rw [Tryz.params3] at ht
        rcases j with _ | j
        · obtain rfl : t = 22 := by simpa using ht.symm
          exact (show Tryz.prog.wantsStandIn 22 = false by kernel_rfl)
        · simp at ht⟩)
    fnZipNone_cg
#print axioms fnZipNone_card_holds
end Go.Proofs.YtckgjeigokngiaaGreatDoor
