/- The tied card of FnExactZipPut holds. Conditions: those of the card. -/
import Derived.Test.YtckgjeigokngiaaGreatDoorRFnExactZipPut
import Derived.Test.YtckgjeigokngiaaGreatDoorCards
import Derived.Test.YtckgjeigokngiaaGreatDoorTie
import Derived.SevenTiedAt
namespace Go.Proofs.YtckgjeigokngiaaGreatDoor
theorem fnExactZipPut_card_holds : Rows.FnExactZipPutCardSaid :=
  Claim7.holds_tied_plain_at .later [] [.data, .widerDeep, .pinned] true (true, "afe4863839049d3dc9f5e55638e202679faea2ca5d9b900cc5ae0fff8d4cd301") false
    fnExactZipPut.over (fun _ h => by cases h) (by kernel_rfl) (fun _ h => by cases h) fnExactZipPut_row_tie rfl ⟨rfl, rfl⟩ (by kernel_rfl) rfl
    (fun f fn hf hfn => by
      obtain rfl : f = 12 := Option.some.inj ((show Tryz.prog.funcNamed "loop.example/corbel/laws.FnExactZipPut" = some 12 by kernel_rfl).symm.trans hf) |>.symm
      obtain rfl : fn = Tryz.f12 := (Option.some.inj (Tryz.func12.symm.trans hfn)).symm
      exact ⟨by kernel_rfl, fun j t ht => by
        rw [Tryz.params12] at ht
        rcases j with _ | j
        · obtain rfl : t = 60 := by simpa using ht.symm
          exact (show Tryz.prog.wantsStandIn 60 = false by kernel_rfl)
        · simp at ht⟩)
    (by kernel_rfl)
#print axioms fnExactZipPut_card_holds
end Go.Proofs.YtckgjeigokngiaaGreatDoor
