/- The tied card of FnExactTreeZip holds. Conditions: those of the card. -/
import Derived.Test.YtckgjeigokngiaaGreatDoorRFnExactTreeZip
import Derived.Test.YtckgjeigokngiaaGreatDoorCards
import Derived.Test.YtckgjeigokngiaaGreatDoorTie
import Derived.SevenTiedAt
namespace Go.Proofs.YtckgjeigokngiaaGreatDoor
theorem fnExactTreeZip_card_holds : Rows.FnExactTreeZipCardSaid :=
  Claim7.holds_tied_plain_at .later [] [.data, .widerDeep, .pinned] true (true, "afe4863839049d3dc9f5e55638e202679faea2ca5d9b900cc5ae0fff8d4cd301") false
    fnExactTreeZip.over (fun _ h => by cases h) (by kernel_rfl) (fun _ h => by cases h) fnExactTreeZip_row_tie rfl ⟨rfl, rfl⟩ (by kernel_rfl) rfl
    (fun f fn hf hfn => by
      obtain rfl : f = 11 := Option.some.inj ((show Tryz.prog.funcNamed "loop.example/corbel/laws.FnExactTreeZip" = some 11 by kernel_rfl).symm.trans hf) |>.symm
      obtain rfl : fn = Tryz.f11 := (Option.some.inj (Tryz.func11.symm.trans hfn)).symm
      exact ⟨by kernel_rfl, fun j t ht => by
        rw [Tryz.params11] at ht
        rcases j with _ | j
        · obtain rfl : t = 51 := by simpa using ht.symm
          exact (show Tryz.prog.wantsStandIn 51 = false by kernel_rfl)
        · rcases j with _ | j
          · obtain rfl : t = 9 := by simpa using ht.symm
            exact (show Tryz.prog.wantsStandIn 9 = false by kernel_rfl)
          · rcases j with _ | j
            · obtain rfl : t = 52 := by simpa using ht.symm
              exact (show Tryz.prog.wantsStandIn 52 = false by kernel_rfl)
            · simp at ht⟩)
    (by kernel_rfl)
#print axioms fnExactTreeZip_card_holds
end Go.Proofs.YtckgjeigokngiaaGreatDoor
