/- The tied card of FnExactDiskRise holds. Conditions: those of the card. -/
import Derived.Test.YtnllgghlojppfaaGreatDoorRFnExactDiskRise
import Derived.Test.YtnllgghlojppfaaGreatDoorCards
import Derived.Test.YtnllgghlojppfaaGreatDoorTie
import Derived.SevenTiedAt
namespace Go.Proofs.YtnllgghlojppfaaGreatDoor
theorem fnExactDiskRise_cw : Rows.fnExactDiskRiseRow.wfByText (OpenSpec.ofChange Rows.fnExactDiskRiseSpec) = true := by kernel_rfl
theorem fnExactDiskRise_cm : Tryz.prog.mainIs = some ((true, "205359dcb97258d16c866adf30f7de88646af2b4091ac034dd9602d94850e02a").1, (true, "205359dcb97258d16c866adf30f7de88646af2b4091ac034dd9602d94850e02a").2.toList) := by kernel_rfl
theorem fnExactDiskRise_cf : Tryz.prog.funcNamed "loop.example/corbel/laws.FnExactDiskRise" = some 8 := by kernel_rfl
theorem fnExactDiskRise_cl : false = Tryz.prog.looks [] := by kernel_rfl
theorem fnExactDiskRise_cg : false = Rows.fnExactDiskRiseRow.goesBy Tryz.prog := by kernel_rfl
theorem fnExactDiskRise_card_holds : Rows.FnExactDiskRiseCardSaid :=
  Claim7.holds_tied_plain_at .later [] [.data, .data, .data, .data, .widerDeep, .pinned] true (true, "205359dcb97258d16c866adf30f7de88646af2b4091ac034dd9602d94850e02a") false
    fnExactDiskRise.over (fun _ h => by cases h) fnExactDiskRise_cw (fun _ h => by cases h) fnExactDiskRise_row_tie rfl ⟨rfl, rfl⟩ fnExactDiskRise_cm rfl
    (fun f fn hf hfn => by
      obtain rfl : f = 8 := Option.some.inj (fnExactDiskRise_cf.symm.trans hf) |>.symm
      obtain rfl : fn = Tryz.f8 := (Option.some.inj (Tryz.func8.symm.trans hfn)).symm
      exact ⟨fnExactDiskRise_cl, fun j t ht => by
        rw [Tryz.params8] at ht
        rcases j with _ | j
        · obtain rfl : t = 35 := by simpa using ht.symm
          exact (show Tryz.prog.wantsStandIn 35 = false by kernel_rfl)
        · simp at ht⟩)
    fnExactDiskRise_cg
#print axioms fnExactDiskRise_card_holds
end Go.Proofs.YtnllgghlojppfaaGreatDoor
