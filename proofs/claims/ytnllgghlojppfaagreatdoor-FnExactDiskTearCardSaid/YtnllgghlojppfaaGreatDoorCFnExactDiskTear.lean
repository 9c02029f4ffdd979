/- The tied card of FnExactDiskTear holds. Conditions: those of the card. -/
import Derived.Test.YtnllgghlojppfaaGreatDoorRFnExactDiskTear
import Derived.Test.YtnllgghlojppfaaGreatDoorCards
import Derived.Test.YtnllgghlojppfaaGreatDoorTie
import Derived.SevenTiedAt
namespace Go.Proofs.YtnllgghlojppfaaGreatDoor
theorem fnExactDiskTear_cw : Rows.fnExactDiskTearRow.wfByText (OpenSpec.ofChange Rows.fnExactDiskTearSpec) = true := by kernel_rfl
theorem fnExactDiskTear_cm : Tryz.prog.mainIs = some ((true, "205359dcb97258d16c866adf30f7de88646af2b4091ac034dd9602d94850e02a").1, (true, "205359dcb97258d16c866adf30f7de88646af2b4091ac034dd9602d94850e02a").2.toList) := by kernel_rfl
theorem fnExactDiskTear_cf : Tryz.prog.funcNamed "loop.example/corbel/laws.FnExactDiskTear" = some 6 := by kernel_rfl
theorem fnExactDiskTear_cl : false = Tryz.prog.looks [] := by kernel_rfl
theorem fnExactDiskTear_cg : false = Rows.fnExactDiskTearRow.goesBy Tryz.prog := by kernel_rfl
theorem fnExactDiskTear_card_holds : Rows.FnExactDiskTearCardSaid :=
  Claim7.holds_tied_plain_at .later [] [.data, .data, .data, .data, .widerDeep, .pinned] true (true, "205359dcb97258d16c866adf30f7de88646af2b4091ac034dd9602d94850e02a") false
    fnExactDiskTear.over (fun _ h => by cases h) fnExactDiskTear_cw (fun _ h => by cases h) fnExactDiskTear_row_tie rfl ⟨rfl, rfl⟩ fnExactDiskTear_cm rfl
    (fun f fn hf hfn => by
      obtain rfl : f = 6 := Option.some.inj (fnExactDiskTear_cf.symm.trans hf) |>.symm
      obtain rfl : fn = Tryz.f6 := (Option.some.inj (Tryz.func6.symm.trans hfn)).symm
      exact ⟨fnExactDiskTear_cl, fun j t ht => by
        rw [Tryz.params6] at ht
        rcases j with _ | j
        · obtain rfl : t = 35 := by simpa using ht.symm
          exact (show Tryz.prog.wantsStandIn 35 = false by kernel_rfl)
        · rcases j with _ | j
          · obtain rfl : t = 9 := by simpa using ht.symm
            exact (show Tryz.prog.wantsStandIn 9 = false by kernel_rfl)
          · rcases j with _ | j
            · obtain rfl : t = 3 := by simpa using ht.symm
              exact (show Tryz.prog.wantsStandIn 3 = false by kernel_rfl)
            · simp at ht⟩)
    fnExactDiskTear_cg
#print axioms fnExactDiskTear_card_holds
end Go.Proofs.YtnllgghlojppfaaGreatDoor
