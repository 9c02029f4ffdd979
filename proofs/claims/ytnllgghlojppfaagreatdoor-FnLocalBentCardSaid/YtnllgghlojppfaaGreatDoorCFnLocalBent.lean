/- The tied card of FnLocalBent holds. Conditions: those of the card. -/
import Derived.Test.YtnllgghlojppfaaGreatDoorRFnLocalBent
import Derived.Test.YtnllgghlojppfaaGreatDoorCards
import Derived.Test.YtnllgghlojppfaaGreatDoorTie
import Derived.SevenTiedAt
namespace Go.Proofs.YtnllgghlojppfaaGreatDoor
theorem fnLocalBent_cw : Rows.fnLocalBentRow.wfByText (OpenSpec.ofChange Rows.fnLocalBentSpec) = true := by kernel_rfl
theorem fnLocalBent_cm : Tryz.prog.mainIs = some ((true, "205359dcb97258d16c866adf30f7de88646af2b4091ac034dd9602d94850e02a").1, (true, "205359dcb97258d16c866adf30f7de88646af2b4091ac034dd9602d94850e02a").2.toList) := by kernel_rfl
theorem fnLocalBent_cf : Tryz.prog.funcNamed "loop.example/corbel/laws.FnLocalBent" = some 3 := by kernel_rfl
theorem fnLocalBent_cl : false = Tryz.prog.looks [] := by kernel_rfl
theorem fnLocalBent_cg : false = Rows.fnLocalBentRow.goesBy Tryz.prog := by kernel_rfl
theorem fnLocalBent_card_holds : Rows.FnLocalBentCardSaid :=
  Claim7.holds_tied_plain_at .later [] [.data, .widerDeep, .pinned] true (true, "205359dcb97258d16c866adf30f7de88646af2b4091ac034dd9602d94850e02a") false
    fnLocalBent.over (fun _ h => by cases h) fnLocalBent_cw (fun _ h => by cases h) fnLocalBent_row_tie rfl ⟨rfl, rfl⟩ fnLocalBent_cm rfl
    (fun f fn hf hfn => by
      obtain rfl : f = 3 := Option.some.inj (fnLocalBent_cf.symm.trans hf) |>.symm
      obtain rfl : fn = Tryz.f3 := (Option.some.inj (Tryz.func3.symm.trans hfn)).symm
      exact ⟨fnLocalBent_cl, fun j t ht => by
        rw [Tryz.params3] at ht
        rcases j with _ | j
        · obtain rfl : t = 22 := by simpa using ht.symm
          exact (show Tryz.prog.wantsStandIn 22 = false by kernel_rfl)
        · rcases j with _ | j
          · obtain rfl : t = 22 := by simpa using ht.symm
            exact (show Tryz.prog.wantsStandIn 22 = false by kernel_rfl)
          · simp at ht⟩)
    fnLocalBent_cg
#print axioms fnLocalBent_card_holds
end Go.Proofs.YtnllgghlojppfaaGreatDoor
