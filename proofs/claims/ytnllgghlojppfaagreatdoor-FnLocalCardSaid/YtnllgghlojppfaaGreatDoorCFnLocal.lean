/- The tied card of FnLocal holds. Conditions: those of the card. -/
import Derived.Test.YtnllgghlojppfaaGreatDoorRFnLocal
import Derived.Test.YtnllgghlojppfaaGreatDoorCards
import Derived.Test.YtnllgghlojppfaaGreatDoorTie
import Derived.SevenTiedAt
namespace Go.Proofs.YtnllgghlojppfaaGreatDoor
theorem fnLocal_cw : Rows.fnLocalRow.wfByText (OpenSpec.ofChange Rows.fnLocalSpec) = true := by kernel_rfl
theorem fnLocal_cm : Tryz.prog.mainIs = some ((true, "205359dcb97258d16c866adf30f7de88646af2b4091ac034dd9602d94850e02a").1, (true, "205359dcb97258d16c866adf30f7de88646af2b4091ac034dd9602d94850e02a").2.toList) := by kernel_rfl
theorem fnLocal_cf : Tryz.prog.funcNamed "loop.example/corbel/laws.FnLocal" = some 5 := by kernel_rfl
theorem fnLocal_cl : false = Tryz.prog.looks [] := by kernel_rfl
theorem fnLocal_cg : false = Rows.fnLocalRow.goesBy Tryz.prog := by kernel_rfl
theorem fnLocal_card_holds : Rows.FnLocalCardSaid :=
  Claim7.holds_tied_plain_at .later [] [.data, .widerDeep, .pinned] true (true, "205359dcb97258d16c866adf30f7de88646af2b4091ac034dd9602d94850e02a") false
    fnLocal.over (fun _ h => by cases h) fnLocal_cw (fun _ h => by cases h) fnLocal_row_tie rfl ⟨rfl, rfl⟩ fnLocal_cm rfl
    (fun f fn hf hfn => by
      obtain rfl : f = 5 := Option.some.inj (fnLocal_cf.symm.trans hf) |>.symm
      obtain rfl : fn = Tryz.f5 := (Option.some.inj (Tryz.func5.symm.trans hfn)).symm
      exact ⟨fnLocal_cl, fun j t ht => by
        rw [Tryz.params5] at ht
        rcases j with _ | j
        · obtain rfl : t = 22 := by simpa using ht.symm
          exact (show Tryz.prog.wantsStandIn 22 = false by kernel_rfl)
        · rcases j with _ | j
          · obtain rfl : t = 22 := by simpa using ht.symm
            exact (show Tryz.prog.wantsStandIn 22 = false by kernel_rfl)
          · simp at ht⟩)
    fnLocal_cg
#print axioms fnLocal_card_holds
end Go.Proofs.YtnllgghlojppfaaGreatDoor
