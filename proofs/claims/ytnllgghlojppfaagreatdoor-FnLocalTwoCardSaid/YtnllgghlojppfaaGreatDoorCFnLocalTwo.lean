/- The tied card of FnLocalTwo holds. Conditions: those of the card. -/
import Derived.Test.YtnllgghlojppfaaGreatDoorRFnLocalTwo
import Derived.Test.YtnllgghlojppfaaGreatDoorCards
import Derived.Test.YtnllgghlojppfaaGreatDoorTie
import Derived.SevenTiedAt
namespace Go.Proofs.YtnllgghlojppfaaGreatDoor
theorem fnLocalTwo_cw : Rows.fnLocalTwoRow.wfByText (OpenSpec.ofChange Rows.fnLocalTwoSpec) = true := by kernel_rfl
theorem fnLocalTwo_cm : Tryz.prog.mainIs = some ((true, "205359dcb97258d16c866adf30f7de88646af2b4091ac034dd9602d94850e02a").1, (true, "205359dcb97258d16c866adf30f7de88646af2b4091ac034dd9602d94850e02a").2.toList) := by kernel_rfl
theorem fnLocalTwo_cf : Tryz.prog.funcNamed "loop.example/corbel/laws.FnLocalTwo" = some 4 := by kernel_rfl
theorem fnLocalTwo_cl : false = Tryz.prog.looks [] := by kernel_rfl
theorem fnLocalTwo_cg : false = Rows.fnLocalTwoRow.goesBy Tryz.prog := by kernel_rfl
theorem fnLocalTwo_card_holds : Rows.FnLocalTwoCardSaid :=
  Claim7.holds_tied_plain_at .later [] [.data, .widerDeep, .pinned] true (true, "205359dcb97258d16c866adf30f7de88646af2b4091ac034dd9602d94850e02a") false
    fnLocalTwo.over (fun _ h => by cases h) fnLocalTwo_cw (fun _ h => by cases h) fnLocalTwo_row_tie rfl ⟨rfl, rfl⟩ fnLocalTwo_cm rfl
    (fun f fn hf hfn => by
      obtain rfl : f = 4 := Option.some.inj (fnLocalTwo_cf.symm.trans hf) |>.symm
      obtain rfl : fn = Tryz.f4 := (Option.some.inj (Tryz.func4.symm.trans hfn)).symm
      exact ⟨fnLocalTwo_cl, fun j t ht => by
        rw [Tryz.params4] at ht
        rcases j with _ | j
        · obtain rfl : t = 22 := by simpa using ht.symm
          exact (show Tryz.prog.wantsStandIn 22 = false by kernel_rfl)
        · rcases j with _ | j
          · obtain rfl : t = 22 := by simpa using ht.symm
            exact (show Tryz.prog.wantsStandIn 22 = false by kernel_rfl)
          · simp at ht⟩)
    fnLocalTwo_cg
#print axioms fnLocalTwo_card_holds
end Go.Proofs.YtnllgghlojppfaaGreatDoor
