/- The tied card of FnExactZipSwap holds. Conditions: those of the card. -/
import Derived.Test.YtlikkbbmehpclaaGreatDoorRFnExactZipSwap
import Derived.Test.YtlikkbbmehpclaaGreatDoorCards
import Derived.Test.YtlikkbbmehpclaaGreatDoorTie
import Derived.SevenTiedAt
namespace Go.Proofs.YtlikkbbmehpclaaGreatDoor
theorem fnExactZipSwap_cw : Rows.fnExactZipSwapRow.wfByText (OpenSpec.ofChange Rows.fnExactZipSwapSpec) = true := by kernel_rfl
theorem fnExactZipSwap_cm : Tryz.prog.mainIs = some ((true, "4e2fd618442085843cce66f455f203ea7553e98b67ebc681d0de4153a66fd22b").1, (true, "4e2fd618442085843cce66f455f203ea7553e98b67ebc681d0de4153a66fd22b").2.toList) := by kernel_rfl
theorem fnExactZipSwap_cf : Tryz.prog.funcNamed "loop.example/corbel/laws.FnExactZipSwap" = some 10 := by kernel_rfl
theorem fnExactZipSwap_cl : false = Tryz.prog.looks [] := by kernel_rfl
theorem fnExactZipSwap_cg : false = Rows.fnExactZipSwapRow.goesBy Tryz.prog := by kernel_rfl
theorem fnExactZipSwap_card_holds : Rows.FnExactZipSwapCardSaid :=
  Claim7.holds_tied_plain_at .later [] [.data, .widerDeep, .pinned] true (true, "4e2fd618442085843cce66f455f203ea7553e98b67ebc681d0de4153a66fd22b") false
    fnExactZipSwap.over (fun _ h => by cases h) fnExactZipSwap_cw (fun _ h => by cases h) fnExactZipSwap_row_tie rfl ⟨rfl, rfl⟩ fnExactZipSwap_cm rfl
    (fun f fn hf hfn => by
      obtain rfl : f = 10 := Option.some.inj (fnExactZipSwap_cf.symm.trans hf) |>.symm
      obtain rfl : fn = Tryz.f10 := (Option.some.inj (Tryz.func10.symm.trans hfn)).symm
      exact ⟨fnExactZipSwap_cl, fun j t ht => by
        rw [Tryz.params10] at ht
        rcases j with _ | j
        · obtain rfl : t = 9 := by simpa using ht.symm
          exact (show Tryz.prog.wantsStandIn 9 = false by kernel_rfl)
        · rcases j with _ | j
          · obtain rfl : t = 61 := by simpa using ht.symm
            exact (show Tryz.prog.wantsStandIn 61 = false by kernel_rfl)
          · simp at ht⟩)
    fnExactZipSwap_cg
#print axioms fnExactZipSwap_card_holds
end Go.Proofs.YtlikkbbmehpclaaGreatDoor
