/- The tied card of FnExactZipDrop holds. Conditions: those of the card. -/
import Derived.Test.YtlikkbbmehpclaaGreatDoorRFnExactZipDrop
import Derived.Test.YtlikkbbmehpclaaGreatDoorCards
import Derived.Test.YtlikkbbmehpclaaGreatDoorTie
import Derived.SevenTiedAt
namespace Go.Proofs.YtlikkbbmehpclaaGreatDoor
theorem fnExactZipDrop_cw : Rows.fnExactZipDropRow.wfByText (OpenSpec.ofChange Rows.fnExactZipDropSpec) = true := by kernel_rfl
theorem fnExactZipDrop_cm : Tryz.prog.mainIs = some ((true, "4e2fd618442085843cce66f455f203ea7553e98b67ebc681d0de4153a66fd22b").1, (true, "4e2fd618442085843cce66f455f203ea7553e98b67ebc681d0de4153a66fd22b").2.toList) := by kernel_rfl
theorem fnExactZipDrop_cf : Tryz.prog.funcNamed "loop.example/corbel/laws.FnExactZipDrop" = some 5 := by kernel_rfl
theorem fnExactZipDrop_cl : false = Tryz.prog.looks [] := by kernel_rfl
theorem fnExactZipDrop_cg : false = Rows.fnExactZipDropRow.goesBy Tryz.prog := by kernel_rfl
theorem fnExactZipDrop_card_holds : Rows.FnExactZipDropCardSaid :=
  Claim7.holds_tied_plain_at .later [] [.data, .widerDeep, .pinned] true (true, "4e2fd618442085843cce66f455f203ea7553e98b67ebc681d0de4153a66fd22b") false
    fnExactZipDrop.over (fun _ h => by cases h) fnExactZipDrop_cw (fun _ h => by cases h) fnExactZipDrop_row_tie rfl ⟨rfl, rfl⟩ fnExactZipDrop_cm rfl
    (fun f fn hf hfn => by
      obtain rfl : f = 5 := Option.some.inj (fnExactZipDrop_cf.symm.trans hf) |>.symm
      obtain rfl : fn = Tryz.f5 := (Option.some.inj (Tryz.func5.symm.trans hfn)).symm
      exact ⟨fnExactZipDrop_cl, fun j t ht => by
        rw [Tryz.params5] at ht
        rcases j with _ | j
        · obtain rfl : t = 9 := by simpa using ht.symm
          exact (show Tryz.prog.wantsStandIn 9 = false by kernel_rfl)
        · rcases j with _ | j
          · obtain rfl : t = 9 := by simpa using ht.symm
            exact (show Tryz.prog.wantsStandIn 9 = false by kernel_rfl)
          · simp at ht⟩)
    fnExactZipDrop_cg
#print axioms fnExactZipDrop_card_holds
end Go.Proofs.YtlikkbbmehpclaaGreatDoor
