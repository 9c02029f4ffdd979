/- The tied card of FnExactZipMove holds. Conditions: those of the card. -/
import Derived.Test.YtlikkbbmehpclaaGreatDoorRFnExactZipMove
import Derived.Test.YtlikkbbmehpclaaGreatDoorCards
import Derived.Test.YtlikkbbmehpclaaGreatDoorTie
import Derived.SevenTiedAt
namespace Go.Proofs.YtlikkbbmehpclaaGreatDoor
theorem fnExactZipMove_cw : Rows.fnExactZipMoveRow.wfByText (OpenSpec.ofChange Rows.fnExactZipMoveSpec) = true := by kernel_rfl
theorem fnExactZipMove_cm : Tryz.prog.mainIs = some ((true, "4e2fd618442085843cce66f455f203ea7553e98b67ebc681d0de4153a66fd22b").1, (true, "4e2fd618442085843cce66f455f203ea7553e98b67ebc681d0de4153a66fd22b").2.toList) := by kernel_rfl
theorem fnExactZipMove_cf : Tryz.prog.funcNamed "loop.example/corbel/laws.FnExactZipMove" = some 8 := by kernel_rfl
theorem fnExactZipMove_cl : false = Tryz.prog.looks [] := by kernel_rfl
theorem fnExactZipMove_cg : false = Rows.fnExactZipMoveRow.goesBy Tryz.prog := by kernel_rfl
theorem fnExactZipMove_card_holds : Rows.FnExactZipMoveCardSaid :=
  Claim7.holds_tied_plain_at .later [] [.data, .widerDeep, .pinned] true (true, "4e2fd618442085843cce66f455f203ea7553e98b67ebc681d0de4153a66fd22b") false
    fnExactZipMove.over (fun _ h => by cases h) fnExactZipMove_cw (fun _ h => by cases h) fnExactZipMove_row_tie rfl ⟨rfl, rfl⟩ fnExactZipMove_cm rfl
    (fun f fn hf hfn => by
      obtain rfl : f = 8 := Option.some.inj (fnExactZipMove_cf.symm.trans hf) |>.symm
      obtain rfl : fn = Tryz.f8 := (Option.some.inj (Tryz.func8.symm.trans hfn)).symm
      exact ⟨fnExactZipMove_cl, fun j t ht => by
        rw [Tryz.params8] at ht
        rcases j with _ | j
        · obtain rfl : t = 9 := by simpa using ht.symm
          exact (show Tryz.prog.wantsStandIn 9 = false by kernel_rfl)
        · rcases j with _ | j
          · obtain rfl : t = 9 := by simpa using ht.symm
            exact (show Tryz.prog.wantsStandIn 9 = false by kernel_rfl)
          · rcases j with _ | j
            · obtain rfl : t = 9 := by simpa using ht.symm
              exact (show Tryz.prog.wantsStandIn 9 = false by kernel_rfl)
            · simp at ht⟩)
    fnExactZipMove_cg
#print axioms fnExactZipMove_card_holds
end Go.Proofs.YtlikkbbmehpclaaGreatDoor
