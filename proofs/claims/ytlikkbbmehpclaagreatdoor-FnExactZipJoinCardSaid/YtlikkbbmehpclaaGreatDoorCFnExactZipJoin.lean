/- The tied card of FnExactZipJoin holds. Conditions: those of the card. -/
import Derived.Test.YtlikkbbmehpclaaGreatDoorRFnExactZipJoin
import Derived.Test.YtlikkbbmehpclaaGreatDoorCards
import Derived.Test.YtlikkbbmehpclaaGreatDoorTie
import Derived.SevenTiedAt
namespace Go.Proofs.YtlikkbbmehpclaaGreatDoor
theorem fnExactZipJoin_cw : Rows.fnExactZipJoinRow.wfByText (OpenSpec.ofChange Rows.fnExactZipJoinSpec) = true := by kernel_rfl
theorem fnExactZipJoin_cm : Tryz.prog.mainIs = some ((true, "4e2fd618442085843cce66f455f203ea7553e98b67ebc681d0de4153a66fd22b").1, (true, "4e2fd618442085843cce66f455f203ea7553e98b67ebc681d0de4153a66fd22b").2.toList) := by kernel_rfl
theorem fnExactZipJoin_cf : Tryz.prog.funcNamed "loop.example/corbel/laws.FnExactZipJoin" = some 9 := by kernel_rfl
theorem fnExactZipJoin_cl : false = Tryz.prog.looks [] := by kernel_rfl
theorem fnExactZipJoin_cg : false = Rows.fnExactZipJoinRow.goesBy Tryz.prog := by kernel_rfl
theorem fnExactZipJoin_card_holds : Rows.FnExactZipJoinCardSaid :=
  Claim7.holds_tied_plain_at .later [] [.data, .widerDeep, .pinned] true (true, "4e2fd618442085843cce66f455f203ea7553e98b67ebc681d0de4153a66fd22b") false
    fnExactZipJoin.over (fun _ h => by cases h) fnExactZipJoin_cw (fun _ h => by cases h) fnExactZipJoin_row_tie rfl ⟨rfl, rfl⟩ fnExactZipJoin_cm rfl
    (fun f fn hf hfn => by
      obtain rfl : f = 9 := Option.some.inj (fnExactZipJoin_cf.symm.trans hf) |>.symm
      obtain rfl : fn = Tryz.f9 := (Option.some.inj (Tryz.func9.symm.trans hfn)).symm
      exact ⟨fnExactZipJoin_cl, fun j t ht => by
        rw [Tryz.params9] at ht
        rcases j with _ | j
        · obtain rfl : t = 9 := by simpa using ht.symm
          exact (show Tryz.prog.wantsStandIn 9 = false by kernel_rfl)
        · rcases j with _ | j
          · obtain rfl : t = 9 := by simpa using ht.symm
            exact (show Tryz.prog.wantsStandIn 9 = false by kernel_rfl)
          · simp at ht⟩)
    fnExactZipJoin_cg
#print axioms fnExactZipJoin_card_holds
end Go.Proofs.YtlikkbbmehpclaaGreatDoor
