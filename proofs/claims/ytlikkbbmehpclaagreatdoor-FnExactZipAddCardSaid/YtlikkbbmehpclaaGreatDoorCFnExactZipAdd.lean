/- The tied card of FnExactZipAdd holds. Conditions: those of the card. -/
import Derived.Test.YtlikkbbmehpclaaGreatDoorRFnExactZipAdd
import Derived.Test.YtlikkbbmehpclaaGreatDoorCards
import Derived.Test.YtlikkbbmehpclaaGreatDoorTie
import Derived.SevenTiedAt
namespace Go.Proofs.YtlikkbbmehpclaaGreatDoor
theorem fnExactZipAdd_cw : Rows.fnExactZipAddRow.wfByText (OpenSpec.ofChange Rows.fnExactZipAddSpec) = true := by kernel_rfl
theorem fnExactZipAdd_cm : Tryz.prog.mainIs = some ((true, "4e2fd618442085843cce66f455f203ea7553e98b67ebc681d0de4153a66fd22b").1, (true, "4e2fd618442085843cce66f455f203ea7553e98b67ebc681d0de4153a66fd22b").2.toList) := by kernel_rfl
theorem fnExactZipAdd_cf : Tryz.prog.funcNamed "loop.example/corbel/laws.FnExactZipAdd" = some 11 := by kernel_rfl
theorem fnExactZipAdd_cl : false = Tryz.prog.looks [] := by kernel_rfl
theorem fnExactZipAdd_cg : false = Rows.fnExactZipAddRow.goesBy Tryz.prog := by kernel_rfl
theorem fnExactZipAdd_card_holds : Rows.FnExactZipAddCardSaid :=
  Claim7.holds_tied_plain_at .later [] [.data, .widerDeep, .pinned] true (true, "4e2fd618442085843cce66f455f203ea7553e98b67ebc681d0de4153a66fd22b") false
    fnExactZipAdd.over (fun _ h => by cases h) fnExactZipAdd_cw (fun _ h => by cases h) fnExactZipAdd_row_tie rfl ⟨rfl, rfl⟩ fnExactZipAdd_cm rfl
    (fun f fn hf hfn => by
      obtain rfl : f = 11 := Option.some.inj (fnExactZipAdd_cf.symm.trans hf) |>.symm
      obtain rfl : fn = Tryz.f11 := (Option.some.inj (Tryz.func11.symm.trans hfn)).symm
      exact ⟨fnExactZipAdd_cl, fun j t ht => by
        rw [Tryz.params11] at ht
        rcases j with _ | j
        · obtain rfl : t = 9 := by simpa using ht.symm
          exact (show Tryz.prog.wantsStandIn 9 = false by kernel_rfl)
        · rcases j with _ | j
          · obtain rfl : t = 61 := by simpa using ht.symm
            exact (show Tryz.prog.wantsStandIn 61 = false by kernel_rfl)
          · simp at ht⟩)
    fnExactZipAdd_cg
#print axioms fnExactZipAdd_card_holds
end Go.Proofs.YtlikkbbmehpclaaGreatDoor
