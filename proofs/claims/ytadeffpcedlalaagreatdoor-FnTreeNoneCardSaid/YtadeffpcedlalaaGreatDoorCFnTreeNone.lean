/- The tied card of FnTreeNone holds. Conditions: those of the card. -/
import Derived.Test.YtadeffpcedlalaaGreatDoorRFnTreeNone
import Derived.Test.YtadeffpcedlalaaGreatDoorCards
import Derived.Test.YtadeffpcedlalaaGreatDoorTie
import Derived.SevenTiedAt
namespace Go.Proofs.YtadeffpcedlalaaGreatDoor
theorem fnTreeNone_cw : Rows.fnTreeNoneRow.wfByText (OpenSpec.ofChange Rows.fnTreeNoneSpec) = true := by kernel_rfl
theorem fnTreeNone_cm : Tryz.prog.mainIs = some ((true, "f140fde393fad7354b61e8b57297980d94886fc49d696616f7d8989a063c4caf").1, (true, "f140fde393fad7354b61e8b57297980d94886fc49d696616f7d8989a063c4caf").2.toList) := by kernel_rfl
theorem fnTreeNone_cf : Tryz.prog.funcNamed "loop.example/corbel/laws.FnTreeNone" = some 4 := by kernel_rfl
theorem fnTreeNone_cl : false = Tryz.prog.looks [] := by kernel_rfl
theorem fnTreeNone_cg : false = Rows.fnTreeNoneRow.goesBy Tryz.prog := by kernel_rfl
theorem fnTreeNone_card_holds : Rows.FnTreeNoneCardSaid :=
  Claim7.holds_tied_plain_at .later [] [.data, .widerDeep, .pinned] true (true, "f140fde393fad7354b61e8b57297980d94886fc49d696616f7d8989a063c4caf") false
    fnTreeNone.over (fun _ h => by cases h) fnTreeNone_cw (fun _ h => by cases h) fnTreeNone_row_tie rfl ⟨rfl, rfl⟩ fnTreeNone_cm rfl
    (fun f fn hf hfn => by
      obtain rfl : f = 4 := Option.some.inj (fnTreeNone_cf.symm.trans hf) |>.symm
      obtain rfl : fn = Tryz.f4 := (Option.some.inj (Tryz.func4.symm.trans hfn)).symm
      exact ⟨fnTreeNone_cl, fun j t ht => by
        rw [Tryz.params4] at ht
        rcases j with _ | j
        · obtain rfl : t = 22 := by simpa using ht.symm
          exact (show Tryz.prog.wantsStandIn 22 = false by kernel_rfl)
        · simp at ht⟩)
    fnTreeNone_cg
#print axioms fnTreeNone_card_holds
end Go.Proofs.YtadeffpcedlalaaGreatDoor
