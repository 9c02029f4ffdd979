/- The tied card of FnExactSession holds. Conditions: those of the card. -/
import Derived.Test.YtidncmffdaakdaaGreatDoorRFnExactSession
import Derived.Test.YtidncmffdaakdaaGreatDoorCards
import Derived.Test.YtidncmffdaakdaaGreatDoorTie
import Derived.SevenTiedAt
namespace Go.Proofs.YtidncmffdaakdaaGreatDoor
theorem fnExactSession_cw : Rows.fnExactSessionRow.wfByText (OpenSpec.ofChange Rows.fnExactSessionSpec) = true := by kernel_rfl
theorem fnExactSession_cm : Tryz.prog.mainIs = some ((true, "f0a8930f34e6a204e3686dc7d785b9b0bdeb0ebb780fb27a94beae9a726fdaa0").1, (true, "f0a8930f34e6a204e3686dc7d785b9b0bdeb0ebb780fb27a94beae9a726fdaa0").2.toList) := by kernel_rfl
theorem fnExactSession_cf : Tryz.prog.funcNamed "loop.example/corbel/laws.FnExactSession" = some 6 := by kernel_rfl
theorem fnExactSession_cl : false = Tryz.prog.looks [] := by kernel_rfl
theorem fnExactSession_cg : false = Rows.fnExactSessionRow.goesBy Tryz.prog := by kernel_rfl
theorem fnExactSession_card_holds : Rows.FnExactSessionCardSaid :=
  Claim7.holds_tied_plain_at .later [] [.data, .data, .data, .data, .data, .data, .data, .widerDeep, .pinned] true (true, "f0a8930f34e6a204e3686dc7d785b9b0bdeb0ebb780fb27a94beae9a726fdaa0") false
    fnExactSession.over (fun _ h => by cases h) fnExactSession_cw (fun _ h => by cases h) fnExactSession_row_tie rfl ⟨rfl, rfl⟩ fnExactSession_cm rfl
    (fun f fn hf hfn => by
      obtain rfl : f = 6 := Option.some.inj (fnExactSession_cf.symm.trans hf) |>.symm
      obtain rfl : fn = Tryz.f6 := (Option.some.inj (Tryz.func6.symm.trans hfn)).symm
      exact ⟨fnExactSession_cl, fun j t ht => by
        rw [Tryz.params6] at ht
        rcases j with _ | j
        · obtain rfl : t = 23 := by simpa using ht.symm
          exact (show Tryz.prog.wantsStandIn 23 = false by kernel_rfl)
        · simp at ht⟩)
    fnExactSession_cg
#print axioms fnExactSession_card_holds
end Go.Proofs.YtidncmffdaakdaaGreatDoor
