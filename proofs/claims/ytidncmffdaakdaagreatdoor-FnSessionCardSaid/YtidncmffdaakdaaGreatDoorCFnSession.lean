/- The tied card of FnSession holds. Conditions: those of the card. -/
import Derived.Test.YtidncmffdaakdaaGreatDoorRFnSession
import Derived.Test.YtidncmffdaakdaaGreatDoorCards
import Derived.Test.YtidncmffdaakdaaGreatDoorTie
import Derived.SevenTiedAt
namespace Go.Proofs.YtidncmffdaakdaaGreatDoor
theorem fnSession_cw : Rows.fnSessionRow.wfByText (OpenSpec.ofChange Rows.fnSessionSpec) = true := by kernel_rfl
theorem fnSession_cm : Tryz.prog.mainIs = some ((true, "f0a8930f34e6a204e3686dc7d785b9b0bdeb0ebb780fb27a94beae9a726fdaa0").1, (true, "f0a8930f34e6a204e3686dc7d785b9b0bdeb0ebb780fb27a94beae9a726fdaa0").2.toList) := by kernel_rfl
theorem fnSession_cf : Tryz.prog.funcNamed "loop.example/corbel/laws.FnSession" = some 7 := by kernel_rfl
theorem fnSession_cl : false = Tryz.prog.looks [] := by kernel_rfl
theorem fnSession_cg : false = Rows.fnSessionRow.goesBy Tryz.prog := by kernel_rfl
theorem fnSession_card_holds : Rows.FnSessionCardSaid :=
  Claim7.holds_tied_plain_at .later [] [.data, .data, .data, .data, .data, .data, .data, .widerDeep, .pinned] true (true, "f0a8930f34e6a204e3686dc7d785b9b0bdeb0ebb780fb27a94beae9a726fdaa0") false
    fnSession.over (fun _ h => by cases h) fnSession_cw (fun _ h => by cases h) fnSession_row_tie rfl ⟨rfl, rfl⟩ fnSession_cm rfl
    (fun f fn hf hfn => by
      obtain rfl : f = 7 := Option.some.inj (fnSession_cf.symm.trans hf) |>.symm
      obtain rfl : fn = Tryz.f7 := (Option.some.inj (Tryz.func7.symm.trans hfn)).symm
      exact ⟨fnSession_cl, fun j t ht => by
        rw [Tryz.params7] at ht
        rcases j with _ | j
        · obtain rfl : t = 22 := by simpa using ht.symm
          exact (show Tryz.prog.wantsStandIn 22 = false by kernel_rfl)
        · rcases j with _ | j
          · obtain rfl : t = 22 := by simpa using ht.symm
            exact (show Tryz.prog.wantsStandIn 22 = false by kernel_rfl)
          · simp at ht⟩)
    fnSession_cg
#print axioms fnSession_card_holds
end Go.Proofs.YtidncmffdaakdaaGreatDoor
