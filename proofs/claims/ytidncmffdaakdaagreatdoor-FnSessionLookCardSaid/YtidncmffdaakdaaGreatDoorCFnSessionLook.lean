/- The tied card of FnSessionLook holds. Conditions: those of the card. -/
import Derived.Test.YtidncmffdaakdaaGreatDoorRFnSessionLook
import Derived.Test.YtidncmffdaakdaaGreatDoorCards
import Derived.Test.YtidncmffdaakdaaGreatDoorTie
import Derived.SevenTiedAt
namespace Go.Proofs.YtidncmffdaakdaaGreatDoor
theorem fnSessionLook_cw : Rows.fnSessionLookRow.wfByText (OpenSpec.ofChange Rows.fnSessionLookSpec) = true := by kernel_rfl
theorem fnSessionLook_cm : Tryz.prog.mainIs = some ((true, "f0a8930f34e6a204e3686dc7d785b9b0bdeb0ebb780fb27a94beae9a726fdaa0").1, (true, "f0a8930f34e6a204e3686dc7d785b9b0bdeb0ebb780fb27a94beae9a726fdaa0").2.toList) := by kernel_rfl
theorem fnSessionLook_cf : Tryz.prog.funcNamed "loop.example/corbel/laws.FnSessionLook" = some 4 := by kernel_rfl
theorem fnSessionLook_cl : false = Tryz.prog.looks [] := by kernel_rfl
theorem fnSessionLook_cg : false = Rows.fnSessionLookRow.goesBy Tryz.prog := by kernel_rfl
theorem fnSessionLook_card_holds : Rows.FnSessionLookCardSaid :=
  Claim7.holds_tied_plain_at .later [] [.data, .data, .data, .data, .data, .data, .data, .widerDeep, .pinned] true (true, "f0a8930f34e6a204e3686dc7d785b9b0bdeb0ebb780fb27a94beae9a726fdaa0") false
    fnSessionLook.over (fun _ h => by cases h) fnSessionLook_cw (fun _ h => by cases h) fnSessionLook_row_tie rfl ⟨rfl, rfl⟩ fnSessionLook_cm rfl
    (fun f fn hf hfn => by
      obtain rfl : f = 4 := Option.some.inj (fnSessionLook_cf.symm.trans hf) |>.symm
      obtain rfl : fn = Tryz.f4 := (Option.some.inj (Tryz.func4.symm.trans hfn)).symm
      exact ⟨fnSessionLook_cl, fun j t ht => by
        rw [Tryz.params4] at ht
        rcases j with _ | j
        · obtain rfl : t = 22 := by simpa using ht.symm
          exact (show Tryz.prog.wantsStandIn 22 = false by kernel_rfl)
        · rcases j with _ | j
          · obtain rfl : t = 22 := by simpa using ht.symm
            exact (show Tryz.prog.wantsStandIn 22 = false by kernel_rfl)
          · simp at ht⟩)
    fnSessionLook_cg
#print axioms fnSessionLook_card_holds
end Go.Proofs.YtidncmffdaakdaaGreatDoor
