/- The tied card of FnSessionZip holds. Conditions: those of the card. -/
import Derived.Test.YtidncmffdaakdaaGreatDoorRFnSessionZip
import Derived.Test.YtidncmffdaakdaaGreatDoorCards
import Derived.Test.YtidncmffdaakdaaGreatDoorTie
import Derived.SevenTiedAt
namespace Go.Proofs.YtidncmffdaakdaaGreatDoor
theorem fnSessionZip_cw : Rows.fnSessionZipRow.wfByText (OpenSpec.ofChange Rows.fnSessionZipSpec) = true := by kernel_rfl
theorem fnSessionZip_cm : Tryz.prog.mainIs = some ((true, "f0a8930f34e6a204e3686dc7d785b9b0bdeb0ebb780fb27a94beae9a726fdaa0").1, (true, "f0a8930f34e6a204e3686dc7d785b9b0bdeb0ebb780fb27a94beae9a726fdaa0").2.toList) := by kernel_rfl
theorem fnSessionZip_cf : Tryz.prog.funcNamed "loop.example/corbel/laws.FnSessionZip" = some 5 := by kernel_rfl
theorem fnSessionZip_cl : false = Tryz.prog.looks [] := by kernel_rfl
theorem fnSessionZip_cg : false = Rows.fnSessionZipRow.goesBy Tryz.prog := by kernel_rfl
theorem fnSessionZip_card_holds : Rows.FnSessionZipCardSaid :=
  Claim7.holds_tied_plain_at .later [] [.data, .data, .data, .data, .data, .data, .data, .widerDeep, .pinned] true (true, "f0a8930f34e6a204e3686dc7d785b9b0bdeb0ebb780fb27a94beae9a726fdaa0") false
    fnSessionZip.over (fun _ h => by cases h) fnSessionZip_cw (fun _ h => by cases h) fnSessionZip_row_tie rfl ⟨rfl, rfl⟩ fnSessionZip_cm rfl
    (fun f fn hf hfn => by
      obtain rfl : f = 5 := Option.some.inj (fnSessionZip_cf.symm.trans hf) |>.symm
      obtain rfl : fn = Tryz.f5 := (Option.some.inj (Tryz.func5.symm.trans hfn)).symm
      exact ⟨fnSessionZip_cl, fun j t ht => by
        rw [Tryz.params5] at ht
        rcases j with _ | j
        · obtain rfl : t = 22 := by simpa using ht.symm
          exact (show Tryz.prog.wantsStandIn 22 = false by kernel_rfl)
        · simp at ht⟩)
    fnSessionZip_cg
#print axioms fnSessionZip_card_holds
end Go.Proofs.YtidncmffdaakdaaGreatDoor
