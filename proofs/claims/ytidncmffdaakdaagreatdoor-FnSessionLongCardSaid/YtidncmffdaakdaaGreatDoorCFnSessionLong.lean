/- The tied card of FnSessionLong holds. Conditions: those of the card. -/
import Derived.Test.YtidncmffdaakdaaGreatDoorRFnSessionLong
import Derived.Test.YtidncmffdaakdaaGreatDoorCards
import Derived.Test.YtidncmffdaakdaaGreatDoorTie
import Derived.SevenTiedAt
namespace Go.Proofs.YtidncmffdaakdaaGreatDoor
theorem fnSessionLong_cw : Rows.fnSessionLongRow.wfByText (OpenSpec.ofChange Rows.fnSessionLongSpec) = true := by kernel_rfl
theorem fnSessionLong_cm : Tryz.prog.mainIs = some ((true, "f0a8930f34e6a204e3686dc7d785b9b0bdeb0ebb780fb27a94beae9a726fdaa0").1, (true, "f0a8930f34e6a204e3686dc7d785b9b0bdeb0ebb780fb27a94beae9a726fdaa0").2.toList) := by kernel_rfl
theorem fnSessionLong_cf : Tryz.prog.funcNamed "loop.example/corbel/laws.FnSessionLong" = some 3 := by kernel_rfl
theorem fnSessionLong_cl : false = Tryz.prog.looks [] := by kernel_rfl
theorem fnSessionLong_cg : false = Rows.fnSessionLongRow.goesBy Tryz.prog := by kernel_rfl
theorem fnSessionLong_card_holds : Rows.FnSessionLongCardSaid :=
  Claim7.holds_tied_plain_at .later [] [.data, .data, .data, .data, .data, .data, .data, .widerDeep, .pinned] true (true, "f0a8930f34e6a204e3686dc7d785b9b0bdeb0ebb780fb27a94beae9a726fdaa0") false
    fnSessionLong.over (fun _ h => by cases h) fnSessionLong_cw (fun _ h => by cases h) fnSessionLong_row_tie rfl ⟨rfl, rfl⟩ fnSessionLong_cm rfl
    (fun f fn hf hfn => by
      obtain rfl : f = 3 := Option.some.inj (fnSessionLong_cf.symm.trans hf) |>.symm
      obtain rfl : fn = Tryz.f3 := (Option.some.inj (Tryz.func3.symm.trans hfn)).symm
      exact ⟨fnSessionLong_cl, fun j t ht => by
        rw [Tryz.params3] at ht
        rcases j with _ | j
        · obtain rfl : t = 22 := by simpa using ht.symm
          exact (show Tryz.prog.wantsStandIn 22 = false by kernel_rfl)
        · simp at ht⟩)
    fnSessionLong_cg
#print axioms fnSessionLong_card_holds
end Go.Proofs.YtidncmffdaakdaaGreatDoor
