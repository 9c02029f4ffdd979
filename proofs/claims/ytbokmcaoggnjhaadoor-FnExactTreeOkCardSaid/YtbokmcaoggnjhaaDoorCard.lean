/- The tied card of FnExactTreeOk holds. Conditions: those of the card. -/
import Derived.Test.YtbokmcaoggnjhaaDoorCards
import Derived.Test.YtbokmcaoggnjhaaDoorTie
import Derived.Test.YtbokmcaoggnjhaaDoorRow
import Derived.SevenTiedAt
namespace Go.Proofs.YtbokmcaoggnjhaaDoor
theorem fnExactTreeOk_card_holds : Rows.FnExactTreeOkCardSaid :=
  Claim7.holds_tied_plain_at .later [] [.data, .pinned] true (true, "80b51c02e4e58ebcd5faab0c2853a3bf37a3cb4f1f4a4c9d7f2f1c978847f0f9") false
    fnExactTreeOk.over (fun _ h => by cases h) (by kernel_rfl) (fun _ h => by cases h) fnExactTreeOk_row_tie rfl ⟨rfl, rfl⟩ (by kernel_rfl) rfl
    (fun f fn hf hfn => by
      obtain rfl : f = 3 := Option.some.inj ((show Tryd.prog.funcNamed "loop.example/corbel/laws.FnExactTreeOk" = some 3 by kernel_rfl).symm.trans hf) |>.symm
      obtain rfl : fn = Tryd.f3 := (Option.some.inj (Tryd.func3.symm.trans hfn)).symm
      exact ⟨by kernel_rfl, fun j t ht => by
        rw [Tryd.params3] at ht
        have h3 : t = 22 := by
          rcases j with _ | j
          · simpa using ht.symm
          · simp at ht
        subst h3
        exact (show Tryd.prog.wantsStandIn 22 = false by kernel_rfl)⟩)
    (by kernel_rfl)
#print axioms fnExactTreeOk_card_holds
end Go.Proofs.YtbokmcaoggnjhaaDoor
