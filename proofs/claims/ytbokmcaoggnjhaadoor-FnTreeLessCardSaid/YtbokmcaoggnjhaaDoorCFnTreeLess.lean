/- The tied card of FnTreeLess holds. Conditions: those of the card. -/
import Derived.Test.YtbokmcaoggnjhaaDoorCards
import Derived.Test.YtbokmcaoggnjhaaDoorTie
import Derived.Test.YtbokmcaoggnjhaaDoorRFnTreeLess
import Derived.SevenTiedAt
namespace Go.Proofs.YtbokmcaoggnjhaaDoor
theorem fnTreeLess_card_holds : Rows.FnTreeLessCardSaid :=
  Claim7.holds_tied_plain_at .later [] [.data, .pinned] true (true, "80b51c02e4e58ebcd5faab0c2853a3bf37a3cb4f1f4a4c9d7f2f1c978847f0f9") false
    fnTreeLess.over (fun _ h => by cases h) (by kernel_rfl) (fun _ h => by cases h) fnTreeLess_row_tie rfl ⟨rfl, rfl⟩ (by kernel_rfl) rfl
    (fun f fn hf hfn => by
      obtain rfl : f = 4 := Option.some.inj ((show Tryd.prog.funcNamed "loop.example/corbel/laws.FnTreeLess" = some 4 by kernel_rfl).symm.trans hf) |>.symm
      obtain rfl : fn = Tryd.f4 := (Option.some.inj (Tryd.func4.symm.trans hfn)).symm
      exact ⟨by kernel_rfl, fun j t ht => by
        rw [Tryd.params4] at ht
        rcases j with _ | j
        · obtain rfl : t = 29 := by simpa using ht.symm
          exact (show Tryd.prog.wantsStandIn 29 = false by kernel_rfl)
        · simp at ht⟩)
    (by kernel_rfl)
#print axioms fnTreeLess_card_holds
end Go.Proofs.YtbokmcaoggnjhaaDoor
