/- The row of FnTreeLess: it holds. Conditions: those of the row. -/
import Derived.Test.YtbokmcaoggnjhaaDoorRows
import Derived.Test.YtbokmcaoggnjhaaDoorEvEntry2
import Derived.Test.YtbokmcaoggnjhaaDoorD3
import Derived.Test.YtbokmcaoggnjhaaDoorTE0
import Derived.WalkKit
import Derived.ProofKit
import Derived.OpenShut
import Derived.ShutString
import Derived.ChangeOld
import Derived.Below
import Derived.SizedLaws
import Derived.LaidHandle
import Derived.LaidLaws
import Derived.Handed
namespace Go.Proofs.YtbokmcaoggnjhaaDoor.fnTreeLess
open Go Go.ChangeShapes Go.WideShapes Go.ChangeAt Go.RowKit
set_option linter.unusedVariables false
theorem own : ownKnob Tryd.prog.godebug = none := by kernel_rfl
theorem laidOut : laidOutB Tryd.prog = true := by kernel_rfl
theorem plain (xs0 : List (Ev.El [.int .u8])) (l0 : xs0.length ≤ maxLen) (g0 : ∀ y, y ∈ xs0 → Ev.gEl [.int .u8] y) : Ev.FnTreeLess xs0 = some true := by
  have hm : maxLen = 9223372036854775807 := by decide
  exact Ev.FnTreeLess_true xs0 (fun x hx => by have := g0 x hx; simp only [Ev.gEl, Ev.gSc] at this; exact Ev.byte_of this)

theorem walk (W : World) (v0 : Value) (xs0 : List (Ev.El [.int .u8])) (r0 : Ev.RoG (Ev.VRc (Ev.here W) W) (Ev.here W) W [.int .u8] xs0 v0) (l0 : xs0.length ≤ maxLen) (g0 : ∀ y, y ∈ xs0 → Ev.gEl [.int .u8] y) :
    Calls Tryd.prog 4 #[v0] W fun e w' => e = .returned (.bool true) ∧ Below W.heap.size W w' :=
  Ev.law_calls (keep := 0) (sargs := [.sc (.list [.int .u8])]) (ids := [.list [.int .u8]]) (F := fun xs0 => Ev.FnTreeLess xs0) Ev.tyOk rfl (Ev.tab_ok (l := [(6, Ev.specTreeOk.S), (8, Ev.implTreeOk.S), (10, Ev.drawTreeOk.S)]) ⟨Ev.specTreeOk.sound, Ev.implTreeOk.sound, Ev.drawTreeOk.sound, trivial⟩) Tryd.func4 (by kernel_rfl) (by kernel_rfl)
    Ev.FnTreeLess.ev xs0 (plain xs0 l0 g0) W #[v0] [.ro [.int .u8] xs0] rfl (by simp only [Ev.VRL, Ev.VR]; exact ⟨r0, trivial⟩)
/-- The cells of a datum. -/
def litV : Lit → Value
  | .bool b => .bool b
  | .int k n => .int k n
  | .string b => .string ⟨b.toArray⟩
  | _ => .nilIface
mutual
def cellsW : DataW Unit → List Value
  | .lit l => [litV l]
  | .agg ps => cellsWs ps
  | _ => []
def cellsWs : List (DataW Unit) → List Value
  | [] => []
  | d :: ds => cellsW d ++ cellsWs ds
end
/-- A block that holds these cells. -/
def layAt (w : World) (g : Nat) (cs : List Value) : World := { w with heap := w.heap.modify g fun
  | .cells _ t frozen => .cells cs.toArray t frozen
  | o => o }
noncomputable def laidWorld (os : Os) : World :=
  layAt (layAt (World.holding Tryd.prog os ⟨#[], #[], []⟩) 2 (cellsW Rows.laid_unicode_utf8_acceptRanges)) 1 (cellsW Rows.laid_unicode_utf8_first)
set_option maxRecDepth 100000 in
theorem laidWorld_met (os : Os) (args : Array Value) : laidMetH Tryd.prog Rows.fnTreeLessRow.laid ((laidWorld os).forCall (fun _ _ => 0) ⟨#[], args, []⟩).memory :=
  laidMetH_of_parts (laidMet_of_run' 8 (by kernel_rfl) (by kernel_rfl)) (by kernel_rfl)
set_option maxRecDepth 100000 in
theorem lifted (os : Os) (started : os.Started) (H : Type) (enc : TypeId × Value → H) :
    ReturnsInHanded {} Tryd.checked os 4 .any (fun w args => (Rows.fnTreeLessSpec.pre enc Tryd.prog Tryd.f4 Rows.fnTreeLessRow.domain false w args ∧ laidMetH Tryd.prog Rows.fnTreeLessRow.laid w) ∧ sizedMet enc Tryd.prog Tryd.f4 (OpenSpec.ofChange Rows.fnTreeLessSpec) false w args)
      (Rows.fnTreeLessSpec.post enc Tryd.prog Tryd.f4 false true false false) := by
  refine returnsInHanded_of_change_and (C := Tryd.checked) (X := fun w _ => laidMetH Tryd.prog Rows.fnTreeLessRow.laid w) (fun _ _ _ hh h => h.of_heap hh) own started (by kernel_rfl) Tryd.func4
    (ChangeSpec.witness_at (enc := enc) (C := Tryd.checked) (os := os) (X := fun w _ => laidMetH Tryd.prog Rows.fnTreeLessRow.laid w) false (laidWorld os) #[.slice none 0 0] 8 rfl (by kernel_rfl) (by kernel_rfl) (by kernel_rfl) (by kernel_rfl) (by kernel_rfl) (laidWorld_met os _)) ?_
  intro W base args ds gs before hval0 hW hcnd hsz0 hL _
  have hval : ∀ (j : Nat) t v, Tryd.f4.params[j]? = some t → args[j]? = some v → Value.okWide Tryd.prog W .any base t v := hval0
  have hW' := hW
  obtain ⟨p, q, hA0, hV, rfl, hfz, hnd⟩ := hW
  have hA : DataW.TrodAll enc Tryd.prog W 0 (fun _ => true) true Tryd.f4.params.toList args.toList ds p := hA0
  rw [Tryd.params4] at hA hval
  obtain ⟨v0, vs0, d0, ds0, p0, q0, hargs0, rfl, rfl, h0, r0⟩ := trodAll_cons hA
  obtain ⟨rfl, rfl, rfl⟩ := trodAll_nil r0
  obtain rfl : args = #[v0] := by cases args; simp_all
  obtain ⟨rfl, rfl⟩ := trodVars_none hV
  obtain ⟨a0, len0, cap0, rfl⟩ := okWide_slice Tryd.underlying29 (hval 0 29 v0 rfl rfl)
  have k0 := h0
  have lt0 : ∀ x ∈ p0, x.block < W.heap.size := by obtain ⟨m, hm⟩ := k0; exact DataW.trod_lt m _ _ _ hm
  obtain ⟨xs0, ro0, l0, g0⟩ : ∃ xs : List (Ev.El [.int .u8]), Ev.RoG (Ev.VRc (Ev.here W) W) (Ev.here W) W [.int .u8] xs (.slice a0 len0 cap0) ∧ xs.length ≤ maxLen ∧ ∀ y, y ∈ xs → Ev.gEl [.int .u8] y := by
    obtain ⟨fuel, hf⟩ := h0
    exact Ev.slice_rows Tryd.underlying29 (by decide) (by kernel_rfl) (fun m cs y hh => Ev.flat_vals 3 _ _ (by kernel_rfl) m cs y hh) hf
  clear hA0 hval0 hsz0
  refine (walk W _ xs0 ro0 l0 g0).mono fun e W' ⟨he, bel⟩ => ?_
  subst he
  exact ⟨_, rfl, _, _, _, [], _, [], hW', trodAll_mk1 (shut_bool Tryd.underlying4 _), (trodAll_cons_mk (Below.trod laidOut (by kernel_rfl) (of_decide_eq_true (by kernel_rfl)) k0 bel lt0) trodAll_mk0), rfl, bel.frame _, fun h => by cases h⟩
theorem over : Rows.fnTreeLessRow.holds Tryd.pinned (OpenSpec.ofChange Rows.fnTreeLessSpec) :=
  OpenClaim.holds_of_wide 4 Tryd.f4 rfl rfl rfl rfl rfl rfl rfl ⟨rfl, rfl, rfl, rfl, rfl⟩ rfl rfl rfl rfl rfl (by kernel_rfl) Tryd.func4 (by kernel_rfl)
    (of_decide_eq_true (by kernel_rfl)) (by unfold Func.isWrapper; first | (rw [if_pos (by decide +kernel)]; kernel_rfl) | (rw [if_neg (by decide +kernel)]; exact ⟨rfl, rfl⟩))
    (fun os started H enc _ => lifted os started H enc)
#print axioms over
end Go.Proofs.YtbokmcaoggnjhaaDoor.fnTreeLess
