/- The row of FnExactTreeOk: it holds. Conditions: those of the row. -/
import Derived.Test.YtbokmcaoggnjhaaDoorRows
import Derived.Test.YtbokmcaoggnjhaaDoorEvEntry
import Derived.Test.YtbokmcaoggnjhaaDoorL9
import Derived.Test.YtbokmcaoggnjhaaDoorT1
import Derived.WalkKit
import Derived.ProofKit
import Derived.OpenShut
import Derived.ShutString
import Derived.ChangeOld
import Derived.Below
import Derived.SizedLaws
import Derived.LaidHandle
import Derived.LaidLaws
import Derived.Handed
namespace Go.Proofs.YtbokmcaoggnjhaaDoor.fnExactTreeOk
open Go Go.ChangeShapes Go.WideShapes Go.ChangeAt Go.RowKit
set_option linter.unusedVariables false
theorem own : ownKnob Tryd.prog.godebug = none := by kernel_rfl
theorem laidOut : laidOutB Tryd.prog = true := by kernel_rfl
theorem plain (xs : List (Ev.El [.str, .str])) (hxl : xs.length ≤ maxLen) (hg : ∀ y, y ∈ xs → Ev.gEl [.str, .str] y) : Ev.FnExactTreeOk xs = some true := by
  have hm : maxLen = 9223372036854775807 := by decide
  refine Ev.FnExactTreeOk_true xs (by omega) fun x hx => ?_
  have h := hg x hx
  have h1 : x.1.length ≤ maxLen := h.1
  have h2 : x.2.length ≤ maxLen := h.2
  omega
theorem walk (W : World) (v : Value) (xs : List (Ev.El [.str, .str])) (hro : Ev.RoG (Ev.VRc (Ev.here W) W) (Ev.here W) W [.str, .str] xs v) (hxl : xs.length ≤ maxLen) (hg : ∀ y, y ∈ xs → Ev.gEl [.str, .str] y) :
    Calls Tryd.prog 3 #[v] W fun e w' => e = .returned (.bool true) ∧ Below W.heap.size W w' :=
  Ev.law_calls (keep := 0) (sargs := [.sc (.list [.str, .str])]) (ids := [.list [.str, .str]]) (F := fun xs => Ev.FnExactTreeOk xs) Ev.tyOk rfl (Ev.tab_ok (l := [(5, Ev.szFileS.S), (6, Ev.specTreeOk.S), (7, Ev.toFileS.S), (8, Ev.implTreeOk.S), (9, Ev.eqFileS.S)]) ⟨Ev.szFileS.sound, Ev.specTreeOk.sound, Ev.toFileS.sound, Ev.implTreeOk.sound, Ev.eqFileS.sound, trivial⟩) Tryd.func3 (by kernel_rfl) (by kernel_rfl)
    Ev.FnExactTreeOk.ev xs (plain xs hxl hg) W #[v] [.ro [.str, .str] xs] rfl (by simp only [Ev.VRL, Ev.VR]; exact ⟨hro, trivial⟩)
/-- The cells of a datum. -/
def litV : Lit → Value
  | .bool b => .bool b
  | .int k n => .int k n
  | _ => .nilIface
mutual
def cellsW : DataW Unit → List Value
  | .lit l => [litV l]
  | .agg ps => cellsWs ps
  | _ => []
def cellsWs : List (DataW Unit) → List Value
  | [] => []
  | d :: ds => cellsW d ++ cellsWs ds
end
/-- A block that holds these cells. -/
def layAt (w : World) (g : Nat) (cs : List Value) : World := { w with heap := w.heap.modify g fun
  | .cells _ t frozen => .cells cs.toArray t frozen
  | o => o }
noncomputable def laidWorld (os : Os) : World :=
  layAt (layAt (World.holding Tryd.prog os ⟨#[], #[], []⟩) 2 (cellsW Rows.laid_unicode_utf8_acceptRanges)) 1 (cellsW Rows.laid_unicode_utf8_first)
set_option maxRecDepth 100000 in
theorem laidWorld_met (os : Os) (args : Array Value) : laidMetH Tryd.prog Rows.fnExactTreeOkRow.laid ((laidWorld os).forCall (fun _ _ => 0) ⟨#[], args, []⟩).memory :=
  laidMetH_of_parts (laidMet_of_run' 8 (by kernel_rfl) (by kernel_rfl)) (by kernel_rfl)
set_option maxRecDepth 100000 in
theorem lifted (os : Os) (started : os.Started) (H : Type) (enc : TypeId × Value → H) :
    ReturnsInHanded {} Tryd.checked os 3 .any (fun w args => (Rows.fnExactTreeOkSpec.pre enc Tryd.prog Tryd.f3 Rows.fnExactTreeOkRow.domain false w args ∧ laidMetH Tryd.prog Rows.fnExactTreeOkRow.laid w) ∧ sizedMet enc Tryd.prog Tryd.f3 (OpenSpec.ofChange Rows.fnExactTreeOkSpec) false w args)
      (Rows.fnExactTreeOkSpec.post enc Tryd.prog Tryd.f3 false true false false) := by
  refine returnsInHanded_of_change_and (C := Tryd.checked) (X := fun w _ => laidMetH Tryd.prog Rows.fnExactTreeOkRow.laid w) (fun _ _ _ hh h => h.of_heap hh) own started (by kernel_rfl) Tryd.func3
    (ChangeSpec.witness_at (enc := enc) (C := Tryd.checked) (os := os) (X := fun w _ => laidMetH Tryd.prog Rows.fnExactTreeOkRow.laid w) false (laidWorld os) #[.slice none 0 0] 8 rfl (by kernel_rfl) (by kernel_rfl) (by kernel_rfl) (by kernel_rfl) (by kernel_rfl) (laidWorld_met os _)) ?_
  intro W base args ds gs before hval0 hW hcnd hsz0 hL _
  have hval : ∀ (j : Nat) t v, Tryd.f3.params[j]? = some t → args[j]? = some v → Value.okWide Tryd.prog W .any base t v := hval0
  have hW' := hW
  obtain ⟨p, q, hA0, hV, rfl, hfz, hnd⟩ := hW
  have hA : DataW.TrodAll enc Tryd.prog W 0 (fun _ => true) true Tryd.f3.params.toList args.toList ds p := hA0
  rw [Tryd.params3] at hA hval
  obtain ⟨v0, vs0, d0, ds0, p0, q0, hargs, rfl, rfl, h0, r0⟩ := trodAll_cons hA
  obtain ⟨rfl, rfl, rfl⟩ := trodAll_nil r0
  obtain rfl : args = #[v0] := by cases args; simp_all
  obtain ⟨rfl, rfl⟩ := trodVars_none hV
  obtain ⟨a0, len0, cap0, rfl⟩ := okWide_slice Tryd.underlying22 (hval 0 22 v0 rfl rfl)
  have k0 := h0
  have lt0 : ∀ x ∈ p0, x.block < W.heap.size := by obtain ⟨m, hm⟩ := k0; exact DataW.trod_lt m _ _ _ hm
  obtain ⟨xs, hro, hxl, hg⟩ : ∃ xs : List (Ev.El [.str, .str]), Ev.RoG (Ev.VRc (Ev.here W) W) (Ev.here W) W [.str, .str] xs (.slice a0 len0 cap0) ∧ xs.length ≤ maxLen ∧ ∀ y, y ∈ xs → Ev.gEl [.str, .str] y := by
    obtain ⟨fuel, hf⟩ := h0
    exact Ev.slice_rows Tryd.underlying22 (by decide) (by kernel_rfl) (fun m cs y hh => Ev.flat_vals 3 _ _ (by kernel_rfl) m cs y hh) hf
  clear hA0 hval0 hsz0
  refine (walk W _ xs hro hxl hg).mono fun e W' ⟨he, bel⟩ => ?_
  subst he
  exact ⟨_, rfl, _, _, _, [], _, [], hW', trodAll_mk1 (shut_bool Tryd.underlying4 _), (trodAll_cons_mk (Below.trod laidOut (by kernel_rfl) (of_decide_eq_true (by kernel_rfl)) k0 bel lt0) trodAll_mk0), rfl, bel.frame _, fun h => by cases h⟩
theorem over : Rows.fnExactTreeOkRow.holds Tryd.pinned (OpenSpec.ofChange Rows.fnExactTreeOkSpec) :=
  OpenClaim.holds_of_wide 3 Tryd.f3 rfl rfl rfl rfl rfl rfl rfl ⟨rfl, rfl, rfl, rfl, rfl⟩ rfl rfl rfl rfl rfl (by kernel_rfl) Tryd.func3 (by kernel_rfl)
    (of_decide_eq_true (by kernel_rfl)) (by unfold Func.isWrapper; first | (rw [if_pos (by decide +kernel)]; kernel_rfl) | (rw [if_neg (by decide +kernel)]; exact ⟨rfl, rfl⟩))
    (fun os started H enc _ => lifted os started H enc)
#print axioms over
end Go.Proofs.YtbokmcaoggnjhaaDoor.fnExactTreeOk
