/- The row of FnExactTreeTake: it holds. Conditions: those of the row. -/
import Derived.Test.YtiphcamiidggcaaGreatDoorYGA2
import Derived.Test.YtiphcamiidggcaaGreatDoorYGC0
import Derived.Test.YtiphcamiidggcaaGreatDoorYGB3
import Derived.Test.YtiphcamiidggcaaGreatDoorRows
import Derived.WalkKit
import Derived.ProofKit
import Derived.OpenShut
import Derived.ShutString
import Derived.ChangeOld
import Derived.Below
import Derived.SizedLaws
import Derived.LaidHandle
import Derived.LaidLaws
import Derived.Handed
import Derived.OpenVars
namespace Go.Proofs.YtiphcamiidggcaaGreatDoor.fnExactTreeTake
open Go Go.ChangeShapes Go.WideShapes Go.ChangeAt Go.RowKit
set_option linter.unusedVariables false
theorem own : ownKnob Tryz.prog.godebug = none := by kernel_rfl
theorem laidOut : laidOutB Tryz.prog = true := by kernel_rfl
theorem plain (xs0 : List (Ev.El [.str, .str])) (xs1 : Ev.Str) (l0 : xs0.length ≤ maxLen) (g0 : ∀ y, y ∈ xs0 → Ev.gEl [.str, .str] y) (l1 : xs1.length ≤ maxLen) : Ev.FnExactTreeTake xs0 xs1 = some true := Ev.Zig xs0 l0 g0 xs1 l1
theorem walk (W : World) (hG : Ev.ZiC Ev.C0 W) (v0 : Value) (v1 : Value) (xs0 : List (Ev.El [.str, .str])) (xs1 : Ev.Str) (r0 : Ev.RoG (Ev.VRc (Ev.ZfP W) W) (Ev.ZfP W) W [.str, .str] xs0 v0) (r1 : v1 = .string ⟨xs1.toArray⟩) (l0 : xs0.length ≤ maxLen) (g0 : ∀ y, y ∈ xs0 → Ev.gEl [.str, .str] y) (l1 : xs1.length ≤ maxLen) :
    Calls Tryz.prog 3 #[v0, v1] W fun e w' => e = .returned (.bool true) ∧ Below W.heap.size W w' :=
  Ev.Zjj (keep := 0) (sargs := [.sc (.list [.str, .str]), .sc .str]) (ids := [.list [.str, .str], .str]) (F := fun (xs0, xs1) => Ev.FnExactTreeTake xs0 xs1) Ev.Za8 (Ev.Zai (l := [(15, Ev.Zb8.S), (16, Ev.ZaB.S), (17, Ev.ZbW.S), (18, Ev.ZaT.S), (19, Ev.ZbZ.S), (20, Ev.Zbg.S), (21, Ev.Zbh.S)]) ⟨Ev.Zb8.sound, Ev.ZaB.sound, Ev.ZbW.sound, Ev.ZaT.sound, Ev.ZbZ.sound, Ev.Zbg.sound, Ev.Zbh.sound, trivial⟩) Tryz.func3 (by kernel_rfl) (by kernel_rfl)
    Ev.FnExactTreeTake.ev (xs0, xs1) (plain xs0 xs1 l0 g0 l1) W hG #[v0, v1] [.ro [.str, .str] xs0, .str xs1] rfl (by simp only [Ev.VRL, Ev.VR]; exact ⟨r0, r1, trivial⟩)
theorem globOk (W : World) (hL : laidMetH Tryz.prog Rows.fnExactTreeTakeRow.laid W) : Ev.ZiC Ev.C0 W := by
  have hL1 : laidMet Tryz.prog Rows.fnExactTreeTakeRow.laid W := hL
  exact Ev.ZhK (l := Ev.Zw0) (List.forall_mem_cons.2 ⟨Ev.Zjz hL1 (n := "loop.example/corbel/impl.order") (xs := [16, 17, 18, 0, 8, 7, 9, 6, 10, 5, 11, 4, 12, 3, 13, 2, 14, 1, 15]) (List.mem_of_getElem? (i := 1) rfl) (g := 0) (t := 117) (e := 3) (by kernel_rfl) (by kernel_rfl) (by kernel_rfl) (by kernel_rfl) (by kernel_rfl), fun _ h => nomatch h⟩)
/-- The cells of a datum. -/
def litV : Lit → Value
  | .bool b => .bool b
  | .int k n => .int k n
  | .string b => .string ⟨b.toArray⟩
  | _ => .nilIface
mutual
def cellsW : DataW Unit → List Value
  | .lit l => [litV l]
  | .agg ps => cellsWs ps
  | .slice es _ => cellsWs es
  | _ => []
def cellsWs : List (DataW Unit) → List Value
  | [] => []
  | d :: ds => cellsW d ++ cellsWs ds
end
/-- A block that holds these cells. -/
def layAt (w : World) (g : Nat) (cs : List Value) : World := { w with heap := w.heap.modify g fun
  | .cells _ t frozen => .cells cs.toArray t frozen
  | o => o }
/-- A slice over a block of its own. -/
def sliceV (b n : Nat) : List Value := [.slice (some ⟨b, 0, none⟩) n n]
noncomputable def laidWorld (os : Os) : World :=
  layAt (layAt (layAt (World.holding Tryz.prog os ⟨#[.cells (cellsW Rows.laid_loop_example_corbel_impl_order).toArray 3 (0, 0)], #[], []⟩) 4 (cellsW Rows.laid_unicode_utf8_acceptRanges)) 0 (sliceV ((World.settled Tryz.prog os).heap.size + 0) 19)) 3 (cellsW Rows.laid_unicode_utf8_first)
set_option maxRecDepth 100000 in
theorem laidWorld_met (os : Os) (args : Array Value) : laidMetH Tryz.prog Rows.fnExactTreeTakeRow.laid ((laidWorld os).forCall (fun _ _ => 0) ⟨#[], args, []⟩).memory :=
  laidMetH_of_parts (laidMet_of_run' 8 (by kernel_rfl) (by kernel_rfl)) (by kernel_rfl)
set_option maxRecDepth 100000 in
theorem lifted (os : Os) (started : os.Started) (H : Type) (enc : TypeId × Value → H) :
    ReturnsInHanded {} Tryz.checked os 3 .any (fun w args => (Rows.fnExactTreeTakeSpec.pre enc Tryz.prog Tryz.f3 Rows.fnExactTreeTakeRow.domain false w args ∧ laidMetH Tryz.prog Rows.fnExactTreeTakeRow.laid w) ∧ sizedMet enc Tryz.prog Tryz.f3 (OpenSpec.ofChange Rows.fnExactTreeTakeSpec) false w args)
      (Rows.fnExactTreeTakeSpec.post enc Tryz.prog Tryz.f3 false true false false) := by
  refine returnsInHanded_of_change_and (C := Tryz.checked) (X := fun w _ => laidMetH Tryz.prog Rows.fnExactTreeTakeRow.laid w) (fun _ _ _ hh h => h.of_heap hh) own started (by kernel_rfl) Tryz.func3
    (ChangeSpec.witness_shaped (enc := enc) (C := Tryz.checked) (os := os) (X := fun w _ => laidMetH Tryz.prog Rows.fnExactTreeTakeRow.laid w) false (laidWorld os) #[.slice none 0 0, .string .empty] 8 rfl (World.shaped_of_RefB (by kernel_rfl) (by kernel_rfl)) (by kernel_rfl) (by kernel_rfl) (by kernel_rfl) (laidWorld_met os _)) ?_
  intro W base args ds gs before hval0 hW hcnd hsz0 hL _
  have hval : ∀ (j : Nat) t v, Tryz.f3.params[j]? = some t → args[j]? = some v → Value.okWide Tryz.prog W .any base t v := hval0
  have hW' := hW
  obtain ⟨p, q, hA0, hV, rfl, hfz, hnd⟩ := hW
  have hA : DataW.TrodAll enc Tryz.prog W 0 (fun _ => true) true Tryz.f3.params.toList args.toList ds p := hA0
  rw [Tryz.params3] at hA hval
  obtain ⟨v0, vs0, d0, ds0, p0, q0, hargs0, rfl, rfl, h0, r0⟩ := trodAll_cons hA
  obtain ⟨v1, vs1, d1, ds1, p1, q1, hargs1, rfl, rfl, h1, r1⟩ := trodAll_cons r0
  obtain ⟨rfl, rfl, rfl⟩ := trodAll_nil r1
  obtain rfl : args = #[v0, v1] := by cases args; simp_all
  obtain ⟨y0, rfl⟩ : ∃ y0, gs = [y0] := by match gs, Ev.Zi5 hV with | [y0], _ => exact ⟨y0, rfl⟩
  have k0 := h0
  have lt0 : ∀ x ∈ p0, x.block < W.heap.size := by obtain ⟨m, hm⟩ := k0; exact DataW.trod_lt m _ _ _ hm
  obtain ⟨a0, len0, cap0, rfl⟩ := okWide_slice Tryz.underlying22 (hval 0 22 v0 rfl rfl)
  obtain ⟨xs0, ro0, l0, g0⟩ : ∃ xs : List (Ev.El [.str, .str]), Ev.RoG (Ev.VRc (Ev.ZfP W) W) (Ev.ZfP W) W [.str, .str] xs (.slice a0 len0 cap0) ∧ xs.length ≤ maxLen ∧ ∀ y, y ∈ xs → Ev.gEl [.str, .str] y := by
    obtain ⟨fuel, hf⟩ := h0
    exact Ev.Zgx Tryz.underlying22 (by decide) (by kernel_rfl) (fun m cs y hh => Ev.ZhM 3 _ _ (by kernel_rfl) m cs y hh) hf
  have k1 := h1
  have lt1 : ∀ x ∈ p1, x.block < W.heap.size := by obtain ⟨m, hm⟩ := k1; exact DataW.trod_lt m _ _ _ hm
  obtain ⟨b1, rfl, hb1⟩ := Ev.Zx7 Tryz.underlying9 (hval 1 9 v1 rfl rfl) h1
  clear hA0 hval0 hsz0
  refine (walk W (globOk W hL) _ _ xs0 b1.data.toList ro0 rfl l0 g0 hb1).mono fun e W' ⟨he, bel⟩ => ?_
  subst he
  exact ⟨_, rfl, _, _, _, [], _, _, hW', trodAll_mk1 (shut_bool Tryz.underlying4 _), (trodAll_cons_mk (Below.trod laidOut (by kernel_rfl) (of_decide_eq_true (by kernel_rfl)) k0 bel lt0) (trodAll_cons_mk (Below.trod laidOut (by kernel_rfl) (of_decide_eq_true (by kernel_rfl)) k1 bel lt1) trodAll_mk0)), (Below.trodVars laidOut bel (by kernel_rfl) hV), bel.frame _, fun h => by cases h⟩
theorem k0 : (Rows.fnExactTreeTakeRow.wf (OpenSpec.ofChange Rows.fnExactTreeTakeSpec)) = true := by kernel_rfl
theorem k1 : (laidOutB Tryz.prog) = true := by kernel_rfl
theorem k2 : (mapsRowed Tryz.prog) = true := by kernel_rfl
theorem k3 : (Tryz.f3.params.all (Tryz.prog.readableRec ·)) = true := by kernel_rfl
theorem k4 : (namedTie Tryz.prog Rows.fnExactTreeTakeRow.named Rows.fnExactTreeTakeSpec.vars) = true := by kernel_rfl
theorem k5 : (Rows.fnExactTreeTakeRow.stops == []) = true := by kernel_rfl
theorem k6 : (Tryz.prog.stops == []) = true := by kernel_rfl
theorem k7 : (Rows.fnExactTreeTakeRow.knobs == []) = true := by kernel_rfl
theorem k8 : (Tryz.prog.stopKnobs == []) = true := by kernel_rfl
theorem k9 : (Rows.fnExactTreeTakeRow.inPlace == Tryz.prog.inPlace 3) = true := by kernel_rfl
theorem k10 : (Rows.fnExactTreeTakeRow.unfollowed == Tryz.prog.unfollowed 3) = true := by kernel_rfl
theorem k11 : (Rows.fnExactTreeTakeRow.recurses == Tryz.prog.recurses 3) = true := by kernel_rfl
theorem k12 : (Rows.fnExactTreeTakeRow.named == Tryz.prog.varsNamed 3) = true := by kernel_rfl
theorem k13 : (Rows.fnExactTreeTakeRow.maps == (Tryz.f3.params.toList ++ Rows.fnExactTreeTakeSpec.plain.varTypes Tryz.prog).any (Tryz.prog.mapsRec ·)) = true := by kernel_rfl
theorem k14 : (Rows.fnExactTreeTakeRow.ifaces == (Tryz.f3.params.toList ++ Rows.fnExactTreeTakeSpec.plain.varTypes Tryz.prog).any (Tryz.prog.ifacesRec ·)) = true := by kernel_rfl
theorem k15 : (Rows.fnExactTreeTakeRow.mapsOut == Tryz.prog.mapsAmong Tryz.f3.resultTypes.toList) = true := by kernel_rfl
theorem k16 : (Rows.fnExactTreeTakeRow.loops == (Tryz.f3.params.toList ++ Rows.fnExactTreeTakeSpec.plain.varTypes Tryz.prog).any (Tryz.prog.loopsFrom ·)) = true := by kernel_rfl
theorem k17 : (Rows.fnExactTreeTakeRow.wideKeys == (Tryz.f3.params.toList ++ Rows.fnExactTreeTakeSpec.plain.varTypes Tryz.prog ++ Tryz.f3.resultTypes.toList).any (Tryz.prog.wideKeysFrom ·)) = true := by kernel_rfl
theorem k18 : (Rows.fnExactTreeTakeSpec.vars.all (Tryz.prog.varReadable ·)) = true := by kernel_rfl
theorem k19 : (Tryz.f3.resultTypes.all (fun t => Tryz.prog.readableRec t && decide (t < Tryz.prog.types.size))) = true := by kernel_rfl
theorem k20 : (Rows.fnExactTreeTakeRow.ifacesOut == Tryz.f3.resultTypes.toList.any (Tryz.prog.ifacesRec ·)) = true := by kernel_rfl
theorem k21 : (Rows.fnExactTreeTakeRow.loopsOut == Tryz.f3.resultTypes.toList.any (Tryz.prog.loopsFrom ·)) = true := by kernel_rfl
theorem k22 : (Rows.fnExactTreeTakeRow.plainKeys == Tryz.prog.plainKeys) = true := by kernel_rfl
theorem k23 : (Rows.fnExactTreeTakeRow.shortTexts.isNone) = true := by kernel_rfl
theorem k24 : (Tryz.prog.stopsHeard) = true := by kernel_rfl
theorem k25 : (Tryz.prog.mayEnter) = true := by kernel_rfl
theorem k26 : (Rows.fnExactTreeTakeRow.lifted == Tryz.prog.liftsFinal) = true := by kernel_rfl
theorem k27 : (Tryz.prog.make == some Rows.fnExactTreeTakeRow.make) = true := by kernel_rfl
theorem k28 : (Rows.fnExactTreeTakeRow.kinds == (if Rows.fnExactTreeTakeRow.domain.isEmpty then [] else Tryz.f3.params.toList.map fun t => match Tryz.prog.underlying t with | some (.int k) => some k | _ => none)) = true := by kernel_rfl
theorem k29 : (Rows.fnExactTreeTakeRow.pinned == Rows.fnExactTreeTakeRow.pinnedBy) = true := by kernel_rfl
theorem k30 : (Rows.fnExactTreeTakeRow.veiled == (Tryz.f3.params.toList ++ Rows.fnExactTreeTakeSpec.plain.varTypes Tryz.prog ++ Tryz.f3.resultTypes.toList).any (Tryz.prog.veiledRec ·)) = true := by kernel_rfl
theorem k31 : (Rows.fnExactTreeTakeRow.veiledFits Tryz.prog Tryz.f3.params.toList (Tryz.f3.params.toList ++ Rows.fnExactTreeTakeSpec.plain.varTypes Tryz.prog ++ Tryz.f3.resultTypes.toList)) = true := by kernel_rfl
theorem and2 {a b : Bool} (h : a = true) (k : b = true) : (a && b) = true := by rw [h, k]; rfl
set_option maxRecDepth 100000 in
theorem facts : joinedFacts Tryz.prog 3 Tryz.f3 Rows.fnExactTreeTakeSpec Rows.fnExactTreeTakeRow = true := by
  unfold joinedFacts
  exact (and2 (and2 (and2 (and2 (and2 (and2 (and2 (and2 (and2 (and2 (and2 (and2 (and2 (and2 (and2 (and2 (and2 (and2 (and2 (and2 (and2 (and2 (and2 (and2 (and2 (and2 (and2 (and2 (and2 (and2 (and2 k0 k1) k2) k3) k4) k5) k6) k7) k8) k9) k10) k11) k12) k13) k14) k15) k16) k17) k18) k19) k20) k21) k22) k23) k24) k25) k26) k27) k28) k29) k30) k31)
theorem over : Rows.fnExactTreeTakeRow.holds Tryz.pinned (OpenSpec.ofChange Rows.fnExactTreeTakeSpec) :=
  OpenClaim.holds_of_wide 3 Tryz.f3 rfl rfl rfl rfl rfl rfl rfl ⟨rfl, rfl, rfl, rfl, rfl⟩ rfl rfl rfl rfl rfl (by kernel_rfl) Tryz.func3 facts
    (of_decide_eq_true (by kernel_rfl)) (by unfold Func.isWrapper; first | (rw [if_pos (by decide +kernel)]; kernel_rfl) | (rw [if_neg (by decide +kernel)]; exact ⟨rfl, rfl⟩))
    (fun os started H enc _ => lifted os started H enc)
#print axioms over
end Go.Proofs.YtiphcamiidggcaaGreatDoor.fnExactTreeTake
