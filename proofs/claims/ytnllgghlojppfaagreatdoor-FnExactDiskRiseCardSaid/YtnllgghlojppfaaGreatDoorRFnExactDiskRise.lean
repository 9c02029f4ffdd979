/- The row of FnExactDiskRise: it holds. Conditions: those of the row. -/
import Derived.Test.YtnllgghlojppfaaGreatDoorDGA2
import Derived.Test.YtnllgghlojppfaaGreatDoorDGC0
import Derived.Test.YtnllgghlojppfaaGreatDoorDGB1
import Derived.Test.YtnllgghlojppfaaGreatDoorRows
import Derived.WalkKit
import Derived.ProofKit
import Derived.OpenShut
import Derived.ShutString
import Derived.ChangeOld
import Derived.Below
import Derived.SizedLaws
import Derived.LaidHandle
import Derived.LaidLaws
import Derived.Handed
import Derived.OpenVars
namespace Go.Proofs.YtnllgghlojppfaaGreatDoor.fnExactDiskRise
open Go Go.ChangeShapes Go.WideShapes Go.ChangeAt Go.RowKit
set_option linter.unusedVariables false
theorem own : ownKnob Tryz.prog.godebug = none := by kernel_rfl
theorem laidOut : laidOutB Tryz.prog = true := by kernel_rfl
theorem plain (a0_0 : Ev.Str) (a0_1 : Ev.Str) (g0 : Ev.gEl [.str, .str] (a0_0, a0_1)) : Ev.FnExactDiskRise a0_0 a0_1 = some true := Ev.FnExactDiskRise_true a0_0 a0_1 g0
theorem walk (W : World) (hG : Ev.GlobOk Ev.C0 W) (v0 : Value) (a0_0 : Ev.Str) (a0_1 : Ev.Str) (r0 : Ev.VR (fun _ => none) (Ev.here W) W (.agg [.str a0_0, .str a0_1]) v0) (g0 : Ev.gEl [.str, .str] (a0_0, a0_1)) :
    Calls Tryz.prog 8 #[v0] W fun e w' => e = .returned (.bool true) ∧ Below W.heap.size W w' :=
  Ev.law_calls (keep := 0) (sargs := [.agg [.sc .str, .sc .str]]) (ids := [.str, .str]) (F := fun (a0_0, a0_1) => Ev.FnExactDiskRise a0_0 a0_1) Ev.tyOk (Ev.tab_ok (l := [(22, Ev.szDisk.S), (24, Ev.toDisk.S), (26, Ev.eqDisk.S), (30, Ev.specDiskRise.S), (31, Ev.diskRise.S)]) ⟨Ev.szDisk.sound, Ev.toDisk.sound, Ev.eqDisk.sound, Ev.specDiskRise.sound, Ev.diskRise.sound, trivial⟩) Tryz.func8 (by kernel_rfl) (by kernel_rfl)
    Ev.FnExactDiskRise.ev (a0_0, a0_1) (plain a0_0 a0_1 g0) W hG #[v0] [.agg [.str a0_0, .str a0_1]] rfl (by simp only [Ev.VRL]; exact ⟨r0, trivial⟩)
theorem globOk (W : World) (hL : laidMetH Tryz.prog Rows.fnExactDiskRiseRow.laid W) : Ev.GlobOk Ev.C0 W := by
  have hL1 : laidMet Tryz.prog Rows.fnExactDiskRiseRow.laid W := hL
  exact Ev.globOk_of (l := Ev.globs) (List.forall_mem_cons.2 ⟨Ev.glob_ints hL1 (n := "loop.example/corbel/impl.order") (xs := [16, 17, 18, 0, 8, 7, 9, 6, 10, 5, 11, 4, 12, 3, 13, 2, 14, 1, 15]) (List.mem_of_getElem? (i := 4) rfl) (g := 3) (t := 121) (e := 3) (by kernel_rfl) (by kernel_rfl) (by kernel_rfl) (by kernel_rfl) (by kernel_rfl), List.forall_mem_cons.2 ⟨Ev.glob_arr hL1 (n := "internal/strconv.uint64pow10") (k := .u64) (xs := [1, 10, 100, 1000, 10000, 100000, 1000000, 10000000, 100000000, 1000000000, 10000000000, 100000000000, 1000000000000, 10000000000000, 100000000000000, 1000000000000000, 10000000000000000, 100000000000000000, 1000000000000000000, 10000000000000000000]) (List.mem_of_getElem? (i := 2) rfl) (g := 5) (m := 20) (t := 230) (e := 196) (by kernel_rfl) (by kernel_rfl) (by kernel_rfl) (by kernel_rfl) (by kernel_rfl) (by kernel_rfl), fun _ h => nomatch h⟩⟩)
/-- The cells of a datum. -/
def litV : Lit → Value
  | .bool b => .bool b
  | .int k n => .int k n
  | .string b => .string ⟨b.toArray⟩
  | _ => .nilIface
mutual
def cellsW : DataW Unit → List Value
  | .lit l => [litV l]
  | .agg ps => cellsWs ps
  | .slice es _ => cellsWs es
  | _ => []
def cellsWs : List (DataW Unit) → List Value
  | [] => []
  | d :: ds => cellsW d ++ cellsWs ds
end
/-- A block that holds these cells. -/
def layAt (w : World) (g : Nat) (cs : List Value) : World := { w with heap := w.heap.modify g fun
  | .cells _ t frozen => .cells cs.toArray t frozen
  | o => o }
/-- A slice over a block of its own. -/
def sliceV (b n : Nat) : List Value := [.slice (some ⟨b, 0, none⟩) n n]
noncomputable def laidWorld (os : Os) : World :=
  layAt (layAt (layAt (layAt (layAt (layAt (World.holding Tryz.prog os ⟨#[.cells (cellsW Rows.laid_loop_example_corbel_impl_order).toArray 3 (0, 0)], #[], []⟩) 8 (cellsW Rows.laid_math_bits_deBruijn32tab)) 9 (cellsW Rows.laid_math_bits_deBruijn64tab)) 5 (cellsW Rows.laid_internal_strconv_uint64pow10)) 7 (cellsW Rows.laid_unicode_utf8_acceptRanges)) 3 (sliceV ((World.settled Tryz.prog os).heap.size + 0) 19)) 6 (cellsW Rows.laid_unicode_utf8_first)
set_option maxRecDepth 100000 in
theorem laidWorld_met (os : Os) (args : Array Value) : laidMetH Tryz.prog Rows.fnExactDiskRiseRow.laid ((laidWorld os).forCall (fun _ _ => 0) ⟨#[], args, []⟩).memory :=
  laidMetH_of_parts (laidMet_of_run' 8 (by kernel_rfl) (by kernel_rfl)) (by kernel_rfl)
set_option maxRecDepth 100000 in
theorem lifted (os : Os) (started : os.Started) (H : Type) (enc : TypeId × Value → H) :
    ReturnsInHanded {} Tryz.checked os 8 .any (fun w args => (Rows.fnExactDiskRiseSpec.pre enc Tryz.prog Tryz.f8 Rows.fnExactDiskRiseRow.domain false w args ∧ laidMetH Tryz.prog Rows.fnExactDiskRiseRow.laid w) ∧ sizedMet enc Tryz.prog Tryz.f8 (OpenSpec.ofChange Rows.fnExactDiskRiseSpec) false w args)
      (Rows.fnExactDiskRiseSpec.post enc Tryz.prog Tryz.f8 false true false false) := by
  refine returnsInHanded_of_change_and (C := Tryz.checked) (X := fun w _ => laidMetH Tryz.prog Rows.fnExactDiskRiseRow.laid w) (fun _ _ _ hh h => h.of_heap hh) own started (by kernel_rfl) Tryz.func8
    (ChangeSpec.witness_shaped (enc := enc) (C := Tryz.checked) (os := os) (X := fun w _ => laidMetH Tryz.prog Rows.fnExactDiskRiseRow.laid w) false (laidWorld os) #[.agg #[.string .empty, .string .empty]] 8 rfl (World.shaped_of_RefB (by kernel_rfl) (by kernel_rfl)) (by kernel_rfl) (by kernel_rfl) (by kernel_rfl) (laidWorld_met os _)) ?_
  intro W base args ds gs before hval0 hW hcnd hsz0 hL _
  have hval : ∀ (j : Nat) t v, Tryz.f8.params[j]? = some t → args[j]? = some v → Value.okWide Tryz.prog W .any base t v := hval0
  have hW' := hW
  obtain ⟨p, q, hA0, hV, rfl, hfz, hnd⟩ := hW
  have hA : DataW.TrodAll enc Tryz.prog W 0 (fun _ => true) true Tryz.f8.params.toList args.toList ds p := hA0
  rw [Tryz.params8] at hA hval
  obtain ⟨v0, vs0, d0, ds0, p0, q0, hargs0, rfl, rfl, h0, r0⟩ := trodAll_cons hA
  obtain ⟨rfl, rfl, rfl⟩ := trodAll_nil r0
  obtain rfl : args = #[v0] := by cases args; simp_all
  obtain ⟨y0, rfl⟩ : ∃ y0, gs = [y0] := by match gs, Ev.vars_len hV with | [y0], _ => exact ⟨y0, rfl⟩
  have k0 := h0
  have lt0 : ∀ x ∈ p0, x.block < W.heap.size := by obtain ⟨m, hm⟩ := k0; exact DataW.trod_lt m _ _ _ hm
  obtain ⟨x0, g0, z0⟩ := Ev.agg_arg (ft := [.str, .str]) Tryz.underlying35 (hval 0 35 v0 rfl rfl) (by kernel_rfl) rfl h0
  clear hA0 hval0 hsz0
  refine (walk W (globOk W hL) _ x0.1 x0.2 z0 g0).mono fun e W' ⟨he, bel⟩ => ?_
  subst he
  exact ⟨_, rfl, _, _, _, [], _, _, hW', trodAll_mk1 (shut_bool Tryz.underlying4 _), (trodAll_cons_mk (Below.trod laidOut (by kernel_rfl) (of_decide_eq_true (by kernel_rfl)) k0 bel lt0) trodAll_mk0), (Below.trodVars laidOut bel (by kernel_rfl) hV), bel.frame _, fun h => by cases h⟩
theorem k0 : (Rows.fnExactDiskRiseRow.wf (OpenSpec.ofChange Rows.fnExactDiskRiseSpec)) = true := by kernel_rfl
theorem k1 : (laidOutB Tryz.prog) = true := by kernel_rfl
theorem k2 : (mapsRowed Tryz.prog) = true := by kernel_rfl
theorem k3 : (Tryz.f8.params.all (Tryz.prog.readableRec ·)) = true := by kernel_rfl
theorem k4 : (namedTie Tryz.prog Rows.fnExactDiskRiseRow.named Rows.fnExactDiskRiseSpec.vars) = true := by kernel_rfl
theorem k5 : (Rows.fnExactDiskRiseRow.stops == []) = true := by kernel_rfl
theorem k6 : (Tryz.prog.stops == []) = true := by kernel_rfl
theorem k7 : (Rows.fnExactDiskRiseRow.knobs == []) = true := by kernel_rfl
theorem k8 : (Tryz.prog.stopKnobs == []) = true := by kernel_rfl
theorem k9 : (Rows.fnExactDiskRiseRow.inPlace == Tryz.prog.inPlace 8) = true := by kernel_rfl
theorem k10 : (Rows.fnExactDiskRiseRow.unfollowed == Tryz.prog.unfollowed 8) = true := by kernel_rfl
theorem k11 : (Rows.fnExactDiskRiseRow.recurses == Tryz.prog.recurses 8) = true := by kernel_rfl
theorem k12 : (Rows.fnExactDiskRiseRow.named == Tryz.prog.varsNamed 8) = true := by kernel_rfl
theorem k13 : (Rows.fnExactDiskRiseRow.maps == (Tryz.f8.params.toList ++ Rows.fnExactDiskRiseSpec.plain.varTypes Tryz.prog).any (Tryz.prog.mapsRec ·)) = true := by kernel_rfl
theorem k14 : (Rows.fnExactDiskRiseRow.ifaces == (Tryz.f8.params.toList ++ Rows.fnExactDiskRiseSpec.plain.varTypes Tryz.prog).any (Tryz.prog.ifacesRec ·)) = true := by kernel_rfl
theorem k15 : (Rows.fnExactDiskRiseRow.mapsOut == Tryz.prog.mapsAmong Tryz.f8.resultTypes.toList) = true := by kernel_rfl
theorem k16 : (Rows.fnExactDiskRiseRow.loops == (Tryz.f8.params.toList ++ Rows.fnExactDiskRiseSpec.plain.varTypes Tryz.prog).any (Tryz.prog.loopsFrom ·)) = true := by kernel_rfl
theorem k17 : (Rows.fnExactDiskRiseRow.wideKeys == (Tryz.f8.params.toList ++ Rows.fnExactDiskRiseSpec.plain.varTypes Tryz.prog ++ Tryz.f8.resultTypes.toList).any (Tryz.prog.wideKeysFrom ·)) = true := by kernel_rfl
theorem k18 : (Rows.fnExactDiskRiseSpec.vars.all (Tryz.prog.varReadable ·)) = true := by kernel_rfl
theorem k19 : (Tryz.f8.resultTypes.all (fun t => Tryz.prog.readableRec t && decide (t < Tryz.prog.types.size))) = true := by kernel_rfl
theorem k20 : (Rows.fnExactDiskRiseRow.ifacesOut == Tryz.f8.resultTypes.toList.any (Tryz.prog.ifacesRec ·)) = true := by kernel_rfl
theorem k21 : (Rows.fnExactDiskRiseRow.loopsOut == Tryz.f8.resultTypes.toList.any (Tryz.prog.loopsFrom ·)) = true := by kernel_rfl
theorem k22 : (Rows.fnExactDiskRiseRow.plainKeys == Tryz.prog.plainKeys) = true := by kernel_rfl
theorem k23 : (Rows.fnExactDiskRiseRow.shortTexts.isNone) = true := by kernel_rfl
theorem k24 : (Tryz.prog.stopsHeard) = true := by kernel_rfl
theorem k25 : (Tryz.prog.mayEnter) = true := by kernel_rfl
theorem k26 : (Rows.fnExactDiskRiseRow.lifted == Tryz.prog.liftsFinal) = true := by kernel_rfl
theorem k27 : (Tryz.prog.make == some Rows.fnExactDiskRiseRow.make) = true := by kernel_rfl
theorem k28 : (Rows.fnExactDiskRiseRow.kinds == (if Rows.fnExactDiskRiseRow.domain.isEmpty then [] else Tryz.f8.params.toList.map fun t => match Tryz.prog.underlying t with | some (.int k) => some k | _ => none)) = true := by kernel_rfl
theorem k29 : (Rows.fnExactDiskRiseRow.pinned == Rows.fnExactDiskRiseRow.pinnedBy) = true := by kernel_rfl
theorem k30 : (Rows.fnExactDiskRiseRow.veiled == (Tryz.f8.params.toList ++ Rows.fnExactDiskRiseSpec.plain.varTypes Tryz.prog ++ Tryz.f8.resultTypes.toList).any (Tryz.prog.veiledRec ·)) = true := by kernel_rfl
theorem k31 : (Rows.fnExactDiskRiseRow.veiledFits Tryz.prog Tryz.f8.params.toList (Tryz.f8.params.toList ++ Rows.fnExactDiskRiseSpec.plain.varTypes Tryz.prog ++ Tryz.f8.resultTypes.toList)) = true := by kernel_rfl
theorem and2 {a b : Bool} (h : a = true) (k : b = true) : (a && b) = true := by rw [h, k]; rfl
set_option maxRecDepth 100000 in
theorem facts : joinedFacts Tryz.prog 8 Tryz.f8 Rows.fnExactDiskRiseSpec Rows.fnExactDiskRiseRow = true := by
  unfold joinedFacts
  exact (and2 (and2 (and2 (and2 (and2 (and2 (and2 (and2 (and2 (and2 (and2 (and2 (and2 (and2 (and2 (and2 (and2 (and2 (and2 (and2 (and2 (and2 (and2 (and2 (and2 (and2 (and2 (and2 (and2 (and2 (and2 k0 k1) k2) k3) k4) k5) k6) k7) k8) k9) k10) k11) k12) k13) k14) k15) k16) k17) k18) k19) k20) k21) k22) k23) k24) k25) k26) k27) k28) k29) k30) k31)
theorem over : Rows.fnExactDiskRiseRow.holds Tryz.pinned (OpenSpec.ofChange Rows.fnExactDiskRiseSpec) :=
  OpenClaim.holds_of_wide 8 Tryz.f8 rfl rfl rfl rfl rfl rfl rfl ⟨rfl, rfl, rfl, rfl, rfl⟩ rfl rfl rfl rfl rfl (by kernel_rfl) Tryz.func8 facts
    (of_decide_eq_true (by kernel_rfl)) (by unfold Func.isWrapper; first | (rw [if_pos (by decide +kernel)]; kernel_rfl) | (rw [if_neg (by decide +kernel)]; exact ⟨rfl, rfl⟩))
    (fun os started H enc _ => lifted os started H enc)
#print axioms over
end Go.Proofs.YtnllgghlojppfaaGreatDoor.fnExactDiskRise
