/- The row of FnExactDiskTear: it holds. Conditions: those of the row. -/
import Derived.Test.YtnllgghlojppfaaGreatDoorDGA2
import Derived.Test.YtnllgghlojppfaaGreatDoorDGC0
import Derived.Test.YtnllgghlojppfaaGreatDoorDGB1
import Derived.Test.YtnllgghlojppfaaGreatDoorRows
import Derived.WalkKit
import Derived.ProofKit
import Derived.OpenShut
import Derived.ShutString
import Derived.ChangeOld
import Derived.Below
import Derived.SizedLaws
import Derived.LaidHandle
import Derived.LaidLaws
import Derived.Handed
import Derived.OpenVars
namespace Go.Proofs.YtnllgghlojppfaaGreatDoor.fnExactDiskTear
open Go Go.ChangeShapes Go.WideShapes Go.ChangeAt Go.RowKit
set_option linter.unusedVariables false
theorem own : ownKnob Tryz.prog.godebug = none := by kernel_rfl
theorem laidOut : laidOutB Tryz.prog = true := by kernel_rfl
theorem plain (a0_0 : Ev.Str) (a0_1 : Ev.Str) (xs1 : Ev.Str) (xs2 : Int) (g0 : Ev.gEl [.str, .str] (a0_0, a0_1)) (l1 : xs1.length ≤ maxLen) (l2 : (Lit.int .i64 xs2).wf = true) : Ev.FnExactDiskTear a0_0 a0_1 xs1 xs2 = some true := Ev.FnExactDiskTear_true a0_0 a0_1 g0 xs1 l1 xs2 (Ev.wf64 l2)
theorem walk (W : World) (hG : Ev.GlobOk Ev.C0 W) (v0 : Value) (v1 : Value) (v2 : Value) (a0_0 : Ev.Str) (a0_1 : Ev.Str) (xs1 : Ev.Str) (xs2 : Int) (r0 : Ev.VR (fun _ => none) (Ev.here W) W (.agg [.str a0_0, .str a0_1]) v0) (r1 : v1 = .string ⟨xs1.toArray⟩) (r2 : v2 = .int .i64 xs2) (g0 : Ev.gEl [.str, .str] (a0_0, a0_1)) (l1 : xs1.length ≤ maxLen) (l2 : (Lit.int .i64 xs2).wf = true) :
    Calls Tryz.prog 6 #[v0, v1, v2] W fun e w' => e = .returned (.bool true) ∧ Below W.heap.size W w' :=
  Ev.law_calls (keep := 0) (sargs := [.agg [.sc .str, .sc .str], .sc .str, .sc (.int .i64)]) (ids := [.str, .str, .str, .int .i64]) (F := fun (a0_0, a0_1, xs1, xs2) => Ev.FnExactDiskTear a0_0 a0_1 xs1 xs2) Ev.tyOk (Ev.tab_ok (l := [(22, Ev.szDisk.S), (23, Ev.specDiskTear.S), (24, Ev.toDisk.S), (25, Ev.diskTear.S), (26, Ev.eqDisk.S)]) ⟨Ev.szDisk.sound, Ev.specDiskTear.sound, Ev.toDisk.sound, Ev.diskTear.sound, Ev.eqDisk.sound, trivial⟩) Tryz.func6 (by kernel_rfl) (by kernel_rfl)
    Ev.FnExactDiskTear.ev (a0_0, a0_1, xs1, xs2) (plain a0_0 a0_1 xs1 xs2 g0 l1 l2) W hG #[v0, v1, v2] [.agg [.str a0_0, .str a0_1], .str xs1, .int .i64 xs2] rfl (by simp only [Ev.VRL]; exact ⟨r0, (by simp only [Ev.VR]; exact r1), (by simp only [Ev.VR]; exact r2), trivial⟩)
theorem globOk (W : World) (hL : laidMetH Tryz.prog Rows.fnExactDiskTearRow.laid W) : Ev.GlobOk Ev.C0 W := by
  have hL1 : laidMet Tryz.prog Rows.fnExactDiskTearRow.laid W := hL
  exact Ev.globOk_of (l := Ev.globs) (List.forall_mem_cons.2 ⟨Ev.glob_ints hL1 (n := "loop.example/corbel/impl.order") (xs := [16, 17, 18, 0, 8, 7, 9, 6, 10, 5, 11, 4, 12, 3, 13, 2, 14, 1, 15]) (List.mem_of_getElem? (i := 4) rfl) (g := 3) (t := 121) (e := 3) (by kernel_rfl) (by kernel_rfl) (by kernel_rfl) (by kernel_rfl) (by kernel_rfl), List.forall_mem_cons.2 ⟨Ev.glob_arr hL1 (n := "internal/strconv.uint64pow10") (k := .u64) (xs := [1, 10, 100, 1000, 10000, 100000, 1000000, 10000000, 100000000, 1000000000, 10000000000, 100000000000, 1000000000000, 10000000000000, 100000000000000, 1000000000000000, 10000000000000000, 100000000000000000, 1000000000000000000, 10000000000000000000]) (List.mem_of_getElem? (i := 2) rfl) (g := 5) (m := 20) (t := 230) (e := 196) (by kernel_rfl) (by kernel_rfl) (by kernel_rfl) (by kernel_rfl) (by kernel_rfl) (by kernel_rfl), fun _ h => nomatch h⟩⟩)
/-- The cells of a datum. -/
def litV : Lit → Value
  | .bool b => .bool b
  | .int k n => .int k n
  | .string b => .string ⟨b.toArray⟩
  | _ => .nilIface
mutual
def cellsW : DataW Unit → List Value
  | .lit l => [litV l]
  | .agg ps => cellsWs ps
  | .slice es _ => cellsWs es
  | _ => []
def cellsWs : List (DataW Unit) → List Value
  | [] => []
  | d :: ds => cellsW d ++ cellsWs ds
end
/-- A block that holds these cells. -/
def layAt (w : World) (g : Nat) (cs : List Value) : World := { w with heap := w.heap.modify g fun
  | .cells _ t frozen => .cells cs.toArray t frozen
  | o => o }
/-- A slice over a block of its own. -/
def sliceV (b n : Nat) : List Value := [.slice (some ⟨b, 0, none⟩) n n]
noncomputable def laidWorld (os : Os) : World :=
  layAt (layAt (layAt (layAt (layAt (layAt (World.holding Tryz.prog os ⟨#[.cells (cellsW Rows.laid_loop_example_corbel_impl_order).toArray 3 (0, 0)], #[], []⟩) 8 (cellsW Rows.laid_math_bits_deBruijn32tab)) 9 (cellsW Rows.laid_math_bits_deBruijn64tab)) 5 (cellsW Rows.laid_internal_strconv_uint64pow10)) 7 (cellsW Rows.laid_unicode_utf8_acceptRanges)) 3 (sliceV ((World.settled Tryz.prog os).heap.size + 0) 19)) 6 (cellsW Rows.laid_unicode_utf8_first)
set_option maxRecDepth 100000 in
theorem laidWorld_met (os : Os) (args : Array Value) : laidMetH Tryz.prog Rows.fnExactDiskTearRow.laid ((laidWorld os).forCall (fun _ _ => 0) ⟨#[], args, []⟩).memory :=
  laidMetH_of_parts (laidMet_of_run' 8 (by kernel_rfl) (by kernel_rfl)) (by kernel_rfl)
set_option maxRecDepth 100000 in
theorem lifted (os : Os) (started : os.Started) (H : Type) (enc : TypeId × Value → H) :
    ReturnsInHanded {} Tryz.checked os 6 .any (fun w args => (Rows.fnExactDiskTearSpec.pre enc Tryz.prog Tryz.f6 Rows.fnExactDiskTearRow.domain false w args ∧ laidMetH Tryz.prog Rows.fnExactDiskTearRow.laid w) ∧ sizedMet enc Tryz.prog Tryz.f6 (OpenSpec.ofChange Rows.fnExactDiskTearSpec) false w args)
      (Rows.fnExactDiskTearSpec.post enc Tryz.prog Tryz.f6 false true false false) := by
  refine returnsInHanded_of_change_and (C := Tryz.checked) (X := fun w _ => laidMetH Tryz.prog Rows.fnExactDiskTearRow.laid w) (fun _ _ _ hh h => h.of_heap hh) own started (by kernel_rfl) Tryz.func6
    (ChangeSpec.witness_shaped (enc := enc) (C := Tryz.checked) (os := os) (X := fun w _ => laidMetH Tryz.prog Rows.fnExactDiskTearRow.laid w) false (laidWorld os) #[.agg #[.string .empty, .string .empty], .string .empty, .int .i64 0] 8 rfl (World.shaped_of_RefB (by kernel_rfl) (by kernel_rfl)) (by kernel_rfl) (by kernel_rfl) (by kernel_rfl) (laidWorld_met os _)) ?_
  intro W base args ds gs before hval0 hW hcnd hsz0 hL _
  have hval : ∀ (j : Nat) t v, Tryz.f6.params[j]? = some t → args[j]? = some v → Value.okWide Tryz.prog W .any base t v := hval0
  have hW' := hW
  obtain ⟨p, q, hA0, hV, rfl, hfz, hnd⟩ := hW
  have hA : DataW.TrodAll enc Tryz.prog W 0 (fun _ => true) true Tryz.f6.params.toList args.toList ds p := hA0
  rw [Tryz.params6] at hA hval
  obtain ⟨v0, vs0, d0, ds0, p0, q0, hargs0, rfl, rfl, h0, r0⟩ := trodAll_cons hA
  obtain ⟨v1, vs1, d1, ds1, p1, q1, hargs1, rfl, rfl, h1, r1⟩ := trodAll_cons r0
  obtain ⟨v2, vs2, d2, ds2, p2, q2, hargs2, rfl, rfl, h2, r2⟩ := trodAll_cons r1
  obtain ⟨rfl, rfl, rfl⟩ := trodAll_nil r2
  obtain rfl : args = #[v0, v1, v2] := by cases args; simp_all
  obtain ⟨y0, rfl⟩ : ∃ y0, gs = [y0] := by match gs, Ev.vars_len hV with | [y0], _ => exact ⟨y0, rfl⟩
  have k0 := h0
  have lt0 : ∀ x ∈ p0, x.block < W.heap.size := by obtain ⟨m, hm⟩ := k0; exact DataW.trod_lt m _ _ _ hm
  obtain ⟨x0, g0, z0⟩ := Ev.agg_arg (ft := [.str, .str]) Tryz.underlying35 (hval 0 35 v0 rfl rfl) (by kernel_rfl) rfl h0
  have k1 := h1
  have lt1 : ∀ x ∈ p1, x.block < W.heap.size := by obtain ⟨m, hm⟩ := k1; exact DataW.trod_lt m _ _ _ hm
  obtain ⟨b1, rfl, hb1⟩ := Ev.open_str Tryz.underlying9 (hval 1 9 v1 rfl rfl) h1
  have k2 := h2
  have lt2 : ∀ x ∈ p2, x.block < W.heap.size := by obtain ⟨m, hm⟩ := k2; exact DataW.trod_lt m _ _ _ hm
  obtain ⟨n2, rfl, rfl, rfl, hb2⟩ := open_int Tryz.underlying3 (hval 2 3 v2 rfl rfl) h2
  clear hA0 hval0 hsz0
  refine (walk W (globOk W hL) _ _ _ x0.1 x0.2 b1.data.toList n2 z0 rfl rfl g0 hb1 hb2).mono fun e W' ⟨he, bel⟩ => ?_
  subst he
  exact ⟨_, rfl, _, _, _, [], _, _, hW', trodAll_mk1 (shut_bool Tryz.underlying4 _), (trodAll_cons_mk (Below.trod laidOut (by kernel_rfl) (of_decide_eq_true (by kernel_rfl)) k0 bel lt0) (trodAll_cons_mk (Below.trod laidOut (by kernel_rfl) (of_decide_eq_true (by kernel_rfl)) k1 bel lt1) (trodAll_cons_mk (Below.trod laidOut (by kernel_rfl) (of_decide_eq_true (by kernel_rfl)) k2 bel lt2) trodAll_mk0))), (Below.trodVars laidOut bel (by kernel_rfl) hV), bel.frame _, fun h => by cases h⟩
theorem k0 : (Rows.fnExactDiskTearRow.wf (OpenSpec.ofChange Rows.fnExactDiskTearSpec)) = true := by kernel_rfl
theorem k1 : (laidOutB Tryz.prog) = true := by kernel_rfl
theorem k2 : (mapsRowed Tryz.prog) = true := by kernel_rfl
theorem k3 : (Tryz.f6.params.all (Tryz.prog.readableRec ·)) = true := by kernel_rfl
theorem k4 : (namedTie Tryz.prog Rows.fnExactDiskTearRow.named Rows.fnExactDiskTearSpec.vars) = true := by kernel_rfl
theorem k5 : (Rows.fnExactDiskTearRow.stops == []) = true := by kernel_rfl
theorem k6 : (Tryz.prog.stops == []) = true := by kernel_rfl
theorem k7 : (Rows.fnExactDiskTearRow.knobs == []) = true := by kernel_rfl
theorem k8 : (Tryz.prog.stopKnobs == []) = true := by kernel_rfl
theorem k9 : (Rows.fnExactDiskTearRow.inPlace == Tryz.prog.inPlace 6) = true := by kernel_rfl
theorem k10 : (Rows.fnExactDiskTearRow.unfollowed == Tryz.prog.unfollowed 6) = true := by kernel_rfl
theorem k11 : (Rows.fnExactDiskTearRow.recurses == Tryz.prog.recurses 6) = true := by kernel_rfl
theorem k12 : (Rows.fnExactDiskTearRow.named == Tryz.prog.varsNamed 6) = true := by kernel_rfl
theorem k13 : (Rows.fnExactDiskTearRow.maps == (Tryz.f6.params.toList ++ Rows.fnExactDiskTearSpec.plain.varTypes Tryz.prog).any (Tryz.prog.mapsRec ·)) = true := by kernel_rfl
theorem k14 : (Rows.fnExactDiskTearRow.ifaces == (Tryz.f6.params.toList ++ Rows.fnExactDiskTearSpec.plain.varTypes Tryz.prog).any (Tryz.prog.ifacesRec ·)) = true := by kernel_rfl
theorem k15 : (Rows.fnExactDiskTearRow.mapsOut == Tryz.prog.mapsAmong Tryz.f6.resultTypes.toList) = true := by kernel_rfl
theorem k16 : (Rows.fnExactDiskTearRow.loops == (Tryz.f6.params.toList ++ Rows.fnExactDiskTearSpec.plain.varTypes Tryz.prog).any (Tryz.prog.loopsFrom ·)) = true := by kernel_rfl
theorem k17 : (Rows.fnExactDiskTearRow.wideKeys == (Tryz.f6.params.toList ++ Rows.fnExactDiskTearSpec.plain.varTypes Tryz.prog ++ Tryz.f6.resultTypes.toList).any (Tryz.prog.wideKeysFrom ·)) = true := by kernel_rfl
theorem k18 : (Rows.fnExactDiskTearSpec.vars.all (Tryz.prog.varReadable ·)) = true := by kernel_rfl
theorem k19 : (Tryz.f6.resultTypes.all (fun t => Tryz.prog.readableRec t && decide (t < Tryz.prog.types.size))) = true := by kernel_rfl
theorem k20 : (Rows.fnExactDiskTearRow.ifacesOut == Tryz.f6.resultTypes.toList.any (Tryz.prog.ifacesRec ·)) = true := by kernel_rfl
theorem k21 : (Rows.fnExactDiskTearRow.loopsOut == Tryz.f6.resultTypes.toList.any (Tryz.prog.loopsFrom ·)) = true := by kernel_rfl
theorem k22 : (Rows.fnExactDiskTearRow.plainKeys == Tryz.prog.plainKeys) = true := by kernel_rfl
theorem k23 : (Rows.fnExactDiskTearRow.shortTexts.isNone) = true := by kernel_rfl
theorem k24 : (Tryz.prog.stopsHeard) = true := by kernel_rfl
theorem k25 : (Tryz.prog.mayEnter) = true := by kernel_rfl
theorem k26 : (Rows.fnExactDiskTearRow.lifted == Tryz.prog.liftsFinal) = true := by kernel_rfl
theorem k27 : (Tryz.prog.make == some Rows.fnExactDiskTearRow.make) = true := by kernel_rfl
theorem k28 : (Rows.fnExactDiskTearRow.kinds == (if Rows.fnExactDiskTearRow.domain.isEmpty then [] else Tryz.f6.params.toList.map fun t => match Tryz.prog.underlying t with | some (.int k) => some k | _ => none)) = true := by kernel_rfl
theorem k29 : (Rows.fnExactDiskTearRow.pinned == Rows.fnExactDiskTearRow.pinnedBy) = true := by kernel_rfl
theorem k30 : (Rows.fnExactDiskTearRow.veiled == (Tryz.f6.params.toList ++ Rows.fnExactDiskTearSpec.plain.varTypes Tryz.prog ++ Tryz.f6.resultTypes.toList).any (Tryz.prog.veiledRec ·)) = true := by kernel_rfl
theorem k31 : (Rows.fnExactDiskTearRow.veiledFits Tryz.prog Tryz.f6.params.toList (Tryz.f6.params.toList ++ Rows.fnExactDiskTearSpec.plain.varTypes Tryz.prog ++ Tryz.f6.resultTypes.toList)) = true := by kernel_rfl
theorem and2 {a b : Bool} (h : a = true) (k : b = true) : (a && b) = true := by rw [h, k]; rfl
set_option maxRecDepth 100000 in
theorem facts : joinedFacts Tryz.prog 6 Tryz.f6 Rows.fnExactDiskTearSpec Rows.fnExactDiskTearRow = true := by
  unfold joinedFacts
  exact (and2 (and2 (and2 (and2 (and2 (and2 (and2 (and2 (and2 (and2 (and2 (and2 (and2 (and2 (and2 (and2 (and2 (and2 (and2 (and2 (and2 (and2 (and2 (and2 (and2 (and2 (and2 (and2 (and2 (and2 (and2 k0 k1) k2) k3) k4) k5) k6) k7) k8) k9) k10) k11) k12) k13) k14) k15) k16) k17) k18) k19) k20) k21) k22) k23) k24) k25) k26) k27) k28) k29) k30) k31)
theorem over : Rows.fnExactDiskTearRow.holds Tryz.pinned (OpenSpec.ofChange Rows.fnExactDiskTearSpec) :=
  OpenClaim.holds_of_wide 6 Tryz.f6 rfl rfl rfl rfl rfl rfl rfl ⟨rfl, rfl, rfl, rfl, rfl⟩ rfl rfl rfl rfl rfl (by kernel_rfl) Tryz.func6 facts
    (of_decide_eq_true (by kernel_rfl)) (by unfold Func.isWrapper; first | (rw [if_pos (by decide +kernel)]; kernel_rfl) | (rw [if_neg (by decide +kernel)]; exact ⟨rfl, rfl⟩))
    (fun os started H enc _ => lifted os started H enc)
#print axioms over
end Go.Proofs.YtnllgghlojppfaaGreatDoor.fnExactDiskTear
