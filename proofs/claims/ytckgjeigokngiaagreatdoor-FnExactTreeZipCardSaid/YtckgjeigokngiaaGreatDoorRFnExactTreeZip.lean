/- The row of FnExactTreeZip: it holds. Conditions: those of the row. -/
import Derived.Test.YtckgjeigokngiaaGreatDoorAGA2
import Derived.Test.YtckgjeigokngiaaGreatDoorAGC0
import Derived.Test.YtckgjeigokngiaaGreatDoorAGB1
import Derived.Test.YtckgjeigokngiaaGreatDoorRows
import Derived.WalkKit
import Derived.ProofKit
import Derived.OpenShut
import Derived.ShutString
import Derived.ChangeOld
import Derived.Below
import Derived.SizedLaws
import Derived.LaidHandle
import Derived.LaidLaws
import Derived.Handed
import Derived.OpenVars
namespace Go.Proofs.YtckgjeigokngiaaGreatDoor.fnExactTreeZip
open Go Go.ChangeShapes Go.WideShapes Go.ChangeAt Go.RowKit
set_option linter.unusedVariables false
theorem own : ownKnob Tryz.prog.godebug = none := by kernel_rfl
theorem laidOut : laidOutB Tryz.prog = true := by kernel_rfl
theorem plain (xs0 : List (Ev.El [.str, .str])) (xs1 : Ev.Str) (a2_0 : Int) (a2_1 : Int) (a2_2 : Int) (a2_3 : Int) (a2_4 : Int) (a2_5 : Int) (l0 : xs0.length ≤ maxLen) (g0 : ∀ y, y ∈ xs0 → Ev.gEl [.str, .str] y) (l1 : xs1.length ≤ maxLen) (g2 : Ev.gEl [.int .i64, .int .i64, .int .i64, .int .i64, .int .i64, .int .i64] (a2_0, a2_1, a2_2, a2_3, a2_4, a2_5)) : Ev.FnExactTreeZip xs0 xs1 a2_0 a2_1 a2_2 a2_3 a2_4 a2_5 = some true := Ev.FnExactTreeZip_true xs0 l0 g0 xs1 l1 a2_0 a2_1 a2_2 a2_3 a2_4 a2_5 g2
theorem walk (W : World) (hG : Ev.GlobOk Ev.C0 W) (v0 : Value) (v1 : Value) (v2 : Value) (xs0 : List (Ev.El [.str, .str])) (xs1 : Ev.Str) (a2_0 : Int) (a2_1 : Int) (a2_2 : Int) (a2_3 : Int) (a2_4 : Int) (a2_5 : Int) (r0 : Ev.RoG (Ev.VRc (Ev.here W) W) (Ev.here W) W [.str, .str] xs0 v0) (r1 : v1 = .string ⟨xs1.toArray⟩) (r2 : Ev.VR (fun _ => none) (Ev.here W) W (.agg [.int .i64 a2_0, .int .i64 a2_1, .int .i64 a2_2, .int .i64 a2_3, .int .i64 a2_4, .int .i64 a2_5]) v2) (l0 : xs0.length ≤ maxLen) (g0 : ∀ y, y ∈ xs0 → Ev.gEl [.str, .str] y) (l1 : xs1.length ≤ maxLen) (g2 : Ev.gEl [.int .i64, .int .i64, .int .i64, .int .i64, .int .i64, .int .i64] (a2_0, a2_1, a2_2, a2_3, a2_4, a2_5)) :
    Calls Tryz.prog 11 #[v0, v1, v2] W fun e w' => e = .returned (.bool true) ∧ Below W.heap.size W w' :=
  Ev.law_calls (keep := 0) (sargs := [.sc (.list [.str, .str]), .sc .str, .agg [.sc (.int .i64), .sc (.int .i64), .sc (.int .i64), .sc (.int .i64), .sc (.int .i64), .sc (.int .i64)]]) (ids := [.list [.str, .str], .str, .int .i64, .int .i64, .int .i64, .int .i64, .int .i64, .int .i64]) (F := fun (xs0, xs1, a2_0, a2_1, a2_2, a2_3, a2_4, a2_5) => Ev.FnExactTreeZip xs0 xs1 a2_0 a2_1 a2_2 a2_3 a2_4 a2_5) Ev.tyOk (Ev.tab_ok (l := [(35, Ev.szFileS.S), (36, Ev.specTreeZip.S), (37, Ev.toFileS.S), (38, Ev.toStamp.S), (39, Ev.treeZip.S), (40, Ev.eqFileS.S)]) ⟨Ev.szFileS.sound, Ev.specTreeZip.sound, Ev.toFileS.sound, Ev.toStamp.sound, Ev.treeZip.sound, Ev.eqFileS.sound, trivial⟩) Tryz.func11 (by kernel_rfl) (by kernel_rfl)
    Ev.FnExactTreeZip.ev (xs0, xs1, a2_0, a2_1, a2_2, a2_3, a2_4, a2_5) (plain xs0 xs1 a2_0 a2_1 a2_2 a2_3 a2_4 a2_5 l0 g0 l1 g2) W hG #[v0, v1, v2] [.ro [.str, .str] xs0, .str xs1, .agg [.int .i64 a2_0, .int .i64 a2_1, .int .i64 a2_2, .int .i64 a2_3, .int .i64 a2_4, .int .i64 a2_5]] rfl (by simp only [Ev.VRL]; exact ⟨(by simp only [Ev.VR]; exact r0), (by simp only [Ev.VR]; exact r1), r2, trivial⟩)
theorem globOk (W : World) (hL : laidMetH Tryz.prog Rows.fnExactTreeZipRow.laid W) : Ev.GlobOk Ev.C0 W := by
  have hL1 : laidMet Tryz.prog Rows.fnExactTreeZipRow.laid W := hL
  exact Ev.globOk_of (l := Ev.globs) (List.forall_mem_cons.2 ⟨Ev.glob_ints hL1 (n := "loop.example/corbel/impl.order") (xs := [16, 17, 18, 0, 8, 7, 9, 6, 10, 5, 11, 4, 12, 3, 13, 2, 14, 1, 15]) (List.mem_of_getElem? (i := 1) rfl) (g := 3) (t := 144) (e := 3) (by kernel_rfl) (by kernel_rfl) (by kernel_rfl) (by kernel_rfl) (by kernel_rfl), fun _ h => nomatch h⟩)
/-- The cells of a datum. -/
def litV : Lit → Value
  | .bool b => .bool b
  | .int k n => .int k n
  | .string b => .string ⟨b.toArray⟩
  | _ => .nilIface
mutual
def cellsW : DataW Unit → List Value
  | .lit l => [litV l]
  | .agg ps => cellsWs ps
  | .slice es _ => cellsWs es
  | _ => []
def cellsWs : List (DataW Unit) → List Value
  | [] => []
  | d :: ds => cellsW d ++ cellsWs ds
end
/-- A block that holds these cells. -/
def layAt (w : World) (g : Nat) (cs : List Value) : World := { w with heap := w.heap.modify g fun
  | .cells _ t frozen => .cells cs.toArray t frozen
  | o => o }
/-- A slice over a block of its own. -/
def sliceV (b n : Nat) : List Value := [.slice (some ⟨b, 0, none⟩) n n]
noncomputable def laidWorld (os : Os) : World :=
  layAt (layAt (layAt (World.holding Tryz.prog os ⟨#[.cells (cellsW Rows.laid_loop_example_corbel_impl_order).toArray 3 (0, 0)], #[], []⟩) 7 (cellsW Rows.laid_unicode_utf8_acceptRanges)) 3 (sliceV ((World.settled Tryz.prog os).heap.size + 0) 19)) 6 (cellsW Rows.laid_unicode_utf8_first)
set_option maxRecDepth 100000 in
theorem laidWorld_met (os : Os) (args : Array Value) : laidMetH Tryz.prog Rows.fnExactTreeZipRow.laid ((laidWorld os).forCall (fun _ _ => 0) ⟨#[], args, []⟩).memory :=
  laidMetH_of_parts (laidMet_of_run' 8 (by kernel_rfl) (by kernel_rfl)) (by kernel_rfl)
set_option maxRecDepth 100000 in
theorem lifted (os : Os) (started : os.Started) (H : Type) (enc : TypeId × Value → H) :
    ReturnsInHanded {} Tryz.checked os 11 .any (fun w args => (Rows.fnExactTreeZipSpec.pre enc Tryz.prog Tryz.f11 Rows.fnExactTreeZipRow.domain false w args ∧ laidMetH Tryz.prog Rows.fnExactTreeZipRow.laid w) ∧ sizedMet enc Tryz.prog Tryz.f11 (OpenSpec.ofChange Rows.fnExactTreeZipSpec) false w args)
      (Rows.fnExactTreeZipSpec.post enc Tryz.prog Tryz.f11 false true false false) := by
  refine returnsInHanded_of_change_and (C := Tryz.checked) (X := fun w _ => laidMetH Tryz.prog Rows.fnExactTreeZipRow.laid w) (fun _ _ _ hh h => h.of_heap hh) own started (by kernel_rfl) Tryz.func11
    (ChangeSpec.witness_shaped (enc := enc) (C := Tryz.checked) (os := os) (X := fun w _ => laidMetH Tryz.prog Rows.fnExactTreeZipRow.laid w) false (laidWorld os) #[.slice none 0 0, .string .empty, .agg #[.int .i64 0, .int .i64 0, .int .i64 0, .int .i64 0, .int .i64 0, .int .i64 0]] 8 rfl (World.shaped_of_RefB (by kernel_rfl) (by kernel_rfl)) (by kernel_rfl) (by kernel_rfl) (by kernel_rfl) (laidWorld_met os _)) ?_
  intro W base args ds gs before hval0 hW hcnd hsz0 hL _
  have hval : ∀ (j : Nat) t v, Tryz.f11.params[j]? = some t → args[j]? = some v → Value.okWide Tryz.prog W .any base t v := hval0
  have hW' := hW
  obtain ⟨p, q, hA0, hV, rfl, hfz, hnd⟩ := hW
  have hA : DataW.TrodAll enc Tryz.prog W 0 (fun _ => true) true Tryz.f11.params.toList args.toList ds p := hA0
  rw [Tryz.params11] at hA hval
  obtain ⟨v0, vs0, d0, ds0, p0, q0, hargs0, rfl, rfl, h0, r0⟩ := trodAll_cons hA
  obtain ⟨v1, vs1, d1, ds1, p1, q1, hargs1, rfl, rfl, h1, r1⟩ := trodAll_cons r0
  obtain ⟨v2, vs2, d2, ds2, p2, q2, hargs2, rfl, rfl, h2, r2⟩ := trodAll_cons r1
  obtain ⟨rfl, rfl, rfl⟩ := trodAll_nil r2
  obtain rfl : args = #[v0, v1, v2] := by cases args; simp_all
  obtain ⟨y0, rfl⟩ : ∃ y0, gs = [y0] := by match gs, Ev.vars_len hV with | [y0], _ => exact ⟨y0, rfl⟩
  have k0 := h0
  have lt0 : ∀ x ∈ p0, x.block < W.heap.size := by obtain ⟨m, hm⟩ := k0; exact DataW.trod_lt m _ _ _ hm
  obtain ⟨a0, len0, cap0, rfl⟩ := okWide_slice Tryz.underlying51 (hval 0 51 v0 rfl rfl)
  obtain ⟨xs0, ro0, l0, g0⟩ : ∃ xs : List (Ev.El [.str, .str]), Ev.RoG (Ev.VRc (Ev.here W) W) (Ev.here W) W [.str, .str] xs (.slice a0 len0 cap0) ∧ xs.length ≤ maxLen ∧ ∀ y, y ∈ xs → Ev.gEl [.str, .str] y := by
    obtain ⟨fuel, hf⟩ := h0
    exact Ev.slice_rows Tryz.underlying51 (by decide) (by kernel_rfl) (fun m cs y hh => Ev.flat_vals 3 _ _ (by kernel_rfl) m cs y hh) hf
  have k1 := h1
  have lt1 : ∀ x ∈ p1, x.block < W.heap.size := by obtain ⟨m, hm⟩ := k1; exact DataW.trod_lt m _ _ _ hm
  obtain ⟨b1, rfl, hb1⟩ := Ev.open_str Tryz.underlying9 (hval 1 9 v1 rfl rfl) h1
  have k2 := h2
  have lt2 : ∀ x ∈ p2, x.block < W.heap.size := by obtain ⟨m, hm⟩ := k2; exact DataW.trod_lt m _ _ _ hm
  obtain ⟨x2, g2, r2⟩ := Ev.agg_arg (ft := [.int .i64, .int .i64, .int .i64, .int .i64, .int .i64, .int .i64]) Tryz.underlying52 (hval 2 52 v2 rfl rfl) (by kernel_rfl) rfl h2
  clear hA0 hval0 hsz0
  refine (walk W (globOk W hL) _ _ _ xs0 b1.data.toList x2.1 x2.2.1 x2.2.2.1 x2.2.2.2.1 x2.2.2.2.2.1 x2.2.2.2.2.2 ro0 rfl r2 l0 g0 hb1 g2).mono fun e W' ⟨he, bel⟩ => ?_
  subst he
  exact ⟨_, rfl, _, _, _, [], _, _, hW', trodAll_mk1 (shut_bool Tryz.underlying4 _), (trodAll_cons_mk (Below.trod laidOut (by kernel_rfl) (of_decide_eq_true (by kernel_rfl)) k0 bel lt0) (trodAll_cons_mk (Below.trod laidOut (by kernel_rfl) (of_decide_eq_true (by kernel_rfl)) k1 bel lt1) (trodAll_cons_mk (Below.trod laidOut (by kernel_rfl) (of_decide_eq_true (by kernel_rfl)) k2 bel lt2) trodAll_mk0))), (Below.trodVars laidOut bel (by kernel_rfl) hV), bel.frame _, fun h => by cases h⟩
theorem k0 : (Rows.fnExactTreeZipRow.wf (OpenSpec.ofChange Rows.fnExactTreeZipSpec)) = true := by kernel_rfl
theorem k1 : (laidOutB Tryz.prog) = true := by kernel_rfl
theorem k2 : (mapsRowed Tryz.prog) = true := by kernel_rfl
theorem k3 : (Tryz.f11.params.all (Tryz.prog.readableRec ·)) = true := by kernel_rfl
theorem k4 : (namedTie Tryz.prog Rows.fnExactTreeZipRow.named Rows.fnExactTreeZipSpec.vars) = true := by kernel_rfl
theorem k5 : (Rows.fnExactTreeZipRow.stops == []) = true := by kernel_rfl
theorem k6 : (Tryz.prog.stops == []) = true := by kernel_rfl
theorem k7 : (Rows.fnExactTreeZipRow.knobs == []) = true := by kernel_rfl
theorem k8 : (Tryz.prog.stopKnobs == []) = true := by kernel_rfl
theorem k9 : (Rows.fnExactTreeZipRow.inPlace == Tryz.prog.inPlace 11) = true := by kernel_rfl
theorem k10 : (Rows.fnExactTreeZipRow.unfollowed == Tryz.prog.unfollowed 11) = true := by kernel_rfl
theorem k11 : (Rows.fnExactTreeZipRow.recurses == Tryz.prog.recurses 11) = true := by kernel_rfl
theorem k12 : (Rows.fnExactTreeZipRow.named == Tryz.prog.varsNamed 11) = true := by kernel_rfl
theorem k13 : (Rows.fnExactTreeZipRow.maps == (Tryz.f11.params.toList ++ Rows.fnExactTreeZipSpec.plain.varTypes Tryz.prog).any (Tryz.prog.mapsRec ·)) = true := by kernel_rfl
theorem k14 : (Rows.fnExactTreeZipRow.ifaces == (Tryz.f11.params.toList ++ Rows.fnExactTreeZipSpec.plain.varTypes Tryz.prog).any (Tryz.prog.ifacesRec ·)) = true := by kernel_rfl
theorem k15 : (Rows.fnExactTreeZipRow.mapsOut == Tryz.prog.mapsAmong Tryz.f11.resultTypes.toList) = true := by kernel_rfl
theorem k16 : (Rows.fnExactTreeZipRow.loops == (Tryz.f11.params.toList ++ Rows.fnExactTreeZipSpec.plain.varTypes Tryz.prog).any (Tryz.prog.loopsFrom ·)) = true := by kernel_rfl
theorem k17 : (Rows.fnExactTreeZipRow.wideKeys == (Tryz.f11.params.toList ++ Rows.fnExactTreeZipSpec.plain.varTypes Tryz.prog ++ Tryz.f11.resultTypes.toList).any (Tryz.prog.wideKeysFrom ·)) = true := by kernel_rfl
theorem k18 : (Rows.fnExactTreeZipSpec.vars.all (Tryz.prog.varReadable ·)) = true := by kernel_rfl
theorem k19 : (Tryz.f11.resultTypes.all (fun t => Tryz.prog.readableRec t && decide (t < Tryz.prog.types.size))) = true := by kernel_rfl
theorem k20 : (Rows.fnExactTreeZipRow.ifacesOut == Tryz.f11.resultTypes.toList.any (Tryz.prog.ifacesRec ·)) = true := by kernel_rfl
theorem k21 : (Rows.fnExactTreeZipRow.loopsOut == Tryz.f11.resultTypes.toList.any (Tryz.prog.loopsFrom ·)) = true := by kernel_rfl
theorem k22 : (Rows.fnExactTreeZipRow.plainKeys == Tryz.prog.plainKeys) = true := by kernel_rfl
theorem k23 : (Rows.fnExactTreeZipRow.shortTexts.isNone) = true := by kernel_rfl
theorem k24 : (Tryz.prog.stopsHeard) = true := by kernel_rfl
theorem k25 : (Tryz.prog.mayEnter) = true := by kernel_rfl
theorem k26 : (Rows.fnExactTreeZipRow.lifted == Tryz.prog.liftsFinal) = true := by kernel_rfl
theorem k27 : (Tryz.prog.make == some Rows.fnExactTreeZipRow.make) = true := by kernel_rfl
theorem k28 : (Rows.fnExactTreeZipRow.kinds == (if Rows.fnExactTreeZipRow.domain.isEmpty then [] else Tryz.f11.params.toList.map fun t => match Tryz.prog.underlying t with | some (.int k) => some k | _ => none)) = true := by kernel_rfl
theorem k29 : (Rows.fnExactTreeZipRow.pinned == Rows.fnExactTreeZipRow.pinnedBy) = true := by kernel_rfl
theorem k30 : (Rows.fnExactTreeZipRow.veiled == (Tryz.f11.params.toList ++ Rows.fnExactTreeZipSpec.plain.varTypes Tryz.prog ++ Tryz.f11.resultTypes.toList).any (Tryz.prog.veiledRec ·)) = true := by kernel_rfl
theorem k31 : (Rows.fnExactTreeZipRow.veiledFits Tryz.prog Tryz.f11.params.toList (Tryz.f11.params.toList ++ Rows.fnExactTreeZipSpec.plain.varTypes Tryz.prog ++ Tryz.f11.resultTypes.toList)) = true := by kernel_rfl
theorem and2 {a b : Bool} (h : a = true) (k : b = true) : (a && b) = true := by rw [h, k]; rfl
set_option maxRecDepth 100000 in
theorem facts : joinedFacts Tryz.prog 11 Tryz.f11 Rows.fnExactTreeZipSpec Rows.fnExactTreeZipRow = true := by
  unfold joinedFacts
  exact (and2 (and2 (and2 (and2 (and2 (and2 (and2 (and2 (and2 (and2 (and2 (and2 (and2 (and2 (and2 (and2 (and2 (and2 (and2 (and2 (and2 (and2 (and2 (and2 (and2 (and2 (and2 (and2 (and2 (and2 (and2 k0 k1) k2) k3) k4) k5) k6) k7) k8) k9) k10) k11) k12) k13) k14) k15) k16) k17) k18) k19) k20) k21) k22) k23) k24) k25) k26) k27) k28) k29) k30) k31)
theorem over : Rows.fnExactTreeZipRow.holds Tryz.pinned (OpenSpec.ofChange Rows.fnExactTreeZipSpec) :=
  OpenClaim.holds_of_wide 11 Tryz.f11 rfl rfl rfl rfl rfl rfl rfl ⟨rfl, rfl, rfl, rfl, rfl⟩ rfl rfl rfl rfl rfl (by kernel_rfl) Tryz.func11 facts
    (of_decide_eq_true (by kernel_rfl)) (by unfold Func.isWrapper; first | (rw [if_pos (by decide +kernel)]; kernel_rfl) | (rw [if_neg (by decide +kernel)]; exact ⟨rfl, rfl⟩))
    (fun os started H enc _ => lifted os started H enc)
#print axioms over
end Go.Proofs.YtckgjeigokngiaaGreatDoor.fnExactTreeZip
