/- The row of FnTreeZip: it holds. Conditions: those of the row. -/
import Derived.Test.YtiphcamiidggcaaGreatDoorYGA2
import Derived.Test.YtiphcamiidggcaaGreatDoorYGC0
import Derived.Test.YtiphcamiidggcaaGreatDoorYGB3
import Derived.Test.YtiphcamiidggcaaGreatDoorRows
import Derived.WalkKit
import Derived.ProofKit
import Derived.OpenShut
import Derived.ShutString
import Derived.ChangeOld
import Derived.Below
import Derived.SizedLaws
import Derived.LaidHandle
import Derived.LaidLaws
import Derived.Handed
import Derived.OpenVars
namespace Go.Proofs.YtiphcamiidggcaaGreatDoor.fnTreeZip
open Go Go.ChangeShapes Go.WideShapes Go.ChangeAt Go.RowKit
set_option linter.unusedVariables false
theorem own : ownKnob Tryz.prog.godebug = none := by kernel_rfl
theorem laidOut : laidOutB Tryz.prog = true := by kernel_rfl
theorem plain (xs0 : List (Ev.El [.int .u8])) (l0 : xs0.length ≤ maxLen) (g0 : ∀ y, y ∈ xs0 → Ev.gEl [.int .u8] y) : Ev.FnTreeZip xs0 = some true := Ev.ZnD xs0 (fun x hx => by have := g0 x hx; simp only [Ev.gEl, Ev.gSc] at this; exact Ev.ZsZ this)
theorem walk (W : World) (hG : Ev.ZiC Ev.C0 W) (v0 : Value) (xs0 : List (Ev.El [.int .u8])) (r0 : Ev.RoG (Ev.VRc (Ev.ZfP W) W) (Ev.ZfP W) W [.int .u8] xs0 v0) (l0 : xs0.length ≤ maxLen) (g0 : ∀ y, y ∈ xs0 → Ev.gEl [.int .u8] y) :
    Calls Tryz.prog 11 #[v0] W fun e w' => e = .returned (.bool true) ∧ Below W.heap.size W w' :=
  Ev.Zjj (keep := 0) (sargs := [.sc (.list [.int .u8])]) (ids := [.list [.int .u8]]) (F := fun xs0 => Ev.FnTreeZip xs0) Ev.Za8 (Ev.Zai (l := [(18, Ev.ZaT.S), (42, Ev.Zbw.S), (43, Ev.ZbQ.S), (44, Ev.ZaH.S), (45, Ev.Zif.S)]) ⟨Ev.ZaT.sound, Ev.Zbw.sound, Ev.ZbQ.sound, Ev.ZaH.sound, Ev.Zif.sound, trivial⟩) Tryz.func11 (by kernel_rfl) (by kernel_rfl)
    Ev.FnTreeZip.ev xs0 (plain xs0 l0 g0) W hG #[v0] [.ro [.int .u8] xs0] rfl (by simp only [Ev.VRL, Ev.VR]; exact ⟨r0, trivial⟩)
theorem globOk (W : World) (hL : laidMetH Tryz.prog Rows.fnTreeZipRow.laid W) : Ev.ZiC Ev.C0 W := by
  have hL1 : laidMet Tryz.prog Rows.fnTreeZipRow.laid W := hL
  exact Ev.ZhK (l := Ev.Zw0) (List.forall_mem_cons.2 ⟨Ev.Zjz hL1 (n := "loop.example/corbel/impl.order") (xs := [16, 17, 18, 0, 8, 7, 9, 6, 10, 5, 11, 4, 12, 3, 13, 2, 14, 1, 15]) (List.mem_of_getElem? (i := 1) rfl) (g := 0) (t := 117) (e := 3) (by kernel_rfl) (by kernel_rfl) (by kernel_rfl) (by kernel_rfl) (by kernel_rfl), fun _ h => nomatch h⟩)
/-- The cells of a datum. -/
def litV : Lit → Value
  | .bool b => .bool b
  | .int k n => .int k n
  | .string b => .string ⟨b.toArray⟩
  | _ => .nilIface
mutual
def cellsW : DataW Unit → List Value
  | .lit l => [litV l]
  | .agg ps => cellsWs ps
  | .slice es _ => cellsWs es
  | _ => []
def cellsWs : List (DataW Unit) → List Value
  | [] => []
  | d :: ds => cellsW d ++ cellsWs ds
end
/-- A block that holds these cells. -/
def layAt (w : World) (g : Nat) (cs : List Value) : World := { w with heap := w.heap.modify g fun
  | .cells _ t frozen => .cells cs.toArray t frozen
  | o => o }
/-- A slice over a block of its own. -/
def sliceV (b n : Nat) : List Value := [.slice (some ⟨b, 0, none⟩) n n]
noncomputable def laidWorld (os : Os) : World :=
  layAt (layAt (layAt (World.holding Tryz.prog os ⟨#[.cells (cellsW Rows.laid_loop_example_corbel_impl_order).toArray 3 (0, 0)], #[], []⟩) 4 (cellsW Rows.laid_unicode_utf8_acceptRanges)) 0 (sliceV ((World.settled Tryz.prog os).heap.size + 0) 19)) 3 (cellsW Rows.laid_unicode_utf8_first)
set_option maxRecDepth 100000 in
theorem laidWorld_met (os : Os) (args : Array Value) : laidMetH Tryz.prog Rows.fnTreeZipRow.laid ((laidWorld os).forCall (fun _ _ => 0) ⟨#[], args, []⟩).memory :=
  laidMetH_of_parts (laidMet_of_run' 8 (by kernel_rfl) (by kernel_rfl)) (by kernel_rfl)
set_option maxRecDepth 100000 in
theorem lifted (os : Os) (started : os.Started) (H : Type) (enc : TypeId × Value → H) :
    ReturnsInHanded {} Tryz.checked os 11 .any (fun w args => (Rows.fnTreeZipSpec.pre enc Tryz.prog Tryz.f11 Rows.fnTreeZipRow.domain false w args ∧ laidMetH Tryz.prog Rows.fnTreeZipRow.laid w) ∧ sizedMet enc Tryz.prog Tryz.f11 (OpenSpec.ofChange Rows.fnTreeZipSpec) false w args)
      (Rows.fnTreeZipSpec.post enc Tryz.prog Tryz.f11 false true false false) := by
  refine returnsInHanded_of_change_and (C := Tryz.checked) (X := fun w _ => laidMetH Tryz.prog Rows.fnTreeZipRow.laid w) (fun _ _ _ hh h => h.of_heap hh) own started (by kernel_rfl) Tryz.func11
    (ChangeSpec.witness_shaped (enc := enc) (C := Tryz.checked) (os := os) (X := fun w _ => laidMetH Tryz.prog Rows.fnTreeZipRow.laid w) false (laidWorld os) #[.slice none 0 0] 8 rfl (World.shaped_of_RefB (by kernel_rfl) (by kernel_rfl)) (by kernel_rfl) (by kernel_rfl) (by kernel_rfl) (laidWorld_met os _)) ?_
  intro W base args ds gs before hval0 hW hcnd hsz0 hL _
  have hval : ∀ (j : Nat) t v, Tryz.f11.params[j]? = some t → args[j]? = some v → Value.okWide Tryz.prog W .any base t v := hval0
  have hW' := hW
  obtain ⟨p, q, hA0, hV, rfl, hfz, hnd⟩ := hW
  have hA : DataW.TrodAll enc Tryz.prog W 0 (fun _ => true) true Tryz.f11.params.toList args.toList ds p := hA0
  rw [Tryz.params11] at hA hval
  obtain ⟨v0, vs0, d0, ds0, p0, q0, hargs0, rfl, rfl, h0, r0⟩ := trodAll_cons hA
  obtain ⟨rfl, rfl, rfl⟩ := trodAll_nil r0
  obtain rfl : args = #[v0] := by cases args; simp_all
  obtain ⟨y0, rfl⟩ : ∃ y0, gs = [y0] := by match gs, Ev.Zi5 hV with | [y0], _ => exact ⟨y0, rfl⟩
  have k0 := h0
  have lt0 : ∀ x ∈ p0, x.block < W.heap.size := by obtain ⟨m, hm⟩ := k0; exact DataW.trod_lt m _ _ _ hm
  obtain ⟨a0, len0, cap0, rfl⟩ := okWide_slice Tryz.underlying31 (hval 0 31 v0 rfl rfl)
  obtain ⟨xs0, ro0, l0, g0⟩ : ∃ xs : List (Ev.El [.int .u8]), Ev.RoG (Ev.VRc (Ev.ZfP W) W) (Ev.ZfP W) W [.int .u8] xs (.slice a0 len0 cap0) ∧ xs.length ≤ maxLen ∧ ∀ y, y ∈ xs → Ev.gEl [.int .u8] y := by
    obtain ⟨fuel, hf⟩ := h0
    exact Ev.Zgx Tryz.underlying31 (by decide) (by kernel_rfl) (fun m cs y hh => Ev.ZhM 3 _ _ (by kernel_rfl) m cs y hh) hf
  clear hA0 hval0 hsz0
  refine (walk W (globOk W hL) _ xs0 ro0 l0 g0).mono fun e W' ⟨he, bel⟩ => ?_
  subst he
  exact ⟨_, rfl, _, _, _, [], _, _, hW', trodAll_mk1 (shut_bool Tryz.underlying4 _), (trodAll_cons_mk (Below.trod laidOut (by kernel_rfl) (of_decide_eq_true (by kernel_rfl)) k0 bel lt0) trodAll_mk0), (Below.trodVars laidOut bel (by kernel_rfl) hV), bel.frame _, fun h => by cases h⟩
theorem k0 : (Rows.fnTreeZipRow.wf (OpenSpec.ofChange Rows.fnTreeZipSpec)) = true := by kernel_rfl
theorem k1 : (laidOutB Tryz.prog) = true := by kernel_rfl
theorem k2 : (mapsRowed Tryz.prog) = true := by kernel_rfl
theorem k3 : (Tryz.f11.params.all (Tryz.prog.readableRec ·)) = true := by kernel_rfl
theorem k4 : (namedTie Tryz.prog Rows.fnTreeZipRow.named Rows.fnTreeZipSpec.vars) = true := by kernel_rfl
theorem k5 : (Rows.fnTreeZipRow.stops == []) = true := by kernel_rfl
theorem k6 : (Tryz.prog.stops == []) = true := by kernel_rfl
theorem k7 : (Rows.fnTreeZipRow.knobs == []) = true := by kernel_rfl
theorem k8 : (Tryz.prog.stopKnobs == []) = true := by kernel_rfl
theorem k9 : (Rows.fnTreeZipRow.inPlace == Tryz.prog.inPlace 11) = true := by kernel_rfl
theorem k10 : (Rows.fnTreeZipRow.unfollowed == Tryz.prog.unfollowed 11) = true := by kernel_rfl
theorem k11 : (Rows.fnTreeZipRow.recurses == Tryz.prog.recurses 11) = true := by kernel_rfl
theorem k12 : (Rows.fnTreeZipRow.named == Tryz.prog.varsNamed 11) = true := by kernel_rfl
theorem k13 : (Rows.fnTreeZipRow.maps == (Tryz.f11.params.toList ++ Rows.fnTreeZipSpec.plain.varTypes Tryz.prog).any (Tryz.prog.mapsRec ·)) = true := by kernel_rfl
theorem k14 : (Rows.fnTreeZipRow.ifaces == (Tryz.f11.params.toList ++ Rows.fnTreeZipSpec.plain.varTypes Tryz.prog).any (Tryz.prog.ifacesRec ·)) = true := by kernel_rfl
theorem k15 : (Rows.fnTreeZipRow.mapsOut == Tryz.prog.mapsAmong Tryz.f11.resultTypes.toList) = true := by kernel_rfl
theorem k16 : (Rows.fnTreeZipRow.loops == (Tryz.f11.params.toList ++ Rows.fnTreeZipSpec.plain.varTypes Tryz.prog).any (Tryz.prog.loopsFrom ·)) = true := by kernel_rfl
theorem k17 : (Rows.fnTreeZipRow.wideKeys == (Tryz.f11.params.toList ++ Rows.fnTreeZipSpec.plain.varTypes Tryz.prog ++ Tryz.f11.resultTypes.toList).any (Tryz.prog.wideKeysFrom ·)) = true := by kernel_rfl
theorem k18 : (Rows.fnTreeZipSpec.vars.all (Tryz.prog.varReadable ·)) = true := by kernel_rfl
theorem k19 : (Tryz.f11.resultTypes.all (fun t => Tryz.prog.readableRec t && decide (t < Tryz.prog.types.size))) = true := by kernel_rfl
theorem k20 : (Rows.fnTreeZipRow.ifacesOut == Tryz.f11.resultTypes.toList.any (Tryz.prog.ifacesRec ·)) = true := by kernel_rfl
theorem k21 : (Rows.fnTreeZipRow.loopsOut == Tryz.f11.resultTypes.toList.any (Tryz.prog.loopsFrom ·)) = true := by kernel_rfl
theorem k22 : (Rows.fnTreeZipRow.plainKeys == Tryz.prog.plainKeys) = true := by kernel_rfl
theorem k23 : (Rows.fnTreeZipRow.shortTexts.isNone) = true := by kernel_rfl
theorem k24 : (Tryz.prog.stopsHeard) = true := by kernel_rfl
theorem k25 : (Tryz.prog.mayEnter) = true := by kernel_rfl
theorem k26 : (Rows.fnTreeZipRow.lifted == Tryz.prog.liftsFinal) = true := by kernel_rfl
theorem k27 : (Tryz.prog.make == some Rows.fnTreeZipRow.make) = true := by kernel_rfl
theorem k28 : (Rows.fnTreeZipRow.kinds == (if Rows.fnTreeZipRow.domain.isEmpty then [] else Tryz.f11.params.toList.map fun t => match Tryz.prog.underlying t with | some (.int k) => some k | _ => none)) = true := by kernel_rfl
theorem k29 : (Rows.fnTreeZipRow.pinned == Rows.fnTreeZipRow.pinnedBy) = true := by kernel_rfl
theorem k30 : (Rows.fnTreeZipRow.veiled == (Tryz.f11.params.toList ++ Rows.fnTreeZipSpec.plain.varTypes Tryz.prog ++ Tryz.f11.resultTypes.toList).any (Tryz.prog.veiledRec ·)) = true := by kernel_rfl
theorem k31 : (Rows.fnTreeZipRow.veiledFits Tryz.prog Tryz.f11.params.toList (Tryz.f11.params.toList ++ Rows.fnTreeZipSpec.plain.varTypes Tryz.prog ++ Tryz.f11.resultTypes.toList)) = true := by kernel_rfl
theorem and2 {a b : Bool} (h : a = true) (k : b = true) : (a && b) = true := by rw [h, k]; rfl
set_option maxRecDepth 100000 in
theorem facts : joinedFacts Tryz.prog 11 Tryz.f11 Rows.fnTreeZipSpec Rows.fnTreeZipRow = true := by
  unfold joinedFacts
  exact (and2 (and2 (and2 (and2 (and2 (and2 (and2 (and2 (and2 (and2 (and2 (and2 (and2 (and2 (and2 (and2 (and2 (and2 (and2 (and2 (and2 (and2 (and2 (and2 (and2 (and2 (and2 (and2 (and2 (and2 (and2 k0 k1) k2) k3) k4) k5) k6) k7) k8) k9) k10) k11) k12) k13) k14) k15) k16) k17) k18) k19) k20) k21) k22) k23) k24) k25) k26) k27) k28) k29) k30) k31)
theorem over : Rows.fnTreeZipRow.holds Tryz.pinned (OpenSpec.ofChange Rows.fnTreeZipSpec) :=
  OpenClaim.holds_of_wide 11 Tryz.f11 rfl rfl rfl rfl rfl rfl rfl ⟨rfl, rfl, rfl, rfl, rfl⟩ rfl rfl rfl rfl rfl (by kernel_rfl) Tryz.func11 facts
    (of_decide_eq_true (by kernel_rfl)) (by unfold Func.isWrapper; first | (rw [if_pos (by decide +kernel)]; kernel_rfl) | (rw [if_neg (by decide +kernel)]; exact ⟨rfl, rfl⟩))
    (fun os started H enc _ => lifted os started H enc)
#print axioms over
end Go.Proofs.YtiphcamiidggcaaGreatDoor.fnTreeZip
