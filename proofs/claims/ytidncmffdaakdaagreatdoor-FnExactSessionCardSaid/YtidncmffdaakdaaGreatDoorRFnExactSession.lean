/- The row of FnExactSession: it holds. Conditions: those of the row. -/
import Derived.Test.YtidncmffdaakdaaGreatDoorAGA2
import Derived.Test.YtidncmffdaakdaaGreatDoorAGC0
import Derived.Test.YtidncmffdaakdaaGreatDoorAGB3
import Derived.Test.YtidncmffdaakdaaGreatDoorRows
import Derived.WalkKit
import Derived.ProofKit
import Derived.OpenShut
import Derived.ShutString
import Derived.ChangeOld
import Derived.Below
import Derived.SizedLaws
import Derived.LaidHandle
import Derived.LaidLaws
import Derived.Handed
import Derived.OpenVars
namespace Go.Proofs.YtidncmffdaakdaaGreatDoor.fnExactSession
open Go Go.ChangeShapes Go.WideShapes Go.ChangeAt Go.RowKit
set_option linter.unusedVariables false
theorem own : ownKnob Tryz.prog.godebug = none := by kernel_rfl
theorem laidOut : laidOutB Tryz.prog = true := by kernel_rfl
theorem plain (xs0 : List (Ev.El [.str])) (l0 : xs0.length ≤ maxLen) (g0 : ∀ y, y ∈ xs0 → Ev.gEl [.str] y) : Ev.FnExactSession xs0 = some true := Ev.Zjk xs0 l0 g0
theorem walk (W : World) (hG : Ev.ZhE Ev.C0 W) (v0 : Value) (xs0 : List (Ev.El [.str])) (r0 : Ev.RoG (Ev.VRc (Ev.Zed W) W) (Ev.Zed W) W [.str] xs0 v0) (l0 : xs0.length ≤ maxLen) (g0 : ∀ y, y ∈ xs0 → Ev.gEl [.str] y) :
    Calls Tryz.prog 6 #[v0] W fun e w' => e = .returned (.bool true) ∧ Below W.heap.size W w' :=
  Ev.Zh1 (keep := 0) (sargs := [.sc (.list [.str])]) (ids := [.list [.str]]) (F := fun xs0 => Ev.FnExactSession xs0) Ev.Za4 (Ev.Zai (l := [(9, Ev.ZbK.S), (10, Ev.Zam.S), (11, Ev.Zbg.S), (12, Ev.Za9.S), (13, Ev.Zbk.S)]) ⟨Ev.ZbK.sound, Ev.Zam.sound, Ev.Zbg.sound, Ev.Za9.sound, Ev.Zbk.sound, trivial⟩) Tryz.func6 (by kernel_rfl) (by kernel_rfl)
    Ev.FnExactSession.ev xs0 (plain xs0 l0 g0) W hG #[v0] [.ro [.str] xs0] rfl (by simp only [Ev.VRL, Ev.VR]; exact ⟨r0, trivial⟩)
theorem globOk (W : World) (hL : laidMetH Tryz.prog Rows.fnExactSessionRow.laid W) : Ev.ZhE Ev.C0 W := by
  have hL1 : laidMet Tryz.prog Rows.fnExactSessionRow.laid W := hL
  exact Ev.ZgZ (l := Ev.Zv2) (List.forall_mem_cons.2 ⟨Ev.Zh2 hL1 (n := "loop.example/corbel/impl.order") (xs := [16, 17, 18, 0, 8, 7, 9, 6, 10, 5, 11, 4, 12, 3, 13, 2, 14, 1, 15]) (List.mem_of_getElem? (i := 7) rfl) (g := 3) (t := 117) (e := 3) (by kernel_rfl) (by kernel_rfl) (by kernel_rfl) (by kernel_rfl) (by kernel_rfl), List.forall_mem_cons.2 ⟨Ev.Zeb hL1 (n := "loop.example/corbel/impl.editWords") (xs := [[102, 105, 110, 101], [102, 111, 114, 109], [110, 111, 110, 101], [116, 119, 105, 99, 101], [102, 117, 108, 108]]) (List.mem_of_getElem? (i := 4) rfl) (g := 0) (t := 23) (e := 9) (by kernel_rfl) (by kernel_rfl) (by kernel_rfl) (by kernel_rfl) (by kernel_rfl), List.forall_mem_cons.2 ⟨Ev.Zeb hL1 (n := "loop.example/corbel/impl.kindWords") (xs := [[115, 116, 111, 114, 101], [102, 105, 120, 101, 100], [111, 119, 110]]) (List.mem_of_getElem? (i := 5) rfl) (g := 2) (t := 23) (e := 9) (by kernel_rfl) (by kernel_rfl) (by kernel_rfl) (by kernel_rfl) (by kernel_rfl), List.forall_mem_cons.2 ⟨Ev.ZjU hL1 (n := "internal/strconv.uint64pow10") (k := .u64) (xs := [1, 10, 100, 1000, 10000, 100000, 1000000, 10000000, 100000000, 1000000000, 10000000000, 100000000000, 1000000000000, 10000000000000, 100000000000000, 1000000000000000, 10000000000000000, 100000000000000000, 1000000000000000000, 10000000000000000000]) (List.mem_of_getElem? (i := 2) rfl) (g := 5) (m := 20) (t := 175) (e := 154) (by kernel_rfl) (by kernel_rfl) (by kernel_rfl) (by kernel_rfl) (by kernel_rfl) (by kernel_rfl), List.forall_mem_cons.2 ⟨Ev.ZjV hL1 (n := "loop.example/corbel/impl.first") (xs := [2000, 1, 1, 0, 0, 0]) (List.mem_of_getElem? (i := 6) rfl) (g := 1) (t := 53) (by kernel_rfl) (by kernel_rfl) Tryz.underlying53 (by kernel_rfl) (by kernel_rfl), fun _ h => nomatch h⟩⟩⟩⟩⟩)
/-- The cells of a datum. -/
def litV : Lit → Value
  | .bool b => .bool b
  | .int k n => .int k n
  | .string b => .string ⟨b.toArray⟩
  | _ => .nilIface
mutual
def cellsW : DataW Unit → List Value
  | .lit l => [litV l]
  | .agg ps => cellsWs ps
  | .slice es _ => cellsWs es
  | _ => []
def cellsWs : List (DataW Unit) → List Value
  | [] => []
  | d :: ds => cellsW d ++ cellsWs ds
end
/-- A block that holds these cells. -/
def layAt (w : World) (g : Nat) (cs : List Value) : World := { w with heap := w.heap.modify g fun
  | .cells _ t frozen => .cells cs.toArray t frozen
  | o => o }
/-- A slice over a block of its own. -/
def sliceV (b n : Nat) : List Value := [.slice (some ⟨b, 0, none⟩) n n]
noncomputable def laidWorld (os : Os) : World :=
  layAt (layAt (layAt (layAt (layAt (layAt (layAt (layAt (layAt (World.holding Tryz.prog os ⟨#[.cells (cellsW Rows.laid_loop_example_corbel_impl_editWords).toArray 9 (0, 0), .cells (cellsW Rows.laid_loop_example_corbel_impl_kindWords).toArray 9 (0, 0), .cells (cellsW Rows.laid_loop_example_corbel_impl_order).toArray 3 (0, 0)], #[], []⟩) 6 (cellsW Rows.laid_math_bits_deBruijn32tab)) 7 (cellsW Rows.laid_math_bits_deBruijn64tab)) 5 (cellsW Rows.laid_internal_strconv_uint64pow10)) 9 (cellsW Rows.laid_unicode_utf8_acceptRanges)) 0 (sliceV ((World.settled Tryz.prog os).heap.size + 0) 5)) 2 (sliceV ((World.settled Tryz.prog os).heap.size + 1) 3)) 1 (cellsW Rows.laid_loop_example_corbel_impl_first)) 3 (sliceV ((World.settled Tryz.prog os).heap.size + 2) 19)) 8 (cellsW Rows.laid_unicode_utf8_first)
set_option maxRecDepth 100000 in
theorem laidWorld_met (os : Os) (args : Array Value) : laidMetH Tryz.prog Rows.fnExactSessionRow.laid ((laidWorld os).forCall (fun _ _ => 0) ⟨#[], args, []⟩).memory :=
  laidMetH_of_parts (laidMet_of_run' 8 (by kernel_rfl) (by kernel_rfl)) (by kernel_rfl)
set_option maxRecDepth 100000 in
theorem lifted (os : Os) (started : os.Started) (H : Type) (enc : TypeId × Value → H) :
    ReturnsInHanded {} Tryz.checked os 6 .any (fun w args => (Rows.fnExactSessionSpec.pre enc Tryz.prog Tryz.f6 Rows.fnExactSessionRow.domain false w args ∧ laidMetH Tryz.prog Rows.fnExactSessionRow.laid w) ∧ sizedMet enc Tryz.prog Tryz.f6 (OpenSpec.ofChange Rows.fnExactSessionSpec) false w args)
      (Rows.fnExactSessionSpec.post enc Tryz.prog Tryz.f6 false true false false) := by
  refine returnsInHanded_of_change_and (C := Tryz.checked) (X := fun w _ => laidMetH Tryz.prog Rows.fnExactSessionRow.laid w) (fun _ _ _ hh h => h.of_heap hh) own started (by kernel_rfl) Tryz.func6
    (ChangeSpec.witness_shaped (enc := enc) (C := Tryz.checked) (os := os) (X := fun w _ => laidMetH Tryz.prog Rows.fnExactSessionRow.laid w) false (laidWorld os) #[.slice none 0 0] 8 rfl (World.shaped_of_RefB (by kernel_rfl) (by kernel_rfl)) (by kernel_rfl) (by kernel_rfl) (by kernel_rfl) (laidWorld_met os _)) ?_
  intro W base args ds gs before hval0 hW hcnd hsz0 hL _
  have hval : ∀ (j : Nat) t v, Tryz.f6.params[j]? = some t → args[j]? = some v → Value.okWide Tryz.prog W .any base t v := hval0
  have hW' := hW
  obtain ⟨p, q, hA0, hV, rfl, hfz, hnd⟩ := hW
  have hA : DataW.TrodAll enc Tryz.prog W 0 (fun _ => true) true Tryz.f6.params.toList args.toList ds p := hA0
  rw [Tryz.params6] at hA hval
  obtain ⟨v0, vs0, d0, ds0, p0, q0, hargs0, rfl, rfl, h0, r0⟩ := trodAll_cons hA
  obtain ⟨rfl, rfl, rfl⟩ := trodAll_nil r0
  obtain rfl : args = #[v0] := by cases args; simp_all
  obtain ⟨y0, y1, y2, y3, rfl⟩ : ∃ y0 y1 y2 y3, gs = [y0, y1, y2, y3] := by match gs, Ev.Zil hV with | [y0, y1, y2, y3], _ => exact ⟨y0, y1, y2, y3, rfl⟩
  have k0 := h0
  have lt0 : ∀ x ∈ p0, x.block < W.heap.size := by obtain ⟨m, hm⟩ := k0; exact DataW.trod_lt m _ _ _ hm
  obtain ⟨a0, len0, cap0, rfl⟩ := okWide_slice Tryz.underlying23 (hval 0 23 v0 rfl rfl)
  obtain ⟨xs0, ro0, l0, g0⟩ : ∃ xs : List (Ev.El [.str]), Ev.RoG (Ev.VRc (Ev.Zed W) W) (Ev.Zed W) W [.str] xs (.slice a0 len0 cap0) ∧ xs.length ≤ maxLen ∧ ∀ y, y ∈ xs → Ev.gEl [.str] y := by
    obtain ⟨fuel, hf⟩ := h0
    exact Ev.Zej Tryz.underlying23 (by decide) (by kernel_rfl) (fun m cs y hh => Ev.Zfn 3 _ _ (by kernel_rfl) m cs y hh) hf
  clear hA0 hval0 hsz0
  refine (walk W (globOk W hL) _ xs0 ro0 l0 g0).mono fun e W' ⟨he, bel⟩ => ?_
  subst he
  exact ⟨_, rfl, _, _, _, [], _, _, hW', trodAll_mk1 (shut_bool Tryz.underlying4 _), (trodAll_cons_mk (Below.trod laidOut (by kernel_rfl) (of_decide_eq_true (by kernel_rfl)) k0 bel lt0) trodAll_mk0), (Below.trodVars laidOut bel (by kernel_rfl) hV), bel.frame _, fun h => by cases h⟩
theorem k0 : (Rows.fnExactSessionRow.wf (OpenSpec.ofChange Rows.fnExactSessionSpec)) = true := by kernel_rfl
theorem k1 : (laidOutB Tryz.prog) = true := by kernel_rfl
theorem k2 : (mapsRowed Tryz.prog) = true := by kernel_rfl
theorem k3 : (Tryz.f6.params.all (Tryz.prog.readableRec ·)) = true := by kernel_rfl
theorem k4 : (namedTie Tryz.prog Rows.fnExactSessionRow.named Rows.fnExactSessionSpec.vars) = true := by kernel_rfl
theorem k5 : (Rows.fnExactSessionRow.stops == []) = true := by kernel_rfl
theorem k6 : (Tryz.prog.stops == []) = true := by kernel_rfl
theorem k7 : (Rows.fnExactSessionRow.knobs == []) = true := by kernel_rfl
theorem k8 : (Tryz.prog.stopKnobs == []) = true := by kernel_rfl
theorem k9 : (Rows.fnExactSessionRow.inPlace == Tryz.prog.inPlace 6) = true := by kernel_rfl
theorem k10 : (Rows.fnExactSessionRow.unfollowed == Tryz.prog.unfollowed 6) = true := by kernel_rfl
theorem k11 : (Rows.fnExactSessionRow.recurses == Tryz.prog.recurses 6) = true := by kernel_rfl
theorem k12 : (Rows.fnExactSessionRow.named == Tryz.prog.varsNamed 6) = true := by kernel_rfl
theorem k13 : (Rows.fnExactSessionRow.maps == (Tryz.f6.params.toList ++ Rows.fnExactSessionSpec.plain.varTypes Tryz.prog).any (Tryz.prog.mapsRec ·)) = true := by kernel_rfl
theorem k14 : (Rows.fnExactSessionRow.ifaces == (Tryz.f6.params.toList ++ Rows.fnExactSessionSpec.plain.varTypes Tryz.prog).any (Tryz.prog.ifacesRec ·)) = true := by kernel_rfl
theorem k15 : (Rows.fnExactSessionRow.mapsOut == Tryz.prog.mapsAmong Tryz.f6.resultTypes.toList) = true := by kernel_rfl
theorem k16 : (Rows.fnExactSessionRow.loops == (Tryz.f6.params.toList ++ Rows.fnExactSessionSpec.plain.varTypes Tryz.prog).any (Tryz.prog.loopsFrom ·)) = true := by kernel_rfl
theorem k17 : (Rows.fnExactSessionRow.wideKeys == (Tryz.f6.params.toList ++ Rows.fnExactSessionSpec.plain.varTypes Tryz.prog ++ Tryz.f6.resultTypes.toList).any (Tryz.prog.wideKeysFrom ·)) = true := by kernel_rfl
theorem k18 : (Rows.fnExactSessionSpec.vars.all (Tryz.prog.varReadable ·)) = true := by kernel_rfl
theorem k19 : (Tryz.f6.resultTypes.all (fun t => Tryz.prog.readableRec t && decide (t < Tryz.prog.types.size))) = true := by kernel_rfl
theorem k20 : (Rows.fnExactSessionRow.ifacesOut == Tryz.f6.resultTypes.toList.any (Tryz.prog.ifacesRec ·)) = true := by kernel_rfl
theorem k21 : (Rows.fnExactSessionRow.loopsOut == Tryz.f6.resultTypes.toList.any (Tryz.prog.loopsFrom ·)) = true := by kernel_rfl
theorem k22 : (Rows.fnExactSessionRow.plainKeys == Tryz.prog.plainKeys) = true := by kernel_rfl
theorem k23 : (Rows.fnExactSessionRow.shortTexts.isNone) = true := by kernel_rfl
theorem k24 : (Tryz.prog.stopsHeard) = true := by kernel_rfl
theorem k25 : (Tryz.prog.mayEnter) = true := by kernel_rfl
theorem k26 : (Rows.fnExactSessionRow.lifted == Tryz.prog.liftsFinal) = true := by kernel_rfl
theorem k27 : (Tryz.prog.make == some Rows.fnExactSessionRow.make) = true := by kernel_rfl
theorem k28 : (Rows.fnExactSessionRow.kinds == (if Rows.fnExactSessionRow.domain.isEmpty then [] else Tryz.f6.params.toList.map fun t => match Tryz.prog.underlying t with | some (.int k) => some k | _ => none)) = true := by kernel_rfl
theorem k29 : (Rows.fnExactSessionRow.pinned == Rows.fnExactSessionRow.pinnedBy) = true := by kernel_rfl
theorem k30 : (Rows.fnExactSessionRow.veiled == (Tryz.f6.params.toList ++ Rows.fnExactSessionSpec.plain.varTypes Tryz.prog ++ Tryz.f6.resultTypes.toList).any (Tryz.prog.veiledRec ·)) = true := by kernel_rfl
theorem k31 : (Rows.fnExactSessionRow.veiledFits Tryz.prog Tryz.f6.params.toList (Tryz.f6.params.toList ++ Rows.fnExactSessionSpec.plain.varTypes Tryz.prog ++ Tryz.f6.resultTypes.toList)) = true := by kernel_rfl
theorem and2 {a b : Bool} (h : a = true) (k : b = true) : (a && b) = true := by rw [h, k]; rfl
set_option maxRecDepth 100000 in
theorem facts : joinedFacts Tryz.prog 6 Tryz.f6 Rows.fnExactSessionSpec Rows.fnExactSessionRow = true := by
  unfold joinedFacts
  exact (and2 (and2 (and2 (and2 (and2 (and2 (and2 (and2 (and2 (and2 (and2 (and2 (and2 (and2 (and2 (and2 (and2 (and2 (and2 (and2 (and2 (and2 (and2 (and2 (and2 (and2 (and2 (and2 (and2 (and2 (and2 k0 k1) k2) k3) k4) k5) k6) k7) k8) k9) k10) k11) k12) k13) k14) k15) k16) k17) k18) k19) k20) k21) k22) k23) k24) k25) k26) k27) k28) k29) k30) k31)
theorem over : Rows.fnExactSessionRow.holds Tryz.pinned (OpenSpec.ofChange Rows.fnExactSessionSpec) :=
  OpenClaim.holds_of_wide 6 Tryz.f6 rfl rfl rfl rfl rfl rfl rfl ⟨rfl, rfl, rfl, rfl, rfl⟩ rfl rfl rfl rfl rfl (by kernel_rfl) Tryz.func6 facts
    (of_decide_eq_true (by kernel_rfl)) (by unfold Func.isWrapper; first | (rw [if_pos (by decide +kernel)]; kernel_rfl) | (rw [if_neg (by decide +kernel)]; exact ⟨rfl, rfl⟩))
    (fun os started H enc _ => lifted os started H enc)
#print axioms over
end Go.Proofs.YtidncmffdaakdaaGreatDoor.fnExactSession
