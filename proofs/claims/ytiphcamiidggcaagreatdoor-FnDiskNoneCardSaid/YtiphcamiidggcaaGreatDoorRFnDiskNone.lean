/- The row of FnDiskNone: it holds. Conditions: those of the row. -/
import Derived.Test.YtiphcamiidggcaaGreatDoorBGA2
import Derived.Test.YtiphcamiidggcaaGreatDoorBGC0
import Derived.Test.YtiphcamiidggcaaGreatDoorBGB2
import Derived.Test.YtiphcamiidggcaaGreatDoorRows
import Derived.WalkKit
import Derived.ProofKit
import Derived.OpenShut
import Derived.ShutString
import Derived.ChangeOld
import Derived.Below
import Derived.SizedLaws
import Derived.LaidHandle
import Derived.LaidLaws
import Derived.Handed
import Derived.OpenVars
namespace Go.Proofs.YtiphcamiidggcaaGreatDoor.fnDiskNone
open Go Go.ChangeShapes Go.WideShapes Go.ChangeAt Go.RowKit
set_option linter.unusedVariables false
theorem own : ownKnob Tryz.prog.godebug = none := by kernel_rfl
theorem laidOut : laidOutB Tryz.prog = true := by kernel_rfl
theorem plain (xs0 : List (Ev.El [.int .u8])) (l0 : xs0.length ≤ maxLen) (g0 : ∀ y, y ∈ xs0 → Ev.gEl [.int .u8] y) : Ev.FnDiskNone xs0 = some true := Ev.ZlN xs0 (fun x hx => by have := g0 x hx; simp only [Ev.gEl, Ev.gSc] at this; exact Ev.Zxx this)
theorem walk (W : World) (hG : Ev.Zsp Ev.C0 W) (v0 : Value) (xs0 : List (Ev.El [.int .u8])) (r0 : Ev.RoG (Ev.VRc (Ev.ZgR W) W) (Ev.ZgR W) W [.int .u8] xs0 v0) (l0 : xs0.length ≤ maxLen) (g0 : ∀ y, y ∈ xs0 → Ev.gEl [.int .u8] y) :
    Calls Tryz.prog 14 #[v0] W fun e w' => e = .returned (.bool true) ∧ Below W.heap.size W w' :=
  Ev.Zuo (keep := 0) (sargs := [.sc (.list [.int .u8])]) (ids := [.list [.int .u8]]) (F := fun xs0 => Ev.FnDiskNone xs0) Ev.Zbf (Ev.Zaj (l := [(51, Ev.Zbv.S), (52, Ev.ZcX.S), (53, Ev.ZdD.S), (54, Ev.ZeG.S), (55, Ev.Zbu.S), (56, Ev.Zd5.S)]) ⟨Ev.Zbv.sound, Ev.ZcX.sound, Ev.ZdD.sound, Ev.ZeG.sound, Ev.Zbu.sound, Ev.Zd5.sound, trivial⟩) Tryz.func14 (by kernel_rfl) (by kernel_rfl)
    Ev.FnDiskNone.ev xs0 (plain xs0 l0 g0) W hG #[v0] [.ro [.int .u8] xs0] rfl (by simp only [Ev.VRL, Ev.VR]; exact ⟨r0, trivial⟩)
theorem globOk (W : World) (hL : laidMetH Tryz.prog Rows.fnDiskNoneRow.laid W) : Ev.Zsp Ev.C0 W := by
  have hL1 : laidMet Tryz.prog Rows.fnDiskNoneRow.laid W := hL
  exact Ev.ZpH (l := Ev.globs) (List.forall_mem_cons.2 ⟨Ev.ZuM hL1 (n := "loop.example/corbel/impl.order") (xs := [16, 17, 18, 0, 8, 7, 9, 6, 10, 5, 11, 4, 12, 3, 13, 2, 14, 1, 15]) (List.mem_of_getElem? (i := 4) rfl) (g := 0) (t := 117) (e := 3) (by kernel_rfl) (by kernel_rfl) (by kernel_rfl) (by kernel_rfl) (by kernel_rfl), List.forall_mem_cons.2 ⟨Ev.Zwk hL1 (n := "internal/strconv.uint64pow10") (k := .u64) (xs := [1, 10, 100, 1000, 10000, 100000, 1000000, 10000000, 100000000, 1000000000, 10000000000, 100000000000, 1000000000000, 10000000000000, 100000000000000, 1000000000000000, 10000000000000000, 100000000000000000, 1000000000000000000, 10000000000000000000]) (List.mem_of_getElem? (i := 2) rfl) (g := 2) (m := 20) (t := 229) (e := 165) (by kernel_rfl) (by kernel_rfl) (by kernel_rfl) (by kernel_rfl) (by kernel_rfl) (by kernel_rfl), fun _ h => nomatch h⟩⟩)
/-- The cells of a datum. -/
def litV : Lit → Value
  | .bool b => .bool b
  | .int k n => .int k n
  | .string b => .string ⟨b.toArray⟩
  | _ => .nilIface
mutual
def cellsW : DataW Unit → List Value
  | .lit l => [litV l]
  | .agg ps => cellsWs ps
  | .slice es _ => cellsWs es
  | _ => []
def cellsWs : List (DataW Unit) → List Value
  | [] => []
  | d :: ds => cellsW d ++ cellsWs ds
end
/-- A block that holds these cells. -/
def layAt (w : World) (g : Nat) (cs : List Value) : World := { w with heap := w.heap.modify g fun
  | .cells _ t frozen => .cells cs.toArray t frozen
  | o => o }
/-- A slice over a block of its own. -/
def sliceV (b n : Nat) : List Value := [.slice (some ⟨b, 0, none⟩) n n]
noncomputable def laidWorld (os : Os) : World :=
  layAt (layAt (layAt (layAt (layAt (layAt (World.holding Tryz.prog os ⟨#[.cells (cellsW Rows.laid_loop_example_corbel_impl_order).toArray 3 (0, 0)], #[], []⟩) 5 (cellsW Rows.laid_math_bits_deBruijn32tab)) 6 (cellsW Rows.laid_math_bits_deBruijn64tab)) 2 (cellsW Rows.laid_internal_strconv_uint64pow10)) 4 (cellsW Rows.laid_unicode_utf8_acceptRanges)) 0 (sliceV ((World.settled Tryz.prog os).heap.size + 0) 19)) 3 (cellsW Rows.laid_unicode_utf8_first)
set_option maxRecDepth 100000 in
theorem laidWorld_met (os : Os) (args : Array Value) : laidMetH Tryz.prog Rows.fnDiskNoneRow.laid ((laidWorld os).forCall (fun _ _ => 0) ⟨#[], args, []⟩).memory :=
  laidMetH_of_parts (laidMet_of_run' 8 (by kernel_rfl) (by kernel_rfl)) (by kernel_rfl)
set_option maxRecDepth 100000 in
theorem lifted (os : Os) (started : os.Started) (H : Type) (enc : TypeId × Value → H) :
    ReturnsInHanded {} Tryz.checked os 14 .any (fun w args => (Rows.fnDiskNoneSpec.pre enc Tryz.prog Tryz.f14 Rows.fnDiskNoneRow.domain false w args ∧ laidMetH Tryz.prog Rows.fnDiskNoneRow.laid w) ∧ sizedMet enc Tryz.prog Tryz.f14 (OpenSpec.ofChange Rows.fnDiskNoneSpec) false w args)
      (Rows.fnDiskNoneSpec.post enc Tryz.prog Tryz.f14 false true false false) := by
  refine returnsInHanded_of_change_and (C := Tryz.checked) (X := fun w _ => laidMetH Tryz.prog Rows.fnDiskNoneRow.laid w) (fun _ _ _ hh h => h.of_heap hh) own started (by kernel_rfl) Tryz.func14
    (ChangeSpec.witness_shaped (enc := enc) (C := Tryz.checked) (os := os) (X := fun w _ => laidMetH Tryz.prog Rows.fnDiskNoneRow.laid w) false (laidWorld os) #[.slice none 0 0] 8 rfl (World.shaped_of_RefB (by kernel_rfl) (by kernel_rfl)) (by kernel_rfl) (by kernel_rfl) (by kernel_rfl) (laidWorld_met os _)) ?_
  intro W base args ds gs before hval0 hW hcnd hsz0 hL _
  have hval : ∀ (j : Nat) t v, Tryz.f14.params[j]? = some t → args[j]? = some v → Value.okWide Tryz.prog W .any base t v := hval0
  have hW' := hW
  obtain ⟨p, q, hA0, hV, rfl, hfz, hnd⟩ := hW
  have hA : DataW.TrodAll enc Tryz.prog W 0 (fun _ => true) true Tryz.f14.params.toList args.toList ds p := hA0
  rw [Tryz.params14] at hA hval
  obtain ⟨v0, vs0, d0, ds0, p0, q0, hargs0, rfl, rfl, h0, r0⟩ := trodAll_cons hA
  obtain ⟨rfl, rfl, rfl⟩ := trodAll_nil r0
  obtain rfl : args = #[v0] := by cases args; simp_all
  obtain ⟨y0, rfl⟩ : ∃ y0, gs = [y0] := by match gs, Ev.Zrd hV with | [y0], _ => exact ⟨y0, rfl⟩
  have k0 := h0
  have lt0 : ∀ x ∈ p0, x.block < W.heap.size := by obtain ⟨m, hm⟩ := k0; exact DataW.trod_lt m _ _ _ hm
  obtain ⟨a0, len0, cap0, rfl⟩ := okWide_slice Tryz.underlying31 (hval 0 31 v0 rfl rfl)
  obtain ⟨xs0, ro0, l0, g0⟩ : ∃ xs : List (Ev.El [.int .u8]), Ev.RoG (Ev.VRc (Ev.ZgR W) W) (Ev.ZgR W) W [.int .u8] xs (.slice a0 len0 cap0) ∧ xs.length ≤ maxLen ∧ ∀ y, y ∈ xs → Ev.gEl [.int .u8] y := by
    obtain ⟨fuel, hf⟩ := h0
    exact Ev.Zmh Tryz.underlying31 (by decide) (by kernel_rfl) (fun m cs y hh => Ev.ZpP 3 _ _ (by kernel_rfl) m cs y hh) hf
  clear hA0 hval0 hsz0
  refine (walk W (globOk W hL) _ xs0 ro0 l0 g0).mono fun e W' ⟨he, bel⟩ => ?_
  subst he
  exact ⟨_, rfl, _, _, _, [], _, _, hW', trodAll_mk1 (shut_bool Tryz.underlying4 _), (trodAll_cons_mk (Below.trod laidOut (by kernel_rfl) (of_decide_eq_true (by kernel_rfl)) k0 bel lt0) trodAll_mk0), (Below.trodVars laidOut bel (by kernel_rfl) hV), bel.frame _, fun h => by cases h⟩
theorem k0 : (Rows.fnDiskNoneRow.wf (OpenSpec.ofChange Rows.fnDiskNoneSpec)) = true := by kernel_rfl
theorem k1 : (laidOutB Tryz.prog) = true := by kernel_rfl
theorem k2 : (mapsRowed Tryz.prog) = true := by kernel_rfl
theorem k3 : (Tryz.f14.params.all (Tryz.prog.readableRec ·)) = true := by kernel_rfl
theorem k4 : (namedTie Tryz.prog Rows.fnDiskNoneRow.named Rows.fnDiskNoneSpec.vars) = true := by kernel_rfl
theorem k5 : (Rows.fnDiskNoneRow.stops == []) = true := by kernel_rfl
theorem k6 : (Tryz.prog.stops == []) = true := by kernel_rfl
theorem k7 : (Rows.fnDiskNoneRow.knobs == []) = true := by kernel_rfl
theorem k8 : (Tryz.prog.stopKnobs == []) = true := by kernel_rfl
theorem k9 : (Rows.fnDiskNoneRow.inPlace == Tryz.prog.inPlace 14) = true := by kernel_rfl
theorem k10 : (Rows.fnDiskNoneRow.unfollowed == Tryz.prog.unfollowed 14) = true := by kernel_rfl
theorem k11 : (Rows.fnDiskNoneRow.recurses == Tryz.prog.recurses 14) = true := by kernel_rfl
theorem k12 : (Rows.fnDiskNoneRow.named == Tryz.prog.varsNamed 14) = true := by kernel_rfl
theorem k13 : (Rows.fnDiskNoneRow.maps == (Tryz.f14.params.toList ++ Rows.fnDiskNoneSpec.plain.varTypes Tryz.prog).any (Tryz.prog.mapsRec ·)) = true := by kernel_rfl
theorem k14 : (Rows.fnDiskNoneRow.ifaces == (Tryz.f14.params.toList ++ Rows.fnDiskNoneSpec.plain.varTypes Tryz.prog).any (Tryz.prog.ifacesRec ·)) = true := by kernel_rfl
theorem k15 : (Rows.fnDiskNoneRow.mapsOut == Tryz.prog.mapsAmong Tryz.f14.resultTypes.toList) = true := by kernel_rfl
theorem k16 : (Rows.fnDiskNoneRow.loops == (Tryz.f14.params.toList ++ Rows.fnDiskNoneSpec.plain.varTypes Tryz.prog).any (Tryz.prog.loopsFrom ·)) = true := by kernel_rfl
theorem k17 : (Rows.fnDiskNoneRow.wideKeys == (Tryz.f14.params.toList ++ Rows.fnDiskNoneSpec.plain.varTypes Tryz.prog ++ Tryz.f14.resultTypes.toList).any (Tryz.prog.wideKeysFrom ·)) = true := by kernel_rfl
theorem k18 : (Rows.fnDiskNoneSpec.vars.all (Tryz.prog.varReadable ·)) = true := by kernel_rfl
theorem k19 : (Tryz.f14.resultTypes.all (fun t => Tryz.prog.readableRec t && decide (t < Tryz.prog.types.size))) = true := by kernel_rfl
theorem k20 : (Rows.fnDiskNoneRow.ifacesOut == Tryz.f14.resultTypes.toList.any (Tryz.prog.ifacesRec ·)) = true := by kernel_rfl
theorem k21 : (Rows.fnDiskNoneRow.loopsOut == Tryz.f14.resultTypes.toList.any (Tryz.prog.loopsFrom ·)) = true := by kernel_rfl
theorem k22 : (Rows.fnDiskNoneRow.plainKeys == Tryz.prog.plainKeys) = true := by kernel_rfl
theorem k23 : (Rows.fnDiskNoneRow.shortTexts.isNone) = true := by kernel_rfl
theorem k24 : (Tryz.prog.stopsHeard) = true := by kernel_rfl
theorem k25 : (Tryz.prog.mayEnter) = true := by kernel_rfl
theorem k26 : (Rows.fnDiskNoneRow.lifted == Tryz.prog.liftsFinal) = true := by kernel_rfl
theorem k27 : (Tryz.prog.make == some Rows.fnDiskNoneRow.make) = true := by kernel_rfl
theorem k28 : (Rows.fnDiskNoneRow.kinds == (if Rows.fnDiskNoneRow.domain.isEmpty then [] else Tryz.f14.params.toList.map fun t => match Tryz.prog.underlying t with | some (.int k) => some k | _ => none)) = true := by kernel_rfl
theorem k29 : (Rows.fnDiskNoneRow.pinned == Rows.fnDiskNoneRow.pinnedBy) = true := by kernel_rfl
theorem k30 : (Rows.fnDiskNoneRow.veiled == (Tryz.f14.params.toList ++ Rows.fnDiskNoneSpec.plain.varTypes Tryz.prog ++ Tryz.f14.resultTypes.toList).any (Tryz.prog.veiledRec ·)) = true := by kernel_rfl
theorem k31 : (Rows.fnDiskNoneRow.veiledFits Tryz.prog Tryz.f14.params.toList (Tryz.f14.params.toList ++ Rows.fnDiskNoneSpec.plain.varTypes Tryz.prog ++ Tryz.f14.resultTypes.toList)) = true := by kernel_rfl
theorem and2 {a b : Bool} (h : a = true) (k : b = true) : (a && b) = true := by rw [h, k]; rfl
set_option maxRecDepth 100000 in
theorem facts : joinedFacts Tryz.prog 14 Tryz.f14 Rows.fnDiskNoneSpec Rows.fnDiskNoneRow = true := by
  unfold joinedFacts
  exact (and2 (and2 (and2 (and2 (and2 (and2 (and2 (and2 (and2 (and2 (and2 (and2 (and2 (and2 (and2 (and2 (and2 (and2 (and2 (and2 (and2 (and2 (and2 (and2 (and2 (and2 (and2 (and2 (and2 (and2 (and2 k0 k1) k2) k3) k4) k5) k6) k7) k8) k9) k10) k11) k12) k13) k14) k15) k16) k17) k18) k19) k20) k21) k22) k23) k24) k25) k26) k27) k28) k29) k30) k31)
theorem over : Rows.fnDiskNoneRow.holds Tryz.pinned (OpenSpec.ofChange Rows.fnDiskNoneSpec) :=
  OpenClaim.holds_of_wide 14 Tryz.f14 rfl rfl rfl rfl rfl rfl rfl ⟨rfl, rfl, rfl, rfl, rfl⟩ rfl rfl rfl rfl rfl (by kernel_rfl) Tryz.func14 facts
    (of_decide_eq_true (by kernel_rfl)) (by unfold Func.isWrapper; first | (rw [if_pos (by decide +kernel)]; kernel_rfl) | (rw [if_neg (by decide +kernel)]; exact ⟨rfl, rfl⟩))
    (fun os started H enc _ => lifted os started H enc)
#print axioms over
end Go.Proofs.YtiphcamiidggcaaGreatDoor.fnDiskNone
