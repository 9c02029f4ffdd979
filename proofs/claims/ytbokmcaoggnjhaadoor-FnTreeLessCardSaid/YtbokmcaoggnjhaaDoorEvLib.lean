/- Library functions without a body. Conditions: as stated. -/
import Derived.Test.YtbokmcaoggnjhaaDoorEvFn
import Derived.Laws.Externs
set_option linter.unusedVariables false
set_option linter.unusedSimpArgs false
namespace Ev
open Go

/-- Where the byte stands first. -/
def idxB (s : Str) (c : Int) : Int := firstIdx ⟨s.toArray⟩ c.toNat.toUInt8

def indexByteSpec : Spec := ⟨0, [.sc .str, .sc (.int .u8)], [], [.str, .int .u8], ⟨[.int .i64], .sc (.int .i64), []⟩, fun (s, c) => some (idxB s c)⟩

/-- A function of plain values whose row gives a plain value and leaves the world. -/
theorem sound_plain {P : Program} {C : Ctx} {f : Nat} {sargs : List Tp} {ids : List DT} {k : IntKind} {F : Den ids → Option Int}
    (h : ∀ (d : Den ids) (r : Int), F d = some r → ∀ (ι : Nat → Option Value) (N : Nat → Prop) (w : World) (vs : Array Value), VRL ι N w (Tp.insts (fun j => j) sargs (Den.list ids d)).1 vs.toList →
      (callFunc f vs).run P w = .ok (.value (.int k r)) w) : SoundS P C f ⟨0, sargs, [], ids, ⟨[.int k], .sc (.int k), []⟩, F⟩ := by
  refine ⟨by simp [Spec.wf, Tp.fit, OT.fits, Nat.ble], fun d r hF E eP eC ι N w vs args l hinsts hv R new => ?_⟩
  subst eP eC
  have hrun := h d r hF ι N w vs (by rw [hinsts]; exact hv)
  refine .inl ⟨.int k r, w, .inl hrun, ι, N, .int k r, [], rfl, by simp only [VR], ?_, new, .refl _ _ _ _ _⟩
  refine ⟨fun i hi => ?_, fun i j b e hi => ?_, R.nlt, R.klt, R.pres, R.glob⟩
  · cases i <;> simp [OT.insts, getH] at hi
  · cases i <;> simp [OT.insts, getH] at hi

theorem indexByte_sound {P : Program} {C : Ctx} {f : Nat} {fn : Func} (hf : P.funcs[f]? = some fn) (hname : (fn.name == "runtime.NumGoroutine") = false) (hb : fn.body.isNone = true) (hn : Extern.findNext fn = none)
    (he : Extern.find fn = some Extern.BytealgIndexByte.indexByte) : SoundS P C f indexByteSpec := by
  refine sound_plain fun d r hF ι N w vs hv => ?_
  obtain ⟨s, c⟩ := d
  cases hF
  simp only [Den.list, Tp.insts, Tp.inst, Dat.av] at hv
  have hvs : vs = #[.string ⟨s.toArray⟩, .int .u8 c] := by
    obtain ⟨l⟩ := vs
    dsimp only at hv
    match l, hv with
    | [a, b], hv => simp only [VRL, VR] at hv; rw [hv.1, hv.2.1]
    | [], hv => simp [VRL] at hv
    | [_], hv => simp [VRL] at hv
    | _ :: _ :: _ :: _, hv => simp [VRL] at hv
  subst hvs
  rw [run_callFunc_extern hf hname hb hn he, run_indexByte_string]
  rfl

/-- How often the byte stands there. -/
def cntB (s : Str) (c : Int) : Int := (⟨s.toArray⟩ : ByteArray).foldl (fun (n : Int) x => if x == c.toNat.toUInt8 then n + 1 else n) 0

def countByteSpec : Spec := ⟨0, [.sc .str, .sc (.int .u8)], [], [.str, .int .u8], ⟨[.int .i64], .sc (.int .i64), []⟩, fun (s, c) => some (cntB s c)⟩

theorem run_count_string {P : Program} (s : ByteArray) (c : Int) (w : World) :
    (Extern.BytealgCount.count #[.string s, .int .u8 c]).run P w = .ok (.int .i64 (s.foldl (fun (n : Int) x => if x == c.toNat.toUInt8 then n + 1 else n) 0)) w := by
  change Sem.run P (do
    let b ← Extern.Bytes.bytesOf (.string s)
    let c' ← Extern.Bytes.asByte (.int .u8 c)
    pure (goInt (b.foldl (fun (n : Int) x => if x == c' then n + 1 else n) ((0 : Nat) : Int)))) w = _
  simp only [Extern.Bytes.bytesOf, Extern.Bytes.asByte, Sem.run_bind, Sem.run_pure, Result.andThen]
  rfl

theorem countByte_sound {P : Program} {C : Ctx} {f : Nat} {fn : Func} (hf : P.funcs[f]? = some fn) (hname : (fn.name == "runtime.NumGoroutine") = false) (hb : fn.body.isNone = true) (hn : Extern.findNext fn = none)
    (he : Extern.find fn = some Extern.BytealgCount.count) : SoundS P C f countByteSpec := by
  refine sound_plain fun d r hF ι N w vs hv => ?_
  obtain ⟨s, c⟩ := d
  cases hF
  simp only [Den.list, Tp.insts, Tp.inst, Dat.av] at hv
  have hvs : vs = #[.string ⟨s.toArray⟩, .int .u8 c] := by
    obtain ⟨l⟩ := vs
    dsimp only at hv
    match l, hv with
    | [a, b], hv => simp only [VRL, VR] at hv; rw [hv.1, hv.2.1]
    | [], hv => simp [VRL] at hv
    | [_], hv => simp [VRL] at hv
    | _ :: _ :: _ :: _, hv => simp [VRL] at hv
  subst hvs
  rw [run_callFunc_extern hf hname hb hn he, run_count_string]
  rfl

/-! ### tables of contracts -/

def TabOk (P : Program) (C : Ctx) : List (Nat × Spec) → Prop
  | [] => True
  | (i, s) :: r => SoundS P C i s ∧ TabOk P C r

theorem tab_mem {P : Program} {C : Ctx} : ∀ {l : List (Nat × Spec)}, TabOk P C l → ∀ f S, S ∈ tab l f → SoundS P C f S
  | [], _, f, S, h => by simp [tab] at h
  | (i, s) :: r, h, f, S, hm => by
    simp only [tab] at hm
    cases hb : Nat.beq i f with
    | true =>
      rw [hb] at hm
      have := Nat.eq_of_beq_eq_true hb
      subst this
      cases hm with
      | head => exact h.1
      | tail _ hm => exact tab_mem h.2 i S hm
    | false => rw [hb] at hm; exact tab_mem h.2 f S hm

theorem tab_ok {P : Program} {C : Ctx} {l : List (Nat × Spec)} (h : TabOk P C l) : HndOk P C (hnd (tab l)) := hnd_ok (tab_mem h)

end Ev
