/- What the arguments of a law are: bytes, strings. Conditions: as stated. -/
import Derived.Test.YtbokmcaoggnjhaaDoorEvEntry
import Derived.DataShut
import Derived.ChangeMaps5
import Derived.WideShapes
set_option linter.unusedVariables false
set_option linter.unusedSimpArgs false
namespace Ev
open Go Go.ChangeShapes Go.WideShapes Go.ChangeMaps

theorem byte_of {x : Int} (h : (Lit.int .u8 x).wf = true) : 0 ≤ x ∧ x ≤ 255 := by
  have := (Lit.wf_int_iff _ _).1 h
  simpa [IntKind.min, IntKind.max, IntKind.signed, IntKind.bits] using this

theorem open_str {H : Type} {enc : TypeId × Value → H} {P : Program} {w : World} {base : Nat} {spare : Nat → Bool} {held : Bool} {r : Reach} {b0 : Nat} {t : TypeId} {v : Value} {d : DataW H} {ps : List MemPlace} (ht : P.underlying t = some .string)
    (hval : Value.okWide P w r b0 t v) (h : DataW.Trod enc P w base spare held t v d ps) : ∃ b : ByteArray, v = .string b ∧ b.data.toList.length ≤ maxLen := by
  obtain ⟨s, rfl, _, _, hs⟩ := open_string ht hval h
  exact ⟨s, rfl, by simpa using hs⟩

/-- A struct that is handed in. -/
theorem agg_row {H : Type} {enc : TypeId × Value → H} {P : Program} {w : World} {base : Nat} {spare : Nat → Bool} {held : Bool} {r : Reach} {b0 : Nat} {t : TypeId} {v : Value} {d : DataW H} {ps : List MemPlace} {fs : Array Field} (ht : P.underlying t = some (.struct fs))
    (hval : Value.okWide P w r b0 t v) {ft : FT} (hft : flatOf P 3 t = some ft) (h : DataW.Trod enc P w base spare held t v d ps) : ∃ x : El ft, gEl ft x ∧ ∃ cs, v = .agg cs ∧ CellsR (VRc (here w) w) cs 0 (El.cells ft x) ∧ cs.size = ft.length := by
  obtain ⟨cs, rfl, _⟩ := okWide_struct ht hval
  obtain ⟨fuel, hf⟩ := h
  have hv := flat_vals 3 t ft hft _ _ _ hf
  simp only [Value.cells] at hv
  have hl := hv.len
  obtain ⟨x, hx, hc⟩ := hv.elem
  exact ⟨x, hx, cs, rfl, fun f a ha => by
    obtain ⟨u, hu, hr⟩ := hc f a ha
    exact ⟨u, by simpa using hu, hr⟩, by simpa using hl⟩

end Ev
