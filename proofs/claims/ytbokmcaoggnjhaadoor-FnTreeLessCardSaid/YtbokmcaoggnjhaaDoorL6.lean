/- Plain laws about what the functions compute. Conditions: as stated. -/
import Derived.Test.YtbokmcaoggnjhaaDoorL5
set_option linter.unusedVariables false
set_option linter.unusedSimpArgs false
namespace Ev
open Go

theorem find_congr {α : Type} {p q : α → Bool} : ∀ {l : List α}, (∀ x, x ∈ l → p x = q x) → l.find? p = l.find? q
  | [], _ => rfl
  | x :: l, h => by
    rw [List.find?_cons, List.find?_cons, h x (by simp), find_congr fun y hy => h y (by simp [hy])]

theorem find_range_idx (p : UInt8 → Bool) : ∀ (s : Str) (k : Nat), ((List.range' k s.length).find? fun i => p (s.getD (i - k) 0)) = (s.findIdx? p).map (· + k)
  | [], k => by simp
  | c :: s, k => by
    have ih := find_range_idx p s (k + 1)
    rw [List.length_cons, List.range'_succ, List.find?_cons, Nat.sub_self, List.findIdx?_cons]
    cases h : p c with
    | true => simp [h]
    | false =>
      simp only [List.getD_cons_zero, h]
      have e : ((List.range' (k + 1) s.length).find? fun i => p ((c :: s).getD (i - k) 0)) = ((List.range' (k + 1) s.length).find? fun i => p (s.getD (i - (k + 1)) 0)) := by
        apply find_congr
        intro i hi
        rw [List.mem_range'] at hi
        obtain ⟨j, hj, rfl⟩ := hi
        rw [show k + 1 + 1 * j - k = j + 1 by omega, show k + 1 + 1 * j - (k + 1) = j by omega, List.getD_cons_succ]
      rw [e, ih]
      cases s.findIdx? p <;> simp; omega

theorem idxB_eq (s : Str) : idxB s 47 = match s.findIdx? (· == 47) with | some i => (i : Int) | none => -1 := by
  unfold idxB firstIdx
  have h := find_range_idx (· == 47) s 0
  have e : ((List.range (⟨s.toArray⟩ : ByteArray).size).find? fun i => (⟨s.toArray⟩ : ByteArray)[i]! == (47 : Int).toNat.toUInt8) = s.findIdx? (· == 47) := by
    rw [List.range_eq_range']
    have hsz : (⟨s.toArray⟩ : ByteArray).size = s.length := by simp [ByteArray.size]
    rw [hsz]
    rw [show (s.findIdx? (· == 47)) = (s.findIdx? (· == 47)).map (· + 0) by simp, ← h]
    apply find_congr
    intro i hi
    rw [List.mem_range'] at hi
    obtain ⟨j, hj, rfl⟩ := hi
    have hj' : j < s.length := hj
    rw [show 0 + 1 * j = j by omega]
    have : (⟨s.toArray⟩ : ByteArray)[j]! = s.getD j 0 := by
      have hj2 : j < (⟨s.toArray⟩ : ByteArray).size := by rw [hsz]; exact hj'
      rw [getElem!_pos (⟨s.toArray⟩ : ByteArray) j hj2]
      show s.toArray[j] = s.getD j 0
      simp [List.getD, hj']
    rw [this]; rfl
  rw [e]
  cases s.findIdx? (· == 47) <;> rfl

end Ev
