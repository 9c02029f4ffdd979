/- Plain laws about what functions compute: what serves all of them. Conditions: as stated. -/
import Derived.Test.YtbokmcaoggnjhaaDoorEvDef
import Derived.Laws.BitsLemmas
set_option linter.unusedVariables false
set_option linter.unusedSimpArgs false
namespace Ev
open Go

theorem loopN_succ {T σ : Type} (step : (T → Option σ) → T → Option σ) (n : Nat) (t : T) : loopN step (n + 1) t = step (loopN step n) t := rfl

theorem w64_eq (n : Int) : w64 n = (n + 9223372036854775808) % 18446744073709551616 - 9223372036854775808 := IntKind.wrap_i64 n

theorem w64_id {n : Int} (h1 : -9223372036854775808 ≤ n) (h2 : n ≤ 9223372036854775807) : w64 n = n := by rw [w64_eq]; omega

theorem need_true {α : Type} {b : Bool} (x : Option α) (h : b = true) : need b x = x := by subst h; rfl
theorem fits_of {n : Nat} (h : n ≤ 1099511627776) : fits n = true := by unfold fits LIM; exact Nat.ble_eq_true_of_le h

/-! ### an index that goes up -/

theorem idx_lt {i n : Nat} (h : i < n) : decide ((i : Int) < (n : Int)) = true := decide_eq_true (by omega)
theorem idx_ge {i n : Nat} (h : n ≤ i) : decide ((i : Int) < (n : Int)) = false := decide_eq_false (by omega)
theorem idx_in {i n : Nat} (h : i < n) : (decide ((0 : Int) ≤ (i : Int)) && decide ((i : Int) < (n : Int))) = true := by simp; omega
theorem idx_to {i n : Nat} (h : i ≤ n) : (decide ((0 : Int) ≤ (i : Int)) && decide ((i : Int) ≤ (n : Int))) = true := by simp; omega
theorem idx_next {i : Nat} (h : i < 9223372036854775807) : w64 ((i : Int) + 1) = ((i + 1 : Nat) : Int) := by rw [w64_id] <;> omega
theorem fuel_of (n : Nat) : ((n : Int) - (0 : Int)).toNat + 1 = n + 1 := by omega
theorem getD_of {α : Type} {l : List α} {i : Nat} {d x : α} (h : l[i]? = some x) : l.getD i d = x := by simp [List.getD, h]

end Ev
