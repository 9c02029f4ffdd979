/- Plain laws about what the functions compute. Conditions: as stated. -/
import Derived.Test.YtbokmcaoggnjhaaDoorTP
import Derived.Test.YtbokmcaoggnjhaaDoorEvLaw
set_option linter.unusedVariables false
set_option linter.unusedSimpArgs false
namespace Ev
open Go

theorem toFileS_l0 (xs : List (Str × Str)) (hn : xs.length ≤ 1099511627776) : ∀ k i, i + k = xs.length → toFileS.l0 (k + 1) (xs, (i : Int), xs.take i ++ List.replicate k (([], []) : Str × Str)) = some xs := by
  intro k
  induction k with
  | zero =>
    intro i hi
    rw [toFileS.l0.succ]
    simp only [toFileS.l0.step]
    rw [idx_ge (by omega)]
    simp only [cond_false, List.replicate_zero, List.append_nil, Option.some.injEq]
    exact List.take_of_length_le (by omega)
  | succ k ih =>
    intro i hi
    have hil : i < xs.length := by omega
    have h := ih (i + 1) (by omega)
    rw [toFileS.l0.succ]
    simp only [toFileS.l0.step, toFile, Option.bind_some, Int.toNat_natCast]
    rw [need_true _ (idx_in hil), need_true _ (idx_in (by simp; omega)), idx_lt hil, cond_true, idx_next (by omega)]
    have e : (List.take i xs ++ List.replicate (k + 1) (([], []) : Str × Str)).set i ((xs.getD i ([], [])).fst, (xs.getD i ([], [])).snd) = List.take (i + 1) xs ++ List.replicate k ([], []) := by
      have hl : (List.take i xs).length = i := by simp; omega
      have hg : xs.getD i ([], []) = xs[i] := by simp [List.getD, hil]
      rw [List.set_append, if_neg (by omega), hl, Nat.sub_self, List.replicate_succ, List.set_cons_zero, hg, List.take_succ_eq_append_getElem hil, List.append_assoc]
      rfl
    rw [e]
    exact h

theorem toFileS_eq (xs : List (Str × Str)) (hn : xs.length ≤ 1099511627776) : toFileS xs = some xs := by
  unfold toFileS
  rw [need_true _ (by simp; exact fits_of hn), fuel_of]
  have := toFileS_l0 xs hn xs.length 0 (by omega)
  simp only [List.take_zero, List.nil_append, Int.toNat_natCast] at this ⊢
  rw [show ((0 : Nat) : Int) = 0 from rfl] at this
  rw [this]; rfl

end Ev
