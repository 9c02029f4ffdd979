/- Plain laws about what the functions compute. Conditions: as stated. -/
import Derived.Test.YtbokmcaoggnjhaaDoorTP
import Derived.Test.YtbokmcaoggnjhaaDoorEvLaw
set_option linter.unusedVariables false
set_option linter.unusedSimpArgs false
namespace Ev
open Go

def okN (n : Int) : Bool := decide ((97 ≤ n ∧ n ≤ 122) ∨ (48 ≤ n ∧ n ≤ 57) ∨ n = 46 ∨ n = 45 ∨ n = 95)
def okC (c : UInt8) : Bool := okN c.toNat

theorem cond_dec' {α : Type} (p : Prop) [Decidable p] (x y : α) : (bif decide p then x else y) = if p then x else y := by
  by_cases h : p <;> simp [h]
theorem cond_bne {α : Type} (a b : Int) (x y : α) : (bif a != b then x else y) = if a = b then y else x := by
  by_cases h : a = b
  · subst h; simp
  · rw [show (a != b) = true from bne_iff_ne.2 h, if_neg h]; rfl
theorem cond_beq {α : Type} (a b : Int) (x y : α) : (bif a == b then x else y) = if a = b then x else y := by
  by_cases h : a = b
  · subst h; simp
  · rw [show (a == b) = false from beq_eq_false_iff_ne.2 h, if_neg h]; rfl

def part (p : Str) : Bool := p.all okC && (decide (1 ≤ p.length) && decide (p.length ≤ 10) && (!(p == [46]) && !(p == [46, 46])))

theorem within_eq (n : Int) : within n 1 10 = some (decide (1 ≤ n) && decide (n ≤ 10)) := by
  unfold within
  simp only [cond_dec', ge_iff_le]
  by_cases h : (1 : Int) ≤ n <;> simp [h]

theorem l1In_eq (n : Int) : l1In n 1 10 = some (decide (1 ≤ n) && decide (n ≤ 10)) := within_eq n

theorem partOk_l0 (s : Str) (hs : s.length ≤ 1099511627000) : ∀ k i, i + k = s.length → partOk.l0 (k + 1) (s, (s.length : Int), (i : Int)) = some (if (s.drop i).all okC then .inl s else .inr false) := by
  intro k
  induction k with
  | zero =>
    intro i hi
    rw [partOk.l0.succ]
    simp only [partOk.l0.step]
    rw [idx_ge (by omega), List.drop_eq_nil_of_le (by omega)]
    rfl
  | succ k ih =>
    intro i hi
    have hil : i < s.length := by omega
    have hg : s.getD i 0 = s[i] := by simp [List.getD, hil]
    have hd : s.drop i = s[i] :: s.drop (i + 1) := List.drop_eq_getElem_cons hil
    rw [partOk.l0.succ]
    simp only [partOk.l0.step, Int.toNat_natCast]
    rw [need_true _ (idx_in hil), idx_lt hil, cond_true, idx_next (by omega), ih (i + 1) (by omega), hd, List.all_cons]
    have hc : okC s[i] = okN (s[i].toNat : Int) := rfl
    rw [hc]
    simp only [hg, cond_dec', cond_bne]
    generalize ((s[i].toNat : Nat) : Int) = n
    have key : (if n < 97 then if n < 48 then if n = 46 then some false else if n = 45 then some false else some (n != 95) else if n > 57 then if n = 46 then some false else if n = 45 then some false else some (n != 95) else some false
        else if n > 122 then if n < 48 then if n = 46 then some false else if n = 45 then some false else some (n != 95) else if n > 57 then if n = 46 then some false else if n = 45 then some false else some (n != 95) else some false else some false) = some (!okN n) := by
      unfold okN
      repeat' split
      all_goals
        congr 1
        rw [Bool.eq_iff_iff]
        simp
        try omega
    rw [key]
    simp only [Option.bind_some]
    cases okN n <;> rfl

theorem partOk_eq (s : Str) (hs : s.length ≤ 1099511627000) : partOk s = some (part s) := by
  unfold partOk
  have h := partOk_l0 s hs s.length 0 (by omega)
  rw [show ((0 : Nat) : Int) = 0 from rfl] at h
  rw [fuel_of, h]
  simp only [List.drop_zero, Option.bind_some]
  unfold part
  cases h1 : s.all okC with
  | false => rfl
  | true =>
    simp only [if_true, within_eq, Option.bind_some, Bool.true_and]
    have e1 : decide ((1 : Int) ≤ (s.length : Int)) = decide (1 ≤ s.length) := by rw [Bool.eq_iff_iff]; simp; omega
    have e2 : decide ((s.length : Int) ≤ 10) = decide (s.length ≤ 10) := by rw [Bool.eq_iff_iff]; simp; omega
    rw [e1, e2]
    cases decide (1 ≤ s.length) <;> cases decide (s.length ≤ 10) <;> cases (s == [46]) <;> rfl

end Ev
