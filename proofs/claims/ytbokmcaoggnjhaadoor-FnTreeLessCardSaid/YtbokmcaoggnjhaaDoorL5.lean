/- Plain laws about what the functions compute. Conditions: as stated. -/
import Derived.Test.YtbokmcaoggnjhaaDoorL1
import Derived.Test.YtbokmcaoggnjhaaDoorL2
import Derived.Test.YtbokmcaoggnjhaaDoorL3
import Derived.Test.YtbokmcaoggnjhaaDoorL4
set_option linter.unusedVariables false
set_option linter.unusedSimpArgs false
namespace Ev
open Go

theorem specNameOk_l0 (w : Str) (i1 : Int) (list : List Str) (hs : w.length ≤ 1099511627000) : ∀ k i, i + k = w.length → specNameOk.l0 (k + 1) (i1, w, (i : Int), list) = some (if (w.drop i).all okC then .inl (i1, w, list) else .inr (.inr false)) := by
  intro k
  induction k with
  | zero =>
    intro i hi
    rw [specNameOk.l0.succ]
    simp only [specNameOk.l0.step]
    rw [idx_ge (by omega), List.drop_eq_nil_of_le (by omega)]
    rfl
  | succ k ih =>
    intro i hi
    have hil : i < w.length := by omega
    have hg : w.getD i 0 = w[i] := by simp [List.getD, hil]
    have hd : w.drop i = w[i] :: w.drop (i + 1) := List.drop_eq_getElem_cons hil
    have hn : ∀ {β : Type} (x : Option β), need (decide ((0 : Int) ≤ (i : Int)) && decide ((i : Int) < (w.length : Int))) x = x := fun x => need_true _ (idx_in hil)
    rw [specNameOk.l0.succ]
    simp only [specNameOk.l0.step, Int.toNat_natCast]
    simp only [hn]
    rw [idx_lt hil, cond_true, idx_next (by omega), ih (i + 1) (by omega), hd, List.all_cons]
    have hc : okC w[i] = okN (w[i].toNat : Int) := rfl
    rw [hc]
    simp only [hg, cond_dec', cond_beq, ge_iff_le]
    generalize ((w[i].toNat : Nat) : Int) = n
    have key : ∀ {β : Type} (g : Bool → Option β), ((if 97 ≤ n then if n ≤ 122 then some (!true) else if 48 ≤ n then if n ≤ 57 then some (!true) else if n = 46 then some (!true) else if n = 45 then some (!true) else some (!(n == 95)) else if n = 46 then some (!true) else if n = 45 then some (!true) else some (!(n == 95)) else if 48 ≤ n then if n ≤ 57 then some (!true) else if n = 46 then some (!true) else if n = 45 then some (!true) else some (!(n == 95)) else if n = 46 then some (!true) else if n = 45 then some (!true) else some (!(n == 95))).bind g) = g (!okN n) := by
      intro β g
      rw [show (if 97 ≤ n then if n ≤ 122 then some (!true) else if 48 ≤ n then if n ≤ 57 then some (!true) else if n = 46 then some (!true) else if n = 45 then some (!true) else some (!(n == 95)) else if n = 46 then some (!true) else if n = 45 then some (!true) else some (!(n == 95)) else if 48 ≤ n then if n ≤ 57 then some (!true) else if n = 46 then some (!true) else if n = 45 then some (!true) else some (!(n == 95)) else if n = 46 then some (!true) else if n = 45 then some (!true) else some (!(n == 95))) = some (!okN n) by
        unfold okN
        repeat' split
        all_goals
          congr 1
          rw [Bool.eq_iff_iff]
          simp
          try omega]
      rfl
    rw [key]
    cases okN n <;> rfl

theorem dec_len1 (n : Nat) : decide ((1 : Int) ≤ (n : Int)) = decide (1 ≤ n) := by rw [Bool.eq_iff_iff]; simp; omega
theorem dec_len10 (n : Nat) : decide ((n : Int) ≤ 10) = decide (n ≤ 10) := by rw [Bool.eq_iff_iff]; simp; omega
theorem dec_len4 (n : Nat) : decide ((n : Int) ≤ 4) = decide (n ≤ 4) := by rw [Bool.eq_iff_iff]; simp; omega

theorem specNameOk_l1 (l : List Str) (hl : l.length ≤ 1099511627000) (hx : ∀ p, p ∈ l → p.length ≤ 1099511627000) : ∀ k i, i + k = l.length → specNameOk.l1 (k + 1) ((i : Int), l) = some (if (l.drop i).all part then .inl l else .inr false) := by
  intro k
  induction k with
  | zero =>
    intro i hi
    rw [specNameOk.l1.succ]
    simp only [specNameOk.l1.step]
    rw [idx_ge (by omega), List.drop_eq_nil_of_le (by omega)]
    rfl
  | succ k ih =>
    intro i hi
    have hil : i < l.length := by omega
    have hg : l.getD i [] = l[i] := by simp [List.getD, hil]
    have hd : l.drop i = l[i] :: l.drop (i + 1) := List.drop_eq_getElem_cons hil
    have hm := hx l[i] (List.getElem_mem hil)
    rw [specNameOk.l1.succ]
    simp only [specNameOk.l1.step, Int.toNat_natCast]
    rw [need_true _ (idx_in hil), idx_lt hil, cond_true, hg, fuel_of]
    have h0 := specNameOk_l0 l[i] (i : Int) l hm l[i].length 0 (by omega)
    rw [show ((0 : Nat) : Int) = 0 from rfl] at h0
    rw [h0, List.drop_zero, hd, List.all_cons]
    unfold part
    cases h1 : l[i].all okC with
    | false => rfl
    | true =>
      simp only [if_true, Option.bind_some, l1In_eq, dec_len1, dec_len10, Bool.true_and]
      have hn := ih (i + 1) (by omega)
      rw [idx_next (by omega), hn]
      unfold part
      cases decide (1 ≤ l[i].length) <;> cases decide (l[i].length ≤ 10) <;> cases (l[i] == [46]) <;> cases (l[i] == [46, 46]) <;> rfl

theorem cutAt_parts (b : UInt8) : ∀ (s : Str) (p : Str), p ∈ cutAt b s → p.length ≤ s.length
  | [], p, h => by simp [cutAt] at h; subst h; simp
  | c :: s, p, h => by
    have ih := cutAt_parts b s
    simp only [cutAt] at h
    split at h
    · cases h with
      | head => simp
      | tail _ h => have := ih p h; simp; omega
    · cases hc : cutAt b s with
      | nil => rw [hc] at h; simp at h; subst h; simp
      | cons q r =>
        rw [hc] at h
        cases h with
        | head => have := ih q (by rw [hc]; simp); simp; omega
        | tail _ h => have := ih p (by rw [hc]; exact List.mem_cons_of_mem _ h); simp; omega

def nameOk (s : Str) : Bool := (cutAt 47 s).all part && decide ((cutAt 47 s).length ≤ 4)

theorem specNameOk_eq (s : Str) (hs : s.length ≤ 1048576) : specNameOk s = some (nameOk s) := by
  unfold specNameOk
  rw [w64_id (by omega) (by omega), l1Cut_eq s (by omega)]
  simp only [Option.bind_some]
  have hl := cutAt_len 47 s
  have h := specNameOk_l1 (cutAt 47 s) (by omega) (fun p hp => by have := cutAt_parts 47 s p hp; omega) (cutAt 47 s).length 0 (by omega)
  rw [show ((0 : Nat) : Int) = 0 from rfl] at h
  rw [fuel_of, h, List.drop_zero]
  unfold nameOk
  cases h1 : (cutAt 47 s).all part with
  | false => rfl
  | true => simp only [if_true, Option.bind_some, dec_len4, Bool.true_and]

end Ev
