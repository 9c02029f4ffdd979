/- Plain laws about what the functions compute. Conditions: as stated. -/
import Derived.Test.YtbokmcaoggnjhaaDoorL7
set_option linter.unusedVariables false
set_option linter.unusedSimpArgs false
namespace Ev
open Go

theorem less_irr : ∀ a : Str, Op.bytesLess a a = false
  | [] => rfl
  | c :: a => by simp [Op.bytesLess, less_irr a]

theorem less_trans : ∀ {a b c : Str}, Op.bytesLess a b = true → Op.bytesLess b c = true → Op.bytesLess a c = true
  | a, b, [], _, h => by cases b <;> simp [Op.bytesLess] at h
  | [], b, z :: c, _, _ => rfl
  | x :: a, [], z :: c, h, _ => by simp [Op.bytesLess] at h
  | x :: a, y :: b, z :: c, h, k => by
    simp only [Op.bytesLess, Bool.or_eq_true, decide_eq_true_eq, Bool.and_eq_true, beq_iff_eq] at h k ⊢
    rcases h with h | ⟨rfl, h⟩
    · rcases k with k | ⟨rfl, k⟩
      · exact .inl (UInt8.lt_trans h k)
      · exact .inl h
    · rcases k with k | ⟨rfl, k⟩
      · exact .inl k
      · exact .inr ⟨rfl, less_trans h k⟩

def under (a b : Str) : Bool := decide (a.length < b.length) && ((b.take a.length == a) && (b.getD a.length 0 == 47))
def pre (s p : Str) : Bool := decide (p.length ≤ s.length) && (s.take p.length == p)

theorem l7Under_eq (a b : Str) : l7Under a b = some (under a b) := by
  unfold l7Under under
  simp only [cond_dec', gt_iff_lt, Int.toNat_natCast]
  by_cases h : a.length < b.length
  · rw [if_pos (by omega), need_true _ (idx_to (by omega)), need_true _ (idx_in h), decide_eq_true h]
    have hb := byte_eq (b.getD a.length 0) 47 (by decide)
    rw [show ((47 : Nat) : Int) = 47 from rfl] at hb
    rw [hb, show UInt8.ofNat 47 = 47 from rfl]
    cases (b.take a.length == a) <;> rfl
  · rw [if_neg (by omega), decide_eq_false h]; rfl

theorem hasPrefix_eq (s p : Str) : hasPrefix s p = some (pre s p) := by
  unfold hasPrefix hasPrefix0 pre
  simp only [cond_dec', ge_iff_le, Int.toNat_natCast]
  by_cases h : p.length ≤ s.length
  · rw [if_pos (by omega), need_true _ (idx_to h), decide_eq_true h]; rfl
  · rw [if_neg (by omega), decide_eq_false h]; rfl

theorem pre_under (a b : Str) : pre b (a ++ [47]) = under a b := by
  unfold pre under
  rw [Bool.eq_iff_iff]
  simp only [Bool.and_eq_true, decide_eq_true_eq, beq_iff_eq, List.length_append, List.length_singleton]
  constructor
  · rintro ⟨h1, h2⟩
    have h3 : a.length < b.length := by omega
    rw [List.take_succ_eq_append_getElem h3] at h2
    obtain ⟨e1, e2⟩ := List.append_inj h2 (by simp; omega)
    refine ⟨h3, e1, ?_⟩
    simp at e2
    simp [List.getD, h3, e2]
  · rintro ⟨h1, h2, h3⟩
    refine ⟨by omega, ?_⟩
    rw [List.take_succ_eq_append_getElem h1, h2]
    have : b[a.length] = 47 := by simpa [List.getD, h1] using h3
    rw [this]

theorem under_self (a : Str) : under a a = false := by unfold under; simp

/-- A file that may stand at its place. -/
def goodAt (xs : List (Str × Str)) (i : Nat) : Bool :=
  nameOk (xs.getD i ([], [])).1 && (decide ((xs.getD i ([], [])).2.length ≤ 300) && (decide (i = 0) || Op.bytesLess (xs.getD (i - 1) ([], [])).1 (xs.getD i ([], [])).1))

theorem specTree_l0 (xs : List (Str × Str)) (i : Nat) (hi : i < xs.length) (hn : xs.length ≤ 1048576) : ∀ k j, j + k = xs.length →
    specTreeOk.l0 (k + 1) (xs, (i : Int), (j : Int)) = some (if (xs.drop j).all (fun q => !under (xs.getD i ([], [])).1 q.1) then .inl (xs, (i : Int)) else .inr (.inr false)) := by
  intro k
  induction k with
  | zero =>
    intro j hj
    rw [specTreeOk.l0.succ]
    simp only [specTreeOk.l0.step]
    rw [idx_ge (by omega), List.drop_eq_nil_of_le (by omega)]
    rfl
  | succ k ih =>
    intro j hj
    have hjl : j < xs.length := by omega
    have hd : xs.drop j = xs[j] :: xs.drop (j + 1) := List.drop_eq_getElem_cons hjl
    have hg : xs.getD j ([], []) = xs[j] := by simp [List.getD, hjl]
    rw [specTreeOk.l0.succ]
    simp only [specTreeOk.l0.step, Int.toNat_natCast, l7Under_eq, Option.bind_some]
    rw [need_true _ (idx_in hi), need_true _ (idx_in hjl), idx_lt hjl, cond_true, idx_next (by omega), ih (j + 1) (by omega), hd, List.all_cons, hg]
    cases under (xs.getD i ([], [])).1 xs[j].1 <;> rfl

def specT (xs : List (Str × Str)) (i : Nat) : Bool := goodAt xs i && xs.all (fun q => !under (xs.getD i ([], [])).1 q.1)

/-- The test at one place, as both write it. -/
theorem at_eq (xs : List (Str × Str)) (i : Nat) (hi : i < xs.length) (hn : xs.length ≤ 1048576) :
    ((bif (!nameOk (xs.getD i ([], [])).1) then (some true) else (bif (decide (((xs.getD i ([], [])).2.length : Int) > 300)) then (some true) else
      (bif (decide ((i : Int) > 0)) then (need (decide (0 ≤ (w64 ((i : Int) - 1))) && decide ((w64 ((i : Int) - 1)) < xs.length)) (some (!(Op.bytesLess ((xs.getD (w64 ((i : Int) - 1)).toNat ([], [])).1) ((xs.getD i ([], [])).1))))) else (some false)))) : Option Bool) = some (!goodAt xs i) := by
  unfold goodAt
  cases nameOk (xs.getD i ([], [])).1 with
  | false => rfl
  | true =>
    simp only [Bool.not_true, cond_false, Bool.true_and, cond_dec', gt_iff_lt]
    by_cases h : (300 : Int) < ((xs.getD i ([], [])).2.length : Int)
    · rw [if_pos h, decide_eq_false (by omega)]; rfl
    · rw [if_neg h, decide_eq_true (p := (xs.getD i ([], [])).2.length ≤ 300) (by omega)]
      by_cases h0 : i = 0
      · subst h0; rfl
      · rw [if_pos (by omega), w64_id (n := (i : Int) - 1) (by omega) (by omega), show ((i : Int) - 1) = ((i - 1 : Nat) : Int) by omega, need_true _ (idx_in (by omega)), Int.toNat_natCast, decide_eq_false h0]
        rfl

theorem specTree_l1 (xs : List (Str × Str)) (hn : xs.length ≤ 1048576) (hsm : SmallF xs) : ∀ k i, i + k = xs.length →
    specTreeOk.l1 (k + 1) (xs, (i : Int)) = some (if (List.range' i k).all (specT xs) then .inl xs else .inr false) := by
  intro k
  induction k with
  | zero =>
    intro i hi
    rw [specTreeOk.l1.succ]
    simp only [specTreeOk.l1.step]
    rw [idx_ge (by omega)]
    rfl
  | succ k ih =>
    intro i hi
    have hil : i < xs.length := by omega
    have hg : xs.getD i ([], []) = xs[i] := by simp [List.getD, hil]
    have hm := hsm xs[i] (List.getElem_mem hil)
    have hs : specNameOk (xs.getD i ([], [])).1 = some (nameOk (xs.getD i ([], [])).1) := specNameOk_eq _ (by rw [hg]; exact hm.1)
    have hnd : ∀ {β : Type} (x : Option β), need (decide ((0 : Int) ≤ (i : Int)) && decide ((i : Int) < (xs.length : Int))) x = x := fun x => need_true _ (idx_in hil)
    rw [specTreeOk.l1.succ]
    simp only [specTreeOk.l1.step, Int.toNat_natCast, hs, Option.bind_some, hnd]
    rw [idx_lt hil, cond_true, at_eq xs i hil hn, fuel_of]
    simp only [Option.bind_some]
    have h0 := specTree_l0 xs i hil hn xs.length 0 (by omega)
    rw [show ((0 : Nat) : Int) = 0 from rfl, List.drop_zero] at h0
    rw [h0, List.range'_succ, List.all_cons, specT]
    cases goodAt xs i with
    | false => rfl
    | true =>
      simp only [Bool.not_true, cond_false, Bool.true_and]
      cases h2 : xs.all (fun q => !under (xs.getD i ([], [])).1 q.1) with
      | false => rfl
      | true =>
        simp only [if_true, Option.bind_some, Bool.true_and]
        rw [idx_next (by omega)]
        exact ih (i + 1) (by omega)

theorem specTreeOk_eq (xs : List (Str × Str)) (hn : xs.length ≤ 1048576) (hsm : SmallF xs) : specTreeOk xs = some ((List.range xs.length).all (specT xs) && decide (xs.length ≤ 8)) := by
  unfold specTreeOk
  have h := specTree_l1 xs hn hsm xs.length 0 (by omega)
  rw [show ((0 : Nat) : Int) = 0 from rfl] at h
  rw [fuel_of, h, List.range_eq_range']
  cases (List.range' 0 xs.length).all (specT xs) with
  | false => rfl
  | true =>
    simp only [if_true, Option.bind_some, Bool.true_and]
    congr 1
    rw [Bool.eq_iff_iff]; simp; omega

end Ev
