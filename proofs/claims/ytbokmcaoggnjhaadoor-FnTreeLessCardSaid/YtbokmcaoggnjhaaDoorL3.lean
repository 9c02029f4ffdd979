/- Plain laws about what the functions compute. Conditions: as stated. -/
import Derived.Test.YtbokmcaoggnjhaaDoorTP
import Derived.Test.YtbokmcaoggnjhaaDoorEvLaw
set_option linter.unusedVariables false
set_option linter.unusedSimpArgs false
namespace Ev
open Go

/-- Cut at a byte. -/
def cutAt (b : UInt8) : Str → List Str
  | [] => [[]]
  | c :: s => if c = b then [] :: cutAt b s else match cutAt b s with
    | p :: r => (c :: p) :: r
    | [] => [[c]]

theorem cutAt_ne (b : UInt8) : ∀ s, cutAt b s ≠ []
  | [] => by simp [cutAt]
  | c :: s => by
    simp only [cutAt]
    split
    · simp
    · split <;> simp

/-- What stands ahead of a cut. -/
def glue (p : Str) : List Str → List Str
  | [] => [p]
  | q :: r => (p ++ q) :: r

theorem cutAt_glue (b : UInt8) (c : UInt8) (p s : Str) (h : c ≠ b) : glue p (cutAt b (c :: s)) = glue (p ++ [c]) (cutAt b s) := by
  simp only [cutAt, if_neg h]
  cases hc : cutAt b s with
  | nil => exact absurd hc (cutAt_ne b s)
  | cons q r => simp [glue]

theorem cutAt_hit (b : UInt8) (p s : Str) : glue p (cutAt b (b :: s)) = p :: cutAt b s := by
  simp [cutAt, glue]

theorem glue_nil (l : List Str) (h : l ≠ []) : glue [] l = l := by cases l <;> simp_all [glue]

theorem cutAt_len (b : UInt8) : ∀ s, (cutAt b s).length ≤ s.length + 1
  | [] => by simp [cutAt]
  | c :: s => by
    have := cutAt_len b s
    simp only [cutAt]
    split
    · simp; omega
    · cases hc : cutAt b s with
      | nil => simp
      | cons q r => rw [hc] at this; simp at this ⊢; omega

theorem byte_eq (x : UInt8) (c : Nat) (hc : c < 256) : (((x.toNat : Int)) == (c : Int)) = (x == UInt8.ofNat c) := by
  by_cases h : x = UInt8.ofNat c
  · subst h
    simp [UInt8.toNat_ofNat, Nat.mod_eq_of_lt hc]
  · have h2 : ¬ (x.toNat : Int) = (c : Int) := by
      intro e
      apply h
      have : x.toNat = c := by omega
      rw [← this]; simp
    rw [beq_eq_false_iff_ne.2 h, beq_eq_false_iff_ne.2 h2]

theorem l1Cut_l0 (s : Str) (hs : s.length ≤ 1099511627000) : ∀ k i f (out : List Str), i + k = s.length → f ≤ i → out.length ≤ i →
    ∃ f' out', l1Cut.l0 (k + 1) (s, 47, ((s.length : Int) + 1), (f : Int), (i : Int), out) = some (s, ((f' : Nat) : Int), out') ∧ f' ≤ s.length ∧ out'.length ≤ s.length ∧
      out' ++ [s.drop f'] = out ++ glue ((s.take i).drop f) (cutAt 47 (s.drop i)) := by
  intro k
  induction k with
  | zero =>
    intro i f out hi hf ho
    rw [l1Cut.l0.succ]
    simp only [l1Cut.l0.step]
    rw [idx_ge (by omega)]
    refine ⟨f, out, rfl, by omega, by omega, ?_⟩
    have : i = s.length := by omega
    subst this
    simp [cutAt, glue]
  | succ k ih =>
    intro i f out hi hf ho
    have hil : i < s.length := by omega
    have hg : s.getD i 0 = s[i] := by simp [List.getD, hil]
    have hd : s.drop i = s[i] :: s.drop (i + 1) := List.drop_eq_getElem_cons hil
    rw [l1Cut.l0.succ]
    simp only [l1Cut.l0.step, Int.toNat_natCast]
    rw [need_true _ (idx_in hil), idx_lt hil, cond_true, hg, show decide ((out.length : Int) < (s.length : Int) + 1) = true from decide_eq_true (by omega)]
    simp only [Option.bind_some, cond_true]
    have hb := byte_eq s[i] 47 (by decide)
    rw [show ((47 : Nat) : Int) = 47 from rfl] at hb
    rw [hb, hd]
    by_cases hc : s[i] = UInt8.ofNat 47
    · rw [beq_iff_eq.2 hc, cond_true, need_true _ (idx_to (by omega)), need_true _ (idx_to hf), need_true _ (fits_of (by simp; omega)), idx_next (by omega)]
      obtain ⟨f', out', h1, h2, h3, h4⟩ := ih (i + 1) (i + 1) (out ++ [(s.take i).drop f]) (by omega) (by omega) (by simp; omega)
      refine ⟨f', out', h1, h2, h3, ?_⟩
      rw [h4, hc]
      have e : (s.take (i + 1)).drop (i + 1) = [] := List.drop_eq_nil_of_le (by simp; omega)
      rw [e, glue_nil _ (cutAt_ne _ _)]
      have := cutAt_hit 47 ((s.take i).drop f) (s.drop (i + 1))
      rw [show (UInt8.ofNat 47) = 47 from rfl, this]
      simp
    · rw [beq_eq_false_iff_ne.2 hc, cond_false, idx_next (by omega)]
      obtain ⟨f', out', h1, h2, h3, h4⟩ := ih (i + 1) f out (by omega) (by omega) (by omega)
      refine ⟨f', out', h1, h2, h3, ?_⟩
      rw [h4, cutAt_glue 47 s[i] _ _ hc]
      have e : (s.take (i + 1)).drop f = (s.take i).drop f ++ [s[i]] := by
        rw [List.take_succ_eq_append_getElem hil, List.drop_append_of_le_length (by simp; omega)]
      rw [e]

theorem l1Cut_eq (s : Str) (hs : s.length ≤ 1099511627000) : l1Cut s 47 ((s.length : Int) + 1) = some (cutAt 47 s) := by
  obtain ⟨f', out', h1, h2, h3, h4⟩ := l1Cut_l0 s hs s.length 0 0 [] (by omega) (by omega) (by simp)
  rw [show ((0 : Nat) : Int) = 0 from rfl] at h1
  unfold l1Cut
  rw [fuel_of, h1]
  simp only [Option.bind_some, Int.toNat_natCast]
  rw [need_true _ (idx_to h2), need_true _ (fits_of (by simp; omega)), h4]
  simp only [List.take_zero, List.drop_zero, List.nil_append, List.drop_nil]
  rw [glue_nil _ (cutAt_ne _ _)]

end Ev
