/- Plain laws about what the functions compute. Conditions: as stated. -/
import Derived.Test.YtbokmcaoggnjhaaDoorTP
import Derived.Test.YtbokmcaoggnjhaaDoorEvLaw
set_option linter.unusedVariables false
set_option linter.unusedSimpArgs false
namespace Ev
open Go

theorem cond_dec {α : Type} (p : Prop) [Decidable p] (x y : α) : (bif decide p then x else y) = if p then x else y := by
  by_cases h : p <;> simp [h]

theorem szFile_eq (p t : Str) (n : Int) (hn : 0 ≤ n) (hn2 : n ≤ 1048576) (hp : p.length ≤ 9223372036854775807) (ht : t.length ≤ 9223372036854775807) :
    szFile p t n = some (if n - p.length < 0 then -1 else if n - p.length - t.length < 0 then -1 else n - p.length - t.length) := by
  unfold szFile
  rw [w64_id (n := n - (p.length : Int)) (by omega) (by omega), cond_dec]
  by_cases h : n - (p.length : Int) < 0
  · rw [if_pos h, if_pos h]
  · rw [if_neg h, if_neg h, w64_id (n := n - (p.length : Int) - (t.length : Int)) (by omega) (by omega), cond_dec]
    by_cases h2 : n - (p.length : Int) - (t.length : Int) < 0
    · rw [if_pos h2, if_pos h2]
    · rw [if_neg h2, if_neg h2]

def SmallF (xs : List (Str × Str)) : Prop := ∀ x, x ∈ xs → x.1.length ≤ 1048576 ∧ x.2.length ≤ 1048576

theorem szFileS_l0 (xs : List (Str × Str)) (hx : ∀ x, x ∈ xs → x.1.length ≤ 9223372036854775807 ∧ x.2.length ≤ 9223372036854775807) (hlen : xs.length ≤ 1048576) : ∀ k i (left : Int), i + k = xs.length → 0 ≤ left → left ≤ 1048576 →
    ∃ r, szFileS.l0 (k + 1) (xs, left, (i : Int)) = some r ∧ (r = .inr (-1) ∨ ∃ l, r = .inl l ∧ 0 ≤ l ∧ SmallF (xs.drop i)) := by
  intro k
  induction k with
  | zero =>
    intro i left hi h0 h1
    rw [szFileS.l0.succ]
    simp only [szFileS.l0.step]
    rw [idx_ge (by omega), cond_false]
    refine ⟨_, rfl, .inr ⟨left, rfl, h0, ?_⟩⟩
    rw [List.drop_eq_nil_of_le (by omega)]
    intro x h; simp at h
  | succ k ih =>
    intro i left hi h0 h1
    have hil : i < xs.length := by omega
    have hg : xs.getD i ([], []) = xs[i] := by simp [List.getD, hil]
    have hm := hx xs[i] (List.getElem_mem hil)
    rw [szFileS.l0.succ]
    simp only [szFileS.l0.step, Int.toNat_natCast]
    rw [need_true _ (idx_in hil), idx_lt hil, cond_true, hg, szFile_eq _ _ left h0 h1 hm.1 hm.2]
    simp only [Option.bind_some]
    by_cases ha : left - ((xs[i].1).length : Int) < 0
    · rw [if_pos ha]; exact ⟨_, rfl, .inl rfl⟩
    · rw [if_neg ha]
      by_cases hb : left - ((xs[i].1).length : Int) - ((xs[i].2).length : Int) < 0
      · rw [if_pos hb]; exact ⟨_, rfl, .inl rfl⟩
      · rw [if_neg hb, cond_dec, if_neg hb, idx_next (by omega)]
        obtain ⟨r, hr, hc⟩ := ih (i + 1) (left - (xs[i].1).length - (xs[i].2).length) (by omega) (by omega) (by omega)
        refine ⟨r, hr, hc.imp id ?_⟩
        rintro ⟨l, e, hl, hs⟩
        refine ⟨l, e, hl, fun x hx => ?_⟩
        rw [List.drop_eq_getElem_cons hil] at hx
        cases hx with
        | head => omega
        | tail _ h => exact hs x h

theorem szFileS_eq (xs : List (Str × Str)) (hxl : xs.length ≤ 9223372036854775807) (hx : ∀ x, x ∈ xs → x.1.length ≤ 9223372036854775807 ∧ x.2.length ≤ 9223372036854775807) :
    ∃ v, szFileS xs 1048576 = some v ∧ (v < 0 ∨ (xs.length ≤ 1048576 ∧ SmallF xs)) := by
  unfold szFileS
  rw [w64_id (n := 1048576 - (xs.length : Int)) (by omega) (by omega), cond_dec]
  by_cases h : (1048576 : Int) - (xs.length : Int) < 0
  · rw [if_pos h]; exact ⟨-1, rfl, .inl (by omega)⟩
  · rw [if_neg h, fuel_of]
    obtain ⟨r, hr, hc⟩ := szFileS_l0 xs hx (by omega) xs.length 0 (1048576 - xs.length) (by omega) (by omega) (by omega)
    rw [show ((0 : Nat) : Int) = 0 from rfl] at hr
    rw [hr]
    rcases hc with rfl | ⟨l, rfl, hl, hs⟩
    · exact ⟨-1, rfl, .inl (by omega)⟩
    · exact ⟨l, rfl, .inr ⟨by omega, by simpa using hs⟩⟩

theorem eqFile_same (p t : Str) : eqFile p t p t = some true := by
  unfold eqFile; simp

theorem eqFileS_l0 (xs : List (Str × Str)) (hlen : xs.length ≤ 1048576) : ∀ k i, i + k = xs.length → eqFileS.l0 (k + 1) (xs, xs, (i : Int)) = some (.inl ()) := by
  intro k
  induction k with
  | zero =>
    intro i hi
    rw [eqFileS.l0.succ]
    simp only [eqFileS.l0.step]
    rw [idx_ge (by omega), cond_false]
  | succ k ih =>
    intro i hi
    have hil : i < xs.length := by omega
    rw [eqFileS.l0.succ]
    simp only [eqFileS.l0.step, eqFile_same, Option.bind_some, Bool.not_true, cond_false]
    rw [need_true _ (idx_in hil), need_true _ (idx_in hil), idx_lt hil, cond_true, idx_next (by omega)]
    exact ih (i + 1) (by omega)

theorem eqFileS_same (xs : List (Str × Str)) (hlen : xs.length ≤ 1048576) : eqFileS xs xs = some true := by
  unfold eqFileS
  have := eqFileS_l0 xs hlen xs.length 0 (by omega)
  rw [show ((0 : Nat) : Int) = 0 from rfl] at this
  simp only [bne_self_eq_false, cond_false]
  rw [fuel_of, this]; rfl

end Ev
