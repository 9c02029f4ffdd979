/- Plain laws about what the functions compute. Conditions: as stated. -/
import Derived.Test.YtbokmcaoggnjhaaDoorL6
import Derived.Lib.Bytealg
set_option linter.unusedVariables false
set_option linter.unusedSimpArgs false
namespace Ev
open Go

theorem cutAt_none : ∀ {s : Str}, s.findIdx? (· == 47) = none → cutAt 47 s = [s]
  | [], _ => rfl
  | c :: s, h => by
    rw [List.findIdx?_cons] at h
    cases hc : (c == (47 : UInt8)) with
    | true => rw [hc] at h; simp at h
    | false =>
      rw [hc] at h
      have ih := cutAt_none (s := s) (by simpa using h)
      simp only [cutAt, if_neg (beq_eq_false_iff_ne.1 hc), ih]

theorem cutAt_some : ∀ {s : Str} {m : Nat}, s.findIdx? (· == 47) = some m → m < s.length ∧ cutAt 47 s = s.take m :: cutAt 47 (s.drop (m + 1))
  | [], m, h => by simp at h
  | c :: s, m, h => by
    rw [List.findIdx?_cons] at h
    cases hc : (c == (47 : UInt8)) with
    | true =>
      rw [hc] at h
      simp at h; subst h
      have := beq_iff_eq.1 hc
      subst this
      exact ⟨by simp, by simp [cutAt]⟩
    | false =>
      rw [hc] at h
      simp only [cond_false, Bool.false_eq_true, if_false, Option.map_eq_some_iff] at h
      obtain ⟨m', h', rfl⟩ := h
      obtain ⟨a, b⟩ := cutAt_some h'
      refine ⟨by simp; omega, ?_⟩
      simp only [cutAt, if_neg (beq_eq_false_iff_ne.1 hc), b, List.take_succ_cons, List.drop_succ_cons]

theorem count_foldl : ∀ (s : Str) (n : Int), s.foldl (fun (n : Int) x => if x == 47 then n + 1 else n) n = n + ((cutAt 47 s).length - 1)
  | [], n => by simp [cutAt]
  | c :: s, n => by
    rw [List.foldl_cons, count_foldl s]
    have hne := cutAt_ne 47 s
    have hpos : 1 ≤ (cutAt 47 s).length := by cases h : cutAt 47 s with
      | nil => exact absurd h hne
      | cons _ _ => simp
    by_cases hc : c = 47
    · subst hc
      simp [cutAt]; omega
    · rw [beq_eq_false_iff_ne.2 hc]
      simp only [cutAt, if_neg hc]
      cases h : cutAt 47 s with
      | nil => exact absurd h hne
      | cons q r => simp

theorem cntB_eq (s : Str) : cntB s 47 = (cutAt 47 s).length - 1 := by
  unfold cntB
  rw [Go.Lib.foldl_data]
  have := count_foldl s 0
  rw [Int.zero_add] at this
  exact this

theorem indexS_eq (s : Str) : indexS s = some (match s.findIdx? (· == 47) with | some i => (i : Int) | none => -1) := by
  unfold indexS index0S indexByte0 indexByteString
  simp only [Option.bind_some, idxB_eq]
  by_cases h : ([47] : Str) = s
  · subst h; rfl
  · rw [beq_eq_false_iff_ne.2 h]; rfl

theorem genSplitS_l0 : ∀ k i (s2 : Str) (done : List Str), s2.length ≤ 1048576 → (cutAt 47 s2).length = k + 1 → done.length = i → i + k ≤ 2000000 →
    ∃ s3, genSplitS.l0 (k + 1) (s2, ((i + k : Nat) : Int), (i : Int), done ++ List.replicate (k + 1) ([] : Str)) = some (s3, ((i + k : Nat) : Int), done ++ ((cutAt 47 s2).dropLast ++ [[]])) ∧ (cutAt 47 s2).getLast? = some s3 := by
  intro k
  induction k with
  | zero =>
    intro i s2 done hs hc hd hi
    rw [genSplitS.l0.succ]
    simp only [genSplitS.l0.step]
    rw [idx_ge (by omega), cond_false]
    cases h : cutAt 47 s2 with
    | nil => rw [h] at hc; simp at hc
    | cons q r =>
      rw [h] at hc
      have hr : r = [] := List.eq_nil_of_length_eq_zero (by simpa using hc)
      subst hr
      have hq : q = s2 := by
        cases hf : s2.findIdx? (· == 47) with
        | none => rw [cutAt_none hf] at h; simpa using h.symm
        | some m =>
          rw [(cutAt_some hf).2] at h
          have := cutAt_ne 47 (s2.drop (m + 1))
          simp at h; exact absurd h.2 this
      subst hq
      exact ⟨q, by simp, by simp⟩
  | succ k ih =>
    intro i s2 done hs hc hd hi
    rw [genSplitS.l0.succ]
    simp only [genSplitS.l0.step, indexS_eq, Option.bind_some]
    rw [idx_lt (by omega), cond_true]
    cases hf : s2.findIdx? (· == 47) with
    | none => rw [cutAt_none hf] at hc; simp at hc
    | some m =>
      obtain ⟨hm, hcut⟩ := cutAt_some hf
      rw [hcut] at hc ⊢
      have hc' : (cutAt 47 (s2.drop (m + 1))).length = k + 1 := by simpa using hc
      simp only []
      rw [show decide ((m : Int) < 0) = false from decide_eq_false (by omega), cond_false, Int.add_zero, w64_id (n := (m : Int)) (by omega) (by omega), need_true _ (idx_to (by omega)), Int.toNat_natCast,
        idx_next (by omega), need_true _ (idx_to (by omega)), need_true _ (idx_in (by simp; omega)), idx_next (by omega), Int.toNat_natCast, Int.toNat_natCast]
      have e : (done ++ List.replicate (k + 1 + 1) ([] : Str)).set i (s2.take m) = (done ++ [s2.take m]) ++ List.replicate (k + 1) ([] : Str) := by
        rw [List.set_append, if_neg (by omega), hd, Nat.sub_self, List.replicate_succ, List.set_cons_zero]; simp
      rw [e]
      obtain ⟨s3, h1, h2⟩ := ih (i + 1) (s2.drop (m + 1)) (done ++ [s2.take m]) (by simp; omega) hc' (by simp [hd]) (by omega)
      refine ⟨s3, ?_, ?_⟩
      · rw [show i + (k + 1) = i + 1 + k by omega, h1]
        cases hq : cutAt 47 (s2.drop (m + 1)) with
        | nil => exact absurd hq (cutAt_ne _ _)
        | cons a b => simp
      · cases hq : cutAt 47 (s2.drop (m + 1)) with
        | nil => exact absurd hq (cutAt_ne _ _)
        | cons a b => rw [hq] at h2; rw [List.getLast?_cons_cons]; exact h2

theorem minA_left {a b : Int} (h : a ≤ b) : minA a b = a := by unfold minA; rw [if_neg (by omega)]

theorem genSplitS_eq (s : Str) (hs : s.length ≤ 1048576) : genSplitS s = some (cutAt 47 s) := by
  have hlen := cutAt_len 47 s
  have hpos : 1 ≤ (cutAt 47 s).length := by cases h : cutAt 47 s with
    | nil => exact absurd h (cutAt_ne 47 s)
    | cons _ _ => simp
  obtain ⟨k, hk⟩ : ∃ k, (cutAt 47 s).length = k + 1 := ⟨(cutAt 47 s).length - 1, by omega⟩
  unfold genSplitS countS countString
  simp only [Option.bind_some, cntB_eq, hk]
  rw [show (((k + 1 : Nat) : Int) - 1) = (k : Int) by omega, w64_id (n := (k : Int) + 1) (by omega) (by omega), w64_id (n := (s.length : Int) + 1) (by omega) (by omega), minA_left (by omega),
    w64_id (n := (k : Int) + 1 - 1) (by omega) (by omega), show ((k : Int) + 1).toNat = k + 1 by omega, show ((k : Int) + 1 - 1) = (k : Int) by omega, fuel_of]
  rw [need_true _ (by simp; exact ⟨by omega, fits_of (by omega)⟩)]
  obtain ⟨s3, h1, h2⟩ := genSplitS_l0 k 0 s [] hs hk rfl (by omega)
  simp only [Nat.zero_add, List.nil_append] at h1
  rw [show ((0 : Nat) : Int) = 0 from rfl] at h1
  rw [h1]
  simp only [Option.bind_some, Int.toNat_natCast]
  have hdl : (cutAt 47 s).dropLast.length = k := by simp [hk]
  have hset : ((cutAt 47 s).dropLast ++ [([] : Str)]).set k s3 = cutAt 47 s := by
    rw [List.set_append, if_neg (by omega), hdl, Nat.sub_self, List.set_cons_zero]
    obtain ⟨ys, hy⟩ := List.getLast?_eq_some_iff.1 h2
    rw [hy]; simp
  have hn : w64 ((k : Int) + 1) = ((k + 1 : Nat) : Int) := idx_next (by omega)
  rw [need_true _ (idx_in (by simp; omega))]
  simp only [hset, hn, Int.toNat_natCast]
  rw [need_true _ (idx_to (by omega)), List.drop_zero, List.take_of_length_le (by omega)]

theorem splitS_eq (s : Str) (hs : s.length ≤ 1048576) : splitS s = some (cutAt 47 s) := by
  unfold splitS
  rw [genSplitS_eq s hs]; rfl

theorem implNameOk_l0 (l : List Str) (hl : l.length ≤ 1099511627000) (hx : ∀ p, p ∈ l → p.length ≤ 1099511627000) : ∀ k i, i + k = l.length → implNameOk.l0 (k + 1) (l, l, (l.length : Int), (i : Int)) = some (if (l.drop i).all part then .inl l else .inr false) := by
  intro k
  induction k with
  | zero =>
    intro i hi
    rw [implNameOk.l0.succ]
    simp only [implNameOk.l0.step]
    rw [idx_ge (by omega), List.drop_eq_nil_of_le (by omega)]
    rfl
  | succ k ih =>
    intro i hi
    have hil : i < l.length := by omega
    have hg : l.getD i [] = l[i] := by simp [List.getD, hil]
    have hd : l.drop i = l[i] :: l.drop (i + 1) := List.drop_eq_getElem_cons hil
    have hm := hx l[i] (List.getElem_mem hil)
    rw [implNameOk.l0.succ]
    simp only [implNameOk.l0.step, Int.toNat_natCast]
    rw [need_true _ (idx_in hil), idx_lt hil, cond_true, hg, partOk_eq _ hm, hd, List.all_cons, idx_next (by omega)]
    simp only [Option.bind_some]
    cases part l[i] with
    | false => rfl
    | true => simp only [Bool.not_true, cond_false, Bool.true_and]; exact ih (i + 1) (by omega)

theorem implNameOk_eq (s : Str) (hs : s.length ≤ 1048576) : implNameOk s = some (nameOk s) := by
  unfold implNameOk
  rw [splitS_eq s hs]
  simp only [Option.bind_some]
  have hl := cutAt_len 47 s
  have h := implNameOk_l0 (cutAt 47 s) (by omega) (fun p hp => by have := cutAt_parts 47 s p hp; omega) (cutAt 47 s).length 0 (by omega)
  rw [show ((0 : Nat) : Int) = 0 from rfl] at h
  rw [fuel_of, h, List.drop_zero]
  unfold nameOk
  cases h1 : (cutAt 47 s).all part with
  | false => rfl
  | true => simp only [if_true, Option.bind_some, dec_len4, Bool.true_and]

end Ev
