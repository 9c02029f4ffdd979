/- What the drawing functions give back. Conditions: as stated. -/
import Derived.Test.YtbokmcaoggnjhaaDoorTP
import Derived.Test.YtbokmcaoggnjhaaDoorW
set_option linter.unusedVariables false
set_option linter.unusedSimpArgs false
namespace Ev
open Go

theorem wrap_i64_id {n : Int} (h1 : -9223372036854775808 ≤ n) (h2 : n ≤ 9223372036854775807) : IntKind.i64.wrap n = n := w64_id h1 h2

theorem ixor_nat (x y : Nat) (hx : x < 4611686018427387904) (hy : y < 4611686018427387904) : ixor .i64 (x : Int) (y : Int) = ((x ^^^ y : Nat) : Int) := by
  have hz : x ^^^ y < 2 ^ 62 := Nat.xor_lt_two_pow (by omega) (by omega)
  unfold ixor
  have e : (BitVec.ofInt IntKind.i64.bits (x : Int) ^^^ BitVec.ofInt IntKind.i64.bits (y : Int)).toNat = x ^^^ y := by
    simp only [BitVec.ofInt_natCast, BitVec.toNat_xor, BitVec.toNat_ofNat, show IntKind.i64.bits = 64 from rfl]
    rw [Nat.mod_eq_of_lt (by omega), Nat.mod_eq_of_lt (by omega)]
  rw [e, wrap_i64_id (by omega) (by omega)]

theorem ixor_pos {x y : Int} (hx : 0 ≤ x) (hx2 : x < 4611686018427387904) (hy : 0 ≤ y) (hy2 : y < 4611686018427387904) : 0 ≤ ixor .i64 x y := by
  obtain ⟨a, rfl⟩ := Int.eq_ofNat_of_zero_le hx
  obtain ⟨b, rfl⟩ := Int.eq_ofNat_of_zero_le hy
  rw [ixor_nat a b (by omega) (by omega)]; omega

/-- A reader of draws as it may be. -/
def RdOk (b : List Int) (p : Int) : Prop := b.length ≤ 2000 ∧ (∀ x, x ∈ b → 0 ≤ x ∧ x ≤ 255) ∧ 0 ≤ p

theorem RdOk.up {b : List Int} {p q : Int} (h : RdOk b p) (hq : p ≤ q) : RdOk b q := ⟨h.1, h.2.1, by have := h.2.2; omega⟩

theorem getD_byte {b : List Int} (h : ∀ x, x ∈ b → 0 ≤ x ∧ x ≤ 255) (i : Nat) : 0 ≤ b.getD i 0 ∧ b.getD i 0 ≤ 255 := by
  by_cases hi : i < b.length
  · rw [getD_in hi]; exact h _ (List.getElem_mem hi)
  · have : b.getD i 0 = 0 := by simp [List.getD, List.getElem?_eq_none (by omega : b.length ≤ i)]
    rw [this]; omega

theorem pick_ret (n : Int) {b : List Int} {p : Int} (h : RdOk b p) (hp : p ≤ 1000000000) (hn : n ≤ 1000000000) :
    Ret (pick n b p) fun r => r.2.1 = b ∧ r.2.2 = p + 1 ∧ 0 ≤ r.1 ∧ (r.1 < n ∨ (r.1 = 0 ∧ (n < 1 ∨ b = []))) := by
  obtain ⟨h1, h2, h3⟩ := h
  unfold pick
  ((try simp (disch := omega) only [need_and, need_dec, need_decf, need_fits, need_ne, need_t, w64_id, tmod_e, tdiv_e, bind_some', Option.map_some, cond_true, cond_false, Int.sub_zero, Int.toNat_natCast]); (try simp only [c_dec, c_eq, c_ne, c_nodec, c_not, if_true, if_false]))
  by_cases hn1 : n < 1
  · simp only [if_pos hn1, bind_some', cond_true]
    exact .pure ⟨rfl, rfl, by omega, .inr ⟨rfl, .inl hn1⟩⟩
  · by_cases hb : b = []
    · subst hb
      simp only [if_neg hn1, bind_some', List.length_nil, show (((0 : Nat) : Int) == 0) = true from rfl, cond_true]
      exact .pure ⟨rfl, rfl, by omega, .inr ⟨rfl, .inr trivial⟩⟩
    · have hl : 0 < b.length := List.length_pos_iff.2 hb
      have e : ((b.length : Int) == 0) = false := by simp; omega
      have hpp : p + 1 - 1 = p := by omega
      simp only [if_neg hn1, bind_some', e, cond_false, hpp]
      have hbl : (b.length : Int) ≠ 0 := by omega
      have m1 : 0 ≤ p % (b.length : Int) := Int.emod_nonneg _ hbl
      have m2 : p % (b.length : Int) < b.length := Int.emod_lt_of_pos _ (by omega)
      have m3 : 0 ≤ (p * 7 + 3) % (b.length : Int) := Int.emod_nonneg _ hbl
      have m4 : (p * 7 + 3) % (b.length : Int) < b.length := Int.emod_lt_of_pos _ (by omega)
      have m5 : 0 ≤ p / (b.length : Int) := Int.ediv_nonneg h3 (by omega)
      have m6 : p / (b.length : Int) ≤ p := Int.ediv_le_self _ h3
      refine .ite (fun hlt => ?_) fun hlt => ?_
      · have g := getD_byte h2 p.toNat
        ((try simp (disch := omega) only [need_and, need_dec, need_decf, need_fits, need_ne, need_t, w64_id, tmod_e, tdiv_e, bind_some', Option.map_some, cond_true, cond_false, Int.sub_zero, Int.toNat_natCast]); (try simp only [c_dec, c_eq, c_ne, c_nodec, c_not, if_true, if_false]))
        refine .pure ⟨rfl, rfl, Int.emod_nonneg _ (by omega), .inl (Int.emod_lt_of_pos _ (by omega))⟩
      · ((try simp (disch := omega) only [need_and, need_dec, need_decf, need_fits, need_ne, need_t, w64_id, tmod_e, tdiv_e, bind_some', Option.map_some, cond_true, cond_false, Int.sub_zero, Int.toNat_natCast]); (try simp only [c_dec, c_eq, c_ne, c_nodec, c_not, if_true, if_false]))
        have g1 := getD_byte h2 (p % (b.length : Int)).toNat
        have g2 := getD_byte h2 ((p * 7 + 3) % (b.length : Int)).toNat
        generalize b.getD (p % (b.length : Int)).toNat 0 = x at *
        generalize b.getD ((p * 7 + 3) % (b.length : Int)).toNat 0 = y at *
        generalize p / (b.length : Int) = z at *
        ((try simp (disch := omega) only [need_and, need_dec, need_decf, need_fits, need_ne, need_t, w64_id, tmod_e, tdiv_e, bind_some', Option.map_some, cond_true, cond_false, Int.sub_zero, Int.toNat_natCast]); (try simp only [c_dec, c_eq, c_ne, c_nodec, c_not, if_true, if_false]))
        have hx := ixor_pos (x := x * 131 + y * 1117 + p * 29 + z * 53) (y := (x * 131 + y * 1117 + p * 29 + z * 53) / 64) (by omega) (by omega) (by omega) (by omega)
        ((try simp (disch := omega) only [need_and, need_dec, need_decf, need_fits, need_ne, need_t, w64_id, tmod_e, tdiv_e, bind_some', Option.map_some, cond_true, cond_false, Int.sub_zero, Int.toNat_natCast]); (try simp only [c_dec, c_eq, c_ne, c_nodec, c_not, if_true, if_false]))
        refine .pure ⟨rfl, rfl, Int.emod_nonneg _ (by omega), .inl (Int.emod_lt_of_pos _ (by omega))⟩

theorem rdOf_ret (xs : List Str) {b : List Int} {p : Int} (h : RdOk b p) (hp : p ≤ 1000000000) (hx : 0 < xs.length) (hx2 : xs.length ≤ 1000000000) :
    Ret (rdOf xs b p) fun r => r.2.1 = b ∧ r.2.2 = p + 1 ∧ r.1 ∈ xs := by
  unfold rdOf
  refine .bind (pick_ret _ h hp (by omega)) ?_
  rintro ⟨r, b', p'⟩ ⟨rfl, rfl, h0, h1⟩
  dsimp only at h0 h1 ⊢
  have hlt : r < xs.length := by omega
  ((try simp (disch := omega) only [need_and, need_dec, need_decf, need_fits, need_ne, need_t, w64_id, tmod_e, tdiv_e, bind_some', Option.map_some, cond_true, cond_false, Int.sub_zero, Int.toNat_natCast]); (try simp only [c_dec, c_eq, c_ne, c_nodec, c_not, if_true, if_false]))
  refine .pure ⟨rfl, rfl, ?_⟩
  rw [getD_in (by omega)]
  exact List.getElem_mem _

end Ev
