/- Plain laws about what the functions compute. Conditions: as stated. -/
import Derived.KernelRfl
import Derived.Test.YtnllgghlojppfaaGreatDoorDGP0
section
set_option linter.unusedVariables false
set_option linter.unusedSimpArgs false
namespace Ev
open Go
def Ret {α : Type} (x : Option α) (Q : α → Prop) : Prop := ∃ a, x = some a ∧ Q a
theorem Ret.pure {α : Type} {a : α} {Q : α → Prop} (h : Q a) : Ret (some a) Q := ⟨a, rfl, h⟩
theorem Ret.of {α : Type} {x : Option α} {a : α} {Q : α → Prop} (e : x = some a) (h : Q a) : Ret x Q := ⟨a, e, h⟩
theorem Ret.mono {α : Type} {x : Option α} {P Q : α → Prop} (h : Ret x P) (k : ∀ a, P a → Q a) : Ret x Q := by
  obtain ⟨a, e, q⟩ := h; exact ⟨a, e, k a q⟩
theorem Ret.bind {α β : Type} {x : Option α} {f : α → Option β} {P : α → Prop} {Q : β → Prop} (h : Ret x P) (k : ∀ a, P a → Ret (f a) Q) : Ret (x.bind f) Q := by
  obtain ⟨a, rfl, q⟩ := h; exact k a q
theorem Ret.need {α : Type} {b : Bool} {x : Option α} {Q : α → Prop} (h : b = true) (k : Ret x Q) : Ret (Ev.need b x) Q := by subst h; exact k
theorem Ret.cond {α : Type} {b : Bool} {x y : Option α} {Q : α → Prop} (h1 : b = true → Ret x Q) (h0 : b = false → Ret y Q) : Ret (bif b then x else y) Q := by
  cases b
  · exact h0 rfl
  · exact h1 rfl
theorem Ret.ite {α : Type} {p : Prop} [Decidable p] {x y : Option α} {Q : α → Prop} (h1 : p → Ret x Q) (h0 : ¬ p → Ret y Q) : Ret (if p then x else y) Q := by
  by_cases h : p
  · rw [if_pos h]; exact h1 h
  · rw [if_neg h]; exact h0 h
theorem Ret.map {α β : Type} {x : Option α} {f : α → β} {Q : β → Prop} (h : Ret x (fun a => Q (f a))) : Ret (x.map f) Q := by
  obtain ⟨a, rfl, q⟩ := h; exact ⟨f a, rfl, q⟩
theorem Ret.loop {T σ : Type} {step : (T → Option σ) → T → Option σ} (Inv : T → Prop) (μ : T → Nat) (Q : T → σ → Prop)
    (h : ∀ again t, Inv t → (∀ t', Inv t' → μ t' < μ t → Ret (again t') (Q t')) → Ret (step again t) (Q t)) : ∀ n t, Inv t → μ t < n → Ret (loopN step n t) (Q t)
  | 0, _, _, hn => absurd hn (Nat.not_lt_zero _)
  | n + 1, t, hi, hn => h _ t hi fun t' hi' hm => Ret.loop Inv μ Q h n t' hi' (by omega)
theorem need_and {α : Type} {p q : Prop} [Decidable p] [Decidable q] {x : Option α} (hp : p) (hq : q) : need (decide p && decide q) x = x := need_true _ (by simp [hp, hq])
theorem need_dec {α : Type} {p : Prop} [Decidable p] {x : Option α} (hp : p) : need (decide p) x = x := need_true _ (by simp [hp])
theorem need_decf {α : Type} {p : Prop} [Decidable p] {x : Option α} {n : Nat} (hp : p) (hn : n ≤ 1099511627776) : need (decide p && fits n) x = x := need_true _ (by simp [hp, fits_of hn])
theorem need_fits {α : Type} {n : Nat} {x : Option α} (h : n ≤ 1099511627776) : need (fits n) x = x := need_true _ (fits_of h)
theorem need_ne {α : Type} {a b : Int} {x : Option α} (h : a ≠ b) : need (a != b) x = x := need_true _ (by simp [h])
theorem need_t {α : Type} {x : Option α} : need true x = x := rfl
theorem c_dec {α : Type} (p : Prop) [Decidable p] (x y : α) : (bif decide p then x else y) = if p then x else y := by
  by_cases h : p <;> simp [h]
theorem c_eq {α β : Type} [BEq β] [LawfulBEq β] [DecidableEq β] (a b : β) (x y : α) : (bif a == b then x else y) = if a = b then x else y := by
  by_cases h : a = b
  · simp [h]
  · rw [if_neg h, beq_false_of_ne h]; rfl
theorem c_ne {α β : Type} [BEq β] [LawfulBEq β] [DecidableEq β] (a b : β) (x y : α) : (bif a != b then x else y) = if a = b then y else x := by
  by_cases h : a = b
  · simp [h]
  · rw [if_neg h, bne, beq_false_of_ne h]; rfl
theorem c_not {α : Type} (b : Bool) (x y : α) : (bif !b then x else y) = bif b then y else x := by cases b <;> rfl
theorem c_nodec {α : Type} (p : Prop) [Decidable p] (x y : α) : (bif !decide p then x else y) = if p then y else x := by
  by_cases h : p <;> simp [h]
theorem tmod_e {a b : Int} (h : 0 ≤ a) : a.tmod b = a % b := Int.tmod_eq_emod_of_nonneg h
theorem tdiv_e {a b : Int} (h : 0 ≤ a) : a.tdiv b = a / b := Int.tdiv_eq_ediv_of_nonneg h
theorem bind_some' {α β : Type} (a : α) (f : α → Option β) : (some a).bind f = f a := rfl
theorem getD_in {α : Type} {l : List α} {i : Nat} {d : α} (h : i < l.length) : l.getD i d = l[i] := by simp [List.getD, h]
end Ev
end
section
set_option linter.unusedVariables false
set_option linter.unusedSimpArgs false
namespace Ev
open Go
theorem wrap_i64_id {n : Int} (h1 : -9223372036854775808 ≤ n) (h2 : n ≤ 9223372036854775807) : IntKind.i64.wrap n = n := w64_id h1 h2
end Ev
end
section
set_option linter.unusedVariables false
set_option linter.unusedSimpArgs false
namespace Ev
open Go
theorem ishr_nat (n k : Nat) (hk : k ≤ 64) : ishr .i64 (n : Int) (k : Int) = ((n / 2 ^ k : Nat) : Int) := by
  unfold ishr
  rw [Int.toNat_natCast, show min k IntKind.i64.bits = k from Nat.min_eq_left hk, show ((2 : Int) ^ k) = ((2 ^ k : Nat) : Int) by simp, Int.fdiv_eq_ediv_of_nonneg _ (Int.natCast_nonneg _)]
  exact (Int.natCast_ediv n (2 ^ k)).symm
theorem ishl_nat (n k : Nat) (hk : k ≤ 64) (h : n * 2 ^ k < 9223372036854775808) : ishl .i64 (n : Int) (k : Int) = ((n * 2 ^ k : Nat) : Int) := by
  unfold ishl
  rw [Int.toNat_natCast, show min k IntKind.i64.bits = k from Nat.min_eq_left hk, show ((2 : Int) ^ k) = ((2 ^ k : Nat) : Int) by simp, ← Int.natCast_mul]
  exact wrap_i64_id (by omega) (by omega)
theorem iand_nat (x y : Nat) (hx : x < 9223372036854775808) (hy : y < 9223372036854775808) : iand .i64 (x : Int) (y : Int) = ((x &&& y : Nat) : Int) := by
  have hz : x &&& y < 2 ^ 63 := Nat.and_lt_two_pow _ (by omega)
  unfold iand
  have e : (BitVec.ofInt IntKind.i64.bits (x : Int) &&& BitVec.ofInt IntKind.i64.bits (y : Int)).toNat = x &&& y := by
    simp only [BitVec.ofInt_natCast, BitVec.toNat_and, BitVec.toNat_ofNat, show IntKind.i64.bits = 64 from rfl]
    rw [Nat.mod_eq_of_lt (by omega), Nat.mod_eq_of_lt (by omega)]
  rw [e, wrap_i64_id (by omega) (by omega)]
theorem ior_nat (x y : Nat) (hx : x < 9223372036854775808) (hy : y < 9223372036854775808) : ior .i64 (x : Int) (y : Int) = ((x ||| y : Nat) : Int) := by
  have hz : x ||| y < 2 ^ 63 := Nat.or_lt_two_pow (by omega) (by omega)
  unfold ior
  have e : (BitVec.ofInt IntKind.i64.bits (x : Int) ||| BitVec.ofInt IntKind.i64.bits (y : Int)).toNat = x ||| y := by
    simp only [BitVec.ofInt_natCast, BitVec.toNat_or, BitVec.toNat_ofNat, show IntKind.i64.bits = 64 from rfl]
    rw [Nat.mod_eq_of_lt (by omega), Nat.mod_eq_of_lt (by omega)]
  rw [e, wrap_i64_id (by omega) (by omega)]
theorem iand_one (x : Nat) (hx : x < 9223372036854775808) : iand .i64 (x : Int) 1 = ((x % 2 : Nat) : Int) := by
  have := iand_nat x 1 hx (by omega)
  rw [Nat.and_one_is_mod] at this
  exact this
theorem or_add (x c k : Nat) (h : x < 2 ^ k) : x ||| c * 2 ^ k = x + c * 2 ^ k := by
  have := Nat.two_pow_add_eq_or_of_lt h c
  rw [Nat.or_comm, Nat.mul_comm c, ← this, Nat.add_comm]
theorem testBit_nat (n k : Nat) : n / 2 ^ k % 2 = (n.testBit k).toNat := by
  rw [Nat.testBit_eq_decide_div_mod_eq]
  have : n / 2 ^ k % 2 < 2 := Nat.mod_lt _ (by omega)
  by_cases h : n / 2 ^ k % 2 = 1
  · simp [h]
  · have : n / 2 ^ k % 2 = 0 := by omega
    simp [this]
def numB (n : Nat) : Nat → List Bool
  | 0 => []
  | k + 1 => numB n k ++ [n.testBit k]
def valB : List Bool → Nat
  | [] => 0
  | b :: l => b.toNat + 2 * valB l
theorem numB_length (n : Nat) : ∀ k, (numB n k).length = k
  | 0 => rfl
  | k + 1 => by simp [numB, numB_length n k]
theorem valB_append (a b : List Bool) : valB (a ++ b) = valB a + 2 ^ a.length * valB b := by
  induction a with
  | nil => simp [valB]
  | cons x l ih =>
    simp only [List.cons_append, valB, ih, List.length_cons, Nat.pow_succ]
    rw [Nat.mul_add, Nat.add_assoc]; congr 2
    rw [← Nat.mul_assoc, Nat.mul_comm 2]
theorem valB_lt (l : List Bool) : valB l < 2 ^ l.length := by
  induction l with
  | nil => simp [valB]
  | cons x l ih =>
    simp only [valB, List.length_cons, Nat.pow_succ]
    have : x.toNat ≤ 1 := by cases x <;> decide
    omega
def pack (l : List Bool) : List Int := (List.range ((l.length + 7) / 8)).map fun i => ((valB ((l.drop (8 * i)).take 8) : Nat) : Int)
end Ev
end
section
set_option linter.unusedVariables false
set_option linter.unusedSimpArgs false
namespace Ev
open Go
theorem numB_get (n : Nat) : ∀ (k i : Nat) (h : i < k), (numB n k)[i]'(by rw [numB_length]; exact h) = n.testBit i
  | 0, i, h => by omega
  | k + 1, i, h => by
    simp only [numB]
    by_cases hi : i < k
    · rw [List.getElem_append_left (by rw [numB_length]; exact hi)]; exact numB_get n k i hi
    · have : i = k := by omega
      subst this
      rw [List.getElem_append_right (by rw [numB_length]; omega)]
      simp
theorem l1Pow_l0 : ∀ (m : Nat) (o : Nat), m ≤ 62 → o * 2 ^ m < 9223372036854775808 → l1Pow.l0 (m + 1) ((m : Int), (o : Int)) = some ((o * 2 ^ m : Nat) : Int)
  | 0, o, hm, h => by
    rw [l1Pow.l0.succ]; simp only [l1Pow.l0.step]
    ((try simp (disch := omega) only [need_and, need_dec, need_decf, need_fits, need_ne, need_t, w64_id, tmod_e, tdiv_e, bind_some', Option.map_some, cond_true, cond_false, Int.sub_zero, Int.toNat_natCast]); (try simp only [c_dec, c_eq, c_ne, c_nodec, c_not, if_true, if_false]))
    rw [if_neg (by omega)]; simp
  | m + 1, o, hm, h => by
    have h2 : o * 2 ^ (m + 1) = 2 * o * 2 ^ m := by rw [Nat.pow_succ, Nat.mul_comm (2 ^ m) 2, ← Nat.mul_assoc, Nat.mul_comm o 2]
    have hle : 2 * o ≤ 2 * o * 2 ^ m := Nat.le_mul_of_pos_right _ (Nat.two_pow_pos m)
    rw [l1Pow.l0.succ]; simp only [l1Pow.l0.step]
    ((try simp (disch := omega) only [need_and, need_dec, need_decf, need_fits, need_ne, need_t, w64_id, tmod_e, tdiv_e, bind_some', Option.map_some, cond_true, cond_false, Int.sub_zero, Int.toNat_natCast]); (try simp only [c_dec, c_eq, c_ne, c_nodec, c_not, if_true, if_false]))
    rw [if_pos (by omega), show (((m + 1 : Nat) : Int) - 1) = (m : Int) by omega, show (2 * (o : Int)) = ((2 * o : Nat) : Int) by omega, l1Pow_l0 m (2 * o) (by omega) (by omega), h2]
theorem l1Pow_eq (n : Nat) (hn : n ≤ 62) : l1Pow (n : Int) = some ((2 ^ n : Nat) : Int) := by
  unfold l1Pow
  have hp : 2 ^ n ≤ 2 ^ 62 := Nat.pow_le_pow_right (by omega) hn
  have := l1Pow_l0 n 1 hn (by omega)
  rw [show ((n : Int) - 0).toNat + 1 = n + 1 by omega, show (1 : Int) = ((1 : Nat) : Int) from rfl, this, Nat.one_mul]
  rfl
theorem within_eq' (n a b : Int) : within n a b = some (decide (a ≤ n ∧ n ≤ b)) := by
  unfold within
  by_cases h1 : n ≥ a <;> by_cases h2 : n ≤ b <;> simp [h1, h2] <;> omega
theorem l1In_eq' (n a b : Int) : l1In n a b = some (decide (a ≤ n ∧ n ≤ b)) := within_eq' n a b
end Ev
end
section
set_option linter.unusedVariables false
set_option linter.unusedSimpArgs false
namespace Ev
open Go
def bitsOf : Str → List Bool
  | [] => []
  | c :: s => numB c.toNat 8 ++ bitsOf s
theorem bitsOf_length : ∀ s : Str, (bitsOf s).length = 8 * s.length
  | [] => rfl
  | c :: s => by simp [bitsOf, numB_length, bitsOf_length s]; omega
theorem bitsOf_get : ∀ (s : Str) (n : Nat) (h : n < 8 * s.length), (bitsOf s)[n]'(by rw [bitsOf_length]; exact h) = ((s.getD (n / 8) 0).toNat).testBit (n % 8)
  | [], n, h => by simp at h
  | c :: s, n, h => by
    simp only [bitsOf]
    by_cases h8 : n < 8
    · rw [List.getElem_append_left (by rw [numB_length]; exact h8), numB_get _ _ _ h8, show n / 8 = 0 by omega, show n % 8 = n by omega]; rfl
    · rw [List.getElem_append_right (by rw [numB_length]; omega)]
      simp only [numB_length]
      have := bitsOf_get s (n - 8) (by simp at h; omega)
      rw [this, show n / 8 = (n - 8) / 8 + 1 by omega, show (n - 8) % 8 = n % 8 by omega]; rfl
def Rs (s : Str) (at_ : Int) (bad : Bool) : Option (List Bool) → Prop
  | some l => bad = false ∧ ∃ n : Nat, at_ = (n : Int) ∧ n ≤ 8 * s.length ∧ (bitsOf s).drop n = l
  | none => bad = true ∧ ∃ n : Nat, at_ = (n : Int) ∧ n ≤ 8 * s.length
theorem Rs.at {s : Str} {at_ : Int} {bad : Bool} {m : Option (List Bool)} (h : Rs s at_ bad m) : ∃ n : Nat, at_ = (n : Int) ∧ n ≤ 8 * s.length := by
  cases m with
  | none => exact h.2
  | some l => obtain ⟨_, n, a, b, _⟩ := h; exact ⟨n, a, b⟩
theorem Rs.fail {s : Str} {at_ : Int} {bad : Bool} {m : Option (List Bool)} (h : Rs s at_ bad m) : Rs s at_ true none := ⟨rfl, h.at⟩
theorem Rs.len {s : Str} {at_ : Int} {bad : Bool} {l : List Bool} (h : Rs s at_ bad (some l)) : at_ = ((8 * s.length - l.length : Nat) : Int) ∧ l.length ≤ 8 * s.length := by
  obtain ⟨_, n, a, b, c⟩ := h
  have := congrArg List.length c
  rw [List.length_drop, bitsOf_length] at this
  omega
theorem Rs.start (s : Str) : Rs s 0 false (some (bitsOf s)) := ⟨rfl, 0, rfl, by omega, rfl⟩
def uncons : Option (List Bool) → Option (List Bool)
  | some (_ :: l) => some l
  | _ => none
def BitPost (s : Str) (m : Option (List Bool)) (r : Int × Str × Int × Bool) : Prop :=
  r.2.1 = s ∧ ∃ b : Bool, r.1 = ((b.toNat : Nat) : Int) ∧ Rs s r.2.2.1 r.2.2.2 (uncons m) ∧ ∀ c l, m = some (c :: l) → b = c
theorem rBit_lt (s : Str) (n : Nat) (bad : Bool) (hs : s.length ≤ 1000000000) (hlt : n < 8 * s.length) :
    rBit s (n : Int) bad = some (((((s.getD (n / 8) 0).toNat.testBit (n % 8)).toNat : Nat) : Int), s, ((n + 1 : Nat) : Int), bad) := by
  unfold rBit
  have hmod : ((n : Int)).tmod 8 = ((n % 8 : Nat) : Int) := by rw [tmod_e (by omega)]; omega
  have hdiv : ((n : Int)).tdiv 8 = ((n / 8 : Nat) : Int) := by rw [tdiv_e (by omega)]; omega
  simp only [hmod, hdiv]
  ((try simp (disch := omega) only [need_and, need_dec, need_decf, need_fits, need_ne, need_t, w64_id, tmod_e, tdiv_e, bind_some', Option.map_some, cond_true, cond_false, Int.sub_zero, Int.toNat_natCast]); (try simp only [c_dec, c_eq, c_ne, c_nodec, c_not, if_true, if_false]))
  rw [if_neg (by omega)]
  have hc : (s.getD (n / 8) 0).toNat < 256 := (s.getD (n / 8) 0).toNat_lt
  have hbit : iand .i64 (ishr .i64 (w64 (((s.getD (n / 8) 0).toNat : Nat) : Int)) ((n % 8 : Nat) : Int)) 1 = ((((s.getD (n / 8) 0).toNat.testBit (n % 8)).toNat : Nat) : Int) := by
    rw [w64_id (by omega) (by omega), ishr_nat _ _ (by omega), iand_one _ (Nat.lt_of_le_of_lt (Nat.div_le_self _ _) (by omega)), testBit_nat]
  rw [hbit, show ((n : Int) + 1) = ((n + 1 : Nat) : Int) by omega]
theorem rBit_st {s : Str} {at_ : Int} {bad : Bool} {m : Option (List Bool)} (hs : s.length ≤ 1000000000) (h : Rs s at_ bad m) : Ret (rBit s at_ bad) (BitPost s m) := by
  obtain ⟨n, rfl, hn⟩ := h.at
  unfold rBit
  by_cases hlt : n < 8 * s.length
  · have hb0 := rBit_lt s n bad hs hlt
    unfold rBit at hb0
    rw [hb0]
    refine .pure ⟨rfl, _, rfl, ?_, ?_⟩
    · cases m with
      | none => exact ⟨h.1, n + 1, rfl, by omega⟩
      | some l =>
        obtain ⟨hb, n', e, _, hd⟩ := h
        have : n' = n := by omega
        subst this
        rw [List.drop_eq_getElem_cons (by rw [bitsOf_length]; exact hlt)] at hd
        subst hd
        exact ⟨hb, n' + 1, rfl, by omega, rfl⟩
    · rintro c l rfl
      obtain ⟨hb, n', e, _, hd⟩ := h
      have : n' = n := by omega
      subst this
      rw [List.drop_eq_getElem_cons (by rw [bitsOf_length]; exact hlt), bitsOf_get s n' hlt] at hd
      exact (List.cons.inj hd).1
  · ((try simp (disch := omega) only [need_and, need_dec, need_decf, need_fits, need_ne, need_t, w64_id, tmod_e, tdiv_e, bind_some', Option.map_some, cond_true, cond_false, Int.sub_zero, Int.toNat_natCast]); (try simp only [c_dec, c_eq, c_ne, c_nodec, c_not, if_true, if_false]))
    rw [if_pos (by omega)]
    refine .pure ⟨rfl, false, rfl, ?_, ?_⟩
    · cases m with
      | none => exact ⟨rfl, n, rfl, hn⟩
      | some l =>
        have := h.len
        have : l = [] := List.length_eq_zero_iff.1 (by omega)
        subst this
        exact ⟨rfl, n, rfl, hn⟩
    · rintro c l rfl
      have := h.len
      simp at this; omega
theorem sBit_eq (s : Str) (n : Nat) (bad : Bool) (hs : s.length ≤ 1000000000) (hn : n ≤ 8 * s.length) : sBit s (n : Int) bad = rBit s (n : Int) bad := by
  unfold sBit rBit
  have hmod : ((n : Int)).tmod 8 = ((n % 8 : Nat) : Int) := by rw [tmod_e (by omega)]; omega
  have hdiv : ((n : Int)).tdiv 8 = ((n / 8 : Nat) : Int) := by rw [tdiv_e (by omega)]; omega
  simp only [hmod, hdiv]
  by_cases hlt : n < 8 * s.length
  · ((try simp (disch := omega) only [need_and, need_dec, need_decf, need_fits, need_ne, need_t, w64_id, tmod_e, tdiv_e, bind_some', Option.map_some, cond_true, cond_false, Int.sub_zero, Int.toNat_natCast]); (try simp only [c_dec, c_eq, c_ne, c_nodec, c_not, if_true, if_false]))
    rw [if_neg (by omega), if_neg (by omega), l1Pow_eq _ (by omega)]
    have hc : (s.getD (n / 8) 0).toNat < 256 := (s.getD (n / 8) 0).toNat_lt
    have hp := Nat.two_pow_pos (n % 8)
    rw [w64_id (by omega) (by omega), ishr_nat _ _ (by omega), iand_one _ (Nat.lt_of_le_of_lt (Nat.div_le_self _ _) (by omega))]
    simp only [bind_some']
    rw [need_true _ (by simp only [bne_iff_ne, ne_eq]; intro h0; have h0 : 2 ^ (n % 8) = 0 := by exact_mod_cast h0
                        rw [h0] at hp; exact absurd hp (by omega))]
    have hle : (s.getD (n / 8) 0).toNat / 2 ^ (n % 8) ≤ (s.getD (n / 8) 0).toNat := Nat.div_le_self _ _
    rw [tdiv_e (Int.natCast_nonneg _), ← Int.natCast_ediv]
    generalize (s.getD (n / 8) 0).toNat / 2 ^ (n % 8) = q at *
    ((try simp (disch := omega) only [need_and, need_dec, need_decf, need_fits, need_ne, need_t, w64_id, tmod_e, tdiv_e, bind_some', Option.map_some, cond_true, cond_false, Int.sub_zero, Int.toNat_natCast]); (try simp only [c_dec, c_eq, c_ne, c_nodec, c_not, if_true, if_false]))
    rfl
  · ((try simp (disch := omega) only [need_and, need_dec, need_decf, need_fits, need_ne, need_t, w64_id, tmod_e, tdiv_e, bind_some', Option.map_some, cond_true, cond_false, Int.sub_zero, Int.toNat_natCast]); (try simp only [c_dec, c_eq, c_ne, c_nodec, c_not, if_true, if_false]))
    rw [if_pos (by omega), if_pos (by omega)]
theorem sBit_st {s : Str} {at_ : Int} {bad : Bool} {m : Option (List Bool)} (hs : s.length ≤ 1000000000) (h : Rs s at_ bad m) : Ret (sBit s at_ bad) (BitPost s m) := by
  obtain ⟨n, rfl, hn⟩ := h.at
  rw [sBit_eq s n bad hs hn]; exact rBit_st hs h
def mNum (k : Nat) : Option (List Bool) → Option (List Bool)
  | some l => if k ≤ l.length then some (l.drop k) else none
  | none => none
def NumPost (s : Str) (k : Nat) (m : Option (List Bool)) (r : Int × Str × Int × Bool) : Prop :=
  r.2.1 = s ∧ (∃ v : Nat, r.1 = (v : Int) ∧ v < 2 ^ k ∧ ∀ l, m = some l → k ≤ l.length → v = valB (l.take k)) ∧ Rs s r.2.2.1 r.2.2.2 (mNum k m)
theorem mNum_zero (m : Option (List Bool)) : mNum 0 m = m := by cases m <;> simp [mNum]
theorem mNum_succ (k : Nat) (m : Option (List Bool)) : mNum (k + 1) m = uncons (mNum k m) := by
  cases m with
  | none => rfl
  | some l =>
    simp only [mNum]
    by_cases h : k + 1 ≤ l.length
    · rw [if_pos h, if_pos (by omega), List.drop_eq_getElem_cons (by omega : k < l.length)]; rfl
    · rw [if_neg h]
      by_cases h2 : k ≤ l.length
      · rw [if_pos h2, List.drop_eq_nil_of_le (by omega)]; rfl
      · rw [if_neg h2]; rfl
theorem valB_take_succ (l : List Bool) (k : Nat) (h : k < l.length) : valB (l.take (k + 1)) = valB (l.take k) + (l[k]).toNat * 2 ^ k := by
  rw [List.take_succ_eq_append_getElem h, valB_append, List.length_take, Nat.min_eq_left (by omega)]
  simp only [valB, Nat.mul_zero, Nat.add_zero]
  rw [Nat.mul_comm (2 ^ _)]
theorem rGet_l0 {s : Str} (hs : s.length ≤ 1000000000) (k : Nat) (hk : k ≤ 60) (m0 : Option (List Bool)) : ∀ (j i v : Nat) (at_ : Int) (bad : Bool), i + j = k → v < 2 ^ i → (∀ l, m0 = some l → i ≤ l.length → v = valB (l.take i)) → Rs s at_ bad (mNum i m0) →
    Ret (rGet.l0 (j + 1) ((v : Int), (k : Int), (i : Int), s, at_, bad)) (NumPost s k m0)
  | 0, i, v, at_, bad, hi, hv, hl, h => by
    rw [rGet.l0.succ]; simp only [rGet.l0.step]
    rw [idx_ge (by omega)]
    have : i = k := by omega
    subst this
    exact .pure ⟨rfl, ⟨v, rfl, hv, hl⟩, h⟩
  | j + 1, i, v, at_, bad, hi, hv, hl, h => by
    rw [rGet.l0.succ]; simp only [rGet.l0.step]
    rw [idx_lt (by omega), cond_true]
    refine .bind (rBit_st hs h) ?_
    rintro ⟨r, s', at', bad'⟩ ⟨rfl, b, rfl, h2, h3⟩
    dsimp only at h2 h3 ⊢
    have hb : b.toNat ≤ 1 := by cases b <;> decide
    have hp : 2 ^ i ≤ 2 ^ 60 := Nat.pow_le_pow_right (by omega) (by omega)
    have hle : b.toNat * 2 ^ i ≤ 1 * 2 ^ i := Nat.mul_le_mul_right _ hb
    ((try simp (disch := omega) only [need_and, need_dec, need_decf, need_fits, need_ne, need_t, w64_id, tmod_e, tdiv_e, bind_some', Option.map_some, cond_true, cond_false, Int.sub_zero, Int.toNat_natCast]); (try simp only [c_dec, c_eq, c_ne, c_nodec, c_not, if_true, if_false]))
    rw [ishl_nat _ _ (by omega) (by omega), ior_nat _ _ (by omega) (by omega), or_add v _ i hv, show ((i : Int) + 1) = ((i + 1 : Nat) : Int) by omega]
    refine rGet_l0 hs k hk m0 j (i + 1) _ at' bad' (by omega) (by rw [Nat.pow_succ]; omega) (fun l hm hil => ?_) (by rw [mNum_succ]; exact h2)
    subst hm
    have hlen : i < l.length := by omega
    rw [valB_take_succ l i hlen, ← hl l rfl (by omega)]
    have := h3 l[i] (l.drop (i + 1)) (by simp only [mNum]; rw [if_pos (by omega), List.drop_eq_getElem_cons hlen])
    rw [this]
theorem rGet_st {s : Str} {at_ : Int} {bad : Bool} {m : Option (List Bool)} (hs : s.length ≤ 1000000000) (k : Nat) (hk : k ≤ 60) (h : Rs s at_ bad m) : Ret (rGet (k : Int) s at_ bad) (NumPost s k m) := by
  unfold rGet
  rw [fuel_of]
  refine .bind (rGet_l0 hs k hk m k 0 0 at_ bad (by omega) (by simp) (fun l _ _ => by simp [valB]) (by rw [mNum_zero]; exact h)) ?_
  rintro ⟨r, s', at', bad'⟩ hr
  exact .pure hr
theorem sNum_l0 {s : Str} (hs : s.length ≤ 1000000000) (k : Nat) (hk : k ≤ 60) (m0 : Option (List Bool)) : ∀ (j i v : Nat) (at_ : Int) (bad : Bool), i + j = k → v < 2 ^ i → (∀ l, m0 = some l → i ≤ l.length → v = valB (l.take i)) → Rs s at_ bad (mNum i m0) →
    Ret (sNum.l0 (j + 1) ((k : Int), (v : Int), (i : Int), s, at_, bad)) (NumPost s k m0)
  | 0, i, v, at_, bad, hi, hv, hl, h => by
    rw [sNum.l0.succ]; simp only [sNum.l0.step]
    rw [idx_ge (by omega)]
    have : i = k := by omega
    subst this
    exact .pure ⟨rfl, ⟨v, rfl, hv, hl⟩, h⟩
  | j + 1, i, v, at_, bad, hi, hv, hl, h => by
    rw [sNum.l0.succ]; simp only [sNum.l0.step]
    rw [idx_lt (by omega), cond_true]
    refine .bind (sBit_st hs h) ?_
    rintro ⟨r, s', at', bad'⟩ ⟨rfl, b, rfl, h2, h3⟩
    dsimp only at h2 h3 ⊢
    have hb : b.toNat ≤ 1 := by cases b <;> decide
    have hp : 2 ^ i ≤ 2 ^ 60 := Nat.pow_le_pow_right (by omega) (by omega)
    have hle : b.toNat * 2 ^ i ≤ 1 * 2 ^ i := Nat.mul_le_mul_right _ hb
    rw [l1Pow_eq i (by omega)]
    simp only [bind_some']
    rw [← Int.natCast_mul]
    ((try simp (disch := omega) only [need_and, need_dec, need_decf, need_fits, need_ne, need_t, w64_id, tmod_e, tdiv_e, bind_some', Option.map_some, cond_true, cond_false, Int.sub_zero, Int.toNat_natCast]); (try simp only [c_dec, c_eq, c_ne, c_nodec, c_not, if_true, if_false]))
    rw [← Int.natCast_add, show ((i : Int) + 1) = ((i + 1 : Nat) : Int) by omega]
    refine sNum_l0 hs k hk m0 j (i + 1) _ at' bad' (by omega) (by rw [Nat.pow_succ]; omega) (fun l hm hil => ?_) (by rw [mNum_succ]; exact h2)
    subst hm
    have hlen : i < l.length := by omega
    rw [valB_take_succ l i hlen, ← hl l rfl (by omega)]
    have := h3 l[i] (l.drop (i + 1)) (by simp only [mNum]; rw [if_pos (by omega), List.drop_eq_getElem_cons hlen])
    rw [this]
theorem sNum_st {s : Str} {at_ : Int} {bad : Bool} {m : Option (List Bool)} (hs : s.length ≤ 1000000000) (k : Nat) (hk : k ≤ 60) (h : Rs s at_ bad m) : Ret (sNum (k : Int) s at_ bad) (NumPost s k m) := by
  unfold sNum
  rw [fuel_of]
  refine .bind (sNum_l0 hs k hk m k 0 0 at_ bad (by omega) (by simp) (fun l _ _ => by simp [valB]) (by rw [mNum_zero]; exact h)) ?_
  rintro ⟨r, s', at', bad'⟩ hr
  exact .pure hr
def mEven : Option (List Bool) → Option (List Bool)
  | some l => if valB (l.take (l.length % 8)) = 0 then some (l.drop (l.length % 8)) else none
  | none => none
theorem mEven_step (b : Bool) (l : List Bool) (h : (l.length + 1) % 8 ≠ 0) : mEven (some (b :: l)) = if b then none else mEven (some l) := by
  have e : (l.length + 1) % 8 = l.length % 8 + 1 := by omega
  simp only [mEven, List.length_cons, e, List.take_succ_cons, List.drop_succ_cons, valB]
  cases b
  · by_cases h0 : valB (List.take (l.length % 8) l) = 0
    · simp [h0]
    · simp [h0]; omega
  · simp
theorem rEven_l0 {s : Str} (hs : s.length ≤ 1000000000) : ∀ (j : Nat) (at_ : Int) (bad : Bool) (m : Option (List Bool)), Rs s at_ bad m → (8 - at_.toNat % 8) % 8 < j →
    Ret (rEven.l0 j (s, at_, bad)) fun r => r.1 = s ∧ Rs s r.2.1 r.2.2 (mEven m)
  | 0, _, _, _, _, h => absurd h (by omega)
  | j + 1, at_, bad, m, h, hj => by
    obtain ⟨n, rfl, hn⟩ := h.at
    rw [rEven.l0.succ]; simp only [rEven.l0.step]
    have hmod : ((n : Int)).tmod 8 = ((n % 8 : Nat) : Int) := by rw [tmod_e (by omega)]; omega
    rw [hmod]
    ((try simp (disch := omega) only [need_and, need_dec, need_decf, need_fits, need_ne, need_t, w64_id, tmod_e, tdiv_e, bind_some', Option.map_some, cond_true, cond_false, Int.sub_zero, Int.toNat_natCast]); (try simp only [c_dec, c_eq, c_ne, c_nodec, c_not, if_true, if_false]))
    refine .ite (fun h0 => .pure ⟨rfl, ?_⟩) fun h0 => ?_
    · cases m with
      | none => exact h
      | some l =>
        have hl := h.len
        have : l.length % 8 = 0 := by omega
        simp only [mEven, this, List.take_zero, List.drop_zero, valB, if_true]; exact h
    · have hlt : n < 8 * s.length := by omega
      have hst := rBit_st hs h
      rw [rBit_lt s n bad hs hlt] at hst ⊢
      obtain ⟨r0, hr0, hst⟩ := hst
      cases hr0
      obtain ⟨_, b, hb, h2, h3⟩ := hst
      dsimp only at hb h2 h3
      have hbb : (s.getD (n / 8) 0).toNat.testBit (n % 8) = b := by
        generalize (s.getD (n / 8) 0).toNat.testBit (n % 8) = c at hb
        revert hb; cases b <;> cases c <;> simp
      rw [hbb]
      simp only [bind_some']
      have fin : ∀ bad2, Rs s ((n + 1 : Nat) : Int) bad2 (match m with
          | some (c :: l) => if b then none else some l
          | _ => none) → Ret (rEven.l0 j (s, ((n + 1 : Nat) : Int), bad2)) fun r => r.1 = s ∧ Rs s r.2.1 r.2.2 (mEven m) := fun bad2 h4 => by
        refine (rEven_l0 hs j _ bad2 _ h4 (by omega)).mono fun r ⟨e1, e2⟩ => ⟨e1, ?_⟩
        cases m with
        | none => exact e2
        | some l =>
          cases l with
          | nil => have := h.len; simp at this; omega
          | cons c l =>
            have hl := h.len
            rw [mEven_step c l (by simp at hl; omega), ← h3 c l rfl]
            cases b <;> exact e2
      ((try simp (disch := omega) only [need_and, need_dec, need_decf, need_fits, need_ne, need_t, w64_id, tmod_e, tdiv_e, bind_some', Option.map_some, cond_true, cond_false, Int.sub_zero, Int.toNat_natCast]); (try simp only [c_dec, c_eq, c_ne, c_nodec, c_not, if_true, if_false]))
      refine .ite (fun hb0 => fin bad ?_) fun hb0 => fin true ?_
      · have : b = false := by cases b <;> simp at hb0 ⊢
        subst this
        cases m with
        | none => exact h2
        | some l => cases l <;> exact h2
      · have : b = true := by cases b <;> simp at hb0 ⊢
        subst this
        cases m with
        | none => exact h2.fail
        | some l => cases l <;> exact h2.fail
theorem rEven_st {s : Str} {at_ : Int} {bad : Bool} {m : Option (List Bool)} (hs : s.length ≤ 1000000000) (h : Rs s at_ bad m) : Ret (rEven s at_ bad) fun r => r.1 = s ∧ Rs s r.2.1 r.2.2 (mEven m) := by
  unfold rEven
  refine .bind (rEven_l0 hs 9 at_ bad m h (by omega)) ?_
  rintro ⟨s', a, b⟩ hr
  exact .pure hr
theorem sWhole_l0 {s : Str} (hs : s.length ≤ 1000000000) : ∀ (j v : Nat) (at_ : Int) (bad : Bool) (m : Option (List Bool)), Rs s at_ bad m → (8 - at_.toNat % 8) % 8 < j → v ≤ 100 - 8 * ((8 - at_.toNat % 8) % 8) →
    Ret (sWhole.l0 j ((v : Int), s, at_, bad)) fun r => r.2.1 = s ∧ ∃ q : Nat, r.1 = (q : Int) ∧ v ≤ q ∧ ((v = q → Rs s r.2.2.1 r.2.2.2 (mEven m)) ∧ (v ≠ q → mEven m = none ∧ ∃ m', Rs s r.2.2.1 r.2.2.2 m'))
  | 0, _, _, _, _, _, h, _ => absurd h (by omega)
  | j + 1, v, at_, bad, m, h, hj, hv => by
    obtain ⟨n, rfl, hn⟩ := h.at
    rw [sWhole.l0.succ]; simp only [sWhole.l0.step]
    have hmod : ((n : Int)).tmod 8 = ((n % 8 : Nat) : Int) := by rw [tmod_e (by omega)]; omega
    rw [hmod]
    ((try simp (disch := omega) only [need_and, need_dec, need_decf, need_fits, need_ne, need_t, w64_id, tmod_e, tdiv_e, bind_some', Option.map_some, cond_true, cond_false, Int.sub_zero, Int.toNat_natCast]); (try simp only [c_dec, c_eq, c_ne, c_nodec, c_not, if_true, if_false]))
    refine .ite (fun h0 => .pure ⟨rfl, v, rfl, Nat.le_refl _, fun _ => ?_, fun h => absurd rfl h⟩) fun h0 => ?_
    · cases m with
      | none => exact h
      | some l =>
        have hl := h.len
        have : l.length % 8 = 0 := by omega
        simp only [mEven, this, List.take_zero, List.drop_zero, valB, if_true]; exact h
    · have hlt : n < 8 * s.length := by omega
      have hst := rBit_st hs h
      rw [sBit_eq s n bad hs hn]
      rw [rBit_lt s n bad hs hlt] at hst ⊢
      obtain ⟨r0, hr0, hst⟩ := hst
      cases hr0
      obtain ⟨_, b, hb, h2, h3⟩ := hst
      dsimp only at hb h2 h3
      have hbb : (s.getD (n / 8) 0).toNat.testBit (n % 8) = b := by
        generalize (s.getD (n / 8) 0).toNat.testBit (n % 8) = c at hb
        revert hb; cases b <;> cases c <;> simp
      rw [hbb]
      simp only [bind_some']
      have hb1 : b.toNat ≤ 1 := by cases b <;> decide
      ((try simp (disch := omega) only [need_and, need_dec, need_decf, need_fits, need_ne, need_t, w64_id, tmod_e, tdiv_e, bind_some', Option.map_some, cond_true, cond_false, Int.sub_zero, Int.toNat_natCast]); (try simp only [c_dec, c_eq, c_ne, c_nodec, c_not, if_true, if_false]))
      rw [← Int.natCast_add]
      refine (sWhole_l0 hs j (v + b.toNat) _ bad _ h2 (by omega) (by omega)).mono fun r ⟨e1, q, e2, e3, e4, e5⟩ => ⟨e1, q, e2, by omega, fun hq => ?_, fun hq => ?_⟩
      · have : b = false := by cases b <;> simp at e3 ⊢ <;> omega
        subst this
        have e4 := e4 (by simp; omega)
        cases m with
        | none => exact e4
        | some l =>
          cases l with
          | nil => have := h.len; simp at this; omega
          | cons c l =>
            have hl := h.len
            rw [mEven_step c l (by simp at hl; omega), ← h3 c l rfl]
            exact e4
      · by_cases hq2 : v + b.toNat = q
        · refine ⟨?_, _, e4 hq2⟩
          have : b = true := by cases b <;> simp at hq2 ⊢; omega
          subst this
          cases m with
          | none => rfl
          | some l =>
            cases l with
            | nil => have := h.len; simp at this; omega
            | cons c l =>
              have hl := h.len
              rw [mEven_step c l (by simp at hl; omega), ← h3 c l rfl]; rfl
        · obtain ⟨f1, f2⟩ := e5 hq2
          refine ⟨?_, f2⟩
          cases m with
          | none => rfl
          | some l =>
            cases l with
            | nil => have := h.len; simp at this; omega
            | cons c l =>
              have hl := h.len
              rw [mEven_step c l (by simp at hl; omega)]
              cases c
              · exact f1
              · rfl
theorem sWhole_st {s : Str} {at_ : Int} {bad : Bool} {m : Option (List Bool)} (hs : s.length ≤ 1000000000) (h : Rs s at_ bad m) : Ret (sWhole s at_ bad) fun r => r.2.1 = s ∧ (r.1 = true → Rs s r.2.2.1 r.2.2.2 (mEven m)) ∧ (r.1 = false → mEven m = none ∧ ∃ m', Rs s r.2.2.1 r.2.2.2 m') := by
  unfold sWhole
  refine .bind (sWhole_l0 hs 9 0 at_ bad m h (by omega) (by omega)) ?_
  rintro ⟨v, s', a, b⟩ ⟨e1, q, e2, e3, e4, e5⟩
  dsimp only at e1 e2 e3 e4 e5 ⊢
  subst e2
  refine .pure ⟨e1, fun hq => e4 ?_, fun hq => e5 ?_⟩
  · dsimp only at hq; rw [beq_iff_eq] at hq; omega
  · dsimp only at hq; rw [beq_eq_false_iff_ne] at hq; omega
end Ev
end
section
set_option linter.unusedVariables false
set_option linter.unusedSimpArgs false
namespace Ev
open Go
theorem wrap_u32 (n : Int) : IntKind.wrap .u32 n = n % 4294967296 := by simp [IntKind.wrap, IntKind.bits, IntKind.signed]
theorem ixor_u32 (x y : Nat) (hx : x < 4294967296) (hy : y < 4294967296) : ixor .u32 (x : Int) (y : Int) = ((x ^^^ y : Nat) : Int) := by
  have hz : x ^^^ y < 2 ^ 32 := Nat.xor_lt_two_pow (by omega) (by omega)
  unfold ixor
  have e : (BitVec.ofInt IntKind.u32.bits (x : Int) ^^^ BitVec.ofInt IntKind.u32.bits (y : Int)).toNat = x ^^^ y := by
    simp only [BitVec.ofInt_natCast, BitVec.toNat_xor, BitVec.toNat_ofNat, show IntKind.u32.bits = 32 from rfl]
    rw [Nat.mod_eq_of_lt (by omega), Nat.mod_eq_of_lt (by omega)]
  rw [e, wrap_u32]; omega
theorem iand_u32_one (x : Nat) (hx : x < 4294967296) : iand .u32 (x : Int) 1 = ((x % 2 : Nat) : Int) := by
  have hz : x &&& 1 < 2 ^ 32 := Nat.and_lt_two_pow _ (by omega)
  unfold iand
  have e : (BitVec.ofInt IntKind.u32.bits (x : Int) &&& BitVec.ofInt IntKind.u32.bits ((1 : Nat) : Int)).toNat = x &&& 1 := by
    simp only [BitVec.ofInt_natCast, BitVec.toNat_and, BitVec.toNat_ofNat, show IntKind.u32.bits = 32 from rfl]
    rw [Nat.mod_eq_of_lt (by omega), Nat.mod_eq_of_lt (by omega)]
  rw [show (1 : Int) = ((1 : Nat) : Int) from rfl, e, wrap_u32, Nat.and_one_is_mod]; omega
theorem ishr_u32_one (x : Nat) : ishr .u32 (x : Int) 1 = ((x / 2 : Nat) : Int) := by
  unfold ishr
  rw [show min (1 : Int).toNat IntKind.u32.bits = 1 from rfl, show ((2 : Int) ^ 1) = 2 by rfl, Int.fdiv_eq_ediv_of_nonneg _ (by omega)]
  omega
def crcStep (c : Nat) : Nat := if c % 2 = 1 then c / 2 ^^^ 3988292384 else c / 2
def crcSteps : Nat → Nat → Nat
  | 0, c => c
  | n + 1, c => crcSteps n (crcStep c)
def crcByte (c : Nat) (b : UInt8) : Nat := crcSteps 8 (c ^^^ b.toNat)
def crcM (text : Str) : Nat := text.foldl crcByte 4294967295 ^^^ 4294967295
theorem crcStep_lt {c : Nat} (h : c < 4294967296) : crcStep c < 4294967296 := by
  unfold crcStep
  split
  · exact Nat.xor_lt_two_pow (n := 32) (by omega) (by omega)
  · omega
theorem crcSteps_lt : ∀ {n c : Nat}, c < 4294967296 → crcSteps n c < 4294967296
  | 0, c, h => h
  | n + 1, c, h => crcSteps_lt (n := n) (crcStep_lt h)
theorem crcByte_lt {c : Nat} {b : UInt8} (h : c < 4294967296) : crcByte c b < 4294967296 :=
  crcSteps_lt (Nat.xor_lt_two_pow (n := 32) (by omega) (by have := b.toNat_lt; omega))
theorem crcFold_lt : ∀ (text : Str) {c : Nat}, c < 4294967296 → text.foldl crcByte c < 4294967296
  | [], _, h => h
  | b :: t, _, h => crcFold_lt t (crcByte_lt h)
theorem crcM_lt (text : Str) : crcM text < 4294967296 := Nat.xor_lt_two_pow (n := 32) (crcFold_lt text (by omega)) (by omega)
theorem crcUpdate_l0 (text : Str) (k : Int) : ∀ (j i c : Nat), i + j = 8 → c < 4294967296 → crcUpdate.l0 (j + 1) ((c : Int), text, k, (i : Int)) = some (((crcSteps j c : Nat) : Int), text, k)
  | 0, i, c, hi, hc => by
    rw [crcUpdate.l0.succ]; simp only [crcUpdate.l0.step]
    ((try simp (disch := omega) only [need_and, need_dec, need_decf, need_fits, need_ne, need_t, w64_id, tmod_e, tdiv_e, bind_some', Option.map_some, cond_true, cond_false, Int.sub_zero, Int.toNat_natCast]); (try simp only [c_dec, c_eq, c_ne, c_nodec, c_not, if_true, if_false]))
    rw [if_neg (by omega)]; rfl
  | j + 1, i, c, hi, hc => by
    have ih := crcUpdate_l0 text k j (i + 1) (crcStep c) (by omega) (crcStep_lt hc)
    rw [crcUpdate.l0.succ]; simp only [crcUpdate.l0.step]
    ((try simp (disch := omega) only [need_and, need_dec, need_decf, need_fits, need_ne, need_t, w64_id, tmod_e, tdiv_e, bind_some', Option.map_some, cond_true, cond_false, Int.sub_zero, Int.toNat_natCast]); (try simp only [c_dec, c_eq, c_ne, c_nodec, c_not, if_true, if_false]))
    rw [if_pos (by omega), ishr_u32_one, iand_u32_one c hc]
    have e : ixor .u32 ((c / 2 : Nat) : Int) (IntKind.wrap .u32 (3988292384 * ((c % 2 : Nat) : Int))) = ((crcStep c : Nat) : Int) := by
      rw [wrap_u32]
      unfold crcStep
      split
      · rename_i h1
        rw [h1, show ((3988292384 : Int) * ((1 : Nat) : Int) % 4294967296) = ((3988292384 : Nat) : Int) by rfl, ixor_u32 _ _ (by omega) (by omega)]
      · rename_i h1
        have : c % 2 = 0 := by omega
        rw [this, show ((3988292384 : Int) * ((0 : Nat) : Int) % 4294967296) = ((0 : Nat) : Int) by rfl, ixor_u32 _ _ (by omega) (by omega), Nat.xor_zero]
    rw [e, show ((i : Int) + 1) = ((i + 1 : Nat) : Int) by omega, ih]; rfl
theorem crcUpdate_l1 (text : Str) (hs : text.length ≤ 1000000000) : ∀ (j i c : Nat), i + j = text.length → c < 4294967296 → crcUpdate.l1 (j + 1) ((c : Int), text, (i : Int)) = some (((text.drop i).foldl crcByte c : Nat) : Int)
  | 0, i, c, hi, hc => by
    rw [crcUpdate.l1.succ]; simp only [crcUpdate.l1.step]
    ((try simp (disch := omega) only [need_and, need_dec, need_decf, need_fits, need_ne, need_t, w64_id, tmod_e, tdiv_e, bind_some', Option.map_some, cond_true, cond_false, Int.sub_zero, Int.toNat_natCast]); (try simp only [c_dec, c_eq, c_ne, c_nodec, c_not, if_true, if_false]))
    rw [if_neg (by omega), List.drop_eq_nil_of_le (by omega)]; rfl
  | j + 1, i, c, hi, hc => by
    have hlt : i < text.length := by omega
    rw [crcUpdate.l1.succ]; simp only [crcUpdate.l1.step]
    ((try simp (disch := omega) only [need_and, need_dec, need_decf, need_fits, need_ne, need_t, w64_id, tmod_e, tdiv_e, bind_some', Option.map_some, cond_true, cond_false, Int.sub_zero, Int.toNat_natCast]); (try simp only [c_dec, c_eq, c_ne, c_nodec, c_not, if_true, if_false]))
    rw [if_pos (by omega)]
    have hb : (text.getD i 0).toNat < 256 := (text.getD i 0).toNat_lt
    rw [wrap_u32, show (((text.getD i 0).toNat : Int) % 4294967296) = (((text.getD i 0).toNat : Nat) : Int) by omega, ixor_u32 _ _ hc (by omega)]
    have h0 := crcUpdate_l0 text (i : Int) 8 0 (c ^^^ (text.getD i 0).toNat) (by omega) (Nat.xor_lt_two_pow (n := 32) (by omega) (by omega))
    rw [show ((0 : Nat) : Int) = 0 from rfl] at h0
    rw [show ((8 : Int)).toNat + 1 = 8 + 1 from rfl, h0]
    simp only [bind_some']
    ((try simp (disch := omega) only [need_and, need_dec, need_decf, need_fits, need_ne, need_t, w64_id, tmod_e, tdiv_e, bind_some', Option.map_some, cond_true, cond_false, Int.sub_zero, Int.toNat_natCast]); (try simp only [c_dec, c_eq, c_ne, c_nodec, c_not, if_true, if_false]))
    rw [show ((i : Int) + 1) = ((i + 1 : Nat) : Int) by omega]
    have := crcUpdate_l1 text hs j (i + 1) (crcByte c (text.getD i 0)) (by omega) (crcByte_lt hc)
    unfold crcByte at this
    rw [this, List.drop_eq_getElem_cons hlt, getD_in hlt]; rfl
theorem crc_eq (text : Str) (hs : text.length ≤ 1000000000) : crc text = some ((crcM text : Nat) : Int) := by
  unfold crc crcUpdate
  rw [fuel_of]
  have e : ixor .u32 (IntKind.max .u32) 0 = ((4294967295 : Nat) : Int) := ixor_u32 4294967295 0 (by omega) (by omega)
  have h := crcUpdate_l1 text hs text.length 0 4294967295 (by omega) (by omega)
  rw [show ((0 : Nat) : Int) = 0 from rfl] at h
  rw [e, h]
  simp only [bind_some', List.drop_zero]
  have hl := crcFold_lt text (c := 4294967295) (by omega)
  have e2 : ixor .u32 (IntKind.max .u32) ((text.foldl crcByte 4294967295 : Nat) : Int) = ((crcM text : Nat) : Int) := by
    rw [show IntKind.max .u32 = ((4294967295 : Nat) : Int) from rfl, ixor_u32 _ _ (by omega) hl, Nat.xor_comm]; rfl
  rw [e2]
  have := crcM_lt text
  ((try simp (disch := omega) only [need_and, need_dec, need_decf, need_fits, need_ne, need_t, w64_id, tmod_e, tdiv_e, bind_some', Option.map_some, cond_true, cond_false, Int.sub_zero, Int.toNat_natCast]); (try simp only [c_dec, c_eq, c_ne, c_nodec, c_not, if_true, if_false]))
theorem l2Step_l0 : ∀ (j i c : Nat), i + j = 8 → c < 4294967296 → l2Step.l0 (j + 1) ((c : Int), (i : Int)) = some ((crcSteps j c : Nat) : Int)
  | 0, i, c, hi, hc => by
    rw [l2Step.l0.succ]; simp only [l2Step.l0.step]
    ((try simp (disch := omega) only [need_and, need_dec, need_decf, need_fits, need_ne, need_t, w64_id, tmod_e, tdiv_e, bind_some', Option.map_some, cond_true, cond_false, Int.sub_zero, Int.toNat_natCast]); (try simp only [c_dec, c_eq, c_ne, c_nodec, c_not, if_true, if_false]))
    rw [if_neg (by omega)]; rfl
  | j + 1, i, c, hi, hc => by
    have ih := l2Step_l0 j (i + 1) (crcStep c) (by omega) (crcStep_lt hc)
    rw [l2Step.l0.succ]; simp only [l2Step.l0.step]
    ((try simp (disch := omega) only [need_and, need_dec, need_decf, need_fits, need_ne, need_t, w64_id, tmod_e, tdiv_e, bind_some', Option.map_some, cond_true, cond_false, Int.sub_zero, Int.toNat_natCast]); (try simp only [c_dec, c_eq, c_ne, c_nodec, c_not, if_true, if_false]))
    rw [if_pos (by omega), show ((i : Int) + 1) = ((i + 1 : Nat) : Int) by omega, wrap_u32, show ((c : Int) / 2 % 4294967296) = ((c / 2 : Nat) : Int) by omega]
    unfold crcSteps
    rw [← ih]
    unfold crcStep
    by_cases h : c % 2 = 1
    · have := ixor_u32 (c / 2) 3988292384 (by omega) (by omega)
      rw [show ((3988292384 : Nat) : Int) = 3988292384 from rfl] at this
      rw [if_pos (by omega), this, if_pos h]
    · rw [if_neg (by omega), if_neg h]
theorem l2Step_eq (c : Nat) (b : UInt8) (hc : c < 4294967296) : l2Step (c : Int) ((b.toNat : Nat) : Int) = some ((crcByte c b : Nat) : Int) := by
  unfold l2Step
  have hb : b.toNat < 256 := b.toNat_lt
  have h0 := l2Step_l0 8 0 (c ^^^ b.toNat) (by omega) (Nat.xor_lt_two_pow (n := 32) (by omega) (by omega))
  rw [wrap_u32, show (((b.toNat : Nat) : Int) % 4294967296) = ((b.toNat : Nat) : Int) by omega, ixor_u32 _ _ hc (by omega)]
  rw [show ((0 : Nat) : Int) = 0 from rfl] at h0
  rw [show ((8 : Int) - 0).toNat + 1 = 8 + 1 from rfl, h0]; rfl
theorem l2More_l0 (text : Str) (hs : text.length ≤ 1000000000) : ∀ (j i c : Nat), i + j = text.length → c < 4294967296 → l2More.l0 (j + 1) (text, (c : Int), (i : Int)) = some (((text.drop i).foldl crcByte c : Nat) : Int)
  | 0, i, c, hi, hc => by
    rw [l2More.l0.succ]; simp only [l2More.l0.step]
    ((try simp (disch := omega) only [need_and, need_dec, need_decf, need_fits, need_ne, need_t, w64_id, tmod_e, tdiv_e, bind_some', Option.map_some, cond_true, cond_false, Int.sub_zero, Int.toNat_natCast]); (try simp only [c_dec, c_eq, c_ne, c_nodec, c_not, if_true, if_false]))
    rw [if_neg (by omega), List.drop_eq_nil_of_le (by omega)]; rfl
  | j + 1, i, c, hi, hc => by
    have hlt : i < text.length := by omega
    rw [l2More.l0.succ]; simp only [l2More.l0.step]
    ((try simp (disch := omega) only [need_and, need_dec, need_decf, need_fits, need_ne, need_t, w64_id, tmod_e, tdiv_e, bind_some', Option.map_some, cond_true, cond_false, Int.sub_zero, Int.toNat_natCast]); (try simp only [c_dec, c_eq, c_ne, c_nodec, c_not, if_true, if_false]))
    rw [if_pos (by omega), l2Step_eq c _ hc]
    ((try simp (disch := omega) only [need_and, need_dec, need_decf, need_fits, need_ne, need_t, w64_id, tmod_e, tdiv_e, bind_some', Option.map_some, cond_true, cond_false, Int.sub_zero, Int.toNat_natCast]); (try simp only [c_dec, c_eq, c_ne, c_nodec, c_not, if_true, if_false]))
    rw [show ((i : Int) + 1) = ((i + 1 : Nat) : Int) by omega, l2More_l0 text hs j (i + 1) _ (by omega) (crcByte_lt hc), List.drop_eq_getElem_cons hlt, getD_in hlt]; rfl
theorem specCrc_eq (text : Str) (hs : text.length ≤ 1000000000) : specCrc text = some ((crcM text : Nat) : Int) := by
  unfold specCrc l2More
  rw [fuel_of]
  have e : ixor .u32 0 4294967295 = ((4294967295 : Nat) : Int) := ixor_u32 0 4294967295 (by omega) (by omega)
  have h := l2More_l0 text hs text.length 0 4294967295 (by omega) (by omega)
  rw [show ((0 : Nat) : Int) = 0 from rfl] at h
  rw [e, h]
  simp only [bind_some', List.drop_zero]
  have hl := crcFold_lt text (c := 4294967295) (by omega)
  have e2 : ixor .u32 ((text.foldl crcByte 4294967295 : Nat) : Int) 4294967295 = ((crcM text : Nat) : Int) := ixor_u32 _ 4294967295 hl (by omega)
  rw [e2]
  have := crcM_lt text
  ((try simp (disch := omega) only [need_and, need_dec, need_decf, need_fits, need_ne, need_t, w64_id, tmod_e, tdiv_e, bind_some', Option.map_some, cond_true, cond_false, Int.sub_zero, Int.toNat_natCast]); (try simp only [c_dec, c_eq, c_ne, c_nodec, c_not, if_true, if_false]))
end Ev
end
section
set_option linter.unusedVariables false
set_option linter.unusedSimpArgs false
namespace Ev
open Go
def zs (ns : List Nat) : List Int := ns.map fun (n : Nat) => (n : Int)
theorem zs_length (ns : List Nat) : (zs ns).length = ns.length := by simp [zs]
theorem zs_getD (ns : List Nat) (i : Nat) : (zs ns).getD i 0 = ((ns.getD i 0 : Nat) : Int) := by
  simp only [zs, List.getD_eq_getElem?_getD, List.getElem?_map]
  cases ns[i]? <;> rfl
theorem zs_append (a b : List Nat) : zs (a ++ b) = zs a ++ zs b := by simp [zs]
theorem zs_set (a : List Nat) (i n : Nat) : (zs a).set i (n : Int) = zs (a.set i n) := by simp [zs, List.map_set]
theorem zs_replicate (k n : Nat) : List.replicate k (n : Int) = zs (List.replicate k n) := by simp [zs]
def kraft : List Nat → Nat
  | [] => 0
  | n :: r => (if 0 < n then 2 ^ (15 - n) else 0) + kraft r
def used : List Nat → Nat
  | [] => 0
  | n :: r => (if 0 < n then 1 else 0) + used r
def lensM (ns : List Nat) : Bool := decide (ns.length ≤ 300) && (ns.all (fun n => decide (n ≤ 15)) && (decide (kraft ns = 32768) || decide (used ns = 1 ∧ kraft ns = 16384)))
def lastU (a : Nat) : List Nat → Nat
  | [] => a
  | n :: r => lastU (if 0 < n then n else a) r
theorem lensOk_l0 (ns : List Nat) (hn : ns.length ≤ 300) : ∀ (j i sum many last : Nat), i + j = ns.length → sum ≤ 32768 * i → many ≤ i →
    lensOk.l0 (j + 1) ((sum : Int), (many : Int), (last : Int), zs ns, (ns.length : Int), (i : Int)) =
      some (if (ns.drop i).all (fun n => decide (n ≤ 15)) then .inl (((sum + kraft (ns.drop i) : Nat) : Int), ((many + used (ns.drop i) : Nat) : Int), ((lastU last (ns.drop i) : Nat) : Int)) else .inr false)
  | 0, i, sum, many, last, hi, h1, h2 => by
    rw [lensOk.l0.succ]; simp only [lensOk.l0.step]
    rw [idx_ge (by omega), List.drop_eq_nil_of_le (by omega)]; rfl
  | j + 1, i, sum, many, last, hi, h1, h2 => by
    have hlt : i < ns.length := by omega
    have hd : ns.drop i = ns[i] :: ns.drop (i + 1) := List.drop_eq_getElem_cons hlt
    have hg : ns.getD i 0 = ns[i] := getD_in hlt
    rw [lensOk.l0.succ]; simp only [lensOk.l0.step]
    rw [idx_lt hlt, cond_true, need_true _ (by rw [zs_length]; exact idx_in hlt), Int.toNat_natCast, zs_getD, hg, within_eq', hd, List.all_cons]
    simp only [bind_some']
    by_cases h15 : ns[i] ≤ 15
    · have e1 : decide ((0 : Int) ≤ (ns[i] : Int) ∧ (ns[i] : Int) ≤ 15) = true := by simp; omega
      rw [e1, decide_eq_true h15, Bool.true_and]
      simp only [Bool.not_true, cond_false, c_dec]
      by_cases h0 : 0 < ns[i]
      · have hp : 2 ^ (15 - ns[i]) ≤ 2 ^ 15 := Nat.pow_le_pow_right (by omega) (by omega)
        have hp0 : 0 < 2 ^ (15 - ns[i]) := Nat.two_pow_pos _
        have hsh := ishl_nat 1 (15 - ns[i]) (by omega) (by omega)
        rw [Nat.one_mul, show ((1 : Nat) : Int) = 1 from rfl, show ((15 - ns[i] : Nat) : Int) = 15 - (ns[i] : Int) by omega] at hsh
        rw [if_pos (by omega)]
        ((try simp (disch := omega) only [need_and, need_dec, need_decf, need_fits, need_ne, need_t, w64_id, tmod_e, tdiv_e, bind_some', Option.map_some, cond_true, cond_false, Int.sub_zero, Int.toNat_natCast, hsh]); (try simp only [c_dec, c_eq, c_ne, c_nodec, c_not, if_true, if_false, hsh]))
        rw [show (sum : Int) + ((2 ^ (15 - ns[i]) : Nat) : Int) = ((sum + 2 ^ (15 - ns[i]) : Nat) : Int) by omega, show (many : Int) + 1 = ((many + 1 : Nat) : Int) by omega, show (i : Int) + 1 = ((i + 1 : Nat) : Int) by omega,
          lensOk_l0 ns hn j (i + 1) _ _ _ (by omega) (by omega) (by omega)]
        simp only [kraft, used, lastU, if_pos h0, Nat.add_assoc]
      · rw [if_neg (by omega)]
        ((try simp (disch := omega) only [need_and, need_dec, need_decf, need_fits, need_ne, need_t, w64_id, tmod_e, tdiv_e, bind_some', Option.map_some, cond_true, cond_false, Int.sub_zero, Int.toNat_natCast]); (try simp only [c_dec, c_eq, c_ne, c_nodec, c_not, if_true, if_false]))
        rw [show (i : Int) + 1 = ((i + 1 : Nat) : Int) by omega, lensOk_l0 ns hn j (i + 1) _ _ _ (by omega) (by omega) (by omega)]
        simp only [kraft, used, lastU, if_neg h0, Nat.zero_add]
    · have e1 : decide ((0 : Int) ≤ (ns[i] : Int) ∧ (ns[i] : Int) ≤ 15) = false := by simp; omega
      rw [e1, decide_eq_false h15]
      rfl
theorem lastU_one : ∀ {ns : List Nat} {a : Nat}, used ns = 1 → kraft ns = 2 ^ (15 - lastU a ns) ∧ 0 < lastU a ns
  | [], a, h => by simp [used] at h
  | n :: r, a, h => by
    simp only [used] at h
    have z : ∀ r (a : Nat), used r = 0 → kraft r = 0 ∧ lastU a r = a := fun r => by
      induction r with
      | nil => intro _ _; exact ⟨rfl, rfl⟩
      | cons m r ih =>
        intro a h
        simp only [used] at h
        by_cases hm : 0 < m
        · rw [if_pos hm] at h; omega
        · rw [if_neg hm] at h; simp only [kraft, lastU]; rw [if_neg hm, if_neg hm, (ih a (by omega)).1]; exact ⟨rfl, (ih a (by omega)).2⟩
    by_cases hn : 0 < n
    · rw [if_pos hn] at h
      have h0 : used r = 0 := by omega
      simp only [kraft, lastU, if_pos hn, (z r n h0).1, (z r n h0).2]
      exact ⟨rfl, hn⟩
    · rw [if_neg hn] at h
      have := lastU_one (ns := r) (a := a) (by omega)
      simp only [kraft, lastU, if_neg hn, Nat.zero_add]
      exact this
theorem lensOk_eq (ns : List Nat) : lensOk (zs ns) = some (lensM ns) := by
  unfold lensOk lensM
  rw [zs_length]
  ((try simp (disch := omega) only [need_and, need_dec, need_decf, need_fits, need_ne, need_t, w64_id, tmod_e, tdiv_e, bind_some', Option.map_some, cond_true, cond_false, Int.sub_zero, Int.toNat_natCast]); (try simp only [c_dec, c_eq, c_ne, c_nodec, c_not, if_true, if_false]))
  by_cases hn : ns.length ≤ 300
  · rw [if_neg (by omega)]
    have h := lensOk_l0 ns hn ns.length 0 0 0 0 (by omega) (by omega) (by omega)
    rw [show ((0 : Nat) : Int) = 0 from rfl, List.drop_zero] at h
    rw [h, decide_eq_true hn]
    cases hall : ns.all (fun n => decide (n ≤ 15)) with
    | false => rfl
    | true =>
      simp only [if_true, bind_some', Bool.true_and, Nat.zero_add, c_eq]
      by_cases hk : kraft ns = 32768
      · rw [if_pos (by omega), decide_eq_true hk]; rfl
      · rw [if_neg (by omega), decide_eq_false hk]
        by_cases hu : used ns = 1
        · rw [if_pos (by omega)]
          obtain ⟨e1, e2⟩ := lastU_one (a := 0) hu
          simp only [bind_some', Bool.false_or]
          have hl15 : lastU 0 ns ≤ 15 ∨ 15 < lastU 0 ns := by omega
          have : ((((lastU 0 ns : Nat) : Int)) == 1) = decide (used ns = 1 ∧ kraft ns = 16384) := by
            rw [Bool.eq_iff_iff, beq_iff_eq, decide_eq_true_eq]
            constructor
            · intro h1
              have h1 : lastU 0 ns = 1 := by omega
              exact ⟨hu, by rw [e1, h1]⟩
            · rintro ⟨_, h2⟩
              rw [h2] at e1
              have hlt : lastU 0 ns < 15 := by
                rcases Nat.lt_or_ge (lastU 0 ns) 15 with q | q
                · exact q
                · rw [show 15 - lastU 0 ns = 0 by omega] at e1; simp at e1
              have : (2 : Nat) ^ 14 = 2 ^ (15 - lastU 0 ns) := by rw [← e1]
              have hcases : lastU 0 ns = 1 ∨ 2 ≤ lastU 0 ns := by omega
              rcases hcases with q | q
              · omega
              · have : 2 ^ (15 - lastU 0 ns) < 2 ^ 14 := Nat.pow_lt_pow_right (by omega) (by omega)
                omega
          rw [this]
        · rw [if_neg (by omega)]
          have : decide (used ns = 1 ∧ kraft ns = 16384) = false := by simp [hu]
          rw [this]; rfl
  · rw [if_pos (by omega), decide_eq_false hn]; rfl
theorem idx_in' {i : Nat} : (decide ((0 : Int) ≤ (i : Int)) && true) = true := by simp
theorem l3Used_l0 (ns : List Nat) (hn : ns.length ≤ 1000000) : ∀ (j i many : Nat), i + j = ns.length → many ≤ i → l3Used.l0 (j + 1) (zs ns, (many : Int), (i : Int)) = some ((many + used (ns.drop i) : Nat) : Int)
  | 0, i, many, hi, h2 => by
    rw [l3Used.l0.succ]; simp only [l3Used.l0.step, zs_length]
    rw [idx_ge (by omega), List.drop_eq_nil_of_le (by omega)]; rfl
  | j + 1, i, many, hi, h2 => by
    have hlt : i < ns.length := by omega
    have hd : ns.drop i = ns[i] :: ns.drop (i + 1) := List.drop_eq_getElem_cons hlt
    have hg : ns.getD i 0 = ns[i] := getD_in hlt
    rw [l3Used.l0.succ]; simp only [l3Used.l0.step, zs_length]
    rw [idx_lt hlt, cond_true, need_true _ idx_in', Int.toNat_natCast, zs_getD, hg, hd]
    ((try simp (disch := omega) only [need_and, need_dec, need_decf, need_fits, need_ne, need_t, w64_id, tmod_e, tdiv_e, bind_some', Option.map_some, cond_true, cond_false, Int.sub_zero, Int.toNat_natCast]); (try simp only [c_dec, c_eq, c_ne, c_nodec, c_not, if_true, if_false]))
    by_cases h0 : 0 < ns[i]
    · rw [if_pos (by omega), show (many : Int) + 1 = ((many + 1 : Nat) : Int) by omega, show (i : Int) + 1 = ((i + 1 : Nat) : Int) by omega, l3Used_l0 ns hn j (i + 1) _ (by omega) (by omega)]
      simp only [used, if_pos h0, Nat.add_assoc]
    · rw [if_neg (by omega), show (i : Int) + 1 = ((i + 1 : Nat) : Int) by omega, l3Used_l0 ns hn j (i + 1) _ (by omega) (by omega)]
      simp only [used, if_neg h0, Nat.zero_add]
theorem l3Used_eq (ns : List Nat) (hn : ns.length ≤ 1000000) : l3Used (zs ns) = some ((used ns : Nat) : Int) := by
  unfold l3Used
  have h := l3Used_l0 ns hn ns.length 0 0 (by omega) (by omega)
  rw [show ((0 : Nat) : Int) = 0 from rfl, List.drop_zero, Nat.zero_add] at h
  rw [zs_length, fuel_of, h]; rfl
theorem specLensOk_l0 (ns : List Nat) (hn : ns.length ≤ 1000000) : ∀ (j i sum : Nat), i + j = ns.length → sum ≤ 32768 * i →
    specLensOk.l0 (j + 1) (zs ns, (sum : Int), (i : Int)) = some (if (ns.drop i).all (fun n => decide (n ≤ 15)) then .inl (zs ns, ((sum + kraft (ns.drop i) : Nat) : Int)) else .inr false)
  | 0, i, sum, hi, h1 => by
    rw [specLensOk.l0.succ]; simp only [specLensOk.l0.step, zs_length]
    rw [idx_ge (by omega), List.drop_eq_nil_of_le (by omega)]; rfl
  | j + 1, i, sum, hi, h1 => by
    have hlt : i < ns.length := by omega
    have hd : ns.drop i = ns[i] :: ns.drop (i + 1) := List.drop_eq_getElem_cons hlt
    have hg : ns.getD i 0 = ns[i] := getD_in hlt
    rw [specLensOk.l0.succ]; simp only [specLensOk.l0.step, zs_length]
    rw [idx_lt hlt, cond_true, need_true _ idx_in', Int.toNat_natCast, zs_getD, hg, l1In_eq', hd, List.all_cons]
    simp only [bind_some']
    by_cases h15 : ns[i] ≤ 15
    · have e1 : decide ((0 : Int) ≤ (ns[i] : Int) ∧ (ns[i] : Int) ≤ 15) = true := by simp; omega
      rw [e1, decide_eq_true h15, Bool.true_and]
      simp only [Bool.not_true, cond_false, c_dec]
      rw [need_true _ idx_in']
      by_cases h0 : 0 < ns[i]
      · have hp : 2 ^ (15 - ns[i]) ≤ 2 ^ 15 := Nat.pow_le_pow_right (by omega) (by omega)
        have hp0 : 0 < 2 ^ (15 - ns[i]) := Nat.two_pow_pos _
        rw [if_pos (by omega), need_true _ idx_in', w64_id (by omega) (by omega), show 15 - (ns[i] : Int) = ((15 - ns[i] : Nat) : Int) by omega, l1Pow_eq _ (by omega)]
        ((try simp (disch := omega) only [need_and, need_dec, need_decf, need_fits, need_ne, need_t, w64_id, tmod_e, tdiv_e, bind_some', Option.map_some, cond_true, cond_false, Int.sub_zero, Int.toNat_natCast]); (try simp only [c_dec, c_eq, c_ne, c_nodec, c_not, if_true, if_false]))
        rw [show (sum : Int) + ((2 ^ (15 - ns[i]) : Nat) : Int) = ((sum + 2 ^ (15 - ns[i]) : Nat) : Int) by omega, show (i : Int) + 1 = ((i + 1 : Nat) : Int) by omega,
          specLensOk_l0 ns hn j (i + 1) _ (by omega) (by omega)]
        simp only [kraft, if_pos h0, Nat.add_assoc]
      · rw [if_neg (by omega)]
        ((try simp (disch := omega) only [need_and, need_dec, need_decf, need_fits, need_ne, need_t, w64_id, tmod_e, tdiv_e, bind_some', Option.map_some, cond_true, cond_false, Int.sub_zero, Int.toNat_natCast]); (try simp only [c_dec, c_eq, c_ne, c_nodec, c_not, if_true, if_false]))
        rw [show (i : Int) + 1 = ((i + 1 : Nat) : Int) by omega, specLensOk_l0 ns hn j (i + 1) _ (by omega) (by omega)]
        simp only [kraft, if_neg h0, Nat.zero_add]
    · have e1 : decide ((0 : Int) ≤ (ns[i] : Int) ∧ (ns[i] : Int) ≤ 15) = false := by simp; omega
      rw [e1, decide_eq_false h15]
      rfl
theorem specLensOk_eq (ns : List Nat) (hn : ns.length ≤ 1000000) : specLensOk (zs ns) = some (lensM ns) := by
  unfold specLensOk lensM
  have h := specLensOk_l0 ns hn ns.length 0 0 (by omega) (by omega)
  rw [show ((0 : Nat) : Int) = 0 from rfl, List.drop_zero, Nat.zero_add] at h
  rw [zs_length, fuel_of, h]
  cases hall : ns.all (fun n => decide (n ≤ 15)) with
  | false => rw [Bool.false_and, Bool.and_false]; rfl
  | true =>
    simp only [if_true, bind_some', Bool.true_and, l3Used_eq ns hn, zs_length]
    have p14 := l1Pow_eq 14 (by omega)
    have p15 := l1Pow_eq 15 (by omega)
    rw [show ((14 : Nat) : Int) = 14 from rfl] at p14
    rw [show ((15 : Nat) : Int) = 15 from rfl] at p15
    rw [p14, p15]
    simp only [bind_some']
    have one : ((bif ((used ns : Nat) : Int) == 1 then some (((kraft ns : Nat) : Int) == ((2 ^ 14 : Nat) : Int)) else some false) : Option Bool) = some (decide (used ns = 1 ∧ kraft ns = 16384)) := by
      by_cases hu : used ns = 1
      · have e : (((used ns : Nat) : Int) == 1) = true := by simp [hu]
        rw [e, cond_true]
        congr 1
        rw [Bool.eq_iff_iff, beq_iff_eq, decide_eq_true_eq]
        omega
      · have e : (((used ns : Nat) : Int) == 1) = false := by simp; omega
        rw [e]; simp [hu]
    rw [one]
    simp only [bind_some']
    by_cases h3 : ns.length ≤ 300
    · have e : decide ((ns.length : Int) ≤ 300) = true := by simp; omega
      rw [e, cond_true, decide_eq_true h3]
      by_cases hk : kraft ns = 32768
      · have e : (((kraft ns : Nat) : Int) == ((2 ^ 15 : Nat) : Int)) = true := by simp [hk]
        rw [e, decide_eq_true hk]; rfl
      · have e : (((kraft ns : Nat) : Int) == ((2 ^ 15 : Nat) : Int)) = false := by rw [beq_eq_false_iff_ne]; omega
        rw [e, decide_eq_false hk]; rfl
    · have e : decide ((ns.length : Int) ≤ 300) = false := by simp; omega
      rw [e, decide_eq_false h3]; rfl
end Ev
end
section
set_option linter.unusedVariables false
set_option linter.unusedSimpArgs false
namespace Ev
open Go
def base (ns : List Nat) : Nat → Nat
  | 0 => 0
  | 1 => 0
  | l + 2 => 2 * (base ns (l + 1) + ns.count (l + 1))
def codeM (ns : List Nat) (i : Nat) : Nat := base ns (ns.getD i 0) + (ns.take i).count (ns.getD i 0)
def stage (ns : List Nat) (l i : Nat) : List Nat := (List.range ns.length).map fun j => if (1 ≤ ns.getD j 0 ∧ ns.getD j 0 < l) ∨ (1 ≤ l ∧ ns.getD j 0 = l ∧ j < i) then codeM ns j else 0
def codesM (ns : List Nat) : List Nat := stage ns 16 0
theorem base_le1 (ns : List Nat) : ∀ l, base ns (l + 1) + 2 * ns.length ≤ ns.length * 2 ^ (l + 1)
  | 0 => by simp [base]; omega
  | l + 1 => by
    have ih := base_le1 ns l
    have hc := List.count_le_length (a := l + 1) (l := ns)
    have h1 : ns.length * 2 ^ (l + 1 + 1) = 2 * (ns.length * 2 ^ (l + 1)) := by rw [Nat.pow_succ, ← Nat.mul_assoc, Nat.mul_comm]
    have e : base ns (l + 1 + 1) = 2 * (base ns (l + 1) + ns.count (l + 1)) := rfl
    omega
theorem base_small (ns : List Nat) (hn : ns.length ≤ 1000) (l : Nat) (hl : l ≤ 16) : base ns l ≤ 100000000 := by
  cases l with
  | zero => simp [base]
  | succ l =>
    have h := base_le1 ns l
    have hp : 2 ^ (l + 1) ≤ 2 ^ 16 := Nat.pow_le_pow_right (by omega) hl
    have : ns.length * 2 ^ (l + 1) ≤ 1000 * 2 ^ 16 := Nat.mul_le_mul hn hp
    omega
theorem stage_length (ns : List Nat) (l i : Nat) : (stage ns l i).length = ns.length := by simp [stage]
theorem stage_next (ns : List Nat) (l : Nat) (hl : 1 ≤ l) : stage ns l ns.length = stage ns (l + 1) 0 := by
  unfold stage
  apply List.map_congr_left
  intro j hj
  have hj := List.mem_range.1 hj
  by_cases h : (1 ≤ ns.getD j 0 ∧ ns.getD j 0 < l) ∨ (1 ≤ l ∧ ns.getD j 0 = l ∧ j < ns.length)
  · rw [if_pos h, if_pos (by omega)]
  · rw [if_neg h, if_neg (by omega)]
theorem stage_zero (ns : List Nat) : stage ns 1 0 = List.replicate ns.length 0 := by
  apply List.ext_getElem
  · simp [stage]
  · intro i h1 h2
    simp only [stage, List.getElem_map, List.getElem_range, List.getElem_replicate]
    rw [if_neg (by omega)]
theorem stage_set (ns : List Nat) (l i : Nat) (hl : 1 ≤ l) (hi : i < ns.length) : stage ns l (i + 1) = if ns.getD i 0 = l then (stage ns l i).set i (base ns l + (ns.take i).count l) else stage ns l i := by
  apply List.ext_getElem
  · split <;> simp [stage]
  · intro j h1 h2
    have hj : j < ns.length := by simpa [stage] using h1
    by_cases hc : ns.getD i 0 = l
    · simp only [if_pos hc, List.getElem_set]
      by_cases e : i = j
      · subst e
        rw [if_pos rfl]
        simp only [stage, List.getElem_map, List.getElem_range]
        rw [if_pos (by omega)]
        unfold codeM; rw [hc]
      · rw [if_neg e]
        simp only [stage, List.getElem_map, List.getElem_range]
        by_cases h : (1 ≤ ns.getD j 0 ∧ ns.getD j 0 < l) ∨ (1 ≤ l ∧ ns.getD j 0 = l ∧ j < i)
        · rw [if_pos h, if_pos (by omega)]
        · rw [if_neg h, if_neg (by omega)]
    · simp only [if_neg hc]
      simp only [stage, List.getElem_map, List.getElem_range]
      by_cases h : (1 ≤ ns.getD j 0 ∧ ns.getD j 0 < l) ∨ (1 ≤ l ∧ ns.getD j 0 = l ∧ j < i)
      · rw [if_pos h, if_pos (by omega)]
      · rw [if_neg h]
        by_cases e : j = i
        · subst e; rw [if_neg (by omega)]
        · rw [if_neg (by omega)]
theorem count_take_succ (ns : List Nat) (l i : Nat) (hi : i < ns.length) : (ns.take (i + 1)).count l = (ns.take i).count l + if ns.getD i 0 = l then 1 else 0 := by
  rw [List.take_succ_eq_append_getElem hi, List.count_append, getD_in hi]
  by_cases h : ns[i] = l <;> simp [h]
theorem codes_l0 (ns : List Nat) (hn : ns.length ≤ 1000) (l : Nat) (hl : 1 ≤ l) (hl15 : l ≤ 15) : ∀ (j i : Nat), i + j = ns.length →
    codes.l0 (j + 1) (zs ns, ((base ns l + (ns.take i).count l : Nat) : Int), (l : Int), zs ns, (ns.length : Int), (i : Int), zs (stage ns l i)) = some (zs ns, ((base ns l + ns.count l : Nat) : Int), (l : Int), zs (stage ns (l + 1) 0))
  | 0, i, hi => by
    have : i = ns.length := by omega
    subst this
    rw [codes.l0.succ]; simp only [codes.l0.step, zs_length]
    rw [idx_ge (by omega), List.take_length, stage_next ns l hl]; rfl
  | j + 1, i, hi => by
    have hlt : i < ns.length := by omega
    have ih := codes_l0 ns hn l hl hl15 j (i + 1) (by omega)
    have hb := base_small ns hn l (by omega)
    have hc := List.count_le_length (a := l) (l := ns.take i)
    rw [List.length_take] at hc
    rw [count_take_succ ns l i hlt, stage_set ns l i hl hlt] at ih
    rw [codes.l0.succ]; simp only [codes.l0.step, zs_length, stage_length]
    rw [idx_lt hlt, cond_true, need_true _ idx_in', Int.toNat_natCast, zs_getD]
    ((try simp (disch := omega) only [need_and, need_dec, need_decf, need_fits, need_ne, need_t, w64_id, tmod_e, tdiv_e, bind_some', Option.map_some, cond_true, cond_false, Int.sub_zero, Int.toNat_natCast]); (try simp only [c_dec, c_eq, c_ne, c_nodec, c_not, if_true, if_false]))
    by_cases h : ns.getD i 0 = l
    · rw [if_pos (by omega), need_true _ idx_in', show (i : Int) + 1 = ((i + 1 : Nat) : Int) by omega, show ((base ns l + (ns.take i).count l : Nat) : Int) + 1 = ((base ns l + ((ns.take i).count l + 1) : Nat) : Int) by omega, zs_set]
      rw [if_pos h, if_pos h] at ih
      rw [ih]
    · rw [if_neg (by omega), show (i : Int) + 1 = ((i + 1 : Nat) : Int) by omega]
      rw [if_neg h, if_neg h] at ih
      simp only [Nat.add_zero] at ih
      rw [ih]
theorem codes_l1 (ns : List Nat) (hn : ns.length ≤ 1000) : ∀ (j l : Nat), l + j = 16 → 1 ≤ l → codes.l1 (j + 1) (zs ns, ((base ns l : Nat) : Int), (l : Int), zs (stage ns l 0)) = some (zs (codesM ns))
  | 0, l, hl, h1 => by
    have : l = 16 := by omega
    subst this
    rw [codes.l1.succ]; simp only [codes.l1.step]
    rfl
  | j + 1, l, hl, h1 => by
    have ih := codes_l1 ns hn j (l + 1) (by omega) (by omega)
    have h0 := codes_l0 ns hn l h1 (by omega) ns.length 0 (by omega)
    have hb := base_small ns hn l (by omega)
    have hc := List.count_le_length (a := l) (l := ns)
    rw [List.take_zero, List.count_nil, show ((0 : Nat) : Int) = 0 from rfl] at h0
    simp only [Nat.add_zero] at h0
    rw [codes.l1.succ]; simp only [codes.l1.step, zs_length]
    ((try simp (disch := omega) only [need_and, need_dec, need_decf, need_fits, need_ne, need_t, w64_id, tmod_e, tdiv_e, bind_some', Option.map_some, cond_true, cond_false, Int.sub_zero, Int.toNat_natCast]); (try simp only [c_dec, c_eq, c_ne, c_nodec, c_not, if_true, if_false]))
    rw [if_pos (by omega), h0]
    simp only [bind_some']
    ((try simp (disch := omega) only [need_and, need_dec, need_decf, need_fits, need_ne, need_t, w64_id, tmod_e, tdiv_e, bind_some', Option.map_some, cond_true, cond_false, Int.sub_zero, Int.toNat_natCast]); (try simp only [c_dec, c_eq, c_ne, c_nodec, c_not, if_true, if_false]))
    have e : base ns (l + 1) = 2 * (base ns l + ns.count l) := by
      cases l with
      | zero => omega
      | succ l => rfl
    rw [show ((base ns l + ns.count l : Nat) : Int) * 2 = ((base ns (l + 1) : Nat) : Int) by rw [e]; omega, show (l : Int) + 1 = ((l + 1 : Nat) : Int) by omega, ih]
theorem codes_eq (ns : List Nat) (hn : ns.length ≤ 1000) : codes (zs ns) = some (zs (codesM ns)) := by
  unfold codes
  have h := codes_l1 ns hn 15 1 (by omega) (by omega)
  rw [stage_zero, ← zs_replicate] at h
  rw [zs_length, need_decf (by omega) (by rw [Int.toNat_natCast]; omega), Int.toNat_natCast]
  rw [show ((15 : Int) - 1).toNat + 2 = 15 + 1 from rfl]
  have e : ((base ns 1 : Nat) : Int) = 0 := rfl
  rw [e, show ((1 : Nat) : Int) = 1 from rfl, show ((0 : Nat) : Int) = 0 from rfl] at h
  rw [h]; rfl
theorem l3Codes_l0 (ns : List Nat) (hn : ns.length ≤ 1000) (l : Nat) (hl : 1 ≤ l) (hl15 : l ≤ 15) : ∀ (j i : Nat), i + j = ns.length →
    l3Codes.l0 (j + 1) (zs ns, ((base ns l + (ns.take i).count l : Nat) : Int), (l : Int), (i : Int), zs (stage ns l i)) = some (zs ns, ((base ns l + ns.count l : Nat) : Int), (l : Int), zs (stage ns (l + 1) 0))
  | 0, i, hi => by
    have : i = ns.length := by omega
    subst this
    rw [l3Codes.l0.succ]; simp only [l3Codes.l0.step, zs_length]
    rw [idx_ge (by omega), List.take_length, stage_next ns l hl]; rfl
  | j + 1, i, hi => by
    have hlt : i < ns.length := by omega
    have ih := l3Codes_l0 ns hn l hl hl15 j (i + 1) (by omega)
    have hb := base_small ns hn l (by omega)
    have hc := List.count_le_length (a := l) (l := ns.take i)
    rw [List.length_take] at hc
    rw [count_take_succ ns l i hlt, stage_set ns l i hl hlt] at ih
    rw [l3Codes.l0.succ]; simp only [l3Codes.l0.step, zs_length, stage_length]
    rw [idx_lt hlt, cond_true, need_true _ idx_in', Int.toNat_natCast, zs_getD]
    ((try simp (disch := omega) only [need_and, need_dec, need_decf, need_fits, need_ne, need_t, w64_id, tmod_e, tdiv_e, bind_some', Option.map_some, cond_true, cond_false, Int.sub_zero, Int.toNat_natCast]); (try simp only [c_dec, c_eq, c_ne, c_nodec, c_not, if_true, if_false]))
    by_cases h : ns.getD i 0 = l
    · rw [if_pos (by omega), need_true _ idx_in', show (i : Int) + 1 = ((i + 1 : Nat) : Int) by omega, show ((base ns l + (ns.take i).count l : Nat) : Int) + 1 = ((base ns l + ((ns.take i).count l + 1) : Nat) : Int) by omega, zs_set]
      rw [if_pos h, if_pos h] at ih
      rw [ih]
    · rw [if_neg (by omega), show (i : Int) + 1 = ((i + 1 : Nat) : Int) by omega]
      rw [if_neg h, if_neg h] at ih
      simp only [Nat.add_zero] at ih
      rw [ih]
theorem l3Codes_l1 (ns : List Nat) (hn : ns.length ≤ 1000) : ∀ (j l : Nat), l + j = 16 → 1 ≤ l → l3Codes.l1 (j + 1) (zs ns, ((base ns l : Nat) : Int), (l : Int), zs (stage ns l 0)) = some (zs (codesM ns))
  | 0, l, hl, h1 => by
    have : l = 16 := by omega
    subst this
    rw [l3Codes.l1.succ]; simp only [l3Codes.l1.step]
    rfl
  | j + 1, l, hl, h1 => by
    have ih := l3Codes_l1 ns hn j (l + 1) (by omega) (by omega)
    have h0 := l3Codes_l0 ns hn l h1 (by omega) ns.length 0 (by omega)
    have hb := base_small ns hn l (by omega)
    have hc := List.count_le_length (a := l) (l := ns)
    rw [List.take_zero, List.count_nil, show ((0 : Nat) : Int) = 0 from rfl] at h0
    simp only [Nat.add_zero] at h0
    rw [l3Codes.l1.succ]; simp only [l3Codes.l1.step, zs_length]
    ((try simp (disch := omega) only [need_and, need_dec, need_decf, need_fits, need_ne, need_t, w64_id, tmod_e, tdiv_e, bind_some', Option.map_some, cond_true, cond_false, Int.sub_zero, Int.toNat_natCast]); (try simp only [c_dec, c_eq, c_ne, c_nodec, c_not, if_true, if_false]))
    rw [if_pos (by omega), h0]
    simp only [bind_some']
    ((try simp (disch := omega) only [need_and, need_dec, need_decf, need_fits, need_ne, need_t, w64_id, tmod_e, tdiv_e, bind_some', Option.map_some, cond_true, cond_false, Int.sub_zero, Int.toNat_natCast]); (try simp only [c_dec, c_eq, c_ne, c_nodec, c_not, if_true, if_false]))
    have e : base ns (l + 1) = 2 * (base ns l + ns.count l) := by
      cases l with
      | zero => omega
      | succ l => rfl
    rw [show 2 * ((base ns l + ns.count l : Nat) : Int) = ((base ns (l + 1) : Nat) : Int) by rw [e]; omega, show (l : Int) + 1 = ((l + 1 : Nat) : Int) by omega, ih]
theorem l3Codes_eq (ns : List Nat) (hn : ns.length ≤ 1000) : l3Codes (zs ns) = some (zs (codesM ns)) := by
  unfold l3Codes
  have h := l3Codes_l1 ns hn 15 1 (by omega) (by omega)
  rw [stage_zero, ← zs_replicate] at h
  rw [zs_length, need_decf (by omega) (by rw [Int.toNat_natCast]; omega), Int.toNat_natCast]
  rw [show ((15 : Int) - 1).toNat + 2 = 15 + 1 from rfl]
  have e : ((base ns 1 : Nat) : Int) = 0 := rfl
  rw [e, show ((1 : Nat) : Int) = 1 from rfl, show ((0 : Nat) : Int) = 0 from rfl] at h
  rw [h]; rfl
def findB (ns : List Nat) (k c l : Nat) : Option Nat := (List.range k).find? fun i => decide (0 < ns.getD i 0) && (decide (ns.getD i 0 = l) && decide (codeM ns i = c))
theorem codeM_inj (ns : List Nat) {i j : Nat} (hi : i < ns.length) (hj : j < ns.length) (hl : ns.getD i 0 = ns.getD j 0) (hc : codeM ns i = codeM ns j) : i = j := by
  have key : ∀ {i j : Nat}, i < j → j < ns.length → ns.getD i 0 = ns.getD j 0 → codeM ns i < codeM ns j := fun {i j} hij hj hl => by
    unfold codeM
    rw [hl]
    have h1 := count_take_succ ns (ns.getD j 0) i (by omega)
    rw [if_pos hl] at h1
    have h2 : (ns.take (i + 1)).count (ns.getD j 0) ≤ (ns.take j).count (ns.getD j 0) := by
      have : ns.take (i + 1) = (ns.take j).take (i + 1) := by rw [List.take_take, Nat.min_eq_left (by omega)]
      rw [this]
      exact (List.take_sublist _ _).count_le _
    omega
  rcases Nat.lt_trichotomy i j with h | h | h
  · have := key h hj hl; omega
  · exact h
  · have := key h hi hl.symm; omega
theorem findB_some {ns : List Nat} {k c l i : Nat} (h : findB ns k c l = some i) : i < k ∧ 0 < ns.getD i 0 ∧ ns.getD i 0 = l ∧ codeM ns i = c := by
  unfold findB at h
  have h1 := List.find?_some h
  have h2 := List.mem_of_find?_eq_some h
  simp only [Bool.and_eq_true, decide_eq_true_eq] at h1
  exact ⟨List.mem_range.1 h2, h1⟩
theorem findB_of {ns : List Nat} {k i : Nat} (hk : k ≤ ns.length) (hi : i < k) (h0 : 0 < ns.getD i 0) : findB ns k (codeM ns i) (ns.getD i 0) = some i := by
  cases h : findB ns k (codeM ns i) (ns.getD i 0) with
  | none =>
    unfold findB at h
    have := List.find?_eq_none.1 h i (List.mem_range.2 hi)
    exact absurd (by simp only [Bool.and_eq_true, decide_eq_true_eq]; exact ⟨h0, trivial, trivial⟩) this
  | some j =>
    obtain ⟨h1, h2, h3, h4⟩ := findB_some h
    rw [codeM_inj ns (by omega) (by omega) h3 h4]
theorem findB_succ (ns : List Nat) (k c l : Nat) (hk : k < ns.length) : findB ns (k + 1) c l = if 0 < ns.getD k 0 ∧ ns.getD k 0 = l ∧ codeM ns k = c then some k else findB ns k c l := by
  by_cases h : 0 < ns.getD k 0 ∧ ns.getD k 0 = l ∧ codeM ns k = c
  · rw [if_pos h]
    obtain ⟨h1, rfl, rfl⟩ := h
    exact findB_of (by omega) (by omega) h1
  · rw [if_neg h]
    unfold findB
    rw [List.range_succ, List.find?_append]
    have : List.find? (fun i => decide (0 < ns.getD i 0) && (decide (ns.getD i 0 = l) && decide (codeM ns i = c))) [k] = none := by
      rw [List.find?_cons]
      have : (decide (0 < ns.getD k 0) && (decide (ns.getD k 0 = l) && decide (codeM ns k = c))) = false := by
        rw [Bool.eq_false_iff]; intro hh; simp only [Bool.and_eq_true, decide_eq_true_eq] at hh; exact h hh
      rw [this]; rfl
    rw [this]
    cases List.find? (fun i => decide (0 < ns.getD i 0) && (decide (ns.getD i 0 = l) && decide (codeM ns i = c))) (List.range k) <;> rfl
def BookP (ns : List Nat) (k : Nat) (es : List ((Int × Int) × Int)) : Prop := ∀ c l : Nat, mapGet [.int .i64, .int .i64] [.int .i64] es ((c : Int), (l : Int)) = (findB ns k c l).map fun (n : Nat) => (n : Int)
theorem mapGet_set (es : List ((Int × Int) × Int)) (k k' : Int × Int) (v : Int) : mapGet [.int .i64, .int .i64] [.int .i64] (mapSet [.int .i64, .int .i64] [.int .i64] es k v) k' = if k' = k then some v else mapGet [.int .i64, .int .i64] [.int .i64] es k' := by
  have eqb : ∀ a b : Int × Int, El.eqb [.int .i64, .int .i64] a b = decide (a = b) := fun a b => by
    rw [Bool.eq_iff_iff]
    simp only [El.eqb, Sc.eqb, Bool.and_true, Bool.and_eq_true, beq_iff_eq, decide_eq_true_eq]
    exact ⟨fun h => Prod.ext h.1 h.2, fun h => by rw [h]; exact ⟨rfl, rfl⟩⟩
  induction es with
  | nil =>
    simp only [mapSet, mapGet, eqb]
    by_cases h : k' = k <;> simp [h]
  | cons e r ih =>
    simp only [mapSet, eqb]
    by_cases h1 : k = e.1
    · rw [decide_eq_true h1, cond_true]
      simp only [mapGet, eqb]
      by_cases h : k' = k
      · simp [h]
      · have : ¬ k' = e.1 := fun x => h (x.trans h1.symm)
        simp [h, this]
    · rw [decide_eq_false h1, cond_false]
      simp only [mapGet, eqb]
      by_cases h : k' = e.1
      · have : ¬ k' = k := fun x => h1 (x.symm.trans h)
        rw [decide_eq_true h, cond_true, cond_true, if_neg this]
      · rw [decide_eq_false h, cond_false, cond_false]; exact ih
end Ev
end
section
set_option linter.unusedVariables false
set_option linter.unusedSimpArgs false
namespace Ev
open Go
theorem codesM_length (ns : List Nat) : (codesM ns).length = ns.length := stage_length ns 16 0
theorem codesM_get (ns : List Nat) (h15 : ∀ n ∈ ns, n ≤ 15) (i : Nat) (hi : i < ns.length) (h0 : 0 < ns.getD i 0) : (codesM ns).getD i 0 = codeM ns i := by
  have hm : ns.getD i 0 ≤ 15 := by rw [getD_in hi]; exact h15 _ (List.getElem_mem hi)
  rw [getD_in (by rw [codesM_length]; exact hi)]
  simp only [codesM, stage, List.getElem_map, List.getElem_range]
  rw [if_pos (by omega)]
theorem bookOf_l0 (ns : List Nat) (hn : ns.length ≤ 1000) (h15 : ∀ n ∈ ns, n ≤ 15) : ∀ (j i : Nat) (es : List ((Int × Int) × Int)), i + j = ns.length → BookP ns i es →
    Ret (bookOf.l0 (j + 1) (zs ns, (ns.length : Int), (i : Int), es, zs (codesM ns))) (BookP ns ns.length)
  | 0, i, es, hi, h => by
    have : i = ns.length := by omega
    subst this
    rw [bookOf.l0.succ]; simp only [bookOf.l0.step]
    rw [idx_ge (by omega)]; exact .pure h
  | j + 1, i, es, hi, h => by
    have hlt : i < ns.length := by omega
    have hm : ns.getD i 0 ≤ 15 := by rw [getD_in hlt]; exact h15 _ (List.getElem_mem hlt)
    rw [bookOf.l0.succ]; simp only [bookOf.l0.step, zs_length, codesM_length]
    rw [idx_lt hlt, cond_true, need_true _ idx_in', need_true _ idx_in', Int.toNat_natCast, zs_getD, zs_getD]
    ((try simp (disch := omega) only [need_and, need_dec, need_decf, need_fits, need_ne, need_t, w64_id, tmod_e, tdiv_e, bind_some', Option.map_some, cond_true, cond_false, Int.sub_zero, Int.toNat_natCast]); (try simp only [c_dec, c_eq, c_ne, c_nodec, c_not, if_true, if_false]))
    by_cases h0 : 0 < ns.getD i 0
    · rw [if_pos (by omega), need_true _ idx_in', show (i : Int) + 1 = ((i + 1 : Nat) : Int) by omega, codesM_get ns h15 i hlt h0]
      refine bookOf_l0 ns hn h15 j (i + 1) _ (by omega) fun c l => ?_
      rw [mapGet_set, h c l, findB_succ ns i c l hlt]
      by_cases hc : 0 < ns.getD i 0 ∧ ns.getD i 0 = l ∧ codeM ns i = c
      · rw [if_pos hc, if_pos (by obtain ⟨_, rfl, rfl⟩ := hc; rfl)]; rfl
      · rw [if_neg hc, if_neg (fun e => hc ⟨h0, by have e2 : (l : Int) = ((ns.getD i 0 : Nat) : Int) := (Prod.mk.inj e).2; omega, by have e1 : (c : Int) = ((codeM ns i : Nat) : Int) := (Prod.mk.inj e).1; omega⟩)]
    · rw [if_neg (by omega), show (i : Int) + 1 = ((i + 1 : Nat) : Int) by omega]
      refine bookOf_l0 ns hn h15 j (i + 1) _ (by omega) fun c l => ?_
      rw [h c l, findB_succ ns i c l hlt, if_neg (fun e => h0 e.1)]
theorem bookOf_ret (ns : List Nat) (hn : ns.length ≤ 1000) (h15 : ∀ n ∈ ns, n ≤ 15) : Ret (bookOf (zs ns)) (BookP ns ns.length) := by
  unfold bookOf
  rw [codes_eq ns hn]
  simp only [bind_some', zs_length, codesM_length]
  rw [fuel_of]
  refine .bind (bookOf_l0 ns hn h15 ns.length 0 [] (by omega) fun c l => ?_) fun a ha => .pure ha
  simp [mapGet, findB]
def symGo (ns : List Nat) : Nat → Nat → Nat → List Bool → Option (Nat × List Bool)
  | 0, _, _, _ => none
  | _ + 1, _, _, [] => none
  | f + 1, l, c, b :: r => match findB ns ns.length (2 * c + b.toNat) l with
    | some i => some (i, r)
    | none => symGo ns f (l + 1) (2 * c + b.toNat) r
def mSym (ns : List Nat) (m : Option (List Bool)) : Option (Nat × List Bool) := m.bind (symGo ns 15 1 0)
def SymPost (s : Str) (x : Option (Nat × List Bool)) (v at_ : Int) (bad : Bool) : Prop := match x with
  | some (i, l) => v = (i : Int) ∧ Rs s at_ bad (some l)
  | none => v = 0 ∧ Rs s at_ bad none
theorem rSymbol_l0 {s : Str} (hs : s.length ≤ 1000000000) (ns : List Nat) (book : List ((Int × Int) × Int)) (hB : BookP ns ns.length book) : ∀ (f l c : Nat) (at_ : Int) (bad : Bool) (m : Option (List Bool)), l + f = 16 → c < 2 ^ l → Rs s at_ bad m →
    Ret (rSymbol.l0 (f + 1) ((c : Int), (l : Int), s, at_, bad, book)) fun r => match m.bind (symGo ns f l c) with
      | some (i, l') => ∃ a, r = .inr ((i : Int), s, a, false, book) ∧ Rs s a false (some l')
      | none => ∃ a b, r = .inl (s, a, b, book) ∧ ∃ m', Rs s a b m'
  | 0, l, c, at_, bad, m, hf, hc, h => by
    rw [rSymbol.l0.succ]; simp only [rSymbol.l0.step]
    ((try simp (disch := omega) only [need_and, need_dec, need_decf, need_fits, need_ne, need_t, w64_id, tmod_e, tdiv_e, bind_some', Option.map_some, cond_true, cond_false, Int.sub_zero, Int.toNat_natCast]); (try simp only [c_dec, c_eq, c_ne, c_nodec, c_not, if_true, if_false]))
    rw [if_neg (by omega)]
    have : m.bind (symGo ns 0 l c) = none := by cases m <;> rfl
    rw [this]
    exact .pure ⟨at_, bad, rfl, _, h⟩
  | f + 1, l, c, at_, bad, m, hf, hc, h => by
    have hp : 2 ^ l ≤ 2 ^ 15 := Nat.pow_le_pow_right (by omega) (by omega)
    rw [rSymbol.l0.succ]; simp only [rSymbol.l0.step]
    ((try simp (disch := omega) only [need_and, need_dec, need_decf, need_fits, need_ne, need_t, w64_id, tmod_e, tdiv_e, bind_some', Option.map_some, cond_true, cond_false, Int.sub_zero, Int.toNat_natCast]); (try simp only [c_dec, c_eq, c_ne, c_nodec, c_not, if_true, if_false]))
    rw [if_pos (by omega)]
    refine .bind (rBit_st hs h) ?_
    rintro ⟨r, s', at', bad'⟩ ⟨rfl, b, rfl, h2, h3⟩
    dsimp only at h2 h3 ⊢
    have hb : b.toNat ≤ 1 := by cases b <;> decide
    ((try simp (disch := omega) only [need_and, need_dec, need_decf, need_fits, need_ne, need_t, w64_id, tmod_e, tdiv_e, bind_some', Option.map_some, cond_true, cond_false, Int.sub_zero, Int.toNat_natCast]); (try simp only [c_dec, c_eq, c_ne, c_nodec, c_not, if_true, if_false]))
    rw [show 2 * (c : Int) + ((b.toNat : Nat) : Int) = ((2 * c + b.toNat : Nat) : Int) by omega, show (l : Int) + 1 = ((l + 1 : Nat) : Int) by omega, hB _ _]
    have go : ∀ m2, Rs s' at' bad' m2 → Ret (rSymbol.l0 (f + 1) (((2 * c + b.toNat : Nat) : Int), ((l + 1 : Nat) : Int), s', at', bad', book)) fun r => match m2.bind (symGo ns f (l + 1) (2 * c + b.toNat)) with
      | some (i, l') => ∃ a, r = .inr ((i : Int), s', a, false, book) ∧ Rs s' a false (some l')
      | none => ∃ a b, r = .inl (s', a, b, book) ∧ ∃ m', Rs s' a b m' := fun m2 h4 => rSymbol_l0 hs ns book hB f (l + 1) _ at' bad' m2 (by omega) (by rw [Nat.pow_succ]; omega) h4
    -- where the reader has failed nothing is found
    have fail : Rs s' at' bad' none → m.bind (symGo ns (f + 1) l c) = none → Ret (((if ((findB ns ns.length (2 * c + b.toNat) l).map fun (n : Nat) => (n : Int)).isSome = true then some (!bad') else some false).bind fun c_1 =>
        bif c_1 then some (Sum.inr (((findB ns ns.length (2 * c + b.toNat) l).map fun (n : Nat) => (n : Int)).getD 0, s', at', bad', book)) else rSymbol.l0 (f + 1) (((2 * c + b.toNat : Nat) : Int), ((l + 1 : Nat) : Int), s', at', bad', book))) fun r => match m.bind (symGo ns (f + 1) l c) with
      | some (i, l') => ∃ a, r = .inr ((i : Int), s', a, false, book) ∧ Rs s' a false (some l')
      | none => ∃ a b, r = .inl (s', a, b, book) ∧ ∃ m', Rs s' a b m' := fun h4 e => by
      rw [e]
      have hbad : bad' = true := h4.1
      have e2 : (if ((findB ns ns.length (2 * c + b.toNat) l).map fun (n : Nat) => (n : Int)).isSome = true then some (!bad') else some false) = some false := by
        rw [hbad]; split <;> rfl
      rw [e2]
      simp only [bind_some', cond_false]
      exact go none h4
    have hform : ∀ (x : Option Int) (y z : Option (((Str × Int × Bool × List ((Int × Int) × Int)) ⊕ (Int × Str × Int × Bool × List ((Int × Int) × Int))))), ((bif x.isSome then some (!bad') else some false).bind fun c_1 => bif c_1 then y else z) = ((if x.isSome = true then some (!bad') else some false).bind fun c_1 => bif c_1 then y else z) := fun x y z => by cases x <;> rfl
    rw [hform]
    cases m with
    | none => exact fail h2 rfl
    | some lst =>
      cases lst with
      | nil => exact fail h2 rfl
      | cons b' l0 =>
        have hbb := h3 b' l0 rfl
        subst hbb
        have hbad : bad' = false := h2.1
        subst hbad
        simp only [Option.bind_some, symGo]
        cases hfi : findB ns ns.length (2 * c + b.toNat) l with
        | some i =>
          simp only [Option.map_some, Option.isSome_some, if_true, bind_some', Bool.not_false, cond_true, Option.getD_some]
          exact .pure ⟨at', rfl, h2⟩
        | none =>
          simp only [Option.map_none, Option.isSome_none, bind_some', cond_false, Bool.false_eq_true, if_false]
          exact go (some l0) h2
theorem rSymbol_st {s : Str} {at_ : Int} {bad : Bool} {m : Option (List Bool)} (hs : s.length ≤ 1000000000) (ns : List Nat) {book : List ((Int × Int) × Int)} (hB : BookP ns ns.length book) (h : Rs s at_ bad m) :
    Ret (rSymbol s at_ bad book) fun r => r.2.1 = s ∧ r.2.2.2.2 = book ∧ SymPost s (mSym ns m) r.1 r.2.2.1 r.2.2.2.1 := by
  unfold rSymbol
  have h0 := rSymbol_l0 hs ns book hB 15 1 0 at_ bad m (by omega) (by omega) h
  rw [show ((15 : Int) - 1).toNat + 2 = 15 + 1 from rfl]
  refine .bind h0 fun r hr => ?_
  unfold mSym
  cases hm : m.bind (symGo ns 15 1 0) with
  | none =>
    rw [hm] at hr
    obtain ⟨a, b, rfl, m', h'⟩ := hr
    exact .pure ⟨rfl, rfl, rfl, h'.fail⟩
  | some x =>
    obtain ⟨i, l'⟩ := x
    rw [hm] at hr
    obtain ⟨a, rfl, h'⟩ := hr
    exact .pure ⟨rfl, rfl, rfl, h'⟩
theorem sSymbol_l0 (s : Str) (at_ : Int) (bad : Bool) (ns : List Nat) (hn : ns.length ≤ 1000) (h15 : ∀ n ∈ ns, n ≤ 15) (c l : Nat) (hl : 1 ≤ l) : ∀ (j i : Nat), i + j = ns.length → findB ns i c l = none →
    sSymbol.l0 (j + 1) (zs ns, zs (codesM ns), (c : Int), (l : Int), (i : Int), s, at_, bad) = some (match findB ns ns.length c l with
      | some k => .inr (.inr ((k : Int), s, at_, bad))
      | none => .inl (zs ns, zs (codesM ns), (c : Int), (l : Int), s, at_, bad))
  | 0, i, hi, h => by
    have : i = ns.length := by omega
    subst this
    rw [sSymbol.l0.succ]; simp only [sSymbol.l0.step, zs_length]
    rw [idx_ge (by omega), h]; rfl
  | j + 1, i, hi, h => by
    have hlt : i < ns.length := by omega
    rw [sSymbol.l0.succ]; simp only [sSymbol.l0.step, zs_length, codesM_length]
    rw [idx_lt hlt, cond_true, need_true _ idx_in', need_true _ idx_in', Int.toNat_natCast, zs_getD, zs_getD]
    by_cases hc : 0 < ns.getD i 0 ∧ ns.getD i 0 = l ∧ codeM ns i = c
    · have hfull : findB ns ns.length c l = some i := by
        obtain ⟨h1, rfl, rfl⟩ := hc
        exact findB_of (Nat.le_refl _) hlt h1
      obtain ⟨h1, h2, h3⟩ := hc
      have e1 : (((ns.getD i 0 : Nat) : Int) == (l : Int)) = true := by rw [beq_iff_eq]; omega
      have e2 : ((((codesM ns).getD i 0 : Nat) : Int) == (c : Int)) = true := by rw [codesM_get ns h15 i hlt h1, beq_iff_eq]; omega
      rw [e1, e2, hfull]
      simp only [cond_true, bind_some', Option.map_some]
    · have hnext : findB ns (i + 1) c l = none := by rw [findB_succ ns i c l hlt, if_neg hc]; exact h
      have ih := sSymbol_l0 s at_ bad ns hn h15 c l hl j (i + 1) (by omega) hnext
      have e : (bif (((ns.getD i 0 : Nat) : Int) == (l : Int)) then (some ((((codesM ns).getD i 0 : Nat) : Int) == (c : Int))) else some false) = some false := by
        by_cases h2 : ns.getD i 0 = l
        · have e1 : (((ns.getD i 0 : Nat) : Int) == (l : Int)) = true := by rw [beq_iff_eq]; omega
          have e2 : ((((codesM ns).getD i 0 : Nat) : Int) == (c : Int)) = false := by
            rw [codesM_get ns h15 i hlt (by omega), beq_eq_false_iff_ne]
            intro h3; exact hc ⟨by omega, h2, by omega⟩
          rw [e1, e2]; rfl
        · have e1 : (((ns.getD i 0 : Nat) : Int) == (l : Int)) = false := by rw [beq_eq_false_iff_ne]; omega
          rw [e1]; rfl
      rw [e]
      simp only [bind_some', cond_false]
      rw [idx_next (by omega), ih]
def SymPostS (s : Str) (n : Nat) (x : Option (Nat × List Bool)) (v at_ : Int) (bad : Bool) : Prop := match x with
  | some (i, l) => v = (i : Int) ∧ Rs s at_ bad (some l)
  | none => -1 ≤ v ∧ v < n ∧ Rs s at_ bad none
theorem sSymbol_l1 {s : Str} (hs : s.length ≤ 1000000000) (ns : List Nat) (hn : ns.length ≤ 1000) (h15 : ∀ n ∈ ns, n ≤ 15) : ∀ (f l c : Nat) (at_ : Int) (bad : Bool) (m : Option (List Bool)), l + f = 16 → 1 ≤ l → c < 2 ^ l → Rs s at_ bad m →
    Ret (sSymbol.l1 (f + 1) (zs ns, zs (codesM ns), (c : Int), (l : Int), s, at_, bad)) fun r => match m.bind (symGo ns f l c) with
      | some (i, l') => ∃ a, r = .inr ((i : Int), s, a, false) ∧ Rs s a false (some l')
      | none => (∃ a b, r = .inl (s, a, b) ∧ ∃ m', Rs s a b m') ∨ (∃ k a, k < ns.length ∧ r = .inr ((k : Int), s, a, true) ∧ Rs s a true none)
  | 0, l, c, at_, bad, m, hf, h1, hc, h => by
    rw [sSymbol.l1.succ]; simp only [sSymbol.l1.step]
    ((try simp (disch := omega) only [need_and, need_dec, need_decf, need_fits, need_ne, need_t, w64_id, tmod_e, tdiv_e, bind_some', Option.map_some, cond_true, cond_false, Int.sub_zero, Int.toNat_natCast]); (try simp only [c_dec, c_eq, c_ne, c_nodec, c_not, if_true, if_false]))
    rw [if_neg (by omega)]
    have : m.bind (symGo ns 0 l c) = none := by cases m <;> rfl
    rw [this]
    exact .pure (.inl ⟨at_, bad, rfl, _, h⟩)
  | f + 1, l, c, at_, bad, m, hf, h1, hc, h => by
    have hp : 2 ^ l ≤ 2 ^ 15 := Nat.pow_le_pow_right (by omega) (by omega)
    rw [sSymbol.l1.succ]; simp only [sSymbol.l1.step, zs_length]
    ((try simp (disch := omega) only [need_and, need_dec, need_decf, need_fits, need_ne, need_t, w64_id, tmod_e, tdiv_e, bind_some', Option.map_some, cond_true, cond_false, Int.sub_zero, Int.toNat_natCast]); (try simp only [c_dec, c_eq, c_ne, c_nodec, c_not, if_true, if_false]))
    rw [if_pos (by omega)]
    simp only [bind_some']
    cases bad with
    | true =>
      have hm : m = none := by cases m with
        | none => rfl
        | some l => exact absurd h.1 (by simp)
      subst hm
      exact .pure (.inl ⟨at_, true, rfl, _, h⟩)
    | false =>
    simp only [Bool.not_false, cond_true]
    refine .bind (sBit_st hs h) ?_
    rintro ⟨r, s', at', bad'⟩ ⟨rfl, b, rfl, h2, h3⟩
    dsimp only at h2 h3 ⊢
    have hb : b.toNat ≤ 1 := by cases b <;> decide
    ((try simp (disch := omega) only [need_and, need_dec, need_decf, need_fits, need_ne, need_t, w64_id, tmod_e, tdiv_e, bind_some', Option.map_some, cond_true, cond_false, Int.sub_zero, Int.toNat_natCast]); (try simp only [c_dec, c_eq, c_ne, c_nodec, c_not, if_true, if_false]))
    have h0 := sSymbol_l0 s' at' bad' ns hn h15 (2 * c + b.toNat) l h1 ns.length 0 (by omega) (by simp [findB])
    rw [show ((0 : Nat) : Int) = 0 from rfl] at h0
    rw [show 2 * (c : Int) + ((b.toNat : Nat) : Int) = ((2 * c + b.toNat : Nat) : Int) by omega, h0]
    simp only [bind_some']
    have go : ∀ m2, Rs s' at' bad' m2 → Ret (sSymbol.l1 (f + 1) (zs ns, zs (codesM ns), ((2 * c + b.toNat : Nat) : Int), ((l + 1 : Nat) : Int), s', at', bad')) fun r => match m2.bind (symGo ns f (l + 1) (2 * c + b.toNat)) with
      | some (i, l') => ∃ a, r = .inr ((i : Int), s', a, false) ∧ Rs s' a false (some l')
      | none => (∃ a b, r = .inl (s', a, b) ∧ ∃ m', Rs s' a b m') ∨ (∃ k a, k < ns.length ∧ r = .inr ((k : Int), s', a, true) ∧ Rs s' a true none) := fun m2 h4 => sSymbol_l1 hs ns hn h15 f (l + 1) _ at' bad' m2 (by omega) (by omega) (by rw [Nat.pow_succ]; omega) h4
    have hfail : Rs s' at' bad' none → m.bind (symGo ns (f + 1) l c) = none → Ret (match (match findB ns ns.length (2 * c + b.toNat) l with
          | some k => (Sum.inr (Sum.inr ((k : Int), s', at', bad')) : (List Int × List Int × Int × Int × Str × Int × Bool) ⊕ ((Str × Int × Bool) ⊕ (Int × Str × Int × Bool)))
          | none => .inl (zs ns, zs (codesM ns), ((2 * c + b.toNat : Nat) : Int), (l : Int), s', at', bad')) with
        | .inl (lens3, codes_3, code_2, n2, o6, o7, o8) => sSymbol.l1 (f + 1) (lens3, codes_3, code_2, w64 (n2 + 1), o6, o7, o8)
        | .inr r => some r) fun r => match m.bind (symGo ns (f + 1) l c) with
      | some (i, l') => ∃ a, r = .inr ((i : Int), s', a, false) ∧ Rs s' a false (some l')
      | none => (∃ a b, r = .inl (s', a, b) ∧ ∃ m', Rs s' a b m') ∨ (∃ k a, k < ns.length ∧ r = .inr ((k : Int), s', a, true) ∧ Rs s' a true none) := fun h4 e => by
      rw [e]
      have hbad : bad' = true := h4.1
      subst hbad
      cases hfi : findB ns ns.length (2 * c + b.toNat) l with
      | some k => exact .pure (.inr ⟨k, at', (findB_some hfi).1, rfl, h4⟩)
      | none =>
        dsimp only
        rw [idx_next (by omega)]
        exact go none h4
    cases m with
    | none => exact absurd h.1 (by simp)
    | some lst =>
      cases lst with
      | nil => exact hfail h2 rfl
      | cons b' l0 =>
        have hbb := h3 b' l0 rfl
        subst hbb
        have hbad : bad' = false := h2.1
        subst hbad
        simp only [Option.bind_some, symGo]
        cases hfi : findB ns ns.length (2 * c + b.toNat) l with
        | some i => exact .pure ⟨at', rfl, h2⟩
        | none =>
          dsimp only
          rw [idx_next (by omega)]
          exact go (some l0) h2
theorem sSymbol_st {s : Str} {at_ : Int} {bad : Bool} {m : Option (List Bool)} (hs : s.length ≤ 1000000000) (ns : List Nat) (hn : ns.length ≤ 1000) (h15 : ∀ n ∈ ns, n ≤ 15) (h : Rs s at_ bad m) :
    Ret (sSymbol (zs ns) (zs (codesM ns)) s at_ bad) fun r => r.2.1 = s ∧ SymPostS s ns.length (mSym ns m) r.1 r.2.2.1 r.2.2.2 := by
  unfold sSymbol
  have h0 := sSymbol_l1 hs ns hn h15 15 1 0 at_ bad m (by omega) (by omega) (by omega) h
  rw [show ((15 : Int) - 1).toNat + 2 = 15 + 1 from rfl]
  refine .bind h0 fun r hr => ?_
  unfold mSym
  cases hm : m.bind (symGo ns 15 1 0) with
  | none =>
    rw [hm] at hr
    rcases hr with ⟨a, b, rfl, m', h'⟩ | ⟨k, a, hk, rfl, h'⟩
    · exact Ret.pure ⟨rfl, by dsimp only; omega, by dsimp only; omega, h'.fail⟩
    · exact Ret.pure ⟨rfl, by dsimp only; omega, by dsimp only; omega, h'⟩
  | some x =>
    obtain ⟨i, l'⟩ := x
    rw [hm] at hr
    obtain ⟨a, rfl, h'⟩ := hr
    exact .pure ⟨rfl, rfl, h'⟩
end Ev
end
section
set_option linter.unusedVariables false
set_option linter.unusedSimpArgs false
namespace Ev
open Go
def copyM (k : Nat) : Nat → List Int → List Int
  | 0, out => out
  | n + 1, out => copyM k n (out ++ [out.getD (out.length - k) 0])
def farM (out : List Int) (l k : Nat) : Option (List Int) := if l ≤ 60 ∧ k ≤ 250 ∧ k ≤ out.length then some (copyM k l out) else none
theorem copyM_length (k : Nat) : ∀ n out, (copyM k n out).length = out.length + n
  | 0, out => rfl
  | n + 1, out => by rw [copyM, copyM_length k n]; simp; omega
theorem add_l0 (b : Int) (l k : Nat) (hk : 1 ≤ k) (hl : l ≤ 1000) : ∀ (j i : Nat) (out : List Int), i + j = l → k ≤ out.length → out.length + j ≤ 1000000 →
    add.l0 (j + 1) ((l : Int), (i : Int), out, b, (l : Int), (k : Int)) = some (copyM k j out)
  | 0, i, out, hi, h1, h2 => by
    rw [add.l0.succ]; simp only [add.l0.step]
    rw [idx_ge (by omega)]; rfl
  | j + 1, i, out, hi, h1, h2 => by
    rw [add.l0.succ]; simp only [add.l0.step]
    rw [idx_lt (by omega), cond_true, w64_id (n := (out.length : Int) - k) (by omega) (by omega), show (out.length : Int) - k = ((out.length - k : Nat) : Int) by omega,
      need_true _ (idx_in (by omega)), Int.toNat_natCast, need_fits (by simp; omega), w64_id (by omega) (by omega), show (i : Int) + 1 = ((i + 1 : Nat) : Int) by omega,
      add_l0 b l k hk hl j (i + 1) _ (by omega) (by simp; omega) (by simp; omega)]
    rfl
theorem l4Add_l0 (b : Int) (l k : Nat) (hk : 1 ≤ k) (hl : l ≤ 1000) : ∀ (j i : Nat) (out : List Int), i + j = l → k ≤ out.length → out.length + j ≤ 1000000 →
    l4Add.l0 (j + 1) ((i : Int), out, b, (l : Int), (k : Int)) = some (copyM k j out)
  | 0, i, out, hi, h1, h2 => by
    rw [l4Add.l0.succ]; simp only [l4Add.l0.step]
    rw [idx_ge (by omega)]; rfl
  | j + 1, i, out, hi, h1, h2 => by
    rw [l4Add.l0.succ]; simp only [l4Add.l0.step]
    rw [idx_lt (by omega), cond_true, w64_id (n := (out.length : Int) - k) (by omega) (by omega), show (out.length : Int) - k = ((out.length - k : Nat) : Int) by omega,
      need_true _ (idx_in (by omega)), Int.toNat_natCast, need_fits (by simp; omega), w64_id (by omega) (by omega), show (i : Int) + 1 = ((i + 1 : Nat) : Int) by omega,
      l4Add_l0 b l k hk hl j (i + 1) _ (by omega) (by simp; omega) (by simp; omega)]
    rfl
theorem minA_nat (a b : Nat) : minA (a : Int) (b : Int) = ((min a b : Nat) : Int) := by
  unfold minA
  by_cases h : (b : Int) < (a : Int)
  · rw [if_pos h]; omega
  · rw [if_neg h]; omega
theorem add_far (l k : Nat) (out : List Int) (hl : 3 ≤ l) (hk : 1 ≤ k) (ho : out.length ≤ 100000) :
    add 0 (l : Int) (k : Int) out = some ((farM out l k).isSome, (farM out l k).getD []) := by
  unfold add farM
  rw [show (250 : Int) = ((250 : Nat) : Int) from rfl, minA_nat]
  simp only [within_eq', bind_some']
  rw [show (((l : Nat) : Int) == 0) = false by simp; omega, show ((0 : Int) != 0) = false from rfl]
  simp only [cond_false]
  by_cases h60 : l ≤ 60
  · rw [show decide ((3 : Int) ≤ (l : Int) ∧ (l : Int) ≤ 60) = true by simp; omega]
    simp only [Bool.not_true, cond_false, bind_some']
    by_cases hb : k ≤ 250 ∧ k ≤ out.length
    · rw [show decide ((1 : Int) ≤ (k : Int) ∧ (k : Int) ≤ ((min 250 out.length : Nat) : Int)) = true by simp; omega, if_pos ⟨h60, hb⟩]
      simp only [Bool.not_true, cond_false]
      rw [Int.sub_zero, Int.toNat_natCast]
      have := add_l0 0 l k hk (by omega) l 0 out (by omega) hb.2 (by omega)
      rw [show ((0 : Nat) : Int) = 0 from rfl] at this
      rw [this]; rfl
    · rw [show decide ((1 : Int) ≤ (k : Int) ∧ (k : Int) ≤ ((min 250 out.length : Nat) : Int)) = false by simp; omega, if_neg (fun e => hb e.2)]
      rfl
  · rw [show decide ((3 : Int) ≤ (l : Int) ∧ (l : Int) ≤ 60) = false by simp; omega, if_neg (fun e => h60 e.1)]
    rfl
theorem l4Add_far (l k : Nat) (out : List Int) (hl : 3 ≤ l) (hk : 1 ≤ k) (ho : out.length ≤ 100000) :
    l4Add 0 (l : Int) (k : Int) out = some ((farM out l k).isSome, (farM out l k).getD out) := by
  unfold l4Add farM
  simp only [l1In_eq', bind_some']
  rw [show (((l : Nat) : Int) == 0) = false by simp; omega, show ((0 : Int) != 0) = false from rfl]
  simp only [cond_false]
  by_cases h60 : l ≤ 60
  · rw [show decide ((3 : Int) ≤ (l : Int) ∧ (l : Int) ≤ 60) = true by simp; omega]
    simp only [Bool.not_true, cond_false, bind_some']
    by_cases h2 : k ≤ 250
    · rw [show decide ((1 : Int) ≤ (k : Int) ∧ (k : Int) ≤ 250) = true by simp; omega]
      simp only [Bool.not_true, cond_false, bind_some']
      by_cases hb : k ≤ out.length
      · rw [show decide ((k : Int) > (out.length : Int)) = false by simp; omega, if_pos ⟨h60, h2, hb⟩]
        simp only [cond_false]
        rw [Int.sub_zero, Int.toNat_natCast]
        have := l4Add_l0 0 l k hk (by omega) l 0 out (by omega) hb (by omega)
        rw [show ((0 : Nat) : Int) = 0 from rfl] at this
        rw [this]; rfl
      · rw [show decide ((k : Int) > (out.length : Int)) = true by simp; omega, if_neg (fun e => hb e.2.2)]; rfl
    · rw [show decide ((1 : Int) ≤ (k : Int) ∧ (k : Int) ≤ 250) = false by simp; omega, if_neg (fun e => h2 e.2.1)]; rfl
  · rw [show decide ((3 : Int) ≤ (l : Int) ∧ (l : Int) ≤ 60) = false by simp; omega, if_neg (fun e => h60 e.1)]; rfl
inductive Tk where
  | lit (c : Nat)
  | far (l k : Nat)
def Tk.z : Tk → Int × Int × Int
  | .lit c => ((c : Int), 0, 0)
  | .far l k => (0, (l : Int), (k : Int))
def Tk.long : Tk → Nat
  | .lit _ => 1
  | .far l _ => l
theorem u8_eq (x y : UInt8) : (((x.toNat : Int)) == ((y.toNat : Int))) = decide (x = y) := by
  by_cases h : x = y
  · subst h; simp
  · have : x.toNat ≠ y.toNat := fun e => h (UInt8.toNat_inj.1 e)
    rw [decide_eq_false h]; simp; omega
end Ev
end
section
set_option linter.unusedVariables false
set_option linter.unusedSimpArgs false
namespace Ev
open Go
def ints (s : Str) : List Int := s.map fun c => (c.toNat : Int)
def longB : List Nat := [0, 0, 0, 0, 0, 0, 0, 0, 1, 1, 1, 1, 2, 2, 2, 2, 3, 3, 3, 3, 4, 4, 4, 4, 5, 5, 5, 5]
def longF : List Nat := [3, 4, 5, 6, 7, 8, 9, 10, 11, 13, 15, 17, 19, 23, 27, 31, 35, 43, 51, 59, 67, 83, 99, 115, 131, 163, 195, 227]
def backB : List Nat := [0, 0, 0, 0, 1, 1, 2, 2, 3, 3, 4, 4, 5, 5, 6, 6, 7, 7, 8, 8, 9, 9, 10, 10, 11, 11, 12, 12, 13, 13]
def backF : List Nat := [1, 2, 3, 4, 5, 7, 9, 13, 17, 25, 33, 49, 65, 97, 129, 193, 257, 385, 513, 769, 1025, 1537, 2049, 3073, 4097, 6145, 8193, 12289, 16385, 24577]
theorem longsOf_eq : longsOf = some (zs longF, zs longB) := by kernel_rfl
theorem backsOf_eq : backsOf = some (zs backF, zs backB) := by kernel_rfl
theorem l5LongBits_eq : l5LongBits = some (zs longB) := by kernel_rfl
theorem l5BackBits_eq : l5BackBits = some (zs backB) := by kernel_rfl
theorem l5Base_long : l5Base (zs longB) 3 = some (zs longF) := by kernel_rfl
theorem l5Base_back : l5Base (zs backB) 1 = some (zs backF) := by kernel_rfl
def fixL : List Nat := List.replicate 144 8 ++ List.replicate 112 9 ++ List.replicate 24 7 ++ List.replicate 8 8
def fixD : List Nat := List.replicate 32 5
theorem fixedLens_eq : fixedLens = some (zs fixL, zs fixD) := by kernel_rfl
theorem l5Fixed_eq : l5Fixed = some (zs fixL) := by kernel_rfl
theorem l5Fives_eq : l5Fives = some (zs fixD) := by kernel_rfl
theorem longB_le (k : Nat) : longB.getD k 0 ≤ 5 := by
  by_cases h : k < 28
  · have : (List.range 28).all (fun k => decide (longB.getD k 0 ≤ 5)) = true := by decide
    simpa using List.all_eq_true.1 this k (List.mem_range.2 h)
  · simp [List.getD, show longB.length = 28 from rfl, Nat.le_of_not_lt h]
theorem backB_le (k : Nat) : backB.getD k 0 ≤ 13 := by
  by_cases h : k < 30
  · have : (List.range 30).all (fun k => decide (backB.getD k 0 ≤ 13)) = true := by decide
    simpa using List.all_eq_true.1 this k (List.mem_range.2 h)
  · simp [List.getD, show backB.length = 30 from rfl, Nat.le_of_not_lt h]
end Ev
end
section
set_option linter.unusedVariables false
set_option linter.unusedSimpArgs false
namespace Ev
open Go
theorem bind_go {α β : Type} (a : α) (f : α → Option β) : (some a).bind f = f a := Eq.trans rfl rfl
end Ev
end
section
set_option linter.unusedVariables false
set_option linter.unusedSimpArgs false
namespace Ev
open Go
abbrev HT := Nat × Nat × List Nat
def bump (out : List Nat) (S : List Nat) : List Nat := (List.range out.length).map fun i => out.getD i 0 + S.count i
theorem bump_length (out S : List Nat) : (bump out S).length = out.length := by simp [bump]
theorem bump_getD (out S : List Nat) (i : Nat) (h : i < out.length) : (bump out S).getD i 0 = out.getD i 0 + S.count i := by
  rw [getD_in (by rw [bump_length]; exact h)]
  simp [bump]
def sumB (out : List Nat) (S : List Nat) : Nat := (S.map fun s => 2 ^ (15 - out.getD s 0)).sum
def fibN : Nat → Nat
  | 0 => 0
  | 1 => 1
  | n + 2 => fibN n + fibN (n + 1)
theorem fibN_up (n : Nat) : fibN n ≤ fibN (n + 1) := by
  cases n with
  | zero => decide
  | succ n => show fibN (n + 1) ≤ fibN n + fibN (n + 1); omega
theorem fibN_mono {a b : Nat} (h : a ≤ b) : fibN a ≤ fibN b := by
  induction h with
  | refl => exact Nat.le_refl _
  | step _ ih => exact Nat.le_trans ih (fibN_up _)
theorem fibN_pos (n : Nat) : 1 ≤ fibN (n + 1) := fibN_mono (a := 1) (by omega)
theorem fibN_deep {d c : Nat} (h : fibN (d + 2) ≤ c) (hc : c ≤ 400) : d ≤ 12 := by
  rcases Nat.lt_or_ge 12 d with h13 | h13
  · have : fibN 15 ≤ fibN (d + 2) := fibN_mono (by omega)
    have : fibN 15 = 610 := by decide
    omega
  · exact h13
structure TOk (out : List Nat) (T : Nat) (e : HT) : Prop where
  fin : e.2.1 ∈ e.2.2
  fle : ∀ s ∈ e.2.2, e.2.1 ≤ s
  lt : ∀ s ∈ e.2.2, s < out.length
  kr : sumB out e.2.2 = 32768
  dep : ∃ d, (∀ s ∈ e.2.2, out.getD s 0 ≤ d) ∧ fibN (d + 2) ≤ e.1 ∧ (1 ≤ d → fibN (d + 1) ≤ T)
  top : T ≤ e.1
structure HInv (out : List Nat) (l : List HT) (T : Nat) (U : List Nat) (tot : Nat) : Prop where
  all : ∀ e ∈ l, TOk out T e
  perm : (l.flatMap fun e => e.2.2).Perm U
  sum : (l.map fun e => e.1).sum = tot
theorem sum_perm {α : Type} {l l' : List α} (f : α → Nat) (h : l.Perm l') : (l.map f).sum = (l'.map f).sum := by
  induction h with
  | nil => rfl
  | cons x _ ih => simp [ih]
  | swap x y l => simp only [List.map_cons, List.sum_cons]; omega
  | trans _ _ a b => exact a.trans b
theorem flat_perm {α β : Type} {l l' : List α} (f : α → List β) (h : l.Perm l') : (l.flatMap f).Perm (l'.flatMap f) := by
  induction h with
  | nil => exact .refl _
  | cons x _ ih => simpa using List.Perm.append_left _ ih
  | swap x y l =>
    simp only [List.flatMap_cons, ← List.append_assoc]
    exact List.Perm.append_right _ List.perm_append_comm
  | trans _ _ a b => exact a.trans b
theorem HInv.of_perm {out : List Nat} {l l' : List HT} {T : Nat} {U : List Nat} {tot : Nat} (h : HInv out l T U tot) (p : l.Perm l') : HInv out l' T U tot :=
  ⟨fun e he => h.all e (p.mem_iff.2 he), (flat_perm _ p).symm.trans h.perm, (sum_perm _ p).symm.trans h.sum⟩
theorem sumB_half (out S : List Nat) (h : ∀ s ∈ S, s < out.length ∧ out.getD s 0 ≤ 14) (out' : List Nat) (h' : ∀ s ∈ S, out'.getD s 0 = out.getD s 0 + 1) : 2 * sumB out' S = sumB out S := by
  induction S with
  | nil => rfl
  | cons s S ih =>
    have := ih (fun x hx => h x (List.mem_cons_of_mem _ hx)) (fun x hx => h' x (List.mem_cons_of_mem _ hx))
    have h1 := h s (List.mem_cons_self ..)
    have h2 := h' s (List.mem_cons_self ..)
    simp only [sumB, List.map_cons, List.sum_cons] at this ⊢
    rw [h2, Nat.mul_add, this]
    congr 1
    rw [show 15 - out.getD s 0 = (15 - (out.getD s 0 + 1)) + 1 by omega, Nat.pow_succ, Nat.mul_comm]
theorem sumB_same (out out' S : List Nat) (h' : ∀ s ∈ S, out'.getD s 0 = out.getD s 0) : sumB out' S = sumB out S := by
  unfold sumB
  congr 1
  exact List.map_congr_left fun s hs => by rw [h' s hs]
theorem sumB_append (out a b : List Nat) : sumB out (a ++ b) = sumB out a + sumB out b := by simp [sumB]
def joinT (a b : HT) : HT := (a.1 + b.1, (if b.2.1 < a.2.1 then b.2.1 else a.2.1), a.2.2 ++ b.2.2)
theorem HInv.step {out : List Nat} {a b : HT} {r : List HT} {T : Nat} {U : List Nat} {tot : Nat} (h : HInv out (a :: b :: r) T U tot) (hU : U.Nodup) (htot : tot ≤ 400) (hab : a.1 ≤ b.1) (hr : ∀ e ∈ r, b.1 ≤ e.1) :
    HInv (bump out (a.2.2 ++ b.2.2)) (joinT a b :: r) b.1 U tot := by
  have ha := h.all a (by simp)
  have hb := h.all b (by simp)
  have hsum := h.sum
  simp only [List.map_cons, List.sum_cons] at hsum
  have hp := h.perm
  simp only [List.flatMap_cons] at hp
  have hnd := (hp.nodup_iff).2 hU
  rw [← List.append_assoc] at hnd
  obtain ⟨da, a1, a2, a3⟩ := ha.dep
  obtain ⟨db, b1, b2, b3⟩ := hb.dep
  have hda := fibN_deep a2 (by omega)
  have hdb := fibN_deep b2 (by omega)
  have hlt : ∀ s ∈ a.2.2 ++ b.2.2, s < out.length := fun s hs => (List.mem_append.1 hs).elim (ha.lt s) (hb.lt s)
  have hone : ∀ s ∈ a.2.2 ++ b.2.2, (bump out (a.2.2 ++ b.2.2)).getD s 0 = out.getD s 0 + 1 := fun s hs => by
    rw [bump_getD out _ s (hlt s hs)]
    have := (List.nodup_append.1 hnd).1
    rw [this.count, if_pos hs]
  have hother : ∀ e ∈ r, ∀ s ∈ e.2.2, (bump out (a.2.2 ++ b.2.2)).getD s 0 = out.getD s 0 := fun e he s hs => by
    rw [bump_getD out _ s ((h.all e (by simp [he])).lt s hs), List.count_eq_zero.2 (fun hm => (List.nodup_append.1 hnd).2.2 s hm s (List.mem_flatMap.2 ⟨e, he, hs⟩) rfl)]; rfl
  refine ⟨fun e he => ?_, ?_, ?_⟩
  · rcases List.mem_cons.1 he with rfl | he
    · have pa := fibN_pos (da + 1)
      have pb := fibN_pos (db + 1)
      refine ⟨?_, fun s hs => ?_, fun s hs => by rw [bump_length]; exact hlt s hs, ?_, ⟨max da db + 1, fun s hs => ?_, ?_, fun _ => ?_⟩, Nat.le_add_left _ _⟩
      · show (if b.2.1 < a.2.1 then b.2.1 else a.2.1) ∈ a.2.2 ++ b.2.2
        split
        · exact List.mem_append_right _ hb.fin
        · exact List.mem_append_left _ ha.fin
      · show (if b.2.1 < a.2.1 then b.2.1 else a.2.1) ≤ s
        rcases List.mem_append.1 hs with hs | hs
        · have := ha.fle s hs; split <;> omega
        · have := hb.fle s hs; split <;> omega
      · have h2 := sumB_half out (a.2.2 ++ b.2.2) (fun s hs => ⟨hlt s hs, by
          rcases List.mem_append.1 hs with hs | hs
          · have := a1 s hs; omega
          · have := b1 s hs; omega⟩) _ hone
        rw [sumB_append out, ha.kr, hb.kr] at h2
        show sumB _ (a.2.2 ++ b.2.2) = 32768
        omega
      · rw [hone s hs]
        rcases List.mem_append.1 hs with hs | hs
        · have := a1 s hs; omega
        · have := b1 s hs; omega
      · show fibN (max da db + 1 + 2) ≤ a.1 + b.1
        have e : fibN (max da db + 1 + 2) = fibN (max da db + 1) + fibN (max da db + 2) := rfl
        rw [e]
        rcases Nat.le_total db da with hd | hd
        · rw [Nat.max_eq_left hd]
          have : fibN (da + 1) ≤ b.1 := by
            rcases Nat.eq_zero_or_pos da with h0 | h0
            · subst h0; exact Nat.le_trans (fibN_pos 0 |> fun _ => (by simpa [fibN] using pb)) b2
            · exact Nat.le_trans (a3 h0) hb.top
          omega
        · rw [Nat.max_eq_right hd]
          have : fibN (db + 1) ≤ a.1 := by
            rcases Nat.eq_zero_or_pos db with h0 | h0
            · subst h0; exact Nat.le_trans (by simpa [fibN] using pa) a2
            · exact Nat.le_trans (b3 h0) ha.top
          omega
      · show fibN (max da db + 1 + 1) ≤ b.1
        rcases Nat.le_total db da with hd | hd
        · rw [Nat.max_eq_left hd]; exact Nat.le_trans a2 hab
        · rw [Nat.max_eq_right hd]; exact b2
    · have he' := h.all e (by simp [he])
      obtain ⟨d, d1, d2, d3⟩ := he'.dep
      exact ⟨he'.fin, he'.fle, fun s hs => by rw [bump_length]; exact he'.lt s hs, (sumB_same _ _ _ (hother e he)).trans he'.kr,
        ⟨d, fun s hs => by rw [hother e he s hs]; exact d1 s hs, d2, fun h1 => Nat.le_trans (d3 h1) hb.top⟩, hr e he⟩
  · simp only [List.flatMap_cons, joinT, List.append_assoc]; exact hp
  · simp only [List.map_cons, List.sum_cons, joinT]; omega
end Ev
end
section
set_option linter.unusedVariables false
set_option linter.unusedSimpArgs false
namespace Ev
open Go
def ltH (x y : HT) : Bool := decide (x.1 < y.1) || (decide (x.1 = y.1) && decide (x.2.1 < y.2.1))
def HT.d : HT := (0, 0, [])
def leastH (l : List HT) : Nat → Nat → Nat → Nat
  | 0, a, _ => a
  | f + 1, a, i => leastH l f (if ltH (l.getD i HT.d) (l.getD a HT.d) then i else a) (i + 1)
def lst (l : List HT) : Nat := leastH l (l.length - 1) 0 1
def less (l : List HT) (k : Nat) : List HT := l.take k ++ l.drop (k + 1)
theorem leastH_spec (l : List HT) : ∀ (f a i : Nat), i + f = l.length → a < l.length → (∀ j, j < i → (l.getD a HT.d).1 ≤ (l.getD j HT.d).1) →
    leastH l f a i < l.length ∧ ∀ j, j < l.length → (l.getD (leastH l f a i) HT.d).1 ≤ (l.getD j HT.d).1
  | 0, a, i, h, ha, hj => ⟨ha, fun j hl => hj j (by omega)⟩
  | f + 1, a, i, h, ha, hj => by
    rw [leastH]
    by_cases c : ltH (l.getD i HT.d) (l.getD a HT.d) = true
    · rw [if_pos c]
      refine leastH_spec l f i (i + 1) (by omega) (by omega) fun j hl => ?_
      have : (l.getD i HT.d).1 ≤ (l.getD a HT.d).1 := by
        simp only [ltH, Bool.or_eq_true, Bool.and_eq_true, decide_eq_true_eq] at c; omega
      by_cases e : j = i
      · subst e; exact Nat.le_refl _
      · have := hj j (by omega); omega
    · rw [if_neg c]
      refine leastH_spec l f a (i + 1) (by omega) ha fun j hl => ?_
      by_cases e : j = i
      · subst e
        simp only [ltH, Bool.or_eq_true, Bool.and_eq_true, decide_eq_true_eq] at c; omega
      · exact hj j (by omega)
theorem lst_spec (l : List HT) (h : 0 < l.length) : lst l < l.length ∧ ∀ e ∈ l, (l.getD (lst l) HT.d).1 ≤ e.1 := by
  have := leastH_spec l (l.length - 1) 0 1 (by omega) h (fun j hj => by rw [show j = 0 by omega]; exact Nat.le_refl _)
  refine ⟨this.1, fun e he => ?_⟩
  obtain ⟨j, hj, rfl⟩ := List.getElem_of_mem he
  have h2 := this.2 j hj
  rw [getD_in hj] at h2
  exact h2
theorem less_perm (l : List HT) (k : Nat) (h : k < l.length) : l.Perm (l.getD k HT.d :: less l k) := by
  have e : l = l.take k ++ (l.getD k HT.d :: l.drop (k + 1)) := by
    rw [getD_in h, ← List.drop_eq_getElem_cons h, List.take_append_drop]
  have p := List.perm_middle (a := l.getD k HT.d) (l₁ := l.take k) (l₂ := l.drop (k + 1))
  have : l.Perm (l.take k ++ (l.getD k HT.d :: l.drop (k + 1))) := by rw [← e]
  exact this.trans p
theorem less_length (l : List HT) (k : Nat) (h : k < l.length) : (less l k).length + 1 = l.length := by
  have := (less_perm l k h).length_eq
  simpa using this.symm
def fstA (l : List HT) : HT := l.getD (lst l) HT.d
def sndA (l : List HT) : HT := fstA (less l (lst l))
def restA (l : List HT) : List HT := less (less l (lst l)) (lst (less l (lst l)))
theorem pairA (l : List HT) (h : 1 < l.length) : l.Perm (fstA l :: sndA l :: restA l) ∧ (fstA l).1 ≤ (sndA l).1 ∧ (∀ e ∈ restA l, (sndA l).1 ≤ e.1) ∧ (restA l).length + 2 = l.length := by
  obtain ⟨h1, h2⟩ := lst_spec l (by omega)
  have p1 := less_perm l (lst l) h1
  have n1 := less_length l (lst l) h1
  obtain ⟨h3, h4⟩ := lst_spec (less l (lst l)) (by omega)
  have p2 := less_perm (less l (lst l)) _ h3
  have n2 := less_length (less l (lst l)) _ h3
  have pp : l.Perm (fstA l :: sndA l :: restA l) := p1.trans (p2.cons _)
  refine ⟨pp, h2 _ (pp.mem_iff.2 (by simp)), fun e he => h4 e (p2.mem_iff.2 (List.mem_cons_of_mem _ he)), ?_⟩
  unfold restA; omega
theorem HInv.next {out : List Nat} {l : List HT} {T : Nat} {U : List Nat} {tot : Nat} (h : HInv out l T U tot) (hU : U.Nodup) (htot : tot ≤ 400) (hl : 1 < l.length) :
    HInv (bump out ((fstA l).2.2 ++ (sndA l).2.2)) (restA l ++ [joinT (fstA l) (sndA l)]) (sndA l).1 U tot ∧ (restA l ++ [joinT (fstA l) (sndA l)]).length + 1 = l.length := by
  obtain ⟨p, h1, h2, h3⟩ := pairA l hl
  refine ⟨((h.of_perm p).step hU htot h1 h2).of_perm ?_, by simp; omega⟩
  exact (List.perm_append_comm (l₁ := [joinT (fstA l) (sndA l)]) (l₂ := restA l))
end Ev
end
section
set_option linter.unusedVariables false
set_option linter.unusedSimpArgs false
namespace Ev
open Go
theorem HInv.some {out : List Nat} {l : List HT} {T : Nat} {U : List Nat} {tot : Nat} (h : HInv out l T U tot) (ht : tot ≤ 400) (hU : U.length ≤ 400) (e : HT) (he : e ∈ l) : e.1 ≤ 400 ∧ e.2.2.length ≤ 400 ∧ e.2.1 < out.length ∧ ∀ s ∈ e.2.2, s < out.length ∧ out.getD s 0 ≤ 1000 := by
  have hk := h.all e he
  have h1 : e.1 ≤ tot := by
    rw [← h.sum]
    obtain ⟨a, b, rfl⟩ := List.append_of_mem he
    simp; omega
  obtain ⟨d, d1, d2, d3⟩ := hk.dep
  have hd := fibN_deep d2 (by omega)
  refine ⟨by omega, ?_, hk.lt _ hk.fin, fun s hs => ⟨hk.lt s hs, by have := d1 s hs; omega⟩⟩
  have := h.perm.length_eq
  obtain ⟨a, b, rfl⟩ := List.append_of_mem he
  simp only [List.flatMap_append, List.flatMap_cons, List.length_append] at this
  omega
end Ev
end
section
set_option linter.unusedVariables false
set_option linter.unusedSimpArgs false
namespace Ev
open Go
abbrev QT := HT × List Nat
def QT.d : QT := (HT.d, [])
end Ev
end
section
set_option linter.unusedVariables false
set_option linter.unusedSimpArgs false
namespace Ev
open Go
def orderL : List Nat := [16, 17, 18, 0, 8, 7, 9, 6, 10, 5, 11, 4, 12, 3, 13, 2, 14, 1, 15]
theorem orderL_lt (i : Nat) (h : i < 19) : orderL.getD i 0 < 19 := by
  have : (List.range 19).all (fun k => decide (orderL.getD k 0 < 19)) = true := by decide
  simpa using List.all_eq_true.1 this i (List.mem_range.2 h)
end Ev
end
section
set_option linter.unusedVariables false
set_option linter.unusedSimpArgs false
namespace Ev
open Go
def mFar (ds : List Nat) (go : List Bool → List Int → Option (List Bool × List Int)) (c : Nat) (l1 : List Bool) (out : List Int) : Option (List Bool × List Int) :=
  match mSym ds (mNum (longB.getD c 0) (some l1)) with
  | none => none
  | some (k, l3) => if 30 ≤ k then none else match mNum (backB.getD k 0) (some l3) with
    | none => none
    | some l4 => match farM out (longF.getD c 0 + valB (l1.take (longB.getD c 0))) (backF.getD k 0 + valB (l3.take (backB.getD k 0))) with
      | none => none
      | some o => go l4 o
def mStep (ls ds : List Nat) (go : List Bool → List Int → Option (List Bool × List Int)) (l : List Bool) (out : List Int) : Option (List Bool × List Int) :=
  if 300 < out.length then none else match mSym ls (some l) with
  | none => none
  | some (i, l1) => if i = 256 then some (l1, out) else if i < 256 then go l1 (out ++ [(i : Int)]) else if 28 ≤ i - 257 then none else mFar ds go (i - 257) l1 out
def mTok (ls ds : List Nat) : Nat → List Bool → List Int → Option (List Bool × List Int)
  | 0 => fun _ _ => none
  | f + 1 => mStep ls ds (mTok ls ds f)
theorem mTok_succ (ls ds : List Nat) (f : Nat) (l : List Bool) (out : List Int) : mTok ls ds (f + 1) l out = mStep ls ds (mTok ls ds f) l out := rfl
theorem symGo_less (ns : List Nat) : ∀ (f l c : Nat) (b : List Bool) {i : Nat} {r : List Bool}, symGo ns f l c b = some (i, r) → r.length < b.length ∧ i < ns.length
  | 0, l, c, b, i, r, h => by simp [symGo] at h
  | f + 1, l, c, [], i, r, h => by simp [symGo] at h
  | f + 1, l, c, x :: b, i, r, h => by
    simp only [symGo] at h
    cases hf : findB ns ns.length (2 * c + x.toNat) l with
    | none =>
      rw [hf] at h
      have := symGo_less ns f (l + 1) _ b h
      exact ⟨by simp; omega, this.2⟩
    | some j =>
      rw [hf] at h
      obtain ⟨rfl, rfl⟩ := Prod.mk.inj (Option.some.inj h)
      exact ⟨by simp, (findB_some hf).1⟩
theorem mSym_less {ns : List Nat} {b : List Bool} {i : Nat} {r : List Bool} (h : mSym ns (some b) = some (i, r)) : r.length < b.length ∧ i < ns.length := symGo_less ns 15 1 0 b h
theorem mNum_less {k : Nat} {b r : List Bool} (h : mNum k (some b) = some r) : k ≤ b.length ∧ r = b.drop k := by
  simp only [mNum] at h
  split at h
  · rename_i c; exact ⟨c, (Option.some.inj h).symm⟩
  · cases h
def PackPost (s : Str) (m : Option (List Bool × List Int)) (x : Option (Str × Int × Bool × List Int)) (y : Option (Str × Int × Bool)) : Prop := match m with
  | some (l, o) => ∃ a, x = some (s, a, false, o) ∧ Rs s a false (some l)
  | none => (∃ a b o, x = some (s, a, b, o) ∧ (b = true ∨ 300 < o.length)) ∨ (x = none ∧ ∃ a, y = some (s, a, true))
def gP (r : (Str × Int × Bool × List Int) ⊕ (Str × Int × Bool × List Int)) : Option (Str × Int × Bool × List Int) := match r with
  | .inl (o5, o6, o7, out2) => some (o5, o6, o7, out2)
  | .inr r => some r
def gB (r : (Str × Int × Bool × List Int) ⊕ (Str × Int × Bool)) : Option (Str × Int × Bool) := match r with
  | .inl (o5, o6, o7, out2) => some (o5, o6, o7)
  | .inr r => some r
theorem longF_ge (k : Nat) (h : k < 28) : 3 ≤ longF.getD k 0 ∧ longF.getD k 0 ≤ 1000 := by
  have : (List.range 28).all (fun k => decide (3 ≤ longF.getD k 0 ∧ longF.getD k 0 ≤ 1000)) = true := by decide
  simpa using List.all_eq_true.1 this k (List.mem_range.2 h)
theorem backF_ge (k : Nat) (h : k < 30) : 1 ≤ backF.getD k 0 ∧ backF.getD k 0 ≤ 100000 := by
  have : (List.range 30).all (fun k => decide (1 ≤ backF.getD k 0 ∧ backF.getD k 0 ≤ 100000)) = true := by decide
  simpa using List.all_eq_true.1 this k (List.mem_range.2 h)
theorem farM_length {out o : List Int} {l k : Nat} (h : farM out l k = some o) : o.length ≤ out.length + 60 := by
  unfold farM at h
  split at h
  · rename_i c
    rw [← Option.some.inj h, copyM_length]; omega
  · cases h
theorem wrap_u8 (n : Nat) (h : n < 256) : IntKind.wrap .u8 (n : Int) = (n : Int) := by
  have := IntKind.wrap_u8 (n : Int)
  rw [this]; omega
set_option maxRecDepth 100000 in
theorem rPacked_go {s : Str} (hs : s.length ≤ 1000000000) (ls ds : List Nat) (hls : ls.length ≤ 1000) (hds : ds.length ≤ 1000) {A B : List ((Int × Int) × Int)} (hA : BookP ls ls.length A) (hB : BookP ds ds.length B) : ∀ (f F : Nat) (l : List Bool) (out : List Int) (at_ : Int), l.length < f → f ≤ F → out.length ≤ 400 → Rs s at_ false (some l) →
    PackPost s (mTok ls ds f l out) ((rPacked.l0 F (s, at_, false, out, A, B)).bind gP) ((rPackedBad.l0 F (s, at_, false, out, A, B)).bind gB) := by
  intro f
  induction f with
  | zero => intro F l out at_ hf hF ho h; exact absurd hf (Nat.not_lt_zero _)
  | succ f ih =>
    intro F l out at_ hf hF ho h
    cases F with
    | zero => exact absurd hF (by omega)
    | succ F =>
    rw [rPacked.l0.succ, rPackedBad.l0.succ]; simp only [rPacked.l0.step, rPackedBad.l0.step]
    simp only [Bool.not_false, cond_true, bind_go]
    rw [mTok_succ]
    unfold mStep
    by_cases h300 : 300 < out.length
    · rw [if_pos h300, decide_eq_false (by omega), cond_false]
      exact .inl ⟨at_, false, out, rfl, .inr h300⟩
    rw [if_neg h300, decide_eq_true (by omega), cond_true, cond_true]
    obtain ⟨⟨r, s1, a1, b1, A1⟩, e1, hs1, hA1, hp⟩ := rSymbol_st hs ls hA h
    dsimp only at e1 hs1 hA1 hp
    subst s1
    subst A1
    rw [e1]
    simp only [bind_go]
    cases hm : mSym ls (some l) with
    | none =>
      rw [hm] at hp
      obtain ⟨rfl, hr⟩ := hp
      have hb : b1 = true := hr.1
      subst hb
      simp only [cond_true, bind_go]
      exact .inl ⟨a1, true, out, rfl, .inl rfl⟩
    | some p =>
      obtain ⟨i, l1⟩ := p
      rw [hm] at hp
      obtain ⟨rfl, hr⟩ := hp
      obtain ⟨hless, hin⟩ := mSym_less hm
      have hb : b1 = false := hr.1
      subst hb
      simp only [cond_false, bind_go]
      by_cases h256 : i = 256
      · subst h256
        rw [if_pos rfl, show (((256 : Nat) : Int) == 256) = true by simp]
        simp only [cond_true]
        exact ⟨a1, rfl, hr⟩
      rw [if_neg h256, show ((i : Int) == 256) = false by simp; omega]
      simp only [cond_false]
      by_cases hlt : i < 256
      · rw [if_pos hlt, decide_eq_true (by omega), cond_true, cond_true, need_fits (by simp; omega), need_fits (by simp; omega), wrap_u8 i hlt]
        exact ih F l1 (out ++ [(i : Int)]) a1 (by omega) (by omega) (by simp; omega) hr
      rw [if_neg hlt, decide_eq_false (by omega), cond_false, cond_false, w64_id (n := (i : Int) - 257) (by omega) (by omega), show (i : Int) - 257 = ((i - 257 : Nat) : Int) by omega]
      by_cases h28 : 28 ≤ i - 257
      · rw [if_pos h28, decide_eq_true (by omega), cond_true, cond_true]
        exact .inl ⟨a1, true, out, rfl, .inl rfl⟩
      rw [if_neg h28, decide_eq_false (by omega), cond_false, cond_false]
      have eL := longsOf_eq
      have eB := backsOf_eq
      have gL := fun i : Nat => zs_getD longF i
      have gM := fun i : Nat => zs_getD longB i
      have gK := fun i : Nat => zs_getD backF i
      have gC := fun i : Nat => zs_getD backB i
      have nL : (zs longF).length = 28 := zs_length longF
      have nM : (zs longB).length = 28 := zs_length longB
      have nB : (zs backF).length = 30 := zs_length backF
      have nC : (zs backB).length = 30 := zs_length backB
      generalize zs longF = A1 at eL gL nL
      generalize zs longB = A2 at eL gM nM
      generalize zs backF = A3 at eB gK nB
      generalize zs backB = A4 at eB gC nC
      have hlb := longB_le (i - 257)
      rw [eL, eB]
      simp only [bind_go]
      rw [need_true _ (idx_in (by omega)), need_true _ (idx_in (by omega)), need_true _ (idx_in (by omega)), need_true _ (idx_in (by omega)), Int.toNat_natCast, gL, gM]
      obtain ⟨⟨v, s2, a2, b2⟩, e2, hs2, ⟨n, hv, hn, hnv⟩, hr2⟩ := rGet_st hs (longB.getD (i - 257) 0) (by omega) hr
      dsimp only at e2 hs2 hv hr2
      subst s2
      subst hv
      rw [e2]
      simp only [bind_go]
      obtain ⟨⟨k, s3, a3, b3, A5⟩, e3, hs3, hA3, hp3⟩ := rSymbol_st hs ds hB hr2
      dsimp only at e3 hs3 hA3 hp3
      subst s3
      subst A5
      rw [e3]
      simp only [bind_go]
      have hn5 : n < 2 ^ 5 := Nat.lt_of_lt_of_le hn (Nat.pow_le_pow_right (by omega) hlb)
      have hl1 := longF_ge (i - 257) (by omega)
      -- the distance's symbol, and where the reader stands then
      have hk : ∃ (kk : Nat) (m3 : Option (List Bool)), k = (kk : Int) ∧ Rs s a3 b3 m3 ∧ ((mSym ds (mNum (longB.getD (i - 257) 0) (some l1)) = none ∧ kk = 0 ∧ m3 = none) ∨ ∃ l3, mSym ds (mNum (longB.getD (i - 257) 0) (some l1)) = some (kk, l3) ∧ m3 = some l3) := by
        cases hm3 : mSym ds (mNum (longB.getD (i - 257) 0) (some l1)) with
        | none => rw [hm3] at hp3; exact ⟨0, none, hp3.1, hp3.2, .inl ⟨rfl, rfl, rfl⟩⟩
        | some p => obtain ⟨kk, l3⟩ := p; rw [hm3] at hp3; exact ⟨kk, some l3, hp3.1, hp3.2, .inr ⟨l3, rfl, rfl⟩⟩
      obtain ⟨kk, m3, rfl, hr3, hk⟩ := hk
      by_cases h30 : 30 ≤ kk
      · rw [decide_eq_true (by omega), cond_true, cond_true]
        rcases hk with ⟨_, h0, _⟩ | ⟨l3, hm3, _⟩
        · omega
        · have hz : mFar ds (mTok ls ds f) (i - 257) l1 out = none := by
            unfold mFar
            rw [hm3]
            dsimp only
            rw [if_pos h30]
          rw [hz]
          exact .inl ⟨a3, true, out, rfl, .inl rfl⟩
      rw [decide_eq_false (by omega), cond_false, cond_false]
      have hbb := backB_le kk
      have hb1 := backF_ge kk (by omega)
      rw [need_true _ (idx_in (by omega)), need_true _ (idx_in (by omega)), need_true _ (idx_in (by omega)), need_true _ (idx_in (by omega)), Int.toNat_natCast, gK, gC]
      obtain ⟨⟨w, s4, a4, b4⟩, e4, hs4, ⟨u, hw, hu, huv⟩, hr4⟩ := rGet_st hs (backB.getD kk 0) (by omega) hr3
      dsimp only at e4 hs4 hw hr4
      subst s4
      subst hw
      rw [e4]
      simp only [bind_go]
      have hu13 : u < 2 ^ 13 := Nat.lt_of_lt_of_le hu (Nat.pow_le_pow_right (by omega) hbb)
      rw [w64_id (n := ((longF.getD (i - 257) 0 : Nat) : Int) + (n : Int)) (by omega) (by omega), w64_id (n := ((backF.getD kk 0 : Nat) : Int) + (u : Int)) (by omega) (by omega),
        show ((longF.getD (i - 257) 0 : Nat) : Int) + (n : Int) = ((longF.getD (i - 257) 0 + n : Nat) : Int) by omega, show ((backF.getD kk 0 : Nat) : Int) + (u : Int) = ((backF.getD kk 0 + u : Nat) : Int) by omega,
        add_far _ _ out (by omega) (by omega) (by omega)]
      simp only [bind_go]
      -- either all was read, or the reader has failed
      cases hm4 : mNum (backB.getD kk 0) m3 with
      | none =>
        rw [hm4] at hr4
        have hb : b4 = true := hr4.1
        subst hb
        have hmodel : mFar ds (mTok ls ds f) (i - 257) l1 out = none := by
          unfold mFar
          rcases hk with ⟨h0, _, _⟩ | ⟨l3, h0, rfl⟩
          · rw [h0]
          · rw [h0]
            dsimp only
            rw [if_neg h30, hm4]
        rw [hmodel]
        have hc : ∀ x : Bool, (bif !x then some true else some true) = some true := fun x => by cases x <;> rfl
        rw [hc]
        exact .inr ⟨rfl, a4, rfl⟩
      | some l4 =>
        rw [hm4] at hr4
        have hb : b4 = false := hr4.1
        subst hb
        rcases hk with ⟨_, _, rfl⟩ | ⟨l3, h0, rfl⟩
        · simp [mNum] at hm4
        · -- the numbers are those of the bits
          have hm2 : ∃ l2, mNum (longB.getD (i - 257) 0) (some l1) = some l2 := by
            cases h2 : mNum (longB.getD (i - 257) 0) (some l1) with
            | none => rw [h2] at h0; simp [mSym] at h0
            | some l2 => exact ⟨l2, rfl⟩
          obtain ⟨l2, hm2⟩ := hm2
          obtain ⟨hlen2, hl2⟩ := mNum_less hm2
          obtain ⟨hlen4, hl4⟩ := mNum_less hm4
          rw [hm2] at h0
          have hl3 := (mSym_less h0).1
          have hmodel : mFar ds (mTok ls ds f) (i - 257) l1 out = match farM out (longF.getD (i - 257) 0 + valB (l1.take (longB.getD (i - 257) 0))) (backF.getD kk 0 + valB (l3.take (backB.getD kk 0))) with
              | none => none
              | some o => mTok ls ds f l4 o := by
            unfold mFar
            rw [hm2, h0]
            dsimp only
            rw [if_neg h30, hm4]
          rw [hmodel, hnv l1 rfl hlen2, huv l3 rfl hlen4]
          cases hfm : farM out (longF.getD (i - 257) 0 + valB (l1.take (longB.getD (i - 257) 0))) (backF.getD kk 0 + valB (l3.take (backB.getD kk 0))) with
          | none => exact .inr ⟨rfl, a4, rfl⟩
          | some o =>
            have hol := farM_length hfm
            have hd4 : l4.length < l.length := by
              rw [hl4, List.length_drop]
              rw [hl2, List.length_drop] at hl3
              omega
            exact ih F l4 o a4 (by omega) (by omega) (by omega) hr4
end Ev
end
section
set_option linter.unusedVariables false
set_option linter.unusedSimpArgs false
namespace Ev
open Go
def mPack (ls ds : List Nat) (m : Option (List Bool)) (out : List Int) : Option (List Bool × List Int) := match m with
  | none => none
  | some l => if lensM ls && lensM ds then mTok ls ds (l.length + 1) l out else none
theorem lensM_le {ns : List Nat} (h : lensM ns = true) : ns.length ≤ 300 ∧ ∀ n ∈ ns, n ≤ 15 := by
  simp only [lensM, Bool.and_eq_true, decide_eq_true_eq, List.all_eq_true] at h
  exact ⟨h.1, h.2.1⟩
theorem rPacked_eq {s : Str} (hs : s.length ≤ 1000000000) (ls ds : List Nat) (out : List Int) (ho : out.length ≤ 400) {at_ : Int} {bad : Bool} {m : Option (List Bool)} (h : Rs s at_ bad m) (hm : ∀ l, m = some l → l.length ≤ 99990) :
    PackPost s (mPack ls ds m out) (rPacked (zs ls) (zs ds) s at_ bad out) (rPackedBad (zs ls) (zs ds) s at_ bad out) := by
  unfold rPacked rPackedBad
  cases m with
  | none =>
    have hb : bad = true := h.1
    subst hb
    exact .inl ⟨at_, true, out, rfl, .inl rfl⟩
  | some l =>
    have hb : bad = false := h.1
    subst hb
    simp only [cond_false]
    rw [lensOk_eq, lensOk_eq]
    simp only [bind_go]
    unfold mPack
    dsimp only
    by_cases h1 : lensM ls = true
    · by_cases h2 : lensM ds = true
      · rw [h1, h2]
        simp only [Bool.not_true, cond_false, bind_go, Bool.and_self, if_true]
        obtain ⟨n1, n2⟩ := lensM_le h1
        obtain ⟨n3, n4⟩ := lensM_le h2
        obtain ⟨A, eA, hA⟩ := bookOf_ret ls (by omega) n2
        obtain ⟨B, eB, hB⟩ := bookOf_ret ds (by omega) n4
        rw [eA, eB]
        simp only [bind_go]
        have := hm l rfl
        exact rPacked_go hs ls ds (by omega) (by omega) hA hB (l.length + 1) 100000 l out at_ (by omega) (by omega) ho h
      · have h2 : lensM ds = false := by simpa using h2
        rw [h1, h2]
        exact .inl ⟨at_, true, out, rfl, .inl rfl⟩
    · have h1 : lensM ls = false := by simpa using h1
      rw [h1]
      exact .inl ⟨at_, true, out, rfl, .inl rfl⟩
def mPair (l : List Bool) (o : List Int) : Option (List Bool × List Int) := some (l, o)
theorem mFar_bind (ds : List Nat) (go : List Bool → List Int → Option (List Bool × List Int)) (c : Nat) (l1 : List Bool) (out : List Int) : mFar ds go c l1 out = (mFar ds mPair c l1 out).bind fun p => go p.1 p.2 := by
  unfold mFar
  cases mSym ds (mNum (longB.getD c 0) (some l1)) with
  | none => rfl
  | some p =>
    obtain ⟨k, l3⟩ := p
    dsimp only
    by_cases h : 30 ≤ k
    · rw [if_pos h, if_pos h]; rfl
    · rw [if_neg h, if_neg h]
      cases mNum (backB.getD k 0) (some l3) with
      | none => rfl
      | some l4 =>
        dsimp only
        cases farM out (longF.getD c 0 + valB (l1.take (longB.getD c 0))) (backF.getD k 0 + valB (l3.take (backB.getD k 0))) with
        | none => rfl
        | some o => rfl
theorem mFar_less {ds : List Nat} {c : Nat} {l1 l4 : List Bool} {out o : List Int} (h : mFar ds mPair c l1 out = some (l4, o)) : l4.length < l1.length ∧ o.length ≤ out.length + 60 := by
  unfold mFar at h
  cases h2 : mNum (longB.getD c 0) (some l1) with
  | none => rw [h2] at h; simp [mSym] at h
  | some l2 =>
    rw [h2] at h
    have e2 := mNum_less h2
    cases h3 : mSym ds (some l2) with
    | none => rw [h3] at h; simp at h
    | some p =>
      obtain ⟨k, l3⟩ := p
      rw [h3] at h
      dsimp only at h
      have e3 := (mSym_less h3).1
      by_cases h30 : 30 ≤ k
      · rw [if_pos h30] at h; cases h
      · rw [if_neg h30] at h
        cases h4 : mNum (backB.getD k 0) (some l3) with
        | none => rw [h4] at h; simp at h
        | some l4' =>
          rw [h4] at h
          dsimp only at h
          have e4 := mNum_less h4
          cases h5 : farM out (longF.getD c 0 + valB (l1.take (longB.getD c 0))) (backF.getD k 0 + valB (l3.take (backB.getD k 0))) with
          | none => rw [h5] at h; simp at h
          | some o' =>
            rw [h5] at h
            obtain ⟨rfl, rfl⟩ := Prod.mk.inj (Option.some.inj h)
            have := farM_length h5
            rw [e4.2, List.length_drop]
            have := e2.2
            subst this
            rw [List.length_drop] at e3
            omega
def TokPost (s : Str) (m : Option (List Bool × List Int)) (r : Str × Int × Bool × List Int) : Prop := r.1 = s ∧ match m with
  | some (l, o) => r.2.2.1 = false ∧ Rs s r.2.1 false (some l) ∧ r.2.2.2 = o
  | none => r.2.2.1 = true ∧ Rs s r.2.1 true none
set_option maxRecDepth 100000 in
theorem sAgain_st {s : Str} (hs : s.length ≤ 1000000000) (ds : List Nat) (hds : ds.length ≤ 1000) (hd : ∀ n ∈ ds, n ≤ 15) (i : Nat) (hi : 257 ≤ i) (hi2 : i ≤ 100000) (l1 : List Bool) (out : List Int) (ho : out.length ≤ 400) (a1 : Int) (hr : Rs s a1 false (some l1)) :
    Ret (sAgain (i : Int) (zs ds) (zs (codesM ds)) s a1 false out) (TokPost s (if 28 ≤ i - 257 then none else mFar ds mPair (i - 257) l1 out)) := by
  unfold sAgain
  rw [w64_id (n := (i : Int) - 257) (by omega) (by omega), show (i : Int) - 257 = ((i - 257 : Nat) : Int) by omega]
  have eM := l5LongBits_eq
  have eC := l5BackBits_eq
  have eL := l5Base_long
  have eK := l5Base_back
  have gL := fun i : Nat => zs_getD longF i
  have gM := fun i : Nat => zs_getD longB i
  have gK := fun i : Nat => zs_getD backF i
  have gC := fun i : Nat => zs_getD backB i
  have nL : (zs longF).length = 28 := zs_length longF
  have nM : (zs longB).length = 28 := zs_length longB
  have nB : (zs backF).length = 30 := zs_length backF
  have nC : (zs backB).length = 30 := zs_length backB
  generalize zs longF = A1 at eL gL nL
  generalize zs longB = A2 at eM eL gM nM
  generalize zs backF = A3 at eK gK nB
  generalize zs backB = A4 at eC eK gC nC
  rw [eM, eC]
  simp only [bind_go]
  rw [nM]
  by_cases h28 : 28 ≤ i - 257
  · rw [if_pos h28, decide_eq_true (by omega), cond_true]
    exact .pure ⟨rfl, rfl, hr.fail⟩
  rw [if_neg h28, decide_eq_false (by omega), cond_false, eL]
  have hlb := longB_le (i - 257)
  simp only [bind_go]
  rw [need_true _ (idx_in (by omega)), need_true _ (idx_in (by omega)), Int.toNat_natCast, gL, gM]
  obtain ⟨⟨v, s2, a2, b2⟩, e2, hs2, ⟨n, hv, hn, hnv⟩, hr2⟩ := sNum_st hs (longB.getD (i - 257) 0) (by omega) hr
  dsimp only at e2 hs2 hv hr2
  subst s2
  subst hv
  rw [e2]
  simp only [bind_go]
  obtain ⟨⟨k, s3, a3, b3⟩, e3, hs3, hp3⟩ := sSymbol_st hs ds hds hd hr2
  dsimp only at e3 hs3 hp3
  subst s3
  rw [e3]
  simp only [bind_go]
  have hn5 : n < 2 ^ 5 := Nat.lt_of_lt_of_le hn (Nat.pow_le_pow_right (by omega) hlb)
  have hl1 := longF_ge (i - 257) (by omega)
  unfold mFar
  cases hm3 : mSym ds (mNum (longB.getD (i - 257) 0) (some l1)) with
  | none =>
    rw [hm3] at hp3
    have hb : b3 = true := hp3.2.2.1
    subst hb
    simp only [cond_true]
    exact .pure ⟨rfl, rfl, hp3.2.2⟩
  | some p =>
    obtain ⟨kk, l3⟩ := p
    rw [hm3] at hp3
    obtain ⟨rfl, hr3⟩ := hp3
    have hb : b3 = false := hr3.1
    subst hb
    simp only [cond_false]
    try dsimp only
    by_cases h30 : 30 ≤ kk
    · rw [if_pos h30, nC, decide_eq_true (by omega), cond_true]
      exact .pure ⟨rfl, rfl, hr3.fail⟩
    rw [if_neg h30, nC, decide_eq_false (by omega), cond_false, eK]
    have hbb := backB_le kk
    have hb1 := backF_ge kk (by omega)
    simp only [bind_go]
    rw [need_true _ (idx_in (by omega)), need_true _ (idx_in (by omega)), Int.toNat_natCast, gK, gC]
    obtain ⟨⟨w, s4, a4, b4⟩, e4, hs4, ⟨u, hw, hu, huv⟩, hr4⟩ := sNum_st hs (backB.getD kk 0) (by omega) hr3
    dsimp only at e4 hs4 hw hr4
    subst s4
    subst hw
    rw [e4]
    simp only [bind_go]
    have hu13 : u < 2 ^ 13 := Nat.lt_of_lt_of_le hu (Nat.pow_le_pow_right (by omega) hbb)
    rw [w64_id (n := ((longF.getD (i - 257) 0 : Nat) : Int) + (n : Int)) (by omega) (by omega), w64_id (n := ((backF.getD kk 0 : Nat) : Int) + (u : Int)) (by omega) (by omega),
      show ((longF.getD (i - 257) 0 : Nat) : Int) + (n : Int) = ((longF.getD (i - 257) 0 + n : Nat) : Int) by omega, show ((backF.getD kk 0 : Nat) : Int) + (u : Int) = ((backF.getD kk 0 + u : Nat) : Int) by omega,
      l4Add_far _ _ out (by omega) (by omega) (by omega)]
    simp only [bind_go]
    cases hm4 : mNum (backB.getD kk 0) (some l3) with
    | none =>
      rw [hm4] at hr4
      have hb : b4 = true := hr4.1
      subst hb
      cases (farM out (longF.getD (i - 257) 0 + n) (backF.getD kk 0 + u)).isSome
      · exact .pure ⟨rfl, rfl, hr4⟩
      · exact .pure ⟨rfl, rfl, hr4⟩
    | some l4 =>
      rw [hm4] at hr4
      have hb : b4 = false := hr4.1
      subst hb
      have hm2 : ∃ l2, mNum (longB.getD (i - 257) 0) (some l1) = some l2 := by
        cases h2 : mNum (longB.getD (i - 257) 0) (some l1) with
        | none => rw [h2] at hm3; simp [mSym] at hm3
        | some l2 => exact ⟨l2, rfl⟩
      obtain ⟨l2, hm2⟩ := hm2
      obtain ⟨hlen2, hl2⟩ := mNum_less hm2
      obtain ⟨hlen4, hl4⟩ := mNum_less hm4
      rw [hnv l1 rfl hlen2, huv l3 rfl hlen4]
      dsimp only
      cases hfm : farM out (longF.getD (i - 257) 0 + valB (l1.take (longB.getD (i - 257) 0))) (backF.getD kk 0 + valB (l3.take (backB.getD kk 0))) with
      | none => exact .pure ⟨rfl, rfl, hr4.fail⟩
      | some o => exact .pure ⟨rfl, rfl, hr4, rfl⟩
def gS (r : (Str × Int × Bool × List Int) ⊕ (Str × Int × Bool × List Int)) : Option (Str × Int × Bool × List Int) := match r with
  | .inl (o3, o4, o5, text2) => some (o3, o4, true, text2)
  | .inr r => some r
set_option maxRecDepth 100000 in
theorem sTokens_go {s : Str} (hs : s.length ≤ 1000000000) (ls ds : List Nat) (hls : ls.length ≤ 1000) (hds : ds.length ≤ 1000) (hl : ∀ n ∈ ls, n ≤ 15) (hd : ∀ n ∈ ds, n ≤ 15) : ∀ (f F : Nat) (l : List Bool) (out : List Int) (at_ : Int), l.length < f → f < F → out.length ≤ 10000 → Rs s at_ false (some l) →
    Ret ((sTokens.l0 F (zs ls, zs ds, s, at_, false, out, zs (codesM ls), zs (codesM ds))).bind gS) (TokPost s (mTok ls ds f l out)) := by
  intro f
  induction f with
  | zero => intro F l out at_ hf hF ho h; exact absurd hf (Nat.not_lt_zero _)
  | succ f ih =>
    intro F l out at_ hf hF ho h
    cases F with
    | zero => exact absurd hF (by omega)
    | succ F =>
    rw [sTokens.l0.succ]; simp only [sTokens.l0.step]
    simp only [Bool.not_false, cond_true, bind_go]
    rw [mTok_succ]
    unfold mStep
    by_cases h300 : 300 < out.length
    · rw [if_pos h300, decide_eq_false (by omega), cond_false]
      exact .pure ⟨rfl, rfl, h.fail⟩
    rw [if_neg h300, decide_eq_true (by omega), cond_true]
    obtain ⟨⟨r, s1, a1, b1⟩, e1, hs1, hp⟩ := sSymbol_st hs ls hls hl h
    dsimp only at e1 hs1 hp
    subst s1
    rw [e1]
    simp only [bind_go]
    cases hm : mSym ls (some l) with
    | none =>
      rw [hm] at hp
      have hb : b1 = true := hp.2.2.1
      subst hb
      exact .pure ⟨rfl, rfl, hp.2.2⟩
    | some p =>
      obtain ⟨i, l1⟩ := p
      rw [hm] at hp
      obtain ⟨rfl, hr⟩ := hp
      obtain ⟨hless, hin⟩ := mSym_less hm
      have hb : b1 = false := hr.1
      subst hb
      simp only [cond_false, bind_go]
      by_cases h256 : i = 256
      · subst h256
        rw [if_pos rfl, show (((256 : Nat) : Int) == 256) = true by simp]
        exact .pure ⟨rfl, rfl, hr, rfl⟩
      rw [if_neg h256, show ((i : Int) == 256) = false by simp; omega]
      simp only [cond_false]
      by_cases hlt : i < 256
      · rw [if_pos hlt, decide_eq_true (by omega), cond_true, need_fits (by simp; omega), wrap_u8 i hlt]
        exact ih F l1 (out ++ [(i : Int)]) a1 (by omega) (by omega) (by simp; omega) hr
      rw [if_neg hlt, decide_eq_false (by omega), cond_false]
      obtain ⟨⟨s2, a2, b2, o2⟩, e2, hs2, hp2⟩ := sAgain_st hs ds hds hd i (by omega) (by omega) l1 out (by omega) a1 hr
      dsimp only at e2 hs2 hp2
      subst s2
      rw [e2]
      simp only [bind_go]
      have hmod : (if 28 ≤ i - 257 then none else mFar ds (mTok ls ds f) (i - 257) l1 out) = (if 28 ≤ i - 257 then none else mFar ds mPair (i - 257) l1 out).bind fun p => mTok ls ds f p.1 p.2 := by
        by_cases h28 : 28 ≤ i - 257
        · rw [if_pos h28, if_pos h28]; rfl
        · rw [if_neg h28, if_neg h28, mFar_bind]
      rw [hmod]
      cases hf2 : (if 28 ≤ i - 257 then none else mFar ds mPair (i - 257) l1 out) with
      | none =>
        rw [hf2] at hp2
        obtain ⟨hb, hr2⟩ := hp2
        try dsimp only at hb hr2
        subst hb
        cases F with
        | zero => exact absurd hF (by omega)
        | succ F =>
        rw [sTokens.l0.succ]; simp only [sTokens.l0.step]
        exact .pure ⟨rfl, rfl, hr2⟩
      | some p =>
        obtain ⟨l4, o4⟩ := p
        rw [hf2] at hp2
        obtain ⟨hb, hr2, ho2⟩ := hp2
        try dsimp only at hb hr2 ho2
        subst hb
        subst ho2
        have hless4 : l4.length < l1.length ∧ o2.length ≤ out.length + 60 := by
          by_cases h28 : 28 ≤ i - 257
          · rw [if_pos h28] at hf2; cases hf2
          · rw [if_neg h28] at hf2; exact mFar_less hf2
        exact ih F l4 o2 a2 (by omega) (by omega) (by omega) hr2
theorem sTokens_eq {s : Str} (hs : s.length ≤ 1000000000) (ls ds : List Nat) (h1 : lensM ls = true) (h2 : lensM ds = true) (out : List Int) (ho : out.length ≤ 10000) {at_ : Int} {bad : Bool} {m : Option (List Bool)} (h : Rs s at_ bad m) (hm : ∀ l, m = some l → l.length ≤ 99990) :
    Ret (sTokens (zs ls) (zs ds) s at_ bad out) (TokPost s (mPack ls ds m out)) := by
  obtain ⟨n1, n2⟩ := lensM_le h1
  obtain ⟨n3, n4⟩ := lensM_le h2
  unfold sTokens
  rw [l3Codes_eq ls (by omega), l3Codes_eq ds (by omega)]
  simp only [bind_go]
  cases m with
  | none =>
    have hb : bad = true := h.1
    subst hb
    exact .pure ⟨rfl, rfl, h⟩
  | some l =>
    have hb : bad = false := h.1
    subst hb
    have := hm l rfl
    unfold mPack
    dsimp only
    rw [h1, h2]
    exact sTokens_go hs ls ds (by omega) (by omega) n2 n4 (l.length + 1) 100000 l out at_ (by omega) (by omega) ho h
end Ev
end
section
set_option linter.unusedVariables false
set_option linter.unusedSimpArgs false
namespace Ev
open Go
def bytesB : Nat → List Bool → List Int
  | 0, _ => []
  | n + 1, l => ((valB (l.take 8) : Nat) : Int) :: bytesB n (l.drop 8)
theorem bytesB_length : ∀ n l, (bytesB n l).length = n
  | 0, _ => rfl
  | n + 1, l => by simp [bytesB, bytesB_length n]
def mStored (m : Option (List Bool)) (out : List Int) : Option (List Bool × List Int) :=
  match mEven m with
  | none => none
  | some l => match mNum 16 (some l) with
    | none => none
    | some l1 => match mNum 16 (some l1) with
      | none => none
      | some l2 => if valB (l.take 16) + valB (l1.take 16) ≠ 65535 ∨ 300 < valB (l.take 16) ∨ l2.length < 8 * valB (l.take 16) then none else some (l2.drop (8 * valB (l.take 16)), out ++ bytesB (valB (l.take 16)) l2)
def ImpPost (s : Str) (m : Option (List Bool × List Int)) (r : Str × Int × Bool × List Int) : Prop := r.1 = s ∧ match m with
  | some (l, o) => (o.length ≤ 300 → r.2.2.1 = false ∧ Rs s r.2.1 false (some l) ∧ r.2.2.2 = o) ∧ (300 < o.length → r.2.2.1 = true ∨ 300 < r.2.2.2.length)
  | none => r.2.2.1 = true ∨ 300 < r.2.2.2.length
theorem rStored_bad (s : Str) (n k at_ : Int) (out : List Int) (F : Nat) : rStored.l0 (F + 1) (n, k, s, at_, true, out) = some (s, at_, true, out) := by
  rw [rStored.l0.succ]; simp only [rStored.l0.step]
  cases decide (k < n) <;> rfl
theorem sStored_bad (s : Str) (n k at_ : Int) (out : List Int) (F : Nat) : sStored.l0 (F + 1) (n, k, s, at_, true, out) = some (s, at_, true, out) := by
  rw [sStored.l0.succ]; simp only [sStored.l0.step]
  cases decide (k < n) <;> rfl
theorem rStored_go {s : Str} (hs : s.length ≤ 1000000000) (n : Nat) (hn : n ≤ 100000) : ∀ (j k F : Nat) (l : List Bool) (out : List Int) (at_ : Int), k + j = n → j ≤ F → out.length ≤ 400 → Rs s at_ false (some l) →
    Ret (rStored.l0 (F + 1) ((n : Int), (k : Int), s, at_, false, out)) fun r => r.1 = s ∧ ((8 * j ≤ l.length ∧ out.length + j ≤ 300) → r.2.2.1 = false ∧ Rs s r.2.1 false (some (l.drop (8 * j))) ∧ r.2.2.2 = out ++ bytesB j l) ∧
      (¬ (8 * j ≤ l.length ∧ out.length + j ≤ 300) → r.2.2.1 = true ∨ 300 < r.2.2.2.length)
  | 0, k, F, l, out, at_, hk, hF, ho, h => by
    rw [rStored.l0.succ]; simp only [rStored.l0.step]
    rw [decide_eq_false (by omega)]
    refine .pure ⟨rfl, fun _ => ⟨rfl, h, by simp [bytesB]⟩, fun hc => .inr ?_⟩
    show 300 < out.length
    omega
  | j + 1, k, 0, l, out, at_, hk, hF, ho, h => absurd hF (by omega)
  | j + 1, k, F + 1, l, out, at_, hk, hF, ho, h => by
    rw [rStored.l0.succ]; simp only [rStored.l0.step]
    rw [decide_eq_true (by omega), cond_true, Bool.not_false, cond_true]
    simp only [bind_go]
    by_cases h300 : 300 < out.length
    · rw [decide_eq_false (by omega), cond_false]
      exact .pure ⟨rfl, fun hc => absurd hc.2 (by omega), fun _ => .inr h300⟩
    rw [decide_eq_true (by omega), cond_true]
    obtain ⟨⟨v, s1, a1, b1⟩, e1, hs1, ⟨x, hv, hx, hxv⟩, hr⟩ := rGet_st hs 8 (by omega) h
    dsimp only at e1 hs1 hv hr
    subst s1
    subst hv
    rw [show ((8 : Nat) : Int) = 8 from rfl] at e1
    rw [e1]
    simp only [bind_go]
    rw [need_fits (by simp; omega), wrap_u8 x (by omega), w64_id (by omega) (by omega), show (k : Int) + 1 = ((k + 1 : Nat) : Int) by omega]
    cases hm : mNum 8 (some l) with
    | none =>
      rw [hm] at hr
      have hb : b1 = true := hr.1
      subst hb
      rw [rStored_bad]
      have : l.length < 8 := by
        simp only [mNum] at hm
        split at hm
        · cases hm
        · omega
      exact .pure ⟨rfl, fun hc => absurd hc.1 (by omega), fun _ => .inl rfl⟩
    | some l' =>
      rw [hm] at hr
      have hb : b1 = false := hr.1
      subst hb
      obtain ⟨h8, rfl⟩ := mNum_less hm
      rw [hxv l rfl h8]
      have ih := rStored_go hs n hn j (k + 1) F (l.drop 8) (out ++ [((valB (l.take 8) : Nat) : Int)]) a1 (by omega) (by omega) (by simp; omega) hr
      refine ih.mono ?_
      rintro r ⟨q1, q2, q3⟩
      rw [List.length_drop, List.length_append, List.length_singleton] at q2 q3
      refine ⟨q1, fun hc => ?_, fun hc => q3 (by omega)⟩
      obtain ⟨z1, z2, z3⟩ := q2 (by omega)
      refine ⟨z1, ?_, ?_⟩
      · rw [List.drop_drop] at z2
        rw [show 8 * (j + 1) = 8 + 8 * j by omega]; exact z2
      · rw [z3]; simp [bytesB]
theorem sStored_go {s : Str} (hs : s.length ≤ 1000000000) (n : Nat) (hn : n ≤ 100000) : ∀ (j k F : Nat) (l : List Bool) (out : List Int) (at_ : Int), k + j = n → j ≤ F → out.length + j ≤ 1000000 → Rs s at_ false (some l) →
    Ret (sStored.l0 (F + 1) ((n : Int), (k : Int), s, at_, false, out)) fun r => r.1 = s ∧ (8 * j ≤ l.length → r.2.2.1 = false ∧ Rs s r.2.1 false (some (l.drop (8 * j))) ∧ r.2.2.2 = out ++ bytesB j l) ∧
      (¬ (8 * j ≤ l.length) → r.2.2.1 = true ∧ Rs s r.2.1 true none)
  | 0, k, F, l, out, at_, hk, hF, ho, h => by
    rw [sStored.l0.succ]; simp only [sStored.l0.step]
    rw [decide_eq_false (by omega)]
    exact .pure ⟨rfl, fun _ => ⟨rfl, h, by simp [bytesB]⟩, fun hc => absurd (Nat.zero_le _) hc⟩
  | j + 1, k, 0, l, out, at_, hk, hF, ho, h => absurd hF (by omega)
  | j + 1, k, F + 1, l, out, at_, hk, hF, ho, h => by
    rw [sStored.l0.succ]; simp only [sStored.l0.step]
    rw [decide_eq_true (by omega), cond_true, Bool.not_false]
    simp only [bind_go, cond_true]
    obtain ⟨⟨v, s1, a1, b1⟩, e1, hs1, ⟨x, hv, hx, hxv⟩, hr⟩ := sNum_st hs 8 (by omega) h
    dsimp only at e1 hs1 hv hr
    subst s1
    subst hv
    rw [show ((8 : Nat) : Int) = 8 from rfl] at e1
    rw [e1]
    simp only [bind_go]
    rw [need_fits (by simp; omega), wrap_u8 x (by omega), w64_id (by omega) (by omega), show (k : Int) + 1 = ((k + 1 : Nat) : Int) by omega]
    cases hm : mNum 8 (some l) with
    | none =>
      rw [hm] at hr
      have hb : b1 = true := hr.1
      subst hb
      rw [sStored_bad]
      have : l.length < 8 := by
        simp only [mNum] at hm
        split at hm
        · cases hm
        · omega
      exact .pure ⟨rfl, fun hc => absurd hc (by omega), fun _ => ⟨rfl, hr⟩⟩
    | some l' =>
      rw [hm] at hr
      have hb : b1 = false := hr.1
      subst hb
      obtain ⟨h8, rfl⟩ := mNum_less hm
      rw [hxv l rfl h8]
      have ih := sStored_go hs n hn j (k + 1) F (l.drop 8) (out ++ [((valB (l.take 8) : Nat) : Int)]) a1 (by omega) (by omega) (by simp; omega) hr
      refine ih.mono ?_
      rintro r ⟨q1, q2, q3⟩
      rw [List.length_drop] at q2 q3
      refine ⟨q1, fun hc => ?_, fun hc => q3 (by omega)⟩
      obtain ⟨z1, z2, z3⟩ := q2 (by omega)
      refine ⟨z1, ?_, ?_⟩
      · rw [List.drop_drop] at z2
        rw [show 8 * (j + 1) = 8 + 8 * j by omega]; exact z2
      · rw [z3]; simp [bytesB]
theorem mStored_none {m : Option (List Bool)} {out : List Int} (h : mNum 16 (mNum 16 (mEven m)) = none) : mStored m out = none := by
  unfold mStored
  cases h1 : mEven m with
  | none => rfl
  | some l =>
    rw [h1] at h
    dsimp only
    cases h2 : mNum 16 (some l) with
    | none => rfl
    | some l1 =>
      rw [h2] at h
      dsimp only
      rw [h]
theorem mStored_some {m : Option (List Bool)} {out : List Int} {l2 : List Bool} (h : mNum 16 (mNum 16 (mEven m)) = some l2) : ∃ l l1, mEven m = some l ∧ mNum 16 (some l) = some l1 ∧ 16 ≤ l.length ∧ 16 ≤ l1.length ∧
    mStored m out = if valB (l.take 16) + valB (l1.take 16) ≠ 65535 ∨ 300 < valB (l.take 16) ∨ l2.length < 8 * valB (l.take 16) then none else some (l2.drop (8 * valB (l.take 16)), out ++ bytesB (valB (l.take 16)) l2) := by
  unfold mStored
  cases h1 : mEven m with
  | none => rw [h1] at h; simp [mNum] at h
  | some l =>
    rw [h1] at h
    cases h2 : mNum 16 (some l) with
    | none => rw [h2] at h; simp [mNum] at h
    | some l1 =>
      rw [h2] at h
      refine ⟨l, l1, rfl, h2, (mNum_less h2).1, (mNum_less h).1, ?_⟩
      dsimp only
      rw [h2]
      dsimp only
      rw [h]
theorem rStored_eq {s : Str} (hs : s.length ≤ 1000000000) (out : List Int) (ho : out.length ≤ 300) {at_ : Int} {bad : Bool} {m : Option (List Bool)} (h : Rs s at_ bad m) :
    Ret (rStored s at_ bad out) (ImpPost s (mStored m out)) := by
  unfold rStored
  obtain ⟨⟨s1, a1, b1⟩, e1, hs1, hr1⟩ := rEven_st hs h
  dsimp only at e1 hs1 hr1
  subst s1
  rw [e1]
  simp only [bind_go]
  obtain ⟨⟨v, s2, a2, b2⟩, e2, hs2, ⟨n, hv, hn, hnv⟩, hr2⟩ := rGet_st hs 16 (by omega) hr1
  dsimp only at e2 hs2 hv hr2
  subst s2
  subst hv
  rw [show ((16 : Nat) : Int) = 16 from rfl] at e2
  rw [e2]
  simp only [bind_go]
  obtain ⟨⟨v, s3, a3, b3⟩, e3, hs3, ⟨u, hv, hu, huv⟩, hr3⟩ := rGet_st hs 16 (by omega) hr2
  dsimp only at e3 hs3 hv hr3
  subst s3
  subst hv
  rw [show ((16 : Nat) : Int) = 16 from rfl] at e3
  rw [e3]
  simp only [bind_go]
  rw [w64_id (by omega) (by omega)]
  cases hm : mNum 16 (mNum 16 (mEven m)) with
  | none =>
    rw [hm] at hr3
    have hb : b3 = true := hr3.1
    subst hb
    rw [mStored_none hm]
    have e : ((bif ((n : Int) != 65535 - (u : Int)) then (some ((n : Int), s, a3, true, out)) else (some ((n : Int), s, a3, true, out))) : Option (Int × Str × Int × Bool × List Int)) = some ((n : Int), s, a3, true, out) := by cases ((n : Int) != 65535 - (u : Int)) <;> rfl
    rw [e]
    simp only [bind_go]
    rw [rStored_bad]
    exact .pure ⟨rfl, .inl rfl⟩
  | some l2 =>
    rw [hm] at hr3
    have hb : b3 = false := hr3.1
    subst hb
    obtain ⟨l, l1, k1, k2, k3, k4, k5⟩ := mStored_some (out := out) hm
    rw [k5]
    have en := hnv l k1 k3
    have eu := huv l1 (by rw [k1]; exact k2) k4
    rw [← en, ← eu]
    by_cases hc : n + u = 65535
    · rw [show ((n : Int) != 65535 - (u : Int)) = false by simp; omega, cond_false]
      simp only [bind_go]
      rw [Int.sub_zero, Int.toNat_natCast]
      obtain ⟨r, er, q1, q2, q3⟩ := rStored_go hs n (by omega) n 0 n l2 out a3 (by omega) (Nat.le_refl _) (by omega) hr3
      rw [show ((0 : Nat) : Int) = 0 from rfl] at er
      rw [er]
      refine .pure ⟨q1, ?_⟩
      by_cases hd : n + u ≠ 65535 ∨ 300 < n ∨ l2.length < 8 * n
      · rw [if_pos hd]
        exact q3 (by omega)
      · rw [if_neg hd]
        have hlo : (out ++ bytesB n l2).length = out.length + n := by rw [List.length_append, bytesB_length]
        exact ⟨fun ho2 => q2 (by omega), fun ho2 => q3 (by omega)⟩
    · rw [show ((n : Int) != 65535 - (u : Int)) = true by simp; omega, cond_true]
      simp only [bind_go]
      rw [rStored_bad, if_pos (.inl hc)]
      exact .pure ⟨rfl, .inl rfl⟩
theorem sStored_eq {s : Str} (hs : s.length ≤ 1000000000) (out : List Int) (ho : out.length ≤ 500000) {at_ : Int} {bad : Bool} {m : Option (List Bool)} (h : Rs s at_ bad m) :
    Ret (sStored s at_ bad out) (TokPost s (mStored m out)) := by
  unfold sStored
  obtain ⟨⟨q0, s1, a1, b1⟩, e1, hs1, hr1, hr1'⟩ := sWhole_st hs h
  dsimp only at e1 hs1 hr1 hr1'
  subst s1
  rw [e1]
  simp only [bind_go]
  have hw : ∃ b1', (((bif (!q0) then (some (s, a1, true, out)) else (some (s, a1, b1, out))) : Option (Str × Int × Bool × List Int))) = some (s, a1, b1', out) ∧ Rs s a1 b1' (mEven m) := by
    cases q0 with
    | true => exact ⟨b1, rfl, hr1 rfl⟩
    | false =>
      obtain ⟨z1, m', z2⟩ := hr1' rfl
      rw [z1]
      exact ⟨true, rfl, z2.fail⟩
  obtain ⟨b1', ew, hr1⟩ := hw
  rw [ew]
  simp only [bind_go]
  obtain ⟨⟨v, s2, a2, b2⟩, e2, hs2, ⟨n, hv, hn, hnv⟩, hr2⟩ := sNum_st hs 16 (by omega) hr1
  dsimp only at e2 hs2 hv hr2
  subst s2
  subst hv
  rw [show ((16 : Nat) : Int) = 16 from rfl] at e2
  rw [e2]
  simp only [bind_go]
  obtain ⟨⟨v, s3, a3, b3⟩, e3, hs3, ⟨u, hv, hu, huv⟩, hr3⟩ := sNum_st hs 16 (by omega) hr2
  dsimp only at e3 hs3 hv hr3
  subst s3
  subst hv
  rw [show ((16 : Nat) : Int) = 16 from rfl] at e3
  rw [e3]
  simp only [bind_go]
  rw [w64_id (by omega) (by omega)]
  cases hm : mNum 16 (mNum 16 (mEven m)) with
  | none =>
    rw [hm] at hr3
    have hb : b3 = true := hr3.1
    subst hb
    rw [mStored_none hm]
    have e : ((bif ((u : Int) != 65535 - (n : Int)) then (some ((n : Int), s, a3, true, out)) else (bif (decide ((n : Int) > 300)) then (some ((n : Int), s, a3, true, out)) else (some ((n : Int), s, a3, true, out)))) : Option (Int × Str × Int × Bool × List Int)) = some ((n : Int), s, a3, true, out) := by
      cases ((u : Int) != 65535 - (n : Int)) <;> cases decide ((n : Int) > 300) <;> rfl
    rw [e]
    simp only [bind_go]
    rw [sStored_bad]
    exact .pure ⟨rfl, rfl, hr3⟩
  | some l2 =>
    rw [hm] at hr3
    have hb : b3 = false := hr3.1
    subst hb
    obtain ⟨l, l1, k1, k2, k3, k4, k5⟩ := mStored_some (out := out) hm
    rw [k5]
    have en := hnv l k1 k3
    have eu := huv l1 (by rw [k1]; exact k2) k4
    rw [← en, ← eu]
    by_cases hc : n + u = 65535
    · rw [show ((u : Int) != 65535 - (n : Int)) = false by simp; omega, cond_false]
      by_cases h300 : 300 < n
      · rw [decide_eq_true (by omega), cond_true]
        simp only [bind_go]
        rw [sStored_bad, if_pos (.inr (.inl h300))]
        exact .pure ⟨rfl, rfl, hr3.fail⟩
      rw [decide_eq_false (by omega), cond_false]
      simp only [bind_go]
      rw [Int.sub_zero, Int.toNat_natCast]
      obtain ⟨r, er, q1, q2, q3⟩ := sStored_go hs n (by omega) n 0 n l2 out a3 (by omega) (Nat.le_refl _) (by omega) hr3
      rw [show ((0 : Nat) : Int) = 0 from rfl] at er
      rw [er]
      refine .pure ⟨q1, ?_⟩
      by_cases hd : n + u ≠ 65535 ∨ 300 < n ∨ l2.length < 8 * n
      · rw [if_pos hd]
        exact q3 (by omega)
      · rw [if_neg hd]
        exact q2 (by omega)
    · rw [show ((u : Int) != 65535 - (n : Int)) = true by simp; omega, cond_true]
      simp only [bind_go]
      rw [sStored_bad, if_pos (.inl hc)]
      exact .pure ⟨rfl, rfl, hr3.fail⟩
end Ev
end
section
set_option linter.unusedVariables false
set_option linter.unusedSimpArgs false
namespace Ev
open Go
def mMeta : List Nat → List Bool → List Nat → Option (List Bool × List Nat)
  | [], l, M => some (l, M)
  | k :: r, l, M => match mNum 3 (some l) with
    | none => none
    | some l' => mMeta r l' (M.set k (valB (l.take 3)))
def mRep (s : Nat) (l1 : List Bool) (all : List Nat) : Option (List Bool × List Nat) :=
  if s < 16 then some (l1, all ++ [s])
  else if s = 16 then (if all = [] then none else (mNum 2 (some l1)).bind fun l2 => some (l2, all ++ List.replicate (3 + valB (l1.take 2)) (all.getD (all.length - 1) 0)))
  else if s = 17 then (mNum 3 (some l1)).bind fun l2 => some (l2, all ++ List.replicate (3 + valB (l1.take 3)) 0)
  else (mNum 7 (some l1)).bind fun l2 => some (l2, all ++ List.replicate (11 + valB (l1.take 7)) 0)
def mAllStep (M : List Nat) (n : Nat) (go : List Bool → List Nat → Option (List Bool × List Nat)) (l : List Bool) (all : List Nat) : Option (List Bool × List Nat) :=
  if all.length < n then (match mSym M (some l) with
    | none => none
    | some (s, l1) => (mRep s l1 all).bind fun p => go p.1 p.2) else some (l, all)
def mAll (M : List Nat) (n : Nat) : Nat → List Bool → List Nat → Option (List Bool × List Nat)
  | 0 => fun _ _ => none
  | f + 1 => mAllStep M n (mAll M n f)
def mLens3 (lit dist many : Nat) (l : List Bool) : Option (List Nat × List Nat × List Bool) :=
  match mMeta (orderL.take many) l (List.replicate 19 0) with
  | none => none
  | some (l4, M) => if lensM M = false ∨ 286 < lit ∨ 30 < dist then none else match mAll M (lit + dist) (lit + dist + 1) l4 [] with
    | none => none
    | some (l5, all) => if all.length = lit + dist then some (all.take lit, all.drop lit, l5) else none
def mLens (m : Option (List Bool)) : Option (List Nat × List Nat × List Bool) :=
  match m with
  | none => none
  | some l => match mNum 5 (some l) with
    | none => none
    | some l1 => match mNum 5 (some l1) with
      | none => none
      | some l2 => match mNum 4 (some l2) with
        | none => none
        | some l3 => mLens3 (valB (l.take 5) + 257) (valB (l1.take 5) + 1) (valB (l2.take 4) + 4) l3
theorem rLengths_l1 (lit dist : Int) (g : Nat) (t : Nat) (ht : t ≤ 1000) (s : Str) (a : Int) (b : Bool) (bk : List ((Int × Int) × Int)) : ∀ (j i : Nat) (all : List Nat), i + j = t → all.length + j ≤ 100000 →
    rLengths.l1 (j + 1) (lit, dist, (g : Int), (t : Int), (i : Int), s, a, b, bk, zs all) = some (lit, dist, s, a, b, bk, zs (all ++ List.replicate j g))
  | 0, i, all, h, hb => by
    rw [rLengths.l1.succ]; simp only [rLengths.l1.step]
    rw [idx_ge (by omega)]; simp
  | j + 1, i, all, h, hb => by
    rw [rLengths.l1.succ]; simp only [rLengths.l1.step]
    rw [idx_lt (by omega), cond_true, need_fits (by simp [zs_length]; omega), w64_id (by omega) (by omega), show (i : Int) + 1 = ((i + 1 : Nat) : Int) by omega,
      show zs all ++ [(g : Int)] = zs (all ++ [g]) by rw [zs_append]; rfl, rLengths_l1 lit dist g t ht s a b bk j (i + 1) (all ++ [g]) (by omega) (by simp; omega)]
    rw [List.replicate_succ]; simp
theorem mRep_more {s : Nat} {l1 l2 : List Bool} {all all2 : List Nat} (h : mRep s l1 all = some (l2, all2)) : all.length < all2.length ∧ all2.length ≤ all.length + 138 ∧ l2.length ≤ l1.length := by
  unfold mRep at h
  have hv : ∀ k, valB (l1.take k) < 2 ^ k := fun k => by
    have h1 := valB_lt (l1.take k)
    have : 2 ^ (l1.take k).length ≤ 2 ^ k := Nat.pow_le_pow_right (by omega) (by rw [List.length_take]; omega)
    omega
  by_cases c1 : s < 16
  · rw [if_pos c1] at h
    obtain ⟨rfl, rfl⟩ := Prod.mk.inj (Option.some.inj h)
    simp
  rw [if_neg c1] at h
  have key : ∀ (k c g : Nat), (mNum k (some l1)).bind (fun l2 => some (l2, all ++ List.replicate (c + valB (l1.take k)) g)) = some (l2, all2) → 1 ≤ c → c + 2 ^ k ≤ 139 → all.length < all2.length ∧ all2.length ≤ all.length + 138 ∧ l2.length ≤ l1.length := by
    intro k c g hk h1 h2
    have := hv k
    cases hm : mNum k (some l1) with
    | none => rw [hm] at hk; cases hk
    | some l' =>
      rw [hm] at hk
      obtain ⟨rfl, rfl⟩ := Prod.mk.inj (Option.some.inj hk)
      rw [(mNum_less hm).2]
      simp only [List.length_append, List.length_replicate, List.length_drop]
      omega
  by_cases c2 : s = 16
  · rw [if_pos c2] at h
    by_cases c3 : all = []
    · rw [if_pos c3] at h; cases h
    · rw [if_neg c3] at h; exact key 2 3 _ h (by omega) (by omega)
  rw [if_neg c2] at h
  by_cases c4 : s = 17
  · rw [if_pos c4] at h; exact key 3 3 _ h (by omega) (by omega)
  · rw [if_neg c4] at h; exact key 7 11 _ h (by omega) (by omega)
def rLenT (lit dist : Nat) (s : Str) (a : Int) (b : Bool) (all : List Nat) : Int × Int × Str × Int × Bool × List Int := ((lit : Int), (dist : Int), s, a, b, zs all)
theorem rLengths_bad (lit dist : Int) (s : Str) (a : Int) (bk : List ((Int × Int) × Int)) (all : List Int) (F : Nat) : rLengths.l2 (F + 1) (lit, dist, s, a, true, bk, all) = some (lit, dist, s, a, true, all) := by
  rw [rLengths.l2.succ]; simp only [rLengths.l2.step]
  cases decide ((all.length : Int) < w64 (lit + dist)) <;> rfl
def LenP (lit dist : Nat) (s : Str) (x : Option (List Bool × List Nat)) (r : Int × Int × Str × Int × Bool × List Int) : Prop := match x with
  | some (l', all') => ∃ a', r = rLenT lit dist s a' false all' ∧ Rs s a' false (some l') ∧ all'.length ≤ 2000
  | none => ∃ a' all', r = rLenT lit dist s a' true all' ∧ Rs s a' true none ∧ all'.length ≤ 2000
theorem mAll_succ (M : List Nat) (n f : Nat) (l : List Bool) (all : List Nat) : mAll M n (f + 1) l all = mAllStep M n (mAll M n f) l all := rfl
set_option maxRecDepth 100000 in
theorem rLengths_l2 {s : Str} (hs : s.length ≤ 1000000000) (M : List Nat) (hM : M.length = 19) {bk : List ((Int × Int) × Int)} (hB : BookP M M.length bk) (lit dist : Nat) (hn : lit + dist ≤ 1000) : ∀ (f F : Nat) (l : List Bool) (all : List Nat) (a : Int), lit + dist ≤ all.length + f → f + 1 ≤ F → all.length ≤ 2000 → Rs s a false (some l) →
    Ret (rLengths.l2 F ((lit : Int), (dist : Int), s, a, false, bk, zs all)) (LenP lit dist s (mAll M (lit + dist) (f + 1) l all)) := by
  intro f
  induction f with
  | zero =>
    intro F l all a h1 h2 h3 h
    cases F with
    | zero => exact absurd h2 (by omega)
    | succ F =>
    rw [rLengths.l2.succ]; simp only [rLengths.l2.step, zs_length]
    rw [w64_id (n := (lit : Int) + dist) (by omega) (by omega), mAll_succ]
    unfold mAllStep
    rw [if_neg (by omega), decide_eq_false (by omega), cond_false]
    simp only [bind_go, cond_false]
    exact .pure ⟨a, rfl, h, h3⟩
  | succ f ih =>
    intro F l all a h1 h2 h3 h
    cases F with
    | zero => exact absurd h2 (by omega)
    | succ F =>
    rw [rLengths.l2.succ]; simp only [rLengths.l2.step, zs_length]
    rw [w64_id (n := (lit : Int) + dist) (by omega) (by omega), mAll_succ]
    unfold mAllStep
    by_cases c : all.length < lit + dist
    · rw [if_pos c, decide_eq_true (by omega), cond_true, Bool.not_false]
      simp only [bind_go, cond_true]
      have fin : ∀ (g t : Nat) (a2 : Int) (b2 : Bool) (m2 : Option (List Bool)), t ≤ 138 → 1 ≤ t → Rs s a2 b2 m2 →
          Ret ((rLengths.l1 (t + 1) ((lit : Int), (dist : Int), (g : Int), (t : Int), 0, s, a2, b2, bk, zs all)).bind fun x => rLengths.l2 F (x.1, x.2.1, x.2.2.1, x.2.2.2.1, x.2.2.2.2.1, x.2.2.2.2.2.1, x.2.2.2.2.2.2))
            (LenP lit dist s (m2.bind fun l2 => mAll M (lit + dist) (f + 1) l2 (all ++ List.replicate t g))) := by
        intro g t a2 b2 m2 ht ht1 hr
        have e := rLengths_l1 (lit : Int) (dist : Int) g t (by omega) s a2 b2 bk t 0 all (by omega) (by omega)
        rw [show ((0 : Nat) : Int) = 0 from rfl] at e
        rw [e]
        simp only [bind_go]
        have hlen : (all ++ List.replicate t g).length = all.length + t := by simp
        cases m2 with
        | none =>
          have hb : b2 = true := hr.1
          subst hb
          cases F with
          | zero => exact absurd h2 (by omega)
          | succ F =>
          rw [rLengths_bad]
          exact .pure ⟨a2, _, rfl, hr, by omega⟩
        | some l2 =>
          have hb : b2 = false := hr.1
          subst hb
          exact ih F l2 _ a2 (by omega) (by omega) (by omega) hr
      obtain ⟨⟨r, s1, a1, b1, A1⟩, e1, hs1, hA1, hp⟩ := rSymbol_st hs M hB h
      dsimp only at e1 hs1 hA1 hp
      subst s1
      subst A1
      rw [e1]
      simp only [bind_go]
      cases hm : mSym M (some l) with
      | none =>
        rw [hm] at hp
        obtain ⟨rfl, hr⟩ := hp
        have hb : b1 = true := hr.1
        subst hb
        rw [decide_eq_true (by omega), cond_true]
        simp only [bind_go]
        exact fin 0 1 a1 true none (by omega) (by omega) hr
      | some p =>
        obtain ⟨i, l1⟩ := p
        rw [hm] at hp
        obtain ⟨rfl, hr⟩ := hp
        have hb : b1 = false := hr.1
        subst hb
        have hi := (mSym_less hm).2
        dsimp only
        unfold mRep
        by_cases c1 : i < 16
        · rw [if_pos c1, decide_eq_true (by omega), cond_true]
          simp only [bind_go]
          exact fin i 1 a1 false (some l1) (by omega) (by omega) hr
        rw [if_neg c1, decide_eq_false (by omega), cond_false]
        by_cases c2 : i = 16
        · subst c2
          rw [if_pos rfl, show (((16 : Nat) : Int) == 16) = true by simp, cond_true]
          obtain ⟨⟨v, s2, a2, b2⟩, e2, hs2, ⟨n, hv, hn2, hnv⟩, hr2⟩ := rGet_st hs 2 (by omega) hr
          dsimp only at e2 hs2 hv hr2
          subst s2
          subst hv
          rw [show ((2 : Nat) : Int) = 2 from rfl] at e2
          rw [e2]
          simp only [bind_go]
          rw [w64_id (n := 3 + (n : Int)) (by omega) (by omega), show 3 + (n : Int) = ((3 + n : Nat) : Int) by omega]
          by_cases c3 : all = []
          · subst c3
            rw [if_pos rfl, show ((((([] : List Nat).length : Nat)) : Int) == 0) = true from rfl, cond_true]
            simp only [bind_go]
            rw [Int.sub_zero, Int.toNat_natCast]
            exact fin 0 (3 + n) a2 true none (by omega) (by omega) hr2.fail
          · have hpos : 0 < all.length := List.length_pos_iff.2 c3
            rw [if_neg c3, show ((all.length : Int) == 0) = false by simp; omega, cond_false, w64_id (n := (all.length : Int) - 1) (by omega) (by omega), show (all.length : Int) - 1 = ((all.length - 1 : Nat) : Int) by omega, need_true _ (idx_in (by omega)), Int.toNat_natCast, zs_getD]
            simp only [bind_go]
            rw [Int.sub_zero, Int.toNat_natCast]
            have hf := fin (all.getD (all.length - 1) 0) (3 + n) a2 b2 (mNum 2 (some l1)) (by omega) (by omega) hr2
            cases hm2 : mNum 2 (some l1) with
            | none => rw [hm2] at hf; exact hf
            | some l2 =>
              rw [hm2] at hf
              rw [← hnv l1 rfl (mNum_less hm2).1]
              exact hf
        rw [if_neg c2, show ((i : Int) == 16) = false by simp; omega, cond_false]
        by_cases c3 : i = 17
        · subst c3
          rw [if_pos rfl, show (((17 : Nat) : Int) == 17) = true by simp, cond_true]
          obtain ⟨⟨v, s2, a2, b2⟩, e2, hs2, ⟨n, hv, hn2, hnv⟩, hr2⟩ := rGet_st hs 3 (by omega) hr
          dsimp only at e2 hs2 hv hr2
          subst s2
          subst hv
          rw [show ((3 : Nat) : Int) = 3 from rfl] at e2
          rw [e2]
          simp only [bind_go]
          rw [w64_id (n := 3 + (n : Int)) (by omega) (by omega), show 3 + (n : Int) = ((3 + n : Nat) : Int) by omega, Int.sub_zero, Int.toNat_natCast]
          have hf := fin 0 (3 + n) a2 b2 (mNum 3 (some l1)) (by omega) (by omega) hr2
          cases hm2 : mNum 3 (some l1) with
          | none => rw [hm2] at hf; exact hf
          | some l2 =>
            rw [hm2] at hf
            rw [← hnv l1 rfl (mNum_less hm2).1]
            exact hf
        · rw [if_neg c3, show ((i : Int) == 17) = false by simp; omega, cond_false]
          obtain ⟨⟨v, s2, a2, b2⟩, e2, hs2, ⟨n, hv, hn2, hnv⟩, hr2⟩ := rGet_st hs 7 (by omega) hr
          dsimp only at e2 hs2 hv hr2
          subst s2
          subst hv
          rw [show ((7 : Nat) : Int) = 7 from rfl] at e2
          rw [e2]
          simp only [bind_go]
          rw [w64_id (n := 11 + (n : Int)) (by omega) (by omega), show 11 + (n : Int) = ((11 + n : Nat) : Int) by omega, Int.sub_zero, Int.toNat_natCast]
          have hf := fin 0 (11 + n) a2 b2 (mNum 7 (some l1)) (by omega) (by omega) hr2
          cases hm2 : mNum 7 (some l1) with
          | none => rw [hm2] at hf; exact hf
          | some l2 =>
            rw [hm2] at hf
            rw [← hnv l1 rfl (mNum_less hm2).1]
            exact hf
    · rw [if_neg c, decide_eq_false (by omega), cond_false]
      simp only [bind_go, cond_false]
      exact .pure ⟨a, rfl, h, h3⟩
def MetaP (s : Str) (x : Option (List Bool × List Nat)) (a : Int) (b : Bool) (M : List Int) : Prop := match x with
  | some (l', M') => M = zs M' ∧ M'.length = 19 ∧ b = false ∧ Rs s a false (some l')
  | none => ∃ M' : List Nat, M = zs M' ∧ M'.length = 19 ∧ b = true ∧ Rs s a true none
theorem rLengths_l0 {s : Str} (hs : s.length ≤ 1000000000) (lit dist : Int) (is : List Nat) (hi : ∀ k ∈ is, k < 19) (hn : is.length ≤ 100) : ∀ (j i : Nat) (M : List Nat) (a : Int) (b : Bool) (m : Option (List Bool)), i + j = is.length → M.length = 19 → Rs s a b m →
    Ret (rLengths.l0 (j + 1) (lit, dist, zs is, (is.length : Int), (i : Int), s, a, b, zs M)) fun r => ∃ a' b' M', r = (lit, dist, s, a', b', M') ∧ MetaP s (m.bind fun l => mMeta (is.drop i) l M) a' b' M'
  | 0, i, M, a, b, m, h, hM, hr => by
    rw [rLengths.l0.succ]; simp only [rLengths.l0.step]
    rw [idx_ge (by omega), List.drop_eq_nil_of_le (by omega)]
    cases m with
    | none => exact .pure ⟨a, b, zs M, rfl, M, rfl, hM, hr.1, by have := hr.1; subst this; exact hr⟩
    | some l => exact .pure ⟨a, b, zs M, rfl, rfl, hM, hr.1, by have := hr.1; subst this; exact hr⟩
  | j + 1, i, M, a, b, m, h, hM, hr => by
    have hlt : i < is.length := by omega
    have hk := hi is[i] (List.getElem_mem hlt)
    rw [rLengths.l0.succ]; simp only [rLengths.l0.step, zs_length]
    rw [idx_lt hlt, cond_true, need_true _ idx_in']
    obtain ⟨⟨v, s2, a2, b2⟩, e2, hs2, ⟨n, hv, hn2, hnv⟩, hr2⟩ := rGet_st hs 3 (by omega) hr
    dsimp only at e2 hs2 hv hr2
    subst s2
    subst hv
    rw [show ((3 : Nat) : Int) = 3 from rfl] at e2
    rw [e2]
    simp only [bind_go]
    rw [Int.toNat_natCast, zs_getD, getD_in hlt, hM, need_true _ (idx_in hk), Int.toNat_natCast, zs_set, w64_id (by omega) (by omega), show (i : Int) + 1 = ((i + 1 : Nat) : Int) by omega]
    have ih := rLengths_l0 hs lit dist is hi hn j (i + 1) (M.set is[i] n) a2 b2 (mNum 3 m) (by omega) (by simp [hM]) hr2
    refine ih.mono ?_
    rintro r ⟨a', b', M', rfl, hp⟩
    refine ⟨a', b', M', rfl, ?_⟩
    have e : (m.bind fun l => mMeta (is.drop i) l M) = ((mNum 3 m).bind fun l => mMeta (is.drop (i + 1)) l (M.set is[i] n)) := by
      cases m with
      | none => rfl
      | some l =>
        rw [List.drop_eq_getElem_cons hlt]
        simp only [Option.bind_some, mMeta]
        cases hm2 : mNum 3 (some l) with
        | none => rfl
        | some l' => rw [hnv l rfl (mNum_less hm2).1]; rfl
    rw [e]
    exact hp
end Ev
end
section
set_option linter.unusedVariables false
set_option linter.unusedSimpArgs false
namespace Ev
open Go
def LensP (s : Str) (x : Option (List Nat × List Nat × List Bool)) (r : List Int × List Int × Str × Int × Bool) : Prop := r.2.2.1 = s ∧ match x with
  | some (ls, ds, l) => r.1 = zs ls ∧ r.2.1 = zs ds ∧ r.2.2.2.2 = false ∧ Rs s r.2.2.2.1 false (some l)
  | none => r.1 = [] ∧ r.2.1 = [] ∧ r.2.2.2.2 = true ∧ Rs s r.2.2.2.1 true none
theorem mLens_none {m : Option (List Bool)} (h : mNum 4 (mNum 5 (mNum 5 m)) = none) : mLens m = none := by
  unfold mLens
  cases m with
  | none => rfl
  | some l =>
    dsimp only
    cases h2 : mNum 5 (some l) with
    | none => rfl
    | some l1 =>
      rw [h2] at h
      dsimp only
      cases h3 : mNum 5 (some l1) with
      | none => rfl
      | some l2 =>
        rw [h3] at h
        dsimp only
        rw [h]
theorem mLens_some {m : Option (List Bool)} {l3 : List Bool} (h : mNum 4 (mNum 5 (mNum 5 m)) = some l3) : ∃ l l1 l2, m = some l ∧ mNum 5 m = some l1 ∧ mNum 5 (mNum 5 m) = some l2 ∧ 5 ≤ l.length ∧ 5 ≤ l1.length ∧ 4 ≤ l2.length ∧
    mLens m = mLens3 (valB (l.take 5) + 257) (valB (l1.take 5) + 1) (valB (l2.take 4) + 4) l3 := by
  cases m with
  | none => simp [mNum] at h
  | some l =>
    cases h2 : mNum 5 (some l) with
    | none => rw [h2] at h; simp [mNum] at h
    | some l1 =>
      rw [h2] at h
      cases h3 : mNum 5 (some l1) with
      | none => rw [h3] at h; simp [mNum] at h
      | some l2 =>
        rw [h3] at h
        refine ⟨l, l1, l2, rfl, rfl, rfl, (mNum_less h2).1, (mNum_less h3).1, (mNum_less h).1, ?_⟩
        unfold mLens
        dsimp only
        rw [h2]
        dsimp only
        rw [h3]
        dsimp only
        rw [h]
theorem orderL_take_lt (k : Nat) : ∀ x ∈ orderL.take k, x < 19 := by
  intro x hx
  have hx := List.mem_of_mem_take hx
  have : orderL.all (fun x => decide (x < 19)) = true := by decide
  simpa using List.all_eq_true.1 this x hx
theorem zs_take (l : List Nat) (k : Nat) : (zs l).take k = zs (l.take k) := by simp [zs, List.map_take]
theorem zs_drop (l : List Nat) (k : Nat) : (zs l).drop k = zs (l.drop k) := by simp [zs, List.map_drop]
set_option maxRecDepth 100000 in
theorem rLengths_eq {s : Str} (hs : s.length ≤ 1000000000) {at_ : Int} {bad : Bool} {m : Option (List Bool)} (h : Rs s at_ bad m) : Ret (rLengths s at_ bad) (LensP s (mLens m)) := by
  unfold rLengths
  obtain ⟨⟨v, s1, a1, b1⟩, e1, hs1, ⟨n1, hv, hn1, hnv1⟩, hr1⟩ := rGet_st hs 5 (by omega) h
  dsimp only at e1 hs1 hv hr1
  subst s1
  subst hv
  rw [show ((5 : Nat) : Int) = 5 from rfl] at e1
  rw [e1]
  simp only [bind_go]
  obtain ⟨⟨v, s2, a2, b2⟩, e2, hs2, ⟨n2, hv, hn2, hnv2⟩, hr2⟩ := rGet_st hs 5 (by omega) hr1
  dsimp only at e2 hs2 hv hr2
  subst s2
  subst hv
  rw [show ((5 : Nat) : Int) = 5 from rfl] at e2
  rw [e2]
  simp only [bind_go]
  obtain ⟨⟨v, s3, a3, b3⟩, e3, hs3, ⟨n3, hv, hn3, hnv3⟩, hr3⟩ := rGet_st hs 4 (by omega) hr2
  dsimp only at e3 hs3 hv hr3
  subst s3
  subst hv
  rw [show ((4 : Nat) : Int) = 4 from rfl] at e3
  rw [e3]
  simp only [bind_go]
  rw [w64_id (n := (n1 : Int) + 257) (by omega) (by omega), w64_id (n := (n2 : Int) + 1) (by omega) (by omega), w64_id (n := (n3 : Int) + 4) (by omega) (by omega),
    show (n1 : Int) + 257 = ((n1 + 257 : Nat) : Int) by omega, show (n2 : Int) + 1 = ((n2 + 1 : Nat) : Int) by omega, show (n3 : Int) + 4 = ((n3 + 4 : Nat) : Int) by omega]
  have hsel : ∃ (b3' : Bool) (m3' : Option (List Bool)), (((bif decide (((n1 + 257 : Nat) : Int) > 286) then some true else some (decide (((n2 + 1 : Nat) : Int) > 30))).bind fun c =>
      (bif c then (some (((n1 + 257 : Nat) : Int), ((n2 + 1 : Nat) : Int), ((n3 + 4 : Nat) : Int), s, a3, true)) else (some (((n1 + 257 : Nat) : Int), ((n2 + 1 : Nat) : Int), ((n3 + 4 : Nat) : Int), s, a3, b3)))) : Option (Int × Int × Int × Str × Int × Bool)) =
        some (((n1 + 257 : Nat) : Int), ((n2 + 1 : Nat) : Int), ((n3 + 4 : Nat) : Int), s, a3, b3') ∧ Rs s a3 b3' m3' ∧ m3' = if 286 < n1 + 257 ∨ 30 < n2 + 1 then none else mNum 4 (mNum 5 (mNum 5 m)) := by
    by_cases c1 : 286 < n1 + 257
    · rw [decide_eq_true (by omega), cond_true, if_pos (.inl c1)]
      exact ⟨true, none, rfl, hr3.fail, rfl⟩
    · rw [decide_eq_false (by omega), cond_false]
      by_cases c2 : 30 < n2 + 1
      · rw [decide_eq_true (by omega), if_pos (.inr c2)]
        exact ⟨true, none, rfl, hr3.fail, rfl⟩
      · rw [decide_eq_false (by omega), if_neg (by omega)]
        exact ⟨b3, _, rfl, hr3, rfl⟩
  obtain ⟨b3', m3', esel, hr3', hm3'⟩ := hsel
  rw [esel]
  simp only [bind_go]
  have ho : ([16, 17, 18, 0, 8, 7, 9, 6, 10, 5, 11, 4, 12, 3, 13, 2, 14, 1, 15] : List Int) = zs orderL := rfl
  have hol : (zs orderL).length = 19 := rfl
  have hz : List.replicate 19 (0 : Int) = zs (List.replicate 19 0) := by kernel_rfl
  rw [ho, hol, Int.toNat_natCast, Int.toNat_natCast, zs_take, zs_length, need_true _ (by decide), need_true _ (by simp; omega), hz, fuel_of]
  obtain ⟨r, er, a4, b4, M4, rfl, hp4⟩ := rLengths_l0 hs ((n1 + 257 : Nat) : Int) ((n2 + 1 : Nat) : Int) (orderL.take (n3 + 4)) (orderL_take_lt _) (by rw [List.length_take]; show min _ 19 ≤ 100; omega) (orderL.take (n3 + 4)).length 0 (List.replicate 19 0) a3 b3' m3' (by omega) (by rw [List.length_replicate]) hr3'
  rw [show ((0 : Nat) : Int) = 0 from rfl] at er
  rw [er, List.drop_zero] at *
  simp only [bind_go]
  -- nothing is read behind a failure
  have hdead : (m3'.bind fun l => mMeta (orderL.take (n3 + 4)) l (List.replicate 19 0)) = none → mLens m = none := by
    intro hd
    rw [hm3'] at hd
    cases hmm : mNum 4 (mNum 5 (mNum 5 m)) with
    | none => exact mLens_none hmm
    | some l3 =>
      obtain ⟨l, l1, l2, k0, k1, k2, k3, k4, k5, k6⟩ := mLens_some hmm
      rw [k6, ← hnv1 l k0 k3, ← hnv2 l1 k1 k4, ← hnv3 l2 k2 k5]
      unfold mLens3
      rw [hmm] at hd
      by_cases c : 286 < n1 + 257 ∨ 30 < n2 + 1
      · cases mMeta (orderL.take (n3 + 4)) l3 (List.replicate 19 0) with
        | none => rfl
        | some p =>
          obtain ⟨l4, M⟩ := p
          dsimp only
          rw [if_pos (.inr c)]
      · rw [if_neg c] at hd
        simp only [Option.bind_some] at hd
        rw [hd]
  cases hmeta : (m3'.bind fun l => mMeta (orderL.take (n3 + 4)) l (List.replicate 19 0)) with
  | none =>
    rw [hmeta] at hp4
    obtain ⟨M', rfl, hM', hb, hr4⟩ := hp4
    subst hb
    rw [hdead hmeta]
    simp only [cond_true, bind_go]
    exact .pure ⟨rfl, rfl, rfl, rfl, hr4⟩
  | some p =>
    obtain ⟨l4, M⟩ := p
    rw [hmeta] at hp4
    obtain ⟨rfl, hM, hb, hr4⟩ := hp4
    subst hb
    -- the numbers are those of the bits
    have hc : ¬ (286 < n1 + 257 ∨ 30 < n2 + 1) := fun c => by rw [if_pos c] at hm3'; subst hm3'; simp at hmeta
    rw [if_neg hc] at hm3'
    obtain ⟨l3, hl3⟩ : ∃ l3, m3' = some l3 := by
      cases m3' with
      | none => simp at hmeta
      | some l3 => exact ⟨l3, rfl⟩
    rw [hl3] at hm3' hmeta
    simp only [Option.bind_some] at hmeta
    obtain ⟨l, l1, l2, k0, k1, k2, k3, k4, k5, k6⟩ := mLens_some hm3'.symm
    rw [k6, ← hnv1 l k0 k3, ← hnv2 l1 k1 k4, ← hnv3 l2 k2 k5]
    unfold mLens3
    rw [hmeta]
    dsimp only
    simp only [cond_false, bind_go]
    rw [lensOk_eq]
    simp only [bind_go]
    by_cases hL : lensM M = true
    · obtain ⟨q1, q2⟩ := lensM_le hL
      rw [hL, if_neg (by simp; omega)]
      simp only [Bool.not_true, cond_false]
      obtain ⟨bk, eB, hB⟩ := bookOf_ret M (by omega) q2
      rw [eB]
      simp only [bind_go]
      rw [w64_id (n := ((n1 + 257 : Nat) : Int) + ((n2 + 1 : Nat) : Int)) (by omega) (by omega), List.length_nil, show ((((n1 + 257 : Nat) : Int) + ((n2 + 1 : Nat) : Int)) - ((0 : Nat) : Int)).toNat + 1 = (n1 + 257 + (n2 + 1)) + 1 by omega, show ([] : List Int) = zs [] from rfl]
      obtain ⟨r, er, hp⟩ := rLengths_l2 hs M hM hB (n1 + 257) (n2 + 1) (by omega) (n1 + 257 + (n2 + 1)) ((n1 + 257 + (n2 + 1)) + 1) l4 [] a4 (by simp) (by omega) (by simp) hr4
      rw [er]
      simp only [bind_go]
      cases hall : mAll M (n1 + 257 + (n2 + 1)) (n1 + 257 + (n2 + 1) + 1) l4 [] with
      | none =>
        rw [hall] at hp
        obtain ⟨a5, all, rfl, hr5, _⟩ := hp
        rw [show rLenT (n1 + 257) (n2 + 1) s a5 true all = (((n1 + 257 : Nat) : Int), ((n2 + 1 : Nat) : Int), s, a5, true, zs all) from rfl]
        dsimp only
        have e : ∀ x : Bool, ((bif x then some true else some true) : Option Bool) = some true := fun x => by cases x <;> rfl
        rw [e]
        simp only [bind_go, cond_true]
        exact .pure ⟨rfl, rfl, rfl, rfl, hr5⟩
      | some p =>
        obtain ⟨l5, all⟩ := p
        rw [hall] at hp
        obtain ⟨a5, rfl, hr5, hlen⟩ := hp
        rw [show rLenT (n1 + 257) (n2 + 1) s a5 false all = (((n1 + 257 : Nat) : Int), ((n2 + 1 : Nat) : Int), s, a5, false, zs all) from rfl]
        dsimp only
        rw [w64_id (n := ((n1 + 257 : Nat) : Int) + ((n2 + 1 : Nat) : Int)) (by omega) (by omega), zs_length]
        by_cases hcl : all.length = n1 + 257 + (n2 + 1)
        · rw [if_pos hcl, show ((all.length : Int) != ((n1 + 257 : Nat) : Int) + ((n2 + 1 : Nat) : Int)) = false by simp; omega, cond_false]
          simp only [bind_go, cond_false]
          rw [need_true _ (by simp; omega), need_true _ (by simp; omega), Int.toNat_natCast, List.drop_zero, zs_take, zs_drop, zs_take, List.take_of_length_le (l := all.drop (n1 + 257)) (by rw [List.length_drop]; omega)]
          exact .pure ⟨rfl, rfl, rfl, rfl, hr5⟩
        · rw [if_neg hcl, show ((all.length : Int) != ((n1 + 257 : Nat) : Int) + ((n2 + 1 : Nat) : Int)) = true by simp; omega, cond_true]
          simp only [bind_go, cond_true]
          exact .pure ⟨rfl, rfl, rfl, rfl, hr5.fail⟩
    · have hL : lensM M = false := by simpa using hL
      rw [hL, if_pos (.inl rfl)]
      simp only [Bool.not_false, cond_true]
      exact .pure ⟨rfl, rfl, rfl, rfl, hr4.fail⟩
end Ev
end
section
set_option linter.unusedVariables false
set_option linter.unusedSimpArgs false
namespace Ev
open Go
theorem sMany_bad (g t i : Int) (s : Str) (a : Int) (out : List Int) (F : Nat) : sMany.l0 (F + 1) (g, t, i, s, a, true, out) = some (s, a, true, out) := by
  rw [sMany.l0.succ]; simp only [sMany.l0.step]
  cases decide (i < t) <;> rfl
theorem sMany_l0 (g t : Nat) (ht : t ≤ 1000) (s : Str) (a : Int) : ∀ (j i : Nat) (all : List Nat), i + j = t → all.length + j ≤ 100000 →
    sMany.l0 (j + 1) ((g : Int), (t : Int), (i : Int), s, a, false, zs all) = some (s, a, false, zs (all ++ List.replicate j g))
  | 0, i, all, h, hb => by
    rw [sMany.l0.succ]; simp only [sMany.l0.step]
    rw [idx_ge (by omega)]; simp
  | j + 1, i, all, h, hb => by
    rw [sMany.l0.succ]; simp only [sMany.l0.step]
    rw [idx_lt (by omega), cond_true, Bool.not_false]
    simp only [bind_go, cond_true]
    rw [need_fits (by simp [zs_length]; omega), w64_id (by omega) (by omega), show (i : Int) + 1 = ((i + 1 : Nat) : Int) by omega,
      show zs all ++ [(g : Int)] = zs (all ++ [g]) by rw [zs_append]; rfl, sMany_l0 g t ht s a j (i + 1) (all ++ [g]) (by omega) (by simp; omega)]
    rw [List.replicate_succ]; simp
def ManyP (s : Str) (x : Option (List Bool × List Nat)) (r : Str × Int × Bool × List Int) : Prop := match x with
  | some (l2, all2) => ∃ a, r = (s, a, false, zs all2) ∧ Rs s a false (some l2)
  | none => ∃ a all2, r = (s, a, true, zs all2) ∧ Rs s a true none
theorem sMany_st {s : Str} (hs : s.length ≤ 1000000000) (i : Nat) (hi : i < 19) (l1 : List Bool) (all : List Nat) (hall : all.length ≤ 2000) (a1 : Int) (hr : Rs s a1 false (some l1)) :
    Ret (sMany (i : Int) s a1 false (zs all)) (ManyP s (mRep i l1 all)) := by
  unfold sMany
  have fin : ∀ (g t : Nat) (a2 : Int) (b2 : Bool) (m2 : Option (List Bool)), t ≤ 138 → Rs s a2 b2 m2 →
      Ret (sMany.l0 (t + 1) ((g : Int), (t : Int), 0, s, a2, b2, zs all)) (ManyP s (m2.bind fun l2 => some (l2, all ++ List.replicate t g))) := by
    intro g t a2 b2 m2 ht h2
    cases m2 with
    | none =>
      have hb : b2 = true := h2.1
      subst hb
      rw [sMany_bad]
      exact .pure ⟨a2, all, rfl, h2⟩
    | some l2 =>
      have hb : b2 = false := h2.1
      subst hb
      have e := sMany_l0 g t (by omega) s a2 t 0 all (by omega) (by omega)
      rw [show ((0 : Nat) : Int) = 0 from rfl] at e
      rw [e]
      exact .pure ⟨a2, rfl, h2⟩
  rw [zs_length]
  unfold mRep
  by_cases c2 : i = 16
  · subst c2
    rw [show (((16 : Nat) : Int) == 16) = true by simp, cond_true, if_neg (by omega), if_pos rfl]
    simp only [bind_go]
    by_cases c3 : all = []
    · subst c3
      rw [if_pos rfl, show ((((([] : List Nat).length : Nat)) : Int) == 0) = true from rfl, cond_true]
      simp only [bind_go]
      rw [sMany_bad]
      exact .pure ⟨a1, [], rfl, hr.fail⟩
    · have hpos : 0 < all.length := List.length_pos_iff.2 c3
      rw [if_neg c3, show ((all.length : Int) == 0) = false by simp; omega, cond_false, cond_true, w64_id (n := (all.length : Int) - 1) (by omega) (by omega), show (all.length : Int) - 1 = ((all.length - 1 : Nat) : Int) by omega, need_true _ (idx_in (by omega)), Int.toNat_natCast, zs_getD]
      obtain ⟨⟨v, s2, a2, b2⟩, e2, hs2, ⟨n, hv, hn2, hnv⟩, hr2⟩ := sNum_st hs 2 (by omega) hr
      dsimp only at e2 hs2 hv hr2
      subst s2
      subst hv
      rw [show ((2 : Nat) : Int) = 2 from rfl] at e2
      rw [e2]
      simp only [bind_go]
      rw [w64_id (n := 3 + (n : Int)) (by omega) (by omega), show 3 + (n : Int) = ((3 + n : Nat) : Int) by omega, Int.sub_zero, Int.toNat_natCast]
      obtain ⟨r, er, hf⟩ := fin (all.getD (all.length - 1) 0) (3 + n) a2 b2 (mNum 2 (some l1)) (by omega) hr2
      rw [er]
      refine .pure ?_
      cases hm2 : mNum 2 (some l1) with
      | none => rw [hm2] at hf; exact hf
      | some l2 =>
        rw [hm2] at hf
        rw [← hnv l1 rfl (mNum_less hm2).1]
        exact hf
  rw [show ((i : Int) == 16) = false by simp; omega, cond_false]
  simp only [bind_go, cond_false]
  by_cases c3 : i = 17
  · subst c3
    rw [show (((17 : Nat) : Int) == 17) = true by simp, cond_true, if_neg (by omega), if_neg (by omega), if_pos rfl]
    obtain ⟨⟨v, s2, a2, b2⟩, e2, hs2, ⟨n, hv, hn2, hnv⟩, hr2⟩ := sNum_st hs 3 (by omega) hr
    dsimp only at e2 hs2 hv hr2
    subst s2
    subst hv
    rw [show ((3 : Nat) : Int) = 3 from rfl] at e2
    rw [e2]
    simp only [bind_go]
    rw [w64_id (n := 3 + (n : Int)) (by omega) (by omega), show 3 + (n : Int) = ((3 + n : Nat) : Int) by omega, Int.sub_zero, Int.toNat_natCast]
    obtain ⟨r, er, hf⟩ := fin 0 (3 + n) a2 b2 (mNum 3 (some l1)) (by omega) hr2
    rw [show ((0 : Nat) : Int) = 0 from rfl] at er
    rw [er]
    refine .pure ?_
    cases hm2 : mNum 3 (some l1) with
    | none => rw [hm2] at hf; exact hf
    | some l2 =>
      rw [hm2] at hf
      rw [← hnv l1 rfl (mNum_less hm2).1]
      exact hf
  rw [show ((i : Int) == 17) = false by simp; omega, cond_false]
  by_cases c4 : i = 18
  · subst c4
    rw [show (((18 : Nat) : Int) == 18) = true by simp, cond_true, if_neg (by omega), if_neg (by omega), if_neg (by omega)]
    obtain ⟨⟨v, s2, a2, b2⟩, e2, hs2, ⟨n, hv, hn2, hnv⟩, hr2⟩ := sNum_st hs 7 (by omega) hr
    dsimp only at e2 hs2 hv hr2
    subst s2
    subst hv
    rw [show ((7 : Nat) : Int) = 7 from rfl] at e2
    rw [e2]
    simp only [bind_go]
    rw [w64_id (n := 11 + (n : Int)) (by omega) (by omega), show 11 + (n : Int) = ((11 + n : Nat) : Int) by omega, Int.sub_zero, Int.toNat_natCast]
    obtain ⟨r, er, hf⟩ := fin 0 (11 + n) a2 b2 (mNum 7 (some l1)) (by omega) hr2
    rw [show ((0 : Nat) : Int) = 0 from rfl] at er
    rw [er]
    refine .pure ?_
    cases hm2 : mNum 7 (some l1) with
    | none => rw [hm2] at hf; exact hf
    | some l2 =>
      rw [hm2] at hf
      rw [← hnv l1 rfl (mNum_less hm2).1]
      exact hf
  rw [show ((i : Int) == 18) = false by simp; omega, cond_false, if_pos (by omega)]
  simp only [bind_go]
  obtain ⟨r, er, hf⟩ := fin i 1 a1 false (some l1) (by omega) hr
  rw [show ((1 : Nat) : Int) = 1 from rfl] at er
  rw [show ((1 : Int) - 0).toNat + 1 = 1 + 1 from rfl, er]
  exact .pure hf
theorem sMany_dead {s : Str} (hs : s.length ≤ 1000000000) (v : Int) (all : List Nat) (hall : all.length ≤ 2000) (a1 : Int) (hr : Rs s a1 true none) :
    Ret (sMany v s a1 true (zs all)) fun r => ∃ a, r = (s, a, true, zs all) ∧ Rs s a true none := by
  unfold sMany
  have num : ∀ k : Nat, k ≤ 60 → ∃ (n a2 : Int), sNum (k : Int) s a1 true = some (n, s, a2, true) ∧ Rs s a2 true none := fun k hk => by
    obtain ⟨⟨v, s2, a2, b2⟩, e2, hs2, _, hr2⟩ := sNum_st hs k hk hr
    dsimp only at e2 hs2 hr2
    subst s2
    have hb : b2 = true := hr2.1
    subst hb
    exact ⟨v, a2, e2, hr2⟩
  obtain ⟨x2, y2, e2, h2⟩ := num 2 (by omega)
  obtain ⟨x3, y3, e3, h3⟩ := num 3 (by omega)
  obtain ⟨x7, y7, e7, h7⟩ := num 7 (by omega)
  rw [show ((2 : Nat) : Int) = 2 from rfl] at e2
  rw [show ((3 : Nat) : Int) = 3 from rfl] at e3
  rw [show ((7 : Nat) : Int) = 7 from rfl] at e7
  rw [zs_length, e2, e3, e7]
  simp only [bind_go]
  by_cases c2 : v = 16
  · subst c2
    rw [show ((16 : Int) == 16) = true from rfl]
    simp only [cond_true, bind_go]
    by_cases c3 : all = []
    · subst c3
      rw [show ((((([] : List Nat).length : Nat)) : Int) == 0) = true from rfl, cond_true]
      simp only [bind_go]
      rw [sMany_bad]
      exact .pure ⟨a1, rfl, hr⟩
    · have hpos : 0 < all.length := List.length_pos_iff.2 c3
      rw [show ((all.length : Int) == 0) = false by simp; omega, cond_false, w64_id (n := (all.length : Int) - 1) (by omega) (by omega), show (all.length : Int) - 1 = ((all.length - 1 : Nat) : Int) by omega, need_true _ (idx_in (by omega))]
      simp only [bind_go]
      rw [sMany_bad]
      exact .pure ⟨y2, rfl, h2⟩
  rw [show (v == 16) = false by simpa using c2]
  simp only [cond_false, bind_go]
  cases (v == 17) <;> cases (v == 18) <;> simp only [cond_true, cond_false, bind_go] <;> rw [sMany_bad] <;> first
    | exact .pure ⟨y3, rfl, h3⟩
    | exact .pure ⟨y7, rfl, h7⟩
    | exact .pure ⟨a1, rfl, hr⟩
theorem sLens_bad (lit dist : Int) (s : Str) (a : Int) (L C all : List Int) (F : Nat) : sLens.l1 (F + 1) (lit, dist, s, a, true, L, C, all) = some (lit, dist, s, a, true, all) := by
  rw [sLens.l1.succ]; simp only [sLens.l1.step]
  cases decide ((all.length : Int) < w64 (lit + dist)) <;> rfl
theorem sLens_l1 {s : Str} (hs : s.length ≤ 1000000000) (M : List Nat) (hM : M.length = 19) (hM15 : ∀ n ∈ M, n ≤ 15) (lit dist : Nat) (hn : lit + dist ≤ 1000) : ∀ (f F : Nat) (l : List Bool) (all : List Nat) (a : Int), lit + dist ≤ all.length + f → f + 1 ≤ F → all.length ≤ 2000 → Rs s a false (some l) →
    Ret (sLens.l1 F ((lit : Int), (dist : Int), s, a, false, zs M, zs (codesM M), zs all)) (fun r => match mAll M (lit + dist) (f + 1) l all with
      | some (l', all') => ∃ a', r = rLenT lit dist s a' false all' ∧ Rs s a' false (some l') ∧ all'.length ≤ 2000
      | none => ∃ a' all', r = rLenT lit dist s a' true all' ∧ Rs s a' true none) := by
  intro f
  induction f with
  | zero =>
    intro F l all a h1 h2 h3 h
    cases F with
    | zero => exact absurd h2 (by omega)
    | succ F =>
    rw [sLens.l1.succ]; simp only [sLens.l1.step, zs_length]
    rw [w64_id (n := (lit : Int) + dist) (by omega) (by omega), mAll_succ]
    unfold mAllStep
    rw [if_neg (by omega), decide_eq_false (by omega), cond_false]
    simp only [bind_go, cond_false]
    exact .pure ⟨a, rfl, h, h3⟩
  | succ f ih =>
    intro F l all a h1 h2 h3 h
    cases F with
    | zero => exact absurd h2 (by omega)
    | succ F =>
    rw [sLens.l1.succ]; simp only [sLens.l1.step, zs_length]
    rw [w64_id (n := (lit : Int) + dist) (by omega) (by omega), mAll_succ]
    unfold mAllStep
    by_cases c : all.length < lit + dist
    · rw [if_pos c, decide_eq_true (by omega), cond_true, Bool.not_false]
      simp only [bind_go, cond_true]
      obtain ⟨⟨r, s1, a1, b1⟩, e1, hs1, hp⟩ := sSymbol_st hs M (by omega) hM15 h
      dsimp only at e1 hs1 hp
      subst s1
      rw [e1]
      simp only [bind_go]
      cases F with
      | zero => exact absurd h2 (by omega)
      | succ F =>
      cases hm : mSym M (some l) with
      | none =>
        rw [hm] at hp
        have hb : b1 = true := hp.2.2.1
        subst hb
        obtain ⟨r2, e2, a2, rfl, hr2⟩ := sMany_dead hs r all h3 a1 hp.2.2
        rw [e2]
        simp only [bind_go]
        rw [sLens_bad]
        exact .pure ⟨a2, all, rfl, hr2⟩
      | some p =>
        obtain ⟨i, l1⟩ := p
        rw [hm] at hp
        obtain ⟨rfl, hr⟩ := hp
        have hb : b1 = false := hr.1
        subst hb
        have hi := (mSym_less hm).2
        obtain ⟨r2, e2, hp2⟩ := sMany_st hs i (by omega) l1 all h3 a1 hr
        rw [e2]
        simp only [bind_go]
        cases hrep : mRep i l1 all with
        | none =>
          rw [hrep] at hp2
          obtain ⟨a2, all2, rfl, hr2⟩ := hp2
          dsimp only
          rw [sLens_bad]
          exact .pure ⟨a2, all2, rfl, hr2⟩
        | some q =>
          obtain ⟨l2, all2⟩ := q
          rw [hrep] at hp2
          obtain ⟨a2, rfl, hr2⟩ := hp2
          have hmore := mRep_more hrep
          exact ih (F + 1) l2 all2 a2 (by omega) (by omega) (by omega) hr2
    · rw [if_neg c, decide_eq_false (by omega), cond_false]
      simp only [bind_go, cond_false]
      exact .pure ⟨a, rfl, h, h3⟩
end Ev
end
section
set_option linter.unusedVariables false
set_option linter.unusedSimpArgs false
namespace Ev
open Go
def mLensS (m : Option (List Bool)) : Option (List Nat × List Nat × List Bool) := match mLens m with
  | none => none
  | some (ls, ds, l) => if lensM ls && lensM ds then some (ls, ds, l) else none
theorem l5Order_eq : l5Order = some (zs orderL) := rfl
theorem sLens_l0 {s : Str} (hs : s.length ≤ 1000000000) (lit dist : Int) (n : Nat) (hn : n ≤ 19) : ∀ (j i : Nat) (M : List Nat) (a : Int) (b : Bool) (m : Option (List Bool)), i + j = n → M.length = 19 → Rs s a b m →
    Ret (sLens.l0 (j + 1) (lit, dist, (n : Int), (i : Int), s, a, b, zs M)) fun r => ∃ a' b' M', r = (lit, dist, s, a', b', M') ∧ MetaP s (m.bind fun l => mMeta ((orderL.take n).drop i) l M) a' b' M'
  | 0, i, M, a, b, m, h, hM, hr => by
    rw [sLens.l0.succ]; simp only [sLens.l0.step]
    rw [idx_ge (by omega), List.drop_eq_nil_of_le (by rw [List.length_take]; show min n 19 ≤ i; omega)]
    cases m with
    | none => exact .pure ⟨a, b, zs M, rfl, M, rfl, hM, hr.1, by have := hr.1; subst this; exact hr⟩
    | some l => exact .pure ⟨a, b, zs M, rfl, rfl, hM, hr.1, by have := hr.1; subst this; exact hr⟩
  | j + 1, i, M, a, b, m, h, hM, hr => by
    have hlt : i < orderL.length := by show i < 19; omega
    have hlt2 : i < (orderL.take n).length := by rw [List.length_take]; show i < min n 19; omega
    have hk := orderL_lt i (by omega)
    have hge : (orderL.take n)[i] = orderL.getD i 0 := by rw [List.getElem_take, getD_in hlt]
    rw [sLens.l0.succ]; simp only [sLens.l0.step, zs_length]
    rw [idx_lt (by omega), cond_true, l5Order_eq]
    simp only [bind_go, zs_length]
    rw [need_true _ (idx_in hlt)]
    obtain ⟨⟨v, s2, a2, b2⟩, e2, hs2, ⟨x, hv, hn2, hnv⟩, hr2⟩ := sNum_st hs 3 (by omega) hr
    dsimp only at e2 hs2 hv hr2
    subst s2
    subst hv
    rw [show ((3 : Nat) : Int) = 3 from rfl] at e2
    rw [e2]
    simp only [bind_go]
    rw [Int.toNat_natCast, zs_getD, hM, need_true _ (idx_in hk), Int.toNat_natCast, zs_set, w64_id (by omega) (by omega), show (i : Int) + 1 = ((i + 1 : Nat) : Int) by omega]
    have ih := sLens_l0 hs lit dist n hn j (i + 1) (M.set (orderL.getD i 0) x) a2 b2 (mNum 3 m) (by omega) (by simp [hM]) hr2
    refine ih.mono ?_
    rintro r ⟨a', b', M', rfl, hp⟩
    refine ⟨a', b', M', rfl, ?_⟩
    have e : (m.bind fun l => mMeta ((orderL.take n).drop i) l M) = ((mNum 3 m).bind fun l => mMeta ((orderL.take n).drop (i + 1)) l (M.set (orderL.getD i 0) x)) := by
      cases m with
      | none => rfl
      | some l =>
        rw [List.drop_eq_getElem_cons hlt2, hge]
        simp only [Option.bind_some, mMeta]
        cases hm2 : mNum 3 (some l) with
        | none => rfl
        | some l' => rw [hnv l rfl (mNum_less hm2).1]; rfl
    rw [e]
    exact hp
theorem mLensS_none {m : Option (List Bool)} (h : mLens m = none) : mLensS m = none := by unfold mLensS; rw [h]
set_option maxRecDepth 100000 in
theorem sLens_eq {s : Str} (hs : s.length ≤ 1000000000) {at_ : Int} {bad : Bool} {m : Option (List Bool)} (h : Rs s at_ bad m) : Ret (sLens s at_ bad) (LensP s (mLensS m)) := by
  unfold sLens
  obtain ⟨⟨v, s1, a1, b1⟩, e1, hs1, ⟨n1, hv, hn1, hnv1⟩, hr1⟩ := sNum_st hs 5 (by omega) h
  dsimp only at e1 hs1 hv hr1
  subst s1
  subst hv
  rw [show ((5 : Nat) : Int) = 5 from rfl] at e1
  rw [e1]
  simp only [bind_go]
  obtain ⟨⟨v, s2, a2, b2⟩, e2, hs2, ⟨n2, hv, hn2, hnv2⟩, hr2⟩ := sNum_st hs 5 (by omega) hr1
  dsimp only at e2 hs2 hv hr2
  subst s2
  subst hv
  rw [show ((5 : Nat) : Int) = 5 from rfl] at e2
  rw [e2]
  simp only [bind_go]
  obtain ⟨⟨v, s3, a3, b3⟩, e3, hs3, ⟨n3, hv, hn3, hnv3⟩, hr3⟩ := sNum_st hs 4 (by omega) hr2
  dsimp only at e3 hs3 hv hr3
  subst s3
  subst hv
  rw [show ((4 : Nat) : Int) = 4 from rfl] at e3
  rw [e3]
  simp only [bind_go]
  rw [w64_id (n := 257 + (n1 : Int)) (by omega) (by omega), w64_id (n := 1 + (n2 : Int)) (by omega) (by omega), w64_id (n := 4 + (n3 : Int)) (by omega) (by omega),
    show 257 + (n1 : Int) = ((n1 + 257 : Nat) : Int) by omega, show 1 + (n2 : Int) = ((n2 + 1 : Nat) : Int) by omega, show 4 + (n3 : Int) = ((n3 + 4 : Nat) : Int) by omega]
  have hz : List.replicate 19 (0 : Int) = zs (List.replicate 19 0) := by kernel_rfl
  rw [need_true _ (by decide), hz, fuel_of]
  obtain ⟨r, er, a4, b4, M4, rfl, hp4⟩ := sLens_l0 hs ((n1 + 257 : Nat) : Int) ((n2 + 1 : Nat) : Int) (n3 + 4) (by omega) (n3 + 4) 0 (List.replicate 19 0) a3 b3 _ (by omega) (by rw [List.length_replicate]) hr3
  rw [show ((0 : Nat) : Int) = 0 from rfl] at er
  rw [List.drop_zero] at hp4
  rw [er]
  simp only [bind_go]
  cases hmeta : ((mNum 4 (mNum 5 (mNum 5 m))).bind fun l => mMeta (orderL.take (n3 + 4)) l (List.replicate 19 0)) with
  | none =>
    rw [hmeta] at hp4
    obtain ⟨M', rfl, hM', hb, hr4⟩ := hp4
    subst hb
    have hmod : mLens m = none := by
      cases hmm : mNum 4 (mNum 5 (mNum 5 m)) with
      | none => exact mLens_none hmm
      | some l3 =>
        obtain ⟨l, l1, l2, k0, k1, k2, k3, k4, k5, k6⟩ := mLens_some hmm
        rw [k6, ← hnv1 l k0 k3, ← hnv2 l1 k1 k4, ← hnv3 l2 k2 k5]
        unfold mLens3
        rw [hmm] at hmeta
        simp only [Option.bind_some] at hmeta
        rw [hmeta]
    rw [mLensS_none hmod, specLensOk_eq M' (by omega)]
    simp only [bind_go]
    generalize hcd : (bif !lensM M' then some true else bif decide (((n1 + 257 : Nat) : Int) > 286) then some true else some (decide (((n2 + 1 : Nat) : Int) > 30))) = cd
    have hcd' : ∃ x, cd = some x := by
      subst hcd
      cases lensM M' <;> cases decide (((n1 + 257 : Nat) : Int) > 286) <;> exact ⟨_, rfl⟩
    obtain ⟨x, rfl⟩ := hcd'
    simp only [bind_go]
    cases x with
    | true =>
      simp only [cond_true]
      exact .pure ⟨rfl, rfl, rfl, rfl, hr4⟩
    | false =>
      simp only [cond_false]
      rw [l3Codes_eq M' (by omega)]
      simp only [bind_go]
      rw [sLens_bad]
      simp only [bind_go, cond_true]
      exact .pure ⟨rfl, rfl, rfl, rfl, hr4⟩
  | some p =>
    obtain ⟨l4, M⟩ := p
    rw [hmeta] at hp4
    obtain ⟨rfl, hM, hb, hr4⟩ := hp4
    subst hb
    obtain ⟨l3, hl3⟩ : ∃ l3, mNum 4 (mNum 5 (mNum 5 m)) = some l3 := by
      cases hmm : mNum 4 (mNum 5 (mNum 5 m)) with
      | none => rw [hmm] at hmeta; simp at hmeta
      | some l3 => exact ⟨l3, rfl⟩
    rw [hl3] at hmeta
    simp only [Option.bind_some] at hmeta
    obtain ⟨l, l1, l2, k0, k1, k2, k3, k4, k5, k6⟩ := mLens_some hl3
    have hmod := k6
    rw [← hnv1 l k0 k3, ← hnv2 l1 k1 k4, ← hnv3 l2 k2 k5] at hmod
    unfold mLens3 at hmod
    rw [hmeta] at hmod
    dsimp only at hmod
    rw [specLensOk_eq M (by omega)]
    simp only [bind_go]
    by_cases hc : lensM M = false ∨ 286 < n1 + 257 ∨ 30 < n2 + 1
    · rw [if_pos hc] at hmod
      rw [mLensS_none hmod]
      have hcd : (bif !lensM M then some true else bif decide (((n1 + 257 : Nat) : Int) > 286) then some true else some (decide (((n2 + 1 : Nat) : Int) > 30))) = some true := by
        rcases hc with hc | hc | hc
        · rw [hc]; rfl
        · rw [decide_eq_true (by omega)]; cases lensM M <;> rfl
        · rw [decide_eq_true (show ((n2 + 1 : Nat) : Int) > 30 by omega)]; cases lensM M <;> cases decide (((n1 + 257 : Nat) : Int) > 286) <;> rfl
      rw [hcd]
      simp only [bind_go, cond_true]
      exact .pure ⟨rfl, rfl, rfl, rfl, hr4.fail⟩
    · rw [if_neg hc] at hmod
      have hL : lensM M = true := by
        cases hh : lensM M with
        | true => rfl
        | false => exact absurd (.inl hh) hc
      obtain ⟨q1, q2⟩ := lensM_le hL
      rw [hL, decide_eq_false (show ¬ ((n1 + 257 : Nat) : Int) > 286 by omega), decide_eq_false (show ¬ ((n2 + 1 : Nat) : Int) > 30 by omega)]
      simp only [Bool.not_true, cond_false, bind_go]
      rw [l3Codes_eq M (by omega)]
      simp only [bind_go]
      rw [w64_id (n := ((n1 + 257 : Nat) : Int) + ((n2 + 1 : Nat) : Int)) (by omega) (by omega), List.length_nil, show ((((n1 + 257 : Nat) : Int) + ((n2 + 1 : Nat) : Int)) - ((0 : Nat) : Int)).toNat + 1 = (n1 + 257 + (n2 + 1)) + 1 by omega, show ([] : List Int) = zs [] from rfl]
      obtain ⟨r, er, hp⟩ := sLens_l1 hs M hM q2 (n1 + 257) (n2 + 1) (by omega) (n1 + 257 + (n2 + 1)) ((n1 + 257 + (n2 + 1)) + 1) l4 [] a4 (by simp) (by omega) (by simp) hr4
      rw [er]
      simp only [bind_go]
      cases hall : mAll M (n1 + 257 + (n2 + 1)) (n1 + 257 + (n2 + 1) + 1) l4 [] with
      | none =>
        rw [hall] at hp hmod
        obtain ⟨a5, all, rfl, hr5⟩ := hp
        rw [mLensS_none hmod]
        rw [show rLenT (n1 + 257) (n2 + 1) s a5 true all = (((n1 + 257 : Nat) : Int), ((n2 + 1 : Nat) : Int), s, a5, true, zs all) from rfl]
        simp only [bind_go, cond_true]
        exact .pure ⟨rfl, rfl, rfl, rfl, hr5⟩
      | some p =>
        obtain ⟨l5, all⟩ := p
        rw [hall] at hp hmod
        obtain ⟨a5, rfl, hr5, hlen⟩ := hp
        dsimp only at hmod
        rw [show rLenT (n1 + 257) (n2 + 1) s a5 false all = (((n1 + 257 : Nat) : Int), ((n2 + 1 : Nat) : Int), s, a5, false, zs all) from rfl]
        dsimp only
        rw [w64_id (n := ((n1 + 257 : Nat) : Int) + ((n2 + 1 : Nat) : Int)) (by omega) (by omega), zs_length]
        by_cases hcl : all.length = n1 + 257 + (n2 + 1)
        · rw [if_pos hcl] at hmod
          rw [show ((all.length : Int) != ((n1 + 257 : Nat) : Int) + ((n2 + 1 : Nat) : Int)) = false by simp; omega]
          simp only [cond_false]
          rw [need_true _ (by simp; omega), Int.toNat_natCast, List.drop_zero, zs_take, zs_drop, zs_take, List.take_of_length_le (l := all.drop (n1 + 257)) (by rw [List.length_drop]; omega),
            specLensOk_eq _ (by rw [List.length_take]; omega), specLensOk_eq _ (by rw [List.length_drop]; omega)]
          simp only [bind_go]
          rw [need_true _ (by simp; omega)]
          unfold mLensS
          rw [hmod]
          dsimp only
          cases hA : lensM (all.take (n1 + 257)) with
          | false =>
            simp only [Bool.not_false, cond_true, bind_go]
            exact .pure ⟨rfl, rfl, rfl, rfl, hr5.fail⟩
          | true =>
            simp only [Bool.not_true, cond_false, bind_go]
            cases hB : lensM (all.drop (n1 + 257)) with
            | false =>
              simp only [Bool.not_false, cond_true, bind_go]
              exact .pure ⟨rfl, rfl, rfl, rfl, hr5.fail⟩
            | true =>
              simp only [Bool.not_true, cond_false, bind_go]
              rw [need_true _ (by simp; omega), need_true _ (by simp; omega)]
              exact .pure ⟨rfl, rfl, rfl, rfl, hr5⟩
        · rw [if_neg hcl] at hmod
          rw [mLensS_none hmod, show ((all.length : Int) != ((n1 + 257 : Nat) : Int) + ((n2 + 1 : Nat) : Int)) = true by simp; omega]
          simp only [cond_true, cond_false, bind_go]
          exact .pure ⟨rfl, rfl, rfl, rfl, hr5.fail⟩
end Ev
end
section
set_option linter.unusedVariables false
set_option linter.unusedSimpArgs false
namespace Ev
open Go
def mBody (k : Nat) (m2 : Option (List Bool)) (out : List Int) : Option (List Bool × List Int) :=
  if k = 0 then mStored m2 out else if k = 1 then mPack fixL fixD m2 out else if k = 2 then (match mLens m2 with
    | none => none
    | some (ls, ds, l3) => mPack ls ds (some l3) out) else none
theorem mBody_none (k : Nat) (out : List Int) : mBody k none out = none := by
  unfold mBody
  split
  · rfl
  · split
    · rfl
    · split <;> rfl
def mPart : List Bool → List Int → Option (Bool × List Bool × List Int)
  | [], _ => none
  | b :: l1, out => (mBody (valB (l1.take 2)) (mNum 2 (some l1)) out).map fun p => (b, p.1, p.2)
theorem mPart_cons (b : Bool) (l1 : List Bool) (out : List Int) : mPart (b :: l1) out = (mBody (valB (l1.take 2)) (mNum 2 (some l1)) out).map fun p => (b, p.1, p.2) := rfl
theorem mTok_less (ls ds : List Nat) : ∀ (f : Nat) (l : List Bool) (out : List Int) {l' : List Bool} {o : List Int}, mTok ls ds f l out = some (l', o) → l'.length < l.length ∧ o.length ≤ 300 ∧ out.length ≤ 300
  | 0, l, out, l', o, h => by cases h
  | f + 1, l, out, l', o, h => by
    rw [mTok_succ] at h
    unfold mStep at h
    by_cases h300 : 300 < out.length
    · rw [if_pos h300] at h; cases h
    rw [if_neg h300] at h
    cases hm : mSym ls (some l) with
    | none => rw [hm] at h; cases h
    | some p =>
      obtain ⟨i, l1⟩ := p
      rw [hm] at h
      dsimp only at h
      have hl := (mSym_less hm).1
      by_cases h256 : i = 256
      · rw [if_pos h256] at h
        obtain ⟨rfl, rfl⟩ := Prod.mk.inj (Option.some.inj h)
        omega
      rw [if_neg h256] at h
      by_cases hlt : i < 256
      · rw [if_pos hlt] at h
        have := mTok_less ls ds f l1 _ h
        omega
      rw [if_neg hlt] at h
      by_cases h28 : 28 ≤ i - 257
      · rw [if_pos h28] at h; cases h
      rw [if_neg h28, mFar_bind] at h
      cases hf : mFar ds mPair (i - 257) l1 out with
      | none => rw [hf] at h; cases h
      | some q =>
        obtain ⟨l4, o4⟩ := q
        rw [hf] at h
        have h1 := mFar_less hf
        have h2 := mTok_less ls ds f l4 o4 h
        omega
theorem mPack_less {ls ds : List Nat} {l l' : List Bool} {out o : List Int} (h : mPack ls ds (some l) out = some (l', o)) : l'.length < l.length ∧ o.length ≤ 300 ∧ out.length ≤ 300 := by
  unfold mPack at h
  dsimp only at h
  split at h
  · exact mTok_less ls ds _ _ _ h
  · cases h
theorem mEven_less {l l' : List Bool} (h : mEven (some l) = some l') : l'.length ≤ l.length := by
  simp only [mEven] at h
  split at h
  · rw [← Option.some.inj h, List.length_drop]; omega
  · cases h
theorem mStored_less {l l' : List Bool} {out o : List Int} (h : mStored (some l) out = some (l', o)) : out.length ≤ o.length ∧ o.length + l'.length ≤ out.length + l.length ∧ l'.length ≤ l.length := by
  cases hm : mNum 16 (mNum 16 (mEven (some l))) with
  | none => rw [mStored_none hm] at h; cases h
  | some l2 =>
    obtain ⟨l0, l1, k1, k2, k3, k4, k5⟩ := mStored_some (out := out) hm
    rw [k5] at h
    split at h
    · cases h
    · rename_i hc
      obtain ⟨rfl, rfl⟩ := Prod.mk.inj (Option.some.inj h)
      have h0 := mEven_less k1
      have h1 := (mNum_less k2).2
      rw [k1, k2] at hm
      have h2 := (mNum_less hm).2
      rw [List.length_append, bytesB_length, List.length_drop, h2, List.length_drop, h1, List.length_drop]
      rw [h2, List.length_drop, h1, List.length_drop] at hc
      omega
theorem mMeta_less : ∀ (is : List Nat) (l : List Bool) (M : List Nat) {l' : List Bool} {M' : List Nat}, mMeta is l M = some (l', M') → l'.length ≤ l.length
  | [], l, M, l', M', h => by obtain ⟨rfl, rfl⟩ := Prod.mk.inj (Option.some.inj h); exact Nat.le_refl _
  | k :: r, l, M, l', M', h => by
    unfold mMeta at h
    cases hm : mNum 3 (some l) with
    | none => rw [hm] at h; cases h
    | some l1 =>
      rw [hm] at h
      have h1 := mMeta_less r l1 _ h
      have h2 := (mNum_less hm).2
      rw [h2, List.length_drop] at h1
      omega
theorem mAll_less (M : List Nat) (n : Nat) : ∀ (f : Nat) (l : List Bool) (all : List Nat) {l' : List Bool} {all' : List Nat}, mAll M n f l all = some (l', all') → l'.length ≤ l.length
  | 0, l, all, l', all', h => by cases h
  | f + 1, l, all, l', all', h => by
    rw [mAll_succ] at h
    unfold mAllStep at h
    by_cases c : all.length < n
    · rw [if_pos c] at h
      cases hm : mSym M (some l) with
      | none => rw [hm] at h; cases h
      | some p =>
        obtain ⟨s, l1⟩ := p
        rw [hm] at h
        dsimp only at h
        have h0 := (mSym_less hm).1
        cases hr : mRep s l1 all with
        | none => rw [hr] at h; cases h
        | some q =>
          obtain ⟨l2, a2⟩ := q
          rw [hr] at h
          have h1 := (mRep_more hr).2.2
          have h2 := mAll_less M n f l2 a2 h
          omega
    · rw [if_neg c] at h
      obtain ⟨rfl, rfl⟩ := Prod.mk.inj (Option.some.inj h)
      exact Nat.le_refl _
theorem mLens_less {l l' : List Bool} {ls ds : List Nat} (h : mLens (some l) = some (ls, ds, l')) : l'.length ≤ l.length := by
  cases hm : mNum 4 (mNum 5 (mNum 5 (some l))) with
  | none => rw [mLens_none hm] at h; cases h
  | some l3 =>
    obtain ⟨l0, l1, l2, k0, k1, k2, k3, k4, k5, k6⟩ := mLens_some hm
    rw [k6] at h
    unfold mLens3 at h
    have q1 := (mNum_less k1).2
    rw [k1] at k2 hm
    have q2 := (mNum_less k2).2
    rw [k2] at hm
    have q3 := (mNum_less hm).2
    cases hmeta : mMeta (orderL.take (valB (l2.take 4) + 4)) l3 (List.replicate 19 0) with
    | none => rw [hmeta] at h; cases h
    | some p =>
      obtain ⟨l4, M⟩ := p
      rw [hmeta] at h
      dsimp only at h
      have q4 := mMeta_less _ _ _ hmeta
      split at h
      · cases h
      · cases hall : mAll M (valB (l0.take 5) + 257 + (valB (l1.take 5) + 1)) (valB (l0.take 5) + 257 + (valB (l1.take 5) + 1) + 1) l4 [] with
        | none => rw [hall] at h; cases h
        | some p =>
          obtain ⟨l5, all⟩ := p
          rw [hall] at h
          dsimp only at h
          have q5 := mAll_less _ _ _ _ _ hall
          split at h
          · obtain ⟨_, h2⟩ := Prod.mk.inj (Option.some.inj h)
            obtain ⟨_, rfl⟩ := Prod.mk.inj h2
            rw [q3, List.length_drop, q2, List.length_drop, q1, List.length_drop] at q4
            omega
          · cases h
theorem mBody_less {k : Nat} {l l' : List Bool} {out o : List Int} (h : mBody k (some l) out = some (l', o)) : l'.length ≤ l.length ∧ (300 < out.length → 300 < o.length) ∧ (o.length + l'.length ≤ out.length + l.length ∨ o.length ≤ 300) := by
  unfold mBody at h
  by_cases c0 : k = 0
  · rw [if_pos c0] at h
    have := mStored_less h
    omega
  rw [if_neg c0] at h
  by_cases c1 : k = 1
  · rw [if_pos c1] at h
    have := mPack_less h
    omega
  rw [if_neg c1] at h
  by_cases c2 : k = 2
  · rw [if_pos c2] at h
    cases hm : mLens (some l) with
    | none => rw [hm] at h; cases h
    | some p =>
      obtain ⟨ls, ds, l3⟩ := p
      rw [hm] at h
      have h1 := mLens_less hm
      have h2 := mPack_less h
      omega
  · rw [if_neg c2] at h; cases h
theorem mPart_less {b : Bool} {l l' : List Bool} {out o : List Int} (h : mPart l out = some (b, l', o)) : l'.length < l.length ∧ (300 < out.length → 300 < o.length) ∧ (o.length + l'.length ≤ out.length + l.length ∨ o.length ≤ 300) := by
  cases l with
  | nil => cases h
  | cons c l1 =>
    rw [mPart_cons] at h
    cases h2 : mNum 2 (some l1) with
    | none => rw [h2, mBody_none] at h; cases h
    | some l2 =>
      rw [h2] at h
      cases hb : mBody (valB (l1.take 2)) (some l2) out with
      | none => rw [hb] at h; cases h
      | some p =>
        obtain ⟨l4, o4⟩ := p
        rw [hb] at h
        obtain ⟨_, h3⟩ := Prod.mk.inj (Option.some.inj h)
        obtain ⟨rfl, rfl⟩ := Prod.mk.inj h3
        have q := mBody_less hb
        have q2 := (mNum_less h2).2
        rw [q2, List.length_drop] at q
        rw [List.length_cons]
        dsimp only
        omega
def mGo : Nat → List Bool → List Int → Option (List Bool × List Int)
  | 0, _, _ => none
  | f + 1, l, out => (mPart l out).bind fun p => if 300 < p.2.2.length then none else if p.1 then some (p.2.1, p.2.2) else mGo f p.2.1 p.2.2
def mGoS : Nat → List Bool → List Int → Option (List Bool × List Int)
  | 0, _, _ => none
  | f + 1, l, out => (mPart l out).bind fun p => if p.1 then some (p.2.1, p.2.2) else mGoS f p.2.1 p.2.2
def short (x : Option (List Bool × List Int)) : Option (List Bool × List Int) := x.bind fun p => if 300 < p.2.length then none else some p
theorem mGoS_long : ∀ (f : Nat) (l : List Bool) (out : List Int), 300 < out.length → short (mGoS f l out) = none
  | 0, l, out, h => rfl
  | f + 1, l, out, h => by
    rw [mGoS]
    cases hp : mPart l out with
    | none => rfl
    | some p =>
      obtain ⟨b, l', o⟩ := p
      have := (mPart_less hp).2.1 h
      simp only [Option.bind_some]
      cases b with
      | true => show short (some (l', o)) = none; simp only [short, Option.bind_some]; rw [if_pos this]
      | false => exact mGoS_long f l' o this
theorem mGoS_short : ∀ (f : Nat) (l : List Bool) (out : List Int), short (mGoS f l out) = mGo f l out
  | 0, l, out => rfl
  | f + 1, l, out => by
    rw [mGoS, mGo]
    cases hp : mPart l out with
    | none => rfl
    | some p =>
      obtain ⟨b, l', o⟩ := p
      simp only [Option.bind_some]
      by_cases h : 300 < o.length
      · rw [if_pos h]
        cases b with
        | true => show short (some (l', o)) = none; simp only [short, Option.bind_some]; rw [if_pos h]
        | false => exact mGoS_long f l' o h
      · rw [if_neg h]
        cases b with
        | true => show short (some (l', o)) = some (l', o); simp only [short, Option.bind_some]; rw [if_neg h]
        | false => exact mGoS_short f l' o
end Ev
end
section
set_option linter.unusedVariables false
set_option linter.unusedSimpArgs false
namespace Ev
open Go
def mGet (s : Str) : Option (List Int × Nat) := (mGo (8 * s.length + 1) (bitsOf s) []).bind fun p => (mEven (some p.1)).map fun l => (p.2, s.length - l.length / 8)
def getZ : Option (List Int × Nat) → Str × Int × Bool
  | none => ([], 0, false)
  | some (o, n) => (toBytes o, (n : Int), true)
abbrev FR := (Str × Int × Bool × List Int) ⊕ (Str × Int × Bool)
def GoP (s : Str) (x : Option (List Bool × List Int)) (r : FR) : Prop := match x with
  | some (l, o) => ∃ a, r = .inl (s, a, false, o) ∧ Rs s a false (some l)
  | none => r = .inr ([], 0, false)
set_option maxRecDepth 100000 in
theorem flateGet_l0 {s : Str} (hs : s.length ≤ 10000) : ∀ (f F : Nat) (l : List Bool) (out : List Int) (a : Int), l.length < f → f < F → out.length ≤ 300 → Rs s a false (some l) →
    Ret (flateGet.l0 F (false, s, a, false, out)) (GoP s (mGo f l out)) := by
  intro f
  induction f with
  | zero => intro F l out a hf hF ho h; exact absurd hf (Nat.not_lt_zero _)
  | succ f ih =>
    intro F l out a hf hF ho h
    cases F with
    | zero => exact absurd hF (by omega)
    | succ F =>
    cases F with
    | zero => exact absurd hF (by omega)
    | succ F =>
    have hlen := h.len.2
    rw [flateGet.l0.succ]; simp only [flateGet.l0.step]
    simp only [Bool.not_false, cond_true]
    obtain ⟨⟨v, s1, a1, b1⟩, e1, hs1, b, hv, hr1, hbv⟩ := rBit_st (by omega) h
    dsimp only at e1 hs1 hv hr1
    subst s1
    subst hv
    rw [e1]
    simp only [bind_go]
    obtain ⟨⟨v, s2, a2, b2⟩, e2, hs2, ⟨k, hv, hk, hkv⟩, hr2⟩ := rGet_st (by omega) 2 (by omega) hr1
    dsimp only at e2 hs2 hv hr2
    subst s2
    subst hv
    rw [show ((2 : Nat) : Int) = 2 from rfl] at e2
    rw [e2]
    simp only [bind_go]
    generalize hm2 : mNum 2 (uncons (some l)) = m2 at hr2
    have hm2l : ∀ l2, m2 = some l2 → l2.length + 1 ≤ l.length := by
      intro l2 e
      subst e
      cases l with
      | nil => simp [uncons, mNum] at hm2
      | cons c l1 =>
        have := (mNum_less (show mNum 2 (some l1) = some l2 from hm2)).2
        rw [this, List.length_drop, List.length_cons]; omega
    -- the model, by the body of the part
    have hmod : mGo (f + 1) l out = (mBody k m2 out).bind fun p => if 300 < p.2.length then none else if b then some (p.1, p.2) else mGo f p.1 p.2 := by
      rw [mGo]
      cases l with
      | nil =>
        have : m2 = none := by rw [← hm2]; rfl
        rw [this, mBody_none]; rfl
      | cons c l1 =>
        have hb : b = c := hbv c l1 rfl
        subst hb
        rw [mPart_cons]
        have e : mNum 2 (some l1) = m2 := hm2
        rw [e]
        cases m2 with
        | none => rw [mBody_none, mBody_none]; rfl
        | some l2 =>
          rw [← hkv l1 rfl (mNum_less e).1]
          cases mBody k (some l2) out with
          | none => rfl
          | some p => obtain ⟨x, y⟩ := p; rfl
    rw [hmod]
    have hb1 : (((b.toNat : Nat) : Int) == 1) = b := by cases b <;> rfl
    rw [hb1]
    -- what is done when the part is read
    have done : ∀ (l' : List Bool) (o : List Int) (a' : Int), l'.length < l.length → o.length ≤ 300 → Rs s a' false (some l') →
        Ret (flateGet.l0 (F + 1) (b, s, a', false, o)) (GoP s (if b then some (l', o) else mGo f l' o)) := by
      intro l' o a' h1 h2 h3
      cases b with
      | true =>
        rw [flateGet.l0.succ]; simp only [flateGet.l0.step]
        simp only [Bool.not_true, cond_false, if_true]
        exact .pure ⟨a', rfl, h3⟩
      | false => exact ih (F + 1) l' o a' (by omega) (by omega) h2 h3
    have hm99 : ∀ l2, m2 = some l2 → l2.length ≤ 99990 := fun l2 e => by have := hm2l l2 e; omega
    have bodyless : ∀ l' o, mBody k m2 out = some (l', o) → l'.length < l.length := by
      intro l' o e
      cases m2 with
      | none => rw [mBody_none] at e; cases e
      | some l2 =>
        have := (mBody_less e).1
        have := hm2l l2 rfl
        omega
    have pack : ∀ (x : Option (Str × Int × Bool × List Int)) (y : Option (Str × Int × Bool)), PackPost s (mBody k m2 out) x y →
        Ret (orElse x (fun q => (bif q.2.2.1 then ((some ([], 0, false)).map Sum.inr) else (bif (decide ((q.2.2.2.length : Int) > 300)) then ((some ([], 0, false)).map Sum.inr) else (flateGet.l0 (F + 1) (b, q.1, q.2.1, q.2.2.1, q.2.2.2)))))
          (y.bind fun q => (bif q.2.2 then ((some ([], 0, false)).map Sum.inr) else none))) (GoP s ((mBody k m2 out).bind fun p => if 300 < p.2.length then none else if b then some (p.1, p.2) else mGo f p.1 p.2)) := by
      intro x y hp
      cases hb : mBody k m2 out with
      | none =>
        rw [hb] at hp
        rcases hp with ⟨a', b', o, rfl, hbo⟩ | ⟨rfl, a', rfl⟩
        · simp only [orElse]
          cases b' with
          | true => exact .pure rfl
          | false =>
            have : 300 < o.length := by rcases hbo with hbo | hbo
                                        · cases hbo
                                        · exact hbo
            rw [cond_false, decide_eq_true (by omega), cond_true]
            exact .pure rfl
        · exact .pure rfl
      | some p =>
        obtain ⟨l', o⟩ := p
        rw [hb] at hp
        obtain ⟨a', rfl, hr⟩ := hp
        simp only [orElse, cond_false, Option.bind_some]
        by_cases h300 : 300 < o.length
        · rw [if_pos h300, decide_eq_true (by omega), cond_true]
          exact .pure rfl
        · rw [if_neg h300, decide_eq_false (by omega), cond_false]
          exact done l' o a' (bodyless l' o hb) (by omega) hr
    by_cases c0 : k = 0
    · subst c0
      rw [show (((0 : Nat) : Int) == 0) = true from rfl, cond_true]
      have hmb : mBody 0 m2 out = mStored m2 out := rfl
      obtain ⟨⟨s3, a3, b3, o3⟩, e3, hs3, hp⟩ := rStored_eq (by omega) out ho hr2
      dsimp only at hs3
      subst s3
      rw [e3]
      simp only [bind_go]
      cases hb : mStored m2 out with
      | none =>
        rw [hb] at hp
        rw [hmb, hb]
        cases b3 with
        | true => exact .pure rfl
        | false =>
          have : 300 < o3.length := by
            rcases hp with hp | hp
            · cases hp
            · exact hp
          rw [cond_false, decide_eq_true (by omega), cond_true]
          exact .pure rfl
      | some p =>
        obtain ⟨l', o⟩ := p
        rw [hb] at hp
        rw [hmb, hb]
        simp only [Option.bind_some]
        dsimp only at hp
        by_cases h300 : 300 < o.length
        · rw [if_pos h300]
          cases b3 with
          | true => exact .pure rfl
          | false =>
            have : 300 < o3.length := by
              rcases hp.2 h300 with hp | hp
              · cases hp
              · exact hp
            rw [cond_false, decide_eq_true (by omega), cond_true]
            exact .pure rfl
        · obtain ⟨q1, q2, q3⟩ := hp.1 (by omega)
          subst q1
          subst q3
          rw [if_neg h300, cond_false, decide_eq_false (by omega), cond_false]
          exact done l' o3 a3 (bodyless l' o3 (hmb.trans hb)) (by omega) q2
    rw [show ((k : Int) == 0) = false by simp; omega, cond_false]
    by_cases c1 : k = 1
    · subst c1
      rw [show (((1 : Nat) : Int) == 1) = true from rfl, cond_true, fixedLens_eq]
      simp only [bind_go]
      exact pack _ _ (rPacked_eq (by omega) fixL fixD out (by omega) hr2 hm99)
    rw [show ((k : Int) == 1) = false by simp; omega, cond_false]
    by_cases c2 : k = 2
    · subst c2
      rw [show (((2 : Nat) : Int) == 2) = true from rfl, cond_true]
      obtain ⟨⟨x, y, s3, a3, b3⟩, e3, hs3, hp⟩ := rLengths_eq (by omega) hr2
      dsimp only at hs3
      subst s3
      rw [e3]
      simp only [bind_go]
      cases hb : mLens m2 with
      | none =>
        rw [hb] at hp
        obtain ⟨q1, q2, q3, q4⟩ := hp
        dsimp only at q1 q2 q3 q4
        subst q1 q2 q3
        refine pack _ _ ?_
        have : mBody 2 m2 out = none := by
          show (match mLens m2 with
            | none => none
            | some (ls, ds, l3) => mPack ls ds (some l3) out) = none
          rw [hb]
        rw [this]
        have := rPacked_eq (by omega) [] [] out (by omega) q4 (fun l e => by cases e)
        exact this
      | some p =>
        obtain ⟨ls, ds, l3⟩ := p
        rw [hb] at hp
        obtain ⟨q1, q2, q3, q4⟩ := hp
        dsimp only at q1 q2 q3 q4
        subst q1 q2 q3
        refine pack _ _ ?_
        have : mBody 2 m2 out = mPack ls ds (some l3) out := by
          show (match mLens m2 with
            | none => none
            | some (ls, ds, l3) => mPack ls ds (some l3) out) = _
          rw [hb]
        rw [this]
        refine rPacked_eq (by omega) ls ds out (by omega) q4 (fun l e => ?_)
        obtain rfl := Option.some.inj e
        have := q4.len.2
        omega
    · rw [show ((k : Int) == 2) = false by simp; omega, cond_false]
      have : mBody k m2 out = none := by unfold mBody; rw [if_neg c0, if_neg c1, if_neg c2]
      rw [this]
      exact .pure rfl
theorem flateGet_eq (s : Str) : flateGet s = some (if 700 < s.length then ([], 0, false) else getZ (mGet s)) := by
  unfold flateGet
  by_cases h : 700 < s.length
  · rw [if_pos h, decide_eq_true (by omega), cond_true]
  rw [if_neg h, decide_eq_false (by omega), cond_false]
  have hbl := bitsOf_length s
  obtain ⟨r, er, hp⟩ := flateGet_l0 (s := s) (by omega) (8 * s.length + 1) 100000 (bitsOf s) [] 0 (by omega) (by omega) (by simp) (Rs.start s)
  rw [er]
  unfold mGet
  cases hg : mGo (8 * s.length + 1) (bitsOf s) [] with
  | none =>
    rw [hg] at hp
    have hp : r = .inr ([], 0, false) := hp
    subst hp
    rfl
  | some p =>
    obtain ⟨l, o⟩ := p
    rw [hg] at hp
    obtain ⟨a, rfl, hr⟩ := hp
    simp only [bind_go, Option.bind_some]
    obtain ⟨⟨s2, a2, b2⟩, e2, hs2, hr2⟩ := rEven_st (by omega) hr
    dsimp only at e2 hs2 hr2
    subst s2
    rw [e2]
    simp only [bind_go]
    cases hm : mEven (some l) with
    | none =>
      rw [hm] at hr2
      have hb : b2 = true := hr2.1
      subst hb
      rfl
    | some l' =>
      rw [hm] at hr2
      have hb : b2 = false := hr2.1
      subst hb
      obtain ⟨ha, hl⟩ := hr2.len
      have h8 : l'.length % 8 = 0 := by
        simp only [mEven] at hm
        split at hm
        · rw [← Option.some.inj hm, List.length_drop]; omega
        · cases hm
      simp only [cond_false, Option.map_some, getZ]
      rw [ha, tdiv_e (by omega), w64_id (by omega) (by omega)]
      congr 3
      omega
end Ev
end
