/- Plain laws about what the functions compute. Conditions: as stated. -/
import Derived.KernelRfl
import Derived.Test.YtckgjeigokngiaaGreatDoorBGP0
section
set_option linter.unusedVariables false
set_option linter.unusedSimpArgs false
namespace Ev
open Go
def Ret {α : Type} (x : Option α) (Q : α → Prop) : Prop := ∃ a, x = some a ∧ Q a
theorem Ret.pure {α : Type} {a : α} {Q : α → Prop} (h : Q a) : Ret (some a) Q := ⟨a, rfl, h⟩
theorem Ret.of {α : Type} {x : Option α} {a : α} {Q : α → Prop} (e : x = some a) (h : Q a) : Ret x Q := ⟨a, e, h⟩
theorem Ret.mono {α : Type} {x : Option α} {P Q : α → Prop} (h : Ret x P) (k : ∀ a, P a → Q a) : Ret x Q := by
  obtain ⟨a, e, q⟩ := h; exact ⟨a, e, k a q⟩
theorem Ret.bind {α β : Type} {x : Option α} {f : α → Option β} {P : α → Prop} {Q : β → Prop} (h : Ret x P) (k : ∀ a, P a → Ret (f a) Q) : Ret (x.bind f) Q := by
  obtain ⟨a, rfl, q⟩ := h; exact k a q
theorem Ret.need {α : Type} {b : Bool} {x : Option α} {Q : α → Prop} (h : b = true) (k : Ret x Q) : Ret (Ev.need b x) Q := by subst h; exact k
theorem Ret.cond {α : Type} {b : Bool} {x y : Option α} {Q : α → Prop} (h1 : b = true → Ret x Q) (h0 : b = false → Ret y Q) : Ret (bif b then x else y) Q := by
  cases b
  · exact h0 rfl
  · exact h1 rfl
theorem Ret.ite {α : Type} {p : Prop} [Decidable p] {x y : Option α} {Q : α → Prop} (h1 : p → Ret x Q) (h0 : ¬ p → Ret y Q) : Ret (if p then x else y) Q := by
  by_cases h : p
  · rw [if_pos h]; exact h1 h
  · rw [if_neg h]; exact h0 h
theorem Ret.map {α β : Type} {x : Option α} {f : α → β} {Q : β → Prop} (h : Ret x (fun a => Q (f a))) : Ret (x.map f) Q := by
  obtain ⟨a, rfl, q⟩ := h; exact ⟨f a, rfl, q⟩
theorem Ret.loop {T σ : Type} {step : (T → Option σ) → T → Option σ} (Inv : T → Prop) (μ : T → Nat) (Q : T → σ → Prop)
    (h : ∀ again t, Inv t → (∀ t', Inv t' → μ t' < μ t → Ret (again t') (Q t')) → Ret (step again t) (Q t)) : ∀ n t, Inv t → μ t < n → Ret (loopN step n t) (Q t)
  | 0, _, _, hn => absurd hn (Nat.not_lt_zero _)
  | n + 1, t, hi, hn => h _ t hi fun t' hi' hm => Ret.loop Inv μ Q h n t' hi' (by omega)
theorem need_and {α : Type} {p q : Prop} [Decidable p] [Decidable q] {x : Option α} (hp : p) (hq : q) : need (decide p && decide q) x = x := need_true _ (by simp [hp, hq])
theorem need_dec {α : Type} {p : Prop} [Decidable p] {x : Option α} (hp : p) : need (decide p) x = x := need_true _ (by simp [hp])
theorem need_decf {α : Type} {p : Prop} [Decidable p] {x : Option α} {n : Nat} (hp : p) (hn : n ≤ 1099511627776) : need (decide p && fits n) x = x := need_true _ (by simp [hp, fits_of hn])
theorem need_fits {α : Type} {n : Nat} {x : Option α} (h : n ≤ 1099511627776) : need (fits n) x = x := need_true _ (fits_of h)
theorem need_ne {α : Type} {a b : Int} {x : Option α} (h : a ≠ b) : need (a != b) x = x := need_true _ (by simp [h])
theorem need_t {α : Type} {x : Option α} : need true x = x := rfl
theorem c_dec {α : Type} (p : Prop) [Decidable p] (x y : α) : (bif decide p then x else y) = if p then x else y := by
  by_cases h : p <;> simp [h]
theorem c_eq {α β : Type} [BEq β] [LawfulBEq β] [DecidableEq β] (a b : β) (x y : α) : (bif a == b then x else y) = if a = b then x else y := by
  by_cases h : a = b
  · simp [h]
  · rw [if_neg h, beq_false_of_ne h]; rfl
theorem c_ne {α β : Type} [BEq β] [LawfulBEq β] [DecidableEq β] (a b : β) (x y : α) : (bif a != b then x else y) = if a = b then y else x := by
  by_cases h : a = b
  · simp [h]
  · rw [if_neg h, bne, beq_false_of_ne h]; rfl
theorem c_not {α : Type} (b : Bool) (x y : α) : (bif !b then x else y) = bif b then y else x := by cases b <;> rfl
theorem c_nodec {α : Type} (p : Prop) [Decidable p] (x y : α) : (bif !decide p then x else y) = if p then y else x := by
  by_cases h : p <;> simp [h]
theorem tmod_e {a b : Int} (h : 0 ≤ a) : a.tmod b = a % b := Int.tmod_eq_emod_of_nonneg h
theorem tdiv_e {a b : Int} (h : 0 ≤ a) : a.tdiv b = a / b := Int.tdiv_eq_ediv_of_nonneg h
theorem bind_some' {α β : Type} (a : α) (f : α → Option β) : (some a).bind f = f a := rfl
theorem getD_in {α : Type} {l : List α} {i : Nat} {d : α} (h : i < l.length) : l.getD i d = l[i] := by simp [List.getD, h]
end Ev
end
section
set_option linter.unusedVariables false
set_option linter.unusedSimpArgs false
namespace Ev
open Go
theorem wrap_i64_id {n : Int} (h1 : -9223372036854775808 ≤ n) (h2 : n ≤ 9223372036854775807) : IntKind.i64.wrap n = n := w64_id h1 h2
theorem ixor_nat (x y : Nat) (hx : x < 4611686018427387904) (hy : y < 4611686018427387904) : ixor .i64 (x : Int) (y : Int) = ((x ^^^ y : Nat) : Int) := by
  have hz : x ^^^ y < 2 ^ 62 := Nat.xor_lt_two_pow (by omega) (by omega)
  unfold ixor
  have e : (BitVec.ofInt IntKind.i64.bits (x : Int) ^^^ BitVec.ofInt IntKind.i64.bits (y : Int)).toNat = x ^^^ y := by
    simp only [BitVec.ofInt_natCast, BitVec.toNat_xor, BitVec.toNat_ofNat, show IntKind.i64.bits = 64 from rfl]
    rw [Nat.mod_eq_of_lt (by omega), Nat.mod_eq_of_lt (by omega)]
  rw [e, wrap_i64_id (by omega) (by omega)]
theorem ixor_pos {x y : Int} (hx : 0 ≤ x) (hx2 : x < 4611686018427387904) (hy : 0 ≤ y) (hy2 : y < 4611686018427387904) : 0 ≤ ixor .i64 x y := by
  obtain ⟨a, rfl⟩ := Int.eq_ofNat_of_zero_le hx
  obtain ⟨b, rfl⟩ := Int.eq_ofNat_of_zero_le hy
  rw [ixor_nat a b (by omega) (by omega)]; omega
def RdOk (b : List Int) (p : Int) : Prop := b.length ≤ 2000 ∧ (∀ x, x ∈ b → 0 ≤ x ∧ x ≤ 255) ∧ 0 ≤ p
theorem RdOk.up {b : List Int} {p q : Int} (h : RdOk b p) (hq : p ≤ q) : RdOk b q := ⟨h.1, h.2.1, by have := h.2.2; omega⟩
theorem getD_byte {b : List Int} (h : ∀ x, x ∈ b → 0 ≤ x ∧ x ≤ 255) (i : Nat) : 0 ≤ b.getD i 0 ∧ b.getD i 0 ≤ 255 := by
  by_cases hi : i < b.length
  · rw [getD_in hi]; exact h _ (List.getElem_mem hi)
  · have : b.getD i 0 = 0 := by simp [List.getD, List.getElem?_eq_none (by omega : b.length ≤ i)]
    rw [this]; omega
theorem pick_ret (n : Int) {b : List Int} {p : Int} (h : RdOk b p) (hp : p ≤ 1000000000) (hn : n ≤ 1000000000) :
    Ret (pick n b p) fun r => r.2.1 = b ∧ r.2.2 = p + 1 ∧ 0 ≤ r.1 ∧ (r.1 < n ∨ (r.1 = 0 ∧ (n < 1 ∨ b = []))) := by
  obtain ⟨h1, h2, h3⟩ := h
  unfold pick
  ((try simp (disch := omega) only [need_and, need_dec, need_decf, need_fits, need_ne, need_t, w64_id, tmod_e, tdiv_e, bind_some', Option.map_some, cond_true, cond_false, Int.sub_zero, Int.toNat_natCast]); (try simp only [c_dec, c_eq, c_ne, c_nodec, c_not, if_true, if_false]))
  by_cases hn1 : n < 1
  · simp only [if_pos hn1, bind_some', cond_true]
    exact .pure ⟨rfl, rfl, by omega, .inr ⟨rfl, .inl hn1⟩⟩
  · by_cases hb : b = []
    · subst hb
      simp only [if_neg hn1, bind_some', List.length_nil, show (((0 : Nat) : Int) == 0) = true from rfl, cond_true]
      exact .pure ⟨rfl, rfl, by omega, .inr ⟨rfl, .inr trivial⟩⟩
    · have hl : 0 < b.length := List.length_pos_iff.2 hb
      have e : ((b.length : Int) == 0) = false := by simp; omega
      have hpp : p + 1 - 1 = p := by omega
      simp only [if_neg hn1, bind_some', e, cond_false, hpp]
      have hbl : (b.length : Int) ≠ 0 := by omega
      have m1 : 0 ≤ p % (b.length : Int) := Int.emod_nonneg _ hbl
      have m2 : p % (b.length : Int) < b.length := Int.emod_lt_of_pos _ (by omega)
      have m3 : 0 ≤ (p * 7 + 3) % (b.length : Int) := Int.emod_nonneg _ hbl
      have m4 : (p * 7 + 3) % (b.length : Int) < b.length := Int.emod_lt_of_pos _ (by omega)
      have m5 : 0 ≤ p / (b.length : Int) := Int.ediv_nonneg h3 (by omega)
      have m6 : p / (b.length : Int) ≤ p := Int.ediv_le_self _ h3
      refine .ite (fun hlt => ?_) fun hlt => ?_
      · have g := getD_byte h2 p.toNat
        ((try simp (disch := omega) only [need_and, need_dec, need_decf, need_fits, need_ne, need_t, w64_id, tmod_e, tdiv_e, bind_some', Option.map_some, cond_true, cond_false, Int.sub_zero, Int.toNat_natCast]); (try simp only [c_dec, c_eq, c_ne, c_nodec, c_not, if_true, if_false]))
        refine .pure ⟨rfl, rfl, Int.emod_nonneg _ (by omega), .inl (Int.emod_lt_of_pos _ (by omega))⟩
      · ((try simp (disch := omega) only [need_and, need_dec, need_decf, need_fits, need_ne, need_t, w64_id, tmod_e, tdiv_e, bind_some', Option.map_some, cond_true, cond_false, Int.sub_zero, Int.toNat_natCast]); (try simp only [c_dec, c_eq, c_ne, c_nodec, c_not, if_true, if_false]))
        have g1 := getD_byte h2 (p % (b.length : Int)).toNat
        have g2 := getD_byte h2 ((p * 7 + 3) % (b.length : Int)).toNat
        generalize b.getD (p % (b.length : Int)).toNat 0 = x at *
        generalize b.getD ((p * 7 + 3) % (b.length : Int)).toNat 0 = y at *
        generalize p / (b.length : Int) = z at *
        ((try simp (disch := omega) only [need_and, need_dec, need_decf, need_fits, need_ne, need_t, w64_id, tmod_e, tdiv_e, bind_some', Option.map_some, cond_true, cond_false, Int.sub_zero, Int.toNat_natCast]); (try simp only [c_dec, c_eq, c_ne, c_nodec, c_not, if_true, if_false]))
        have hx := ixor_pos (x := x * 131 + y * 1117 + p * 29 + z * 53) (y := (x * 131 + y * 1117 + p * 29 + z * 53) / 64) (by omega) (by omega) (by omega) (by omega)
        ((try simp (disch := omega) only [need_and, need_dec, need_decf, need_fits, need_ne, need_t, w64_id, tmod_e, tdiv_e, bind_some', Option.map_some, cond_true, cond_false, Int.sub_zero, Int.toNat_natCast]); (try simp only [c_dec, c_eq, c_ne, c_nodec, c_not, if_true, if_false]))
        refine .pure ⟨rfl, rfl, Int.emod_nonneg _ (by omega), .inl (Int.emod_lt_of_pos _ (by omega))⟩
theorem rdOf_ret (xs : List Str) {b : List Int} {p : Int} (h : RdOk b p) (hp : p ≤ 1000000000) (hx : 0 < xs.length) (hx2 : xs.length ≤ 1000000000) :
    Ret (rdOf xs b p) fun r => r.2.1 = b ∧ r.2.2 = p + 1 ∧ r.1 ∈ xs := by
  unfold rdOf
  refine .bind (pick_ret _ h hp (by omega)) ?_
  rintro ⟨r, b', p'⟩ ⟨rfl, rfl, h0, h1⟩
  dsimp only at h0 h1 ⊢
  have hlt : r < xs.length := by omega
  ((try simp (disch := omega) only [need_and, need_dec, need_decf, need_fits, need_ne, need_t, w64_id, tmod_e, tdiv_e, bind_some', Option.map_some, cond_true, cond_false, Int.sub_zero, Int.toNat_natCast]); (try simp only [c_dec, c_eq, c_ne, c_nodec, c_not, if_true, if_false]))
  refine .pure ⟨rfl, rfl, ?_⟩
  rw [getD_in (by omega)]
  exact List.getElem_mem _
end Ev
end
section
set_option linter.unusedVariables false
set_option linter.unusedSimpArgs false
namespace Ev
open Go
theorem l1Many_ret (s : Str) (n : Int) (M : Nat) (h0 : 0 ≤ n) (hM : n.toNat * s.length ≤ M) (hs : s.length ≤ M) (hM2 : M ≤ 1000000) (hn : n ≤ 1000000000) : Ret (l1Many s n) fun r => r.length ≤ M := by
  unfold l1Many l1Many.l0
  refine .bind (P := fun (o : Str) => o.length ≤ M) ?_ ?_
  · refine Ret.loop (fun (t : Str × Int × Str) => 0 ≤ t.2.1 ∧ t.2.1 ≤ 1000000000 ∧ t.2.2.length + t.2.1.toNat * t.1.length ≤ M ∧ (0 < t.2.1 → t.1.length ≤ M)) (fun t => t.2.1.toNat) (fun _ (r : Str) => r.length ≤ M) ?_ _ _ ?_ ?_
    · rintro again ⟨s, n, out⟩ ⟨h1, h1', h2, h3⟩ ih
      dsimp only at h1 h1' h2 h3
      simp only [l1Many.l0.step]
      obtain ⟨k, rfl⟩ := Int.eq_ofNat_of_zero_le h1
      rw [Int.toNat_natCast] at h2
      by_cases hk : k = 0
      · subst hk
        ((try simp (disch := omega) only [need_and, need_dec, need_decf, need_fits, need_ne, need_t, w64_id, tmod_e, tdiv_e, bind_some', Option.map_some, cond_true, cond_false, Int.sub_zero, Int.toNat_natCast]); (try simp only [c_dec, c_eq, c_ne, c_nodec, c_not, if_true, if_false]))
        rw [if_neg (by omega)]
        exact .pure (by omega)
      · have hs := h3 (by omega)
        have hd : k * s.length = (k % 2) * s.length + 2 * ((k / 2) * s.length) := by
          conv => lhs; rw [← Nat.mod_add_div k 2]
          rw [Nat.add_mul, Nat.mul_assoc]
        have hL : s.length ≤ k * s.length := by
          calc s.length = 1 * s.length := by omega
            _ ≤ k * s.length := Nat.mul_le_mul_right _ (by omega)
        have key : ∀ o : Str, o.length ≤ out.length + (k % 2) * s.length → Ret (again (s ++ s, (k : Int) / 2, o)) fun r => r.length ≤ M := fun o ho => by
          have e : ((k : Int) / 2) = ((k / 2 : Nat) : Int) := by omega
          refine ih _ ⟨by dsimp only; omega, by dsimp only; omega, ?_, ?_⟩ ?_
          · dsimp only
            rw [e, Int.toNat_natCast, List.length_append, Nat.mul_add]
            omega
          · dsimp only
            intro hp
            rw [List.length_append]
            have : 1 ≤ k / 2 := by omega
            have : s.length ≤ (k / 2) * s.length := by
              calc s.length = 1 * s.length := by omega
                _ ≤ (k / 2) * s.length := Nat.mul_le_mul_right _ (by omega)
            omega
          · dsimp only; omega
        have m1 : (k : Int).tmod 2 = ((k % 2 : Nat) : Int) := by rw [tmod_e (by omega)]; omega
        rw [m1]
        ((try simp (disch := omega) only [need_and, need_dec, need_decf, need_fits, need_ne, need_t, w64_id, tmod_e, tdiv_e, bind_some', Option.map_some, cond_true, cond_false, Int.sub_zero, Int.toNat_natCast]); (try simp only [c_dec, c_eq, c_ne, c_nodec, c_not, if_true, if_false]))
        rw [if_pos (by omega)]
        refine .ite (fun h => ?_) fun h => ?_
        · have e1 : k % 2 = 1 := by omega
          rw [e1, Nat.one_mul] at hd
          ((try simp (disch := omega) only [need_and, need_dec, need_decf, need_fits, need_ne, need_t, w64_id, tmod_e, tdiv_e, bind_some', Option.map_some, cond_true, cond_false, Int.sub_zero, Int.toNat_natCast]); (try simp only [c_dec, c_eq, c_ne, c_nodec, c_not, if_true, if_false]))
          exact key (out ++ s) (by rw [List.length_append, e1]; omega)
        · ((try simp (disch := omega) only [need_and, need_dec, need_decf, need_fits, need_ne, need_t, w64_id, tmod_e, tdiv_e, bind_some', Option.map_some, cond_true, cond_false, Int.sub_zero, Int.toNat_natCast]); (try simp only [c_dec, c_eq, c_ne, c_nodec, c_not, if_true, if_false]))
          exact key out (by omega)
    · exact ⟨h0, hn, by dsimp only [List.length_nil]; omega, fun _ => hs⟩
    · dsimp only; omega
  · intro a h; exact .pure h
def Drawn {α : Type} (b : List Int) (p c : Int) (Q : α → Prop) (r : α × List Int × Int) : Prop := r.2.1 = b ∧ p ≤ r.2.2 ∧ r.2.2 ≤ p + c ∧ Q r.1
theorem pick_d (n : Int) {b : List Int} {p : Int} (h : RdOk b p) (hp : p ≤ 1000000000) (hn0 : 1 ≤ n) (hn : n ≤ 1000000000) : Ret (pick n b p) (Drawn b p 1 fun x => 0 ≤ x ∧ x < n) :=
  (pick_ret n h hp hn).mono fun r ⟨h1, h2, h3, h4⟩ => ⟨h1, by omega, by omega, h3, by omega⟩
theorem rdOf_d (xs : List Str) {b : List Int} {p : Int} (h : RdOk b p) (hp : p ≤ 1000000000) (hx : 0 < xs.length) (hx2 : xs.length ≤ 1000000000) : Ret (rdOf xs b p) (Drawn b p 1 fun x => x ∈ xs) :=
  (rdOf_ret xs h hp hx hx2).mono fun r ⟨h1, h2, h3⟩ => ⟨h1, by omega, by omega, h3⟩
theorem l11Text_d {b : List Int} {p : Int} (h : RdOk b p) (hp : p ≤ 900000000) : Ret (l11Text b p) (Drawn b p 50 fun s => s.length ≤ 300) := by
  unfold l11Text
  refine .bind (pick_d 8 h (by omega) (by omega) (by omega)) ?_
  rintro ⟨r, b1, p1⟩ ⟨rfl, g1, g2, g3⟩
  dsimp only at g1 g2 g3 ⊢
  have h1 := h.up g1
  ((try simp (disch := omega) only [need_and, need_dec, need_decf, need_fits, need_ne, need_t, w64_id, tmod_e, tdiv_e, bind_some', Option.map_some, cond_true, cond_false, Int.sub_zero, Int.toNat_natCast]); (try simp only [c_dec, c_eq, c_ne, c_nodec, c_not, if_true, if_false]))
  refine .ite (fun _ => .pure ⟨rfl, by dsimp only; omega, by dsimp only; omega, by simp⟩) fun _ => .ite (fun _ => ?_) fun _ => .ite (fun _ => ?_) fun _ => .ite (fun _ => ?_) fun _ => ?_
  · refine .bind (rdOf_d _ h1 (by omega) (by decide) (by decide)) ?_
    rintro ⟨x, b2, p2⟩ ⟨rfl, k1, k2, k3⟩
    dsimp only at k1 k2 k3 ⊢
    refine .bind (pick_d 40 (h1.up k1) (by omega) (by omega) (by omega)) ?_
    rintro ⟨y, b3, p3⟩ ⟨rfl, l1, l2, l3⟩
    dsimp only at l1 l2 l3 ⊢
    have hx : x.length ≤ 6 := by
      simp only [List.mem_cons, List.not_mem_nil, or_false] at k3
      rcases k3 with rfl | rfl | rfl | rfl <;> decide
    rw [w64_id (by omega) (by omega)]
    refine .bind (l1Many_ret x (1 + y) 300 (by omega) ?_ (by omega) (by omega) (by omega)) ?_
    · calc (1 + y).toNat * x.length ≤ 40 * 6 := Nat.mul_le_mul (by omega) hx
        _ ≤ 300 := by decide
    · intro a ha; exact .pure ⟨rfl, by dsimp only; omega, by dsimp only; omega, ha⟩
  · refine .bind (pick_d 40 h1 (by omega) (by omega) (by omega)) ?_
    rintro ⟨x, b2, p2⟩ ⟨rfl, k1, k2, k3⟩
    dsimp only at k1 k2 k3 ⊢
    refine .bind (P := fun (o : List Int × Int × List Int) => o.1 = b2 ∧ p2 ≤ o.2.1 ∧ o.2.1 ≤ p2 + 40 ∧ o.2.2.length ≤ 300) ?_ ?_
    · unfold l11Text.l0
      refine Ret.loop (fun (t : Int × List Int × Int × List Int) => t.2.1 = b2 ∧ 0 ≤ t.1 ∧ t.1 ≤ 40 ∧ p2 ≤ t.2.2.1 ∧ t.2.2.1 + t.1 ≤ p2 + 40 ∧ t.2.2.2.length + t.1 ≤ 40) (fun t => t.1.toNat) (fun _ (o : List Int × Int × List Int) => o.1 = b2 ∧ p2 ≤ o.2.1 ∧ o.2.1 ≤ p2 + 40 ∧ o.2.2.length ≤ 300) ?_ _ _ ?_ ?_
      · rintro again ⟨n, b3, p3, out⟩ ⟨rfl, q1, q2, q3, q4, q5⟩ ih
        dsimp only at q1 q2 q3 q4 q5
        simp only [l11Text.l0.step]
        ((try simp (disch := omega) only [need_and, need_dec, need_decf, need_fits, need_ne, need_t, w64_id, tmod_e, tdiv_e, bind_some', Option.map_some, cond_true, cond_false, Int.sub_zero, Int.toNat_natCast]); (try simp only [c_dec, c_eq, c_ne, c_nodec, c_not, if_true, if_false]))
        refine .ite (fun hn => ?_) fun hn => .pure ⟨rfl, by dsimp only; omega, by dsimp only; omega, by dsimp only; omega⟩
        refine .bind (pick_d 256 ((h1.up k1).up q3) (by omega) (by omega) (by omega)) ?_
        rintro ⟨y, b4, p4⟩ ⟨rfl, l1, l2, l3⟩
        dsimp only at l1 l2 l3 ⊢
        ((try simp (disch := omega) only [need_and, need_dec, need_decf, need_fits, need_ne, need_t, w64_id, tmod_e, tdiv_e, bind_some', Option.map_some, cond_true, cond_false, Int.sub_zero, Int.toNat_natCast, List.length_cons, List.length_nil]); (try simp only [c_dec, c_eq, c_ne, c_nodec, c_not, if_true, if_false, List.length_cons, List.length_nil]))
        refine ih _ ⟨rfl, by dsimp only; omega, by dsimp only; omega, by dsimp only; omega, by dsimp only; omega, by simp only [List.length_append, List.length_cons, List.length_nil]; omega⟩ (by dsimp only; omega)
      · exact ⟨rfl, by dsimp only; omega, by dsimp only; omega, by dsimp only; omega, by dsimp only; omega, by simp only [List.length_nil]; omega⟩
      · dsimp only; omega
    · rintro ⟨b3, p3, out⟩ ⟨rfl, m1, m2, m3⟩
      dsimp only at m1 m2 m3 ⊢
      exact .pure ⟨rfl, by dsimp only; omega, by dsimp only; omega, by simp [toBytes]; omega⟩
  · refine .bind (l1Many_ret [113] 300 300 (by omega) (by decide) (by decide) (by omega) (by omega)) ?_
    intro a ha; exact .pure ⟨rfl, by dsimp only; omega, by dsimp only; omega, ha⟩
  · refine .bind (pick_d 12 h1 (by omega) (by omega) (by omega)) ?_
    rintro ⟨x, b2, p2⟩ ⟨rfl, k1, k2, k3⟩
    dsimp only at k1 k2 k3 ⊢
    refine .bind (P := fun (o : Str × List Int × Int) => Drawn b2 p2 12 (fun s => s.length ≤ 300) o) ?_ ?_
    · unfold l11Text.l1
      refine Ret.loop (fun (t : Str × Int × List Int × Int) => t.2.2.1 = b2 ∧ 0 ≤ t.2.1 ∧ t.2.1 ≤ 12 ∧ p2 ≤ t.2.2.2 ∧ t.2.2.2 + t.2.1 ≤ p2 + 12 ∧ t.1.length + 6 * t.2.1 ≤ 72) (fun t => t.2.1.toNat) (fun _ (o : Str × List Int × Int) => Drawn b2 p2 12 (fun s => s.length ≤ 300) o) ?_ _ _ ?_ ?_
      · rintro again ⟨out, n, b3, p3⟩ ⟨rfl, q1, q2, q3, q4, q5⟩ ih
        dsimp only at q1 q2 q3 q4 q5
        simp only [l11Text.l1.step]
        ((try simp (disch := omega) only [need_and, need_dec, need_decf, need_fits, need_ne, need_t, w64_id, tmod_e, tdiv_e, bind_some', Option.map_some, cond_true, cond_false, Int.sub_zero, Int.toNat_natCast]); (try simp only [c_dec, c_eq, c_ne, c_nodec, c_not, if_true, if_false]))
        refine .ite (fun hn => ?_) fun hn => .pure ⟨rfl, by dsimp only; omega, by dsimp only; omega, by dsimp only; omega⟩
        refine .bind (rdOf_d _ ((h1.up k1).up q3) (by omega) (by decide) (by decide)) ?_
        rintro ⟨y, b4, p4⟩ ⟨rfl, l1, l2, l3⟩
        dsimp only at l1 l2 l3 ⊢
        have hy : y.length ≤ 6 := by
          simp only [List.mem_cons, List.not_mem_nil, or_false] at l3
          rcases l3 with rfl | rfl | rfl | rfl | rfl | rfl | rfl <;> decide
        ((try simp (disch := omega) only [need_and, need_dec, need_decf, need_fits, need_ne, need_t, w64_id, tmod_e, tdiv_e, bind_some', Option.map_some, cond_true, cond_false, Int.sub_zero, Int.toNat_natCast]); (try simp only [c_dec, c_eq, c_ne, c_nodec, c_not, if_true, if_false]))
        refine ih _ ⟨rfl, by dsimp only; omega, by dsimp only; omega, by dsimp only; omega, by dsimp only; omega, by simp only [List.length_append]; omega⟩ (by dsimp only; omega)
      · exact ⟨rfl, by dsimp only; omega, by dsimp only; omega, by dsimp only; omega, by dsimp only; omega, by simp only [List.length_nil]; omega⟩
      · dsimp only; omega
    · rintro ⟨s, b3, p3⟩ ⟨rfl, m1, m2, m3⟩
      dsimp only at m1 m2 m3 ⊢
      exact .pure ⟨rfl, by dsimp only; omega, by dsimp only; omega, m3⟩
theorem l11AnyText_d {b : List Int} {p : Int} (h : RdOk b p) (hp : p ≤ 800000000) : Ret (l11AnyText b p) (Drawn b p 51 fun s => s.length ≤ 301) := by
  unfold l11AnyText
  refine .bind (pick_d 16 h (by omega) (by omega) (by omega)) ?_
  rintro ⟨r, b1, p1⟩ ⟨rfl, g1, g2, g3⟩
  dsimp only at g1 g2 g3 ⊢
  ((try simp (disch := omega) only [need_and, need_dec, need_decf, need_fits, need_ne, need_t, w64_id, tmod_e, tdiv_e, bind_some', Option.map_some, cond_true, cond_false, Int.sub_zero, Int.toNat_natCast]); (try simp only [c_dec, c_eq, c_ne, c_nodec, c_not, if_true, if_false]))
  refine .ite (fun _ => ?_) fun _ => ?_
  · refine .bind (l1Many_ret [113] 301 301 (by omega) (by decide) (by decide) (by omega) (by omega)) ?_
    intro a ha; exact .pure ⟨rfl, by dsimp only; omega, by dsimp only; omega, ha⟩
  · refine .bind (l11Text_d (h.up g1) (by omega)) ?_
    rintro ⟨x, b2, p2⟩ ⟨rfl, k1, k2, k3⟩
    dsimp only at k1 k2 k3 ⊢
    exact .pure ⟨rfl, by dsimp only; omega, by dsimp only; omega, by dsimp only; omega⟩
end Ev
end
section
set_option linter.unusedVariables false
set_option linter.unusedSimpArgs false
namespace Ev
open Go
def nameL : List Str := [[97], [98, 46, 116, 120, 116], [100, 105, 114, 47, 97], [100, 105, 114, 47, 98], [120, 45, 121, 95, 122], [97, 47, 98, 47, 99, 47, 100], [114, 101, 97, 100, 109, 101], [], [47], [97, 47], [46, 46], [97, 47, 46, 46, 47, 98], [65], [97, 32, 98], [101, 108, 101, 118, 101, 110, 108, 101, 116, 116, 101], [97, 47, 98, 47, 99, 47, 100, 47, 101], [102, 48], [102, 49], [102, 50], [102, 51], [102, 52], [102, 53]]
theorem l11AnyName_in {b : List Int} {p : Int} (h : RdOk b p) (hp : p ≤ 800000000) : Ret (l11AnyName b p) (Drawn b p 2 fun s => s ∈ nameL) := by
  unfold l11AnyName
  refine .bind (pick_d 6 h (by omega) (by omega) (by omega)) ?_
  rintro ⟨r, b1, p1⟩ ⟨rfl, g1, g2, g3⟩
  dsimp only at g1 g2 g3 ⊢
  refine .cond (fun _ => ?_) fun _ => ?_
  · refine .bind (rdOf_d _ (h.up g1) (by omega) (by decide) (by decide)) ?_
    rintro ⟨x, b2, p2⟩ ⟨rfl, k1, k2, k3⟩
    dsimp only at k1 k2 k3 ⊢
    refine .pure ⟨rfl, by dsimp only; omega, by dsimp only; omega, ?_⟩
    dsimp only
    simp only [List.mem_cons, List.not_mem_nil, or_false] at k3
    rcases k3 with rfl | rfl | rfl | rfl | rfl | rfl | rfl | rfl | rfl <;> decide
  · have h1 := h.up g1
    refine .bind (P := Drawn b1 p1 1 fun s => s ∈ nameL) ?_ ?_
    · unfold l11Name
      refine .bind (rdOf_d _ h1 (by omega) (by decide) (by decide)) ?_
      rintro ⟨x, b2, p2⟩ ⟨rfl, k1, k2, k3⟩
      dsimp only at k1 k2 k3 ⊢
      refine .pure ⟨rfl, k1, k2, ?_⟩
      dsimp only
      simp only [List.mem_cons, List.not_mem_nil, or_false] at k3
      rcases k3 with rfl | rfl | rfl | rfl | rfl | rfl | rfl <;> decide
    · rintro ⟨x, b2, p2⟩ ⟨rfl, k1, k2, k3⟩
      dsimp only at k1 k2 k3 ⊢
      exact .pure ⟨rfl, by dsimp only; omega, by dsimp only; omega, k3⟩
theorem nameL_len : ∀ s ∈ nameL, s.length ≤ 11 := by decide
end Ev
end
section
set_option linter.unusedVariables false
set_option linter.unusedSimpArgs false
namespace Ev
open Go
theorem ishr_nat (n k : Nat) (hk : k ≤ 64) : ishr .i64 (n : Int) (k : Int) = ((n / 2 ^ k : Nat) : Int) := by
  unfold ishr
  rw [Int.toNat_natCast, show min k IntKind.i64.bits = k from Nat.min_eq_left hk, show ((2 : Int) ^ k) = ((2 ^ k : Nat) : Int) by simp, Int.fdiv_eq_ediv_of_nonneg _ (Int.natCast_nonneg _)]
  exact (Int.natCast_ediv n (2 ^ k)).symm
theorem ishl_nat (n k : Nat) (hk : k ≤ 64) (h : n * 2 ^ k < 9223372036854775808) : ishl .i64 (n : Int) (k : Int) = ((n * 2 ^ k : Nat) : Int) := by
  unfold ishl
  rw [Int.toNat_natCast, show min k IntKind.i64.bits = k from Nat.min_eq_left hk, show ((2 : Int) ^ k) = ((2 ^ k : Nat) : Int) by simp, ← Int.natCast_mul]
  exact wrap_i64_id (by omega) (by omega)
theorem iand_nat (x y : Nat) (hx : x < 9223372036854775808) (hy : y < 9223372036854775808) : iand .i64 (x : Int) (y : Int) = ((x &&& y : Nat) : Int) := by
  have hz : x &&& y < 2 ^ 63 := Nat.and_lt_two_pow _ (by omega)
  unfold iand
  have e : (BitVec.ofInt IntKind.i64.bits (x : Int) &&& BitVec.ofInt IntKind.i64.bits (y : Int)).toNat = x &&& y := by
    simp only [BitVec.ofInt_natCast, BitVec.toNat_and, BitVec.toNat_ofNat, show IntKind.i64.bits = 64 from rfl]
    rw [Nat.mod_eq_of_lt (by omega), Nat.mod_eq_of_lt (by omega)]
  rw [e, wrap_i64_id (by omega) (by omega)]
theorem ior_nat (x y : Nat) (hx : x < 9223372036854775808) (hy : y < 9223372036854775808) : ior .i64 (x : Int) (y : Int) = ((x ||| y : Nat) : Int) := by
  have hz : x ||| y < 2 ^ 63 := Nat.or_lt_two_pow (by omega) (by omega)
  unfold ior
  have e : (BitVec.ofInt IntKind.i64.bits (x : Int) ||| BitVec.ofInt IntKind.i64.bits (y : Int)).toNat = x ||| y := by
    simp only [BitVec.ofInt_natCast, BitVec.toNat_or, BitVec.toNat_ofNat, show IntKind.i64.bits = 64 from rfl]
    rw [Nat.mod_eq_of_lt (by omega), Nat.mod_eq_of_lt (by omega)]
  rw [e, wrap_i64_id (by omega) (by omega)]
theorem ior_u8 (x y : Nat) (hx : x < 256) (hy : y < 256) : ior .u8 (x : Int) (y : Int) = ((x ||| y : Nat) : Int) := by
  have hz : x ||| y < 2 ^ 8 := Nat.or_lt_two_pow (by omega) (by omega)
  unfold ior
  have e : (BitVec.ofInt IntKind.u8.bits (x : Int) ||| BitVec.ofInt IntKind.u8.bits (y : Int)).toNat = x ||| y := by
    simp only [BitVec.ofInt_natCast, BitVec.toNat_or, BitVec.toNat_ofNat, show IntKind.u8.bits = 8 from rfl]
    rw [Nat.mod_eq_of_lt (by omega), Nat.mod_eq_of_lt (by omega)]
  rw [e, show IntKind.u8.wrap = IntKind.wrap .u8 from rfl]
  have := wrap_u8' (((x ||| y : Nat)) : Int)
  rw [this]; omega
where
  wrap_u8' (n : Int) : IntKind.wrap .u8 n = n % 256 := by simp [IntKind.wrap, IntKind.bits, IntKind.signed]
theorem iand_one (x : Nat) (hx : x < 9223372036854775808) : iand .i64 (x : Int) 1 = ((x % 2 : Nat) : Int) := by
  have := iand_nat x 1 hx (by omega)
  rw [Nat.and_one_is_mod] at this
  exact this
theorem or_add (x c k : Nat) (h : x < 2 ^ k) : x ||| c * 2 ^ k = x + c * 2 ^ k := by
  have := Nat.two_pow_add_eq_or_of_lt h c
  rw [Nat.or_comm, Nat.mul_comm c, ← this, Nat.add_comm]
theorem testBit_nat (n k : Nat) : n / 2 ^ k % 2 = (n.testBit k).toNat := by
  rw [Nat.testBit_eq_decide_div_mod_eq]
  have : n / 2 ^ k % 2 < 2 := Nat.mod_lt _ (by omega)
  by_cases h : n / 2 ^ k % 2 = 1
  · simp [h]
  · have : n / 2 ^ k % 2 = 0 := by omega
    simp [this]
def numB (n : Nat) : Nat → List Bool
  | 0 => []
  | k + 1 => numB n k ++ [n.testBit k]
def valB : List Bool → Nat
  | [] => 0
  | b :: l => b.toNat + 2 * valB l
theorem numB_length (n : Nat) : ∀ k, (numB n k).length = k
  | 0 => rfl
  | k + 1 => by simp [numB, numB_length n k]
theorem valB_append (a b : List Bool) : valB (a ++ b) = valB a + 2 ^ a.length * valB b := by
  induction a with
  | nil => simp [valB]
  | cons x l ih =>
    simp only [List.cons_append, valB, ih, List.length_cons, Nat.pow_succ]
    rw [Nat.mul_add, Nat.add_assoc]; congr 2
    rw [← Nat.mul_assoc, Nat.mul_comm 2]
theorem valB_lt (l : List Bool) : valB l < 2 ^ l.length := by
  induction l with
  | nil => simp [valB]
  | cons x l ih =>
    simp only [valB, List.length_cons, Nat.pow_succ]
    have : x.toNat ≤ 1 := by cases x <;> decide
    omega
theorem valB_numB (n : Nat) : ∀ k, valB (numB n k) = n % 2 ^ k
  | 0 => by simp [numB, valB, Nat.mod_one]
  | k + 1 => by
    rw [numB, valB_append, valB_numB n k, numB_length]
    simp only [valB, Nat.mul_zero, Nat.add_zero]
    rw [← testBit_nat, Nat.mod_pow_succ]
def pack (l : List Bool) : List Int := (List.range ((l.length + 7) / 8)).map fun i => ((valB ((l.drop (8 * i)).take 8) : Nat) : Int)
theorem pack_length (l : List Bool) : (pack l).length = (l.length + 7) / 8 := by simp [pack]
theorem pack_get (l : List Bool) (i : Nat) (h : i < (l.length + 7) / 8) : (pack l).getD i 0 = ((valB ((l.drop (8 * i)).take 8) : Nat) : Int) := by
  simp [pack, List.getD, h]
theorem pack_snoc0 (l : List Bool) (c : Bool) (h : l.length % 8 = 0) : pack (l ++ [c]) = pack l ++ [((c.toNat : Nat) : Int)] := by
  apply List.ext_getElem
  · simp [pack_length]; omega
  · intro i h1 h2
    rw [pack_length, List.length_append, List.length_singleton] at h1
    simp only [pack, List.getElem_map, List.getElem_range]
    by_cases hi : i < (l.length + 7) / 8
    · rw [List.getElem_append_left (by simpa using hi)]
      simp only [List.getElem_map, List.getElem_range]
      rw [List.drop_append_of_le_length (by omega), List.take_append_of_le_length (by simp; omega)]
    · rw [List.getElem_append_right (by simp; omega)]
      have : 8 * i = l.length := by omega
      rw [this, List.drop_left]
      simp [valB]
theorem pack_snoc1 (l : List Bool) (c : Bool) (h : l.length % 8 ≠ 0) :
    pack (l ++ [c]) = (pack l).set (l.length / 8) ((pack l).getD (l.length / 8) 0 + (c.toNat * 2 ^ (l.length % 8) : Nat)) := by
  apply List.ext_getElem
  · simp [pack_length]; omega
  · intro i h1 h2
    rw [pack_length, List.length_append, List.length_singleton] at h1
    have hi : i < (l.length + 7) / 8 := by omega
    rw [List.getElem_set]
    simp only [pack, List.getElem_map, List.getElem_range]
    split
    · rename_i e
      have := pack_get l (l.length / 8) (by omega)
      unfold pack at this
      rw [this, ← e]
      have hl : (l.drop (8 * (l.length / 8))).length = l.length % 8 := by rw [List.length_drop]; omega
      rw [List.drop_append_of_le_length (by omega), List.take_of_length_le (by simp; omega), List.take_of_length_le (by omega), valB_append, hl]
      simp only [valB, Nat.mul_zero, Nat.add_zero]
      rw [Nat.mul_comm (2 ^ _)]
      omega
    · rename_i e
      rw [List.drop_append_of_le_length (by omega), List.take_append_of_le_length (by simp; omega)]
theorem pack_low (l : List Bool) (h : l.length % 8 ≠ 0) : ∃ x : Nat, (pack l).getD (l.length / 8) 0 = (x : Int) ∧ x < 2 ^ (l.length % 8) := by
  refine ⟨_, pack_get l _ (by omega), ?_⟩
  have := valB_lt ((l.drop (8 * (l.length / 8))).take 8)
  have hl : ((l.drop (8 * (l.length / 8))).take 8).length = l.length % 8 := by simp; omega
  rwa [hl] at this
theorem wPut_l0 (n k : Nat) (hn : n < 9223372036854775808) (hk : k ≤ 62) : ∀ (m i : Nat) (l : List Bool), i + m = k → l.length + m ≤ 100000000 →
    wPut.l0 (m + 1) ((n : Int), (k : Int), (i : Int), (l.length : Int), pack l) = some ((((l ++ ((numB n k).drop i)).length : Nat) : Int), pack (l ++ ((numB n k).drop i)))
  | 0, i, l, hi, hl => by
    rw [wPut.l0.succ]
    simp only [wPut.l0.step]
    rw [idx_ge (by omega), List.drop_eq_nil_of_le (by rw [numB_length]; omega)]
    simp
  | m + 1, i, l, hi, hl => by
    have ik : i < k := by omega
    have hd : (numB n k).drop i = n.testBit i :: (numB n k).drop (i + 1) := by
      have e : (numB n k)[i]'(by rw [numB_length]; exact ik) = n.testBit i := by
        clear hi hl hk
        induction k with
        | zero => omega
        | succ k ih =>
          simp only [numB]
          by_cases h : i < k
          · rw [List.getElem_append_left (by rw [numB_length]; exact h)]; exact ih h
          · have : i = k := by omega
            subst this
            rw [List.getElem_append_right (by rw [numB_length]; omega)]
            simp
      rw [List.drop_eq_getElem_cons (by rw [numB_length]; exact ik), e]
    have ih := wPut_l0 n k hn hk m (i + 1) (l ++ [n.testBit i]) (by omega) (by simp; omega)
    rw [wPut.l0.succ]
    simp only [wPut.l0.step]
    rw [idx_lt ik, cond_true]
    have hmod : ((l.length : Int)).tmod 8 = ((l.length % 8 : Nat) : Int) := by rw [tmod_e (by omega)]; omega
    have hdiv : ((l.length : Int)).tdiv 8 = ((l.length / 8 : Nat) : Int) := by rw [tdiv_e (by omega)]; omega
    have hbit : iand .i64 (ishr .i64 (n : Int) (i : Int)) 1 = (((n.testBit i).toNat : Nat) : Int) := by
      rw [ishr_nat n i (by omega), iand_one _ (Nat.lt_of_le_of_lt (Nat.div_le_self _ _) hn), testBit_nat]
    have hc : (n.testBit i).toNat ≤ 1 := by cases n.testBit i <;> decide
    have hp : 2 ^ (l.length % 8) ≤ 2 ^ 7 := Nat.pow_le_pow_right (by omega) (by omega)
    have hle : (n.testBit i).toNat * 2 ^ (l.length % 8) ≤ 128 := by
      calc _ ≤ 1 * 2 ^ 7 := Nat.mul_le_mul hc hp
        _ = 128 := by decide
    have hshl : ishl .i64 (((n.testBit i).toNat : Nat) : Int) ((l.length % 8 : Nat) : Int) = (((n.testBit i).toNat * 2 ^ (l.length % 8) : Nat) : Int) := ishl_nat _ _ (by omega) (by omega)
    have hwr : IntKind.wrap .u8 (((n.testBit i).toNat * 2 ^ (l.length % 8) : Nat) : Int) = (((n.testBit i).toNat * 2 ^ (l.length % 8) : Nat) : Int) := by
      rw [show IntKind.wrap .u8 (((n.testBit i).toNat * 2 ^ (l.length % 8) : Nat) : Int) = (((n.testBit i).toNat * 2 ^ (l.length % 8) : Nat) : Int) % 256 by simp [IntKind.wrap, IntKind.bits, IntKind.signed]]
      omega
    simp only [hmod]
    by_cases h0 : l.length % 8 = 0
    · have e0 : (((l.length % 8 : Nat) : Int) == 0) = true := by simp [h0]
      simp only [e0, cond_true]
      rw [need_true _ (fits_of (by simp [pack_length]; omega))]
      simp only [bind_some', hmod, hdiv, hbit, hshl, hwr]
      have hlt : l.length / 8 < (pack l ++ [0]).length := by rw [List.length_append, pack_length]; simp; omega
      have hat : l.length / 8 = (pack l).length := by rw [pack_length]; omega
      ((try simp (disch := omega) only [need_and, need_dec, need_decf, need_fits, need_ne, need_t, w64_id, tmod_e, tdiv_e, bind_some', Option.map_some, cond_true, cond_false, Int.sub_zero, Int.toNat_natCast]); (try simp only [c_dec, c_eq, c_ne, c_nodec, c_not, if_true, if_false]))
      rw [hat, List.getD_eq_getElem?_getD, List.getElem?_concat_length, Option.getD_some, ← hat]
      have hz : ior .u8 0 (((n.testBit i).toNat * 2 ^ (l.length % 8) : Nat) : Int) = (((n.testBit i).toNat : Nat) : Int) := by
        have := ior_u8 0 ((n.testBit i).toNat * 2 ^ (l.length % 8)) (by omega) (by omega)
        rw [show ((0 : Nat) : Int) = 0 from rfl] at this
        rw [this, Nat.zero_or, h0]; simp
      rw [hz, hat, List.set_append_right _ _ (Nat.le_refl _), Nat.sub_self, List.set_cons_zero, ← pack_snoc0 l _ h0]
      rw [show ((i : Int) + 1) = ((i + 1 : Nat) : Int) by omega, show ((l.length : Int) + 1) = (((l ++ [n.testBit i]).length : Nat) : Int) by simp]
      rw [ih, hd, List.append_assoc]; rfl
    · have e0 : (((l.length % 8 : Nat) : Int) == 0) = false := by simp; omega
      simp only [e0, cond_false, bind_some', hmod, hdiv, hbit, hshl, hwr]
      have hlt : l.length / 8 < (pack l).length := by rw [pack_length]; omega
      obtain ⟨x, hx, hxl⟩ := pack_low l h0
      have hx8 : x < 128 := Nat.lt_of_lt_of_le hxl hp
      ((try simp (disch := omega) only [need_and, need_dec, need_decf, need_fits, need_ne, need_t, w64_id, tmod_e, tdiv_e, bind_some', Option.map_some, cond_true, cond_false, Int.sub_zero, Int.toNat_natCast]); (try simp only [c_dec, c_eq, c_ne, c_nodec, c_not, if_true, if_false]))
      rw [hx]
      rw [ior_u8 x _ (by omega) (by omega), or_add x _ _ hxl]
      have := pack_snoc1 l (n.testBit i) h0
      rw [hx] at this
      rw [show (((x + (n.testBit i).toNat * 2 ^ (l.length % 8) : Nat)) : Int) = (x : Int) + (((n.testBit i).toNat * 2 ^ (l.length % 8) : Nat) : Int) by omega, ← this]
      rw [show ((i : Int) + 1) = ((i + 1 : Nat) : Int) by omega, show ((l.length : Int) + 1) = (((l ++ [n.testBit i]).length : Nat) : Int) by simp]
      rw [ih, hd, List.append_assoc]; rfl
theorem wPut_eq (n k : Nat) (hn : n < 9223372036854775808) (hk : k ≤ 62) (l : List Bool) (hl : l.length ≤ 90000000) :
    wPut (n : Int) (k : Int) (l.length : Int) (pack l) = some ((((l ++ numB n k).length : Nat) : Int), pack (l ++ numB n k)) := by
  unfold wPut
  have := wPut_l0 n k hn hk k 0 l (by omega) (by omega)
  rw [fuel_of, show (0 : Int) = ((0 : Nat) : Int) from rfl, this]
  simp
end Ev
end
section
set_option linter.unusedVariables false
set_option linter.unusedSimpArgs false
namespace Ev
open Go
theorem numB_get (n : Nat) : ∀ (k i : Nat) (h : i < k), (numB n k)[i]'(by rw [numB_length]; exact h) = n.testBit i
  | 0, i, h => by omega
  | k + 1, i, h => by
    simp only [numB]
    by_cases hi : i < k
    · rw [List.getElem_append_left (by rw [numB_length]; exact hi)]; exact numB_get n k i hi
    · have : i = k := by omega
      subst this
      rw [List.getElem_append_right (by rw [numB_length]; omega)]
      simp
def oT (l : List Bool) : List Int := (List.range (l.length / 8)).map fun i => ((valB ((l.drop (8 * i)).take 8) : Nat) : Int)
def fillB (l : List Bool) : List Bool := l ++ List.replicate ((8 - l.length % 8) % 8) false
theorem fillB_length (l : List Bool) : (fillB l).length = 8 * ((l.length + 7) / 8) := by simp [fillB]; omega
theorem pack_fill (l : List Bool) : pack l = oT (fillB l) ∧ pack (fillB l) = pack l := by
  have key : ∀ i, valB (((fillB l).drop (8 * i)).take 8) = valB ((l.drop (8 * i)).take 8) := fun i => by
    have z : ∀ k, valB (List.replicate k false) = 0 := fun k => by induction k with
      | zero => rfl
      | succ k ih => rw [List.replicate_succ]; simp [valB, ih]
    have vt : ∀ (a b : List Bool) k, valB b = 0 → (∀ j, valB (b.take j) = 0) → valB ((a ++ b).take k) = valB (a.take k) := fun a b k h1 h2 => by
      rw [List.take_append, valB_append, h2]; simp
    unfold fillB
    by_cases h : 8 * i ≤ l.length
    · rw [List.drop_append_of_le_length h]
      exact vt _ _ _ (z _) (fun j => by rw [List.take_replicate]; exact z _)
    · rw [List.drop_eq_nil_of_le (by omega : l.length ≤ 8 * i), List.drop_append, List.drop_eq_nil_of_le (by omega : l.length ≤ 8 * i), List.nil_append, List.drop_replicate, List.take_replicate, z]; rfl
  constructor
  · unfold pack oT
    rw [fillB_length, show 8 * ((l.length + 7) / 8) / 8 = (l.length + 7) / 8 by omega]
    exact List.map_congr_left fun i _ => by rw [key]
  · unfold pack
    rw [fillB_length, show (8 * ((l.length + 7) / 8) + 7) / 8 = (l.length + 7) / 8 by omega]
    exact List.map_congr_left fun i _ => by rw [key]
def turn (n k : Nat) : Nat := valB (numB n k).reverse
theorem turn_succ (n k : Nat) : turn n (k + 1) = 2 * turn n k + n / 2 ^ k % 2 := by
  unfold turn
  rw [numB, List.reverse_append]
  simp only [List.reverse_cons, List.reverse_nil, List.nil_append, List.singleton_append, valB]
  rw [testBit_nat]; omega
theorem turn_lt (n k : Nat) : turn n k < 2 ^ k := by
  have := valB_lt (numB n k).reverse
  rwa [List.length_reverse, numB_length] at this
theorem bitsTurn_l0 (n k : Nat) (hn : n < 9223372036854775808) (hk : k ≤ 60) : ∀ (m i : Nat), i + m = k → bitsTurn.l0 (m + 1) ((n : Int), (turn n i : Int), (k : Int), (i : Int)) = some (turn n k : Int)
  | 0, i, hi => by
    rw [bitsTurn.l0.succ]; simp only [bitsTurn.l0.step]
    rw [idx_ge (by omega)]
    have : i = k := by omega
    subst this; rfl
  | m + 1, i, hi => by
    have ht := turn_lt n i
    have hp : 2 ^ i ≤ 2 ^ 60 := Nat.pow_le_pow_right (by omega) (by omega)
    have hm : n / 2 ^ i % 2 < 2 := Nat.mod_lt _ (by omega)
    rw [bitsTurn.l0.succ]; simp only [bitsTurn.l0.step]
    rw [idx_lt (by omega), cond_true, ishr_nat n i (by omega), iand_one _ (Nat.lt_of_le_of_lt (Nat.div_le_self _ _) hn)]
    ((try simp (disch := omega) only [need_and, need_dec, need_decf, need_fits, need_ne, need_t, w64_id, tmod_e, tdiv_e, bind_some', Option.map_some, cond_true, cond_false, Int.sub_zero, Int.toNat_natCast]); (try simp only [c_dec, c_eq, c_ne, c_nodec, c_not, if_true, if_false]))
    rw [show 2 * (turn n i : Int) + ((n / 2 ^ i % 2 : Nat) : Int) = (turn n (i + 1) : Int) by rw [turn_succ]; omega, show ((i : Int) + 1) = ((i + 1 : Nat) : Int) by omega]
    exact bitsTurn_l0 n k hn hk m (i + 1) (by omega)
theorem within_eq' (n a b : Int) : within n a b = some (decide (a ≤ n ∧ n ≤ b)) := by
  unfold within
  by_cases h1 : n ≥ a <;> by_cases h2 : n ≤ b <;> simp [h1, h2] <;> omega
theorem l1In_eq' (n a b : Int) : l1In n a b = some (decide (a ≤ n ∧ n ≤ b)) := within_eq' n a b
theorem pieceOk_ok (n k : Nat) (hk : k ≤ 16) (hn : n < 2 ^ k) : pieceOk (n : Int) (k : Int) = some true := by
  unfold pieceOk
  have hp : 2 ^ k ≤ 2 ^ 16 := Nat.pow_le_pow_right (by omega) hk
  rw [within_eq']
  simp only [bind_some']
  have h1 : decide ((0 : Int) ≤ (k : Int) ∧ (k : Int) ≤ 16) = true := by simp; omega
  have := ishl_nat 1 k (by omega) (by omega)
  rw [show ((1 : Nat) : Int) = 1 from rfl] at this
  rw [h1, cond_true, this]
  ((try simp (disch := omega) only [need_and, need_dec, need_decf, need_fits, need_ne, need_t, w64_id, tmod_e, tdiv_e, bind_some', Option.map_some, cond_true, cond_false, Int.sub_zero, Int.toNat_natCast]); (try simp only [c_dec, c_eq, c_ne, c_nodec, c_not, if_true, if_false]))
  rw [within_eq']
  have h2 : decide ((0 : Int) ≤ (n : Int) ∧ (n : Int) ≤ ((1 * 2 ^ k : Nat) : Int) - 1) = true := by
    rw [decide_eq_true_eq]; omega
  rw [h2]; rfl
theorem bitsTurn_eq (n k : Nat) (hk : k ≤ 16) (hn : n < 2 ^ k) : bitsTurn (n : Int) (k : Int) = some (turn n k : Int) := by
  have hp : 2 ^ k ≤ 2 ^ 16 := Nat.pow_le_pow_right (by omega) hk
  unfold bitsTurn
  rw [pieceOk_ok n k hk hn]
  simp only [bind_some', Bool.not_true, cond_false]
  have := bitsTurn_l0 n k (by omega) (by omega) k 0 (by omega)
  rw [fuel_of]
  rw [show (turn n 0 : Int) = 0 from rfl, show ((0 : Nat) : Int) = 0 from rfl] at this
  rw [this]; rfl
def msb (c k : Nat) : List Bool := (numB c k).reverse
theorem numB_valB : ∀ (l : List Bool), numB (valB l) l.length = l := by
  intro l
  apply List.ext_getElem
  · rw [numB_length]
  · intro i h1 h2
    rw [numB_get _ _ _ h2]
    induction l generalizing i with
    | nil => simp at h2
    | cons b l ih =>
      cases i with
      | zero =>
        simp only [valB, List.getElem_cons_zero]
        rw [Nat.testBit_zero]
        cases b <;> simp <;> omega
      | succ i =>
        simp only [valB, List.getElem_cons_succ]
        rw [Nat.testBit_succ, show (b.toNat + 2 * valB l) / 2 = valB l by cases b <;> simp <;> omega]
        exact ih i (by rw [numB_length]; simpa using h2) (by simpa using h2)
theorem numB_turn (n k : Nat) : numB (turn n k) k = msb n k := by
  have := numB_valB (numB n k).reverse
  rw [List.length_reverse, numB_length] at this
  exact this
end Ev
end
section
set_option linter.unusedVariables false
set_option linter.unusedSimpArgs false
namespace Ev
open Go
def bitsOf : Str → List Bool
  | [] => []
  | c :: s => numB c.toNat 8 ++ bitsOf s
theorem bitsOf_length : ∀ s : Str, (bitsOf s).length = 8 * s.length
  | [] => rfl
  | c :: s => by simp [bitsOf, numB_length, bitsOf_length s]; omega
theorem bitsOf_append : ∀ s t : Str, bitsOf (s ++ t) = bitsOf s ++ bitsOf t
  | [], t => rfl
  | c :: s, t => by simp [bitsOf, bitsOf_append s t]
theorem bitsOf_get : ∀ (s : Str) (n : Nat) (h : n < 8 * s.length), (bitsOf s)[n]'(by rw [bitsOf_length]; exact h) = ((s.getD (n / 8) 0).toNat).testBit (n % 8)
  | [], n, h => by simp at h
  | c :: s, n, h => by
    simp only [bitsOf]
    by_cases h8 : n < 8
    · rw [List.getElem_append_left (by rw [numB_length]; exact h8), numB_get _ _ _ h8, show n / 8 = 0 by omega, show n % 8 = n by omega]; rfl
    · rw [List.getElem_append_right (by rw [numB_length]; omega)]
      simp only [numB_length]
      have := bitsOf_get s (n - 8) (by simp at h; omega)
      rw [this, show n / 8 = (n - 8) / 8 + 1 by omega, show (n - 8) % 8 = n % 8 by omega]; rfl
def Rs (s : Str) (at_ : Int) (bad : Bool) : Option (List Bool) → Prop
  | some l => bad = false ∧ ∃ n : Nat, at_ = (n : Int) ∧ n ≤ 8 * s.length ∧ (bitsOf s).drop n = l
  | none => bad = true ∧ ∃ n : Nat, at_ = (n : Int) ∧ n ≤ 8 * s.length
theorem Rs.at {s : Str} {at_ : Int} {bad : Bool} {m : Option (List Bool)} (h : Rs s at_ bad m) : ∃ n : Nat, at_ = (n : Int) ∧ n ≤ 8 * s.length := by
  cases m with
  | none => exact h.2
  | some l => obtain ⟨_, n, a, b, _⟩ := h; exact ⟨n, a, b⟩
theorem Rs.fail {s : Str} {at_ : Int} {bad : Bool} {m : Option (List Bool)} (h : Rs s at_ bad m) : Rs s at_ true none := ⟨rfl, h.at⟩
theorem Rs.len {s : Str} {at_ : Int} {bad : Bool} {l : List Bool} (h : Rs s at_ bad (some l)) : at_ = ((8 * s.length - l.length : Nat) : Int) ∧ l.length ≤ 8 * s.length := by
  obtain ⟨_, n, a, b, c⟩ := h
  have := congrArg List.length c
  rw [List.length_drop, bitsOf_length] at this
  omega
theorem Rs.start (s : Str) : Rs s 0 false (some (bitsOf s)) := ⟨rfl, 0, rfl, by omega, rfl⟩
def uncons : Option (List Bool) → Option (List Bool)
  | some (_ :: l) => some l
  | _ => none
def BitPost (s : Str) (m : Option (List Bool)) (r : Int × Str × Int × Bool) : Prop :=
  r.2.1 = s ∧ ∃ b : Bool, r.1 = ((b.toNat : Nat) : Int) ∧ Rs s r.2.2.1 r.2.2.2 (uncons m) ∧ ∀ c l, m = some (c :: l) → b = c
theorem rBit_lt (s : Str) (n : Nat) (bad : Bool) (hs : s.length ≤ 1000000000) (hlt : n < 8 * s.length) :
    rBit s (n : Int) bad = some (((((s.getD (n / 8) 0).toNat.testBit (n % 8)).toNat : Nat) : Int), s, ((n + 1 : Nat) : Int), bad) := by
  unfold rBit
  have hmod : ((n : Int)).tmod 8 = ((n % 8 : Nat) : Int) := by rw [tmod_e (by omega)]; omega
  have hdiv : ((n : Int)).tdiv 8 = ((n / 8 : Nat) : Int) := by rw [tdiv_e (by omega)]; omega
  simp only [hmod, hdiv]
  ((try simp (disch := omega) only [need_and, need_dec, need_decf, need_fits, need_ne, need_t, w64_id, tmod_e, tdiv_e, bind_some', Option.map_some, cond_true, cond_false, Int.sub_zero, Int.toNat_natCast]); (try simp only [c_dec, c_eq, c_ne, c_nodec, c_not, if_true, if_false]))
  rw [if_neg (by omega)]
  have hc : (s.getD (n / 8) 0).toNat < 256 := (s.getD (n / 8) 0).toNat_lt
  have hbit : iand .i64 (ishr .i64 (w64 (((s.getD (n / 8) 0).toNat : Nat) : Int)) ((n % 8 : Nat) : Int)) 1 = ((((s.getD (n / 8) 0).toNat.testBit (n % 8)).toNat : Nat) : Int) := by
    rw [w64_id (by omega) (by omega), ishr_nat _ _ (by omega), iand_one _ (Nat.lt_of_le_of_lt (Nat.div_le_self _ _) (by omega)), testBit_nat]
  rw [hbit, show ((n : Int) + 1) = ((n + 1 : Nat) : Int) by omega]
theorem rBit_st {s : Str} {at_ : Int} {bad : Bool} {m : Option (List Bool)} (hs : s.length ≤ 1000000000) (h : Rs s at_ bad m) : Ret (rBit s at_ bad) (BitPost s m) := by
  obtain ⟨n, rfl, hn⟩ := h.at
  unfold rBit
  by_cases hlt : n < 8 * s.length
  · have hb0 := rBit_lt s n bad hs hlt
    unfold rBit at hb0
    rw [hb0]
    refine .pure ⟨rfl, _, rfl, ?_, ?_⟩
    · cases m with
      | none => exact ⟨h.1, n + 1, rfl, by omega⟩
      | some l =>
        obtain ⟨hb, n', e, _, hd⟩ := h
        have : n' = n := by omega
        subst this
        rw [List.drop_eq_getElem_cons (by rw [bitsOf_length]; exact hlt)] at hd
        subst hd
        exact ⟨hb, n' + 1, rfl, by omega, rfl⟩
    · rintro c l rfl
      obtain ⟨hb, n', e, _, hd⟩ := h
      have : n' = n := by omega
      subst this
      rw [List.drop_eq_getElem_cons (by rw [bitsOf_length]; exact hlt), bitsOf_get s n' hlt] at hd
      exact (List.cons.inj hd).1
  · ((try simp (disch := omega) only [need_and, need_dec, need_decf, need_fits, need_ne, need_t, w64_id, tmod_e, tdiv_e, bind_some', Option.map_some, cond_true, cond_false, Int.sub_zero, Int.toNat_natCast]); (try simp only [c_dec, c_eq, c_ne, c_nodec, c_not, if_true, if_false]))
    rw [if_pos (by omega)]
    refine .pure ⟨rfl, false, rfl, ?_, ?_⟩
    · cases m with
      | none => exact ⟨rfl, n, rfl, hn⟩
      | some l =>
        have := h.len
        have : l = [] := List.length_eq_zero_iff.1 (by omega)
        subst this
        exact ⟨rfl, n, rfl, hn⟩
    · rintro c l rfl
      have := h.len
      simp at this; omega
def mNum (k : Nat) : Option (List Bool) → Option (List Bool)
  | some l => if k ≤ l.length then some (l.drop k) else none
  | none => none
def NumPost (s : Str) (k : Nat) (m : Option (List Bool)) (r : Int × Str × Int × Bool) : Prop :=
  r.2.1 = s ∧ (∃ v : Nat, r.1 = (v : Int) ∧ v < 2 ^ k ∧ ∀ l, m = some l → k ≤ l.length → v = valB (l.take k)) ∧ Rs s r.2.2.1 r.2.2.2 (mNum k m)
theorem mNum_zero (m : Option (List Bool)) : mNum 0 m = m := by cases m <;> simp [mNum]
theorem mNum_succ (k : Nat) (m : Option (List Bool)) : mNum (k + 1) m = uncons (mNum k m) := by
  cases m with
  | none => rfl
  | some l =>
    simp only [mNum]
    by_cases h : k + 1 ≤ l.length
    · rw [if_pos h, if_pos (by omega), List.drop_eq_getElem_cons (by omega : k < l.length)]; rfl
    · rw [if_neg h]
      by_cases h2 : k ≤ l.length
      · rw [if_pos h2, List.drop_eq_nil_of_le (by omega)]; rfl
      · rw [if_neg h2]; rfl
theorem valB_take_succ (l : List Bool) (k : Nat) (h : k < l.length) : valB (l.take (k + 1)) = valB (l.take k) + (l[k]).toNat * 2 ^ k := by
  rw [List.take_succ_eq_append_getElem h, valB_append, List.length_take, Nat.min_eq_left (by omega)]
  simp only [valB, Nat.mul_zero, Nat.add_zero]
  rw [Nat.mul_comm (2 ^ _)]
theorem rGet_l0 {s : Str} (hs : s.length ≤ 1000000000) (k : Nat) (hk : k ≤ 60) (m0 : Option (List Bool)) : ∀ (j i v : Nat) (at_ : Int) (bad : Bool), i + j = k → v < 2 ^ i → (∀ l, m0 = some l → i ≤ l.length → v = valB (l.take i)) → Rs s at_ bad (mNum i m0) →
    Ret (rGet.l0 (j + 1) ((v : Int), (k : Int), (i : Int), s, at_, bad)) (NumPost s k m0)
  | 0, i, v, at_, bad, hi, hv, hl, h => by
    rw [rGet.l0.succ]; simp only [rGet.l0.step]
    rw [idx_ge (by omega)]
    have : i = k := by omega
    subst this
    exact .pure ⟨rfl, ⟨v, rfl, hv, hl⟩, h⟩
  | j + 1, i, v, at_, bad, hi, hv, hl, h => by
    rw [rGet.l0.succ]; simp only [rGet.l0.step]
    rw [idx_lt (by omega), cond_true]
    refine .bind (rBit_st hs h) ?_
    rintro ⟨r, s', at', bad'⟩ ⟨rfl, b, rfl, h2, h3⟩
    dsimp only at h2 h3 ⊢
    have hb : b.toNat ≤ 1 := by cases b <;> decide
    have hp : 2 ^ i ≤ 2 ^ 60 := Nat.pow_le_pow_right (by omega) (by omega)
    have hle : b.toNat * 2 ^ i ≤ 1 * 2 ^ i := Nat.mul_le_mul_right _ hb
    ((try simp (disch := omega) only [need_and, need_dec, need_decf, need_fits, need_ne, need_t, w64_id, tmod_e, tdiv_e, bind_some', Option.map_some, cond_true, cond_false, Int.sub_zero, Int.toNat_natCast]); (try simp only [c_dec, c_eq, c_ne, c_nodec, c_not, if_true, if_false]))
    rw [ishl_nat _ _ (by omega) (by omega), ior_nat _ _ (by omega) (by omega), or_add v _ i hv, show ((i : Int) + 1) = ((i + 1 : Nat) : Int) by omega]
    refine rGet_l0 hs k hk m0 j (i + 1) _ at' bad' (by omega) (by rw [Nat.pow_succ]; omega) (fun l hm hil => ?_) (by rw [mNum_succ]; exact h2)
    subst hm
    have hlen : i < l.length := by omega
    rw [valB_take_succ l i hlen, ← hl l rfl (by omega)]
    have := h3 l[i] (l.drop (i + 1)) (by simp only [mNum]; rw [if_pos (by omega), List.drop_eq_getElem_cons hlen])
    rw [this]
theorem rGet_st {s : Str} {at_ : Int} {bad : Bool} {m : Option (List Bool)} (hs : s.length ≤ 1000000000) (k : Nat) (hk : k ≤ 60) (h : Rs s at_ bad m) : Ret (rGet (k : Int) s at_ bad) (NumPost s k m) := by
  unfold rGet
  rw [fuel_of]
  refine .bind (rGet_l0 hs k hk m k 0 0 at_ bad (by omega) (by simp) (fun l _ _ => by simp [valB]) (by rw [mNum_zero]; exact h)) ?_
  rintro ⟨r, s', at', bad'⟩ hr
  exact .pure hr
def mEven : Option (List Bool) → Option (List Bool)
  | some l => if valB (l.take (l.length % 8)) = 0 then some (l.drop (l.length % 8)) else none
  | none => none
theorem mEven_step (b : Bool) (l : List Bool) (h : (l.length + 1) % 8 ≠ 0) : mEven (some (b :: l)) = if b then none else mEven (some l) := by
  have e : (l.length + 1) % 8 = l.length % 8 + 1 := by omega
  simp only [mEven, List.length_cons, e, List.take_succ_cons, List.drop_succ_cons, valB]
  cases b
  · by_cases h0 : valB (List.take (l.length % 8) l) = 0
    · simp [h0]
    · simp [h0]; omega
  · simp
theorem rEven_l0 {s : Str} (hs : s.length ≤ 1000000000) : ∀ (j : Nat) (at_ : Int) (bad : Bool) (m : Option (List Bool)), Rs s at_ bad m → (8 - at_.toNat % 8) % 8 < j →
    Ret (rEven.l0 j (s, at_, bad)) fun r => r.1 = s ∧ Rs s r.2.1 r.2.2 (mEven m)
  | 0, _, _, _, _, h => absurd h (by omega)
  | j + 1, at_, bad, m, h, hj => by
    obtain ⟨n, rfl, hn⟩ := h.at
    rw [rEven.l0.succ]; simp only [rEven.l0.step]
    have hmod : ((n : Int)).tmod 8 = ((n % 8 : Nat) : Int) := by rw [tmod_e (by omega)]; omega
    rw [hmod]
    ((try simp (disch := omega) only [need_and, need_dec, need_decf, need_fits, need_ne, need_t, w64_id, tmod_e, tdiv_e, bind_some', Option.map_some, cond_true, cond_false, Int.sub_zero, Int.toNat_natCast]); (try simp only [c_dec, c_eq, c_ne, c_nodec, c_not, if_true, if_false]))
    refine .ite (fun h0 => .pure ⟨rfl, ?_⟩) fun h0 => ?_
    · cases m with
      | none => exact h
      | some l =>
        have hl := h.len
        have : l.length % 8 = 0 := by omega
        simp only [mEven, this, List.take_zero, List.drop_zero, valB, if_true]; exact h
    · have hlt : n < 8 * s.length := by omega
      have hst := rBit_st hs h
      rw [rBit_lt s n bad hs hlt] at hst ⊢
      obtain ⟨r0, hr0, hst⟩ := hst
      cases hr0
      obtain ⟨_, b, hb, h2, h3⟩ := hst
      dsimp only at hb h2 h3
      have hbb : (s.getD (n / 8) 0).toNat.testBit (n % 8) = b := by
        generalize (s.getD (n / 8) 0).toNat.testBit (n % 8) = c at hb
        revert hb; cases b <;> cases c <;> simp
      rw [hbb]
      simp only [bind_some']
      have fin : ∀ bad2, Rs s ((n + 1 : Nat) : Int) bad2 (match m with
          | some (c :: l) => if b then none else some l
          | _ => none) → Ret (rEven.l0 j (s, ((n + 1 : Nat) : Int), bad2)) fun r => r.1 = s ∧ Rs s r.2.1 r.2.2 (mEven m) := fun bad2 h4 => by
        refine (rEven_l0 hs j _ bad2 _ h4 (by omega)).mono fun r ⟨e1, e2⟩ => ⟨e1, ?_⟩
        cases m with
        | none => exact e2
        | some l =>
          cases l with
          | nil => have := h.len; simp at this; omega
          | cons c l =>
            have hl := h.len
            rw [mEven_step c l (by simp at hl; omega), ← h3 c l rfl]
            cases b <;> exact e2
      ((try simp (disch := omega) only [need_and, need_dec, need_decf, need_fits, need_ne, need_t, w64_id, tmod_e, tdiv_e, bind_some', Option.map_some, cond_true, cond_false, Int.sub_zero, Int.toNat_natCast]); (try simp only [c_dec, c_eq, c_ne, c_nodec, c_not, if_true, if_false]))
      refine .ite (fun hb0 => fin bad ?_) fun hb0 => fin true ?_
      · have : b = false := by cases b <;> simp at hb0 ⊢
        subst this
        cases m with
        | none => exact h2
        | some l => cases l <;> exact h2
      · have : b = true := by cases b <;> simp at hb0 ⊢
        subst this
        cases m with
        | none => exact h2.fail
        | some l => cases l <;> exact h2.fail
theorem rEven_st {s : Str} {at_ : Int} {bad : Bool} {m : Option (List Bool)} (hs : s.length ≤ 1000000000) (h : Rs s at_ bad m) : Ret (rEven s at_ bad) fun r => r.1 = s ∧ Rs s r.2.1 r.2.2 (mEven m) := by
  unfold rEven
  refine .bind (rEven_l0 hs 9 at_ bad m h (by omega)) ?_
  rintro ⟨s', a, b⟩ hr
  exact .pure hr
end Ev
end
section
set_option linter.unusedVariables false
set_option linter.unusedSimpArgs false
namespace Ev
open Go
theorem wrap_u32 (n : Int) : IntKind.wrap .u32 n = n % 4294967296 := by simp [IntKind.wrap, IntKind.bits, IntKind.signed]
theorem ixor_u32 (x y : Nat) (hx : x < 4294967296) (hy : y < 4294967296) : ixor .u32 (x : Int) (y : Int) = ((x ^^^ y : Nat) : Int) := by
  have hz : x ^^^ y < 2 ^ 32 := Nat.xor_lt_two_pow (by omega) (by omega)
  unfold ixor
  have e : (BitVec.ofInt IntKind.u32.bits (x : Int) ^^^ BitVec.ofInt IntKind.u32.bits (y : Int)).toNat = x ^^^ y := by
    simp only [BitVec.ofInt_natCast, BitVec.toNat_xor, BitVec.toNat_ofNat, show IntKind.u32.bits = 32 from rfl]
    rw [Nat.mod_eq_of_lt (by omega), Nat.mod_eq_of_lt (by omega)]
  rw [e, wrap_u32]; omega
theorem iand_u32_one (x : Nat) (hx : x < 4294967296) : iand .u32 (x : Int) 1 = ((x % 2 : Nat) : Int) := by
  have hz : x &&& 1 < 2 ^ 32 := Nat.and_lt_two_pow _ (by omega)
  unfold iand
  have e : (BitVec.ofInt IntKind.u32.bits (x : Int) &&& BitVec.ofInt IntKind.u32.bits ((1 : Nat) : Int)).toNat = x &&& 1 := by
    simp only [BitVec.ofInt_natCast, BitVec.toNat_and, BitVec.toNat_ofNat, show IntKind.u32.bits = 32 from rfl]
    rw [Nat.mod_eq_of_lt (by omega), Nat.mod_eq_of_lt (by omega)]
  rw [show (1 : Int) = ((1 : Nat) : Int) from rfl, e, wrap_u32, Nat.and_one_is_mod]; omega
theorem ishr_u32_one (x : Nat) : ishr .u32 (x : Int) 1 = ((x / 2 : Nat) : Int) := by
  unfold ishr
  rw [show min (1 : Int).toNat IntKind.u32.bits = 1 from rfl, show ((2 : Int) ^ 1) = 2 by rfl, Int.fdiv_eq_ediv_of_nonneg _ (by omega)]
  omega
def crcStep (c : Nat) : Nat := if c % 2 = 1 then c / 2 ^^^ 3988292384 else c / 2
def crcSteps : Nat → Nat → Nat
  | 0, c => c
  | n + 1, c => crcSteps n (crcStep c)
def crcByte (c : Nat) (b : UInt8) : Nat := crcSteps 8 (c ^^^ b.toNat)
def crcM (text : Str) : Nat := text.foldl crcByte 4294967295 ^^^ 4294967295
theorem crcStep_lt {c : Nat} (h : c < 4294967296) : crcStep c < 4294967296 := by
  unfold crcStep
  split
  · exact Nat.xor_lt_two_pow (n := 32) (by omega) (by omega)
  · omega
theorem crcSteps_lt : ∀ {n c : Nat}, c < 4294967296 → crcSteps n c < 4294967296
  | 0, c, h => h
  | n + 1, c, h => crcSteps_lt (n := n) (crcStep_lt h)
theorem crcByte_lt {c : Nat} {b : UInt8} (h : c < 4294967296) : crcByte c b < 4294967296 :=
  crcSteps_lt (Nat.xor_lt_two_pow (n := 32) (by omega) (by have := b.toNat_lt; omega))
theorem crcFold_lt : ∀ (text : Str) {c : Nat}, c < 4294967296 → text.foldl crcByte c < 4294967296
  | [], _, h => h
  | b :: t, _, h => crcFold_lt t (crcByte_lt h)
theorem crcM_lt (text : Str) : crcM text < 4294967296 := Nat.xor_lt_two_pow (n := 32) (crcFold_lt text (by omega)) (by omega)
theorem crcUpdate_l0 (text : Str) (k : Int) : ∀ (j i c : Nat), i + j = 8 → c < 4294967296 → crcUpdate.l0 (j + 1) ((c : Int), text, k, (i : Int)) = some (((crcSteps j c : Nat) : Int), text, k)
  | 0, i, c, hi, hc => by
    rw [crcUpdate.l0.succ]; simp only [crcUpdate.l0.step]
    ((try simp (disch := omega) only [need_and, need_dec, need_decf, need_fits, need_ne, need_t, w64_id, tmod_e, tdiv_e, bind_some', Option.map_some, cond_true, cond_false, Int.sub_zero, Int.toNat_natCast]); (try simp only [c_dec, c_eq, c_ne, c_nodec, c_not, if_true, if_false]))
    rw [if_neg (by omega)]; rfl
  | j + 1, i, c, hi, hc => by
    have ih := crcUpdate_l0 text k j (i + 1) (crcStep c) (by omega) (crcStep_lt hc)
    rw [crcUpdate.l0.succ]; simp only [crcUpdate.l0.step]
    ((try simp (disch := omega) only [need_and, need_dec, need_decf, need_fits, need_ne, need_t, w64_id, tmod_e, tdiv_e, bind_some', Option.map_some, cond_true, cond_false, Int.sub_zero, Int.toNat_natCast]); (try simp only [c_dec, c_eq, c_ne, c_nodec, c_not, if_true, if_false]))
    rw [if_pos (by omega), ishr_u32_one, iand_u32_one c hc]
    have e : ixor .u32 ((c / 2 : Nat) : Int) (IntKind.wrap .u32 (3988292384 * ((c % 2 : Nat) : Int))) = ((crcStep c : Nat) : Int) := by
      rw [wrap_u32]
      unfold crcStep
      split
      · rename_i h1
        rw [h1, show ((3988292384 : Int) * ((1 : Nat) : Int) % 4294967296) = ((3988292384 : Nat) : Int) by rfl, ixor_u32 _ _ (by omega) (by omega)]
      · rename_i h1
        have : c % 2 = 0 := by omega
        rw [this, show ((3988292384 : Int) * ((0 : Nat) : Int) % 4294967296) = ((0 : Nat) : Int) by rfl, ixor_u32 _ _ (by omega) (by omega), Nat.xor_zero]
    rw [e, show ((i : Int) + 1) = ((i + 1 : Nat) : Int) by omega, ih]; rfl
theorem crcUpdate_l1 (text : Str) (hs : text.length ≤ 1000000000) : ∀ (j i c : Nat), i + j = text.length → c < 4294967296 → crcUpdate.l1 (j + 1) ((c : Int), text, (i : Int)) = some (((text.drop i).foldl crcByte c : Nat) : Int)
  | 0, i, c, hi, hc => by
    rw [crcUpdate.l1.succ]; simp only [crcUpdate.l1.step]
    ((try simp (disch := omega) only [need_and, need_dec, need_decf, need_fits, need_ne, need_t, w64_id, tmod_e, tdiv_e, bind_some', Option.map_some, cond_true, cond_false, Int.sub_zero, Int.toNat_natCast]); (try simp only [c_dec, c_eq, c_ne, c_nodec, c_not, if_true, if_false]))
    rw [if_neg (by omega), List.drop_eq_nil_of_le (by omega)]; rfl
  | j + 1, i, c, hi, hc => by
    have hlt : i < text.length := by omega
    rw [crcUpdate.l1.succ]; simp only [crcUpdate.l1.step]
    ((try simp (disch := omega) only [need_and, need_dec, need_decf, need_fits, need_ne, need_t, w64_id, tmod_e, tdiv_e, bind_some', Option.map_some, cond_true, cond_false, Int.sub_zero, Int.toNat_natCast]); (try simp only [c_dec, c_eq, c_ne, c_nodec, c_not, if_true, if_false]))
    rw [if_pos (by omega)]
    have hb : (text.getD i 0).toNat < 256 := (text.getD i 0).toNat_lt
    rw [wrap_u32, show (((text.getD i 0).toNat : Int) % 4294967296) = (((text.getD i 0).toNat : Nat) : Int) by omega, ixor_u32 _ _ hc (by omega)]
    have h0 := crcUpdate_l0 text (i : Int) 8 0 (c ^^^ (text.getD i 0).toNat) (by omega) (Nat.xor_lt_two_pow (n := 32) (by omega) (by omega))
    rw [show ((0 : Nat) : Int) = 0 from rfl] at h0
    rw [show ((8 : Int)).toNat + 1 = 8 + 1 from rfl, h0]
    simp only [bind_some']
    ((try simp (disch := omega) only [need_and, need_dec, need_decf, need_fits, need_ne, need_t, w64_id, tmod_e, tdiv_e, bind_some', Option.map_some, cond_true, cond_false, Int.sub_zero, Int.toNat_natCast]); (try simp only [c_dec, c_eq, c_ne, c_nodec, c_not, if_true, if_false]))
    rw [show ((i : Int) + 1) = ((i + 1 : Nat) : Int) by omega]
    have := crcUpdate_l1 text hs j (i + 1) (crcByte c (text.getD i 0)) (by omega) (crcByte_lt hc)
    unfold crcByte at this
    rw [this, List.drop_eq_getElem_cons hlt, getD_in hlt]; rfl
theorem crc_eq (text : Str) (hs : text.length ≤ 1000000000) : crc text = some ((crcM text : Nat) : Int) := by
  unfold crc crcUpdate
  rw [fuel_of]
  have e : ixor .u32 (IntKind.max .u32) 0 = ((4294967295 : Nat) : Int) := ixor_u32 4294967295 0 (by omega) (by omega)
  have h := crcUpdate_l1 text hs text.length 0 4294967295 (by omega) (by omega)
  rw [show ((0 : Nat) : Int) = 0 from rfl] at h
  rw [e, h]
  simp only [bind_some', List.drop_zero]
  have hl := crcFold_lt text (c := 4294967295) (by omega)
  have e2 : ixor .u32 (IntKind.max .u32) ((text.foldl crcByte 4294967295 : Nat) : Int) = ((crcM text : Nat) : Int) := by
    rw [show IntKind.max .u32 = ((4294967295 : Nat) : Int) from rfl, ixor_u32 _ _ (by omega) hl, Nat.xor_comm]; rfl
  rw [e2]
  have := crcM_lt text
  ((try simp (disch := omega) only [need_and, need_dec, need_decf, need_fits, need_ne, need_t, w64_id, tmod_e, tdiv_e, bind_some', Option.map_some, cond_true, cond_false, Int.sub_zero, Int.toNat_natCast]); (try simp only [c_dec, c_eq, c_ne, c_nodec, c_not, if_true, if_false]))
end Ev
end
section
set_option linter.unusedVariables false
set_option linter.unusedSimpArgs false
namespace Ev
open Go
def zs (ns : List Nat) : List Int := ns.map fun (n : Nat) => (n : Int)
theorem zs_length (ns : List Nat) : (zs ns).length = ns.length := by simp [zs]
theorem zs_getD (ns : List Nat) (i : Nat) : (zs ns).getD i 0 = ((ns.getD i 0 : Nat) : Int) := by
  simp only [zs, List.getD_eq_getElem?_getD, List.getElem?_map]
  cases ns[i]? <;> rfl
theorem zs_append (a b : List Nat) : zs (a ++ b) = zs a ++ zs b := by simp [zs]
theorem zs_set (a : List Nat) (i n : Nat) : (zs a).set i (n : Int) = zs (a.set i n) := by simp [zs, List.map_set]
theorem zs_replicate (k n : Nat) : List.replicate k (n : Int) = zs (List.replicate k n) := by simp [zs]
def kraft : List Nat → Nat
  | [] => 0
  | n :: r => (if 0 < n then 2 ^ (15 - n) else 0) + kraft r
def used : List Nat → Nat
  | [] => 0
  | n :: r => (if 0 < n then 1 else 0) + used r
theorem used_le : ∀ ns : List Nat, used ns ≤ ns.length
  | [] => Nat.le_refl _
  | n :: r => by
    have := used_le r
    simp only [used, List.length_cons]
    split <;> omega
def lensM (ns : List Nat) : Bool := decide (ns.length ≤ 300) && (ns.all (fun n => decide (n ≤ 15)) && (decide (kraft ns = 32768) || decide (used ns = 1 ∧ kraft ns = 16384)))
def lastU (a : Nat) : List Nat → Nat
  | [] => a
  | n :: r => lastU (if 0 < n then n else a) r
theorem lensOk_l0 (ns : List Nat) (hn : ns.length ≤ 300) : ∀ (j i sum many last : Nat), i + j = ns.length → sum ≤ 32768 * i → many ≤ i →
    lensOk.l0 (j + 1) ((sum : Int), (many : Int), (last : Int), zs ns, (ns.length : Int), (i : Int)) =
      some (if (ns.drop i).all (fun n => decide (n ≤ 15)) then .inl (((sum + kraft (ns.drop i) : Nat) : Int), ((many + used (ns.drop i) : Nat) : Int), ((lastU last (ns.drop i) : Nat) : Int)) else .inr false)
  | 0, i, sum, many, last, hi, h1, h2 => by
    rw [lensOk.l0.succ]; simp only [lensOk.l0.step]
    rw [idx_ge (by omega), List.drop_eq_nil_of_le (by omega)]; rfl
  | j + 1, i, sum, many, last, hi, h1, h2 => by
    have hlt : i < ns.length := by omega
    have hd : ns.drop i = ns[i] :: ns.drop (i + 1) := List.drop_eq_getElem_cons hlt
    have hg : ns.getD i 0 = ns[i] := getD_in hlt
    rw [lensOk.l0.succ]; simp only [lensOk.l0.step]
    rw [idx_lt hlt, cond_true, need_true _ (by rw [zs_length]; exact idx_in hlt), Int.toNat_natCast, zs_getD, hg, within_eq', hd, List.all_cons]
    simp only [bind_some']
    by_cases h15 : ns[i] ≤ 15
    · have e1 : decide ((0 : Int) ≤ (ns[i] : Int) ∧ (ns[i] : Int) ≤ 15) = true := by simp; omega
      rw [e1, decide_eq_true h15, Bool.true_and]
      simp only [Bool.not_true, cond_false, c_dec]
      by_cases h0 : 0 < ns[i]
      · have hp : 2 ^ (15 - ns[i]) ≤ 2 ^ 15 := Nat.pow_le_pow_right (by omega) (by omega)
        have hp0 : 0 < 2 ^ (15 - ns[i]) := Nat.two_pow_pos _
        have hsh := ishl_nat 1 (15 - ns[i]) (by omega) (by omega)
        rw [Nat.one_mul, show ((1 : Nat) : Int) = 1 from rfl, show ((15 - ns[i] : Nat) : Int) = 15 - (ns[i] : Int) by omega] at hsh
        rw [if_pos (by omega)]
        ((try simp (disch := omega) only [need_and, need_dec, need_decf, need_fits, need_ne, need_t, w64_id, tmod_e, tdiv_e, bind_some', Option.map_some, cond_true, cond_false, Int.sub_zero, Int.toNat_natCast, hsh]); (try simp only [c_dec, c_eq, c_ne, c_nodec, c_not, if_true, if_false, hsh]))
        rw [show (sum : Int) + ((2 ^ (15 - ns[i]) : Nat) : Int) = ((sum + 2 ^ (15 - ns[i]) : Nat) : Int) by omega, show (many : Int) + 1 = ((many + 1 : Nat) : Int) by omega, show (i : Int) + 1 = ((i + 1 : Nat) : Int) by omega,
          lensOk_l0 ns hn j (i + 1) _ _ _ (by omega) (by omega) (by omega)]
        simp only [kraft, used, lastU, if_pos h0, Nat.add_assoc]
      · rw [if_neg (by omega)]
        ((try simp (disch := omega) only [need_and, need_dec, need_decf, need_fits, need_ne, need_t, w64_id, tmod_e, tdiv_e, bind_some', Option.map_some, cond_true, cond_false, Int.sub_zero, Int.toNat_natCast]); (try simp only [c_dec, c_eq, c_ne, c_nodec, c_not, if_true, if_false]))
        rw [show (i : Int) + 1 = ((i + 1 : Nat) : Int) by omega, lensOk_l0 ns hn j (i + 1) _ _ _ (by omega) (by omega) (by omega)]
        simp only [kraft, used, lastU, if_neg h0, Nat.zero_add]
    · have e1 : decide ((0 : Int) ≤ (ns[i] : Int) ∧ (ns[i] : Int) ≤ 15) = false := by simp; omega
      rw [e1, decide_eq_false h15]
      rfl
theorem lastU_one : ∀ {ns : List Nat} {a : Nat}, used ns = 1 → kraft ns = 2 ^ (15 - lastU a ns) ∧ 0 < lastU a ns
  | [], a, h => by simp [used] at h
  | n :: r, a, h => by
    simp only [used] at h
    have z : ∀ r (a : Nat), used r = 0 → kraft r = 0 ∧ lastU a r = a := fun r => by
      induction r with
      | nil => intro _ _; exact ⟨rfl, rfl⟩
      | cons m r ih =>
        intro a h
        simp only [used] at h
        by_cases hm : 0 < m
        · rw [if_pos hm] at h; omega
        · rw [if_neg hm] at h; simp only [kraft, lastU]; rw [if_neg hm, if_neg hm, (ih a (by omega)).1]; exact ⟨rfl, (ih a (by omega)).2⟩
    by_cases hn : 0 < n
    · rw [if_pos hn] at h
      have h0 : used r = 0 := by omega
      simp only [kraft, lastU, if_pos hn, (z r n h0).1, (z r n h0).2]
      exact ⟨rfl, hn⟩
    · rw [if_neg hn] at h
      have := lastU_one (ns := r) (a := a) (by omega)
      simp only [kraft, lastU, if_neg hn, Nat.zero_add]
      exact this
theorem lensOk_eq (ns : List Nat) : lensOk (zs ns) = some (lensM ns) := by
  unfold lensOk lensM
  rw [zs_length]
  ((try simp (disch := omega) only [need_and, need_dec, need_decf, need_fits, need_ne, need_t, w64_id, tmod_e, tdiv_e, bind_some', Option.map_some, cond_true, cond_false, Int.sub_zero, Int.toNat_natCast]); (try simp only [c_dec, c_eq, c_ne, c_nodec, c_not, if_true, if_false]))
  by_cases hn : ns.length ≤ 300
  · rw [if_neg (by omega)]
    have h := lensOk_l0 ns hn ns.length 0 0 0 0 (by omega) (by omega) (by omega)
    rw [show ((0 : Nat) : Int) = 0 from rfl, List.drop_zero] at h
    rw [h, decide_eq_true hn]
    cases hall : ns.all (fun n => decide (n ≤ 15)) with
    | false => rfl
    | true =>
      simp only [if_true, bind_some', Bool.true_and, Nat.zero_add, c_eq]
      by_cases hk : kraft ns = 32768
      · rw [if_pos (by omega), decide_eq_true hk]; rfl
      · rw [if_neg (by omega), decide_eq_false hk]
        by_cases hu : used ns = 1
        · rw [if_pos (by omega)]
          obtain ⟨e1, e2⟩ := lastU_one (a := 0) hu
          simp only [bind_some', Bool.false_or]
          have hl15 : lastU 0 ns ≤ 15 ∨ 15 < lastU 0 ns := by omega
          have : ((((lastU 0 ns : Nat) : Int)) == 1) = decide (used ns = 1 ∧ kraft ns = 16384) := by
            rw [Bool.eq_iff_iff, beq_iff_eq, decide_eq_true_eq]
            constructor
            · intro h1
              have h1 : lastU 0 ns = 1 := by omega
              exact ⟨hu, by rw [e1, h1]⟩
            · rintro ⟨_, h2⟩
              rw [h2] at e1
              have hlt : lastU 0 ns < 15 := by
                rcases Nat.lt_or_ge (lastU 0 ns) 15 with q | q
                · exact q
                · rw [show 15 - lastU 0 ns = 0 by omega] at e1; simp at e1
              have : (2 : Nat) ^ 14 = 2 ^ (15 - lastU 0 ns) := by rw [← e1]
              have hcases : lastU 0 ns = 1 ∨ 2 ≤ lastU 0 ns := by omega
              rcases hcases with q | q
              · omega
              · have : 2 ^ (15 - lastU 0 ns) < 2 ^ 14 := Nat.pow_lt_pow_right (by omega) (by omega)
                omega
          rw [this]
        · rw [if_neg (by omega)]
          have : decide (used ns = 1 ∧ kraft ns = 16384) = false := by simp [hu]
          rw [this]; rfl
  · rw [if_pos (by omega), decide_eq_false hn]; rfl
theorem idx_in' {i : Nat} : (decide ((0 : Int) ≤ (i : Int)) && true) = true := by simp
end Ev
end
section
set_option linter.unusedVariables false
set_option linter.unusedSimpArgs false
namespace Ev
open Go
def base (ns : List Nat) : Nat → Nat
  | 0 => 0
  | 1 => 0
  | l + 2 => 2 * (base ns (l + 1) + ns.count (l + 1))
def codeM (ns : List Nat) (i : Nat) : Nat := base ns (ns.getD i 0) + (ns.take i).count (ns.getD i 0)
def stage (ns : List Nat) (l i : Nat) : List Nat := (List.range ns.length).map fun j => if (1 ≤ ns.getD j 0 ∧ ns.getD j 0 < l) ∨ (1 ≤ l ∧ ns.getD j 0 = l ∧ j < i) then codeM ns j else 0
def codesM (ns : List Nat) : List Nat := stage ns 16 0
theorem base_le1 (ns : List Nat) : ∀ l, base ns (l + 1) + 2 * ns.length ≤ ns.length * 2 ^ (l + 1)
  | 0 => by simp [base]; omega
  | l + 1 => by
    have ih := base_le1 ns l
    have hc := List.count_le_length (a := l + 1) (l := ns)
    have h1 : ns.length * 2 ^ (l + 1 + 1) = 2 * (ns.length * 2 ^ (l + 1)) := by rw [Nat.pow_succ, ← Nat.mul_assoc, Nat.mul_comm]
    have e : base ns (l + 1 + 1) = 2 * (base ns (l + 1) + ns.count (l + 1)) := rfl
    omega
theorem base_small (ns : List Nat) (hn : ns.length ≤ 1000) (l : Nat) (hl : l ≤ 16) : base ns l ≤ 100000000 := by
  cases l with
  | zero => simp [base]
  | succ l =>
    have h := base_le1 ns l
    have hp : 2 ^ (l + 1) ≤ 2 ^ 16 := Nat.pow_le_pow_right (by omega) hl
    have : ns.length * 2 ^ (l + 1) ≤ 1000 * 2 ^ 16 := Nat.mul_le_mul hn hp
    omega
theorem stage_length (ns : List Nat) (l i : Nat) : (stage ns l i).length = ns.length := by simp [stage]
theorem stage_next (ns : List Nat) (l : Nat) (hl : 1 ≤ l) : stage ns l ns.length = stage ns (l + 1) 0 := by
  unfold stage
  apply List.map_congr_left
  intro j hj
  have hj := List.mem_range.1 hj
  by_cases h : (1 ≤ ns.getD j 0 ∧ ns.getD j 0 < l) ∨ (1 ≤ l ∧ ns.getD j 0 = l ∧ j < ns.length)
  · rw [if_pos h, if_pos (by omega)]
  · rw [if_neg h, if_neg (by omega)]
theorem stage_zero (ns : List Nat) : stage ns 1 0 = List.replicate ns.length 0 := by
  apply List.ext_getElem
  · simp [stage]
  · intro i h1 h2
    simp only [stage, List.getElem_map, List.getElem_range, List.getElem_replicate]
    rw [if_neg (by omega)]
theorem stage_set (ns : List Nat) (l i : Nat) (hl : 1 ≤ l) (hi : i < ns.length) : stage ns l (i + 1) = if ns.getD i 0 = l then (stage ns l i).set i (base ns l + (ns.take i).count l) else stage ns l i := by
  apply List.ext_getElem
  · split <;> simp [stage]
  · intro j h1 h2
    have hj : j < ns.length := by simpa [stage] using h1
    by_cases hc : ns.getD i 0 = l
    · simp only [if_pos hc, List.getElem_set]
      by_cases e : i = j
      · subst e
        rw [if_pos rfl]
        simp only [stage, List.getElem_map, List.getElem_range]
        rw [if_pos (by omega)]
        unfold codeM; rw [hc]
      · rw [if_neg e]
        simp only [stage, List.getElem_map, List.getElem_range]
        by_cases h : (1 ≤ ns.getD j 0 ∧ ns.getD j 0 < l) ∨ (1 ≤ l ∧ ns.getD j 0 = l ∧ j < i)
        · rw [if_pos h, if_pos (by omega)]
        · rw [if_neg h, if_neg (by omega)]
    · simp only [if_neg hc]
      simp only [stage, List.getElem_map, List.getElem_range]
      by_cases h : (1 ≤ ns.getD j 0 ∧ ns.getD j 0 < l) ∨ (1 ≤ l ∧ ns.getD j 0 = l ∧ j < i)
      · rw [if_pos h, if_pos (by omega)]
      · rw [if_neg h]
        by_cases e : j = i
        · subst e; rw [if_neg (by omega)]
        · rw [if_neg (by omega)]
theorem count_take_succ (ns : List Nat) (l i : Nat) (hi : i < ns.length) : (ns.take (i + 1)).count l = (ns.take i).count l + if ns.getD i 0 = l then 1 else 0 := by
  rw [List.take_succ_eq_append_getElem hi, List.count_append, getD_in hi]
  by_cases h : ns[i] = l <;> simp [h]
theorem codes_l0 (ns : List Nat) (hn : ns.length ≤ 1000) (l : Nat) (hl : 1 ≤ l) (hl15 : l ≤ 15) : ∀ (j i : Nat), i + j = ns.length →
    codes.l0 (j + 1) (zs ns, ((base ns l + (ns.take i).count l : Nat) : Int), (l : Int), zs ns, (ns.length : Int), (i : Int), zs (stage ns l i)) = some (zs ns, ((base ns l + ns.count l : Nat) : Int), (l : Int), zs (stage ns (l + 1) 0))
  | 0, i, hi => by
    have : i = ns.length := by omega
    subst this
    rw [codes.l0.succ]; simp only [codes.l0.step, zs_length]
    rw [idx_ge (by omega), List.take_length, stage_next ns l hl]; rfl
  | j + 1, i, hi => by
    have hlt : i < ns.length := by omega
    have ih := codes_l0 ns hn l hl hl15 j (i + 1) (by omega)
    have hb := base_small ns hn l (by omega)
    have hc := List.count_le_length (a := l) (l := ns.take i)
    rw [List.length_take] at hc
    rw [count_take_succ ns l i hlt, stage_set ns l i hl hlt] at ih
    rw [codes.l0.succ]; simp only [codes.l0.step, zs_length, stage_length]
    rw [idx_lt hlt, cond_true, need_true _ idx_in', Int.toNat_natCast, zs_getD]
    ((try simp (disch := omega) only [need_and, need_dec, need_decf, need_fits, need_ne, need_t, w64_id, tmod_e, tdiv_e, bind_some', Option.map_some, cond_true, cond_false, Int.sub_zero, Int.toNat_natCast]); (try simp only [c_dec, c_eq, c_ne, c_nodec, c_not, if_true, if_false]))
    by_cases h : ns.getD i 0 = l
    · rw [if_pos (by omega), need_true _ idx_in', show (i : Int) + 1 = ((i + 1 : Nat) : Int) by omega, show ((base ns l + (ns.take i).count l : Nat) : Int) + 1 = ((base ns l + ((ns.take i).count l + 1) : Nat) : Int) by omega, zs_set]
      rw [if_pos h, if_pos h] at ih
      rw [ih]
    · rw [if_neg (by omega), show (i : Int) + 1 = ((i + 1 : Nat) : Int) by omega]
      rw [if_neg h, if_neg h] at ih
      simp only [Nat.add_zero] at ih
      rw [ih]
theorem codes_l1 (ns : List Nat) (hn : ns.length ≤ 1000) : ∀ (j l : Nat), l + j = 16 → 1 ≤ l → codes.l1 (j + 1) (zs ns, ((base ns l : Nat) : Int), (l : Int), zs (stage ns l 0)) = some (zs (codesM ns))
  | 0, l, hl, h1 => by
    have : l = 16 := by omega
    subst this
    rw [codes.l1.succ]; simp only [codes.l1.step]
    rfl
  | j + 1, l, hl, h1 => by
    have ih := codes_l1 ns hn j (l + 1) (by omega) (by omega)
    have h0 := codes_l0 ns hn l h1 (by omega) ns.length 0 (by omega)
    have hb := base_small ns hn l (by omega)
    have hc := List.count_le_length (a := l) (l := ns)
    rw [List.take_zero, List.count_nil, show ((0 : Nat) : Int) = 0 from rfl] at h0
    simp only [Nat.add_zero] at h0
    rw [codes.l1.succ]; simp only [codes.l1.step, zs_length]
    ((try simp (disch := omega) only [need_and, need_dec, need_decf, need_fits, need_ne, need_t, w64_id, tmod_e, tdiv_e, bind_some', Option.map_some, cond_true, cond_false, Int.sub_zero, Int.toNat_natCast]); (try simp only [c_dec, c_eq, c_ne, c_nodec, c_not, if_true, if_false]))
    rw [if_pos (by omega), h0]
    simp only [bind_some']
    ((try simp (disch := omega) only [need_and, need_dec, need_decf, need_fits, need_ne, need_t, w64_id, tmod_e, tdiv_e, bind_some', Option.map_some, cond_true, cond_false, Int.sub_zero, Int.toNat_natCast]); (try simp only [c_dec, c_eq, c_ne, c_nodec, c_not, if_true, if_false]))
    have e : base ns (l + 1) = 2 * (base ns l + ns.count l) := by
      cases l with
      | zero => omega
      | succ l => rfl
    rw [show ((base ns l + ns.count l : Nat) : Int) * 2 = ((base ns (l + 1) : Nat) : Int) by rw [e]; omega, show (l : Int) + 1 = ((l + 1 : Nat) : Int) by omega, ih]
theorem codes_eq (ns : List Nat) (hn : ns.length ≤ 1000) : codes (zs ns) = some (zs (codesM ns)) := by
  unfold codes
  have h := codes_l1 ns hn 15 1 (by omega) (by omega)
  rw [stage_zero, ← zs_replicate] at h
  rw [zs_length, need_decf (by omega) (by rw [Int.toNat_natCast]; omega), Int.toNat_natCast]
  rw [show ((15 : Int) - 1).toNat + 2 = 15 + 1 from rfl]
  have e : ((base ns 1 : Nat) : Int) = 0 := rfl
  rw [e, show ((1 : Nat) : Int) = 1 from rfl, show ((0 : Nat) : Int) = 0 from rfl] at h
  rw [h]; rfl
def findB (ns : List Nat) (k c l : Nat) : Option Nat := (List.range k).find? fun i => decide (0 < ns.getD i 0) && (decide (ns.getD i 0 = l) && decide (codeM ns i = c))
theorem codeM_inj (ns : List Nat) {i j : Nat} (hi : i < ns.length) (hj : j < ns.length) (hl : ns.getD i 0 = ns.getD j 0) (hc : codeM ns i = codeM ns j) : i = j := by
  have key : ∀ {i j : Nat}, i < j → j < ns.length → ns.getD i 0 = ns.getD j 0 → codeM ns i < codeM ns j := fun {i j} hij hj hl => by
    unfold codeM
    rw [hl]
    have h1 := count_take_succ ns (ns.getD j 0) i (by omega)
    rw [if_pos hl] at h1
    have h2 : (ns.take (i + 1)).count (ns.getD j 0) ≤ (ns.take j).count (ns.getD j 0) := by
      have : ns.take (i + 1) = (ns.take j).take (i + 1) := by rw [List.take_take, Nat.min_eq_left (by omega)]
      rw [this]
      exact (List.take_sublist _ _).count_le _
    omega
  rcases Nat.lt_trichotomy i j with h | h | h
  · have := key h hj hl; omega
  · exact h
  · have := key h hi hl.symm; omega
theorem findB_some {ns : List Nat} {k c l i : Nat} (h : findB ns k c l = some i) : i < k ∧ 0 < ns.getD i 0 ∧ ns.getD i 0 = l ∧ codeM ns i = c := by
  unfold findB at h
  have h1 := List.find?_some h
  have h2 := List.mem_of_find?_eq_some h
  simp only [Bool.and_eq_true, decide_eq_true_eq] at h1
  exact ⟨List.mem_range.1 h2, h1⟩
theorem findB_of {ns : List Nat} {k i : Nat} (hk : k ≤ ns.length) (hi : i < k) (h0 : 0 < ns.getD i 0) : findB ns k (codeM ns i) (ns.getD i 0) = some i := by
  cases h : findB ns k (codeM ns i) (ns.getD i 0) with
  | none =>
    unfold findB at h
    have := List.find?_eq_none.1 h i (List.mem_range.2 hi)
    exact absurd (by simp only [Bool.and_eq_true, decide_eq_true_eq]; exact ⟨h0, trivial, trivial⟩) this
  | some j =>
    obtain ⟨h1, h2, h3, h4⟩ := findB_some h
    rw [codeM_inj ns (by omega) (by omega) h3 h4]
theorem findB_succ (ns : List Nat) (k c l : Nat) (hk : k < ns.length) : findB ns (k + 1) c l = if 0 < ns.getD k 0 ∧ ns.getD k 0 = l ∧ codeM ns k = c then some k else findB ns k c l := by
  by_cases h : 0 < ns.getD k 0 ∧ ns.getD k 0 = l ∧ codeM ns k = c
  · rw [if_pos h]
    obtain ⟨h1, rfl, rfl⟩ := h
    exact findB_of (by omega) (by omega) h1
  · rw [if_neg h]
    unfold findB
    rw [List.range_succ, List.find?_append]
    have : List.find? (fun i => decide (0 < ns.getD i 0) && (decide (ns.getD i 0 = l) && decide (codeM ns i = c))) [k] = none := by
      rw [List.find?_cons]
      have : (decide (0 < ns.getD k 0) && (decide (ns.getD k 0 = l) && decide (codeM ns k = c))) = false := by
        rw [Bool.eq_false_iff]; intro hh; simp only [Bool.and_eq_true, decide_eq_true_eq] at hh; exact h hh
      rw [this]; rfl
    rw [this]
    cases List.find? (fun i => decide (0 < ns.getD i 0) && (decide (ns.getD i 0 = l) && decide (codeM ns i = c))) (List.range k) <;> rfl
def BookP (ns : List Nat) (k : Nat) (es : List ((Int × Int) × Int)) : Prop := ∀ c l : Nat, mapGet [.int .i64, .int .i64] [.int .i64] es ((c : Int), (l : Int)) = (findB ns k c l).map fun (n : Nat) => (n : Int)
theorem mapGet_set (es : List ((Int × Int) × Int)) (k k' : Int × Int) (v : Int) : mapGet [.int .i64, .int .i64] [.int .i64] (mapSet [.int .i64, .int .i64] [.int .i64] es k v) k' = if k' = k then some v else mapGet [.int .i64, .int .i64] [.int .i64] es k' := by
  have eqb : ∀ a b : Int × Int, El.eqb [.int .i64, .int .i64] a b = decide (a = b) := fun a b => by
    rw [Bool.eq_iff_iff]
    simp only [El.eqb, Sc.eqb, Bool.and_true, Bool.and_eq_true, beq_iff_eq, decide_eq_true_eq]
    exact ⟨fun h => Prod.ext h.1 h.2, fun h => by rw [h]; exact ⟨rfl, rfl⟩⟩
  induction es with
  | nil =>
    simp only [mapSet, mapGet, eqb]
    by_cases h : k' = k <;> simp [h]
  | cons e r ih =>
    simp only [mapSet, eqb]
    by_cases h1 : k = e.1
    · rw [decide_eq_true h1, cond_true]
      simp only [mapGet, eqb]
      by_cases h : k' = k
      · simp [h]
      · have : ¬ k' = e.1 := fun x => h (x.trans h1.symm)
        simp [h, this]
    · rw [decide_eq_false h1, cond_false]
      simp only [mapGet, eqb]
      by_cases h : k' = e.1
      · have : ¬ k' = k := fun x => h1 (x.symm.trans h)
        rw [decide_eq_true h, cond_true, cond_true, if_neg this]
      · rw [decide_eq_false h, cond_false, cond_false]; exact ih
end Ev
end
section
set_option linter.unusedVariables false
set_option linter.unusedSimpArgs false
namespace Ev
open Go
theorem codesM_length (ns : List Nat) : (codesM ns).length = ns.length := stage_length ns 16 0
theorem codesM_get (ns : List Nat) (h15 : ∀ n ∈ ns, n ≤ 15) (i : Nat) (hi : i < ns.length) (h0 : 0 < ns.getD i 0) : (codesM ns).getD i 0 = codeM ns i := by
  have hm : ns.getD i 0 ≤ 15 := by rw [getD_in hi]; exact h15 _ (List.getElem_mem hi)
  rw [getD_in (by rw [codesM_length]; exact hi)]
  simp only [codesM, stage, List.getElem_map, List.getElem_range]
  rw [if_pos (by omega)]
theorem bookOf_l0 (ns : List Nat) (hn : ns.length ≤ 1000) (h15 : ∀ n ∈ ns, n ≤ 15) : ∀ (j i : Nat) (es : List ((Int × Int) × Int)), i + j = ns.length → BookP ns i es →
    Ret (bookOf.l0 (j + 1) (zs ns, (ns.length : Int), (i : Int), es, zs (codesM ns))) (BookP ns ns.length)
  | 0, i, es, hi, h => by
    have : i = ns.length := by omega
    subst this
    rw [bookOf.l0.succ]; simp only [bookOf.l0.step]
    rw [idx_ge (by omega)]; exact .pure h
  | j + 1, i, es, hi, h => by
    have hlt : i < ns.length := by omega
    have hm : ns.getD i 0 ≤ 15 := by rw [getD_in hlt]; exact h15 _ (List.getElem_mem hlt)
    rw [bookOf.l0.succ]; simp only [bookOf.l0.step, zs_length, codesM_length]
    rw [idx_lt hlt, cond_true, need_true _ idx_in', need_true _ idx_in', Int.toNat_natCast, zs_getD, zs_getD]
    ((try simp (disch := omega) only [need_and, need_dec, need_decf, need_fits, need_ne, need_t, w64_id, tmod_e, tdiv_e, bind_some', Option.map_some, cond_true, cond_false, Int.sub_zero, Int.toNat_natCast]); (try simp only [c_dec, c_eq, c_ne, c_nodec, c_not, if_true, if_false]))
    by_cases h0 : 0 < ns.getD i 0
    · rw [if_pos (by omega), need_true _ idx_in', show (i : Int) + 1 = ((i + 1 : Nat) : Int) by omega, codesM_get ns h15 i hlt h0]
      refine bookOf_l0 ns hn h15 j (i + 1) _ (by omega) fun c l => ?_
      rw [mapGet_set, h c l, findB_succ ns i c l hlt]
      by_cases hc : 0 < ns.getD i 0 ∧ ns.getD i 0 = l ∧ codeM ns i = c
      · rw [if_pos hc, if_pos (by obtain ⟨_, rfl, rfl⟩ := hc; rfl)]; rfl
      · rw [if_neg hc, if_neg (fun e => hc ⟨h0, by have e2 : (l : Int) = ((ns.getD i 0 : Nat) : Int) := (Prod.mk.inj e).2; omega, by have e1 : (c : Int) = ((codeM ns i : Nat) : Int) := (Prod.mk.inj e).1; omega⟩)]
    · rw [if_neg (by omega), show (i : Int) + 1 = ((i + 1 : Nat) : Int) by omega]
      refine bookOf_l0 ns hn h15 j (i + 1) _ (by omega) fun c l => ?_
      rw [h c l, findB_succ ns i c l hlt, if_neg (fun e => h0 e.1)]
theorem bookOf_ret (ns : List Nat) (hn : ns.length ≤ 1000) (h15 : ∀ n ∈ ns, n ≤ 15) : Ret (bookOf (zs ns)) (BookP ns ns.length) := by
  unfold bookOf
  rw [codes_eq ns hn]
  simp only [bind_some', zs_length, codesM_length]
  rw [fuel_of]
  refine .bind (bookOf_l0 ns hn h15 ns.length 0 [] (by omega) fun c l => ?_) fun a ha => .pure ha
  simp [mapGet, findB]
def symGo (ns : List Nat) : Nat → Nat → Nat → List Bool → Option (Nat × List Bool)
  | 0, _, _, _ => none
  | _ + 1, _, _, [] => none
  | f + 1, l, c, b :: r => match findB ns ns.length (2 * c + b.toNat) l with
    | some i => some (i, r)
    | none => symGo ns f (l + 1) (2 * c + b.toNat) r
def mSym (ns : List Nat) (m : Option (List Bool)) : Option (Nat × List Bool) := m.bind (symGo ns 15 1 0)
def SymPost (s : Str) (x : Option (Nat × List Bool)) (v at_ : Int) (bad : Bool) : Prop := match x with
  | some (i, l) => v = (i : Int) ∧ Rs s at_ bad (some l)
  | none => v = 0 ∧ Rs s at_ bad none
theorem rSymbol_l0 {s : Str} (hs : s.length ≤ 1000000000) (ns : List Nat) (book : List ((Int × Int) × Int)) (hB : BookP ns ns.length book) : ∀ (f l c : Nat) (at_ : Int) (bad : Bool) (m : Option (List Bool)), l + f = 16 → c < 2 ^ l → Rs s at_ bad m →
    Ret (rSymbol.l0 (f + 1) ((c : Int), (l : Int), s, at_, bad, book)) fun r => match m.bind (symGo ns f l c) with
      | some (i, l') => ∃ a, r = .inr ((i : Int), s, a, false, book) ∧ Rs s a false (some l')
      | none => ∃ a b, r = .inl (s, a, b, book) ∧ ∃ m', Rs s a b m'
  | 0, l, c, at_, bad, m, hf, hc, h => by
    rw [rSymbol.l0.succ]; simp only [rSymbol.l0.step]
    ((try simp (disch := omega) only [need_and, need_dec, need_decf, need_fits, need_ne, need_t, w64_id, tmod_e, tdiv_e, bind_some', Option.map_some, cond_true, cond_false, Int.sub_zero, Int.toNat_natCast]); (try simp only [c_dec, c_eq, c_ne, c_nodec, c_not, if_true, if_false]))
    rw [if_neg (by omega)]
    have : m.bind (symGo ns 0 l c) = none := by cases m <;> rfl
    rw [this]
    exact .pure ⟨at_, bad, rfl, _, h⟩
  | f + 1, l, c, at_, bad, m, hf, hc, h => by
    have hp : 2 ^ l ≤ 2 ^ 15 := Nat.pow_le_pow_right (by omega) (by omega)
    rw [rSymbol.l0.succ]; simp only [rSymbol.l0.step]
    ((try simp (disch := omega) only [need_and, need_dec, need_decf, need_fits, need_ne, need_t, w64_id, tmod_e, tdiv_e, bind_some', Option.map_some, cond_true, cond_false, Int.sub_zero, Int.toNat_natCast]); (try simp only [c_dec, c_eq, c_ne, c_nodec, c_not, if_true, if_false]))
    rw [if_pos (by omega)]
    refine .bind (rBit_st hs h) ?_
    rintro ⟨r, s', at', bad'⟩ ⟨rfl, b, rfl, h2, h3⟩
    dsimp only at h2 h3 ⊢
    have hb : b.toNat ≤ 1 := by cases b <;> decide
    ((try simp (disch := omega) only [need_and, need_dec, need_decf, need_fits, need_ne, need_t, w64_id, tmod_e, tdiv_e, bind_some', Option.map_some, cond_true, cond_false, Int.sub_zero, Int.toNat_natCast]); (try simp only [c_dec, c_eq, c_ne, c_nodec, c_not, if_true, if_false]))
    rw [show 2 * (c : Int) + ((b.toNat : Nat) : Int) = ((2 * c + b.toNat : Nat) : Int) by omega, show (l : Int) + 1 = ((l + 1 : Nat) : Int) by omega, hB _ _]
    have go : ∀ m2, Rs s' at' bad' m2 → Ret (rSymbol.l0 (f + 1) (((2 * c + b.toNat : Nat) : Int), ((l + 1 : Nat) : Int), s', at', bad', book)) fun r => match m2.bind (symGo ns f (l + 1) (2 * c + b.toNat)) with
      | some (i, l') => ∃ a, r = .inr ((i : Int), s', a, false, book) ∧ Rs s' a false (some l')
      | none => ∃ a b, r = .inl (s', a, b, book) ∧ ∃ m', Rs s' a b m' := fun m2 h4 => rSymbol_l0 hs ns book hB f (l + 1) _ at' bad' m2 (by omega) (by rw [Nat.pow_succ]; omega) h4
    -- where the reader has failed nothing is found
    have fail : Rs s' at' bad' none → m.bind (symGo ns (f + 1) l c) = none → Ret (((if ((findB ns ns.length (2 * c + b.toNat) l).map fun (n : Nat) => (n : Int)).isSome = true then some (!bad') else some false).bind fun c_1 =>
        bif c_1 then some (Sum.inr (((findB ns ns.length (2 * c + b.toNat) l).map fun (n : Nat) => (n : Int)).getD 0, s', at', bad', book)) else rSymbol.l0 (f + 1) (((2 * c + b.toNat : Nat) : Int), ((l + 1 : Nat) : Int), s', at', bad', book))) fun r => match m.bind (symGo ns (f + 1) l c) with
      | some (i, l') => ∃ a, r = .inr ((i : Int), s', a, false, book) ∧ Rs s' a false (some l')
      | none => ∃ a b, r = .inl (s', a, b, book) ∧ ∃ m', Rs s' a b m' := fun h4 e => by
      rw [e]
      have hbad : bad' = true := h4.1
      have e2 : (if ((findB ns ns.length (2 * c + b.toNat) l).map fun (n : Nat) => (n : Int)).isSome = true then some (!bad') else some false) = some false := by
        rw [hbad]; split <;> rfl
      rw [e2]
      simp only [bind_some', cond_false]
      exact go none h4
    have hform : ∀ (x : Option Int) (y z : Option (((Str × Int × Bool × List ((Int × Int) × Int)) ⊕ (Int × Str × Int × Bool × List ((Int × Int) × Int))))), ((bif x.isSome then some (!bad') else some false).bind fun c_1 => bif c_1 then y else z) = ((if x.isSome = true then some (!bad') else some false).bind fun c_1 => bif c_1 then y else z) := fun x y z => by cases x <;> rfl
    rw [hform]
    cases m with
    | none => exact fail h2 rfl
    | some lst =>
      cases lst with
      | nil => exact fail h2 rfl
      | cons b' l0 =>
        have hbb := h3 b' l0 rfl
        subst hbb
        have hbad : bad' = false := h2.1
        subst hbad
        simp only [Option.bind_some, symGo]
        cases hfi : findB ns ns.length (2 * c + b.toNat) l with
        | some i =>
          simp only [Option.map_some, Option.isSome_some, if_true, bind_some', Bool.not_false, cond_true, Option.getD_some]
          exact .pure ⟨at', rfl, h2⟩
        | none =>
          simp only [Option.map_none, Option.isSome_none, bind_some', cond_false, Bool.false_eq_true, if_false]
          exact go (some l0) h2
theorem rSymbol_st {s : Str} {at_ : Int} {bad : Bool} {m : Option (List Bool)} (hs : s.length ≤ 1000000000) (ns : List Nat) {book : List ((Int × Int) × Int)} (hB : BookP ns ns.length book) (h : Rs s at_ bad m) :
    Ret (rSymbol s at_ bad book) fun r => r.2.1 = s ∧ r.2.2.2.2 = book ∧ SymPost s (mSym ns m) r.1 r.2.2.1 r.2.2.2.1 := by
  unfold rSymbol
  have h0 := rSymbol_l0 hs ns book hB 15 1 0 at_ bad m (by omega) (by omega) h
  rw [show ((15 : Int) - 1).toNat + 2 = 15 + 1 from rfl]
  refine .bind h0 fun r hr => ?_
  unfold mSym
  cases hm : m.bind (symGo ns 15 1 0) with
  | none =>
    rw [hm] at hr
    obtain ⟨a, b, rfl, m', h'⟩ := hr
    exact .pure ⟨rfl, rfl, rfl, h'.fail⟩
  | some x =>
    obtain ⟨i, l'⟩ := x
    rw [hm] at hr
    obtain ⟨a, rfl, h'⟩ := hr
    exact .pure ⟨rfl, rfl, rfl, h'⟩
end Ev
end
section
set_option linter.unusedVariables false
set_option linter.unusedSimpArgs false
namespace Ev
open Go
def krU (L : Nat) : List Nat → Nat
  | [] => 0
  | n :: r => (if 0 < n ∧ n ≤ L then 2 ^ (15 - n) else 0) + krU L r
theorem krU_le (L : Nat) : ∀ ns, krU L ns ≤ kraft ns
  | [] => Nat.le_refl _
  | n :: r => by
    have := krU_le L r
    simp only [krU, kraft]
    by_cases h : 0 < n ∧ n ≤ L
    · rw [if_pos h, if_pos h.1]; omega
    · have := Nat.two_pow_pos (15 - n); rw [if_neg h]; split <;> omega
theorem krU_succ (L : Nat) : ∀ ns : List Nat, krU (L + 1) ns = krU L ns + ns.count (L + 1) * 2 ^ (15 - (L + 1))
  | [] => by simp [krU]
  | n :: r => by
    have ih := krU_succ L r
    simp only [krU, List.count_cons, ih]
    by_cases h : n = L + 1
    · subst h
      rw [if_pos (by omega), if_neg (by omega)]
      simp only [beq_self_eq_true, if_true, Nat.add_mul, Nat.one_mul]; omega
    · have hb : (n == L + 1) = false := by simp [h]
      rw [hb]
      simp only [Bool.false_eq_true, if_false, Nat.add_zero]
      by_cases h2 : 0 < n ∧ n ≤ L
      · rw [if_pos h2, if_pos (by omega)]; omega
      · rw [if_neg h2, if_neg (by omega)]; omega
theorem krU_zero : ∀ ns : List Nat, krU 0 ns = 0
  | [] => rfl
  | n :: r => by simp only [krU, krU_zero r]; rw [if_neg (by omega)]
theorem base_kr (ns : List Nat) : ∀ L, L + 1 ≤ 15 → (base ns (L + 1) + ns.count (L + 1)) * 2 ^ (15 - (L + 1)) = krU (L + 1) ns
  | 0, _ => by
    rw [krU_succ, krU_zero]; simp [base]
  | L + 1, h => by
    have ih := base_kr ns L (by omega)
    rw [krU_succ, ← ih]
    have e : base ns (L + 1 + 1) = 2 * (base ns (L + 1) + ns.count (L + 1)) := rfl
    rw [e, Nat.add_mul, Nat.mul_comm 2, Nat.mul_assoc]
    congr 2
    rw [show 15 - (L + 1) = (15 - (L + 1 + 1)) + 1 by omega, Nat.pow_succ, Nat.mul_comm]
theorem base_room (ns : List Nat) (hk : kraft ns ≤ 32768) (L : Nat) (h1 : 1 ≤ L) (h15 : L ≤ 15) : base ns L + ns.count L ≤ 2 ^ L := by
  obtain ⟨l, rfl⟩ : ∃ l, L = l + 1 := ⟨L - 1, by omega⟩
  have h := base_kr ns l h15
  have h2 := krU_le (l + 1) ns
  have : (base ns (l + 1) + ns.count (l + 1)) * 2 ^ (15 - (l + 1)) ≤ 2 ^ (l + 1) * 2 ^ (15 - (l + 1)) := by
    rw [h, ← Nat.pow_add, show l + 1 + (15 - (l + 1)) = 15 by omega]
    omega
  exact Nat.le_of_mul_le_mul_right this (Nat.two_pow_pos _)
theorem count_take_lt (ns : List Nat) (i : Nat) (hi : i < ns.length) : (ns.take i).count (ns.getD i 0) < ns.count (ns.getD i 0) := by
  have h := count_take_succ ns (ns.getD i 0) i hi
  rw [if_pos rfl] at h
  have : (ns.take (i + 1)).count (ns.getD i 0) ≤ ns.count (ns.getD i 0) := (List.take_sublist _ _).count_le _
  omega
theorem codeM_top (ns : List Nat) (i : Nat) (hi : i < ns.length) : codeM ns i < base ns (ns.getD i 0) + ns.count (ns.getD i 0) := by
  have := count_take_lt ns i hi
  unfold codeM; omega
theorem codeM_lt (ns : List Nat) (hk : kraft ns ≤ 32768) (h15 : ∀ n ∈ ns, n ≤ 15) (i : Nat) (hi : i < ns.length) (h0 : 0 < ns.getD i 0) : codeM ns i < 2 ^ (ns.getD i 0) := by
  have hm : ns.getD i 0 ≤ 15 := by rw [getD_in hi]; exact h15 _ (List.getElem_mem hi)
  have h1 := codeM_top ns i hi
  have h2 := base_room ns hk _ h0 hm
  omega
theorem base_up (ns : List Nat) (l : Nat) (h1 : 1 ≤ l) : ∀ d, (base ns l + ns.count l) * 2 ^ (d + 1) ≤ base ns (l + d + 1)
  | 0 => by
    obtain ⟨k, rfl⟩ : ∃ k, l = k + 1 := ⟨l - 1, by omega⟩
    have e : base ns (k + 1 + 0 + 1) = 2 * (base ns (k + 1) + ns.count (k + 1)) := rfl
    rw [e]; omega
  | d + 1 => by
    have ih := base_up ns l h1 d
    obtain ⟨k, rfl⟩ : ∃ k, l = k + 1 := ⟨l - 1, by omega⟩
    have e : base ns (k + 1 + (d + 1) + 1) = 2 * (base ns (k + 1 + d + 1) + ns.count (k + 1 + d + 1)) := by
      rw [show k + 1 + (d + 1) + 1 = (k + d + 1) + 2 by omega, show k + 1 + d + 1 = k + d + 1 + 1 by omega]; rfl
    rw [e, Nat.pow_succ, ← Nat.mul_assoc]; omega
theorem msb_drop (c L : Nat) : ∀ l, l < L → (msb c L).drop l = c.testBit (L - 1 - l) :: (msb c L).drop (l + 1) := fun l hl => by
  have hlen : (msb c L).length = L := by simp [msb, numB_length]
  rw [List.drop_eq_getElem_cons (by omega)]
  congr 1
  simp only [msb]
  rw [List.getElem_reverse]
  simp only [numB_length]
  exact numB_get c L _ (by omega)
theorem symGo_code (ns : List Nat) (hk : kraft ns ≤ 32768) (h15 : ∀ n ∈ ns, n ≤ 15) (i : Nat) (hi : i < ns.length) (h0 : 0 < ns.getD i 0) (rest : List Bool) : ∀ (d l : Nat), l + d = ns.getD i 0 → 1 ≤ l →
    symGo ns (16 - l) l (codeM ns i / 2 ^ (d + 1)) ((msb (codeM ns i) (ns.getD i 0)).drop (l - 1) ++ rest) = some (i, rest)
  | 0, l, hl, h1 => by
    have hm : ns.getD i 0 ≤ 15 := by rw [getD_in hi]; exact h15 _ (List.getElem_mem hi)
    have hL : l = ns.getD i 0 := by omega
    rw [msb_drop _ _ (l - 1) (by omega), show 16 - l = (15 - l) + 1 by omega]
    simp only [List.cons_append, symGo]
    have e : 2 * (codeM ns i / 2 ^ (0 + 1)) + (Nat.testBit (codeM ns i) (ns.getD i 0 - 1 - (l - 1))).toNat = codeM ns i := by
      rw [show ns.getD i 0 - 1 - (l - 1) = 0 by omega, ← testBit_nat]; simp; omega
    rw [e, hL, findB_of (Nat.le_refl _) hi h0]
    dsimp only
    rw [List.drop_eq_nil_of_le (by simp [msb, numB_length]; omega)]; rfl
  | d + 1, l, hl, h1 => by
    have hm : ns.getD i 0 ≤ 15 := by rw [getD_in hi]; exact h15 _ (List.getElem_mem hi)
    have ih := symGo_code ns hk h15 i hi h0 rest d (l + 1) (by omega) (by omega)
    rw [msb_drop _ _ (l - 1) (by omega), show 16 - l = (16 - (l + 1)) + 1 by omega]
    simp only [List.cons_append, symGo]
    have e : 2 * (codeM ns i / 2 ^ (d + 1 + 1)) + (Nat.testBit (codeM ns i) (ns.getD i 0 - 1 - (l - 1))).toNat = codeM ns i / 2 ^ (d + 1) := by
      rw [show ns.getD i 0 - 1 - (l - 1) = d + 1 by omega, ← testBit_nat, Nat.pow_succ 2 (d + 1), ← Nat.div_div_eq_div_mul]; omega
    rw [e]
    have hnone : findB ns ns.length (codeM ns i / 2 ^ (d + 1)) l = none := by
      cases hf : findB ns ns.length (codeM ns i / 2 ^ (d + 1)) l with
      | none => rfl
      | some j =>
        obtain ⟨hj, hj0, hjl, hjc⟩ := findB_some hf
        have t1 := codeM_top ns j hj
        rw [hjl, hjc] at t1
        have t2 := base_up ns l h1 d
        have t3 : base ns (l + d + 1) ≤ codeM ns i := by unfold codeM; rw [show ns.getD i 0 = l + d + 1 by omega]; omega
        have : (codeM ns i / 2 ^ (d + 1)) + 1 ≤ base ns l + ns.count l := t1
        have t4 := Nat.mul_le_mul_right (2 ^ (d + 1)) this
        have t5 := Nat.lt_mul_div_succ (codeM ns i) (Nat.two_pow_pos (d + 1))
        rw [Nat.mul_comm] at t5
        omega
    rw [hnone]
    dsimp only
    rw [show l - 1 + 1 = l + 1 - 1 by omega]
    exact ih
theorem mSym_code (ns : List Nat) (hk : kraft ns ≤ 32768) (h15 : ∀ n ∈ ns, n ≤ 15) (i : Nat) (hi : i < ns.length) (h0 : 0 < ns.getD i 0) (rest : List Bool) :
    mSym ns (some (msb (codeM ns i) (ns.getD i 0) ++ rest)) = some (i, rest) := by
  have h := symGo_code ns hk h15 i hi h0 rest (ns.getD i 0 - 1) 1 (by omega) (by omega)
  have hlt := codeM_lt ns hk h15 i hi h0
  rw [show ns.getD i 0 - 1 + 1 = ns.getD i 0 by omega, Nat.div_eq_of_lt hlt] at h
  simpa [mSym] using h
def symB (ns : List Nat) (i : Nat) : List Bool := msb ((codesM ns).getD i 0) (ns.getD i 0)
theorem symB_eq (ns : List Nat) (h15 : ∀ n ∈ ns, n ≤ 15) (i : Nat) (hi : i < ns.length) (h0 : 0 < ns.getD i 0) : symB ns i = msb (codeM ns i) (ns.getD i 0) := by
  unfold symB; rw [codesM_get ns h15 i hi h0]
theorem codesM_lt (ns : List Nat) (hk : kraft ns ≤ 32768) (h15 : ∀ n ∈ ns, n ≤ 15) (i : Nat) (hi : i < ns.length) : (codesM ns).getD i 0 < 2 ^ (ns.getD i 0) := by
  by_cases h0 : 0 < ns.getD i 0
  · rw [codesM_get ns h15 i hi h0]; exact codeM_lt ns hk h15 i hi h0
  · have e : (codesM ns).getD i 0 = 0 := by
      rw [getD_in (by rw [codesM_length]; exact hi)]
      simp only [codesM, stage, List.getElem_map, List.getElem_range]
      rw [if_neg (by omega)]
    rw [e]; exact Nat.two_pow_pos _
theorem wCode_eq (ns : List Nat) (hk : kraft ns ≤ 32768) (h15 : ∀ n ∈ ns, n ≤ 15) (i : Nat) (hi : i < ns.length) (l : List Bool) (hl : l.length ≤ 80000000) :
    wCode (zs ns) (zs (codesM ns)) (i : Int) (l.length : Int) (pack l) = some ((((l ++ symB ns i).length : Nat) : Int), pack (l ++ symB ns i)) := by
  have hm : ns.getD i 0 ≤ 15 := by rw [getD_in hi]; exact h15 _ (List.getElem_mem hi)
  have hlt := codesM_lt ns hk h15 i hi
  have hp : 2 ^ (ns.getD i 0) ≤ 2 ^ 15 := Nat.pow_le_pow_right (by omega) hm
  have ht := turn_lt ((codesM ns).getD i 0) (ns.getD i 0)
  unfold wCode
  rw [zs_length, zs_length, codesM_length, need_true _ (idx_in hi), need_true _ (idx_in hi), Int.toNat_natCast, zs_getD, zs_getD, bitsTurn_eq _ _ (by omega) hlt]
  simp only [bind_some']
  rw [need_true _ (idx_in hi), wPut_eq _ _ (by omega) (by omega) l (by omega), numB_turn]
  rfl
end Ev
end
section
set_option linter.unusedVariables false
set_option linter.unusedSimpArgs false
namespace Ev
open Go
def copyM (k : Nat) : Nat → List Int → List Int
  | 0, out => out
  | n + 1, out => copyM k n (out ++ [out.getD (out.length - k) 0])
def farM (out : List Int) (l k : Nat) : Option (List Int) := if l ≤ 60 ∧ k ≤ 250 ∧ k ≤ out.length then some (copyM k l out) else none
theorem copyM_length (k : Nat) : ∀ n out, (copyM k n out).length = out.length + n
  | 0, out => rfl
  | n + 1, out => by rw [copyM, copyM_length k n]; simp; omega
theorem add_l0 (b : Int) (l k : Nat) (hk : 1 ≤ k) (hl : l ≤ 1000) : ∀ (j i : Nat) (out : List Int), i + j = l → k ≤ out.length → out.length + j ≤ 1000000 →
    add.l0 (j + 1) ((l : Int), (i : Int), out, b, (l : Int), (k : Int)) = some (copyM k j out)
  | 0, i, out, hi, h1, h2 => by
    rw [add.l0.succ]; simp only [add.l0.step]
    rw [idx_ge (by omega)]; rfl
  | j + 1, i, out, hi, h1, h2 => by
    rw [add.l0.succ]; simp only [add.l0.step]
    rw [idx_lt (by omega), cond_true, w64_id (n := (out.length : Int) - k) (by omega) (by omega), show (out.length : Int) - k = ((out.length - k : Nat) : Int) by omega,
      need_true _ (idx_in (by omega)), Int.toNat_natCast, need_fits (by simp; omega), w64_id (by omega) (by omega), show (i : Int) + 1 = ((i + 1 : Nat) : Int) by omega,
      add_l0 b l k hk hl j (i + 1) _ (by omega) (by simp; omega) (by simp; omega)]
    rfl
theorem minA_nat (a b : Nat) : minA (a : Int) (b : Int) = ((min a b : Nat) : Int) := by
  unfold minA
  by_cases h : (b : Int) < (a : Int)
  · rw [if_pos h]; omega
  · rw [if_neg h]; omega
theorem add_far (l k : Nat) (out : List Int) (hl : 3 ≤ l) (hk : 1 ≤ k) (ho : out.length ≤ 100000) :
    add 0 (l : Int) (k : Int) out = some ((farM out l k).isSome, (farM out l k).getD []) := by
  unfold add farM
  rw [show (250 : Int) = ((250 : Nat) : Int) from rfl, minA_nat]
  simp only [within_eq', bind_some']
  rw [show (((l : Nat) : Int) == 0) = false by simp; omega, show ((0 : Int) != 0) = false from rfl]
  simp only [cond_false]
  by_cases h60 : l ≤ 60
  · rw [show decide ((3 : Int) ≤ (l : Int) ∧ (l : Int) ≤ 60) = true by simp; omega]
    simp only [Bool.not_true, cond_false, bind_some']
    by_cases hb : k ≤ 250 ∧ k ≤ out.length
    · rw [show decide ((1 : Int) ≤ (k : Int) ∧ (k : Int) ≤ ((min 250 out.length : Nat) : Int)) = true by simp; omega, if_pos ⟨h60, hb⟩]
      simp only [Bool.not_true, cond_false]
      rw [Int.sub_zero, Int.toNat_natCast]
      have := add_l0 0 l k hk (by omega) l 0 out (by omega) hb.2 (by omega)
      rw [show ((0 : Nat) : Int) = 0 from rfl] at this
      rw [this]; rfl
    · rw [show decide ((1 : Int) ≤ (k : Int) ∧ (k : Int) ≤ ((min 250 out.length : Nat) : Int)) = false by simp; omega, if_neg (fun e => hb e.2)]
      rfl
  · rw [show decide ((3 : Int) ≤ (l : Int) ∧ (l : Int) ≤ 60) = false by simp; omega, if_neg (fun e => h60 e.1)]
    rfl
inductive Tk where
  | lit (c : Nat)
  | far (l k : Nat)
def Tk.z : Tk → Int × Int × Int
  | .lit c => ((c : Int), 0, 0)
  | .far l k => (0, (l : Int), (k : Int))
def agM (s : Str) (a k : Nat) : Nat → Nat → Nat
  | 0, n => n
  | f + 1, n => if a + n < s.length ∧ n < 60 ∧ s.getD (a + n) 0 = s.getD (a + n - k) 0 then agM s a k f (n + 1) else n
def bestM (s : Str) (a : Nat) : Nat → Nat × Nat
  | 0 => (0, 0)
  | m + 1 => if (bestM s a m).1 < agM s a (m + 1) 60 0 then (agM s a (m + 1) 60 0, m + 1) else bestM s a m
def tokM (s : Str) (a : Nat) : Tk := if (bestM s a (min 250 a)).1 < 3 then .lit (s.getD a 0).toNat else .far (bestM s a (min 250 a)).1 (bestM s a (min 250 a)).2
def Tk.long : Tk → Nat
  | .lit _ => 1
  | .far l _ => l
def toksM (s : Str) : Nat → Nat → List Tk
  | 0, _ => []
  | f + 1, a => if a < s.length then tokM s a :: toksM s f (a + (tokM s a).long) else []
theorem agM_le (s : Str) (a k : Nat) : ∀ f n, n ≤ 60 → n ≤ agM s a k f n ∧ agM s a k f n ≤ 60
  | 0, n, h => ⟨Nat.le_refl _, h⟩
  | f + 1, n, h => by
    rw [agM]
    by_cases c : a + n < s.length ∧ n < 60 ∧ s.getD (a + n) 0 = s.getD (a + n - k) 0
    · rw [if_pos c]; have := agM_le s a k f (n + 1) (by omega); omega
    · rw [if_neg c]; omega
theorem agM_same (s : Str) (a k : Nat) : ∀ f n i, n ≤ i → i < agM s a k f n → a + i < s.length ∧ s.getD (a + i) 0 = s.getD (a + i - k) 0
  | 0, n, i, h1, h2 => by simp only [agM] at h2; omega
  | f + 1, n, i, h1, h2 => by
    rw [agM] at h2
    by_cases c : a + n < s.length ∧ n < 60 ∧ s.getD (a + n) 0 = s.getD (a + n - k) 0
    · rw [if_pos c] at h2
      by_cases e : i = n
      · subst e; exact ⟨c.1, c.2.2⟩
      · exact agM_same s a k f (n + 1) i (by omega) h2
    · rw [if_neg c] at h2; omega
theorem bestM_spec (s : Str) (a : Nat) : ∀ m, (bestM s a m).1 ≤ 60 ∧ (bestM s a m).2 ≤ m ∧ (0 < (bestM s a m).1 → 1 ≤ (bestM s a m).2 ∧ (bestM s a m).1 = agM s a (bestM s a m).2 60 0)
  | 0 => by simp [bestM]
  | m + 1 => by
    have ih := bestM_spec s a m
    have hl := agM_le s a (m + 1) 60 0 (by omega)
    rw [bestM]
    by_cases c : (bestM s a m).1 < agM s a (m + 1) 60 0
    · rw [if_pos c]; exact ⟨hl.2, Nat.le_refl _, fun _ => ⟨Nat.le_add_left _ _, rfl⟩⟩
    · rw [if_neg c]; exact ⟨ih.1, by omega, ih.2.2⟩
theorem u8_eq (x y : UInt8) : (((x.toNat : Int)) == ((y.toNat : Int))) = decide (x = y) := by
  by_cases h : x = y
  · subst h; simp
  · have : x.toNat ≠ y.toNat := fun e => h (UInt8.toNat_inj.1 e)
    rw [decide_eq_false h]; simp; omega
theorem again_test {α : Type} (s : Str) (hs : s.length ≤ 1000) (a k n : Nat) (ha : a ≤ 1000) (hk : k ≤ a) (hn : n < 60) (x y : Option α) :
    ((bif decide (w64 ((a : Int) + (n : Int)) < (s.length : Int)) then (need (decide (0 ≤ (w64 ((a : Int) + (n : Int)))) && decide ((w64 ((a : Int) + (n : Int))) < s.length)) (need (decide (0 ≤ (w64 ((w64 ((a : Int) + (n : Int))) - (k : Int)))) && decide ((w64 ((w64 ((a : Int) + (n : Int))) - (k : Int))) < s.length)) (some (((s.getD (w64 ((a : Int) + (n : Int))).toNat 0).toNat : Int) == ((s.getD (w64 ((w64 ((a : Int) + (n : Int))) - (k : Int))).toNat 0).toNat : Int))))) else
 (some false)).bind fun c => bif c then x else y) = if a + n < s.length ∧ n < 60 ∧ s.getD (a + n) 0 = s.getD (a + n - k) 0 then x else y := by
  have e1 : w64 ((a : Int) + (n : Int)) = ((a + n : Nat) : Int) := by rw [w64_id] <;> omega
  have e2 : w64 (((a + n : Nat) : Int) - (k : Int)) = ((a + n - k : Nat) : Int) := by rw [w64_id] <;> omega
  rw [e1, e2]
  by_cases h1 : a + n < s.length
  · rw [need_true _ (idx_in h1), need_true _ (idx_in (by omega)), decide_eq_true (show (((a + n : Nat) : Int) < (s.length : Int)) by omega), Int.toNat_natCast, Int.toNat_natCast, u8_eq, cond_true]
    simp only [bind_some', c_dec]
    by_cases h2 : s.getD (a + n) 0 = s.getD (a + n - k) 0
    · rw [if_pos h2, if_pos ⟨h1, hn, h2⟩]
    · rw [if_neg h2, if_neg (fun e => h2 e.2.2)]
  · rw [if_neg (fun e => h1 e.1), decide_eq_false (show ¬ (((a + n : Nat) : Int) < (s.length : Int)) by omega)]; rfl
theorem tokensOf_l0 (s : Str) (hs : s.length ≤ 1000) (a k : Nat) (ha : a ≤ 1000) (hk : k ≤ a) (out : List (Int × Int × Int)) (o3 o4 o5 : Int) : ∀ (j n : Nat), n + j = 60 →
    tokensOf.l0 (j + 1) (s, (a : Int), (k : Int), (n : Int), out, o3, o4, o5) = some (s, (a : Int), (k : Int), (agM s a k j n : Int), out, o3, o4, o5)
  | 0, n, h => by
    rw [tokensOf.l0.succ]; simp only [tokensOf.l0.step, agM]
    have hn : n = 60 := by omega
    subst hn
    rfl
  | j + 1, n, h => by
    rw [tokensOf.l0.succ]; simp only [tokensOf.l0.step]
    rw [agM, decide_eq_true (show ((n : Int) < 60) by omega), cond_true, again_test s hs a k n ha hk (by omega), w64_id (by omega) (by omega), show (n : Int) + 1 = ((n + 1 : Nat) : Int) by omega,
      tokensOf_l0 s hs a k ha hk out o3 o4 o5 j (n + 1) (by omega)]
    split <;> rfl
def bestZ (c : Int) (b : Nat × Nat) : Int × Int × Int := if b.1 < 3 then (c, 0, 0) else (0, (b.1 : Int), (b.2 : Int))
theorem bestZ_next (c : Int) (b : Nat × Nat) (n k : Nat) : (bestZ c (if b.1 < n then (n, k) else b)) = if 3 ≤ n ∧ (bestZ c b).2.1 < (n : Int) then (0, (n : Int), (k : Int)) else bestZ c b := by
  unfold bestZ
  by_cases h1 : b.1 < n <;> by_cases h2 : b.1 < 3 <;> by_cases h3 : n < 3 <;>
    simp only [h1, h2, h3, if_true, if_false] <;> (first | (exfalso; omega) | (rw [if_pos (by simp; omega)]) | (rw [if_neg (by simp; omega)]) | rfl)
theorem tokensOf_l1 (s : Str) (hs : s.length ≤ 1000) (a : Nat) (ha : a ≤ 1000) (out : List (Int × Int × Int)) (c : Int) : ∀ (j m : Nat), m + j = min 250 a → ∀ (b : Int × Int × Int), b = bestZ c (bestM s a m) →
    tokensOf.l1 (j + 1) (s, (a : Int), ((m + 1 : Nat) : Int), out, b) = some (s, (a : Int), out, bestZ c (bestM s a (min 250 a)))
  | 0, m, h, (b1, b2, b3), hb => by
    have hm : m = min 250 a := by omega
    subst hm
    rw [tokensOf.l1.succ]; simp only [tokensOf.l1.step]
    rw [show (250 : Int) = ((250 : Nat) : Int) from rfl, minA_nat, decide_eq_false (by omega), hb]; rfl
  | j + 1, m, h, (b1, b2, b3), hb => by
    rw [tokensOf.l1.succ]; simp only [tokensOf.l1.step]
    have h0 := tokensOf_l0 s hs a (m + 1) ha (by omega) out b1 b2 b3 60 0 (by omega)
    rw [show ((0 : Nat) : Int) = 0 from rfl] at h0
    rw [show (250 : Int) = ((250 : Nat) : Int) from rfl, minA_nat, decide_eq_true (by omega), cond_true, show ((60 : Int) - 0).toNat = 60 from rfl, h0]
    have ha2 := agM_le s a (m + 1) 60 0 (by omega)
    simp only [bind_some']
    rw [w64_id (by omega) (by omega), show ((m + 1 : Nat) : Int) + 1 = ((m + 1 + 1 : Nat) : Int) by omega]
    have hn := bestZ_next c (bestM s a m) (agM s a (m + 1) 60 0) (m + 1)
    have e : bestM s a (m + 1) = if (bestM s a m).1 < agM s a (m + 1) 60 0 then (agM s a (m + 1) 60 0, m + 1) else bestM s a m := rfl
    rw [← e, ← hb] at hn
    dsimp only at hn
    by_cases h3 : 3 ≤ agM s a (m + 1) 60 0
    · rw [show decide (((agM s a (m + 1) 60 0 : Nat) : Int) ≥ 3) = true by simp; omega]
      simp only [cond_true, bind_some', c_dec]
      by_cases h4 : b2 < ((agM s a (m + 1) 60 0 : Nat) : Int)
      · rw [if_pos ⟨h3, h4⟩] at hn
        rw [if_pos (show ((agM s a (m + 1) 60 0 : Nat) : Int) > b2 from h4)]
        exact tokensOf_l1 s hs a ha out c j (m + 1) (by omega) _ hn.symm
      · rw [if_neg (fun e => h4 e.2)] at hn
        rw [if_neg (show ¬ ((agM s a (m + 1) 60 0 : Nat) : Int) > b2 from h4)]
        exact tokensOf_l1 s hs a ha out c j (m + 1) (by omega) _ hn.symm
    · rw [show decide (((agM s a (m + 1) 60 0 : Nat) : Int) ≥ 3) = false by simp; omega]
      rw [if_neg (fun e => h3 e.1)] at hn
      simp only [cond_false, bind_some']
      exact tokensOf_l1 s hs a ha out c j (m + 1) (by omega) _ hn.symm
theorem bestZ_tok (s : Str) (a : Nat) : bestZ ((s.getD a 0).toNat : Int) (bestM s a (min 250 a)) = (tokM s a).z := by
  unfold bestZ tokM
  split <;> rfl
theorem maxA_one (x : Int) (h : 1 ≤ x) : maxA x 1 = x := by
  unfold maxA; split <;> omega
theorem tokM_long (s : Str) (a : Nat) : 1 ≤ (tokM s a).long ∧ (tokM s a).long ≤ 60 ∧ maxA (tokM s a).z.2.1 1 = ((tokM s a).long : Int) := by
  have h := bestM_spec s a (min 250 a)
  unfold tokM
  by_cases c : (bestM s a (min 250 a)).1 < 3
  · rw [if_pos c]; exact ⟨Nat.le_refl _, by simp [Tk.long], by simp [Tk.z, Tk.long, maxA]⟩
  · rw [if_neg c]
    exact ⟨by simp only [Tk.long]; omega, h.1, maxA_one _ (by simp only [Tk.z]; omega)⟩
theorem tokensOf_l2 (s : Str) (hs : s.length ≤ 300) : ∀ (j a : Nat), s.length ≤ a + j → a ≤ 600 → ∀ out : List (Int × Int × Int), out.length ≤ a →
    tokensOf.l2 (j + 1) (s, (a : Int), out) = some (out ++ (toksM s j a).map Tk.z)
  | 0, a, h, ha, out, ho => by
    rw [tokensOf.l2.succ]; simp only [tokensOf.l2.step]
    rw [idx_ge (by omega)]; simp [toksM]
  | j + 1, a, h, ha, out, ho => by
    rw [tokensOf.l2.succ]; simp only [tokensOf.l2.step]
    by_cases hlt : a < s.length
    · have h1 := tokensOf_l1 s (by omega) a (by omega) out ((s.getD a 0).toNat : Int) (min 250 a) 0 (by omega) (((s.getD a 0).toNat : Int), 0, 0) (by simp [bestZ, bestM])
      rw [show ((0 + 1 : Nat) : Int) = 1 from rfl] at h1
      have hb : (s.getD a 0).toNat < 256 := UInt8.toNat_lt _
      have hm : ((minA 250 (a : Int)) - 1).toNat + 2 = min 250 a + 1 ∨ (min 250 a = 0 ∧ ((minA 250 (a : Int)) - 1).toNat + 2 = 2) := by
        rw [show (250 : Int) = ((250 : Nat) : Int) from rfl, minA_nat]; omega
      rw [idx_lt hlt, cond_true, need_true _ idx_in', Int.toNat_natCast, w64_id (n := ((s.getD a 0).toNat : Int)) (by omega) (by omega)]
      have h1' : tokensOf.l1 (((minA 250 (a : Int)) - 1).toNat + 2) (s, (a : Int), 1, out, ((s.getD a 0).toNat : Int), 0, 0) = some (s, (a : Int), out, (tokM s a).z) := by
        rw [← bestZ_tok]
        rcases hm with e | ⟨e0, e⟩
        · rw [e]; exact h1
        · rw [e]
          have a0 : a = 0 := by omega
          subst a0
          rfl
      rw [h1']
      obtain ⟨t1, t2, t3⟩ := tokM_long s a
      rcases hz : (tokM s a).z with ⟨z1, z2, z3⟩
      rw [hz] at t3
      simp only [bind_some']
      dsimp only at t3
      rw [need_fits (by simp; omega), t3, w64_id (by omega) (by omega), show (a : Int) + ((tokM s a).long : Int) = ((a + (tokM s a).long : Nat) : Int) by omega,
        tokensOf_l2 s hs j (a + (tokM s a).long) (by omega) (by omega) _ (by simp; omega)]
      rw [toksM, if_pos hlt, List.map_cons, hz]; simp
    · rw [idx_ge (by omega), toksM, if_neg hlt]; simp
def toks (s : Str) : List Tk := toksM s s.length 0
theorem tokensOf_eq (s : Str) (hs : s.length ≤ 300) : tokensOf s = some ((toks s).map Tk.z) := by
  unfold tokensOf
  rw [decide_eq_false (by omega), cond_false, fuel_of]
  have h := tokensOf_l2 s hs s.length 0 (by omega) (by omega) [] (by simp)
  rw [show ((0 : Nat) : Int) = 0 from rfl] at h
  rw [h]; simp [toks]
end Ev
end
section
set_option linter.unusedVariables false
set_option linter.unusedSimpArgs false
namespace Ev
open Go
def ints (s : Str) : List Int := s.map fun c => (c.toNat : Int)
theorem ints_length (s : Str) : (ints s).length = s.length := by simp [ints]
theorem ints_getD (s : Str) (i : Nat) : (ints s).getD i 0 = ((s.getD i 0).toNat : Int) := by
  by_cases h : i < s.length
  · rw [getD_in (by rw [ints_length]; exact h), getD_in h]; simp [ints]
  · simp [ints, List.getD, Nat.le_of_not_lt h]
theorem ints_append (s t : Str) : ints (s ++ t) = ints s ++ ints t := by simp [ints]
theorem take_succ' {α : Type} (s : List α) (n : Nat) (d : α) (h : n < s.length) : s.take (n + 1) = s.take n ++ [s.getD n d] := by
  rw [List.take_succ_eq_append_getElem h, getD_in h]
theorem take_getD {α : Type} (s : List α) (n i : Nat) (d : α) (h : i < n) : (s.take n).getD i d = s.getD i d := by
  simp [List.getD, List.getElem?_take, h]
theorem copy_take (s : Str) (a l k : Nat) (hk : 1 ≤ k) (hka : k ≤ a) (h : ∀ i, i < l → a + i < s.length ∧ s.getD (a + i) 0 = s.getD (a + i - k) 0) : ∀ (j i : Nat), i + j = l →
    copyM k j (ints (s.take (a + i))) = ints (s.take (a + l))
  | 0, i, hi => by rw [show i = l by omega]; rfl
  | j + 1, i, hi => by
    obtain ⟨h1, h2⟩ := h i (by omega)
    rw [copyM, ints_length, List.length_take, Nat.min_eq_left (by omega), ints_getD, take_getD _ _ _ _ (by omega), ← h2]
    have e : ints (s.take (a + i)) ++ [((s.getD (a + i) 0).toNat : Int)] = ints (s.take (a + (i + 1))) := by
      rw [← Nat.add_assoc, take_succ' s (a + i) 0 h1, ints_append]; rfl
    rw [e]
    exact copy_take s a l k hk hka h j (i + 1) (by omega)
theorem tokM_lit {s : Str} {a c : Nat} (h : tokM s a = .lit c) : c = (s.getD a 0).toNat := by
  unfold tokM at h
  split at h
  · exact (Tk.lit.inj h).symm
  · cases h
theorem tokM_far {s : Str} {a l k : Nat} (h : tokM s a = .far l k) (ha : a ≤ s.length) : 3 ≤ l ∧ l ≤ 60 ∧ 1 ≤ k ∧ k ≤ 250 ∧ a + l ≤ s.length ∧ farM (ints (s.take a)) l k = some (ints (s.take (a + l))) := by
  have hb := bestM_spec s a (min 250 a)
  unfold tokM at h
  by_cases c : (bestM s a (min 250 a)).1 < 3
  · rw [if_pos c] at h; cases h
  · rw [if_neg c] at h
    obtain ⟨rfl, rfl⟩ := Tk.far.inj h
    obtain ⟨h1, h2, h3⟩ := hb
    obtain ⟨h4, h5⟩ := h3 (by omega)
    have hs : ∀ i, i < (bestM s a (min 250 a)).1 → a + i < s.length ∧ s.getD (a + i) 0 = s.getD (a + i - (bestM s a (min 250 a)).2) 0 := fun i hi =>
      agM_same s a (bestM s a (min 250 a)).2 60 0 i (Nat.zero_le _) (by rw [← h5]; exact hi)
    have hlast := (hs ((bestM s a (min 250 a)).1 - 1) (by omega)).1
    refine ⟨by omega, h1, h4, by omega, by omega, ?_⟩
    unfold farM
    rw [ints_length, List.length_take, Nat.min_eq_left ha, if_pos ⟨h1, by omega, by omega⟩]
    have := copy_take s a _ _ h4 (by omega) hs (bestM s a (min 250 a)).1 0 (by omega)
    rw [Nat.add_zero] at this
    rw [this]
def longB : List Nat := [0, 0, 0, 0, 0, 0, 0, 0, 1, 1, 1, 1, 2, 2, 2, 2, 3, 3, 3, 3, 4, 4, 4, 4, 5, 5, 5, 5]
def longF : List Nat := [3, 4, 5, 6, 7, 8, 9, 10, 11, 13, 15, 17, 19, 23, 27, 31, 35, 43, 51, 59, 67, 83, 99, 115, 131, 163, 195, 227]
def backB : List Nat := [0, 0, 0, 0, 1, 1, 2, 2, 3, 3, 4, 4, 5, 5, 6, 6, 7, 7, 8, 8, 9, 9, 10, 10, 11, 11, 12, 12, 13, 13]
def backF : List Nat := [1, 2, 3, 4, 5, 7, 9, 13, 17, 25, 33, 49, 65, 97, 129, 193, 257, 385, 513, 769, 1025, 1537, 2049, 3073, 4097, 6145, 8193, 12289, 16385, 24577]
theorem longsOf_eq : longsOf = some (zs longF, zs longB) := by kernel_rfl
theorem backsOf_eq : backsOf = some (zs backF, zs backB) := by kernel_rfl
def fixL : List Nat := List.replicate 144 8 ++ List.replicate 112 9 ++ List.replicate 24 7 ++ List.replicate 8 8
def fixD : List Nat := List.replicate 32 5
theorem fixedLens_eq : fixedLens = some (zs fixL, zs fixD) := by kernel_rfl
def symF (F : List Nat) (n : Nat) : Nat := (F.filter fun x => decide (x ≤ n)).length - 1
def chkL : Bool := (List.range 58).all fun i =>
  (ladFind (zs longF) (zs longB) ((i + 3 : Nat) : Int) == some ((symF longF (i + 3) : Nat) : Int)) && (l5Sym (zs longF) ((i + 3 : Nat) : Int) == some ((symF longF (i + 3) : Nat) : Int)) &&
  decide (symF longF (i + 3) < 28) && decide (longF.getD (symF longF (i + 3)) 0 ≤ i + 3) && decide (i + 3 - longF.getD (symF longF (i + 3)) 0 < 2 ^ longB.getD (symF longF (i + 3)) 0)
def chkD : Bool := (List.range 250).all fun i =>
  (ladFind (zs backF) (zs backB) ((i + 1 : Nat) : Int) == some ((symF backF (i + 1) : Nat) : Int)) && (l5Sym (zs backF) ((i + 1 : Nat) : Int) == some ((symF backF (i + 1) : Nat) : Int)) &&
  decide (symF backF (i + 1) < 30) && decide (backF.getD (symF backF (i + 1)) 0 ≤ i + 1) && decide (i + 1 - backF.getD (symF backF (i + 1)) 0 < 2 ^ backB.getD (symF backF (i + 1)) 0)
theorem chkL_ok : chkL = true := by kernel_rfl
theorem chkD_ok : chkD = true := by kernel_rfl
theorem sym_long (n : Nat) (h1 : 3 ≤ n) (h2 : n ≤ 60) : ladFind (zs longF) (zs longB) (n : Int) = some ((symF longF n : Nat) : Int) ∧ l5Sym (zs longF) (n : Int) = some ((symF longF n : Nat) : Int) ∧
    symF longF n < 28 ∧ longF.getD (symF longF n) 0 ≤ n ∧ n - longF.getD (symF longF n) 0 < 2 ^ longB.getD (symF longF n) 0 := by
  have h := List.all_eq_true.1 chkL_ok (n - 3) (List.mem_range.2 (by omega))
  rw [show n - 3 + 3 = n by omega] at h
  simp only [Bool.and_eq_true, beq_iff_eq, decide_eq_true_eq] at h
  exact ⟨h.1.1.1.1, h.1.1.1.2, h.1.1.2, h.1.2, h.2⟩
theorem sym_back (n : Nat) (h1 : 1 ≤ n) (h2 : n ≤ 250) : ladFind (zs backF) (zs backB) (n : Int) = some ((symF backF n : Nat) : Int) ∧ l5Sym (zs backF) (n : Int) = some ((symF backF n : Nat) : Int) ∧
    symF backF n < 30 ∧ backF.getD (symF backF n) 0 ≤ n ∧ n - backF.getD (symF backF n) 0 < 2 ^ backB.getD (symF backF n) 0 := by
  have h := List.all_eq_true.1 chkD_ok (n - 1) (List.mem_range.2 (by omega))
  rw [show n - 1 + 1 = n by omega] at h
  simp only [Bool.and_eq_true, beq_iff_eq, decide_eq_true_eq] at h
  exact ⟨h.1.1.1.1, h.1.1.1.2, h.1.1.2, h.1.2, h.2⟩
theorem longB_le (k : Nat) : longB.getD k 0 ≤ 5 := by
  by_cases h : k < 28
  · have : (List.range 28).all (fun k => decide (longB.getD k 0 ≤ 5)) = true := by decide
    simpa using List.all_eq_true.1 this k (List.mem_range.2 h)
  · simp [List.getD, show longB.length = 28 from rfl, Nat.le_of_not_lt h]
theorem backB_le (k : Nat) : backB.getD k 0 ≤ 13 := by
  by_cases h : k < 30
  · have : (List.range 30).all (fun k => decide (backB.getD k 0 ≤ 13)) = true := by decide
    simpa using List.all_eq_true.1 this k (List.mem_range.2 h)
  · simp [List.getD, show backB.length = 30 from rfl, Nat.le_of_not_lt h]
def Tk.Ok : Tk → Prop
  | .lit c => c < 256
  | .far l k => 3 ≤ l ∧ l ≤ 60 ∧ 1 ≤ k ∧ k ≤ 250
theorem toksM_ok (s : Str) : ∀ f a, a ≤ s.length → ∀ t ∈ toksM s f a, t.Ok
  | 0, a, ha, t, h => by simp [toksM] at h
  | f + 1, a, ha, t, h => by
    rw [toksM] at h
    by_cases hlt : a < s.length
    · rw [if_pos hlt] at h
      cases hk : tokM s a with
      | lit c =>
        rw [hk] at h
        rcases List.mem_cons.1 h with rfl | h
        · rw [tokM_lit hk]; exact UInt8.toNat_lt _
        · exact toksM_ok s f (a + 1) (by omega) t h
      | far l k =>
        have hf := tokM_far hk ha
        rw [hk] at h
        rcases List.mem_cons.1 h with rfl | h
        · exact ⟨hf.1, hf.2.1, hf.2.2.1, hf.2.2.2.1⟩
        · exact toksM_ok s f (a + l) (by omega) t h
    · rw [if_neg hlt] at h; simp at h
theorem toksM_length (s : Str) : ∀ f a, (toksM s f a).length ≤ f
  | 0, a => by simp [toksM]
  | f + 1, a => by
    rw [toksM]; split
    · have := toksM_length s f (a + (tokM s a).long); simp; omega
    · simp
def tokB (ls ds : List Nat) : Tk → List Bool
  | .lit c => symB ls c
  | .far l k => symB ls (257 + symF longF l) ++ (numB (l - longF.getD (symF longF l) 0) (longB.getD (symF longF l) 0) ++ (symB ds (symF backF k) ++ numB (k - backF.getD (symF backF k) 0) (backB.getD (symF backF k) 0)))
def toksB (ls ds : List Nat) : List Tk → List Bool
  | [] => symB ls 256
  | t :: r => tokB ls ds t ++ toksB ls ds r
def Tk.In (ls ds : List Nat) : Tk → Prop
  | .lit c => c < ls.length
  | .far l k => 257 + symF longF l < ls.length ∧ symF backF k < ds.length
theorem symB_length (ns : List Nat) (i : Nat) (hi : i < ns.length) (h15 : ∀ n ∈ ns, n ≤ 15) : (symB ns i).length ≤ 15 := by
  have hm : ns.getD i 0 ≤ 15 := by rw [getD_in hi]; exact h15 _ (List.getElem_mem hi)
  simp [symB, msb, numB_length]; exact hm
theorem tokB_length (ls ds : List Nat) (hl : ∀ n ∈ ls, n ≤ 15) (hd : ∀ n ∈ ds, n ≤ 15) (t : Tk) (h : t.In ls ds) : (tokB ls ds t).length ≤ 48 := by
  cases t with
  | lit c => have := symB_length ls c h hl; simp only [tokB]; omega
  | far l k =>
    have h1 := symB_length ls _ h.1 hl
    have h2 := symB_length ds _ h.2 hd
    have h3 := longB_le (symF longF l)
    have h4 := backB_le (symF backF k)
    simp only [tokB, List.length_append, numB_length]; omega
end Ev
end
section
set_option linter.unusedVariables false
set_option linter.unusedSimpArgs false
namespace Ev
open Go
theorem bind_go {α β : Type} (a : α) (f : α → Option β) : (some a).bind f = f a := Eq.trans rfl rfl
def bodyB (ls ds : List Nat) (ts : List Tk) : List Bool := ts.flatMap (tokB ls ds)
theorem toksB_body (ls ds : List Nat) : ∀ ts, toksB ls ds ts = bodyB ls ds ts ++ symB ls 256
  | [] => rfl
  | t :: r => by rw [toksB, toksB_body ls ds r]; simp [bodyB]
theorem zmap_get (ts : List Tk) (i : Nat) (h : i < ts.length) : (ts.map Tk.z).getD i (0, 0, 0) = (ts[i]).z := by
  rw [getD_in (by simpa using h)]; simp
theorem wTokens_l0 (ls ds : List Nat) (hkl : kraft ls ≤ 32768) (hkd : kraft ds ≤ 32768) (hl : ∀ n ∈ ls, n ≤ 15) (hd : ∀ n ∈ ds, n ≤ 15) (ts : List Tk) (hts : ∀ t ∈ ts, t.Ok ∧ t.In ls ds) (hn : ts.length ≤ 1000) :
    ∀ (j i : Nat) (l : List Bool), i + j = ts.length → l.length + 48 * j ≤ 70000000 →
    wTokens.l0 (j + 1) (zs ls, zs ds, ts.map Tk.z, (ts.length : Int), (i : Int), (l.length : Int), zs (codesM ls), zs (codesM ds), pack l) =
      some (zs ls, (((l ++ bodyB ls ds (ts.drop i)).length : Nat) : Int), zs (codesM ls), pack (l ++ bodyB ls ds (ts.drop i)))
  | 0, i, l, hi, hb => by
    rw [wTokens.l0.succ]; simp only [wTokens.l0.step]
    rw [idx_ge (by omega), List.drop_eq_nil_of_le (by omega)]; simp [bodyB]
  | j + 1, i, l, hi, hb => by
    have hlt : i < ts.length := by omega
    obtain ⟨hok, hin⟩ := hts ts[i] (List.getElem_mem hlt)
    have hdr : ts.drop i = ts[i] :: ts.drop (i + 1) := List.drop_eq_getElem_cons hlt
    have htl := tokB_length ls ds hl hd ts[i] hin
    have ih := wTokens_l0 ls ds hkl hkd hl hd ts hts hn j (i + 1) (l ++ tokB ls ds ts[i]) (by omega) (by simp; omega)
    have e : bodyB ls ds (ts.drop i) = tokB ls ds ts[i] ++ bodyB ls ds (ts.drop (i + 1)) := by rw [hdr]; rfl
    rw [e, ← List.append_assoc, ← ih]
    rw [wTokens.l0.succ]; simp only [wTokens.l0.step]
    rw [idx_lt hlt, cond_true, need_true _ (by rw [List.length_map]; exact idx_in hlt), Int.toNat_natCast, zmap_get ts i hlt, w64_id (n := (i : Int) + 1) (by omega) (by omega), show (i : Int) + 1 = ((i + 1 : Nat) : Int) by omega]
    cases hk : ts[i] with
    | lit c =>
      rw [hk] at hok hin
      have hc := wCode_eq ls hkl hl c hin l (by omega)
      simp only [Tk.z]
      rw [show ((0 : Int) == 0) = true from rfl, cond_true, hc]
      simp only [bind_go, tokB]
    | far n k =>
      rw [hk] at hok hin
      obtain ⟨o1, o2, o3, o4⟩ := hok
      obtain ⟨i1, i2⟩ := hin
      obtain ⟨a1, a2, a3, a4, a5⟩ := sym_long n o1 o2
      obtain ⟨b1, b2, b3, b4, b5⟩ := sym_back k o3 o4
      have hlb := longB_le (symF longF n)
      have hbb := backB_le (symF backF k)
      have hs1 := symB_length ls (257 + symF longF n) i1 hl
      have hs2 := symB_length ds (symF backF k) i2 hd
      have c1 := wCode_eq ls hkl hl _ i1 l (by omega)
      have c2 := wPut_eq (n - longF.getD (symF longF n) 0) (longB.getD (symF longF n) 0) (by omega) (by omega) (l ++ symB ls (257 + symF longF n)) (by simp only [List.length_append]; omega)
      have c3 := wCode_eq ds hkd hd _ i2 ((l ++ symB ls (257 + symF longF n)) ++ numB (n - longF.getD (symF longF n) 0) (longB.getD (symF longF n) 0)) (by simp only [List.length_append, numB_length]; omega)
      have c4 := wPut_eq (k - backF.getD (symF backF k) 0) (backB.getD (symF backF k) 0) (by omega) (by omega) (((l ++ symB ls (257 + symF longF n)) ++ numB (n - longF.getD (symF longF n) 0) (longB.getD (symF longF n) 0)) ++ symB ds (symF backF k)) (by simp only [List.length_append, numB_length]; omega)
      have eL := longsOf_eq
      have eB := backsOf_eq
      have gL := fun i : Nat => zs_getD longF i
      have gM := fun i : Nat => zs_getD longB i
      have gB := fun i : Nat => zs_getD backF i
      have gC := fun i : Nat => zs_getD backB i
      have nL : (zs longF).length = 28 := zs_length longF
      have nM : (zs longB).length = 28 := zs_length longB
      have nB : (zs backF).length = 30 := zs_length backF
      have nC : (zs backB).length = 30 := zs_length backB
      generalize zs longF = A at eL a1 a2 gL nL
      generalize zs longB = A' at eL a1 gM nM
      generalize zs backF = B at eB b1 b2 gB nB
      generalize zs backB = B' at eB b1 gC nC
      simp only [Tk.z]
      rw [show ((n : Int) == 0) = false by simp; omega, cond_false, eL, eB]
      simp only [bind_go]
      rw [a1]
      simp only [bind_go]
      rw [w64_id (n := 257 + ((symF longF n : Nat) : Int)) (by omega) (by omega), show (257 : Int) + ((symF longF n : Nat) : Int) = ((257 + symF longF n : Nat) : Int) by omega, c1]
      simp only [bind_go]
      rw [need_true _ (idx_in (by rw [nL]; exact a3)), need_true _ (idx_in (by rw [nM]; exact a3)), Int.toNat_natCast, gL, gM,
        w64_id (n := (n : Int) - ((longF.getD (symF longF n) 0 : Nat) : Int)) (by omega) (by omega), show (n : Int) - ((longF.getD (symF longF n) 0 : Nat) : Int) = ((n - longF.getD (symF longF n) 0 : Nat) : Int) by omega, c2]
      simp only [bind_go]
      rw [b1]
      simp only [bind_go]
      rw [c3]
      simp only [bind_go]
      rw [need_true _ (idx_in (by rw [nB]; exact b3)), need_true _ (idx_in (by rw [nC]; exact b3)), Int.toNat_natCast, gB, gC,
        w64_id (n := (k : Int) - ((backF.getD (symF backF k) 0 : Nat) : Int)) (by omega) (by omega), show (k : Int) - ((backF.getD (symF backF k) 0 : Nat) : Int) = ((k - backF.getD (symF backF k) 0 : Nat) : Int) by omega, c4]
      simp only [bind_go, tokB, List.append_assoc]
theorem wTokens_eq (ls ds : List Nat) (hkl : kraft ls ≤ 32768) (hkd : kraft ds ≤ 32768) (hl : ∀ n ∈ ls, n ≤ 15) (hd : ∀ n ∈ ds, n ≤ 15) (h1 : ls.length ≤ 300) (h2 : ds.length ≤ 300) (h256 : 256 < ls.length) (ts : List Tk) (hts : ∀ t ∈ ts, t.Ok ∧ t.In ls ds) (hn : ts.length ≤ 1000)
    (l : List Bool) (hb : l.length ≤ 60000000) : wTokens (ts.map Tk.z) (zs ls) (zs ds) (l.length : Int) (pack l) = some ((((l ++ toksB ls ds ts).length : Nat) : Int), pack (l ++ toksB ls ds ts)) := by
  unfold wTokens
  rw [codes_eq ls (by omega), codes_eq ds (by omega)]
  simp only [bind_some', List.length_map]
  rw [fuel_of]
  have h := wTokens_l0 ls ds hkl hkd hl hd ts hts hn ts.length 0 l (by omega) (by omega)
  rw [show ((0 : Nat) : Int) = 0 from rfl] at h
  rw [h, List.drop_zero]
  simp only [bind_some']
  have hbl : (bodyB ls ds ts).length ≤ 48 * ts.length := by
    clear h hn hb
    induction ts with
    | nil => simp [bodyB]
    | cons t r ih =>
      have := ih (fun t h => hts t (List.mem_cons_of_mem _ h))
      have ht := tokB_length ls ds hl hd t (hts t (List.mem_cons_self ..)).2
      simp only [bodyB, List.flatMap_cons, List.length_append, List.length_cons] at this ⊢; omega
  have hc := wCode_eq ls hkl hl 256 h256 (l ++ bodyB ls ds ts) (by simp; omega)
  rw [show ((256 : Nat) : Int) = 256 from rfl] at hc
  rw [hc, toksB_body]
  simp only [bind_some', List.append_assoc]
end Ev
end
section
set_option linter.unusedVariables false
set_option linter.unusedSimpArgs false
namespace Ev
open Go
def textB (l : List Bool) : Str := toBytes (pack l)
theorem textB_length (l : List Bool) : (textB l).length = (l.length + 7) / 8 := by simp [textB, toBytes, pack_length]
theorem pack_cons8 (l : List Bool) (h : 8 ≤ l.length) : pack l = ((valB (l.take 8) : Nat) : Int) :: pack (l.drop 8) := by
  unfold pack
  rw [show (l.length + 7) / 8 = ((l.drop 8).length + 7) / 8 + 1 by rw [List.length_drop]; omega, List.range_succ_eq_map, List.map_cons, List.map_map]
  congr 1
  apply List.map_congr_left
  intro i _
  simp only [Function.comp, List.drop_drop]
  rw [show 8 * (i + 1) = 8 + 8 * i by omega]
theorem byte_valB (l : List Bool) (h : l.length = 8) : numB (UInt8.ofNat ((valB l : Nat) : Int).toNat).toNat 8 = l := by
  have hv := valB_lt l
  rw [h] at hv
  rw [Int.toNat_natCast, UInt8.toNat_ofNat_of_lt' (by omega)]
  have := numB_valB l
  rwa [h] at this
theorem bitsOf_textB8 : ∀ (k : Nat) (l : List Bool), l.length = 8 * k → bitsOf (textB l) = l
  | 0, l, h => by
    have : l = [] := List.length_eq_zero_iff.1 (by omega)
    subst this; rfl
  | k + 1, l, h => by
    have e : textB l = UInt8.ofNat ((valB (l.take 8) : Nat) : Int).toNat :: textB (l.drop 8) := by unfold textB; rw [pack_cons8 l (by omega)]; rfl
    rw [e, bitsOf, byte_valB _ (by rw [List.length_take]; omega), bitsOf_textB8 k _ (by rw [List.length_drop]; omega), List.take_append_drop]
theorem bitsOf_textB (l : List Bool) : bitsOf (textB l) = fillB l := by
  have : textB l = textB (fillB l) := by unfold textB; rw [(pack_fill l).2]
  rw [this]
  exact bitsOf_textB8 _ _ (fillB_length l)
def hdr8 : List Bool := [true, false, false, false, false, false, false, false]
def storeB (n : Nat) : List Bool := hdr8 ++ numB n 16 ++ numB (65535 - n) 16
def storeT (s : Str) : Str := textB (storeB s.length) ++ s
theorem storePut_eq (s : Str) (hs : s.length ≤ 300) : storePut s = some (storeT s) := by
  have e1 : wPut 1 3 0 [] = some (3, [1]) := by kernel_rfl
  have e2 : wEven 3 [1] = some (8, pack hdr8) := by kernel_rfl
  have e3 := wPut_eq s.length 16 (by omega) (by omega) hdr8 (by simp [hdr8])
  have e4 := wPut_eq (65535 - s.length) 16 (by omega) (by omega) (hdr8 ++ numB s.length 16) (by simp [hdr8, numB_length])
  rw [show (hdr8.length : Int) = 8 from rfl, show ((16 : Nat) : Int) = 16 from rfl] at e3
  rw [show ((16 : Nat) : Int) = 16 from rfl] at e4
  unfold storePut
  rw [decide_eq_false (by omega), cond_false, e1]
  simp only [bind_go]
  rw [e2]
  simp only [bind_go]
  rw [e3]
  simp only [bind_go]
  rw [w64_id (by omega) (by omega), show (65535 : Int) - (s.length : Int) = ((65535 - s.length : Nat) : Int) by omega, e4]
  simp only [bind_go]
  rw [need_fits]
  · rfl
  · have := textB_length (storeB s.length)
    unfold textB storeB at this
    rw [this]; simp [hdr8, numB_length]; omega
theorem storeT_length (s : Str) : (storeT s).length = 5 + s.length := by
  simp only [storeT, List.length_append, textB_length]
  simp [storeB, hdr8, numB_length]
theorem fixL_kraft : kraft fixL = 32768 := by kernel_rfl
theorem fixD_kraft : kraft fixD = 32768 := by kernel_rfl
theorem fixL_le : ∀ n ∈ fixL, n ≤ 15 := by
  intro n hn
  simp only [fixL, List.mem_append, List.mem_replicate] at hn
  omega
theorem fixD_le : ∀ n ∈ fixD, n ≤ 15 := by
  intro n hn
  simp only [fixD, List.mem_replicate] at hn
  omega
theorem fixL_length : fixL.length = 288 := by kernel_rfl
theorem fixD_length : fixD.length = 32 := by kernel_rfl
theorem fix_in (t : Tk) (h : t.Ok) : t.In fixL fixD := by
  cases t with
  | lit c => show c < fixL.length; rw [fixL_length]; have : c < 256 := h; omega
  | far l k =>
    obtain ⟨h1, h2, h3, h4⟩ := h
    have a := (sym_long l h1 h2).2.2.1
    have b := (sym_back k h3 h4).2.2.1
    show 257 + symF longF l < fixL.length ∧ symF backF k < fixD.length
    rw [fixL_length, fixD_length]; omega
theorem toks_ok (s : Str) : ∀ t ∈ toks s, t.Ok := toksM_ok s _ 0 (Nat.zero_le _)
theorem toks_length (s : Str) : (toks s).length ≤ s.length := toksM_length s _ 0
def fixedB (s : Str) : List Bool := numB 1 1 ++ numB 1 2 ++ toksB fixL fixD (toks s)
def fixedT (s : Str) : Str := textB (fixedB s)
theorem fixedPut_eq (s : Str) (hs : s.length ≤ 300) : fixedPut s = some (fixedT s) := by
  have hl := toks_length s
  have e1 := wPut_eq 1 1 (by omega) (by omega) [] (by simp)
  have e2 := wPut_eq 1 2 (by omega) (by omega) ([] ++ numB 1 1) (by simp [numB_length])
  have e3 := wTokens_eq fixL fixD (by rw [fixL_kraft]; omega) (by rw [fixD_kraft]; omega) fixL_le fixD_le (by rw [fixL_length]; omega) (by rw [fixD_length]; omega) (by rw [fixL_length]; omega) (toks s) (fun t h => ⟨toks_ok s t h, fix_in t (toks_ok s t h)⟩) (by omega) ([] ++ numB 1 1 ++ numB 1 2) (by simp [numB_length])
  rw [show ((1 : Nat) : Int) = 1 from rfl, show (([] : List Bool).length : Int) = 0 from rfl, show pack [] = [] by kernel_rfl] at e1
  rw [show ((1 : Nat) : Int) = 1 from rfl, show ((2 : Nat) : Int) = 2 from rfl] at e2
  unfold fixedPut
  rw [decide_eq_false (by omega), cond_false, e1]
  simp only [bind_go]
  rw [e2]
  simp only [bind_go]
  rw [fixedLens_eq, tokensOf_eq s hs]
  simp only [bind_go]
  rw [e3]
  rfl
end Ev
end
section
set_option linter.unusedVariables false
set_option linter.unusedSimpArgs false
namespace Ev
open Go
abbrev HT := Nat × Nat × List Nat
def bump (out : List Nat) (S : List Nat) : List Nat := (List.range out.length).map fun i => out.getD i 0 + S.count i
theorem bump_length (out S : List Nat) : (bump out S).length = out.length := by simp [bump]
theorem bump_getD (out S : List Nat) (i : Nat) (h : i < out.length) : (bump out S).getD i 0 = out.getD i 0 + S.count i := by
  rw [getD_in (by rw [bump_length]; exact h)]
  simp [bump]
theorem bump_perm (out : List Nat) {S S' : List Nat} (h : S.Perm S') : bump out S = bump out S' := by
  unfold bump
  exact List.map_congr_left fun i _ => by rw [h.count_eq]
theorem bump_nil (out : List Nat) : bump out [] = out := by
  apply List.ext_getElem
  · exact bump_length _ _
  · intro i h1 h2
    have := bump_getD out [] i h2
    rw [getD_in h1, getD_in h2] at this
    simpa using this
theorem bump_snoc (out S : List Nat) (s : Nat) (h : s < out.length) : bump out (S ++ [s]) = (bump out S).set s ((bump out S).getD s 0 + 1) := by
  apply List.ext_getElem
  · simp [bump_length]
  · intro i h1 h2
    rw [bump_length] at h1
    have e1 := bump_getD out (S ++ [s]) i h1
    have e2 := bump_getD out S i h1
    rw [getD_in (by rw [bump_length]; exact h1)] at e1 e2
    have e3 := bump_getD out S s h
    rw [e1, List.getElem_set, e2, List.count_append]
    by_cases c : s = i
    · subst c; rw [if_pos rfl, e3]; simp; omega
    · rw [if_neg c]; simp [List.count_cons, c]
def sumB (out : List Nat) (S : List Nat) : Nat := (S.map fun s => 2 ^ (15 - out.getD s 0)).sum
def fibN : Nat → Nat
  | 0 => 0
  | 1 => 1
  | n + 2 => fibN n + fibN (n + 1)
theorem fibN_up (n : Nat) : fibN n ≤ fibN (n + 1) := by
  cases n with
  | zero => decide
  | succ n => show fibN (n + 1) ≤ fibN n + fibN (n + 1); omega
theorem fibN_mono {a b : Nat} (h : a ≤ b) : fibN a ≤ fibN b := by
  induction h with
  | refl => exact Nat.le_refl _
  | step _ ih => exact Nat.le_trans ih (fibN_up _)
theorem fibN_pos (n : Nat) : 1 ≤ fibN (n + 1) := fibN_mono (a := 1) (by omega)
theorem fibN_deep {d c : Nat} (h : fibN (d + 2) ≤ c) (hc : c ≤ 400) : d ≤ 12 := by
  rcases Nat.lt_or_ge 12 d with h13 | h13
  · have : fibN 15 ≤ fibN (d + 2) := fibN_mono (by omega)
    have : fibN 15 = 610 := by decide
    omega
  · exact h13
structure TOk (out : List Nat) (T : Nat) (e : HT) : Prop where
  fin : e.2.1 ∈ e.2.2
  fle : ∀ s ∈ e.2.2, e.2.1 ≤ s
  lt : ∀ s ∈ e.2.2, s < out.length
  kr : sumB out e.2.2 = 32768
  dep : ∃ d, (∀ s ∈ e.2.2, out.getD s 0 ≤ d) ∧ fibN (d + 2) ≤ e.1 ∧ (1 ≤ d → fibN (d + 1) ≤ T)
  top : T ≤ e.1
structure HInv (out : List Nat) (l : List HT) (T : Nat) (U : List Nat) (tot : Nat) : Prop where
  all : ∀ e ∈ l, TOk out T e
  perm : (l.flatMap fun e => e.2.2).Perm U
  sum : (l.map fun e => e.1).sum = tot
theorem sum_perm {α : Type} {l l' : List α} (f : α → Nat) (h : l.Perm l') : (l.map f).sum = (l'.map f).sum := by
  induction h with
  | nil => rfl
  | cons x _ ih => simp [ih]
  | swap x y l => simp only [List.map_cons, List.sum_cons]; omega
  | trans _ _ a b => exact a.trans b
theorem flat_perm {α β : Type} {l l' : List α} (f : α → List β) (h : l.Perm l') : (l.flatMap f).Perm (l'.flatMap f) := by
  induction h with
  | nil => exact .refl _
  | cons x _ ih => simpa using List.Perm.append_left _ ih
  | swap x y l =>
    simp only [List.flatMap_cons, ← List.append_assoc]
    exact List.Perm.append_right _ List.perm_append_comm
  | trans _ _ a b => exact a.trans b
theorem HInv.of_perm {out : List Nat} {l l' : List HT} {T : Nat} {U : List Nat} {tot : Nat} (h : HInv out l T U tot) (p : l.Perm l') : HInv out l' T U tot :=
  ⟨fun e he => h.all e (p.mem_iff.2 he), (flat_perm _ p).symm.trans h.perm, (sum_perm _ p).symm.trans h.sum⟩
theorem sumB_half (out S : List Nat) (h : ∀ s ∈ S, s < out.length ∧ out.getD s 0 ≤ 14) (out' : List Nat) (h' : ∀ s ∈ S, out'.getD s 0 = out.getD s 0 + 1) : 2 * sumB out' S = sumB out S := by
  induction S with
  | nil => rfl
  | cons s S ih =>
    have := ih (fun x hx => h x (List.mem_cons_of_mem _ hx)) (fun x hx => h' x (List.mem_cons_of_mem _ hx))
    have h1 := h s (List.mem_cons_self ..)
    have h2 := h' s (List.mem_cons_self ..)
    simp only [sumB, List.map_cons, List.sum_cons] at this ⊢
    rw [h2, Nat.mul_add, this]
    congr 1
    rw [show 15 - out.getD s 0 = (15 - (out.getD s 0 + 1)) + 1 by omega, Nat.pow_succ, Nat.mul_comm]
theorem sumB_same (out out' S : List Nat) (h' : ∀ s ∈ S, out'.getD s 0 = out.getD s 0) : sumB out' S = sumB out S := by
  unfold sumB
  congr 1
  exact List.map_congr_left fun s hs => by rw [h' s hs]
theorem sumB_append (out a b : List Nat) : sumB out (a ++ b) = sumB out a + sumB out b := by simp [sumB]
def joinT (a b : HT) : HT := (a.1 + b.1, (if b.2.1 < a.2.1 then b.2.1 else a.2.1), a.2.2 ++ b.2.2)
theorem HInv.step {out : List Nat} {a b : HT} {r : List HT} {T : Nat} {U : List Nat} {tot : Nat} (h : HInv out (a :: b :: r) T U tot) (hU : U.Nodup) (htot : tot ≤ 400) (hab : a.1 ≤ b.1) (hr : ∀ e ∈ r, b.1 ≤ e.1) :
    HInv (bump out (a.2.2 ++ b.2.2)) (joinT a b :: r) b.1 U tot := by
  have ha := h.all a (by simp)
  have hb := h.all b (by simp)
  have hsum := h.sum
  simp only [List.map_cons, List.sum_cons] at hsum
  have hp := h.perm
  simp only [List.flatMap_cons] at hp
  have hnd := (hp.nodup_iff).2 hU
  rw [← List.append_assoc] at hnd
  obtain ⟨da, a1, a2, a3⟩ := ha.dep
  obtain ⟨db, b1, b2, b3⟩ := hb.dep
  have hda := fibN_deep a2 (by omega)
  have hdb := fibN_deep b2 (by omega)
  have hlt : ∀ s ∈ a.2.2 ++ b.2.2, s < out.length := fun s hs => (List.mem_append.1 hs).elim (ha.lt s) (hb.lt s)
  have hone : ∀ s ∈ a.2.2 ++ b.2.2, (bump out (a.2.2 ++ b.2.2)).getD s 0 = out.getD s 0 + 1 := fun s hs => by
    rw [bump_getD out _ s (hlt s hs)]
    have := (List.nodup_append.1 hnd).1
    rw [this.count, if_pos hs]
  have hother : ∀ e ∈ r, ∀ s ∈ e.2.2, (bump out (a.2.2 ++ b.2.2)).getD s 0 = out.getD s 0 := fun e he s hs => by
    rw [bump_getD out _ s ((h.all e (by simp [he])).lt s hs), List.count_eq_zero.2 (fun hm => (List.nodup_append.1 hnd).2.2 s hm s (List.mem_flatMap.2 ⟨e, he, hs⟩) rfl)]; rfl
  refine ⟨fun e he => ?_, ?_, ?_⟩
  · rcases List.mem_cons.1 he with rfl | he
    · have pa := fibN_pos (da + 1)
      have pb := fibN_pos (db + 1)
      refine ⟨?_, fun s hs => ?_, fun s hs => by rw [bump_length]; exact hlt s hs, ?_, ⟨max da db + 1, fun s hs => ?_, ?_, fun _ => ?_⟩, Nat.le_add_left _ _⟩
      · show (if b.2.1 < a.2.1 then b.2.1 else a.2.1) ∈ a.2.2 ++ b.2.2
        split
        · exact List.mem_append_right _ hb.fin
        · exact List.mem_append_left _ ha.fin
      · show (if b.2.1 < a.2.1 then b.2.1 else a.2.1) ≤ s
        rcases List.mem_append.1 hs with hs | hs
        · have := ha.fle s hs; split <;> omega
        · have := hb.fle s hs; split <;> omega
      · have h2 := sumB_half out (a.2.2 ++ b.2.2) (fun s hs => ⟨hlt s hs, by
          rcases List.mem_append.1 hs with hs | hs
          · have := a1 s hs; omega
          · have := b1 s hs; omega⟩) _ hone
        rw [sumB_append out, ha.kr, hb.kr] at h2
        show sumB _ (a.2.2 ++ b.2.2) = 32768
        omega
      · rw [hone s hs]
        rcases List.mem_append.1 hs with hs | hs
        · have := a1 s hs; omega
        · have := b1 s hs; omega
      · show fibN (max da db + 1 + 2) ≤ a.1 + b.1
        have e : fibN (max da db + 1 + 2) = fibN (max da db + 1) + fibN (max da db + 2) := rfl
        rw [e]
        rcases Nat.le_total db da with hd | hd
        · rw [Nat.max_eq_left hd]
          have : fibN (da + 1) ≤ b.1 := by
            rcases Nat.eq_zero_or_pos da with h0 | h0
            · subst h0; exact Nat.le_trans (fibN_pos 0 |> fun _ => (by simpa [fibN] using pb)) b2
            · exact Nat.le_trans (a3 h0) hb.top
          omega
        · rw [Nat.max_eq_right hd]
          have : fibN (db + 1) ≤ a.1 := by
            rcases Nat.eq_zero_or_pos db with h0 | h0
            · subst h0; exact Nat.le_trans (by simpa [fibN] using pa) a2
            · exact Nat.le_trans (b3 h0) ha.top
          omega
      · show fibN (max da db + 1 + 1) ≤ b.1
        rcases Nat.le_total db da with hd | hd
        · rw [Nat.max_eq_left hd]; exact Nat.le_trans a2 hab
        · rw [Nat.max_eq_right hd]; exact b2
    · have he' := h.all e (by simp [he])
      obtain ⟨d, d1, d2, d3⟩ := he'.dep
      exact ⟨he'.fin, he'.fle, fun s hs => by rw [bump_length]; exact he'.lt s hs, (sumB_same _ _ _ (hother e he)).trans he'.kr,
        ⟨d, fun s hs => by rw [hother e he s hs]; exact d1 s hs, d2, fun h1 => Nat.le_trans (d3 h1) hb.top⟩, hr e he⟩
  · simp only [List.flatMap_cons, joinT, List.append_assoc]; exact hp
  · simp only [List.map_cons, List.sum_cons, joinT]; omega
end Ev
end
section
set_option linter.unusedVariables false
set_option linter.unusedSimpArgs false
namespace Ev
open Go
def ltH (x y : HT) : Bool := decide (x.1 < y.1) || (decide (x.1 = y.1) && decide (x.2.1 < y.2.1))
def HT.d : HT := (0, 0, [])
def leastH (l : List HT) : Nat → Nat → Nat → Nat
  | 0, a, _ => a
  | f + 1, a, i => leastH l f (if ltH (l.getD i HT.d) (l.getD a HT.d) then i else a) (i + 1)
def lst (l : List HT) : Nat := leastH l (l.length - 1) 0 1
def less (l : List HT) (k : Nat) : List HT := l.take k ++ l.drop (k + 1)
theorem leastH_spec (l : List HT) : ∀ (f a i : Nat), i + f = l.length → a < l.length → (∀ j, j < i → (l.getD a HT.d).1 ≤ (l.getD j HT.d).1) →
    leastH l f a i < l.length ∧ ∀ j, j < l.length → (l.getD (leastH l f a i) HT.d).1 ≤ (l.getD j HT.d).1
  | 0, a, i, h, ha, hj => ⟨ha, fun j hl => hj j (by omega)⟩
  | f + 1, a, i, h, ha, hj => by
    rw [leastH]
    by_cases c : ltH (l.getD i HT.d) (l.getD a HT.d) = true
    · rw [if_pos c]
      refine leastH_spec l f i (i + 1) (by omega) (by omega) fun j hl => ?_
      have : (l.getD i HT.d).1 ≤ (l.getD a HT.d).1 := by
        simp only [ltH, Bool.or_eq_true, Bool.and_eq_true, decide_eq_true_eq] at c; omega
      by_cases e : j = i
      · subst e; exact Nat.le_refl _
      · have := hj j (by omega); omega
    · rw [if_neg c]
      refine leastH_spec l f a (i + 1) (by omega) ha fun j hl => ?_
      by_cases e : j = i
      · subst e
        simp only [ltH, Bool.or_eq_true, Bool.and_eq_true, decide_eq_true_eq] at c; omega
      · exact hj j (by omega)
theorem lst_spec (l : List HT) (h : 0 < l.length) : lst l < l.length ∧ ∀ e ∈ l, (l.getD (lst l) HT.d).1 ≤ e.1 := by
  have := leastH_spec l (l.length - 1) 0 1 (by omega) h (fun j hj => by rw [show j = 0 by omega]; exact Nat.le_refl _)
  refine ⟨this.1, fun e he => ?_⟩
  obtain ⟨j, hj, rfl⟩ := List.getElem_of_mem he
  have h2 := this.2 j hj
  rw [getD_in hj] at h2
  exact h2
theorem less_perm (l : List HT) (k : Nat) (h : k < l.length) : l.Perm (l.getD k HT.d :: less l k) := by
  have e : l = l.take k ++ (l.getD k HT.d :: l.drop (k + 1)) := by
    rw [getD_in h, ← List.drop_eq_getElem_cons h, List.take_append_drop]
  have p := List.perm_middle (a := l.getD k HT.d) (l₁ := l.take k) (l₂ := l.drop (k + 1))
  have : l.Perm (l.take k ++ (l.getD k HT.d :: l.drop (k + 1))) := by rw [← e]
  exact this.trans p
theorem less_length (l : List HT) (k : Nat) (h : k < l.length) : (less l k).length + 1 = l.length := by
  have := (less_perm l k h).length_eq
  simpa using this.symm
def fstA (l : List HT) : HT := l.getD (lst l) HT.d
def sndA (l : List HT) : HT := fstA (less l (lst l))
def restA (l : List HT) : List HT := less (less l (lst l)) (lst (less l (lst l)))
def huffGo : Nat → List Nat → List HT → List Nat
  | 0, out, _ => out
  | n + 1, out, l => if 1 < l.length then huffGo n (bump out ((fstA l).2.2 ++ (sndA l).2.2)) (restA l ++ [joinT (fstA l) (sndA l)]) else out
theorem pairA (l : List HT) (h : 1 < l.length) : l.Perm (fstA l :: sndA l :: restA l) ∧ (fstA l).1 ≤ (sndA l).1 ∧ (∀ e ∈ restA l, (sndA l).1 ≤ e.1) ∧ (restA l).length + 2 = l.length := by
  obtain ⟨h1, h2⟩ := lst_spec l (by omega)
  have p1 := less_perm l (lst l) h1
  have n1 := less_length l (lst l) h1
  obtain ⟨h3, h4⟩ := lst_spec (less l (lst l)) (by omega)
  have p2 := less_perm (less l (lst l)) _ h3
  have n2 := less_length (less l (lst l)) _ h3
  have pp : l.Perm (fstA l :: sndA l :: restA l) := p1.trans (p2.cons _)
  refine ⟨pp, h2 _ (pp.mem_iff.2 (by simp)), fun e he => h4 e (p2.mem_iff.2 (List.mem_cons_of_mem _ he)), ?_⟩
  unfold restA; omega
theorem HInv.next {out : List Nat} {l : List HT} {T : Nat} {U : List Nat} {tot : Nat} (h : HInv out l T U tot) (hU : U.Nodup) (htot : tot ≤ 400) (hl : 1 < l.length) :
    HInv (bump out ((fstA l).2.2 ++ (sndA l).2.2)) (restA l ++ [joinT (fstA l) (sndA l)]) (sndA l).1 U tot ∧ (restA l ++ [joinT (fstA l) (sndA l)]).length + 1 = l.length := by
  obtain ⟨p, h1, h2, h3⟩ := pairA l hl
  refine ⟨((h.of_perm p).step hU htot h1 h2).of_perm ?_, by simp; omega⟩
  exact (List.perm_append_comm (l₁ := [joinT (fstA l) (sndA l)]) (l₂ := restA l))
theorem huffGo_spec {U : List Nat} {tot : Nat} (hU : U.Nodup) (htot : tot ≤ 400) : ∀ (n : Nat) (out : List Nat) (l : List HT) (T : Nat), l.length = n + 1 → HInv out l T U tot →
    (huffGo n out l).length = out.length ∧ (∀ i, i < out.length → i ∉ U → (huffGo n out l).getD i 0 = out.getD i 0) ∧ ∃ e T', HInv (huffGo n out l) [e] T' U tot
  | 0, out, l, T, hl, h => by
    obtain ⟨e, rfl⟩ := List.length_eq_one_iff.1 hl
    exact ⟨rfl, fun _ _ _ => rfl, e, T, h⟩
  | n + 1, out, l, T, hl, h => by
    obtain ⟨h1, h2⟩ := h.next hU htot (by omega)
    have ih := huffGo_spec hU htot n _ _ _ (by omega) h1
    rw [huffGo, if_pos (by omega)]
    refine ⟨ih.1.trans (bump_length _ _), fun i hi hn => ?_, ih.2.2⟩
    rw [ih.2.1 i (by rw [bump_length]; exact hi) hn, bump_getD _ _ _ hi, List.count_eq_zero.2, Nat.add_zero]
    intro hm
    apply hn
    obtain ⟨p, _⟩ := pairA l (by omega)
    refine h.perm.mem_iff.1 (List.mem_flatMap.2 ?_)
    rcases List.mem_append.1 hm with hm | hm
    · exact ⟨_, p.mem_iff.2 (by simp), hm⟩
    · exact ⟨_, p.mem_iff.2 (by simp), hm⟩
def usedI (ns : List Nat) : List Nat := (List.range ns.length).filter fun i => decide (0 < ns.getD i 0)
theorem usedI_cons (n : Nat) (r : List Nat) : usedI (n :: r) = (if 0 < n then [0] else []) ++ (usedI r).map (· + 1) := by
  unfold usedI
  rw [List.length_cons, List.range_succ_eq_map, List.filter_cons, List.filter_map]
  by_cases h : 0 < n
  · rw [if_pos (by simpa using h), if_pos h]; rfl
  · rw [if_neg (by simpa using h), if_neg h]; rfl
theorem used_usedI : ∀ ns, used ns = (usedI ns).length
  | [] => rfl
  | n :: r => by
    rw [usedI_cons, used, used_usedI r]
    by_cases h : 0 < n
    · rw [if_pos h, if_pos h]; simp; omega
    · rw [if_neg h, if_neg h]; simp
theorem kraft_usedI : ∀ ns, kraft ns = sumB ns (usedI ns)
  | [] => rfl
  | n :: r => by
    have e : sumB (n :: r) ((usedI r).map (· + 1)) = sumB r (usedI r) := by
      unfold sumB; rw [List.map_map]; rfl
    rw [usedI_cons, kraft, kraft_usedI r, sumB_append, e]
    by_cases h : 0 < n
    · rw [if_pos h, if_pos h]; simp [sumB]
    · rw [if_neg h, if_neg h]; simp [sumB]
theorem sum_usedI : ∀ ns : List Nat, ((usedI ns).map fun i => ns.getD i 0).sum = ns.sum
  | [] => rfl
  | n :: r => by
    have e : (((usedI r).map (· + 1)).map fun i => (n :: r).getD i 0) = (usedI r).map fun i => r.getD i 0 := by rw [List.map_map]; rfl
    rw [usedI_cons, List.map_append, e, List.sum_append, sum_usedI r, List.sum_cons]
    by_cases h : 0 < n
    · rw [if_pos h]; simp
    · rw [if_neg h]; simp; omega
theorem mem_usedI (ns : List Nat) (i : Nat) : i ∈ usedI ns ↔ i < ns.length ∧ 0 < ns.getD i 0 := by
  simp [usedI]
theorem usedI_nodup (ns : List Nat) : (usedI ns).Nodup := List.Pairwise.filter _ List.nodup_range
def leaves (cs : List Nat) : List HT := (usedI cs).map fun i => (cs.getD i 0, i, [i])
def huffM (cs : List Nat) : List Nat :=
  if (usedI cs).length = 1 then (List.replicate cs.length 0).set ((usedI cs).getD 0 0) 1 else huffGo ((usedI cs).length - 1) (List.replicate cs.length 0) (leaves cs)
theorem replicate_getD (n i : Nat) : (List.replicate n 0).getD i 0 = 0 := by
  by_cases h : i < n
  · rw [getD_in (by simpa using h)]; simp
  · simp [List.getD, Nat.le_of_not_lt h]
theorem leaves_inv (cs : List Nat) : HInv (List.replicate cs.length 0) (leaves cs) 0 (usedI cs) cs.sum := by
  refine ⟨fun e he => ?_, ?_, ?_⟩
  · obtain ⟨i, hi, rfl⟩ := List.mem_map.1 he
    obtain ⟨h1, h2⟩ := (mem_usedI cs i).1 hi
    refine ⟨by simp, fun s hs => ?_, fun s hs => ?_, ?_, ⟨0, fun s hs => ?_, ?_, fun h => ?_⟩, Nat.zero_le _⟩
    · have : s = i := by simpa using hs
      subst this; exact Nat.le_refl _
    · have : s = i := by simpa using hs
      subst this; simpa using h1
    · simp only [sumB, List.map_cons, List.map_nil, List.sum_cons, List.sum_nil, replicate_getD]; rfl
    · rw [replicate_getD]; exact Nat.le_refl _
    · show 1 ≤ cs.getD i 0; omega
    · omega
  · unfold leaves
    rw [List.flatMap_map]
    have : ∀ l : List Nat, (l.flatMap fun i => [i]) = l := fun l => by induction l <;> simp_all
    rw [this]
  · unfold leaves
    rw [List.map_map]
    exact sum_usedI cs
structure LOk (cs out : List Nat) (d : Nat) : Prop where
  len : out.length = cs.length
  pos : ∀ i, 0 < cs.getD i 0 ↔ 0 < out.getD i 0
  le : ∀ n ∈ out, n ≤ d
  ok : kraft out = 32768 ∨ used out = 1 ∧ kraft out = 16384
theorem usedI_congr (cs out : List Nat) (h : out.length = cs.length) (hp : ∀ i, 0 < cs.getD i 0 ↔ 0 < out.getD i 0) : usedI out = usedI cs := by
  unfold usedI
  rw [h]
  exact List.filter_congr fun i _ => by simp only [decide_eq_decide]; exact (hp i).symm
theorem sumB_pos (out : List Nat) : ∀ S : List Nat, S ≠ [] → 0 < sumB out S
  | [], h => absurd rfl h
  | s :: S, _ => by
    have := Nat.two_pow_pos (15 - out.getD s 0)
    simp only [sumB, List.map_cons, List.sum_cons]; omega
theorem huffM_ok (cs : List Nat) (h0 : usedI cs ≠ []) (ht : cs.sum ≤ 400) : ∃ d, d ≤ 12 ∧ LOk cs (huffM cs) d ∧ (d ≤ 1 ∨ fibN (d + 2) ≤ cs.sum) := by
  have hU := usedI_nodup cs
  by_cases h1 : (usedI cs).length = 1
  · obtain ⟨k, hk⟩ := List.length_eq_one_iff.1 h1
    have hm : k < cs.length ∧ 0 < cs.getD k 0 := (mem_usedI cs k).1 (by rw [hk]; simp)
    have e : huffM cs = (List.replicate cs.length 0).set k 1 := by unfold huffM; rw [if_pos h1, hk]; rfl
    have hlen : (huffM cs).length = cs.length := by rw [e]; simp
    have hget : ∀ i, (huffM cs).getD i 0 = if i = k then 1 else 0 := fun i => by
      rw [e]
      by_cases hi : i < cs.length
      · rw [getD_in (by simpa using hi), List.getElem_set]
        by_cases c : k = i
        · rw [if_pos c, if_pos c.symm]
        · rw [if_neg c, if_neg (fun x => c x.symm)]; simp
      · rw [if_neg (by omega)]
        simp [List.getD, Nat.le_of_not_lt hi]
    have hpos : ∀ i, 0 < cs.getD i 0 ↔ 0 < (huffM cs).getD i 0 := fun i => by
      rw [hget i]
      constructor
      · intro h
        have hi : i < cs.length := by
          rcases Nat.lt_or_ge i cs.length with h' | h'
          · exact h'
          · rw [show cs.getD i 0 = 0 by simp [List.getD, h']] at h; omega
        have : i ∈ usedI cs := (mem_usedI cs i).2 ⟨hi, h⟩
        rw [hk] at this
        rw [if_pos (by simpa using this)]; omega
      · intro h
        by_cases c : i = k
        · rw [c]; exact hm.2
        · rw [if_neg c] at h; omega
    have hc := usedI_congr cs (huffM cs) hlen hpos
    refine ⟨1, by omega, ⟨hlen, hpos, fun n hn => ?_, .inr ⟨by rw [used_usedI, hc]; exact h1, ?_⟩⟩, .inl (Nat.le_refl _)⟩
    · obtain ⟨j, hj, rfl⟩ := List.getElem_of_mem hn
      have := hget j
      rw [getD_in hj] at this
      rw [this]; split <;> omega
    · rw [kraft_usedI, hc, hk]
      simp only [sumB, List.map_cons, List.map_nil, List.sum_cons, List.sum_nil, hget, if_true]; rfl
  · have hn : 0 < (usedI cs).length := List.length_pos_iff.2 h0
    have e : huffM cs = huffGo ((usedI cs).length - 1) (List.replicate cs.length 0) (leaves cs) := by unfold huffM; rw [if_neg h1]
    obtain ⟨l1, l2, t, T', hI⟩ := huffGo_spec hU ht ((usedI cs).length - 1) (List.replicate cs.length 0) (leaves cs) 0 (by simp [leaves]; omega) (leaves_inv cs)
    rw [← e] at l1 l2 hI
    rw [List.length_replicate] at l1 l2
    have tok := hI.all t (by simp)
    obtain ⟨d, d1, d2, d3⟩ := tok.dep
    have hts : t.1 = cs.sum := by simpa using hI.sum
    have hpp : t.2.2.Perm (usedI cs) := by simpa using hI.perm
    have hkr : sumB (huffM cs) (usedI cs) = 32768 := by
      have := sum_perm (fun s => 2 ^ (15 - (huffM cs).getD s 0)) hpp
      unfold sumB; rw [← this]; exact tok.kr
    have hd : d ≤ 12 := fibN_deep d2 (by omega)
    have hpos : ∀ i, 0 < cs.getD i 0 ↔ 0 < (huffM cs).getD i 0 := fun i => by
      constructor
      · intro h
        have hi : i < cs.length := by
          rcases Nat.lt_or_ge i cs.length with h' | h'
          · exact h'
          · rw [show cs.getD i 0 = 0 by simp [List.getD, h']] at h; omega
        have hmem : i ∈ usedI cs := (mem_usedI cs i).2 ⟨hi, h⟩
        rcases Nat.eq_zero_or_pos ((huffM cs).getD i 0) with hz | hz
        · obtain ⟨a, b, hab⟩ := List.append_of_mem hmem
          rw [hab, sumB_append] at hkr
          have ec : sumB (huffM cs) (i :: b) = 32768 + sumB (huffM cs) b := by simp only [sumB, List.map_cons, List.sum_cons, hz]
          have ha : a = [] := by
            rcases Classical.em (a = []) with h' | h'
            · exact h'
            · have := sumB_pos (huffM cs) a h'; omega
          have hb : b = [] := by
            rcases Classical.em (b = []) with h' | h'
            · exact h'
            · have := sumB_pos (huffM cs) b h'; omega
          rw [hab, ha, hb] at h1
          exact absurd rfl h1
        · exact hz
      · intro h
        rcases Nat.lt_or_ge i cs.length with hi | hi
        · rcases Classical.em (i ∈ usedI cs) with hm | hm
          · exact ((mem_usedI cs i).1 hm).2
          · rw [l2 i hi hm, replicate_getD] at h; omega
        · rw [show (huffM cs).getD i 0 = 0 by simp [List.getD, l1, hi]] at h; omega
    have hc := usedI_congr cs (huffM cs) l1 hpos
    refine ⟨d, hd, ⟨l1, hpos, fun n hn => ?_, .inl (by rw [kraft_usedI, hc]; exact hkr)⟩, .inr (by rw [← hts]; exact d2)⟩
    obtain ⟨j, hj, rfl⟩ := List.getElem_of_mem hn
    rcases Classical.em (j ∈ usedI cs) with hm | hm
    · have := d1 j (hpp.mem_iff.2 hm)
      rwa [getD_in hj] at this
    · have := l2 j (by omega) hm
      rw [getD_in hj, replicate_getD] at this
      omega
end Ev
end
section
set_option linter.unusedVariables false
set_option linter.unusedSimpArgs false
namespace Ev
open Go
theorem lt_cond (a b c d : Nat) : (bif decide ((a : Int) < (b : Int)) then some true else bif ((a : Int) == (b : Int)) then some (decide ((c : Int) < (d : Int))) else some false) = some (decide (a < b) || (decide (a = b) && decide (c < d))) := by
  by_cases h1 : a < b
  · rw [decide_eq_true (show (a : Int) < (b : Int) by omega), decide_eq_true h1]; rfl
  · rw [decide_eq_false (show ¬ (a : Int) < (b : Int) by omega), decide_eq_false h1]
    by_cases h2 : a = b
    · subst h2
      rw [show ((a : Int) == (a : Int)) = true by simp, decide_eq_true (rfl : a = a), cond_false, cond_true, Bool.false_or, Bool.true_and]
      congr 1
      simp
    · rw [show ((a : Int) == (b : Int)) = false by simp; omega, decide_eq_false h2]; rfl
theorem HInv.some {out : List Nat} {l : List HT} {T : Nat} {U : List Nat} {tot : Nat} (h : HInv out l T U tot) (ht : tot ≤ 400) (hU : U.length ≤ 400) (e : HT) (he : e ∈ l) : e.1 ≤ 400 ∧ e.2.2.length ≤ 400 ∧ e.2.1 < out.length ∧ ∀ s ∈ e.2.2, s < out.length ∧ out.getD s 0 ≤ 1000 := by
  have hk := h.all e he
  have h1 : e.1 ≤ tot := by
    rw [← h.sum]
    obtain ⟨a, b, rfl⟩ := List.append_of_mem he
    simp; omega
  obtain ⟨d, d1, d2, d3⟩ := hk.dep
  have hd := fibN_deep d2 (by omega)
  refine ⟨by omega, ?_, hk.lt _ hk.fin, fun s hs => ⟨hk.lt s hs, by have := d1 s hs; omega⟩⟩
  have := h.perm.length_eq
  obtain ⟨a, b, rfl⟩ := List.append_of_mem he
  simp only [List.flatMap_append, List.flatMap_cons, List.length_append] at this
  omega
theorem usedI_length (cs : List Nat) : (usedI cs).length ≤ cs.length := by
  have := List.length_filter_le (fun i => decide (0 < cs.getD i 0)) (List.range cs.length)
  rw [List.length_range] at this
  exact this
end Ev
end
section
set_option linter.unusedVariables false
set_option linter.unusedSimpArgs false
namespace Ev
open Go
abbrev QT := HT × List Nat
def QT.d : QT := (HT.d, [])
def zQ (q : QT) : Int × List Int := ((q.1.1 : Int), zs q.2)
def QOk (q : QT) : Prop := q.2.Perm q.1.2.2 ∧ q.2.getD 0 0 = q.1.2.1 ∧ 0 < q.2.length
theorem zQ_get (Q : List QT) (i : Nat) : (Q.map zQ).getD i (0, []) = zQ (Q.getD i QT.d) := by
  simp only [List.getD_eq_getElem?_getD, List.getElem?_map]
  cases Q[i]? <;> rfl
theorem fstQ_get (Q : List QT) (i : Nat) : (Q.map Prod.fst).getD i HT.d = (Q.getD i QT.d).1 := by
  simp only [List.getD_eq_getElem?_getD, List.getElem?_map]
  cases Q[i]? <;> rfl
theorem lt_condQ (x y : QT) (hx : QOk x) (hy : QOk y) : (bif decide ((zQ x).1 < (zQ y).1) then some true else bif ((zQ x).1 == (zQ y).1) then some (decide (((zQ x).2).getD 0 0 < ((zQ y).2).getD 0 0)) else some false) = some (ltH x.1 y.1) := by
  have ex : ((zQ x).2).getD 0 0 = (x.1.2.1 : Int) := by unfold zQ; rw [zs_getD, hx.2.1]
  have ey : ((zQ y).2).getD 0 0 = (y.1.2.1 : Int) := by unfold zQ; rw [zs_getD, hy.2.1]
  rw [ex, ey]
  exact lt_cond x.1.1 y.1.1 x.1.2.1 y.1.2.1
theorem QOk.idx {x : QT} (h : QOk x) : (decide ((0 : Int) ≤ 0) && decide ((0 : Int) < ((zQ x).2).length)) = true := by
  have := h.2.2
  unfold zQ
  simp [zs_length]; omega
theorem least_l0 (Q : List QT) (hn : Q.length ≤ 1000) (hQ : ∀ q ∈ Q, QOk q) (o : Int) (o1 : List Int) : ∀ (j a i : Nat), i + j = Q.length → a < Q.length →
    least.l0 (j + 1) (Q.map zQ, (a : Int), Q.map zQ, (Q.length : Int), (i : Int), o, o1) = some (Q.map zQ, (leastH (Q.map Prod.fst) j a i : Int), o, o1)
  | 0, a, i, h, ha => by
    rw [least.l0.succ]; simp only [least.l0.step]
    rw [idx_ge (by omega)]; rfl
  | j + 1, a, i, h, ha => by
    have hi : i < Q.length := by omega
    have qi : QOk (Q.getD i QT.d) := by rw [getD_in hi]; exact hQ _ (List.getElem_mem hi)
    have qa : QOk (Q.getD a QT.d) := by rw [getD_in ha]; exact hQ _ (List.getElem_mem ha)
    rw [least.l0.succ]; simp only [least.l0.step, List.length_map]
    rw [idx_lt hi, cond_true, need_true _ idx_in', need_true _ (idx_in ha), need_true _ (idx_in ha), Int.toNat_natCast, Int.toNat_natCast, zQ_get, zQ_get, need_true _ qi.idx, need_true _ (idx_in ha), need_true _ qa.idx]
    rw [lt_condQ _ _ qi qa, w64_id (by omega) (by omega), show (i : Int) + 1 = ((i + 1 : Nat) : Int) by omega, leastH, fstQ_get, fstQ_get]
    simp only [bind_go]
    cases ltH (Q.getD i QT.d).1 (Q.getD a QT.d).1
    · exact least_l0 Q hn hQ o o1 j a (i + 1) (by omega) ha
    · exact least_l0 Q hn hQ o o1 j i (i + 1) (by omega) hi
theorem lst_zero (L : List HT) (h : 0 < L.length) : leastH L L.length 0 0 = lst L := by
  obtain ⟨n, hn⟩ : ∃ n, L.length = n + 1 := ⟨L.length - 1, by omega⟩
  have e : ltH (L.getD 0 HT.d) (L.getD 0 HT.d) = false := by simp [ltH]
  unfold lst
  rw [hn, leastH, e]; rfl
def lessQ (Q : List QT) (k : Nat) : List QT := Q.take k ++ Q.drop (k + 1)
theorem least_eq (Q : List QT) (hn : Q.length ≤ 1000) (hQ : ∀ q ∈ Q, QOk q) (h0 : 0 < Q.length) :
    least (Q.map zQ) = some ((zQ (Q.getD (lst (Q.map Prod.fst)) QT.d)).1, (zQ (Q.getD (lst (Q.map Prod.fst)) QT.d)).2, (lessQ Q (lst (Q.map Prod.fst))).map zQ) := by
  have hk := (lst_spec (Q.map Prod.fst) (by simpa using h0)).1
  rw [List.length_map] at hk
  have hz := lst_zero (Q.map Prod.fst) (by simpa using h0)
  rw [List.length_map] at hz
  have := least_l0 Q hn hQ 0 [] Q.length 0 0 (by omega) h0
  rw [hz, show ((0 : Nat) : Int) = 0 from rfl] at this
  unfold least
  rw [List.length_map, fuel_of, this]
  simp only [bind_go, List.length_map]
  generalize lst (Q.map Prod.fst) = k at hk
  rw [w64_id (n := (k : Int) + 1) (by omega) (by omega), show (k : Int) + 1 = ((k + 1 : Nat) : Int) by omega, Int.toNat_natCast, Int.toNat_natCast]
  rw [need_true _ (idx_in hk), need_true _ (by simp; omega), need_fits (by simp; omega), need_true _ (by simp; omega), need_fits (by simp; omega), zQ_get]
  simp only [lessQ, List.nil_append, List.map_append, List.map_take, List.map_drop]
theorem lessQ_fst (Q : List QT) (k : Nat) : (lessQ Q k).map Prod.fst = less (Q.map Prod.fst) k := by simp [lessQ, less, List.map_take, List.map_drop]
theorem lessQ_mem {Q : List QT} {k : Nat} {q : QT} (h : q ∈ lessQ Q k) : q ∈ Q := by
  rcases List.mem_append.1 h with h | h
  · exact List.mem_of_mem_take h
  · exact List.mem_of_mem_drop h
structure SwOk (S C : List Nat) (k : Nat) : Prop where
  perm : C.Perm S
  rest : ∀ i, k ≤ i → C.getD i 0 = S.getD i 0
  low : ∀ j, j < k → C.getD 0 0 ≤ S.getD j 0
theorem depths_l1 (o : Int) (o1 : List Int) (o2 : Int) (o3 : List Int) (left : List (Int × List Int)) (out S : List Nat) (hS : ∀ s ∈ S, s < out.length ∧ out.getD s 0 ≤ 1000) (hn : S.length ≤ 1000) : ∀ (j i : Nat) (C : List Nat), i + j = S.length → SwOk S C i →
    Ret (depths.l1 (j + 1) ((S.length : Int), (i : Int), zs (bump out (S.take i)), o, o1, o2, o3, left, zs C)) fun r => ∃ C', r = (zs (bump out S), o, o1, o2, o3, left, zs C') ∧ SwOk S C' S.length
  | 0, i, C, h, hC => by
    have : i = S.length := by omega
    subst this
    rw [depths.l1.succ]; simp only [depths.l1.step]
    rw [idx_ge (by omega), List.take_of_length_le (by omega)]
    exact .pure ⟨C, rfl, hC⟩
  | j + 1, i, C, h, hC => by
    have hi : i < S.length := by omega
    have hcl : C.length = S.length := hC.perm.length_eq
    have hg : S.getD i 0 = S[i] := getD_in hi
    have hgc : C.getD i 0 = S[i] := (hC.rest i (Nat.le_refl _)).trans hg
    obtain ⟨h1, h2⟩ := hS S[i] (List.getElem_mem hi)
    have hb := bump_getD out (S.take i) S[i] h1
    have hc := List.count_le_length (a := S[i]) (l := S.take i)
    rw [List.length_take] at hc
    rw [depths.l1.succ]; simp only [depths.l1.step, zs_length, bump_length, List.length_set]
    rw [idx_lt hi, cond_true, need_true _ (idx_in (by omega)), Int.toNat_natCast, zs_getD, hgc, need_true _ (idx_in h1), need_true _ (idx_in h1), need_true _ (by simp; omega), Int.toNat_natCast, zs_getD, zs_getD,
      w64_id (n := (((bump out (S.take i)).getD S[i] 0 : Nat) : Int) + 1) (by omega) (by omega), show (((bump out (S.take i)).getD S[i] 0 : Nat) : Int) + 1 = (((bump out (S.take i)).getD S[i] 0 + 1 : Nat) : Int) by omega, zs_set,
      ← bump_snoc out (S.take i) S[i] h1, ← List.take_succ_eq_append_getElem hi, w64_id (by omega) (by omega), show (i : Int) + 1 = ((i + 1 : Nat) : Int) by omega]
    by_cases c : S[i] < C.getD 0 0
    · have hi0 : i ≠ 0 := by
        intro e; subst e
        rw [hgc] at c; omega
      rw [decide_eq_true (by omega), cond_true, need_true _ (by simp; omega), need_true _ (by simp; omega), need_true _ (idx_in (by omega)), zs_set, zs_set]
      refine depths_l1 o o1 o2 o3 left out S hS hn j (i + 1) _ (by omega) ⟨?_, fun k hk => ?_, fun k hk => ?_⟩
      · have hp := @List.set_set_perm Nat C 0 i (by omega) (by omega)
        rw [getD_in (by omega)] at hgc
        rw [getD_in (by omega : 0 < C.length), ← hgc]
        exact hp.trans hC.perm
      · rw [← hC.rest k (by omega)]
        simp only [List.getD_eq_getElem?_getD, List.getElem?_set]
        rw [if_neg (by omega), if_neg (by omega)]
      · have e0 : ((C.set 0 S[i]).set i (C.getD 0 0)).getD 0 0 = S[i] := by
          rw [getD_in (by simp; omega), List.getElem_set, if_neg hi0, List.getElem_set, if_pos rfl]
        rw [e0]
        by_cases e : k = i
        · subst e; rw [hg]; exact Nat.le_refl _
        · have := hC.low k (by omega); omega
    · rw [decide_eq_false (by omega), cond_false]
      refine depths_l1 o o1 o2 o3 left out S hS hn j (i + 1) C (by omega) ⟨hC.perm, fun k hk => hC.rest k (by omega), fun k hk => ?_⟩
      by_cases e : k = i
      · subst e; rw [hg]; omega
      · exact hC.low k (by omega)
theorem depths_l2 {U : List Nat} {tot : Nat} (hU : U.Nodup) (htot : tot ≤ 400) (hUl : U.length ≤ 400) : ∀ (n : Nat) (out : List Nat) (Q : List QT) (T : Nat), Q.length ≤ n + 1 → Q.length ≤ 400 → (∀ q ∈ Q, QOk q) → HInv out (Q.map Prod.fst) T U tot →
    depths.l2 (n + 1) (zs out, Q.map zQ) = some (zs (huffGo n out (Q.map Prod.fst)))
  | 0, out, Q, T, hl, hl2, hQ, h => by
    rw [depths.l2.succ]; simp only [depths.l2.step, List.length_map]
    rw [decide_eq_false (by omega)]; rfl
  | n + 1, out, Q, T, hl, hl2, hQ, h => by
    rw [depths.l2.succ]; simp only [depths.l2.step, List.length_map]
    by_cases h1 : 1 < Q.length
    · have h1' : 1 < (Q.map Prod.fst).length := by rw [List.length_map]; exact h1
      obtain ⟨hnx, hnl⟩ := h.next hU htot h1'
      obtain ⟨pp, _, _, hrl⟩ := pairA _ h1'
      obtain ⟨k1, _⟩ := lst_spec (Q.map Prod.fst) (by omega)
      have n1 := less_length _ _ k1
      obtain ⟨k2, _⟩ := lst_spec (less (Q.map Prod.fst) (lst (Q.map Prod.fst))) (by omega)
      obtain ⟨a1, a2, a3, a4⟩ := h.some htot hUl (fstA (Q.map Prod.fst)) (pp.mem_iff.2 (by simp))
      obtain ⟨b1, b2, b3, b4⟩ := h.some htot hUl (sndA (Q.map Prod.fst)) (pp.mem_iff.2 (by simp))
      have l1 := least_eq Q (by omega) hQ (by omega)
      have f1 := lessQ_fst Q (lst (Q.map Prod.fst))
      have len1 : (lessQ Q (lst (Q.map Prod.fst))).length + 1 = Q.length := by
        have := congrArg List.length f1; rw [List.length_map] at this; rw [this, n1, List.length_map]
      have l2 := least_eq (lessQ Q (lst (Q.map Prod.fst))) (by omega) (fun q hq => hQ q (lessQ_mem hq)) (by omega)
      have f2 := lessQ_fst (lessQ Q (lst (Q.map Prod.fst))) (lst ((lessQ Q (lst (Q.map Prod.fst))).map Prod.fst))
      rw [f1] at l2 f2
      have ga : (Q.getD (lst (Q.map Prod.fst)) QT.d).1 = fstA (Q.map Prod.fst) := (fstQ_get Q _).symm
      have gb : ((lessQ Q (lst (Q.map Prod.fst))).getD (lst (less (Q.map Prod.fst) (lst (Q.map Prod.fst)))) QT.d).1 = sndA (Q.map Prod.fst) := by rw [← fstQ_get, f1]; rfl
      have qa : QOk (Q.getD (lst (Q.map Prod.fst)) QT.d) := by rw [List.length_map] at k1; rw [getD_in k1]; exact hQ _ (List.getElem_mem _)
      have qb : QOk ((lessQ Q (lst (Q.map Prod.fst))).getD (lst (less (Q.map Prod.fst) (lst (Q.map Prod.fst)))) QT.d) := by
        have : lst (less (Q.map Prod.fst) (lst (Q.map Prod.fst))) < (lessQ Q (lst (Q.map Prod.fst))).length := by rw [← f1, List.length_map] at k2; rw [← f1]; exact k2
        rw [getD_in this]; exact hQ _ (lessQ_mem (List.getElem_mem _))
      have hrest : less (less (Q.map Prod.fst) (lst (Q.map Prod.fst))) (lst (less (Q.map Prod.fst) (lst (Q.map Prod.fst)))) = restA (Q.map Prod.fst) := rfl
      rw [hrest] at f2
      rw [huffGo, if_pos h1', decide_eq_true (by omega), cond_true, l1]
      simp only [bind_go]
      rw [l2]
      simp only [bind_go]
      generalize Q.getD (lst (Q.map Prod.fst)) QT.d = A at ga qa
      generalize (lessQ Q (lst (Q.map Prod.fst))).getD (lst (less (Q.map Prod.fst) (lst (Q.map Prod.fst)))) QT.d = B at gb qb
      have hRm : ∀ q ∈ lessQ (lessQ Q (lst (Q.map Prod.fst))) (lst (less (Q.map Prod.fst) (lst (Q.map Prod.fst)))), QOk q := fun q hq => hQ q (lessQ_mem (lessQ_mem hq))
      generalize lessQ (lessQ Q (lst (Q.map Prod.fst))) (lst (less (Q.map Prod.fst) (lst (Q.map Prod.fst)))) = R at f2 hRm
      rw [← ga] at a1 a2 a3 a4 hnx hnl ⊢
      rw [← gb] at b1 b2 b3 b4 hnx hnl ⊢
      rw [← f2] at hnx hnl ⊢
      clear l1 l2 f1 f2 pp hrest k1 k2
      have hSp : (A.2 ++ B.2).Perm (A.1.2.2 ++ B.1.2.2) := qa.1.append qb.1
      have hla := qa.1.length_eq
      have hlb := qb.1.length_eq
      have hcat : ([] ++ (zQ A).2) ++ (zQ B).2 = zs (A.2 ++ B.2) := by rw [List.nil_append, zs_append]; rfl
      have la : (zQ A).2.length = A.2.length := zs_length _
      have lb : (zQ B).2.length = B.2.length := zs_length _
      have hw : w64 ((zQ A).1 + (zQ B).1) = ((A.1.1 + B.1.1 : Nat) : Int) := by
        show w64 ((A.1.1 : Int) + (B.1.1 : Int)) = _
        rw [w64_id (by omega) (by omega)]; omega
      obtain ⟨r, hr, C, rfl, hC⟩ := depths_l1 (zQ A).1 (zQ A).2 (zQ B).1 (zQ B).2 (R.map zQ) out (A.2 ++ B.2) (fun s hs => by
          rcases List.mem_append.1 (hSp.mem_iff.1 hs) with hs | hs
          · exact a4 s hs
          · exact b4 s hs) (by rw [List.length_append]; omega) _ 0 (A.2 ++ B.2) (Nat.zero_add _) ⟨.refl _, fun _ _ => rfl, fun j hj => by omega⟩
      rw [List.take_zero, bump_nil] at hr
      rw [need_fits (by rw [la, List.length_nil]; omega), need_fits (by rw [List.length_append, la, lb, List.length_nil]; omega), hcat, zs_length, fuel_of, show (0 : Int) = ((0 : Nat) : Int) from rfl, hr]
      simp only [bind_go]
      rw [need_fits (by simp at hnl ⊢; omega), hw, bump_perm out hSp]
      have hj := hnx.all (joinT A.1 B.1) (by simp)
      have hok : QOk (joinT A.1 B.1, C) := by
        refine ⟨hC.perm.trans hSp, ?_, ?_⟩
        · have hCl := hC.perm.length_eq
          have hpos : 0 < C.length := by rw [hCl, List.length_append]; have := qa.2.2; omega
          apply Nat.le_antisymm
          · have hm : (joinT A.1 B.1).2.1 ∈ A.2 ++ B.2 := hSp.mem_iff.2 hj.fin
            obtain ⟨j, hjl, hje⟩ := List.getElem_of_mem hm
            have := hC.low j hjl
            rw [getD_in hjl, hje] at this
            exact this
          · refine hj.fle _ ((hC.perm.trans hSp).mem_iff.1 ?_)
            rw [getD_in hpos]; exact List.getElem_mem _
        · rw [hC.perm.length_eq, List.length_append]; have := qa.2.2; omega
      have ih := depths_l2 hU htot hUl n (bump out (A.1.2.2 ++ B.1.2.2)) (R ++ [(joinT A.1 B.1, C)]) _ (by simp at hnl ⊢; omega) (by simp at hnl ⊢; omega) (fun q hq => by
        rcases List.mem_append.1 hq with hq | hq
        · exact hRm q hq
        · have : q = (joinT A.1 B.1, C) := by simpa using hq
          subst this; exact hok) (by rw [List.map_append]; exact hnx)
      rw [List.map_append, List.map_append] at ih
      exact ih
    · rw [huffGo, if_neg (by rw [List.length_map]; exact h1), decide_eq_false (by omega)]; rfl
theorem depths_l0 (cs : List Nat) (hn : cs.length ≤ 1000) (out : List Int) : ∀ (j i : Nat) (acc : List QT), i + j = cs.length → acc.length ≤ i →
    depths.l0 (j + 1) (zs cs, (cs.length : Int), (i : Int), out, acc.map zQ) = some (out, (acc ++ ((List.range' i j).filter fun i => decide (0 < cs.getD i 0)).map fun i => (((cs.getD i 0, i, [i]), [i]) : QT)).map zQ)
  | 0, i, acc, h, ha => by
    rw [depths.l0.succ]; simp only [depths.l0.step, zs_length]
    rw [idx_ge (by omega)]; simp
  | j + 1, i, acc, h, ha => by
    have hi : i < cs.length := by omega
    rw [depths.l0.succ]; simp only [depths.l0.step, zs_length]
    rw [idx_lt hi, cond_true, need_true _ idx_in', Int.toNat_natCast, zs_getD, need_fits (by simp; omega), w64_id (by omega) (by omega), show (i : Int) + 1 = ((i + 1 : Nat) : Int) by omega, List.range'_succ, List.filter_cons]
    by_cases c : 0 < cs.getD i 0
    · rw [decide_eq_true (by omega), cond_true, if_pos (decide_eq_true c)]
      have := depths_l0 cs hn out j (i + 1) (acc ++ [((cs.getD i 0, i, [i]), [i])]) (by omega) (by simp; omega)
      rw [List.map_append] at this
      rw [show acc.map zQ ++ [(((cs.getD i 0 : Nat) : Int), [(i : Int)])] = acc.map zQ ++ [(((cs.getD i 0, i, [i]), [i]) : QT)].map zQ from rfl, this]
      simp
    · rw [decide_eq_false (by omega), cond_false, if_neg (by simpa using c)]
      exact depths_l0 cs hn out j (i + 1) acc (by omega) (by omega)
def leavesQ (cs : List Nat) : List QT := (usedI cs).map fun i => ((cs.getD i 0, i, [i]), [i])
theorem depths_eq (cs : List Nat) (hn : cs.length ≤ 400) (ht : cs.sum ≤ 400) : depths (zs cs) = some (zs (huffM cs)) := by
  have hl := usedI_length cs
  have h0 := depths_l0 cs (by omega) (zs (List.replicate cs.length 0)) cs.length 0 [] (by omega) (by simp)
  have hfst : (leavesQ cs).map Prod.fst = leaves cs := by unfold leavesQ leaves; rw [List.map_map]; rfl
  have hlq : (leavesQ cs).length = (usedI cs).length := by simp [leavesQ]
  have h2 := depths_l2 (usedI_nodup cs) ht (by omega) ((usedI cs).length - 1) (List.replicate cs.length 0) (leavesQ cs) 0 (by omega) (by omega) (fun q hq => by
    obtain ⟨i, _, rfl⟩ := List.mem_map.1 hq
    exact ⟨.refl _, rfl, by simp⟩) (by rw [hfst]; exact leaves_inv cs)
  rw [hfst] at h2
  have el : ((List.range' 0 cs.length).filter fun i => decide (0 < cs.getD i 0)).map (fun i => (((cs.getD i 0, i, [i]), [i]) : QT)) = leavesQ cs := by
    rw [← List.range_eq_range']; rfl
  rw [el, List.nil_append, show ((0 : Nat) : Int) = 0 from rfl, show ([] : List QT).map zQ = [] from rfl] at h0
  unfold depths
  rw [zs_length, need_decf (by omega) (by rw [Int.toNat_natCast]; omega), Int.toNat_natCast, fuel_of, show List.replicate cs.length (0 : Int) = zs (List.replicate cs.length 0) from zs_replicate _ 0, h0]
  simp only [bind_go]
  rw [List.length_map, hlq]
  unfold huffM
  by_cases h1 : (usedI cs).length = 1
  · obtain ⟨k, hk⟩ := List.length_eq_one_iff.1 h1
    have hm : k < cs.length ∧ 0 < cs.getD k 0 := (mem_usedI cs k).1 (by rw [hk]; simp)
    have eL : leavesQ cs = [((cs.getD k 0, k, [k]), [k])] := by unfold leavesQ; rw [hk]; rfl
    rw [if_pos h1, h1, eL, hk]
    rw [show (((1 : Nat) : Int) == 1) = true from rfl, cond_true]
    simp only [List.map_cons, List.map_nil, zQ, zs, List.length_cons, List.length_nil, List.getD_cons_zero]
    rw [need_true _ (by decide), need_true _ (by decide), need_true _ (by rw [List.length_map, List.length_replicate]; exact idx_in hm.1), Int.toNat_natCast, show (1 : Int) = ((1 : Nat) : Int) from rfl]
    exact congrArg some (zs_set _ _ _)
  · rw [if_neg h1, show (((usedI cs).length : Int) == 1) = false by simp; omega, cond_false]
    rw [show ((((usedI cs).length : Int) - 1).toNat + 1) = (usedI cs).length - 1 + 1 by omega, h2]
    rfl
end Ev
end
section
set_option linter.unusedVariables false
set_option linter.unusedSimpArgs false
namespace Ev
open Go
def half (cs : List Nat) : List Nat := cs.map fun c => (c + 1) / 2
def maxM (ns : List Nat) : Nat := ns.foldl max 0
theorem foldl_max (ns : List Nat) : ∀ m, m ≤ ns.foldl max m ∧ (∀ n ∈ ns, n ≤ ns.foldl max m) ∧ (∀ d, m ≤ d → (∀ n ∈ ns, n ≤ d) → ns.foldl max m ≤ d) := by
  induction ns with
  | nil => intro m; exact ⟨Nat.le_refl _, by simp, fun d h _ => h⟩
  | cons n r ih =>
    intro m
    obtain ⟨h1, h2, h3⟩ := ih (max m n)
    refine ⟨by simp only [List.foldl_cons]; omega, fun x hx => ?_, fun d hm hd => ?_⟩
    · rcases List.mem_cons.1 hx with rfl | hx
      · simp only [List.foldl_cons]; omega
      · exact h2 x hx
    · exact h3 d (by have := hd n (by simp); omega) fun x hx => hd x (by simp [hx])
theorem maxM_le {ns : List Nat} {d : Nat} (h : ∀ n ∈ ns, n ≤ d) : maxM ns ≤ d := (foldl_max ns 0).2.2 d (Nat.zero_le _) h
theorem le_maxM {ns : List Nat} {n : Nat} (h : n ∈ ns) : n ≤ maxM ns := (foldl_max ns 0).2.1 n h
theorem half_length (cs : List Nat) : (half cs).length = cs.length := by simp [half]
theorem half_getD (cs : List Nat) (i : Nat) : (half cs).getD i 0 = (cs.getD i 0 + 1) / 2 := by
  simp only [half, List.getD_eq_getElem?_getD, List.getElem?_map]
  cases cs[i]? <;> rfl
theorem half_used (cs : List Nat) : usedI (half cs) = usedI cs := usedI_congr cs (half cs) (half_length cs) fun i => by rw [half_getD]; omega
theorem half_sum : ∀ cs : List Nat, 2 * (half cs).sum ≤ cs.sum + used cs
  | [] => Nat.le_refl _
  | c :: r => by
    have := half_sum r
    simp only [half, List.map_cons, List.sum_cons, used] at this ⊢
    split <;> omega
theorem used_le_sum : ∀ cs : List Nat, used cs ≤ cs.sum
  | [] => Nat.le_refl _
  | c :: r => by
    have := used_le_sum r
    simp only [List.sum_cons, used]
    split <;> omega
theorem half_sum_le (cs : List Nat) : (half cs).sum ≤ cs.sum := by
  have := half_sum cs
  have := used_le_sum cs
  omega
def fitM (most : Nat) : Nat → List Nat → List Nat
  | 0, cs => huffM cs
  | n + 1, cs => if maxM (huffM cs) ≤ most then huffM cs else fitM most n (half cs)
structure CsOk (most : Nat) (cs : List Nat) : Prop where
  some : usedI cs ≠ []
  sum : cs.sum ≤ 400
  len : cs.length ≤ 300
  few : 12 ≤ most ∨ 7 ≤ most ∧ (usedI cs).length ≤ 20
theorem CsOk.half {most : Nat} {cs : List Nat} (h : CsOk most cs) : CsOk most (half cs) :=
  ⟨by rw [half_used]; exact h.some, Nat.le_trans (half_sum_le cs) h.sum, by rw [half_length]; exact h.len, by rw [half_used]; exact h.few⟩
theorem CsOk.down {most : Nat} {cs : List Nat} (h : CsOk most cs) (hm : ¬ maxM (huffM cs) ≤ most) : (Ev.half cs).sum < cs.sum := by
  obtain ⟨d, hd, ok, hf⟩ := huffM_ok cs h.some h.sum
  have hmd := maxM_le ok.le
  rcases h.few with h12 | ⟨h7, h20⟩
  · omega
  · rcases hf with h1 | hf
    · omega
    · have : fibN 10 ≤ fibN (d + 2) := fibN_mono (by omega)
      have : fibN 10 = 55 := by decide
      have := half_sum cs
      rw [used_usedI] at this
      omega
theorem fitM_ok (most : Nat) : ∀ (n : Nat) (cs : List Nat), CsOk most cs → cs.sum ≤ n → LOk cs (fitM most n cs) most
  | 0, cs, h, hn => by
    exfalso
    apply h.some
    apply List.eq_nil_iff_forall_not_mem.2
    intro i hi
    obtain ⟨h1, h2⟩ := (mem_usedI cs i).1 hi
    have : cs.getD i 0 ≤ cs.sum := by
      rw [← sum_usedI]
      obtain ⟨a, b, e⟩ := List.append_of_mem hi
      rw [e]; simp; omega
    omega
  | n + 1, cs, h, hn => by
    rw [fitM]
    by_cases c : maxM (huffM cs) ≤ most
    · rw [if_pos c]
      obtain ⟨d, hd, ok, hf⟩ := huffM_ok cs h.some h.sum
      exact ⟨ok.len, ok.pos, fun x hx => Nat.le_trans (le_maxM hx) c, ok.ok⟩
    · rw [if_neg c]
      have hs := h.down c
      have ih := fitM_ok most n (half cs) h.half (by omega)
      exact ⟨ih.len.trans (half_length cs), fun i => by rw [← ih.pos i, half_getD]; omega, ih.le, ih.ok⟩
theorem maxA_nat (a b : Nat) : maxA (a : Int) (b : Int) = ((max a b : Nat) : Int) := by
  unfold maxA
  by_cases h : (a : Int) < (b : Int)
  · rw [if_pos h]; omega
  · rw [if_neg h]; omega
theorem lensOf_l1 (most : Int) (now : List Int) (ns : List Nat) (hn : ns.length ≤ 1000) : ∀ (j i m : Nat), i + j = ns.length →
    lensOf.l1 (j + 1) (most, (m : Int), (ns.length : Int), (i : Int), now, zs ns) = some (most, (((ns.drop i).foldl max m : Nat) : Int), now, zs ns)
  | 0, i, m, h => by
    rw [lensOf.l1.succ]; simp only [lensOf.l1.step]
    rw [idx_ge (by omega), List.drop_eq_nil_of_le (by omega)]; rfl
  | j + 1, i, m, h => by
    have hi : i < ns.length := by omega
    rw [lensOf.l1.succ]; simp only [lensOf.l1.step, zs_length]
    rw [idx_lt hi, cond_true, need_true _ idx_in', Int.toNat_natCast, zs_getD, getD_in hi, maxA_nat, w64_id (by omega) (by omega), show (i : Int) + 1 = ((i + 1 : Nat) : Int) by omega,
      lensOf_l1 most now ns hn j (i + 1) _ (by omega), List.drop_eq_getElem_cons hi]
    rfl
def halfTo (cs : List Nat) (i : Nat) : List Nat := (half cs).take i ++ cs.drop i
theorem halfTo_next (cs : List Nat) (i : Nat) (hi : i < cs.length) : (halfTo cs i).set i ((cs.getD i 0 + 1) / 2) = halfTo cs (i + 1) := by
  unfold halfTo
  rw [List.drop_eq_getElem_cons hi, List.set_append_right _ _ (by simp [half_length]; omega), List.take_succ_eq_append_getElem (by rw [half_length]; exact hi)]
  have e : i - (List.take i (half cs)).length = 0 := by simp [half_length]; omega
  rw [e, List.set_cons_zero, List.append_assoc]
  congr 1
  have := half_getD cs i
  rw [getD_in (by rw [half_length]; exact hi)] at this
  rw [this]; rfl
theorem halfTo_get (cs : List Nat) (i : Nat) (hi : i < cs.length) : (halfTo cs i).getD i 0 = cs.getD i 0 := by
  unfold halfTo
  rw [getD_in (by simp [half_length]; omega), getD_in hi, List.getElem_append_right (by simp [half_length]; omega)]
  simp [half_length, Nat.min_eq_left (Nat.le_of_lt hi)]
theorem halfTo_length (cs : List Nat) (i : Nat) (hi : i ≤ cs.length) : (halfTo cs i).length = cs.length := by
  simp [halfTo, half_length]; omega
theorem lensOf_l2 (most : Int) (cs : List Nat) (hn : cs.length ≤ 1000) (hc : ∀ c ∈ cs, c ≤ 100000) : ∀ (j i : Nat), i + j = cs.length →
    lensOf.l2 (j + 1) (most, (cs.length : Int), (i : Int), zs (halfTo cs i)) = some (most, zs (half cs))
  | 0, i, h => by
    rw [lensOf.l2.succ]; simp only [lensOf.l2.step]
    have e : halfTo cs i = half cs := by
      unfold halfTo
      rw [List.drop_eq_nil_of_le (by omega), List.append_nil, List.take_of_length_le (by rw [half_length]; omega)]
    rw [idx_ge (by omega), e]; rfl
  | j + 1, i, h => by
    have hi : i < cs.length := by omega
    have hm : cs.getD i 0 ≤ 100000 := by rw [getD_in hi]; exact hc _ (List.getElem_mem hi)
    rw [lensOf.l2.succ]; simp only [lensOf.l2.step, zs_length]
    rw [halfTo_length cs i (by omega), idx_lt hi, cond_true, need_true _ idx_in', need_true _ idx_in', Int.toNat_natCast, zs_getD, halfTo_get cs i hi, w64_id (n := ((cs.getD i 0 : Nat) : Int) + 1) (by omega) (by omega), tdiv_e (by omega),
      show (((cs.getD i 0 : Nat) : Int) + 1) / 2 = (((cs.getD i 0 + 1) / 2 : Nat) : Int) by omega, w64_id (by omega) (by omega), w64_id (by omega) (by omega), show (i : Int) + 1 = ((i + 1 : Nat) : Int) by omega, zs_set, halfTo_next cs i hi]
    exact lensOf_l2 most cs hn hc j (i + 1) (by omega)
theorem mem_le_sum {cs : List Nat} {c : Nat} (h : c ∈ cs) : c ≤ cs.sum := by
  obtain ⟨a, b, rfl⟩ := List.append_of_mem h
  simp; omega
theorem lensOf_l3 (most : Nat) : ∀ (n k : Nat) (cs : List Nat), CsOk most cs → cs.sum ≤ n → n ≤ k → lensOf.l3 k ((most : Int), zs cs) = some (.inr (zs (fitM most n cs)))
  | 0, k, cs, h, hn, hk => by
    exfalso
    obtain ⟨i, hi⟩ := List.exists_mem_of_ne_nil _ h.some
    have h2 := ((mem_usedI cs i).1 hi)
    have := mem_le_sum (List.getElem_mem h2.1)
    rw [getD_in h2.1] at h2
    omega
  | n + 1, 0, cs, h, hn, hk => by omega
  | n + 1, k + 1, cs, h, hn, hk => by
    have hl := h.len
    have hs := h.sum
    obtain ⟨d, hd, ok, hf⟩ := huffM_ok cs h.some h.sum
    rw [lensOf.l3.succ]; simp only [lensOf.l3.step]
    rw [depths_eq cs (by omega) hs]
    simp only [bind_go]
    have h1 := lensOf_l1 (most : Int) (zs cs) (huffM cs) (by rw [ok.len]; omega) (huffM cs).length 0 0 (by omega)
    rw [show ((0 : Nat) : Int) = 0 from rfl, List.drop_zero] at h1
    rw [zs_length, fuel_of, h1]
    simp only [bind_go]
    have em : (huffM cs).foldl max 0 = maxM (huffM cs) := rfl
    rw [em, fitM]
    by_cases c : maxM (huffM cs) ≤ most
    · rw [decide_eq_true (by omega), cond_true, if_pos c]; rfl
    · have h2 := lensOf_l2 (most : Int) cs (by omega) (fun c hc => by have := mem_le_sum hc; omega) cs.length 0 (by omega)
      rw [show ((0 : Nat) : Int) = 0 from rfl, show halfTo cs 0 = cs by simp [halfTo]] at h2
      rw [decide_eq_false (by omega), cond_false, if_neg c, zs_length, fuel_of, h2]
      simp only [bind_go]
      have := h.down c
      exact lensOf_l3 most n k (half cs) h.half (by omega) (by omega)
theorem lensOf_l0 (most : Int) (cs : List Nat) (hn : cs.length ≤ 1000) (hc : ∀ c ∈ cs, c ≤ 100000) : ∀ (j i m : Nat), i + j = cs.length → m ≤ i →
    lensOf.l0 (j + 1) (most, (m : Int), zs cs, (cs.length : Int), (i : Int), zs (cs.take i)) = some (.inl (most, ((m + used (cs.drop i) : Nat) : Int), zs cs))
  | 0, i, m, h, hm => by
    rw [lensOf.l0.succ]; simp only [lensOf.l0.step]
    rw [idx_ge (by omega), List.drop_eq_nil_of_le (by omega), List.take_of_length_le (by omega)]; rfl
  | j + 1, i, m, h, hm => by
    have hi : i < cs.length := by omega
    have hm2 : cs.getD i 0 ≤ 100000 := by rw [getD_in hi]; exact hc _ (List.getElem_mem hi)
    have ht : zs (cs.take i) ++ [((cs.getD i 0 : Nat) : Int)] = zs (cs.take (i + 1)) := by rw [take_succ' cs i 0 hi, zs_append]; rfl
    rw [lensOf.l0.succ]; simp only [lensOf.l0.step, zs_length]
    rw [idx_lt hi, cond_true, need_true _ idx_in', Int.toNat_natCast, zs_getD, within_eq', show decide ((0 : Int) ≤ ((cs.getD i 0 : Nat) : Int) ∧ ((cs.getD i 0 : Nat) : Int) ≤ 100000) = true by simp only [decide_eq_true_eq]; omega]
    simp only [bind_go, Bool.not_true, cond_false]
    rw [need_fits (by simp; omega), need_fits (by simp; omega), ht, w64_id (n := (i : Int) + 1) (by omega) (by omega), show (i : Int) + 1 = ((i + 1 : Nat) : Int) by omega, w64_id (n := (m : Int) + 1) (by omega) (by omega), show (m : Int) + 1 = ((m + 1 : Nat) : Int) by omega,
      List.drop_eq_getElem_cons hi, used]
    rw [getD_in hi]
    by_cases c : 0 < cs[i]
    · rw [decide_eq_true (by omega), cond_true, if_pos c, lensOf_l0 most cs hn hc j (i + 1) (m + 1) (by omega) (by omega), Nat.add_assoc]
    · rw [decide_eq_false (by omega), cond_false, if_neg c, lensOf_l0 most cs hn hc j (i + 1) m (by omega) (by omega), Nat.zero_add]
theorem used_pos {cs : List Nat} (h : usedI cs ≠ []) : 1 ≤ used cs := by
  rw [used_usedI]; exact List.length_pos_iff.2 h
theorem lensOf_eq (most : Nat) (cs : List Nat) (h : CsOk most cs) (h15 : most ≤ 15) (hu : used cs ≤ 2 ^ (most - 1)) : lensOf (zs cs) (most : Int) = some (zs (fitM most cs.sum cs)) := by
  have hl := h.len
  have hs := h.sum
  have hm : 1 ≤ most := by rcases h.few with h | h <;> omega
  have hp : 2 ^ (most - 1) ≤ 2 ^ 14 := Nat.pow_le_pow_right (by omega) (by omega)
  have hup := used_pos h.some
  have h0 := lensOf_l0 (most : Int) cs (by omega) (fun c hc => by have := mem_le_sum hc; omega) cs.length 0 0 (by omega) (by omega)
  rw [show ((0 : Nat) : Int) = 0 from rfl, List.drop_zero, List.take_zero, Nat.zero_add, show zs [] = [] from rfl] at h0
  have hsh := ishl_nat 1 (most - 1) (by omega) (by omega)
  rw [Nat.one_mul, show ((1 : Nat) : Int) = 1 from rfl] at hsh
  unfold lensOf
  rw [zs_length, decide_eq_false (by omega), cond_false, within_eq', show decide ((1 : Int) ≤ (most : Int) ∧ (most : Int) ≤ 15) = true by simp only [decide_eq_true_eq]; omega]
  simp only [bind_go, Bool.not_true, cond_false]
  rw [fuel_of, h0]
  simp only [bind_go]
  rw [w64_id (by omega) (by omega), show (most : Int) - 1 = ((most - 1 : Nat) : Int) by omega, need_dec (by omega), hsh, within_eq',
    show decide ((1 : Int) ≤ ((used cs : Nat) : Int) ∧ ((used cs : Nat) : Int) ≤ ((2 ^ (most - 1) : Nat) : Int)) = true by simp only [decide_eq_true_eq]; omega]
  simp only [bind_go, Bool.not_true, cond_false]
  rw [lensOf_l3 most cs.sum 100000 cs h (Nat.le_refl _) (by omega)]
  rfl
end Ev
end
section
set_option linter.unusedVariables false
set_option linter.unusedSimpArgs false
namespace Ev
open Go
def trimGo (ns : List Nat) (least : Nat) : Nat → Nat
  | 0 => 0
  | n + 1 => if least < n + 1 ∧ ns.getD n 0 = 0 then trimGo ns least n else n + 1
def trimM (ns : List Nat) (least : Nat) : List Nat := ns.take (trimGo ns least ns.length)
theorem trimGo_spec (ns : List Nat) (least : Nat) : ∀ n, least ≤ n → least ≤ trimGo ns least n ∧ trimGo ns least n ≤ n ∧ ∀ i, trimGo ns least n ≤ i → i < n → ns.getD i 0 = 0
  | 0, h => ⟨by simpa [trimGo] using h, Nat.le_refl _, fun i _ h => by omega⟩
  | n + 1, h => by
    rw [trimGo]
    by_cases c : least < n + 1 ∧ ns.getD n 0 = 0
    · rw [if_pos c]
      obtain ⟨h1, h2, h3⟩ := trimGo_spec ns least n (by omega)
      refine ⟨h1, by omega, fun i hi hn => ?_⟩
      by_cases e : i = n
      · subst e; exact c.2
      · exact h3 i hi (by omega)
    · rw [if_neg c]; exact ⟨h, Nat.le_refl _, fun i _ h => by omega⟩
theorem trimM_spec (ns : List Nat) (least : Nat) (h : least ≤ ns.length) : least ≤ (trimM ns least).length ∧ (trimM ns least).length ≤ ns.length ∧ (∀ n ∈ trimM ns least, n ∈ ns) ∧ ∃ k, ns = trimM ns least ++ List.replicate k 0 := by
  obtain ⟨h1, h2, h3⟩ := trimGo_spec ns least ns.length h
  unfold trimM
  refine ⟨by rw [List.length_take]; omega, by rw [List.length_take]; omega, fun n hn => List.mem_of_mem_take hn, (ns.drop (trimGo ns least ns.length)).length, ?_⟩
  rw [← List.eq_replicate_of_mem (a := 0) (l := ns.drop (trimGo ns least ns.length)) (fun b hb => ?_), List.take_append_drop]
  obtain ⟨i, hi, rfl⟩ := List.getElem_of_mem hb
  rw [List.length_drop] at hi
  have := h3 (trimGo ns least ns.length + i) (by omega) (by omega)
  rw [getD_in (by omega)] at this
  rw [List.getElem_drop]; exact this
theorem kraft_append (a b : List Nat) : kraft (a ++ b) = kraft a + kraft b := by
  induction a with
  | nil => simp [kraft]
  | cons n r ih => simp only [List.cons_append, kraft, ih]; omega
theorem used_append (a b : List Nat) : used (a ++ b) = used a + used b := by
  induction a with
  | nil => simp [used]
  | cons n r ih => simp only [List.cons_append, used, ih]; omega
theorem kraft_zero (k : Nat) : kraft (List.replicate k 0) = 0 ∧ used (List.replicate k 0) = 0 := by
  induction k with
  | zero => exact ⟨rfl, rfl⟩
  | succ k ih => rw [List.replicate_succ]; simp [kraft, used, ih.1, ih.2]
theorem trimM_code (ns : List Nat) (least : Nat) (h : least ≤ ns.length) : kraft (trimM ns least) = kraft ns ∧ used (trimM ns least) = used ns ∧ (∀ i, (trimM ns least).getD i 0 = ns.getD i 0) ∧ ∀ i, 0 < ns.getD i 0 → i < (trimM ns least).length := by
  obtain ⟨_, _, _, k, hk⟩ := trimM_spec ns least h
  have hg : ∀ i, (trimM ns least).getD i 0 = ns.getD i 0 := fun i => by
    conv => rhs; rw [hk]
    by_cases hi : i < (trimM ns least).length
    · rw [getD_in hi, getD_in (by simp; omega), List.getElem_append_left hi]
    · have : (trimM ns least).getD i 0 = 0 := by simp [List.getD, Nat.le_of_not_lt hi]
      rw [this]
      by_cases h2 : i < (trimM ns least ++ List.replicate k 0).length
      · rw [getD_in h2, List.getElem_append_right (by omega)]; simp
      · simp only [List.getD_eq_getElem?_getD, List.getElem?_eq_none (Nat.le_of_not_lt h2)]; rfl
  refine ⟨?_, ?_, hg, fun i hi => ?_⟩
  · conv => rhs; rw [hk]
    rw [kraft_append, (kraft_zero k).1, Nat.add_zero]
  · conv => rhs; rw [hk]
    rw [used_append, (kraft_zero k).2, Nat.add_zero]
  · rcases Nat.lt_or_ge i (trimM ns least).length with h1 | h1
    · exact h1
    · rw [← hg i, show (trimM ns least).getD i 0 = 0 by simp [List.getD, h1]] at hi; omega
theorem trimmed_l0 (ns : List Nat) (hn : ns.length ≤ 1000) (least : Nat) : ∀ (k n : Nat), least ≤ n → n ≤ ns.length → n - least ≤ k → trimmed.l0 (k + 1) (zs ns, (least : Int), (n : Int)) = some (zs ns, (trimGo ns least n : Int))
  | k, 0, h1, h2, h3 => by
    rw [trimmed.l0.succ]; simp only [trimmed.l0.step]
    rw [decide_eq_false (by omega)]; rfl
  | 0, n + 1, h1, h2, h3 => by
    rw [trimmed.l0.succ]; simp only [trimmed.l0.step]
    rw [decide_eq_false (by omega), trimGo, if_neg (by omega)]; rfl
  | k + 1, n + 1, h1, h2, h3 => by
    rw [trimmed.l0.succ]; simp only [trimmed.l0.step, zs_length]
    rw [w64_id (by omega) (by omega), show ((n + 1 : Nat) : Int) - 1 = (n : Int) by omega, need_true _ (idx_in (by omega)), Int.toNat_natCast, zs_getD, trimGo]
    by_cases c : least < n + 1
    · rw [decide_eq_true (by omega), cond_true]
      simp only [bind_go]
      by_cases z : ns.getD n 0 = 0
      · rw [if_pos ⟨c, z⟩, z, show (((0 : Nat) : Int) == 0) = true from rfl, cond_true]
        exact trimmed_l0 ns hn least k n (by omega) (by omega) (by omega)
      · rw [if_neg (fun e => z e.2), show (((ns.getD n 0 : Nat) : Int) == 0) = false by simp only [beq_eq_false_iff_ne, ne_eq]; omega, cond_false]
    · rw [decide_eq_false (by omega), if_neg (fun e => c e.1)]; rfl
theorem trimmed_eq (ns : List Nat) (hn : ns.length ≤ 1000) (least : Nat) (h : least ≤ ns.length) : trimmed (zs ns) (least : Int) = some (zs (trimM ns least)) := by
  have h1 := trimmed_l0 ns hn least (ns.length - least) ns.length h (Nat.le_refl _) (Nat.le_refl _)
  obtain ⟨_, h2, _⟩ := trimGo_spec ns least ns.length h
  unfold trimmed
  rw [zs_length, show ((ns.length : Int) - (least : Int)).toNat = ns.length - least by omega, h1]
  simp only [bind_go, zs_length]
  rw [need_true _ (by simp; omega), Int.toNat_natCast]
  simp only [trimM, zs, List.map_take]
end Ev
end
section
set_option linter.unusedVariables false
set_option linter.unusedSimpArgs false
namespace Ev
open Go
def litS : Tk → List Nat
  | .lit c => [c]
  | .far l _ => [257 + symF longF l]
def bakS : Tk → List Nat
  | .lit _ => []
  | .far _ k => [symF backF k]
def litSs (ts : List Tk) : List Nat := ts.flatMap litS
def bakSs (ts : List Tk) : List Nat := ts.flatMap bakS
def cntX0 : List Nat := (List.replicate 286 0).set 256 1
def cntX (ts : List Tk) : List Nat := bump cntX0 (litSs ts)
def cntY0 (ts : List Tk) : List Nat := bump (List.replicate 30 0) (bakSs ts)
def cntY (ts : List Tk) : List Nat := if bakSs ts = [] then (cntY0 ts).set 0 1 else cntY0 ts
theorem cntX0_length : cntX0.length = 286 := by kernel_rfl
theorem cntX0_sum : cntX0.sum = 1 := by kernel_rfl
theorem cntX0_le (i : Nat) : cntX0.getD i 0 ≤ 1 := by
  by_cases h : i < 286
  · rw [getD_in (by rw [cntX0_length]; exact h)]
    unfold cntX0
    rw [List.getElem_set]
    split
    · omega
    · rw [List.getElem_replicate]; omega
  · simp [List.getD, cntX0_length, Nat.le_of_not_lt h]
theorem litSs_take (ts : List Tk) (i : Nat) (hi : i < ts.length) : litSs (ts.take (i + 1)) = litSs (ts.take i) ++ litS ts[i] := by
  unfold litSs; rw [List.take_succ_eq_append_getElem hi, List.flatMap_append]; simp only [List.flatMap_cons, List.flatMap_nil, List.append_nil]
theorem bakSs_take (ts : List Tk) (i : Nat) (hi : i < ts.length) : bakSs (ts.take (i + 1)) = bakSs (ts.take i) ++ bakS ts[i] := by
  unfold bakSs; rw [List.take_succ_eq_append_getElem hi, List.flatMap_append]; simp only [List.flatMap_cons, List.flatMap_nil, List.append_nil]
theorem litSs_length : ∀ ts : List Tk, (litSs ts).length = ts.length
  | [] => rfl
  | .lit c :: r => by have := litSs_length r; simp only [litSs, List.flatMap_cons, List.length_append, List.length_cons] at this ⊢; simp only [litS, List.length_cons, List.length_nil]; omega
  | .far l k :: r => by have := litSs_length r; simp only [litSs, List.flatMap_cons, List.length_append, List.length_cons] at this ⊢; simp only [litS, List.length_cons, List.length_nil]; omega
theorem bakSs_length : ∀ ts : List Tk, (bakSs ts).length ≤ ts.length
  | [] => Nat.le_refl _
  | .lit c :: r => by have := bakSs_length r; simp only [bakSs, List.flatMap_cons, List.length_append, List.length_cons] at this ⊢; simp only [bakS, List.length_nil]; omega
  | .far l k :: r => by have := bakSs_length r; simp only [bakSs, List.flatMap_cons, List.length_append, List.length_cons] at this ⊢; simp only [bakS, List.length_cons, List.length_nil]; omega
theorem litS_lt (t : Tk) (h : t.Ok) : ∀ s ∈ litS t, s < 286 := by
  intro s hs
  cases t with
  | lit c => have : s = c := by simpa [litS] using hs
             subst this; have : s < 256 := h; omega
  | far l k => have : s = 257 + symF longF l := by simpa [litS] using hs
               have := (sym_long l h.1 h.2.1).2.2.1; omega
theorem bakS_lt (t : Tk) (h : t.Ok) : ∀ s ∈ bakS t, s < 30 := by
  intro s hs
  cases t with
  | lit c => simp [bakS] at hs
  | far l k => have : s = symF backF k := by simpa [bakS] using hs
               have := (sym_back k h.2.2.1 h.2.2.2).2.2.1; omega
theorem bump_one (out S : List Nat) (s : Nat) (h : s < out.length) (hb : ∀ i, out.getD i 0 ≤ 1) (hS : S.length ≤ 1000) (h2 : out.length ≤ 1000) :
    (zs (bump out S)).set s (w64 ((zs (bump out S)).getD s 0 + 1)) = zs (bump out (S ++ [s])) := by
  have h1 := bump_getD out S s h
  have h3 := List.count_le_length (a := s) (l := S)
  have := hb s
  rw [zs_getD, w64_id (by omega) (by omega), show (((bump out S).getD s 0 : Nat) : Int) + 1 = (((bump out S).getD s 0 + 1 : Nat) : Int) by omega, zs_set, ← bump_snoc out S s h]
theorem rep_le (n i : Nat) : (List.replicate n 0).getD i 0 ≤ 1 := by rw [replicate_getD]; omega
theorem ownPut_l0 (ts : List Tk) (hts : ∀ t ∈ ts, t.Ok) (hn : ts.length ≤ 1000) : ∀ (j i : Nat), i + j = ts.length →
    ownPut.l0 (j + 1) (decide (bakSs (ts.take i) = []), (ts.length : Int), (i : Int), ts.map Tk.z, zs (bump cntX0 (litSs (ts.take i))), zs (bump (List.replicate 30 0) (bakSs (ts.take i)))) =
      some (decide (bakSs ts = []), ts.map Tk.z, zs (cntX ts), zs (cntY0 ts))
  | 0, i, h => by
    rw [ownPut.l0.succ]; simp only [ownPut.l0.step]
    rw [idx_ge (by omega), List.take_of_length_le (by omega)]; rfl
  | j + 1, i, h => by
    have hi : i < ts.length := by omega
    have hok := hts ts[i] (List.getElem_mem hi)
    have ih := ownPut_l0 ts hts hn j (i + 1) (by omega)
    have hl1 := litSs_length (ts.take i)
    have hl2 := bakSs_length (ts.take i)
    rw [List.length_take] at hl1 hl2
    have hA := cntX0_length
    rw [← ih, litSs_take ts i hi, bakSs_take ts i hi]
    rw [ownPut.l0.succ]; simp only [ownPut.l0.step]
    rw [idx_lt hi, cond_true, need_true _ (by rw [List.length_map]; exact idx_in hi), Int.toNat_natCast, zmap_get ts i hi, w64_id (n := (i : Int) + 1) (by omega) (by omega), show (i : Int) + 1 = ((i + 1 : Nat) : Int) by omega]
    cases hk : ts[i] with
    | lit c =>
      rw [hk] at hok
      have hc : c < 256 := hok
      have b1 := bump_one cntX0 (litSs (ts.take i)) c (by omega) cntX0_le (by omega) (by omega)
      rw [show (Tk.lit c).z = ((c : Int), 0, 0) from rfl]
      dsimp only
      rw [show ((0 : Int) == 0) = true from rfl, cond_true, need_true _ (idx_in (by rw [zs_length, bump_length]; omega)), need_true _ (idx_in (by rw [zs_length, bump_length]; omega)), Int.toNat_natCast, b1]
      simp only [litS, bakS, List.append_nil]
    | far n k =>
      rw [hk] at hok
      obtain ⟨o1, o2, o3, o4⟩ := hok
      obtain ⟨a1, a2, a3, a4, a5⟩ := sym_long n o1 o2
      obtain ⟨b1, b2, b3, b4, b5⟩ := sym_back k o3 o4
      have e1 := bump_one cntX0 (litSs (ts.take i)) (257 + symF longF n) (by omega) cntX0_le (by omega) (by omega)
      have e2 := bump_one (List.replicate 30 0) (bakSs (ts.take i)) (symF backF k) (by simp; omega) (rep_le 30) (by omega) (by simp)
      have eL := longsOf_eq
      have eB := backsOf_eq
      generalize zs longF = A at eL a1
      generalize zs longB = A' at eL a1
      generalize zs backF = B at eB b1
      generalize zs backB = B' at eB b1
      rw [show (Tk.far n k).z = (0, (n : Int), (k : Int)) from rfl]
      dsimp only
      rw [show ((n : Int) == 0) = false by simp; omega, cond_false, eL, eB]
      simp only [bind_go]
      rw [a1]
      simp only [bind_go]
      rw [w64_id (n := 257 + ((symF longF n : Nat) : Int)) (by omega) (by omega), show (257 : Int) + ((symF longF n : Nat) : Int) = ((257 + symF longF n : Nat) : Int) by omega,
        need_true _ (idx_in (by rw [zs_length, bump_length]; omega)), need_true _ (idx_in (by rw [zs_length, bump_length]; omega)), b1]
      simp only [bind_go]
      rw [need_true _ (idx_in (by rw [zs_length, bump_length]; simp; omega)), need_true _ (idx_in (by rw [zs_length, bump_length]; simp; omega)), Int.toNat_natCast, Int.toNat_natCast, e1, e2]
      rw [show litS (Tk.far n k) = [257 + symF longF n] from rfl, show bakS (Tk.far n k) = [symF backF k] from rfl, decide_eq_false (show ¬ bakSs (ts.take i) ++ [symF backF k] = [] by simp)]
theorem sum_set : ∀ (l : List Nat) (i x : Nat), i < l.length → l.getD i 0 + (l.set i x).sum = l.sum + x
  | [], i, x, h => by simp at h
  | a :: r, 0, x, h => by simp; omega
  | a :: r, i + 1, x, h => by
    have := sum_set r i x (by simpa using h)
    simp only [List.set_cons_succ, List.sum_cons, List.getD_cons_succ]; omega
theorem sum_bump (out : List Nat) (S : List Nat) (h : ∀ s ∈ S, s < out.length) : ∀ k, k ≤ S.length → (bump out (S.take k)).sum = out.sum + k
  | 0, _ => by rw [List.take_zero, bump_nil]; rfl
  | k + 1, hk => by
    have hs := h S[k] (List.getElem_mem hk)
    have ih := sum_bump out S h k (by omega)
    rw [List.take_succ_eq_append_getElem hk, bump_snoc out _ _ hs]
    have := sum_set (bump out (S.take k)) S[k] ((bump out (S.take k)).getD S[k] 0 + 1) (by rw [bump_length]; exact hs)
    omega
theorem sum_bump' (out : List Nat) (S : List Nat) (h : ∀ s ∈ S, s < out.length) : (bump out S).sum = out.sum + S.length := by
  have := sum_bump out S h S.length (Nat.le_refl _)
  rwa [List.take_of_length_le (Nat.le_refl _)] at this
theorem litSs_lt (ts : List Tk) (hts : ∀ t ∈ ts, t.Ok) : ∀ s ∈ litSs ts, s < 286 := by
  intro s hs
  obtain ⟨t, ht, h⟩ := List.mem_flatMap.1 hs
  exact litS_lt t (hts t ht) s h
theorem bakSs_lt (ts : List Tk) (hts : ∀ t ∈ ts, t.Ok) : ∀ s ∈ bakSs ts, s < 30 := by
  intro s hs
  obtain ⟨t, ht, h⟩ := List.mem_flatMap.1 hs
  exact bakS_lt t (hts t ht) s h
theorem cntX_ok (ts : List Tk) (hts : ∀ t ∈ ts, t.Ok) (hn : ts.length ≤ 300) : CsOk 15 (cntX ts) ∧ (cntX ts).length = 286 ∧ (∀ s ∈ litSs ts, 0 < (cntX ts).getD s 0) ∧ 0 < (cntX ts).getD 256 0 := by
  have hl : (cntX ts).length = 286 := (bump_length _ _).trans cntX0_length
  have hs : (cntX ts).sum = 1 + ts.length := by
    unfold cntX
    rw [sum_bump' _ _ (fun s hs => by rw [cntX0_length]; exact litSs_lt ts hts s hs), cntX0_sum, litSs_length]
  have h256 : 0 < (cntX ts).getD 256 0 := by
    unfold cntX
    rw [bump_getD _ _ _ (by rw [cntX0_length]; omega), show cntX0.getD 256 0 = 1 by kernel_rfl]; omega
  refine ⟨⟨fun h => ?_, by omega, by omega, .inl (by omega)⟩, hl, fun s hs => ?_, h256⟩
  · have : 256 ∈ usedI (cntX ts) := (mem_usedI _ _).2 ⟨by omega, h256⟩
    rw [h] at this; simp at this
  · unfold cntX
    rw [bump_getD _ _ _ (by rw [cntX0_length]; exact litSs_lt ts hts s hs)]
    have := List.count_pos_iff.2 hs
    omega
theorem cntY_ok (ts : List Tk) (hts : ∀ t ∈ ts, t.Ok) (hn : ts.length ≤ 300) : CsOk 15 (cntY ts) ∧ (cntY ts).length = 30 ∧ (∀ s ∈ bakSs ts, 0 < (cntY ts).getD s 0) := by
  have hl0 : (cntY0 ts).length = 30 := (bump_length _ _).trans (by simp)
  have hs0 : (cntY0 ts).sum = (bakSs ts).length := by
    unfold cntY0
    rw [sum_bump' _ _ (fun s hs => by simp; exact bakSs_lt ts hts s hs)]; simp
  have hbl := bakSs_length ts
  unfold cntY
  by_cases h : bakSs ts = []
  · rw [if_pos h]
    have hz : ∀ i, (cntY0 ts).getD i 0 = 0 := fun i => by unfold cntY0; rw [h, bump_nil, replicate_getD]
    have hsm : ((cntY0 ts).set 0 1).sum = 1 := by
      have := sum_set (cntY0 ts) 0 1 (by omega)
      rw [hz 0, hs0, h] at this
      simpa using this
    have hg : 0 < ((cntY0 ts).set 0 1).getD 0 0 := by rw [getD_in (by simp; omega)]; simp
    refine ⟨⟨fun e => ?_, by omega, by simp; omega, .inl (by omega)⟩, by simp; omega, fun s hs => by rw [h] at hs; simp at hs⟩
    have : 0 ∈ usedI ((cntY0 ts).set 0 1) := (mem_usedI _ _).2 ⟨by simp; omega, hg⟩
    rw [e] at this; simp at this
  · rw [if_neg h]
    have hp : ∀ s ∈ bakSs ts, 0 < (cntY0 ts).getD s 0 := fun s hs => by
      unfold cntY0
      rw [bump_getD _ _ _ (by simp; exact bakSs_lt ts hts s hs)]
      have := List.count_pos_iff.2 hs
      omega
    refine ⟨⟨fun e => ?_, by omega, by omega, .inl (by omega)⟩, hl0, hp⟩
    obtain ⟨s, hs⟩ := List.exists_mem_of_ne_nil _ h
    have : s ∈ usedI (cntY0 ts) := (mem_usedI _ _).2 ⟨by have := bakSs_lt ts hts s hs; omega, hp s hs⟩
    rw [e] at this; simp at this
end Ev
end
section
set_option linter.unusedVariables false
set_option linter.unusedSimpArgs false
namespace Ev
open Go
def orderL : List Nat := [16, 17, 18, 0, 8, 7, 9, 6, 10, 5, 11, 4, 12, 3, 13, 2, 14, 1, 15]
def ownL (ts : List Tk) : List Nat := trimM (fitM 15 (cntX ts).sum (cntX ts)) 257
def ownD (ts : List Tk) : List Nat := trimM (fitM 15 (cntY ts).sum (cntY ts)) 1
def ownS (ts : List Tk) : List Nat := ownL ts ++ ownD ts
def ownC (ts : List Tk) : List Nat := bump (List.replicate 19 0) (ownS ts)
def ownM (ts : List Tk) : List Nat := fitM 7 (ownC ts).sum (ownC ts)
structure OwnOk (ts : List Tk) : Prop where
  l1 : 257 ≤ (ownL ts).length
  l2 : (ownL ts).length ≤ 286
  d1 : 1 ≤ (ownD ts).length
  d2 : (ownD ts).length ≤ 30
  l15 : ∀ n ∈ ownL ts, n ≤ 15
  d15 : ∀ n ∈ ownD ts, n ≤ 15
  lk : kraft (ownL ts) = 32768 ∨ used (ownL ts) = 1 ∧ kraft (ownL ts) = 16384
  dk : kraft (ownD ts) = 32768 ∨ used (ownD ts) = 1 ∧ kraft (ownD ts) = 16384
  lpos : ∀ s ∈ litSs ts, 0 < (ownL ts).getD s 0 ∧ s < (ownL ts).length
  dpos : ∀ s ∈ bakSs ts, 0 < (ownD ts).getD s 0 ∧ s < (ownD ts).length
  epos : 0 < (ownL ts).getD 256 0
  c : CsOk 7 (ownC ts)
  m : LOk (ownC ts) (ownM ts) 7
  ml : (ownM ts).length = 19
  mpos : ∀ s ∈ ownS ts, 0 < (ownM ts).getD s 0 ∧ s < 19
theorem own_ok (ts : List Tk) (hts : ∀ t ∈ ts, t.Ok) (hn : ts.length ≤ 300) : OwnOk ts := by
  obtain ⟨a1, a2, a3, a4⟩ := cntX_ok ts hts hn
  obtain ⟨b1, b2, b3⟩ := cntY_ok ts hts hn
  have la := fitM_ok 15 _ _ a1 (Nat.le_refl _)
  have lb := fitM_ok 15 _ _ b1 (Nat.le_refl _)
  have lal := la.len.trans a2
  have lbl := lb.len.trans b2
  obtain ⟨t1, t2, t3, _⟩ := trimM_spec (fitM 15 (cntX ts).sum (cntX ts)) 257 (by omega)
  obtain ⟨u1, u2, u3, _⟩ := trimM_spec (fitM 15 (cntY ts).sum (cntY ts)) 1 (by omega)
  obtain ⟨v1, v2, v3, v4⟩ := trimM_code (fitM 15 (cntX ts).sum (cntX ts)) 257 (by omega)
  obtain ⟨w1, w2, w3, w4⟩ := trimM_code (fitM 15 (cntY ts).sum (cntY ts)) 1 (by omega)
  have h15 : ∀ s ∈ ownS ts, s < 19 := fun s hs => by
    rcases List.mem_append.1 hs with hs | hs
    · have := la.le s (t3 s hs); omega
    · have := lb.le s (u3 s hs); omega
  have hlen : (ownS ts).length ≤ 316 ∧ 258 ≤ (ownS ts).length := by
    have e : (ownS ts).length = (ownL ts).length + (ownD ts).length := List.length_append
    unfold ownL ownD at e
    omega
  have hcs : (ownC ts).sum = (ownS ts).length := by
    unfold ownC
    rw [sum_bump' _ _ (fun s hs => by rw [List.length_replicate]; exact h15 s hs), show (List.replicate 19 0).sum = 0 from rfl, Nat.zero_add]
  have hcl : (ownC ts).length = 19 := (bump_length _ _).trans (by rw [List.length_replicate])
  have hcp : ∀ s ∈ ownS ts, 0 < (ownC ts).getD s 0 := fun s hs => by
    unfold ownC
    rw [bump_getD _ _ _ (by rw [List.length_replicate]; exact h15 s hs)]
    have := List.count_pos_iff.2 hs
    omega
  have hc : CsOk 7 (ownC ts) := by
    refine ⟨fun e => ?_, by omega, by omega, .inr ⟨Nat.le_refl _, by have := usedI_length (ownC ts); omega⟩⟩
    have hne : ownS ts ≠ [] := fun e => by rw [e] at hlen; simp at hlen
    obtain ⟨s, hs⟩ := List.exists_mem_of_ne_nil _ hne
    have : s ∈ usedI (ownC ts) := (mem_usedI _ _).2 ⟨by rw [hcl]; exact h15 s hs, hcp s hs⟩
    rw [e] at this; simp at this
  have lm := fitM_ok 7 _ _ hc (Nat.le_refl _)
  exact ⟨t1, by unfold ownL; omega, u1, by unfold ownD; omega, fun n hn => la.le n (t3 n hn), fun n hn => lb.le n (u3 n hn), by unfold ownL; rw [v1, v2]; exact la.ok, by unfold ownD; rw [w1, w2]; exact lb.ok,
    fun s hs => ⟨by unfold ownL; rw [v3]; exact (la.pos s).1 (a3 s hs), v4 s ((la.pos s).1 (a3 s hs))⟩, fun s hs => ⟨by unfold ownD; rw [w3]; exact (lb.pos s).1 (b3 s hs), w4 s ((lb.pos s).1 (b3 s hs))⟩,
    by unfold ownL; rw [v3]; exact (la.pos 256).1 a4, hc, lm, lm.len.trans hcl, fun s hs => ⟨(lm.pos s).1 (hcp s hs), h15 s hs⟩⟩
theorem OwnOk.kl {ts : List Tk} (h : OwnOk ts) : kraft (ownL ts) ≤ 32768 := by rcases h.lk with h | h <;> omega
theorem OwnOk.kd {ts : List Tk} (h : OwnOk ts) : kraft (ownD ts) ≤ 32768 := by rcases h.dk with h | h <;> omega
theorem OwnOk.km {ts : List Tk} (h : OwnOk ts) : kraft (ownM ts) ≤ 32768 := by rcases h.m.ok with h | h <;> omega
theorem OwnOk.m15 {ts : List Tk} (h : OwnOk ts) : ∀ n ∈ ownM ts, n ≤ 15 := fun n hn => by have := h.m.le n hn; omega
theorem OwnOk.m7 {ts : List Tk} (h : OwnOk ts) (i : Nat) : (ownM ts).getD i 0 ≤ 7 := by
  by_cases hi : i < (ownM ts).length
  · rw [getD_in hi]; exact h.m.le _ (List.getElem_mem hi)
  · simp [List.getD, Nat.le_of_not_lt hi]
theorem OwnOk.tin {ts : List Tk} (h : OwnOk ts) : ∀ t ∈ ts, t.In (ownL ts) (ownD ts) := fun t ht => by
  cases t with
  | lit c => exact (h.lpos c (List.mem_flatMap.2 ⟨_, ht, by simp [litS]⟩)).2
  | far l k => exact ⟨(h.lpos _ (List.mem_flatMap.2 ⟨_, ht, by simp [litS]⟩)).2, (h.dpos _ (List.mem_flatMap.2 ⟨_, ht, by simp [bakS]⟩)).2⟩
def metaB (M : List Nat) (is : List Nat) : List Bool := is.flatMap fun k => numB (M.getD k 0) 3
def allB (M : List Nat) (S : List Nat) : List Bool := S.flatMap (symB M)
theorem metaB_length (M : List Nat) : ∀ is, (metaB M is).length = 3 * is.length
  | [] => rfl
  | k :: r => by have := metaB_length M r; simp only [metaB, List.flatMap_cons, List.length_append, List.length_cons, numB_length] at this ⊢; omega
theorem allB_length (M : List Nat) (h15 : ∀ n ∈ M, n ≤ 15) : ∀ S : List Nat, (∀ s ∈ S, s < M.length) → (allB M S).length ≤ 15 * S.length
  | [], _ => by simp [allB]
  | s :: r, h => by
    have := allB_length M h15 r (fun x hx => h x (by simp [hx]))
    have hs := symB_length M s (h s (by simp)) h15
    simp only [allB, List.flatMap_cons, List.length_append, List.length_cons] at this ⊢; omega
theorem ownPut_l1 (lit dist : List Int) (list : List (Int × Int × Int)) (S : List Nat) (hn : S.length ≤ 1000) (hS : ∀ s ∈ S, s < 19) : ∀ (j i : Nat), i + j = S.length →
    ownPut.l1 (j + 1) (lit, dist, (S.length : Int), (i : Int), list, zs S, zs (bump (List.replicate 19 0) (S.take i))) = some (lit, dist, list, zs S, zs (bump (List.replicate 19 0) S))
  | 0, i, h => by
    rw [ownPut.l1.succ]; simp only [ownPut.l1.step]
    rw [idx_ge (by omega), List.take_of_length_le (by omega)]; rfl
  | j + 1, i, h => by
    have hi : i < S.length := by omega
    have hs := hS S[i] (List.getElem_mem hi)
    have b1 := bump_one (List.replicate 19 0) (S.take i) S[i] (by rw [List.length_replicate]; exact hs) (rep_le 19) (by rw [List.length_take]; omega) (by rw [List.length_replicate]; omega)
    rw [ownPut.l1.succ]; simp only [ownPut.l1.step, zs_length, bump_length, List.length_replicate]
    rw [idx_lt hi, cond_true, need_true _ idx_in', Int.toNat_natCast, zs_getD, getD_in hi, need_true _ (by simp; omega), need_true _ (by simp; omega), Int.toNat_natCast, b1, ← List.take_succ_eq_append_getElem hi, w64_id (by omega) (by omega), show (i : Int) + 1 = ((i + 1 : Nat) : Int) by omega]
    exact ownPut_l1 lit dist list S hn hS j (i + 1) (by omega)
theorem orderL_lt (i : Nat) (h : i < 19) : orderL.getD i 0 < 19 := by
  have : (List.range 19).all (fun k => decide (orderL.getD k 0 < 19)) = true := by decide
  simpa using List.all_eq_true.1 this i (List.mem_range.2 h)
theorem ownPut_l2 (lit dist : List Int) (list : List (Int × Int × Int)) (all : List Int) (M : List Nat) (hM : M.length = 19) (h7 : ∀ i, M.getD i 0 ≤ 7) : ∀ (j i : Nat) (l : List Bool), i + j = 19 → l.length + 3 * j ≤ 10000 →
    ownPut.l2 (j + 1) (lit, dist, zs orderL, 19, (i : Int), list, all, zs M, (l.length : Int), pack l) = some (lit, dist, list, all, zs M, (((l ++ metaB M (orderL.drop i)).length : Nat) : Int), pack (l ++ metaB M (orderL.drop i)))
  | 0, i, l, h, hl => by
    have : i = 19 := by omega
    subst this
    rw [ownPut.l2.succ]; simp only [ownPut.l2.step]
    rw [decide_eq_false (by omega), show orderL.drop 19 = [] from rfl]; simp [metaB]
  | j + 1, i, l, h, hl => by
    have hi : i < orderL.length := by show i < 19; omega
    have ho := orderL_lt i (by omega)
    have e : metaB M (orderL.drop i) = numB (M.getD (orderL.getD i 0) 0) 3 ++ metaB M (orderL.drop (i + 1)) := by
      rw [List.drop_eq_getElem_cons hi, getD_in hi]; rfl
    have h8 := h7 (orderL.getD i 0)
    have hp := wPut_eq (M.getD (orderL.getD i 0) 0) 3 (by omega) (by omega) l (by omega)
    rw [show ((3 : Nat) : Int) = 3 from rfl] at hp
    rw [ownPut.l2.succ]; simp only [ownPut.l2.step, zs_length]
    rw [decide_eq_true (by omega), cond_true, need_true _ (idx_in hi), Int.toNat_natCast, zs_getD, hM, need_true _ (idx_in ho), Int.toNat_natCast, zs_getD, hp]
    simp only [bind_go]
    rw [w64_id (by omega) (by omega), show (i : Int) + 1 = ((i + 1 : Nat) : Int) by omega, e, ← List.append_assoc]
    exact ownPut_l2 lit dist list all M hM h7 j (i + 1) _ (by omega) (by rw [List.length_append, numB_length]; omega)
theorem ownPut_l3 (lit dist : List Int) (list : List (Int × Int × Int)) (M S : List Nat) (hk : kraft M ≤ 32768) (h15 : ∀ n ∈ M, n ≤ 15) (hS : ∀ s ∈ S, s < M.length) (hn : S.length ≤ 1000) : ∀ (j i : Nat) (l : List Bool), i + j = S.length → l.length + 15 * j ≤ 100000 →
    ownPut.l3 (j + 1) (lit, dist, (S.length : Int), (i : Int), list, zs M, (l.length : Int), zs (codesM M), zs S, pack l) = some (lit, dist, list, (((l ++ allB M (S.drop i)).length : Nat) : Int), pack (l ++ allB M (S.drop i)))
  | 0, i, l, h, hl => by
    rw [ownPut.l3.succ]; simp only [ownPut.l3.step]
    rw [idx_ge (by omega), List.drop_eq_nil_of_le (by omega)]; simp [allB]
  | j + 1, i, l, h, hl => by
    have hi : i < S.length := by omega
    have hs := hS S[i] (List.getElem_mem hi)
    have e : allB M (S.drop i) = symB M S[i] ++ allB M (S.drop (i + 1)) := by rw [List.drop_eq_getElem_cons hi]; rfl
    have hb := symB_length M S[i] hs h15
    have hp := wCode_eq M hk h15 S[i] hs l (by omega)
    rw [ownPut.l3.succ]; simp only [ownPut.l3.step, zs_length]
    rw [idx_lt hi, cond_true, need_true _ idx_in', Int.toNat_natCast, zs_getD, getD_in hi, hp]
    simp only [bind_go]
    rw [w64_id (by omega) (by omega), show (i : Int) + 1 = ((i + 1 : Nat) : Int) by omega, e, ← List.append_assoc]
    exact ownPut_l3 lit dist list M S hk h15 hS hn j (i + 1) _ (by omega) (by rw [List.length_append]; omega)
def ownH (ts : List Tk) : List Bool := [] ++ numB 1 1 ++ numB 2 2 ++ numB ((ownL ts).length - 257) 5 ++ numB ((ownD ts).length - 1) 5 ++ numB 15 4
def ownB (ts : List Tk) : List Bool := ownH ts ++ metaB (ownM ts) orderL ++ allB (ownM ts) (ownS ts) ++ toksB (ownL ts) (ownD ts) ts
def ownT (s : Str) : Str := textB (ownB (toks s))
theorem ownPut_eq (s : Str) (hs : s.length ≤ 300) : ownPut s = some (ownT s) := by
  have hts := toks_ok s
  have hn := toks_length s
  have hT := tokensOf_eq s hs
  unfold ownT
  generalize toks s = ts at hts hn hT
  have hO := own_ok ts hts (by omega)
  have hA := cntX_ok ts hts (by omega)
  have hB := cntY_ok ts hts (by omega)
  have lS : (ownS ts).length = (ownL ts).length + (ownD ts).length := List.length_append
  have o1 := hO.l1; have o2 := hO.l2; have o3 := hO.d1; have o4 := hO.d2
  have e0 := ownPut_l0 ts hts (by omega) ts.length 0 (by omega)
  rw [List.take_zero, show ((0 : Nat) : Int) = 0 from rfl, show litSs [] = [] from rfl, show bakSs [] = [] from rfl, bump_nil, bump_nil] at e0
  have la : (fitM 15 (cntX ts).sum (cntX ts)).length = 286 := (fitM_ok 15 _ _ hA.1 (Nat.le_refl _)).len.trans hA.2.1
  have lb : (fitM 15 (cntY ts).sum (cntY ts)).length = 30 := (fitM_ok 15 _ _ hB.1 (Nat.le_refl _)).len.trans hB.2.1
  have f1 := lensOf_eq 15 (cntX ts) hA.1 (by omega) (by have := used_le (cntX ts); rw [hA.2.1] at this; omega)
  have f2 := lensOf_eq 15 (cntY ts) hB.1 (by omega) (by have := used_le (cntY ts); rw [hB.2.1] at this; omega)
  have f3 := lensOf_eq 7 (ownC ts) hO.c (by omega) (by have := used_le (ownC ts); rw [show (ownC ts).length = 19 from (hO.m.len).symm.trans hO.ml] at this; omega)
  have g1 := trimmed_eq (fitM 15 (cntX ts).sum (cntX ts)) (by omega) 257 (by omega)
  have g2 := trimmed_eq (fitM 15 (cntY ts).sum (cntY ts)) (by omega) 1 (by omega)
  rw [show ((15 : Nat) : Int) = 15 from rfl] at f1 f2
  rw [show ((7 : Nat) : Int) = 7 from rfl] at f3
  rw [show ((257 : Nat) : Int) = 257 from rfl] at g1
  rw [show ((1 : Nat) : Int) = 1 from rfl] at g2
  have c1 := ownPut_l1 (zs (ownL ts)) (zs (ownD ts)) (ts.map Tk.z) (ownS ts) (by omega) (fun s hs => (hO.mpos s hs).2) (ownS ts).length 0 (by omega)
  rw [List.take_zero, bump_nil, show ((0 : Nat) : Int) = 0 from rfl] at c1
  have w1 := wPut_eq 1 1 (by omega) (by omega) [] (by simp)
  have w2 := wPut_eq 2 2 (by omega) (by omega) ([] ++ numB 1 1) (by simp [numB_length])
  have w3 := wPut_eq ((ownL ts).length - 257) 5 (by omega) (by omega) ([] ++ numB 1 1 ++ numB 2 2) (by simp [numB_length])
  have w4 := wPut_eq ((ownD ts).length - 1) 5 (by omega) (by omega) ([] ++ numB 1 1 ++ numB 2 2 ++ numB ((ownL ts).length - 257) 5) (by simp [numB_length])
  have w5 := wPut_eq 15 4 (by omega) (by omega) ([] ++ numB 1 1 ++ numB 2 2 ++ numB ((ownL ts).length - 257) 5 ++ numB ((ownD ts).length - 1) 5) (by simp [numB_length])
  have hH : (ownH ts).length = 17 := by simp [ownH, numB_length]
  have hmb := metaB_length (ownM ts) orderL
  rw [show orderL.length = 19 from rfl] at hmb
  have hab := allB_length (ownM ts) hO.m15 (ownS ts) (fun s hs => by rw [hO.ml]; exact (hO.mpos s hs).2)
  have w6 := ownPut_l2 (zs (ownL ts)) (zs (ownD ts)) (ts.map Tk.z) (zs (ownS ts)) (ownM ts) hO.ml hO.m7 19 0 (ownH ts) (by omega) (by omega)
  rw [List.drop_zero, show ((0 : Nat) : Int) = 0 from rfl] at w6
  have w7 := ownPut_l3 (zs (ownL ts)) (zs (ownD ts)) (ts.map Tk.z) (ownM ts) (ownS ts) hO.km hO.m15 (fun s hs => by rw [hO.ml]; exact (hO.mpos s hs).2) (by omega) (ownS ts).length 0 (ownH ts ++ metaB (ownM ts) orderL) (by omega) (by rw [List.length_append]; omega)
  rw [List.drop_zero, show ((0 : Nat) : Int) = 0 from rfl] at w7
  have w8 := wTokens_eq (ownL ts) (ownD ts) hO.kl hO.kd hO.l15 hO.d15 (by omega) (by omega) (by omega) ts (fun t ht => ⟨hts t ht, hO.tin t ht⟩) (by omega) (ownH ts ++ metaB (ownM ts) orderL ++ allB (ownM ts) (ownS ts)) (by rw [List.length_append, List.length_append]; omega)
  rw [show ((1 : Nat) : Int) = 1 from rfl, show (([] : List Bool).length : Int) = 0 from rfl, show pack [] = [] by kernel_rfl] at w1
  rw [show ((2 : Nat) : Int) = 2 from rfl] at w2
  rw [show ((5 : Nat) : Int) = 5 from rfl] at w3 w4
  rw [show ((4 : Nat) : Int) = 4 from rfl, show ((15 : Nat) : Int) = 15 from rfl] at w5
  have eo : ([16, 17, 18, 0, 8, 7, 9, 6, 10, 5, 11, 4, 12, 3, 13, 2, 14, 1, 15] : List Int) = zs orderL := rfl
  have ez : (List.replicate 286 (0 : Int)).set 256 1 = zs cntX0 := by kernel_rfl
  have ez2 : List.replicate 30 (0 : Int) = zs (List.replicate 30 0) := by kernel_rfl
  have ez3 : List.replicate 19 (0 : Int) = zs (List.replicate 19 0) := by kernel_rfl
  unfold ownPut
  rw [decide_eq_false (by omega), cond_false, hT, eo]
  simp only [bind_go, List.length_map]
  rw [need_true _ (by decide), need_true _ (by decide), need_true _ (by rw [List.length_replicate]; decide), fuel_of, ez, ez2]
  rw [show (decide ([] = ([] : List Nat))) = true from rfl] at e0
  rw [e0]
  simp only [bind_go]
  have hY : ((bif decide (bakSs ts = []) then need (decide (0 ≤ (0 : Int)) && decide ((0 : Int) < (zs (cntY0 ts)).length)) (some (ts.map Tk.z, zs (cntX ts), (zs (cntY0 ts)).set 0 1)) else some (ts.map Tk.z, zs (cntX ts), zs (cntY0 ts))) : Option ((List (Int × Int × Int)) × List Int × List Int)) = some (ts.map Tk.z, zs (cntX ts), zs (cntY ts)) := by
    have hl0 : (cntY0 ts).length = 30 := (bump_length _ _).trans (by rw [List.length_replicate])
    unfold cntY
    by_cases h : bakSs ts = []
    · rw [decide_eq_true h, cond_true, if_pos h, need_true _ (by rw [zs_length, hl0]; decide), show (1 : Int) = ((1 : Nat) : Int) from rfl, zs_set]
    · rw [decide_eq_false h, cond_false, if_neg h]
  rw [hY]
  simp only [bind_go]
  rw [f1]
  simp only [bind_go]
  rw [show trimmed (zs (fitM 15 (cntX ts).sum (cntX ts))) 257 = some (zs (ownL ts)) from g1]
  simp only [bind_go]
  rw [f2]
  simp only [bind_go]
  rw [show trimmed (zs (fitM 15 (cntY ts).sum (cntY ts))) 1 = some (zs (ownD ts)) from g2]
  simp only [bind_go]
  have hcat : ([] ++ zs (ownL ts)) ++ zs (ownD ts) = zs (ownS ts) := by rw [List.nil_append]; exact (zs_append _ _).symm
  have h19 : (zs orderL).length = 19 := rfl
  rw [need_fits (by rw [zs_length, List.length_nil]; omega), need_fits (by rw [List.length_append, zs_length, zs_length, List.length_nil]; omega), hcat, h19, need_true _ (by decide), show (((19 : Nat) : Int).toNat) = 19 from rfl, ez3, zs_length, fuel_of, c1]
  simp only [bind_go]
  rw [show lensOf (zs (bump (List.replicate 19 0) (ownS ts))) 7 = some (zs (ownM ts)) from f3]
  simp only [bind_go]
  rw [w1]
  simp only [bind_go]
  rw [w2]
  simp only [bind_go, zs_length]
  rw [w64_id (n := ((ownL ts).length : Int) - 257) (by omega) (by omega), show ((ownL ts).length : Int) - 257 = (((ownL ts).length - 257 : Nat) : Int) by omega, w3]
  simp only [bind_go]
  rw [w64_id (n := ((ownD ts).length : Int) - 1) (by omega) (by omega), show ((ownD ts).length : Int) - 1 = (((ownD ts).length - 1 : Nat) : Int) by omega, w4]
  simp only [bind_go]
  rw [show w64 (((19 : Nat) : Int) - 4) = 15 by decide, w5]
  simp only [bind_go]
  rw [show ((((19 : Nat) : Int) - 0).toNat + 1) = 19 + 1 from rfl, show ((19 : Nat) : Int) = 19 from rfl]
  rw [show ([] ++ numB 1 1 ++ numB 2 2 ++ numB ((ownL ts).length - 257) 5 ++ numB ((ownD ts).length - 1) 5 ++ numB 15 4) = ownH ts from rfl, w6]
  simp only [bind_go]
  have hml := hO.ml
  rw [codes_eq (ownM ts) (by omega)]
  simp only [bind_go, zs_length]
  rw [fuel_of, w7]
  simp only [bind_go]
  rw [w8]
  rfl
def bestT (s : Str) : Str :=
  let a := if (fixedT s).length < (storeT s).length then fixedT s else storeT s
  if (ownT s).length < a.length then ownT s else a
theorem flatePut_2 (a b s : Str) : flatePut.l0 1 (s, 2, 2, [a, b]) = some s := rfl
theorem flatePut_1 (a b s : Str) : flatePut.l0 2 (s, 2, 1, [a, b]) = some (if b.length < s.length then b else s) := by
  rw [flatePut.l0.succ]; simp only [flatePut.l0.step]
  by_cases h : b.length < s.length
  · rw [if_pos h, ← flatePut_2 a b b]
    show (bif decide ((b.length : Int) < (s.length : Int)) then flatePut.l0 1 (b, 2, 2, [a, b]) else flatePut.l0 1 (s, 2, 2, [a, b])) = _
    rw [decide_eq_true (by omega), cond_true]
  · rw [if_neg h, ← flatePut_2 a b s]
    show (bif decide ((b.length : Int) < (s.length : Int)) then flatePut.l0 1 (b, 2, 2, [a, b]) else flatePut.l0 1 (s, 2, 2, [a, b])) = _
    rw [decide_eq_false (by omega), cond_false]
theorem flatePut_0 (a b s : Str) : flatePut.l0 3 (s, 2, 0, [a, b]) = some (let c := if a.length < s.length then a else s; if b.length < c.length then b else c) := by
  rw [flatePut.l0.succ]; simp only [flatePut.l0.step]
  show (bif decide ((a.length : Int) < (s.length : Int)) then flatePut.l0 2 (a, 2, 1, [a, b]) else flatePut.l0 2 (s, 2, 1, [a, b])) = _
  rw [flatePut_1, flatePut_1]
  by_cases h : a.length < s.length
  · rw [decide_eq_true (by omega), cond_true, if_pos h]
  · rw [decide_eq_false (by omega), cond_false, if_neg h]
theorem flatePut_eq (s : Str) (hs : s.length ≤ 300) : flatePut s = some (bestT s) := by
  unfold flatePut
  rw [storePut_eq s hs]
  simp only [bind_go]
  rw [fixedPut_eq s hs]
  simp only [bind_go]
  rw [ownPut_eq s hs]
  simp only [bind_go]
  rw [show ((([fixedT s, ownT s] : List Str).length : Int) - 0).toNat + 1 = 3 from rfl, show ((([fixedT s, ownT s] : List Str).length : Int)) = 2 from rfl, flatePut_0]
  rfl
end Ev
end
