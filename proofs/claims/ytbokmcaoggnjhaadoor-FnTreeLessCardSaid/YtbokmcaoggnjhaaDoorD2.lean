/- What the drawing of texts, names and trees gives back. Conditions: as stated. -/
import Derived.Test.YtbokmcaoggnjhaaDoorD1
set_option linter.unusedVariables false
set_option linter.unusedSimpArgs false
namespace Ev
open Go

theorem l1Many_ret (s : Str) (n : Int) (M : Nat) (h0 : 0 ≤ n) (hM : n.toNat * s.length ≤ M) (hs : s.length ≤ M) (hM2 : M ≤ 1000000) (hn : n ≤ 1000000000) : Ret (l1Many s n) fun r => r.length ≤ M := by
  unfold l1Many l1Many.l0
  refine .bind (P := fun (o : Str) => o.length ≤ M) ?_ ?_
  · refine Ret.loop (fun (t : Str × Int × Str) => 0 ≤ t.2.1 ∧ t.2.1 ≤ 1000000000 ∧ t.2.2.length + t.2.1.toNat * t.1.length ≤ M ∧ (0 < t.2.1 → t.1.length ≤ M)) (fun t => t.2.1.toNat) (fun _ (r : Str) => r.length ≤ M) ?_ _ _ ?_ ?_
    · rintro again ⟨s, n, out⟩ ⟨h1, h1', h2, h3⟩ ih
      dsimp only at h1 h1' h2 h3
      simp only [l1Many.l0.step]
      obtain ⟨k, rfl⟩ := Int.eq_ofNat_of_zero_le h1
      rw [Int.toNat_natCast] at h2
      by_cases hk : k = 0
      · subst hk
        ((try simp (disch := omega) only [need_and, need_dec, need_decf, need_fits, need_ne, need_t, w64_id, tmod_e, tdiv_e, bind_some', Option.map_some, cond_true, cond_false, Int.sub_zero, Int.toNat_natCast]); (try simp only [c_dec, c_eq, c_ne, c_nodec, c_not, if_true, if_false]))
        rw [if_neg (by omega)]
        exact .pure (by omega)
      · have hs := h3 (by omega)
        have hd : k * s.length = (k % 2) * s.length + 2 * ((k / 2) * s.length) := by
          conv => lhs; rw [← Nat.mod_add_div k 2]
          rw [Nat.add_mul, Nat.mul_assoc]
        have hL : s.length ≤ k * s.length := by
          calc s.length = 1 * s.length := by omega
            _ ≤ k * s.length := Nat.mul_le_mul_right _ (by omega)
        have key : ∀ o : Str, o.length ≤ out.length + (k % 2) * s.length → Ret (again (s ++ s, (k : Int) / 2, o)) fun r => r.length ≤ M := fun o ho => by
          have e : ((k : Int) / 2) = ((k / 2 : Nat) : Int) := by omega
          refine ih _ ⟨by dsimp only; omega, by dsimp only; omega, ?_, ?_⟩ ?_
          · dsimp only
            rw [e, Int.toNat_natCast, List.length_append, Nat.mul_add]
            omega
          · dsimp only
            intro hp
            rw [List.length_append]
            have : 1 ≤ k / 2 := by omega
            have : s.length ≤ (k / 2) * s.length := by
              calc s.length = 1 * s.length := by omega
                _ ≤ (k / 2) * s.length := Nat.mul_le_mul_right _ (by omega)
            omega
          · dsimp only; omega
        have m1 : (k : Int).tmod 2 = ((k % 2 : Nat) : Int) := by rw [tmod_e (by omega)]; omega
        rw [m1]
        ((try simp (disch := omega) only [need_and, need_dec, need_decf, need_fits, need_ne, need_t, w64_id, tmod_e, tdiv_e, bind_some', Option.map_some, cond_true, cond_false, Int.sub_zero, Int.toNat_natCast]); (try simp only [c_dec, c_eq, c_ne, c_nodec, c_not, if_true, if_false]))
        rw [if_pos (by omega)]
        refine .ite (fun h => ?_) fun h => ?_
        · have e1 : k % 2 = 1 := by omega
          rw [e1, Nat.one_mul] at hd
          ((try simp (disch := omega) only [need_and, need_dec, need_decf, need_fits, need_ne, need_t, w64_id, tmod_e, tdiv_e, bind_some', Option.map_some, cond_true, cond_false, Int.sub_zero, Int.toNat_natCast]); (try simp only [c_dec, c_eq, c_ne, c_nodec, c_not, if_true, if_false]))
          exact key (out ++ s) (by rw [List.length_append, e1]; omega)
        · ((try simp (disch := omega) only [need_and, need_dec, need_decf, need_fits, need_ne, need_t, w64_id, tmod_e, tdiv_e, bind_some', Option.map_some, cond_true, cond_false, Int.sub_zero, Int.toNat_natCast]); (try simp only [c_dec, c_eq, c_ne, c_nodec, c_not, if_true, if_false]))
          exact key out (by omega)
    · exact ⟨h0, hn, by dsimp only [List.length_nil]; omega, fun _ => hs⟩
    · dsimp only; omega
  · intro a h; exact .pure h

/-- A draw: the reader's bytes stay, its place goes on by `c` at most. -/
def Drawn {α : Type} (b : List Int) (p c : Int) (Q : α → Prop) (r : α × List Int × Int) : Prop := r.2.1 = b ∧ p ≤ r.2.2 ∧ r.2.2 ≤ p + c ∧ Q r.1

theorem Drawn.rd {α : Type} {b : List Int} {p c : Int} {Q : α → Prop} {r : α × List Int × Int} (h : Drawn b p c Q r) (hb : RdOk b p) : RdOk r.2.1 r.2.2 := by
  obtain ⟨rfl, h1, h2, _⟩ := h; exact hb.up h1

theorem pick_d (n : Int) {b : List Int} {p : Int} (h : RdOk b p) (hp : p ≤ 1000000000) (hn0 : 1 ≤ n) (hn : n ≤ 1000000000) : Ret (pick n b p) (Drawn b p 1 fun x => 0 ≤ x ∧ x < n) :=
  (pick_ret n h hp hn).mono fun r ⟨h1, h2, h3, h4⟩ => ⟨h1, by omega, by omega, h3, by omega⟩

theorem rdOf_d (xs : List Str) {b : List Int} {p : Int} (h : RdOk b p) (hp : p ≤ 1000000000) (hx : 0 < xs.length) (hx2 : xs.length ≤ 1000000000) : Ret (rdOf xs b p) (Drawn b p 1 fun x => x ∈ xs) :=
  (rdOf_ret xs h hp hx hx2).mono fun r ⟨h1, h2, h3⟩ => ⟨h1, by omega, by omega, h3⟩

theorem wrap_u8 (n : Int) : IntKind.wrap .u8 n = n % 256 := by simp [IntKind.wrap, IntKind.bits, IntKind.signed]

theorem l11Text_d {b : List Int} {p : Int} (h : RdOk b p) (hp : p ≤ 900000000) : Ret (l11Text b p) (Drawn b p 50 fun s => s.length ≤ 300) := by
  unfold l11Text
  refine .bind (pick_d 8 h (by omega) (by omega) (by omega)) ?_
  rintro ⟨r, b1, p1⟩ ⟨rfl, g1, g2, g3⟩
  dsimp only at g1 g2 g3 ⊢
  have h1 := h.up g1
  ((try simp (disch := omega) only [need_and, need_dec, need_decf, need_fits, need_ne, need_t, w64_id, tmod_e, tdiv_e, bind_some', Option.map_some, cond_true, cond_false, Int.sub_zero, Int.toNat_natCast]); (try simp only [c_dec, c_eq, c_ne, c_nodec, c_not, if_true, if_false]))
  refine .ite (fun _ => .pure ⟨rfl, by dsimp only; omega, by dsimp only; omega, by simp⟩) fun _ => .ite (fun _ => ?_) fun _ => .ite (fun _ => ?_) fun _ => .ite (fun _ => ?_) fun _ => ?_
  · refine .bind (rdOf_d _ h1 (by omega) (by decide) (by decide)) ?_
    rintro ⟨x, b2, p2⟩ ⟨rfl, k1, k2, k3⟩
    dsimp only at k1 k2 k3 ⊢
    refine .bind (pick_d 40 (h1.up k1) (by omega) (by omega) (by omega)) ?_
    rintro ⟨y, b3, p3⟩ ⟨rfl, l1, l2, l3⟩
    dsimp only at l1 l2 l3 ⊢
    have hx : x.length ≤ 6 := by
      simp only [List.mem_cons, List.not_mem_nil, or_false] at k3
      rcases k3 with rfl | rfl | rfl | rfl <;> decide
    rw [w64_id (by omega) (by omega)]
    refine .bind (l1Many_ret x (1 + y) 300 (by omega) ?_ (by omega) (by omega) (by omega)) ?_
    · calc (1 + y).toNat * x.length ≤ 40 * 6 := Nat.mul_le_mul (by omega) hx
        _ ≤ 300 := by decide
    · intro a ha; exact .pure ⟨rfl, by dsimp only; omega, by dsimp only; omega, ha⟩
  · refine .bind (pick_d 40 h1 (by omega) (by omega) (by omega)) ?_
    rintro ⟨x, b2, p2⟩ ⟨rfl, k1, k2, k3⟩
    dsimp only at k1 k2 k3 ⊢
    refine .bind (P := fun (o : List Int × Int × List Int) => o.1 = b2 ∧ p2 ≤ o.2.1 ∧ o.2.1 ≤ p2 + 40 ∧ o.2.2.length ≤ 300) ?_ ?_
    · unfold l11Text.l0
      refine Ret.loop (fun (t : Int × List Int × Int × List Int) => t.2.1 = b2 ∧ 0 ≤ t.1 ∧ t.1 ≤ 40 ∧ p2 ≤ t.2.2.1 ∧ t.2.2.1 + t.1 ≤ p2 + 40 ∧ t.2.2.2.length + t.1 ≤ 40) (fun t => t.1.toNat) (fun _ (o : List Int × Int × List Int) => o.1 = b2 ∧ p2 ≤ o.2.1 ∧ o.2.1 ≤ p2 + 40 ∧ o.2.2.length ≤ 300) ?_ _ _ ?_ ?_
      · rintro again ⟨n, b3, p3, out⟩ ⟨rfl, q1, q2, q3, q4, q5⟩ ih
        dsimp only at q1 q2 q3 q4 q5
        simp only [l11Text.l0.step]
        ((try simp (disch := omega) only [need_and, need_dec, need_decf, need_fits, need_ne, need_t, w64_id, tmod_e, tdiv_e, bind_some', Option.map_some, cond_true, cond_false, Int.sub_zero, Int.toNat_natCast]); (try simp only [c_dec, c_eq, c_ne, c_nodec, c_not, if_true, if_false]))
        refine .ite (fun hn => ?_) fun hn => .pure ⟨rfl, by dsimp only; omega, by dsimp only; omega, by dsimp only; omega⟩
        refine .bind (pick_d 256 ((h1.up k1).up q3) (by omega) (by omega) (by omega)) ?_
        rintro ⟨y, b4, p4⟩ ⟨rfl, l1, l2, l3⟩
        dsimp only at l1 l2 l3 ⊢
        ((try simp (disch := omega) only [need_and, need_dec, need_decf, need_fits, need_ne, need_t, w64_id, tmod_e, tdiv_e, bind_some', Option.map_some, cond_true, cond_false, Int.sub_zero, Int.toNat_natCast, List.length_cons, List.length_nil]); (try simp only [c_dec, c_eq, c_ne, c_nodec, c_not, if_true, if_false, List.length_cons, List.length_nil]))
        refine ih _ ⟨rfl, by dsimp only; omega, by dsimp only; omega, by dsimp only; omega, by dsimp only; omega, by simp only [List.length_append, List.length_cons, List.length_nil]; omega⟩ (by dsimp only; omega)
      · exact ⟨rfl, by dsimp only; omega, by dsimp only; omega, by dsimp only; omega, by dsimp only; omega, by simp only [List.length_nil]; omega⟩
      · dsimp only; omega
    · rintro ⟨b3, p3, out⟩ ⟨rfl, m1, m2, m3⟩
      dsimp only at m1 m2 m3 ⊢
      exact .pure ⟨rfl, by dsimp only; omega, by dsimp only; omega, by simp [toBytes]; omega⟩
  · refine .bind (l1Many_ret [113] 300 300 (by omega) (by decide) (by decide) (by omega) (by omega)) ?_
    intro a ha; exact .pure ⟨rfl, by dsimp only; omega, by dsimp only; omega, ha⟩
  · refine .bind (pick_d 12 h1 (by omega) (by omega) (by omega)) ?_
    rintro ⟨x, b2, p2⟩ ⟨rfl, k1, k2, k3⟩
    dsimp only at k1 k2 k3 ⊢
    refine .bind (P := fun (o : Str × List Int × Int) => Drawn b2 p2 12 (fun s => s.length ≤ 300) o) ?_ ?_
    · unfold l11Text.l1
      refine Ret.loop (fun (t : Str × Int × List Int × Int) => t.2.2.1 = b2 ∧ 0 ≤ t.2.1 ∧ t.2.1 ≤ 12 ∧ p2 ≤ t.2.2.2 ∧ t.2.2.2 + t.2.1 ≤ p2 + 12 ∧ t.1.length + 6 * t.2.1 ≤ 72) (fun t => t.2.1.toNat) (fun _ (o : Str × List Int × Int) => Drawn b2 p2 12 (fun s => s.length ≤ 300) o) ?_ _ _ ?_ ?_
      · rintro again ⟨out, n, b3, p3⟩ ⟨rfl, q1, q2, q3, q4, q5⟩ ih
        dsimp only at q1 q2 q3 q4 q5
        simp only [l11Text.l1.step]
        ((try simp (disch := omega) only [need_and, need_dec, need_decf, need_fits, need_ne, need_t, w64_id, tmod_e, tdiv_e, bind_some', Option.map_some, cond_true, cond_false, Int.sub_zero, Int.toNat_natCast]); (try simp only [c_dec, c_eq, c_ne, c_nodec, c_not, if_true, if_false]))
        refine .ite (fun hn => ?_) fun hn => .pure ⟨rfl, by dsimp only; omega, by dsimp only; omega, by dsimp only; omega⟩
        refine .bind (rdOf_d _ ((h1.up k1).up q3) (by omega) (by decide) (by decide)) ?_
        rintro ⟨y, b4, p4⟩ ⟨rfl, l1, l2, l3⟩
        dsimp only at l1 l2 l3 ⊢
        have hy : y.length ≤ 6 := by
          simp only [List.mem_cons, List.not_mem_nil, or_false] at l3
          rcases l3 with rfl | rfl | rfl | rfl | rfl | rfl | rfl <;> decide
        ((try simp (disch := omega) only [need_and, need_dec, need_decf, need_fits, need_ne, need_t, w64_id, tmod_e, tdiv_e, bind_some', Option.map_some, cond_true, cond_false, Int.sub_zero, Int.toNat_natCast]); (try simp only [c_dec, c_eq, c_ne, c_nodec, c_not, if_true, if_false]))
        refine ih _ ⟨rfl, by dsimp only; omega, by dsimp only; omega, by dsimp only; omega, by dsimp only; omega, by simp only [List.length_append]; omega⟩ (by dsimp only; omega)
      · exact ⟨rfl, by dsimp only; omega, by dsimp only; omega, by dsimp only; omega, by dsimp only; omega, by simp only [List.length_nil]; omega⟩
      · dsimp only; omega
    · rintro ⟨s, b3, p3⟩ ⟨rfl, m1, m2, m3⟩
      dsimp only at m1 m2 m3 ⊢
      exact .pure ⟨rfl, by dsimp only; omega, by dsimp only; omega, m3⟩

theorem l11AnyText_d {b : List Int} {p : Int} (h : RdOk b p) (hp : p ≤ 800000000) : Ret (l11AnyText b p) (Drawn b p 51 fun s => s.length ≤ 301) := by
  unfold l11AnyText
  refine .bind (pick_d 16 h (by omega) (by omega) (by omega)) ?_
  rintro ⟨r, b1, p1⟩ ⟨rfl, g1, g2, g3⟩
  dsimp only at g1 g2 g3 ⊢
  ((try simp (disch := omega) only [need_and, need_dec, need_decf, need_fits, need_ne, need_t, w64_id, tmod_e, tdiv_e, bind_some', Option.map_some, cond_true, cond_false, Int.sub_zero, Int.toNat_natCast]); (try simp only [c_dec, c_eq, c_ne, c_nodec, c_not, if_true, if_false]))
  refine .ite (fun _ => ?_) fun _ => ?_
  · refine .bind (l1Many_ret [113] 301 301 (by omega) (by decide) (by decide) (by omega) (by omega)) ?_
    intro a ha; exact .pure ⟨rfl, by dsimp only; omega, by dsimp only; omega, ha⟩
  · refine .bind (l11Text_d (h.up g1) (by omega)) ?_
    rintro ⟨x, b2, p2⟩ ⟨rfl, k1, k2, k3⟩
    dsimp only at k1 k2 k3 ⊢
    exact .pure ⟨rfl, by dsimp only; omega, by dsimp only; omega, by dsimp only; omega⟩

theorem l11Name_d {b : List Int} {p : Int} (h : RdOk b p) (hp : p ≤ 900000000) : Ret (l11Name b p) (Drawn b p 1 fun s => s.length ≤ 7 ∧ s ≠ []) := by
  unfold l11Name
  refine .bind (rdOf_d _ h (by omega) (by decide) (by decide)) ?_
  rintro ⟨x, b2, p2⟩ ⟨rfl, k1, k2, k3⟩
  dsimp only at k1 k2 k3 ⊢
  refine .pure ⟨rfl, k1, k2, ?_⟩
  dsimp only
  simp only [List.mem_cons, List.not_mem_nil, or_false] at k3
  rcases k3 with rfl | rfl | rfl | rfl | rfl | rfl | rfl <;> decide

theorem l11AnyName_d {b : List Int} {p : Int} (h : RdOk b p) (hp : p ≤ 800000000) : Ret (l11AnyName b p) (Drawn b p 2 fun s => s.length ≤ 11) := by
  unfold l11AnyName
  refine .bind (pick_d 6 h (by omega) (by omega) (by omega)) ?_
  rintro ⟨r, b1, p1⟩ ⟨rfl, g1, g2, g3⟩
  dsimp only at g1 g2 g3 ⊢
  ((try simp (disch := omega) only [need_and, need_dec, need_decf, need_fits, need_ne, need_t, w64_id, tmod_e, tdiv_e, bind_some', Option.map_some, cond_true, cond_false, Int.sub_zero, Int.toNat_natCast]); (try simp only [c_dec, c_eq, c_ne, c_nodec, c_not, if_true, if_false]))
  refine .ite (fun _ => ?_) fun _ => ?_
  · refine .bind (rdOf_d _ (h.up g1) (by omega) (by decide) (by decide)) ?_
    rintro ⟨x, b2, p2⟩ ⟨rfl, k1, k2, k3⟩
    dsimp only at k1 k2 k3 ⊢
    refine .pure ⟨rfl, by dsimp only; omega, by dsimp only; omega, ?_⟩
    dsimp only
    simp only [List.mem_cons, List.not_mem_nil, or_false] at k3
    rcases k3 with rfl | rfl | rfl | rfl | rfl | rfl | rfl | rfl | rfl <;> decide
  · refine .bind (l11Name_d (h.up g1) (by omega)) ?_
    rintro ⟨x, b2, p2⟩ ⟨rfl, k1, k2, k3⟩
    dsimp only at k1 k2 k3 ⊢
    exact .pure ⟨rfl, by dsimp only; omega, by dsimp only; omega, by dsimp only; omega⟩

end Ev
