/- Drawn trees; the tree laws. Conditions: as stated. -/
import Derived.Test.YtbokmcaoggnjhaaDoorL9
import Derived.Test.YtbokmcaoggnjhaaDoorD2
set_option linter.unusedVariables false
set_option linter.unusedSimpArgs false
namespace Ev
open Go

def ahead (p : Str) (xs : List (Str × Str)) : List (Str × Str) := xs.takeWhile fun q => Op.bytesLess q.1 p
def behind (p : Str) (xs : List (Str × Str)) : List (Str × Str) := xs.dropWhile fun q => Op.bytesLess q.1 p
/-- A file put into a tree, in the place of one of its path. -/
def putF (xs : List (Str × Str)) (p x : Str) : List (Str × Str) :=
  ahead p xs ++ (p, x) :: (match behind p xs with
    | [] => []
    | q :: r => if q.1 = p then r else q :: r)

theorem takeWhile_len {α : Type} (f : α → Bool) (xs : List α) : (xs.takeWhile f).length ≤ xs.length := by
  induction xs with
  | nil => simp
  | cons x xs ih => rw [List.takeWhile_cons]; split <;> simp; exact ih

theorem take_takeWhile {α : Type} (f : α → Bool) (xs : List α) : xs.take (xs.takeWhile f).length = xs.takeWhile f := by
  induction xs with
  | nil => simp
  | cons x xs ih => rw [List.takeWhile_cons]; split <;> simp [*]

theorem drop_takeWhile {α : Type} (f : α → Bool) (xs : List α) : xs.drop (xs.takeWhile f).length = xs.dropWhile f := by
  induction xs with
  | nil => simp
  | cons x xs ih => rw [List.takeWhile_cons, List.dropWhile_cons]; split <;> simp [*]

theorem l10Put_l0 (xs : List (Str × Str)) (p x : Str) (hn : xs.length ≤ 1048576) : ∀ n (t : List (Str × Str) × Int × Str × Str), (t.1 = xs ∧ 0 ≤ t.2.1 ∧ t.2.1 ≤ xs.length ∧ t.2.2 = (p, x)) → (xs.length - t.2.1.toNat) < n →
    l10Put.l0 n t = some (xs, t.2.1 + ((xs.drop t.2.1.toNat).takeWhile fun q => Op.bytesLess q.1 p).length, p, x) := by
  refine loop_eq _ _ _ ?_
  rintro again ⟨t, k, o⟩ ⟨h1, h2, h3, h4⟩ ih
  dsimp only at h1 h2 h3 h4
  subst h1 h4
  obtain ⟨k, rfl⟩ := Int.eq_ofNat_of_zero_le h2
  simp only [l10Put.l0.step]
  by_cases hk : k < t.length
  · have hd : t.drop k = t[k] :: t.drop (k + 1) := List.drop_eq_getElem_cons hk
    ((try simp (disch := omega) only [need_and, need_dec, need_decf, need_fits, need_ne, need_t, w64_id, tmod_e, tdiv_e, bind_some', Option.map_some, cond_true, cond_false, Int.sub_zero, Int.toNat_natCast, getD_in hk]); (try simp only [c_dec, c_eq, c_ne, c_nodec, c_not, if_true, if_false, getD_in hk]))
    rw [if_pos (by omega)]
    ((try simp (disch := omega) only [need_and, need_dec, need_decf, need_fits, need_ne, need_t, w64_id, tmod_e, tdiv_e, bind_some', Option.map_some, cond_true, cond_false, Int.sub_zero, Int.toNat_natCast]); (try simp only [c_dec, c_eq, c_ne, c_nodec, c_not, if_true, if_false]))
    rw [hd, List.takeWhile_cons]
    cases hb : Op.bytesLess t[k].1 p with
    | false => simp
    | true =>
      simp only [cond_true]
      rw [ih _ ⟨rfl, by dsimp only; omega, by dsimp only; omega, rfl⟩ (by dsimp only; omega)]
      dsimp only
      rw [show ((k : Int) + 1).toNat = k + 1 by omega]
      simp only [List.length_cons, if_true]
      congr 3; omega
  · ((try simp (disch := omega) only [need_and, need_dec, need_decf, need_fits, need_ne, need_t, w64_id, tmod_e, tdiv_e, bind_some', Option.map_some, cond_true, cond_false, Int.sub_zero, Int.toNat_natCast]); (try simp only [c_dec, c_eq, c_ne, c_nodec, c_not, if_true, if_false]))
    rw [if_neg (by omega)]
    rw [List.drop_eq_nil_of_le (by omega)]
    simp

theorem l10Put_eq (xs : List (Str × Str)) (p x : Str) (hn : xs.length ≤ 1048576) : l10Put xs p x = some (putF xs p x) := by
  unfold l10Put
  rw [l10Put_l0 xs p x hn _ _ ⟨rfl, by dsimp only; omega, by dsimp only; omega, rfl⟩ (by dsimp only; omega)]
  have hl := takeWhile_len (fun q : Str × Str => Op.bytesLess q.1 p) xs
  have ht := take_takeWhile (fun q : Str × Str => Op.bytesLess q.1 p) xs
  have hd := drop_takeWhile (fun q : Str × Str => Op.bytesLess q.1 p) xs
  simp only [bind_some', Int.toNat_zero, List.drop_zero, Int.zero_add]
  generalize hk : (xs.takeWhile fun q => Op.bytesLess q.1 p).length = k at hl ht hd
  unfold putF ahead behind
  by_cases h : k < xs.length
  · rw [List.drop_eq_getElem_cons h] at hd
    ((try simp (disch := omega) only [need_and, need_dec, need_decf, need_fits, need_ne, need_t, w64_id, tmod_e, tdiv_e, bind_some', Option.map_some, cond_true, cond_false, Int.sub_zero, Int.toNat_natCast, getD_in h, List.length_nil, List.length_append, List.length_take, List.length_cons, List.length_drop]); (try simp only [c_dec, c_eq, c_ne, c_nodec, c_not, if_true, if_false, getD_in h, List.length_nil, List.length_append, List.length_take, List.length_cons, List.length_drop]))
    rw [if_pos (by omega)]
    rw [ht, ← hd]
    by_cases he : xs[k].1 = p
    · have : (xs[k].1 == p) = true := by simp [he]
      ((try simp (disch := omega) only [need_and, need_dec, need_decf, need_fits, need_ne, need_t, w64_id, tmod_e, tdiv_e, bind_some', Option.map_some, cond_true, cond_false, Int.sub_zero, Int.toNat_natCast, this]); (try simp only [c_dec, c_eq, c_ne, c_nodec, c_not, if_true, if_false, this]))
      rw [if_pos he, show ((k : Int) + 1).toNat = k + 1 by omega]
      ((try simp (disch := omega) only [need_and, need_dec, need_decf, need_fits, need_ne, need_t, w64_id, tmod_e, tdiv_e, bind_some', Option.map_some, cond_true, cond_false, Int.sub_zero, Int.toNat_natCast]); (try simp only [c_dec, c_eq, c_ne, c_nodec, c_not, if_true, if_false]))
      simp
    · have : (xs[k].1 == p) = false := by simp [he]
      ((try simp (disch := omega) only [need_and, need_dec, need_decf, need_fits, need_ne, need_t, w64_id, tmod_e, tdiv_e, bind_some', Option.map_some, cond_true, cond_false, Int.sub_zero, Int.toNat_natCast, this]); (try simp only [c_dec, c_eq, c_ne, c_nodec, c_not, if_true, if_false, this]))
      rw [if_neg he, List.drop_eq_getElem_cons h]
      simp
  · rw [List.drop_eq_nil_of_le (by omega)] at hd
    ((try simp (disch := omega) only [need_and, need_dec, need_decf, need_fits, need_ne, need_t, w64_id, tmod_e, tdiv_e, bind_some', Option.map_some, cond_true, cond_false, Int.sub_zero, Int.toNat_natCast, List.length_nil, List.length_append, List.length_take, List.length_cons, List.length_drop]); (try simp only [c_dec, c_eq, c_ne, c_nodec, c_not, if_true, if_false, List.length_nil, List.length_append, List.length_take, List.length_cons, List.length_drop]))
    rw [if_neg (by omega)]
    ((try simp (disch := omega) only [need_and, need_dec, need_decf, need_fits, need_ne, need_t, w64_id, tmod_e, tdiv_e, bind_some', Option.map_some, cond_true, cond_false, Int.sub_zero, Int.toNat_natCast]); (try simp only [c_dec, c_eq, c_ne, c_nodec, c_not, if_true, if_false]))
    rw [ht, ← hd, List.drop_eq_nil_of_le (by omega)]
    simp

theorem putF_len (xs : List (Str × Str)) (p x : Str) : (putF xs p x).length ≤ xs.length + 1 := by
  have h := congrArg List.length (List.takeWhile_append_dropWhile (p := fun q : Str × Str => Op.bytesLess q.1 p) (l := xs))
  unfold putF ahead behind
  rw [List.length_append] at h
  rw [List.length_append, List.length_cons]
  generalize hd : xs.dropWhile (fun q => Op.bytesLess q.1 p) = d at h ⊢
  cases d with
  | nil => simp; omega
  | cons q r =>
    dsimp only
    by_cases he : q.1 = p
    · rw [if_pos he]; rw [List.length_cons] at h; omega
    · rw [if_neg he]; omega

theorem putF_mem {xs : List (Str × Str)} {p x : Str} {y : Str × Str} (h : y ∈ putF xs p x) : y = (p, x) ∨ y ∈ xs := by
  have e := List.takeWhile_append_dropWhile (p := fun q : Str × Str => Op.bytesLess q.1 p) (l := xs)
  unfold putF ahead behind at h
  rw [List.mem_append, List.mem_cons] at h
  rcases h with h | h | h
  · exact .inr (by rw [← e, List.mem_append]; exact .inl h)
  · exact .inl h
  · refine .inr ?_
    rw [← e, List.mem_append]
    refine .inr ?_
    generalize xs.dropWhile (fun q => Op.bytesLess q.1 p) = d at h ⊢
    cases d with
    | nil => simp at h
    | cons q r =>
      dsimp only at h
      by_cases he : q.1 = p
      · rw [if_pos he] at h; exact List.mem_cons_of_mem _ h
      · rw [if_neg he] at h; exact h

/-- Files within these bounds. -/
def TreeB (n : Nat) (xs : List (Str × Str)) : Prop := xs.length ≤ n ∧ ∀ y, y ∈ xs → y.1.length ≤ 11 ∧ y.2.length ≤ 301

theorem TreeB.small {n : Nat} {xs : List (Str × Str)} (h : TreeB n xs) : SmallF xs := fun x hx => by have := h.2 x hx; omega

theorem TreeB.put {n : Nat} {xs : List (Str × Str)} {p x : Str} (h : TreeB n xs) (hp : p.length ≤ 11) (hx : x.length ≤ 301) : TreeB (n + 1) (putF xs p x) := by
  refine ⟨by have := putF_len xs p x; have := h.1; omega, fun y hy => ?_⟩
  rcases putF_mem hy with rfl | hy
  · exact ⟨hp, hx⟩
  · exact h.2 y hy

theorem l11Tree_ret {b : List Int} {p : Int} (h : RdOk b p) (hp : p ≤ 100000000) : Ret (l11Tree b p) fun r => r.1 = b ∧ p ≤ r.2.1 ∧ r.2.1 ≤ p + 300 ∧ TreeB 5 r.2.2 := by
  unfold l11Tree
  refine .bind (pick_d 5 h (by omega) (by omega) (by omega)) ?_
  rintro ⟨r, b1, p1⟩ ⟨rfl, g1, g2, g3⟩
  dsimp only at g1 g2 g3 ⊢
  refine .bind (P := fun (o : List Int × Int × List (Str × Str)) => o.1 = b1 ∧ p1 ≤ o.2.1 ∧ o.2.1 ≤ p1 + 270 ∧ TreeB 5 o.2.2) ?_ ?_
  · unfold l11Tree.l0
    refine Ret.loop (fun (t : Int × List Int × Int × List (Str × Str)) => t.2.1 = b1 ∧ 0 ≤ t.1 ∧ t.1 ≤ 5 ∧ p1 ≤ t.2.2.1 ∧ t.2.2.1 + 54 * t.1 ≤ p1 + 270 ∧ TreeB (5 - t.1.toNat) t.2.2.2) (fun t => t.1.toNat) (fun _ (o : List Int × Int × List (Str × Str)) => o.1 = b1 ∧ p1 ≤ o.2.1 ∧ o.2.1 ≤ p1 + 270 ∧ TreeB 5 o.2.2) ?_ _ _ ?_ ?_
    · rintro again ⟨n, b3, p3, out⟩ ⟨rfl, q1, q2, q3, q4, q5⟩ ih
      dsimp only at q1 q2 q3 q4 q5
      simp only [l11Tree.l0.step]
      ((try simp (disch := omega) only [need_and, need_dec, need_decf, need_fits, need_ne, need_t, w64_id, tmod_e, tdiv_e, bind_some', Option.map_some, cond_true, cond_false, Int.sub_zero, Int.toNat_natCast]); (try simp only [c_dec, c_eq, c_ne, c_nodec, c_not, if_true, if_false]))
      refine .ite (fun hn => ?_) fun hn => .pure ⟨rfl, by dsimp only; omega, by dsimp only; omega, ⟨by have := q5.1; dsimp only; omega, q5.2⟩⟩
      refine .bind (l11Name_d ((h.up g1).up q3) (by omega)) ?_
      rintro ⟨y, b4, p4⟩ ⟨rfl, l1, l2, l3, l4⟩
      dsimp only at l1 l2 l3 l4 ⊢
      refine .bind (l11Text_d (((h.up g1).up q3).up l1) (by omega)) ?_
      rintro ⟨z, b5, p5⟩ ⟨rfl, m1, m2, m3⟩
      dsimp only at m1 m2 m3 ⊢
      rw [l10Put_eq _ _ _ (by have := q5.1; omega)]
      have hb := q5.put (p := y) (x := z) (by omega) (by omega)
      simp only [bind_some']
      rw [specTreeOk_eq _ (by have := hb.1; omega) hb.small]
      simp only [bind_some']
      ((try simp (disch := omega) only [need_and, need_dec, need_decf, need_fits, need_ne, need_t, w64_id, tmod_e, tdiv_e, bind_some', Option.map_some, cond_true, cond_false, Int.sub_zero, Int.toNat_natCast]); (try simp only [c_dec, c_eq, c_ne, c_nodec, c_not, if_true, if_false]))
      refine .cond (fun _ => ?_) fun _ => ?_
      · exact ih _ ⟨rfl, by dsimp only; omega, by dsimp only; omega, by dsimp only; omega, by dsimp only; omega, ⟨by have := hb.1; dsimp only; omega, hb.2⟩⟩ (by dsimp only; omega)
      · exact ih _ ⟨rfl, by dsimp only; omega, by dsimp only; omega, by dsimp only; omega, by dsimp only; omega, ⟨by have := q5.1; dsimp only; omega, q5.2⟩⟩ (by dsimp only; omega)
    · exact ⟨rfl, by dsimp only; omega, by dsimp only; omega, by dsimp only; omega, by dsimp only; omega, ⟨by simp, by simp⟩⟩
    · dsimp only; omega
  · rintro ⟨b3, p3, out⟩ ⟨rfl, m1, m2, m3⟩
    dsimp only at m1 m2 m3 ⊢
    exact .pure ⟨rfl, by dsimp only; omega, by dsimp only; omega, m3⟩

theorem l11AnyTree_ret {b : List Int} {p : Int} (h : RdOk b p) (hp : p ≤ 100000000) : Ret (l11AnyTree b p) fun r => r.1 = b ∧ p ≤ r.2.1 ∧ r.2.1 ≤ p + 400 ∧ TreeB 6 r.2.2 := by
  unfold l11AnyTree
  refine .bind (l11Tree_ret h hp) ?_
  rintro ⟨b1, p1, xs⟩ ⟨rfl, g1, g2, g3⟩
  dsimp only at g1 g2 g3 ⊢
  have hl := g3.1
  ((try simp (disch := omega) only [need_and, need_dec, need_decf, need_fits, need_ne, need_t, w64_id, tmod_e, tdiv_e, bind_some', Option.map_some, cond_true, cond_false, Int.sub_zero, Int.toNat_natCast, List.length_nil, List.nil_append, Nat.zero_add]); (try simp only [c_dec, c_eq, c_ne, c_nodec, c_not, if_true, if_false, List.length_nil, List.nil_append, Nat.zero_add]))
  refine .bind (pick_d 8 (h.up g1) (by omega) (by omega) (by omega)) ?_
  rintro ⟨r, b2, p2⟩ ⟨rfl, k1, k2, k3⟩
  dsimp only at k1 k2 k3 ⊢
  ((try simp (disch := omega) only [need_and, need_dec, need_decf, need_fits, need_ne, need_t, w64_id, tmod_e, tdiv_e, bind_some', Option.map_some, cond_true, cond_false, Int.sub_zero, Int.toNat_natCast]); (try simp only [c_dec, c_eq, c_ne, c_nodec, c_not, if_true, if_false]))
  refine .ite (fun _ => ?_) fun _ => .pure ⟨rfl, by dsimp only; omega, by dsimp only; omega, by dsimp only; omega, g3.2⟩
  refine .bind (l11AnyName_d ((h.up g1).up k1) (by omega)) ?_
  rintro ⟨y, b4, p4⟩ ⟨rfl, l1, l2, l3⟩
  dsimp only at l1 l2 l3 ⊢
  refine .bind (l11AnyText_d (((h.up g1).up k1).up l1) (by omega)) ?_
  rintro ⟨z, b5, p5⟩ ⟨rfl, m1, m2, m3⟩
  dsimp only at m1 m2 m3 ⊢
  ((try simp (disch := omega) only [need_and, need_dec, need_decf, need_fits, need_ne, need_t, w64_id, tmod_e, tdiv_e, bind_some', Option.map_some, cond_true, cond_false, Int.sub_zero, Int.toNat_natCast, List.length_cons, List.length_nil]); (try simp only [c_dec, c_eq, c_ne, c_nodec, c_not, if_true, if_false, List.length_cons, List.length_nil]))
  refine .pure ⟨rfl, by dsimp only; omega, by dsimp only; omega, by simp only [List.length_append, List.length_cons, List.length_nil]; omega, fun q hq => ?_⟩
  simp only [List.mem_append, List.mem_cons, List.not_mem_nil, or_false] at hq
  rcases hq with hq | rfl
  · exact g3.2 q hq
  · dsimp only; omega

theorem l1Open_ret {code : List Int} (hb : ∀ x, x ∈ code → 0 ≤ x ∧ x ≤ 255) (hn : code.length ≤ 1048576) : Ret (l1Open code) fun r => RdOk r.1 r.2 ∧ r.2 = 0 := by
  unfold l1Open
  ((try simp (disch := omega) only [need_and, need_dec, need_decf, need_fits, need_ne, need_t, w64_id, tmod_e, tdiv_e, bind_some', Option.map_some, cond_true, cond_false, Int.sub_zero, Int.toNat_natCast]); (try simp only [c_dec, c_eq, c_ne, c_nodec, c_not, if_true, if_false]))
  refine .ite (fun _ => ?_) fun _ => ?_
  · ((try simp (disch := omega) only [need_and, need_dec, need_decf, need_fits, need_ne, need_t, w64_id, tmod_e, tdiv_e, bind_some', Option.map_some, cond_true, cond_false, Int.sub_zero, Int.toNat_natCast]); (try simp only [c_dec, c_eq, c_ne, c_nodec, c_not, if_true, if_false]))
    exact .pure ⟨⟨by simp; omega, fun x hx => hb x (List.mem_of_mem_take hx), by dsimp only; omega⟩, rfl⟩
  · exact .pure ⟨⟨by dsimp only; omega, hb, by dsimp only; omega⟩, rfl⟩

theorem drawTreeOk_ret {code : List Int} (hb : ∀ x, x ∈ code → 0 ≤ x ∧ x ≤ 255) (hn : code.length ≤ 1048576) : Ret (drawTreeOk code) (TreeB 6) := by
  unfold drawTreeOk
  refine .bind (l1Open_ret hb hn) ?_
  rintro ⟨b, p⟩ ⟨h, h0⟩
  dsimp only at h h0 ⊢
  refine .bind (l11AnyTree_ret h (by omega)) ?_
  rintro ⟨b1, p1, xs⟩ ⟨_, _, _, h3⟩
  exact .pure h3

/-! ### trees -/

/-- Two files as they may stand in a tree, the first ahead. -/
def apartF (a b : Str × Str) : Prop := Op.bytesLess a.1 b.1 = true ∧ under a.1 b.1 = false ∧ under b.1 a.1 = false

/-- A tree. -/
def TreeP (xs : List (Str × Str)) : Prop := (∀ x, x ∈ xs → nameOk x.1 = true ∧ x.2.length ≤ 300) ∧ xs.Pairwise apartF ∧ xs.length ≤ 8

theorem tree_iff (xs : List (Str × Str)) : ((List.range xs.length).all (specT xs) && decide (xs.length ≤ 8)) = true ↔ TreeP xs := by
  have gi : ∀ i (h : i < xs.length), xs.getD i ([], []) = xs[i] := fun i h => by simp [List.getD, h]
  constructor
  · intro H
    simp only [Bool.and_eq_true, List.all_eq_true, List.mem_range, specT, decide_eq_true_eq] at H
    obtain ⟨H, h8⟩ := H
    have hgood : (List.range xs.length).all (goodAt xs) = true := by
      simp only [List.all_eq_true, List.mem_range]; exact fun i hi => (H i hi).1
    refine ⟨fun x hx => ?_, ?_, h8⟩
    · obtain ⟨i, hi, rfl⟩ := List.getElem_of_mem hx
      have h := (H i hi).1
      unfold goodAt at h
      simp only [Bool.and_eq_true, decide_eq_true_eq, gi i hi] at h
      exact ⟨h.1, by have := h.2.1; omega⟩
    · rw [List.pairwise_iff_getElem]
      intro i j hi hj hij
      have h1 := rising xs hgood j i hij hj
      rw [gi i hi, gi j hj] at h1
      refine ⟨h1, ?_, ?_⟩
      · have h := (H i hi).2 xs[j] (List.getElem_mem hj)
        rw [gi i hi] at h; simpa using h
      · have h := (H j hj).2 xs[i] (List.getElem_mem hi)
        rw [gi j hj] at h; simpa using h
  · rintro ⟨h1, h2, h8⟩
    rw [List.pairwise_iff_getElem] at h2
    simp only [Bool.and_eq_true, List.all_eq_true, List.mem_range, specT, decide_eq_true_eq]
    refine ⟨fun i hi => ⟨?_, fun q hq => ?_⟩, h8⟩
    · unfold goodAt
      have hx := h1 xs[i] (List.getElem_mem hi)
      simp only [Bool.and_eq_true, Bool.or_eq_true, decide_eq_true_eq, gi i hi]
      refine ⟨hx.1, by have := hx.2; omega, ?_⟩
      by_cases h0 : i = 0
      · left; omega
      · right
        rw [gi (i - 1) (by omega)]
        exact (h2 (i - 1) i (by omega) hi (by omega)).1
    · obtain ⟨j, hj, rfl⟩ := List.getElem_of_mem hq
      rw [gi i hi]
      rcases Nat.lt_trichotomy i j with h | h | h
      · rw [(h2 i j hi hj h).2.1]; rfl
      · subst h; rw [under_self]; rfl
      · rw [(h2 j i hj hi h).2.2]; rfl

noncomputable def treeB (xs : List (Str × Str)) : Bool := (List.range xs.length).all (specT xs) && decide (xs.length ≤ 8)

theorem specTreeOk_b (xs : List (Str × Str)) (hn : xs.length ≤ 1048576) (hsm : SmallF xs) : specTreeOk xs = some (treeB xs) := specTreeOk_eq xs hn hsm
theorem implTreeOk_b (xs : List (Str × Str)) (hn : xs.length ≤ 1048576) (hsm : SmallF xs) : implTreeOk xs = some (treeB xs) := by rw [tree_same xs hn hsm, specTreeOk_b xs hn hsm]
theorem treeB_iff (xs : List (Str × Str)) : treeB xs = true ↔ TreeP xs := tree_iff xs

theorem TreeP.sub {xs ys : List (Str × Str)} (h : TreeP xs) (s : ys.Sublist xs) : TreeP ys :=
  ⟨fun x hx => h.1 x (s.subset hx), h.2.1.sublist s, Nat.le_trans s.length_le h.2.2⟩

theorem FnTreeLess_true (code : List Int) (hb : ∀ x, x ∈ code → 0 ≤ x ∧ x ≤ 255) : FnTreeLess code = some true := by
  unfold FnTreeLess
  ((try simp (disch := omega) only [need_and, need_dec, need_decf, need_fits, need_ne, need_t, w64_id, tmod_e, tdiv_e, bind_some', Option.map_some, cond_true, cond_false, Int.sub_zero, Int.toNat_natCast]); (try simp only [c_dec, c_eq, c_ne, c_nodec, c_not, if_true, if_false]))
  by_cases hc : (code.length : Int) > 1048576
  · rw [if_pos hc]
  · rw [if_neg hc]
    obtain ⟨xs, hx, hB⟩ := drawTreeOk_ret hb (by omega)
    have hlen : xs.length ≤ 6 := hB.1
    rw [hx]
    ((try simp (disch := omega) only [need_and, need_dec, need_decf, need_fits, need_ne, need_t, w64_id, tmod_e, tdiv_e, bind_some', Option.map_some, cond_true, cond_false, Int.sub_zero, Int.toNat_natCast]); (try simp only [c_dec, c_eq, c_ne, c_nodec, c_not, if_true, if_false]))
    rw [implTreeOk_b xs (by omega) hB.small, specTreeOk_b xs (by omega) hB.small]
    simp only [bind_some', beq_self_eq_true, Bool.not_true, cond_false]
    cases ht : treeB xs with
    | false => simp
    | true =>
      simp only [Bool.not_true, cond_false]
      have hP := (treeB_iff xs).1 ht
      have hloop : ∀ n (t : Int × List (Str × Str)), (t.2 = xs ∧ 0 ≤ t.1 ∧ t.1 ≤ xs.length) → (xs.length - t.1.toNat) < n → FnTreeLess.l0 n t = some (.inl ()) := by
        refine loop_eq _ _ _ ?_
        rintro again ⟨i, t⟩ ⟨rfl, h1, h2⟩ ih
        dsimp only at h1 h2
        obtain ⟨i, rfl⟩ := Int.eq_ofNat_of_zero_le h1
        have hlen : t.length ≤ 6 := hlen
        simp only [FnTreeLess.l0.step]
        ((try simp (disch := omega) only [need_and, need_dec, need_decf, need_fits, need_ne, need_t, w64_id, tmod_e, tdiv_e, bind_some', Option.map_some, cond_true, cond_false, Int.sub_zero, Int.toNat_natCast, List.length_nil, List.nil_append, List.drop_zero, List.length_append, List.length_take, List.length_drop]); (try simp only [c_dec, c_eq, c_ne, c_nodec, c_not, if_true, if_false, List.length_nil, List.nil_append, List.drop_zero, List.length_append, List.length_take, List.length_drop]))
        by_cases hi : (i : Int) < t.length
        · rw [if_pos hi]
          ((try simp (disch := omega) only [need_and, need_dec, need_decf, need_fits, need_ne, need_t, w64_id, tmod_e, tdiv_e, bind_some', Option.map_some, cond_true, cond_false, Int.sub_zero, Int.toNat_natCast, List.length_nil, List.nil_append, List.drop_zero, List.length_append, List.length_take, List.length_drop]); (try simp only [c_dec, c_eq, c_ne, c_nodec, c_not, if_true, if_false, List.length_nil, List.nil_append, List.drop_zero, List.length_append, List.length_take, List.length_drop]))
          have hs : (t.take i ++ (t.drop ((i : Int) + 1).toNat).take (t.length - ((i : Int) + 1).toNat)).Sublist t := by
            rw [show ((i : Int) + 1).toNat = i + 1 by omega, List.take_of_length_le (l := t.drop (i + 1)) (by rw [List.length_drop]; omega)]
            exact (List.Sublist.append (List.Sublist.refl (t.take i)) (List.drop_sublist_drop_left t (Nat.le_succ i))).trans (by rw [List.take_append_drop]; exact List.Sublist.refl _)
          rw [implTreeOk_b _ (by have := hs.length_le; omega) (fun x hx => hB.small x (hs.subset hx))]
          have := (treeB_iff _).2 (hP.sub hs)
          simp only [this, bind_some', Bool.not_true, cond_false]
          exact ih _ ⟨rfl, by dsimp only; omega, by dsimp only; omega⟩ (by dsimp only; omega)
        · rw [if_neg hi]
      rw [hloop _ _ ⟨rfl, by dsimp only; omega, by dsimp only; omega⟩ (by dsimp only; omega)]
      dsimp only [bind_some']
      rw [implTreeOk_b [] (by simp) (fun x hx => by simp at hx)]
      rfl

end Ev
