/- Each operation of the evaluator is what the model does: append. Conditions: the tables fit the program. -/
import Derived.Test.YtbokmcaoggnjhaaDoorEvOps5
set_option linter.unusedVariables false
set_option linter.unusedSimpArgs false
namespace Ev
open Go

section
variable {E : Env} {ι : Nat → Option Value} {N : Nat → Prop} {h : Nat → Ob} {w : World} {nid : Nat} {s : Sem Next}

theorem app_rows {t : FT} {xs ys : List (El t)} {c c' : Array Value} {news : List Value} {N' : Nat → Prop} {w' : World}
    (hN : ∀ a v, VRc N w a v → VRc N' w' a v)
    (hold : ∀ (j : Nat) (x : El t), xs[j]? = some x → CellsR (VRc N w) c (j * lenL t) (El.cells t x))
    (hnew : ∀ (j : Nat) y, ys[j]? = some y → CellsR (VRc N w) news.toArray (j * lenL t) (El.cells t y))
    (hl : news.length = ys.length * lenL t)
    (h1 : ∀ k, k < xs.length * lenL t → c'[k]? = c[k]?) (h2 : ∀ k, k < news.length → c'[xs.length * lenL t + k]? = news[k]?) :
    ∀ (j : Nat) (x : El t), (xs ++ ys)[j]? = some x → CellsR (VRc N' w') c' (j * lenL t) (El.cells t x) := by
  intro j x hj f a ha
  have hf : f < lenL t := by rw [← El.cells_len t x]; exact (List.getElem?_eq_some_iff.1 ha).1
  rcases Nat.lt_or_ge j xs.length with hlt | hge
  · rw [List.getElem?_append_left hlt] at hj
    obtain ⟨v, e1, e2⟩ := hold j x hj f a ha
    have := Nat.mul_le_mul_right (lenL t) (show j + 1 ≤ xs.length by omega)
    rw [Nat.add_mul] at this
    exact ⟨v, by rw [h1 _ (by omega)]; exact e1, hN _ _ e2⟩
  · rw [List.getElem?_append_right hge] at hj
    obtain ⟨v, e1, e2⟩ := hnew _ x hj f a ha
    have hjl : j - xs.length < ys.length := (List.getElem?_eq_some_iff.1 hj).1
    have := Nat.mul_le_mul_right (lenL t) (show j - xs.length + 1 ≤ ys.length by omega)
    rw [Nat.add_mul] at this
    refine ⟨v, ?_, hN _ _ e2⟩
    simp only [List.getElem?_toArray] at e1
    rw [← e1, ← h2 _ (by omega)]
    congr 1
    rw [← Nat.add_assoc, ← Nat.add_mul]
    congr 2; omega

/-- A slice (own, or nil) is appended to: what it comes to. -/
theorem app_sound (T : TyOk E.P E.C) (R : RepH E ι N h w) (hi : ι nid = none) {t1 t2 e : Nat} {ft : FT} (h1 : E.P.underlying t1 = some (.slice e)) {d2 : TypeDesc} (h2 : E.P.underlying t2 = some d2)
    (hd : (∃ e2, d2 = .slice e2) ∨ d2 = .string) (hft : (E.C.ty e).ft = some ft) {xs ys : List (El ft)} {base : Option Addr} {cap : Nat} {x : Value} (hxs : Src E.P N w ft xs (.slice base xs.length cap)) (hx : Src E.P N w ft ys x) (hlim : xs.length + ys.length ≤ LIM)
    {h' : Nat → Ob} (hle : xs.length ≤ cap) (hcase : (cap = 0 ∧ RepH E ι N h' w) ∨ ∃ id b c T0, base = some ⟨b, 0, none⟩ ∧ ι id = some (.slice base xs.length cap) ∧ h id = .arr ft xs ∧ h' = upd h id .dead ∧ cap ≠ 0 ∧ own N E.keep b ∧ w.heap[b]? = some (.cells c T0 (0, 0)) ∧
      cap * lenL ft ≤ c.size ∧ ∀ (j : Nat) (x : El ft), xs[j]? = some x → CellsR (VRc N w) c (j * lenL ft) (El.cells ft x)) :
    ∃ val w' ty0, (∀ ty, (Builtin.append_ #[t1, t2] ty #[.slice base xs.length cap, x]).run E.P w = .ok val w') ∧ val = val ∧ ty0 = e ∧ (∃ a n c, val = .slice a n c) ∧ Later ι N w (updL ι nid val) N w' ∧ RepH E (updL ι nid val) N (upd h' nid (.arr ft (xs ++ ys))) w' := by
  obtain ⟨hoth, hsz, hpos, hdf⟩ := T.ft e ft hft
  obtain ⟨i, z, hin, ⟨hisz, _⟩, hby, hz, hz1, hz2, hzs, _⟩ := T.inf e hoth
  have his : i.size = lenL ft := hisz.trans hsz.symm
  obtain ⟨news, hnl, hnf, hn1, hnc⟩ := hx.first
  obtain ⟨olds, hol, hof, ho1, hoc⟩ := hxs.first
  have R' : RepH E ι N h' w := by
    rcases hcase with ⟨_, R'⟩ | ⟨id, b, c, T0, _, _, _, rfl, _⟩
    · exact R'
    · exact R.kill id
  by_cases hroom : xs.length + ys.length ≤ cap
  · rcases hcase with ⟨rfl, _⟩ | ⟨id, b, c, T0, rfl, hι, hid, rfl, hc0, hown, hheap, hfit, hel⟩
    · -- nothing is appended to nothing
      have hx0 : xs = [] := List.eq_nil_of_length_eq_zero (by omega)
      have hy0 : ys = [] := List.eq_nil_of_length_eq_zero (by omega)
      subst hx0 hy0
      have hn0 : news = [] := List.eq_nil_of_length_eq_zero (by simpa using hnl)
      subst hn0
      refine ⟨.slice base 0 0, w, e, fun ty => ?_, rfl, rfl, ⟨_, _, _, rfl⟩, .updL hi, ?_⟩
      · exact run_app_room (n := 0) (w' := w) (news := []) h1 h2 hd hin hx.len (by rw [his]; exact hnf w fun _ _ => rfl) (by simp) (by cases base <;> rfl)
      · exact R'.new nid hi _ _ ⟨base, 0, rfl, by simp, .inl rfl⟩ (fun j b hj hb => by cases base <;> simp [blkOf] at hb)
    · -- there is room
      have hnfit : xs.length * lenL ft + news.length ≤ c.size := by
        rw [hnl, ← Nat.add_mul]; exact Nat.le_trans (Nat.mul_le_mul_right _ hroom) hfit
      have hst := run_storeCells_at E.P b (xs.length * i.size) T0 news 0 c w hheap (by rw [his]; simpa using hnfit) hn1
      simp only [Nat.add_zero] at hst
      refine ⟨.slice (some ⟨b, 0, none⟩) (xs.length + ys.length) cap, w.setRow b (c.toList.take (xs.length * i.size) ++ news ++ c.toList.drop (xs.length * i.size + news.length)).toArray, e, fun ty => ?_, rfl, rfl, ⟨_, _, _, rfl⟩, ?_⟩
      · exact run_app_room h1 h2 hd hin hx.len (by rw [his]; exact hnf w fun _ _ => rfl) hroom (by simp only [Addr.add_mid, Nat.zero_add]; exact hst)
      · rw [his]
        obtain ⟨R1, L1⟩ := R.write (i := id) (b := b) hι (by simp [blkOf, hc0]) (by rw [hid]; simp) .dead
          (w.setRow b (c.toList.take (xs.length * lenL ft) ++ news ++ c.toList.drop (xs.length * lenL ft + news.length)).toArray) (fun k hk => setRow_other w b k _ hk) (by simp) rfl rfl rfl (fun _ _ => trivial)
        have L2 := L1.trans (Later.updL (ι := ι) (N := N) (v := .slice (some ⟨b, 0, none⟩) (xs.length + ys.length) cap) hi)
        refine ⟨L2, R1.new nid hi _ _ ⟨_, cap, by simp, by simpa using hroom, .inr ⟨b, _, T0, rfl, hown, setRow_heap w b c _ T0 _ hheap, ?_, ?_⟩⟩ ?_⟩
        · simp only [List.size_toArray, List.length_append, List.length_take, List.length_drop, Array.length_toList]; omega
        · refine app_rows (fun a v q => VRc.mono L2.ro L2.mem q) hel hnc hnl (fun k hk => ?_) fun k hk => ?_
          · rw [seg_get c _ _ hnfit, if_neg (by omega)]
          · rw [seg_get c _ _ hnfit, if_pos (by omega)]; congr 1; omega
        · intro j b' hj hb' hj'
          simp [blkOf, hc0] at hb'; subst hb'
          by_cases ej : j = id
          · subst ej; simp [upd] at hj
          · rw [upd_other _ _ ej] at hj
            exact R.sep id j b (fun e => ej e.symm) (by rw [hid]; simp) hj (by rw [hι]; simp [blkOf, hc0]) hj'
  · -- new memory
    have hLIM : LIM = 1099511627776 := rfl
    have hfit : Builtin.nextslicecap (xs.length + ys.length) cap * i.bytes ≤ 281474976710656 := growslice_fits (by omega) (by
      have := Nat.mul_le_mul (show xs.length + ys.length ≤ 1099511627776 by omega) hby
      omega)
    have hge := grownCap_ge w (xs.length + ys.length) cap e
    refine ⟨_, _, e, fun ty => run_app_grow h1 h2 hd hin hz hx.len (by rw [his]; exact hnf w.drew fun _ _ => rfl) (by rw [his]; exact hof w.drew fun _ _ => rfl) (by omega) (by omega) hfit, rfl, rfl, ⟨_, _, _, rfl⟩, ?_⟩
    have hb0 : grownCap w (xs.length + ys.length) cap e ≠ 0 := by omega
    obtain ⟨R2, L2⟩ := R'.drew.newCells (w := w.drew) hi (olds.toArray ++ news.toArray ++ Builtin.zeroCells z.cells (grownCap w (xs.length + ys.length) cap e - (xs.length + ys.length))) e
      (.slice (some ⟨w.heap.size, 0, none⟩) (xs.length + ys.length) (grownCap w (xs.length + ys.length) cap e)) (.arr ft (xs ++ ys)) (fun b hb => by simp [blkOf, hb0] at hb; exact hb.symm) (fun ow hh L => by
        refine ⟨some ⟨w.heap.size, 0, none⟩, grownCap w (xs.length + ys.length) cap e, by simp, by simpa using hge, .inr ⟨w.heap.size, _, e, rfl, ow, hh, ?_, ?_⟩⟩
        · simp only [Array.size_append, List.size_toArray, size_zeroCells, hzs, his, hol, hnl, ← Nat.add_mul]
          exact Nat.mul_le_mul_right _ (by omega)
        · refine app_rows (w := w) (N := N) (c := olds.toArray) (fun a v q => VRc.mono L.ro (fun b hb => L.mem b hb) q) hoc hnc hnl (fun k hk => ?_) fun k hk => ?_
          · rw [Array.getElem?_append_left (by simp; omega), Array.getElem?_append_left (by simp; omega)]
          · rw [Array.getElem?_append_left (by simp; omega), Array.getElem?_append_right (by simp; omega)]
            simp only [List.size_toArray, hol, List.getElem?_toArray]; congr 1; omega)
    exact ⟨⟨fun j v q => L2.loc j v q, L2.ro, fun b hb => L2.mem b hb⟩, R2⟩

end
end Ev
