/- Each operation of the evaluator is what the model does: append, make. Conditions: the tables fit the program. -/
import Derived.Test.YtbokmcaoggnjhaaDoorEvOps4
set_option linter.unusedVariables false
set_option linter.unusedSimpArgs false
namespace Ev
open Go

section
variable {E : Env} {ι : Nat → Option Value} {N : Nat → Prop} {h : Nat → Ob} {w : World} {nid : Nat} {s : Sem Next}

/-- What is there to be read or appended: so many elements, their cells. -/
structure Src (P : Program) (N : Nat → Prop) (w : World) (t : FT) (ys : List (El t)) (v : Value) : Prop where
  len : ∀ w', (Builtin.lenOf v).run P w' = .ok ys.length w'
  first : ∃ news : List Value, news.length = ys.length * lenL t ∧ (∀ w' : World, (∀ b, b < w.heap.size → w'.heap[b]? = w.heap[b]?) → (Builtin.firstCells (lenL t) ys.length v).run P w' = .ok news.toArray w') ∧
    (∀ x ∈ news, x.oneCell' = true) ∧ ∀ (j : Nat) y, ys[j]? = some y → CellsR (VRc N w) news.toArray (j * lenL t) (El.cells t y)

theorem rows_list {Q : AV → Value → Prop} {t : FT} {c : Array Value} {o : Nat} : ∀ (ys : List (El t)), (∀ (j : Nat) y, ys[j]? = some y → CellsR Q c (o + j * lenL t) (El.cells t y)) →
    ∃ vs : List Value, vs.length = ys.length * lenL t ∧ (∀ (j : Nat) v, vs[j]? = some v → c[o + j]? = some v) ∧ (∀ (j : Nat) y, ys[j]? = some y → CellsR Q vs.toArray (j * lenL t) (El.cells t y)) ∧ (∀ v ∈ vs, ∃ a, Q a v) := by
  intro ys
  induction ys generalizing o with
  | nil => intro _; exact ⟨[], by simp, by simp, by simp, by simp⟩
  | cons y ys ih =>
    intro hc
    obtain ⟨v1, hl1, hc1, hq1⟩ := cellsR_list (hc 0 y rfl)
    obtain ⟨v2, hl2, hc2, hq2, hx2⟩ := ih (o := o + lenL t) fun j z hj => by
      have := hc (j + 1) z (by simpa using hj)
      rwa [show o + (j + 1) * lenL t = o + lenL t + j * lenL t by rw [Nat.add_mul]; omega] at this
    rw [El.cells_len] at hl1
    refine ⟨v1 ++ v2, by simp [hl1, hl2, Nat.add_mul]; omega, fun j v hj => ?_, fun j z hj => ?_, fun v hv => ?_⟩
    · rcases Nat.lt_or_ge j v1.length with hlt | hge
      · rw [List.getElem?_append_left hlt] at hj
        have := hc1 j v hj
        simpa using this
      · rw [List.getElem?_append_right hge] at hj
        have := hc2 _ v hj
        rw [hl1] at this hge
        rwa [show o + lenL t + (j - lenL t) = o + j by omega] at this
    · cases j with
      | zero =>
        simp at hj; subst hj
        intro f a ha
        have hf : f < v1.length := by rw [hl1, ← El.cells_len t y]; exact (List.getElem?_eq_some_iff.1 ha).1
        refine ⟨v1[f], ?_, hq1 f a v1[f] ha (by simp [hf])⟩
        simp [List.getElem?_append_left hf, hf]
      | succ j =>
        intro f a ha
        obtain ⟨v, e1, e2⟩ := hq2 j z (by simpa using hj) f a ha
        refine ⟨v, ?_, e2⟩
        simp only [List.getElem?_toArray] at e1 ⊢
        rw [List.getElem?_append_right (by rw [hl1, Nat.add_mul]; omega), hl1, ← e1]
        congr 1
        rw [Nat.add_mul]; omega
    · simp only [List.mem_append] at hv
      rcases hv with hv | hv
      · obtain ⟨i, hi⟩ := List.getElem?_of_mem hv
        have hlt := (List.getElem?_eq_some_iff.1 hi).1
        rw [hl1, ← El.cells_len t y] at hlt
        exact ⟨_, hq1 i _ v (List.getElem?_eq_getElem hlt) hi⟩
      · exact hx2 v hv

theorem Src.of_rows {P : Program} {t : FT} {ys : List (El t)} {b o cap : Nat} {c : Array Value} {T0 : TypeId} {fz : Nat × Nat} (hheap : w.heap[b]? = some (.cells c T0 fz))
    (hx : ∀ (j : Nat) y, ys[j]? = some y → CellsR (VRc N w) c (o + j * lenL t) (El.cells t y)) : Src P N w t ys (.slice (some ⟨b, o, none⟩) ys.length cap) := by
  obtain ⟨vs, hl, hc, hq, hone⟩ := rows_list ys hx
  refine ⟨fun _ => rfl, vs, hl, fun w' hw' => ?_, fun x hm => ?_, hq⟩
  · refine run_firstCells_some w' (lenL t) ys.length ⟨b, o, none⟩ ys.length cap vs hl fun j v hj => ?_
    rw [Addr.add_mid]
    have hb : b < w.heap.size := (Array.getElem?_eq_some_iff.1 hheap).1
    simp [World.cell?, hw' b hb, hheap, hc j v hj]
  · obtain ⟨a, ha⟩ := hone x hm
    exact ha.one

theorem Src.nil {P : Program} {t : FT} {a : Option Addr} {cap : Nat} : Src P N w t [] (.slice a 0 cap) := by
  refine ⟨fun _ => rfl, [], by simp, fun w' _ => ?_, by simp, by simp⟩
  cases a with
  | none => simp [Builtin.firstCells]
  | some a => exact run_firstCells_some w' (lenL t) 0 a 0 cap [] (by simp) (by simp)

theorem RoG.src {P : Program} {t : FT} {xs : List (El t)} {v : Value} (hr : RoG (VRc N w) N w t xs v) : Src P N w t xs v := by
  obtain ⟨a, cap, rfl, hr⟩ := hr
  rcases hr with rfl | ⟨b, o, ⟨rfl, hcp⟩, hb, c, T0, fz, hheap, hx⟩
  · exact Src.nil
  · exact Src.of_rows hheap hx

theorem roOf_src {P : Program} (R : RepH E ι N h w) {t : FT} {a : AV} {v : Value} {xs : List (El t)} {ids : List Nat} (hr : roOf h t a = some (xs, ids)) (hv : VR ι N w a v) : Src P N w t xs v := by
  unfold roOf at hr
  split at hr
  · rename_i t' ys
    split at hr
    · rename_i e; subst e; cases hr
      simp only [VR] at hv; exact hv.src
    · cases hr
  · cases hr; simp only [VR] at hv; subst hv; exact Src.nil
  · rename_i id
    split at hr
    · rename_i t' ys hx
      split at hr
      · rename_i e; subst e; cases hr
        simp only [VR] at hv
        obtain ⟨u, hu, hob⟩ := R.ob id (by rw [hx]; simp)
        rw [hv.1] at hu; cases hu
        rw [hx] at hob
        obtain ⟨a, cap, rfl, hle, hob⟩ := hob
        rcases hob with rfl | ⟨b, c, T0, rfl, hown, hheap, hfit, hel⟩
        · have : ys = [] := List.eq_nil_of_length_eq_zero (by omega)
          subst this; exact Src.nil
        · exact Src.of_rows hheap (by simpa using hel)
      · cases hr
    · cases hr
  · rename_i id sz o n
    split at hr
    · rename_i t' ys hx
      split at hr
      · rename_i e; subst e
        cases hsz : Nat.beq sz (lenL t') with
        | false => rw [hsz] at hr; simp at hr
        | true =>
        rw [hsz] at hr; simp only [cond_true] at hr
        have hsz' : sz = lenL t' := Nat.eq_of_beq_eq_true hsz
        cases hr
        simp only [VR] at hv
        obtain ⟨a, n', cap, hι, hon, a', cap', rfl, hcp', hcase⟩ := hv
        obtain ⟨u, hu, hob⟩ := R.ob id (by rw [hx]; simp)
        rw [hι] at hu; cases hu
        rw [hx] at hob
        obtain ⟨a2, cap2, e1, hle, hob⟩ := hob
        simp only [Value.slice.injEq] at e1
        obtain ⟨rfl, rfl, rfl⟩ := e1
        have hlen : ((ys.drop o).take n).length = n := by simp; omega
        rcases hcase with h0 | ⟨b, p, rfl, rfl⟩
        · subst h0; simp only [List.take_zero]; exact Src.nil
        · rcases hob with hz | ⟨b', c, T0, e, hown, hheap, hfit, hel⟩
          · subst hz
            have : n = 0 := by omega
            subst this; simp only [List.take_zero]; exact Src.nil
          · simp at e; obtain ⟨rfl, rfl⟩ := e
            have := Src.of_rows (P := P) (cap := cap') (ys := (ys.drop o).take n) (o := 0 + o * sz) hheap (fun j y hj => by
              rw [List.getElem?_take] at hj
              split at hj
              · rw [List.getElem?_drop] at hj
                have := hel (o + j) y hj
                rw [hsz']
                rwa [Nat.zero_add, ← Nat.add_mul]
              · cases hj)
            rwa [hlen] at this
      · cases hr
    · cases hr
  · cases hr

/-- The bytes of a string. -/
theorem str_src {P : Program} {s : Str} : Src P N w [.int .u8] (ofBytes s) (.string ⟨s.toArray⟩) := by
  have hs : (⟨s.toArray⟩ : ByteArray).size = s.length := by simp [ByteArray.size]
  refine ⟨fun w' => by simp [Builtin.lenOf, hs, ofBytes], s.map fun b => .int .u8 b.toNat, by simp [ofBytes, lenL], fun w' _ => ?_, by simp [Value.oneCell'], fun j y hj => ?_⟩
  · simp [Builtin.firstCells, ofBytes]
  · intro f a ha
    cases f with
    | zero =>
      simp [El.cells, Sc.av] at ha; subst ha
      simp [ofBytes] at hj
      obtain ⟨b, hb, rfl⟩ := hj
      refine ⟨.int .u8 b.toNat, by simp [lenL, hb], rfl⟩
    | succ f => simp [El.cells] at ha

theorem srcOf_src {P : Program} (R : RepH E ι N h w) {t : FT} {a : AV} {v : Value} {ys : List (El t)} (hr : srcOf h t a = some ys) (hv : VR ι N w a v) : Src P N w t ys v := by
  unfold srcOf at hr
  split at hr
  · split at hr
    · cases hr; simp only [VR] at hv; subst hv; exact str_src
    · cases hr
  · split at hr
    · rename_i hro
      cases hr
      exact roOf_src R hro hv
    · cases hr

theorem run_app_room {P : Program} {t1 t2 ty e : TypeId} {i : TypeInfo} {d2 : TypeDesc} (h1 : P.underlying t1 = some (.slice e)) (h2 : P.underlying t2 = some d2) (hd : (∃ e2, d2 = .slice e2) ∨ d2 = .string) (hi : P.info? e = some i)
    {base : Option Addr} {sLen sCap n : Nat} {x : Value} {news : List Value} (hl : ∀ w', (Builtin.lenOf x).run P w' = .ok n w') (hf : (Builtin.firstCells i.size n x).run P w = .ok news.toArray w) (hroom : sLen + n ≤ sCap) {w' : World}
    (hst : (match base with | some a => storeCells (a.add (sLen * i.size)) news | none => Pure.pure () : Sem Unit).run P w = .ok () w') :
    (Builtin.append_ #[t1, t2] ty #[.slice base sLen sCap, x]).run P w = .ok (.slice base (sLen + n) sCap) w' := by
  cases base with
  | none =>
    have : w' = w := by simpa using hst.symm
    subst this
    rcases hd with ⟨e2, rfl⟩ | rfl <;> simp [Builtin.append_, run_underlying h1, run_underlying h2, Go.sizeOf, typeInfo, hi, hl, hroom, hf]
  | some a =>
    rcases hd with ⟨e2, rfl⟩ | rfl <;> simp [Builtin.append_, run_underlying h1, run_underlying h2, Go.sizeOf, typeInfo, hi, hl, hroom, hf, hst]

theorem run_app_grow {P : Program} {t1 t2 ty e : TypeId} {i : TypeInfo} {d2 : TypeDesc} {z : Value} (h1 : P.underlying t1 = some (.slice e)) (h2 : P.underlying t2 = some d2) (hd : (∃ e2, d2 = .slice e2) ∨ d2 = .string) (hi : P.info? e = some i) (hz : i.zero = some z)
    {base : Option Addr} {sLen sCap n : Nat} {x : Value} {news olds : List Value} (hl : ∀ w', (Builtin.lenOf x).run P w' = .ok n w') (hf : (Builtin.firstCells i.size n x).run P w.drew = .ok news.toArray w.drew)
    (ho : (Builtin.firstCells i.size sLen (.slice base sLen sCap)).run P w.drew = .ok olds.toArray w.drew)
    (hroom : sCap < sLen + n) (h63 : ((sLen + n : Nat) : Int) ≤ 9223372036854775807) (hfit : Builtin.nextslicecap (sLen + n) sCap * i.bytes ≤ 281474976710656) :
    (Builtin.append_ #[t1, t2] ty #[.slice base sLen sCap, x]).run P w = .ok (.slice (some ⟨w.heap.size, 0, none⟩) (sLen + n) (grownCap w (sLen + n) sCap e))
      (w.drew.alloc (.cells (olds.toArray ++ news.toArray ++ Builtin.zeroCells z.cells (grownCap w (sLen + n) sCap e - (sLen + n))) e)) := by
  have hn : ¬ (sLen + n ≤ sCap) := by omega
  have h63' : ¬ (9223372036854775807 < ((sLen : Int) + (n : Int))) := by omega
  have h48' : ¬ (281474976710656 < Builtin.nextslicecap (sLen + n) sCap * i.bytes) := by omega
  rcases hd with ⟨e2, rfl⟩ | rfl <;>
    (simp [Builtin.append_, run_underlying h1, run_underlying h2, Go.sizeOf, typeInfo, zeroValue, hi, hz, hl, hn, h63', h48', Question.forced, ho, hf, newRow, grownCap]
     try (congr 2; apply Array.ext'; simp [List.append_assoc]))

end
end Ev
