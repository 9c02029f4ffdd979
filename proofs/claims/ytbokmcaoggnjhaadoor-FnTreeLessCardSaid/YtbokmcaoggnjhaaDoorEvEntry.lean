/- What the arguments of a law are: data that are only read. Conditions: as stated. -/
import Derived.Test.YtbokmcaoggnjhaaDoorEvTy
import Derived.ChangeArms
import Derived.Below
set_option linter.unusedVariables false
set_option linter.unusedSimpArgs false
namespace Ev
open Go

/-- What is so of every value handed in. -/
def gSc : (s : Sc) → s.T → Prop
  | .int k, n => (Lit.int k n).wf = true
  | .bool, _ => True
  | .str, s => s.length ≤ maxLen
  | .ints k, xs => xs.length ≤ maxLen ∧ ∀ n, n ∈ xs → (Lit.int k n).wf = true

def gEl : (t : FT) → El t → Prop
  | [], _ => True
  | [s], x => gSc s x
  | s :: s' :: r, x => gSc s x.1 ∧ gEl (s' :: r) x.2

def scV (N : Nat → Prop) (w : World) (s : Sc) (v : Value) : Prop := ∃ x : s.T, gSc s x ∧ VRc N w (s.av x) v

def Vals (N : Nat → Prop) (w : World) : FT → List Value → Prop
  | [], [] => True
  | s :: t, v :: vs => scV N w s v ∧ Vals N w t vs
  | _, _ => False

theorem Vals.len {N : Nat → Prop} {w : World} : ∀ {t : FT} {vs : List Value}, Vals N w t vs → vs.length = t.length
  | [], [], _ => rfl
  | s :: t, v :: vs, h => by simp [Vals.len h.2]
  | [], _ :: _, h => h.elim
  | _ :: _, [], h => h.elim

theorem Vals.append {N : Nat → Prop} {w : World} : ∀ {t u : FT} {vs us : List Value}, Vals N w t vs → Vals N w u us → Vals N w (t ++ u) (vs ++ us)
  | [], u, [], us, _, h => h
  | s :: t, u, v :: vs, us, h, k => ⟨h.1, Vals.append h.2 k⟩
  | [], _, _ :: _, _, h, _ => h.elim
  | _ :: _, _, [], _, h, _ => h.elim

theorem Vals.elem {N : Nat → Prop} {w : World} : ∀ {t : FT} {vs : List Value}, Vals N w t vs → ∃ x : El t, gEl t x ∧ ∀ (f : Nat) (a : AV), (El.cells t x)[f]? = some a → ∃ v, vs[f]? = some v ∧ VRc N w a v
  | [], [], _ => ⟨(), trivial, fun f a h => by simp [El.cells] at h⟩
  | [s], [v], h => by
    obtain ⟨x, hx, hv⟩ := h.1
    refine ⟨x, hx, fun f a ha => ?_⟩
    cases f with
    | zero => simp [El.cells] at ha; subst ha; exact ⟨v, rfl, hv⟩
    | succ f => simp [El.cells] at ha
  | s :: s' :: t, v :: vs, h => by
    obtain ⟨x, hx, hv⟩ := h.1
    obtain ⟨y, hy, hys⟩ := Vals.elem (t := s' :: t) h.2
    refine ⟨(x, y), ⟨hx, hy⟩, fun f a ha => ?_⟩
    cases f with
    | zero => simp [El.cells] at ha; subst ha; exact ⟨v, rfl, hv⟩
    | succ f => exact hys f a (by simpa [El.cells] using ha)
  | [], _ :: _, h => h.elim
  | [_], [], h => h.elim
  | [_], _ :: _ :: _, h => h.2.elim
  | _ :: _ :: _, [], h => h.elim

/-! ### types that lie flat -/

def flatFs (P : Program) (g : TypeId → Option FT) : List Field → Nat → Option FT
  | [], _ => some []
  | f :: r, o => match g f.type with
    | some t => cond (Nat.beq f.offset o && Nat.beq (P.cellsOf f.type) t.length) (match flatFs P g r (o + t.length) with
      | some t' => some (t ++ t')
      | none => none) none
    | none => none

def flatOf (P : Program) : Nat → TypeId → Option FT
  | 0, _ => none
  | n + 1, t => match P.underlying t with
    | some (.int k) => some [.int k]
    | some .bool => some [.bool]
    | some .string => some [.str]
    | some (.slice e) => match P.underlying e with
      | some (.int k) => cond (Nat.beq (P.cellsOf e) 1) (some [.ints k]) none
      | _ => none
    | some (.struct fs) => match flatFs P (flatOf P n) fs.toList 0 with
      | some t' => cond (Nat.beq t'.length (P.cellsOf t)) (some t') none
      | none => none
    | _ => none

theorem flatFs_vals {P : Program} {g : TypeId → Option FT} {N : Nat → Prop} {w : World} {cs : List Value} : ∀ (fs : List Field) (o : Nat) (t : FT), flatFs P g fs o = some t →
    (∀ (i : Nat) (f : Field), fs[i]? = some f → ∀ tf, g f.type = some tf → Vals N w tf ((cs.drop f.offset).take (P.cellsOf f.type))) → o + t.length = cs.length → Vals N w t (cs.drop o)
  | [], o, t, H, hf, hl => by
    simp only [flatFs, Option.some.injEq] at H; subst H
    have : cs.drop o = [] := List.drop_eq_nil_of_le (by simp at hl; omega)
    rw [this]; trivial
  | f :: fs, o, t, H, hf, hl => by
    simp only [flatFs] at H
    split at H
    · rename_i tf htf
      cases hb : (Nat.beq f.offset o && Nat.beq (P.cellsOf f.type) tf.length) with
      | false => rw [hb] at H; simp at H
      | true =>
        rw [hb] at H
        simp only [cond_true] at H
        simp only [Bool.and_eq_true] at hb
        have e1 := Nat.eq_of_beq_eq_true hb.1
        have e2 := Nat.eq_of_beq_eq_true hb.2
        split at H
        · rename_i t' ht'
          cases H
          have h1 := hf 0 f rfl tf htf
          rw [e1, e2] at h1
          have h2 := flatFs_vals fs (o + tf.length) t' ht' (fun i f' hi => hf (i + 1) f' hi) (by simp at hl; omega)
          have := h1.append h2
          rwa [← List.drop_drop, List.take_append_drop] at this
        · cases H
    · cases H

section
variable {H : Type} {enc : TypeId × Value → H} {P : Program} {w : World} {base : Nat} {spare : Nat → Bool} {held : Bool}

def here (w : World) (b : Nat) : Prop := b < w.heap.size

theorem exists_list {α : Type} {Q : Nat → α → Prop} : ∀ (n : Nat), (∀ i, i < n → ∃ x, Q i x) → ∃ xs : List α, xs.length = n ∧ ∀ i x, xs[i]? = some x → Q i x
  | 0, _ => ⟨[], rfl, fun i x h => by simp at h⟩
  | n + 1, h => by
    obtain ⟨xs, hl, hx⟩ := exists_list n fun i hi => h i (by omega)
    obtain ⟨y, hy⟩ := h n (by omega)
    refine ⟨xs ++ [y], by simp [hl], fun i x hi => ?_⟩
    rcases Nat.lt_or_ge i n with q | q
    · rw [List.getElem?_append_left (by omega)] at hi; exact hx i x hi
    · rw [List.getElem?_append_right (by omega)] at hi
      have : i - xs.length = 0 := by
        have := (List.getElem?_eq_some_iff.1 hi).1
        simp at this; omega
      rw [this] at hi
      simp at hi
      have : i = n := by omega
      subst this; subst hi; exact hy

theorem cell_row {a : Addr} {v : Value} (h : w.cell? a = some v) : ∃ c T fz, w.heap[a.block]? = some (.cells c T fz) ∧ a.spot = none ∧ c[a.off]? = some v := by
  unfold World.cell? at h
  split at h
  · rename_i c T fz hc
    cases hs : a.spot with
    | none => rw [hs] at h; exact ⟨c, T, fz, hc, rfl, by simpa using h⟩
    | some s => rw [hs] at h; simp at h
  · cases h

theorem slice_rows {t e : TypeId} (ht : P.underlying t = some (.slice e)) {ft : FT} (hpos : 0 < lenL ft) (hc : P.cellsOf e = lenL ft)
    (hel : ∀ m cs y, DataW.trod enc P w base spare held m e cs = some y → Vals (here w) w ft cs) {fuel : Nat} {v : Value} {x : DataW H × List MemPlace}
    (h : DataW.trod enc P w base spare held fuel t [v] = some x) : ∃ xs : List (El ft), RoG (VRc (here w) w) (here w) w ft xs v ∧ xs.length ≤ maxLen ∧ ∀ y, y ∈ xs → gEl ft y := by
  rcases DataW.trod_slice ht h with ⟨h0, _⟩ | ⟨a, len, cap, elems, rest, n, _, hcs, _, _, hl, hm, hlen, hels, _, _⟩
  · simp only [List.cons.injEq, and_true] at h0
    exact ⟨[], ⟨none, 0, h0, .inl rfl⟩, Nat.zero_le _, fun y hy => by simp at hy⟩
  · simp only [List.cons.injEq, and_true] at hcs
    subst hcs
    by_cases h0 : len = 0
    · subst h0
      exact ⟨[], ⟨some a, cap, rfl, .inl rfl⟩, Nat.zero_le _, fun y hy => by simp at hy⟩
    · have each : ∀ i, i < len → ∃ cs, cs.length = lenL ft ∧ Vals (here w) w ft cs ∧ ∀ j, j < lenL ft → w.cell? ((a.add (i * lenL ft)).add j) = cs[j]? := fun i hi => by
        have he := hels i hi
        rw [List.getElem?_eq_getElem (by omega : i < elems.length)] at he
        obtain ⟨cs, h1, h2⟩ := Option.bind_eq_some_iff.1 he
        have hv := hel n cs _ h2
        have hln := hv.len
        unfold World.cells? at h1
        split at h1
        · refine ⟨cs, by rw [hln, lenL_eq], hv, fun j hj => ?_⟩
          have := mapM_some_get h1 j j (by rw [List.getElem?_range]; rw [hc]; exact hj)
          rwa [hc] at this
        · cases h1
      obtain ⟨cs0, l0, _, g0⟩ := each 0 (by omega)
      have c0 := g0 0 hpos
      rw [List.getElem?_eq_getElem (by omega : 0 < cs0.length)] at c0
      rw [Nat.zero_mul] at c0
      have hadd : ∀ q : Addr, q.add 0 = q := fun q => by simp [Addr.add]
      rw [hadd, hadd] at c0
      obtain ⟨c, T, fz, hheap, hspot, _⟩ := cell_row c0
      obtain ⟨b, o, sp⟩ := a
      dsimp only at hheap hspot
      subst hspot
      have hN : here w b := by
        unfold here
        rcases Nat.lt_or_ge b w.heap.size with q | q
        · exact q
        · simp [Array.getElem?_eq_none q] at hheap
      obtain ⟨xs, hxl, hxs⟩ := exists_list (Q := fun i (y : El ft) => gEl ft y ∧ CellsR (VRc (here w) w) c (o + i * lenL ft) (El.cells ft y)) len fun i hi => by
        obtain ⟨cs, h1, h2, h3⟩ := each i hi
        obtain ⟨y, hy, hc'⟩ := h2.elem
        refine ⟨y, hy, fun f av hf => ?_⟩
        obtain ⟨u, hu, hr⟩ := hc' f av hf
        refine ⟨u, ?_, hr⟩
        have hfl : f < lenL ft := by rw [← h1]; exact (List.getElem?_eq_some_iff.1 hu).1
        have := h3 f hfl
        rw [Addr.add_mid, Addr.add_mid, hu] at this
        obtain ⟨c', T', fz', e1, _, e3⟩ := cell_row this
        dsimp only at e1 e3
        rw [hheap] at e1; cases e1
        exact e3
      refine ⟨xs, ⟨some ⟨b, o, none⟩, cap, by rw [hxl], .inr ⟨b, o, ⟨rfl, by omega⟩, hN, c, T, fz, hheap, fun j y hj => (hxs j y hj).2⟩⟩, by omega, fun y hy => ?_⟩
      obtain ⟨j, hj⟩ := List.getElem?_of_mem hy
      exact (hxs j y hj).1

theorem flat_vals : ∀ (n : Nat) (e : TypeId) (ft : FT), flatOf P n e = some ft → ∀ m cs y, DataW.trod enc P w base spare held m e cs = some y → Vals (here w) w ft cs
  | 0, e, ft, hf, _, _, _, _ => by simp [flatOf] at hf
  | n + 1, e, ft, hf, m, cs, y, h => by
    simp only [flatOf] at hf
    split at hf
    · rename_i k hu
      cases hf
      obtain ⟨q, rfl, _, hw⟩ := DataW.trod_int hu h
      exact ⟨⟨q, hw, rfl⟩, trivial⟩
    · rename_i hu
      cases hf
      obtain ⟨q, rfl, _⟩ := DataW.trod_bool hu h
      exact ⟨⟨q, trivial, rfl⟩, trivial⟩
    · rename_i hu
      cases hf
      obtain ⟨q, rfl, _, hw⟩ := DataW.trod_string hu h
      exact ⟨⟨q.data.toList, by simpa [gSc] using hw, by simp only [Sc.av, VRc, VRs]⟩, trivial⟩
    · rename_i e' hu
      split at hf
      · rename_i k hk
        cases hb : Nat.beq (P.cellsOf e') 1 with
        | false => rw [hb] at hf; simp at hf
        | true =>
          rw [hb] at hf
          cases hf
          have hce := Nat.eq_of_beq_eq_true hb
          have one : ∃ v, cs = [v] := by
            rcases DataW.trod_slice hu h with ⟨h0, _⟩ | ⟨a, len, cap, _, _, _, _, hcs, _⟩
            · exact ⟨_, h0⟩
            · exact ⟨_, hcs⟩
          obtain ⟨v, rfl⟩ := one
          obtain ⟨xs, h1, h2, h3⟩ := slice_rows (ft := [.int k]) hu (by simp [lenL]) (by rw [hce]; rfl) (fun m' cs' y' h' => by
            obtain ⟨q, rfl, _, hw⟩ := DataW.trod_int hk h'
            exact ⟨⟨q, hw, rfl⟩, trivial⟩) h
          refine ⟨⟨xs, ⟨h2, fun q hq => h3 q hq⟩, ?_⟩, trivial⟩
          simp only [Sc.av, VRc]
          obtain ⟨a, cap, rfl, hh⟩ := h1
          refine ⟨a, cap, rfl, hh.imp id ?_⟩
          rintro ⟨b, o, hab, hN, c, T, fz, hheap, hx⟩
          refine ⟨b, o, hab, hN, c, T, fz, hheap, fun j y hj f av hf => ?_⟩
          obtain ⟨u, hu', hr⟩ := hx j y hj f av hf
          refine ⟨u, hu', ?_⟩
          have : av = .int k y := by
            cases f with
            | zero => simpa [El.cells, Sc.av] using hf.symm
            | succ f => simp [El.cells] at hf
          subst this
          exact hr
      · cases hf
    · rename_i fs hu
      split at hf
      · rename_i t' ht'
        cases hb : Nat.beq t'.length (P.cellsOf e) with
        | false => rw [hb] at hf; simp at hf
        | true =>
          rw [hb] at hf
          cases hf
          have hlen := Nat.eq_of_beq_eq_true hb
          obtain ⟨xs, n', _, _, hl, hxl, hfd⟩ := DataW.trod_struct hu h
          have := flatFs_vals (N := here w) (w := w) (cs := cs) fs.toList 0 ft ht' (fun i f hi tf htf => by
            have hi' : fs[i]? = some f := by simpa using hi
            have hx := hfd i f hi'
            have hil : i < xs.length := by rw [hxl]; exact (Array.getElem?_eq_some_iff.1 hi').1
            rw [List.getElem?_eq_getElem hil] at hx
            exact flat_vals n f.type tf htf n' _ _ hx) (by omega)
          simpa using this
      · cases hf
    · cases hf

end
/-! ### a law's call -/

theorem entry_rep {P : Program} {C : Ctx} (hg : C.glob = fun _ => []) (w : World) : RepH ⟨P, C, w, here w⟩ (fun _ => none) (here w) (getH []) w := by
  have dead : ∀ i, getH [] i = .dead := fun i => by cases i <;> rfl
  refine ⟨fun i h => absurd (dead i) h, fun i j b _ h => absurd (dead i) h, fun b h => h, fun b h => h, ⟨rfl, rfl, rfl, Nat.le_refl _, fun _ _ => rfl⟩, fun g h => ?_⟩
  rw [hg] at h
  exact absurd rfl h

/-- A law that says true. -/
theorem law_calls {P : Program} {C : Ctx} {H : Hnd} {f : Nat} {fn : Func} {ann : Ann} {keep : Nat} {sargs : List Tp} {ids : List DT} {F : Den ids → Option Bool} (T : TyOk P C) (hg : C.glob = fun _ => []) (hH : HndOk P C H)
    (hf : P.funcs[f]? = some fn) (hb : fn.body.isNone = false) (hwf : (Spec.mk keep sargs [] ids ⟨[.bool], .sc .bool, []⟩ F).wf = true)
    (hev : ∀ d, evFn C H fn ann (Spec.mk keep sargs [] ids ⟨[.bool], .sc .bool, []⟩ F) d = F d) (d : Den ids) (hF : F d = some true) (w : World) (vs : Array Value) (args : List AV)
    (hinsts : (Tp.insts (fun j => j) sargs (Den.list ids d)).1 = args) (hv : VRL (fun _ => none) (here w) w args vs.toList) :
    Calls P f vs w fun e w' => e = .returned (.bool true) ∧ Go.RowKit.Below w.heap.size w w' := by
  have h := (hev d).trans hF
  obtain ⟨l, hl⟩ : ∃ l, Tp.insts (fun j => j) sargs (Den.list ids d) = (args, l) := ⟨_, by rw [← hinsts]⟩
  refine (calls_of_ev T hH hf hb hwf d true h ⟨P, C, w, here w⟩ rfl rfl (fun _ => none) (here w) w vs args l hl hv (entry_rep hg w) (fun _ _ => rfl)).mono ?_
  rintro e w' ⟨val, rfl, ι', N', v, l', h1, h2, R, _, G⟩
  simp only [Den.list, Tp.inst, Prod.mk.injEq] at h1
  obtain ⟨rfl, rfl⟩ := h1
  simp only [Dat.av, VR] at h2
  subst h2
  exact ⟨rfl, R.pres.os, R.pres.tape, R.pres.output, R.pres.size, fun k hk => R.pres.mem k hk⟩

end Ev
