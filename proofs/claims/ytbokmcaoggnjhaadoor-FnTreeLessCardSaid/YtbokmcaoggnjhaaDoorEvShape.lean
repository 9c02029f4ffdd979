/- Shapes: the objects of a state, and the state of data. Conditions: as stated. -/
import Derived.Test.YtbokmcaoggnjhaaDoorEvPost
set_option linter.unusedVariables false
set_option linter.unusedSimpArgs false
namespace Ev
open Go

/-! ### what holds of every matching -/

structure MOk (h : Nat → Ob) (nid0 : Nat) (m : M) : Prop where
  inj : ∀ j j' i, renA m.ren j = some i → renA m.ren j' = some i → j = j'
  has : ∀ j i, renA m.ren j = some i → renHas m.ren i = true
  add : ∀ x, x ∈ m.add → (∃ t, x.2 = .arr t []) ∧ nid0 ≤ x.1 ∧ x.1 < m.nid
  frz : ∀ i, i ∈ m.frz → ∃ t xs, h i = .arr t xs
  nid : nid0 ≤ m.nid

section
variable {h : Nat → Ob} {nid0 : Nat} {ots : Nat → OT}

theorem MOk.data {m : M} (o : MOk h nid0 m) (x : Dat) : MOk h nid0 (m.data x) := ⟨o.inj, o.has, o.add, o.frz, o.nid⟩

theorem MOk.ref {m m' : M} {j id : Nat} (o : MOk h nid0 m) (H : m.ref j id = some m') : MOk h nid0 m' := by
  unfold M.ref at H
  split at H
  · cases hb : Nat.beq _ id with
    | false => rw [hb] at H; simp at H
    | true => rw [hb] at H; simp only [cond_true, Option.some.injEq] at H; subst H; exact o
  · rename_i hn
    cases hb : renHas m.ren id with
    | true => rw [hb] at H; simp at H
    | false =>
      rw [hb] at H; simp only [cond_false, Option.some.injEq] at H; subst H
      refine ⟨fun k k' i e e' => ?_, fun k i e => ?_, o.add, o.frz, o.nid⟩
      · simp only [renA] at e e'
        cases h1 : Nat.beq j k <;> cases h2 : Nat.beq j k' <;> rw [h1] at e <;> rw [h2] at e' <;> simp only [cond_true, cond_false, Option.some.injEq] at e e'
        · exact o.inj k k' i e e'
        · subst e'; have := o.has k _ e; rw [hb] at this; cases this
        · subst e; have := o.has k' _ e'; rw [hb] at this; cases this
        · exact (Nat.eq_of_beq_eq_true h1).symm.trans (Nat.eq_of_beq_eq_true h2)
      · simp only [renA] at e
        simp only [renHas]
        cases h1 : Nat.beq j k <;> rw [h1] at e <;> simp only [cond_true, cond_false, Option.some.injEq] at e
        · rw [o.has k i e]; cases Nat.beq id i <;> rfl
        · subst e; simp

theorem roOf_frz {t : FT} {a : AV} {xs : List (El t)} {ids : List Nat} (hr : roOf h t a = some (xs, ids)) : ∀ i, i ∈ ids → ∃ t xs, h i = .arr t xs := by
  intro i hi
  unfold roOf at hr
  split at hr
  · split at hr
    · cases hr; simp at hi
    · cases hr
  · cases hr; simp at hi
  · split at hr
    · rename_i hx
      split at hr
      · cases hr; simp at hi; subst hi; exact ⟨_, _, hx⟩
      · cases hr
    · cases hr
  · split at hr
    · rename_i hx
      split at hr
      · cases hb : Nat.beq _ (lenL t) with
        | false => rw [hb] at hr; simp at hr
        | true =>
          rw [hb] at hr; simp only [cond_true, Option.some.injEq, Prod.mk.injEq] at hr
          obtain ⟨-, rfl⟩ := hr
          simp at hi; subst hi; exact ⟨_, _, hx⟩
      · cases hr
    · cases hr
  · cases hr

mutual
theorem mt_ok : ∀ (tp : Tp) (a : AV) (m m' : M), Tp.mt h ots tp a m = some m' → MOk h nid0 m → MOk h nid0 m'
  | .undef, a, m, m', H, o => by simp only [Tp.mt, Option.some.injEq] at H; subst H; exact o
  | .sc d, a, m, m', H, o => by
    cases d with
    | int k =>
      cases a <;> simp only [Tp.mt] at H <;> try (cases H; done)
      split at H
      · cases H; exact o.data _
      · cases H
    | bool =>
      cases a <;> simp only [Tp.mt] at H <;> try (cases H; done)
      cases H; exact o.data _
    | str =>
      cases a <;> simp only [Tp.mt] at H <;> try (cases H; done)
      cases H; exact o.data _
    | list t =>
      simp only [Tp.mt] at H
      split at H
      · rename_i hr
        cases H
        exact ⟨o.inj, o.has, o.add, fun i hi => by
          simp only [catL_eq, List.mem_append] at hi
          exact hi.elim (roOf_frz hr i) (o.frz i), o.nid⟩
      · cases H
    | map k v => simp only [Tp.mt] at H; cases H
  | .full j, a, m, m', H, o => by
    cases a <;> simp only [Tp.mt] at H <;> try (cases H; done)
    case full id => exact o.ref H
    case nilsl =>
      split at H
      · refine MOk.ref (m := { m with nid := m.nid + 1, add := (m.nid, .arr _ []) :: m.add }) ⟨o.inj, o.has, fun x hx => ?_, o.frz, Nat.le_succ_of_le o.nid⟩ H
        cases hx with
        | head => exact ⟨⟨_, rfl⟩, o.nid, Nat.lt_succ_self _⟩
        | tail _ hx => obtain ⟨a, b, c⟩ := o.add x hx; exact ⟨a, b, Nat.lt_succ_of_lt c⟩
      · cases H
  | .ptr j o', a, m, m', H, o => by
    cases a <;> simp only [Tp.mt] at H <;> try (cases H; done)
    rename_i id o''
    cases hb : Nat.beq o' o'' with
    | false => rw [hb] at H; simp at H
    | true => rw [hb] at H; exact o.ref H
  | .map j, a, m, m', H, o => by
    cases a <;> simp only [Tp.mt] at H <;> try (cases H; done)
    exact o.ref H
  | .nilp, a, m, m', H, o => by
    cases a <;> simp only [Tp.mt] at H <;> try (cases H; done)
    cases H; exact o
  | .cint k n, a, m, m', H, o => by
    cases a <;> simp only [Tp.mt] at H <;> try (cases H; done)
    split at H
    · split at H
      · cases H; exact o
      · cases H
    · cases H
  | .cstr s, a, m, m', H, o => by
    cases a <;> simp only [Tp.mt] at H <;> try (cases H; done)
    split at H
    · cases H; exact o
    · cases H
  | .gptr g o', a, m, m', H, o => by
    cases a <;> simp only [Tp.mt] at H <;> try (cases H; done)
    rename_i g' o''
    cases hb : (Nat.beq g g' && Nat.beq o' o'') with
    | false => rw [hb] at H; simp at H
    | true => rw [hb] at H; simp only [cond_true, Option.some.injEq] at H; subst H; exact o
  | .fn f x y, a, m, m', H, o => by
    cases a <;> simp only [Tp.mt] at H <;> try (cases H; done)
    rename_i f' x' y'
    cases hb : Nat.beq f f' with
    | false => rw [hb] at H; simp at H
    | true =>
      rw [hb] at H; simp only [cond_true] at H
      split at H
      · rename_i m1 hm1
        exact mts_ok y y' m1 m' H (mts_ok x x' m m1 hm1 o)
      · cases H
  | .agg l, a, m, m', H, o => by
    cases a <;> simp only [Tp.mt] at H <;> try (cases H; done)
    exact mts_ok l _ m m' H o
  | .tup l, a, m, m', H, o => by
    cases a <;> simp only [Tp.mt] at H <;> try (cases H; done)
    exact mts_ok l _ m m' H o
theorem mts_ok : ∀ (tps : List Tp) (as : List AV) (m m' : M), Tp.mts h ots tps as m = some m' → MOk h nid0 m → MOk h nid0 m'
  | [], as, m, m', H, o => by
    cases as <;> simp only [Tp.mts] at H <;> try (cases H; done)
    cases H; exact o
  | tp :: tps, as, m, m', H, o => by
    cases as <;> simp only [Tp.mts] at H <;> try (cases H; done)
    split at H
    · rename_i m1 hm1
      exact mts_ok tps _ m1 m' H (mt_ok tp _ m m1 hm1 o)
    · cases H
end

theorem data_ext (m : M) (x : Dat) : m.Ext (m.data x) := ⟨fun _ _ h => h, ⟨[], rfl⟩, fun _ h => h⟩

theorem OT.mt_both : ∀ (t : OT) (j : Nat) (m m' : M), OT.mt h ots (fun m => lookD m.add h) t j m = some m' → m.Ext m' ∧ (MOk h nid0 m → MOk h nid0 m') := by
  intro t j m m' H
  cases t with
  | dead => simp only [OT.mt, Option.some.injEq] at H; subst H; exact ⟨.refl m, id⟩
  | box l =>
    simp only [OT.mt] at H
    split at H
    · split at H
      · exact ⟨mts_ext l _ m m' H, mts_ok l _ m m' H⟩
      · cases H
    · cases H
  | arr t =>
    simp only [OT.mt] at H
    split at H
    · split at H
      · split at H
        · cases H; exact ⟨data_ext m _, fun o => o.data _⟩
        · cases H
      · cases H
    · cases H
  | map k v =>
    simp only [OT.mt] at H
    split at H
    · split at H
      · split at H
        · split at H
          · cases H; exact ⟨data_ext m _, fun o => o.data _⟩
          · cases H
        · cases H
      · cases H
    · cases H

theorem OT.mts_both : ∀ (l : List OT) (j : Nat) (m m' : M), OT.mts h ots l j m = some m' → m.Ext m' ∧ (MOk h nid0 m → MOk h nid0 m')
  | [], j, m, m', H => by simp only [OT.mts, Option.some.injEq] at H; subst H; exact ⟨.refl m, id⟩
  | t :: l, j, m, m', H => by
    simp only [OT.mts] at H
    split at H
    · rename_i m1 hm1
      obtain ⟨a, b⟩ := OT.mt_both t j m m1 hm1
      obtain ⟨c, d⟩ := OT.mts_both l (j + 1) m1 m' H
      exact ⟨a.trans c, fun o => d (b o)⟩
    · cases H

theorem frMt_both {fr : List AV} : ∀ (l : List (Nat × Tp)) (m m' : M), frMt h ots fr l m = some m' → m.Ext m' ∧ (MOk h nid0 m → MOk h nid0 m')
  | [], m, m', H => by simp only [frMt, Option.some.injEq] at H; subst H; exact ⟨.refl m, id⟩
  | (i, t) :: l, m, m', H => by
    simp only [frMt] at H
    split at H
    · rename_i m1 hm1
      obtain ⟨c, d⟩ := frMt_both l m1 m' H
      exact ⟨(mt_ext t _ m m1 hm1).trans c, fun o => d (mt_ok t _ m m1 hm1 o)⟩
    · cases H

theorem lookD_add {nid0 : Nat} : ∀ (d : Delta) (id : Nat), (∀ x, x ∈ d → (∃ t, x.2 = .arr t []) ∧ nid0 ≤ x.1) → (lookD d h id = h id ∧ id ∉ keysD d) ∨ (id ∈ keysD d ∧ ∃ t, lookD d h id = .arr t [])
  | [], id, _ => .inl ⟨rfl, by simp [keysD]⟩
  | (j, o) :: d, id, hx => by
    simp only [lookD, keysD]
    cases hb : Nat.beq j id with
    | true =>
      have := Nat.eq_of_beq_eq_true hb
      obtain ⟨⟨t, e⟩, _⟩ := hx (j, o) (by simp)
      exact .inr ⟨by simp [this], t, by simpa using e⟩
    | false =>
      have hne : id ≠ j := fun e => by subst e; simp at hb
      rcases lookD_add d id (fun x h => hx x (by simp [h])) with ⟨a, b⟩ | ⟨a, b⟩
      · exact .inl ⟨by simpa using a, by simp [hne, b]⟩
      · exact .inr ⟨by simp [a], by simpa using b⟩

end

/-! ### the image -/

def addL (ι : Nat → Option Value) (add : Delta) (k : Nat) : Option Value := if k ∈ keysD add then some (.slice none 0 0) else ι k
def imgL (ι : Nat → Option Value) (m : M) (j : Nat) : Option Value := (renA m.ren j).bind (addL ι m.add)
def imgN (ι : Nat → Option Value) (N : Nat → Prop) (m : M) (b : Nat) : Prop := N b ∨ ∃ i u, i ∈ m.frz ∧ ι i = some u ∧ blkOf u = some b

section
variable {E : Env} {ι : Nat → Option Value} {N : Nat → Prop} {h : Nat → Ob} {w : World} {mf : M} {ots : Nat → OT} {nid0 : Nat}

theorem mem_keysD {d : Delta} {k : Nat} : k ∈ keysD d ↔ ∃ o, (k, o) ∈ d := by rw [keysD_eq]; simp

theorem img (R : RepH E ι N h w) (o : MOk h nid0 mf) (fresh : ∀ k, k ∈ keysD mf.add → ι k = none) : Img E ι N h w mf (addL ι mf.add) (imgL ι mf) (imgN ι N mf) := by
  refine ⟨R, fun j i e => by simp [imgL, e], fun i v e => ?_, fun x hx => ?_, fun b hb => .inl hb, fun i v b hi e hb => .inr ⟨i, v, hi, e, hb⟩⟩
  · unfold addL
    split
    · rename_i hk; rw [fresh i hk] at e; cases e
    · exact e
  · unfold addL
    rw [if_pos (mem_keysD.2 ⟨x.2, hx⟩)]

theorem frzOk_spec : ∀ {r : List (Nat × Nat)} {l : List Nat}, frzOk r l = true → ∀ i, i ∈ l → renHas r i = false
  | r, [], _, i, hi => by simp at hi
  | r, a :: l, h, i, hi => by
    simp only [frzOk, Bool.and_eq_true, Bool.not_eq_true'] at h
    cases hi with
    | head => exact h.1
    | tail _ hi => exact frzOk_spec h.2 i hi

theorem renLt_spec : ∀ {r : List (Nat × Nat)} {n q : Nat}, renLt r n q = true → ∀ j i, renA r j = some i → j < n ∧ i < q
  | [], n, q, _, j, i, e => by simp [renA] at e
  | (k, i') :: r, n, q, h, j, i, e => by
    simp only [renLt, Bool.and_eq_true, Nat.blt_eq] at h
    simp only [renA] at e
    cases hb : Nat.beq k j with
    | true => have := Nat.eq_of_beq_eq_true hb; subst this; rw [hb] at e; simp at e; subst e; exact h.1
    | false => rw [hb] at e; exact renLt_spec h.2 j i e

/-- The block of an object that is still own is not read-only in the image. -/
theorem img_own (R : RepH E ι N h w) (o : MOk h nid0 mf) (hz : frzOk mf.ren mf.frz = true) {j i : Nat} (hj : renA mf.ren j = some i) (hd : h i ≠ .dead) {u : Value} (hu : ι i = some u)
    {b : Nat} (hb : blkOf u = some b) (ow : own N E.keep b) : own (imgN ι N mf) E.keep b := by
  refine ⟨?_, ow.2⟩
  rintro (hn | ⟨k, x, hk, hx, hbx⟩)
  · exact ow.1 hn
  · obtain ⟨t, xs, hkx⟩ := o.frz k hk
    have hne : i ≠ k := by
      rintro rfl
      have h1 := o.has j i hj
      rw [frzOk_spec hz i hk] at h1; cases h1
    exact R.sep i k b hne hd (by rw [hkx]; simp) (by rw [hu]; exact hb) (by rw [hx]; exact hbx)

theorem CellsR.list {Q : AV → Value → Prop} {c : Array Value} {p : Nat} {cs : List AV} (hc : CellsR Q c p cs) : ∃ vs : List Value, vs.length = cs.length ∧ (∀ f, f < cs.length → c[p + f]? = vs[f]?) ∧
    ∀ (f : Nat) (a : AV) (v : Value), cs[f]? = some a → vs[f]? = some v → Q a v := by
  refine ⟨(List.range cs.length).map fun f => c[p + f]?.getD default, by simp, fun f hf => ?_, fun f a v ha hv => ?_⟩
  · obtain ⟨v, hv, _⟩ := hc f cs[f] (List.getElem?_eq_getElem hf)
    simp [hf, hv]
  · obtain ⟨u, hu, hq⟩ := hc f a ha
    have hf : f < cs.length := (List.getElem?_eq_some_iff.1 ha).1
    simp [hf, hu] at hv
    subst hv; exact hq

theorem ot_sound (R : RepH E ι N h w) (o : MOk h nid0 mf) (fresh : ∀ k, k ∈ keysD mf.add → ι k = none) (hz : frzOk mf.ren mf.frz = true) :
    ∀ (t : OT) (j : Nat) (m m' : M), OT.mt h ots (fun m => lookD m.add h) t j m = some m' → m'.Ext mf → MOk h nid0 m →
      ∃ new x, m'.ds = new.reverse ++ m.ds ∧ (∀ rest, OT.inst (fun j => j) t (new ++ rest) = (x, rest)) ∧
        (x ≠ .dead → ∃ i u, renA mf.ren j = some i ∧ addL ι mf.add i = some u ∧ ObR (imgL ι mf) (imgN ι N mf) E.keep w u x ∧ (u = .slice none 0 0 ∨ (h i ≠ .dead ∧ ι i = some u))) := by
  intro t j m m' H X om
  have I := img R o fresh
  have madd : ∀ x, x ∈ m.add → (∃ t, x.2 = .arr t []) ∧ nid0 ≤ x.1 := fun x hx => ⟨(om.add x hx).1, (om.add x hx).2.1⟩
  cases t with
  | dead => simp only [OT.mt, Option.some.injEq] at H; subst H; exact ⟨[], .dead, rfl, fun _ => rfl, fun h => absurd rfl h⟩
  | box l =>
    simp only [OT.mt] at H
    split at H
    · rename_i id hid
      split at H
      · rename_i cs hcs
        have hbox : h id = .box cs := by
          rcases lookD_add (h := h) m.add id madd with ⟨e, _⟩ | ⟨_, t, e⟩
          · rw [← e]; exact hcs
          · rw [e] at hcs; cases hcs
        have hd : h id ≠ .dead := by rw [hbox]; simp
        obtain ⟨u, hu, ho⟩ := R.ob id hd
        rw [hbox] at ho
        obtain ⟨b, p, c, T, rfl, h1, h2, h3⟩ := ho
        obtain ⟨vs, hl, hvs, hq⟩ := CellsR.list h3
        obtain ⟨_, new, avs, d1, i1, r1⟩ := mts_sound I l cs m m' vs H X (.of_get hl.symm fun f a v ha hv => (hq f a v ha hv).1)
        have hren : renA mf.ren j = some id := X.ren j id ((mts_ext l cs m m' H).ren j id hid)
        refine ⟨new, .box avs, d1, fun rest => by simp only [OT.inst, i1], fun _ => ⟨id, _, hren, I.old id _ hu, ⟨b, p, c, T, rfl, img_own R o hz hren hd hu rfl h1, h2, fun f a ha => ?_⟩, .inr ⟨hd, hu⟩⟩⟩
        obtain ⟨v, hv, hva⟩ := r1.get f a ha
        have hf : f < cs.length := by rw [← hl]; exact (List.getElem?_eq_some_iff.1 hv).1
        refine ⟨v, (hvs f hf).trans hv, hva, ?_⟩
        exact (hq f cs[f] v (List.getElem?_eq_getElem hf) hv).2
      · cases H
    · cases H
  | arr t =>
    simp only [OT.mt] at H
    split at H
    · rename_i id hid
      split at H
      · rename_i t' xs hx
        split at H
        · rename_i e; subst e
          cases H
          have hren : renA mf.ren j = some id := X.ren j id hid
          refine ⟨[⟨.list t', xs⟩], .arr t' xs, rfl, fun _ => rfl, fun _ => ?_⟩
          rcases lookD_add (h := h) m.add id madd with ⟨e, _⟩ | ⟨hk, t, e⟩
          · have hh : h id = .arr t' xs := e.symm.trans hx
            have hd : h id ≠ .dead := by rw [hh]; simp
            obtain ⟨u, hu, ho⟩ := R.ob id hd
            rw [hh] at ho
            obtain ⟨a, cap, rfl, hle, ho⟩ := ho
            refine ⟨id, _, hren, I.old id _ hu, ⟨a, cap, rfl, hle, ?_⟩, .inr ⟨hd, hu⟩⟩
            rcases ho with rfl | ⟨b, c, T, rfl, h1, h2, h3, h4⟩
            · exact .inl rfl
            · by_cases hc : cap = 0
              · exact .inl hc
              · exact .inr ⟨b, c, T, rfl, img_own R o hz hren hd hu (by simp [blkOf, hc]) h1, h2, h3, fun j x hx => (h4 j x hx).mono fun _ _ => VRc.mono (fun b hb => .inl hb) fun _ _ => rfl⟩
          · have hx0 : (Ob.arr t' xs) = .arr t [] := hx.symm.trans e
            simp only [Ob.arr.injEq] at hx0
            obtain ⟨rfl, hx0⟩ := hx0
            have hx0 := eq_of_heq hx0; subst hx0
            obtain ⟨ob, hob⟩ := mem_keysD.1 hk
            obtain ⟨l, el⟩ := X.add
            refine ⟨id, _, hren, I.add (id, ob) (by rw [el]; exact List.mem_append_right l hob), ⟨none, 0, rfl, Nat.le_refl _, .inl rfl⟩, .inl rfl⟩
        · cases H
      · cases H
    · cases H
  | map k v =>
    simp only [OT.mt] at H
    split at H
    · rename_i id hid
      split at H
      · rename_i k' v' es hx
        split at H
        · rename_i e; subst e
          split at H
          · rename_i e; subst e
            cases H
            have hren : renA mf.ren j = some id := X.ren j id hid
            have hh : h id = .map k' v' es := by
              rcases lookD_add (h := h) m.add id madd with ⟨e, _⟩ | ⟨_, t, e⟩
              · rw [← e]; exact hx
              · rw [e] at hx; cases hx
            have hd : h id ≠ .dead := by rw [hh]; simp
            obtain ⟨u, hu, ho⟩ := R.ob id hd
            rw [hh] at ho
            obtain ⟨r, ents, clock, rfl, h1, h2, h3, h4⟩ := ho
            exact ⟨[⟨.map k' v', es⟩], .map k' v' es, rfl, fun _ => rfl, fun _ => ⟨id, _, hren, I.old id _ hu, ⟨r, ents, clock, rfl, img_own R o hz hren hd hu rfl h1, h2, h3, h4⟩, .inr ⟨hd, hu⟩⟩⟩
          · cases H
        · cases H
      · cases H
    · cases H

theorem ots_sound (R : RepH E ι N h w) (o : MOk h nid0 mf) (fresh : ∀ k, k ∈ keysD mf.add → ι k = none) (hz : frzOk mf.ren mf.frz = true) :
    ∀ (l : List OT) (j : Nat) (m m' : M), OT.mts h ots l j m = some m' → m'.Ext mf → MOk h nid0 m →
      ∃ new, m'.ds = new.reverse ++ m.ds ∧ ∀ rest, (OT.insts (fun j => j) l (new ++ rest)).length = l.length ∧ ∀ k, getH (OT.insts (fun j => j) l (new ++ rest)) k ≠ .dead →
        ∃ i u, renA mf.ren (j + k) = some i ∧ addL ι mf.add i = some u ∧ ObR (imgL ι mf) (imgN ι N mf) E.keep w u (getH (OT.insts (fun j => j) l (new ++ rest)) k) ∧ (u = .slice none 0 0 ∨ (h i ≠ .dead ∧ ι i = some u))
  | [], j, m, m', H, X, om => by
    simp only [OT.mts, Option.some.injEq] at H; subst H
    exact ⟨[], rfl, fun rest => ⟨rfl, fun k hk => by simp [OT.insts, getH] at hk⟩⟩
  | t :: l, j, m, m', H, X, om => by
    simp only [OT.mts] at H
    split at H
    · rename_i m1 hm1
      have b1 := OT.mt_both (nid0 := nid0) t j m m1 hm1
      have b2 := OT.mts_both (nid0 := nid0) l (j + 1) m1 m' H
      obtain ⟨n1, x, d1, i1, r1⟩ := ot_sound R o fresh hz t j m m1 hm1 (b2.1.trans X) om
      obtain ⟨n2, d2, r2⟩ := ots_sound R o fresh hz l (j + 1) m1 m' H X (b1.2 om)
      refine ⟨n1 ++ n2, by rw [d2, d1]; simp, fun rest => ?_⟩
      have e : OT.insts (fun j => j) (t :: l) (n1 ++ n2 ++ rest) = x :: OT.insts (fun j => j) l (n2 ++ rest) := by
        simp only [OT.insts, List.append_assoc, i1]
      rw [e]
      refine ⟨by simp [(r2 rest).1], fun k hk => ?_⟩
      cases k with
      | zero => exact r1 hk
      | succ k =>
        obtain ⟨i, u, q⟩ := (r2 rest).2 k hk
        rw [show j + (k + 1) = j + 1 + k by omega]
        exact ⟨i, u, q⟩
    · cases H

theorem Den.of_list : ∀ {ds : List DT} {l : List Dat} {d : Den ds}, Den.of ds l = some d → Den.list ds d = l
  | [], [], d, h => rfl
  | [], _ :: _, d, h => by simp [Den.of] at h
  | [a], [], d, h => by simp [Den.of] at h
  | [a], [x], d, h => by
    simp only [Den.of, Dat.as] at h
    split at h
    · rename_i e
      obtain ⟨xd, xv⟩ := x
      dsimp only at e; subst e
      cases h; rfl
    · cases h
  | [a], _ :: _ :: _, d, h => by simp [Den.of] at h
  | a :: b :: r, [], d, h => by simp [Den.of] at h
  | a :: b :: r, x :: l, d, h => by
    simp only [Den.of, Dat.as] at h
    split at h
    · rename_i p q h1 h2
      cases h
      have ih := Den.of_list (ds := b :: r) h2
      simp only [Den.list, ih]
      congr 1
      split at h1
      · rename_i e
        obtain ⟨xd, xv⟩ := x
        dsimp only at e; subst e
        cases h1; rfl
      · cases h1
    · cases h

/-- The objects of the image. -/
theorem img_rep (R : RepH E ι N h w) (o : MOk h nid0 mf) (fresh : ∀ k, k ∈ keysD mf.add → ι k = none) (hz : frzOk mf.ren mf.frz = true) {H : Heap}
    (hob : ∀ k, getH H k ≠ .dead → ∃ i u, renA mf.ren k = some i ∧ addL ι mf.add i = some u ∧ ObR (imgL ι mf) (imgN ι N mf) E.keep w u (getH H k) ∧ (u = .slice none 0 0 ∨ (h i ≠ .dead ∧ ι i = some u))) :
    RepH E (imgL ι mf) (imgN ι N mf) (getH H) w := by
  have hi : ∀ {j i}, renA mf.ren j = some i → imgL ι mf j = addL ι mf.add i := fun {j i} e => by simp [imgL, e]
  refine ⟨fun k hk => ?_, fun j k b e hj hk hb hc => ?_, fun b hb => ?_, R.klt, R.pres, fun g hg => ?_⟩
  · obtain ⟨i, u, e1, e2, e3, _⟩ := hob k hk
    exact ⟨u, (hi e1).trans e2, e3⟩
  · obtain ⟨i, u, e1, e2, e3, e4⟩ := hob j hj
    obtain ⟨i', u', f1, f2, f3, f4⟩ := hob k hk
    rw [hi e1, e2] at hb
    rw [hi f1, f2] at hc
    change blkOf u = some b at hb
    change blkOf u' = some b at hc
    rcases e4 with rfl | ⟨e5, e6⟩
    · simp [blkOf] at hb
    · rcases f4 with rfl | ⟨f5, f6⟩
      · simp [blkOf] at hc
      · have hne : i ≠ i' := by rintro rfl; exact e (o.inj j k i e1 f1)
        exact R.sep i i' b hne e5 f5 (by rw [e6]; exact hb) (by rw [f6]; exact hc)
  · rcases hb with hb | ⟨i, u, h1, h2, h3⟩
    · exact R.nlt b hb
    · obtain ⟨t, xs, hx⟩ := o.frz i h1
      exact (R.blk_lt (by rw [hx]; simp) h2 h3).2
  · obtain ⟨n, c, T, fz, hc, hx⟩ := R.glob g hg
    exact ⟨.inl n, c, T, fz, hc, hx.mono fun a v ⟨x, y⟩ => ⟨VRc.mono (fun b hb => .inl hb) (fun _ _ => rfl) x, y⟩⟩

end
end Ev
