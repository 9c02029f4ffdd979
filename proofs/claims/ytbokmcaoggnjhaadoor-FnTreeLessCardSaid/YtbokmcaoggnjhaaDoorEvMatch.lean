/- Shapes: the data of a state, and the state of data. Conditions: as stated. -/
import Derived.Test.YtbokmcaoggnjhaaDoorEvOps9
set_option linter.unusedVariables false
set_option linter.unusedSimpArgs false
namespace Ev
open Go

/-- More is known. -/
structure M.Ext (m m' : M) : Prop where
  ren : ∀ j i, renA m.ren j = some i → renA m'.ren j = some i
  add : ∃ l, m'.add = l ++ m.add
  frz : ∀ i, i ∈ m.frz → i ∈ m'.frz

theorem M.Ext.refl (m : M) : m.Ext m := ⟨fun _ _ h => h, ⟨[], rfl⟩, fun _ h => h⟩
theorem M.Ext.trans {a b c : M} (h : a.Ext b) (k : b.Ext c) : a.Ext c :=
  ⟨fun j i e => k.ren j i (h.ren j i e), by obtain ⟨l, e⟩ := h.add; obtain ⟨l', e'⟩ := k.add; exact ⟨l' ++ l, by rw [e', e, List.append_assoc]⟩, fun i e => k.frz i (h.frz i e)⟩

theorem M.ref_ext {m m' : M} {j id : Nat} (h : m.ref j id = some m') : m.Ext m' ∧ renA m'.ren j = some id ∧ m'.ds = m.ds ∧ m'.add = m.add ∧ m'.frz = m.frz ∧ m'.nid = m.nid := by
  unfold M.ref at h
  split at h
  · rename_i i hi
    cases hb : Nat.beq i id with
    | false => rw [hb] at h; simp at h
    | true =>
      rw [hb] at h; simp only [cond_true, Option.some.injEq] at h; subst h
      exact ⟨.refl m, by rw [hi, Nat.eq_of_beq_eq_true hb], rfl, rfl, rfl, rfl⟩
  · rename_i hi
    cases hb : renHas m.ren id with
    | true => rw [hb] at h; simp at h
    | false =>
      rw [hb] at h; simp only [cond_false, Option.some.injEq] at h; subst h
      refine ⟨⟨fun k i e => ?_, ⟨[], rfl⟩, fun _ h => h⟩, by simp [renA], rfl, rfl, rfl, rfl⟩
      simp only [renA]
      cases hk : Nat.beq j k with
      | false => simpa using e
      | true => have := Nat.eq_of_beq_eq_true hk; subst this; rw [hi] at e; cases e

mutual
theorem mt_ext {h : Nat → Ob} {ots : Nat → OT} : ∀ (tp : Tp) (a : AV) (m m' : M), Tp.mt h ots tp a m = some m' → m.Ext m'
  | .undef, a, m, m', H => by simp only [Tp.mt, Option.some.injEq] at H; subst H; exact .refl m
  | .sc d, a, m, m', H => by
    have data : ∀ x, m.Ext (m.data x) := fun x => ⟨fun _ _ h => h, ⟨[], rfl⟩, fun _ h => h⟩
    cases d with
    | int k =>
      cases a <;> simp only [Tp.mt] at H <;> try (cases H; done)
      split at H
      · cases H; exact data _
      · cases H
    | bool =>
      cases a <;> simp only [Tp.mt] at H <;> try (cases H; done)
      cases H; exact data _
    | str =>
      cases a <;> simp only [Tp.mt] at H <;> try (cases H; done)
      cases H; exact data _
    | list t =>
      simp only [Tp.mt] at H
      split at H
      · cases H; exact ⟨fun _ _ h => h, ⟨[], rfl⟩, fun i hi => by simp [catL_eq, hi]⟩
      · cases H
    | map k v => simp only [Tp.mt] at H; cases H
  | .full j, a, m, m', H => by
    cases a <;> simp only [Tp.mt] at H <;> try (cases H; done)
    case full id => exact (M.ref_ext H).1
    case nilsl =>
      split at H
      · obtain ⟨h1, h2, h3, h4, h5, h6⟩ := M.ref_ext H
        exact ⟨fun j i e => h1.ren j i e, by rw [h4]; exact ⟨[_], rfl⟩, fun i hi => h1.frz i hi⟩
      · cases H
  | .ptr j o, a, m, m', H => by
    cases a <;> simp only [Tp.mt] at H <;> try (cases H; done)
    rename_i id o'
    cases hb : Nat.beq o o' with
    | false => rw [hb] at H; simp at H
    | true => rw [hb] at H; exact (M.ref_ext H).1
  | .map j, a, m, m', H => by
    cases a <;> simp only [Tp.mt] at H <;> try (cases H; done)
    exact (M.ref_ext H).1
  | .nilp, a, m, m', H => by
    cases a <;> simp only [Tp.mt] at H <;> try (cases H; done)
    cases H; exact .refl _
  | .cint k n, a, m, m', H => by
    cases a <;> simp only [Tp.mt] at H <;> try (cases H; done)
    split at H
    · split at H
      · cases H; exact .refl _
      · cases H
    · cases H
  | .cstr s, a, m, m', H => by
    cases a <;> simp only [Tp.mt] at H <;> try (cases H; done)
    split at H
    · cases H; exact .refl _
    · cases H
  | .gptr g o, a, m, m', H => by
    cases a <;> simp only [Tp.mt] at H <;> try (cases H; done)
    rename_i g' o'
    cases hb : (Nat.beq g g' && Nat.beq o o') with
    | false => rw [hb] at H; simp at H
    | true => rw [hb] at H; simp only [cond_true, Option.some.injEq] at H; subst H; exact .refl _
  | .fn f x y, a, m, m', H => by
    cases a <;> simp only [Tp.mt] at H <;> try (cases H; done)
    rename_i f' x' y'
    cases hb : Nat.beq f f' with
    | false => rw [hb] at H; simp at H
    | true =>
      rw [hb] at H; simp only [cond_true] at H
      split at H
      · rename_i m1 hm1
        exact (mts_ext x x' m m1 hm1).trans (mts_ext y y' m1 m' H)
      · cases H
  | .agg l, a, m, m', H => by
    cases a <;> simp only [Tp.mt] at H <;> try (cases H; done)
    exact mts_ext l _ m m' H
  | .tup l, a, m, m', H => by
    cases a <;> simp only [Tp.mt] at H <;> try (cases H; done)
    exact mts_ext l _ m m' H
theorem mts_ext {h : Nat → Ob} {ots : Nat → OT} : ∀ (tps : List Tp) (as : List AV) (m m' : M), Tp.mts h ots tps as m = some m' → m.Ext m'
  | [], as, m, m', H => by
    cases as <;> simp only [Tp.mts] at H <;> try (cases H; done)
    cases H; exact .refl _
  | tp :: tps, as, m, m', H => by
    cases as <;> simp only [Tp.mts] at H <;> try (cases H; done)
    split at H
    · rename_i m1 hm1
      exact (mt_ext tp _ m m1 hm1).trans (mts_ext tps _ m1 m' H)
    · cases H
end

/-- How a state and its image under a shape hang together. -/
structure Img (E : Env) (ι : Nat → Option Value) (N : Nat → Prop) (h : Nat → Ob) (w : World) (mf : M) (ι2 ι' : Nat → Option Value) (N' : Nat → Prop) : Prop where
  rep : RepH E ι N h w
  ren : ∀ j i, renA mf.ren j = some i → ι' j = ι2 i
  old : ∀ i v, ι i = some v → ι2 i = some v
  add : ∀ x, x ∈ mf.add → ι2 x.1 = some (.slice none 0 0)
  ro : ∀ b, N b → N' b
  frz : ∀ i v b, i ∈ mf.frz → ι i = some v → blkOf v = some b → N' b

section
variable {E : Env} {ι : Nat → Option Value} {N : Nat → Prop} {h : Nat → Ob} {w : World} {mf : M} {ι2 ι' : Nat → Option Value} {N' : Nat → Prop} {ots : Nat → OT}

theorem roOf_img (I : Img E ι N h w mf ι2 ι' N') {t : FT} {a : AV} {xs : List (El t)} {ids : List Nat} (hr : roOf h t a = some (xs, ids)) (hm : ∀ i, i ∈ ids → i ∈ mf.frz) {v : Value} (hv : VR ι N w a v) :
    RoG (VRc N' w) N' w t xs v := by
  unfold roOf at hr
  split at hr
  · rename_i t' ys
    split at hr
    · rename_i e; subst e; cases hr
      simp only [VR] at hv
      exact hv.mono (fun _ _ => VRc.mono I.ro fun _ _ => rfl) I.ro fun _ _ => rfl
    · cases hr
  · cases hr; simp only [VR] at hv; exact ⟨none, 0, hv, .inl rfl⟩
  · rename_i id
    split at hr
    · rename_i t' ys hx
      split at hr
      · rename_i e; subst e; cases hr
        simp only [VR] at hv
        exact I.rep.reads hx hv.1 I.ro fun b hb => I.frz id v b (hm id (by simp)) hv.1 hb
      · cases hr
    · cases hr
  · rename_i id sz o n
    split at hr
    · rename_i t' ys hx
      split at hr
      · rename_i e; subst e
        cases hsz : Nat.beq sz (lenL t') with
        | false => rw [hsz] at hr; simp at hr
        | true =>
          rw [hsz] at hr; simp only [cond_true, Option.some.injEq, Prod.mk.injEq] at hr
          obtain ⟨rfl, rfl⟩ := hr
          have hsz' : sz = lenL t' := Nat.eq_of_beq_eq_true hsz
          simp only [VR] at hv
          obtain ⟨a, n', cap, hι, hon, a', cap', rfl, hcp', hcase⟩ := hv
          have hread := I.rep.reads hx hι I.ro fun b hb => I.frz id _ b (hm id (by simp)) hι hb
          obtain ⟨a2, cap2, e1, hr2⟩ := hread
          simp only [Value.slice.injEq] at e1
          obtain ⟨rfl, rfl, rfl⟩ := e1
          have hlen : ((ys.drop o).take n).length = n := by simp; omega
          by_cases h0 : n = 0
          · subst h0; exact ⟨a', cap', by simp, .inl (by simp)⟩
          · rcases hcase with h1 | ⟨b, p, rfl, rfl⟩
            · exact absurd h1 h0
            · rcases hr2 with h1 | ⟨b', p', ⟨e, hcp⟩, hN, c, T0, fz, hheap, hel⟩
              · subst h1; simp at hon; omega
              · simp at e; obtain ⟨rfl, rfl⟩ := e
                refine ⟨_, cap', by rw [hlen], .inr ⟨b, p + o * sz, ⟨rfl, by rw [hlen]; exact hcp'⟩, hN, c, T0, fz, hheap, fun j x hj => ?_⟩⟩
                rw [List.getElem?_take] at hj
                split at hj
                · rw [List.getElem?_drop] at hj
                  have := hel (o + j) x hj
                  rw [Nat.add_mul, ← Nat.add_assoc, ← hsz'] at this
                  rw [← hsz']
                  exact this
                · cases hj
      · cases hr
    · cases hr
  · cases hr

mutual
theorem mt_sound (I : Img E ι N h w mf ι2 ι' N') : ∀ (tp : Tp) (a : AV) (m m' : M) (v : Value), Tp.mt h ots tp a m = some m' → m'.Ext mf → VR ι N w a v →
    m.Ext m' ∧ ∃ new av, m'.ds = new.reverse ++ m.ds ∧ (∀ rest, Tp.inst (fun j => j) tp (new ++ rest) = (av, rest)) ∧ VR ι' N' w av v
  | .undef, a, m, m', v, H, X, hv => by
    simp only [Tp.mt, Option.some.injEq] at H; subst H
    exact ⟨.refl m, [], .undef, rfl, fun _ => rfl, by simp only [VR]⟩
  | .sc d, a, m, m', v, H, X, hv => by
    cases d with
    | int k =>
      cases a <;> simp only [Tp.mt] at H <;> try (cases H; done)
      rename_i k' n
      split at H
      · rename_i e; subst e; cases H
        simp only [VR] at hv
        exact ⟨⟨fun _ _ h => h, ⟨[], rfl⟩, fun _ h => h⟩, [⟨.int k, n⟩], .int k n, rfl, fun _ => rfl, by simpa only [VR] using hv⟩
      · cases H
    | bool =>
      cases a <;> simp only [Tp.mt] at H <;> try (cases H; done)
      rename_i b
      cases H; simp only [VR] at hv
      exact ⟨⟨fun _ _ h => h, ⟨[], rfl⟩, fun _ h => h⟩, [⟨.bool, b⟩], .bool b, rfl, fun _ => rfl, by simpa only [VR] using hv⟩
    | str =>
      cases a <;> simp only [Tp.mt] at H <;> try (cases H; done)
      rename_i b
      cases H; simp only [VR] at hv
      exact ⟨⟨fun _ _ h => h, ⟨[], rfl⟩, fun _ h => h⟩, [⟨.str, b⟩], .str b, rfl, fun _ => rfl, by simpa only [VR] using hv⟩
    | list t =>
      simp only [Tp.mt] at H
      split at H
      · rename_i xs ids hr
        cases H
        refine ⟨⟨fun _ _ h => h, ⟨[], rfl⟩, fun i hi => by simp [catL_eq, hi]⟩, [⟨.list t, xs⟩], .ro t xs, rfl, fun _ => rfl, ?_⟩
        simp only [VR]
        exact roOf_img I hr (fun i hi => X.frz i (by simp [catL_eq, hi])) hv
      · cases H
    | map k v => simp only [Tp.mt] at H; cases H
  | .full j, a, m, m', v, H, X, hv => by
    cases a <;> simp only [Tp.mt] at H <;> try (cases H; done)
    case full id =>
      obtain ⟨h1, h2, h3, h4, h5, h6⟩ := M.ref_ext H
      simp only [VR] at hv
      exact ⟨h1, [], .full j, by rw [h3]; rfl, fun _ => rfl, by simp only [VR]; exact ⟨(I.ren j id (X.ren j id h2)).trans (I.old id v hv.1), hv.2⟩⟩
    case nilsl =>
      split at H
      · rename_i t ht
        obtain ⟨h1, h2, h3, h4, h5, h6⟩ := M.ref_ext H
        simp only [VR] at hv; subst hv
        refine ⟨⟨fun j i e => h1.ren j i e, ?_, fun i hi => h1.frz i hi⟩, [], .full j, by rw [h3]; rfl, fun _ => rfl, ?_⟩
        · rw [h4]; exact ⟨[_], rfl⟩
        · simp only [VR]
          refine ⟨(I.ren j _ (X.ren j _ h2)).trans ?_, none, 0, 0, rfl⟩
          obtain ⟨l, e⟩ := X.add
          exact I.add (m.nid, .arr t []) (by rw [e, h4]; simp)
      · cases H
  | .ptr j o, a, m, m', v, H, X, hv => by
    cases a <;> simp only [Tp.mt] at H <;> try (cases H; done)
    rename_i id o'
    cases hb : Nat.beq o o' with
    | false => rw [hb] at H; simp at H
    | true =>
      rw [hb] at H; simp only [cond_true] at H
      have := Nat.eq_of_beq_eq_true hb; subst this
      obtain ⟨h1, h2, h3, h4, h5, h6⟩ := M.ref_ext H
      simp only [VR] at hv
      obtain ⟨b, p, e1, e2⟩ := hv
      exact ⟨h1, [], .ptr j o, by rw [h3]; rfl, fun _ => rfl, by simp only [VR]; exact ⟨b, p, (I.ren j id (X.ren j id h2)).trans (I.old id _ e1), e2⟩⟩
  | .map j, a, m, m', v, H, X, hv => by
    cases a <;> simp only [Tp.mt] at H <;> try (cases H; done)
    rename_i id
    obtain ⟨h1, h2, h3, h4, h5, h6⟩ := M.ref_ext H
    simp only [VR] at hv
    exact ⟨h1, [], .map j, by rw [h3]; rfl, fun _ => rfl, by simp only [VR]; exact ⟨(I.ren j id (X.ren j id h2)).trans (I.old id v hv.1), hv.2⟩⟩
  | .nilp, a, m, m', v, H, X, hv => by
    cases a <;> simp only [Tp.mt] at H <;> try (cases H; done)
    cases H; simp only [VR] at hv
    exact ⟨.refl _, [], .nilp, rfl, fun _ => rfl, by simpa only [VR] using hv⟩
  | .cint k n, a, m, m', v, H, X, hv => by
    cases a <;> simp only [Tp.mt] at H <;> try (cases H; done)
    split at H
    · rename_i e; subst e
      split at H
      · rename_i e; subst e; cases H
        simp only [VR] at hv
        exact ⟨.refl _, [], .int k n, rfl, fun _ => rfl, by simpa only [VR] using hv⟩
      · cases H
    · cases H
  | .cstr s, a, m, m', v, H, X, hv => by
    cases a <;> simp only [Tp.mt] at H <;> try (cases H; done)
    split at H
    · rename_i e; subst e; cases H
      simp only [VR] at hv
      exact ⟨.refl _, [], .str s, rfl, fun _ => rfl, by simpa only [VR] using hv⟩
    · cases H
  | .gptr g o, a, m, m', v, H, X, hv => by
    cases a <;> simp only [Tp.mt] at H <;> try (cases H; done)
    rename_i g' o'
    cases hb : (Nat.beq g g' && Nat.beq o o') with
    | false => rw [hb] at H; simp at H
    | true =>
      rw [hb] at H; simp only [cond_true, Option.some.injEq] at H; subst H
      simp only [Bool.and_eq_true] at hb
      have e1 := Nat.eq_of_beq_eq_true hb.1
      have e2 := Nat.eq_of_beq_eq_true hb.2
      subst e1 e2
      simp only [VR] at hv
      exact ⟨.refl _, [], .gptr g o, rfl, fun _ => rfl, by simpa only [VR] using hv⟩
  | .fn f x y, a, m, m', v, H, X, hv => by
    cases a <;> simp only [Tp.mt] at H <;> try (cases H; done)
    rename_i f' x' y'
    cases hb : Nat.beq f f' with
    | false => rw [hb] at H; simp at H
    | true =>
      rw [hb] at H; simp only [cond_true] at H
      have := Nat.eq_of_beq_eq_true hb; subst this
      split at H
      · rename_i m1 hm1
        simp only [VR] at hv
        obtain ⟨fs, cs, rfl, hv1, hv2⟩ := hv
        have X1 : m1.Ext m' := (mts_ext y y' m1 m' H)
        obtain ⟨E1, n1, a1, d1, i1, r1⟩ := mts_sound I x x' m m1 _ hm1 (X1.trans X) hv1
        obtain ⟨E2, n2, a2, d2, i2, r2⟩ := mts_sound I y y' m1 m' _ H X hv2
        refine ⟨E1.trans E2, n1 ++ n2, .fn f a1 a2, by rw [d2, d1]; simp, fun rest => ?_, by simp only [VR]; exact ⟨fs, cs, rfl, r1, r2⟩⟩
        simp only [Tp.inst, List.append_assoc, i1, i2]
      · cases H
  | .agg l, a, m, m', v, H, X, hv => by
    cases a <;> simp only [Tp.mt] at H <;> try (cases H; done)
    rename_i l'
    simp only [VR] at hv
    obtain ⟨vs, rfl, hv1, hv2⟩ := hv
    obtain ⟨E1, n1, a1, d1, i1, r1⟩ := mts_sound I l l' m m' _ H X hv1
    exact ⟨E1, n1, .agg a1, d1, fun rest => by simp only [Tp.inst, i1], by simp only [VR]; exact ⟨vs, rfl, r1, hv2⟩⟩
  | .tup l, a, m, m', v, H, X, hv => by
    cases a <;> simp only [Tp.mt] at H <;> try (cases H; done)
    rename_i l'
    simp only [VR] at hv
    obtain ⟨vs, rfl, hv1⟩ := hv
    obtain ⟨E1, n1, a1, d1, i1, r1⟩ := mts_sound I l l' m m' _ H X hv1
    exact ⟨E1, n1, .tup a1, d1, fun rest => by simp only [Tp.inst, i1], by simp only [VR]; exact ⟨vs, rfl, r1⟩⟩
theorem mts_sound (I : Img E ι N h w mf ι2 ι' N') : ∀ (tps : List Tp) (as : List AV) (m m' : M) (vs : List Value), Tp.mts h ots tps as m = some m' → m'.Ext mf → VRL ι N w as vs →
    m.Ext m' ∧ ∃ new avs, m'.ds = new.reverse ++ m.ds ∧ (∀ rest, Tp.insts (fun j => j) tps (new ++ rest) = (avs, rest)) ∧ VRL ι' N' w avs vs
  | [], as, m, m', vs, H, X, hv => by
    cases as <;> simp only [Tp.mts] at H <;> try (cases H; done)
    cases H
    cases vs with
    | nil => exact ⟨.refl _, [], [], rfl, fun _ => rfl, by simp only [VRL]⟩
    | cons v vs => simp [VRL] at hv
  | tp :: tps, as, m, m', vs, H, X, hv => by
    cases as <;> simp only [Tp.mts] at H <;> try (cases H; done)
    rename_i a as
    split at H
    · rename_i m1 hm1
      cases vs with
      | nil => simp [VRL] at hv
      | cons v vs =>
        simp only [VRL] at hv
        have X1 : m1.Ext m' := (mts_ext tps as m1 m' H)
        obtain ⟨E1, n1, a1, d1, i1, r1⟩ := mt_sound I tp a m m1 v hm1 (X1.trans X) hv.1
        obtain ⟨E2, n2, a2, d2, i2, r2⟩ := mts_sound I tps as m1 m' vs H X hv.2
        refine ⟨E1.trans E2, n1 ++ n2, a1 :: a2, by rw [d2, d1]; simp, fun rest => ?_, by simp only [VRL]; exact ⟨r1, r2⟩⟩
        simp only [Tp.insts, List.append_assoc, i1, i2]
    · cases H
end

end
end Ev
