/- Calls by contract. Conditions: as stated. -/
import Derived.Test.YtbokmcaoggnjhaaDoorEvShape
set_option linter.unusedVariables false
set_option linter.unusedSimpArgs false
namespace Ev
open Go

/-- What a run leaves as it was. -/
structure Grow (E : Env) (k : Nat) (ι : Nat → Option Value) (N : Nat → Prop) (w : World) (ι' : Nat → Option Value) (N' : Nat → Prop) (w' : World) : Prop where
  loc : ∀ i, i < k → ι' i = ι i
  ro : ∀ b, N b → N' b
  mem : ∀ b, N b → w'.heap[b]? = w.heap[b]?
  bound : ∀ b, N' b → N b ∨ ¬ E.keep b

theorem Grow.refl (E k ι N w) : Grow E k ι N w ι N w := ⟨fun _ _ => rfl, fun _ h => h, fun _ _ => rfl, fun _ h => .inl h⟩
theorem Grow.trans {E k ι N w ι' N' w' ι'' N'' w''} (a : Grow E k ι N w ι' N' w') (b : Grow E k ι' N' w' ι'' N'' w'') : Grow E k ι N w ι'' N'' w'' :=
  ⟨fun i h => (b.loc i h).trans (a.loc i h), fun x h => b.ro x (a.ro x h), fun x h => (b.mem x (a.ro x h)).trans (a.mem x h), fun x h => (b.bound x h).elim (a.bound x) .inr⟩

/-- A CONTRACT HOLDS of a function. -/
def SoundS (P : Program) (C : Ctx) (f : Nat) (S : Spec) : Prop :=
  S.wf = true ∧ ∀ (d : Den S.ids) (r : Den S.out.ds), S.F d = some r → ∀ (E : Env), E.P = P → E.C = C → ∀ (ι : Nat → Option Value) (N : Nat → Prop) (w : World) (vs : Array Value) (args : List AV) (l : List Dat),
    Tp.insts (fun j => j) S.args (Den.list S.ids d) = (args, l) → VRL ι N w args vs.toList → RepH E ι N (getH (OT.insts (fun j => j) S.ihp l)) w →
    (∀ i, S.ihp.length ≤ i → ι i = none) →
    OpR P (callFunc f vs) w fun val w' => ∃ ι' N' v l', S.out.res.inst (fun j => j) (Den.list S.out.ds r) = (v, l') ∧ VR ι' N' w' v val ∧
      RepH E ι' N' (getH (OT.insts (fun j => j) S.out.hp l')) w' ∧ (∀ i, S.out.hp.length ≤ i → ι' i = none) ∧ Grow E S.keep ι N w ι' N' w'

/-! ### the numbers of the callee and of the caller -/

section
variable {ι2 ι3 : Nat → Option Value} {N2 N3 : Nat → Prop} {w : World} {ρ : Nat → Nat} {ro : Bool}

mutual
theorem inst_ren (hι : ∀ j u, ι2 j = some u → ι3 (ρ j) = some u) (hN : ro = true → ∀ b, N2 b → N3 b) : ∀ (t : Tp) (ds ds' : List DT) (l : List Dat), (hasRo t = true → ro = true) → Tp.fit t ds = some ds' → l.map (·.d) = ds →
    (t.inst (fun j => j) l).2 = (t.inst ρ l).2 ∧ (t.inst ρ l).2.map (·.d) = ds' ∧ ∀ v, VR ι2 N2 w (t.inst (fun j => j) l).1 v → VR ι3 N3 w (t.inst ρ l).1 v
  | .undef, ds, ds', l, hr, hf, hl => by simp only [Tp.fit, Option.some.injEq] at hf; subst hf; simp only [Tp.inst]; exact ⟨trivial, hl, fun v _ => by simp only [VR]⟩
  | .sc d, ds, ds', l, hr, hf, hl => by
    cases ds with
    | nil => simp [Tp.fit] at hf
    | cons d' r =>
      simp only [Tp.fit] at hf
      split at hf
      · rename_i e; subst e; cases hf
        cases l with
        | nil => simp at hl
        | cons x l =>
          simp only [List.map_cons, List.cons.injEq] at hl
          simp only [Tp.inst]
          refine ⟨trivial, hl.2, fun v hv => ?_⟩
          obtain ⟨xd, xv⟩ := x
          dsimp only at hl
          obtain ⟨rfl, _⟩ := hl
          cases xd with
          | list t =>
            have hro := hr rfl
            simp only [Dat.av, VR] at hv ⊢
            exact hv.mono (fun _ _ => VRc.mono (hN hro) fun _ _ => rfl) (hN hro) fun _ _ => rfl
          | _ => simp only [Dat.av, VR] at hv ⊢ <;> exact hv
      · cases hf
  | .full j, ds, ds', l, hr, hf, hl => by
    simp only [Tp.fit, Option.some.injEq] at hf; subst hf; simp only [Tp.inst]
    exact ⟨trivial, hl, fun v hv => by simp only [VR] at hv ⊢; exact ⟨hι j v hv.1, hv.2⟩⟩
  | .ptr j o, ds, ds', l, hr, hf, hl => by
    simp only [Tp.fit, Option.some.injEq] at hf; subst hf; simp only [Tp.inst]
    exact ⟨trivial, hl, fun v hv => by simp only [VR] at hv ⊢; obtain ⟨b, p, h1, h2⟩ := hv; exact ⟨b, p, hι j _ h1, h2⟩⟩
  | .map j, ds, ds', l, hr, hf, hl => by
    simp only [Tp.fit, Option.some.injEq] at hf; subst hf; simp only [Tp.inst]
    exact ⟨trivial, hl, fun v hv => by simp only [VR] at hv ⊢; exact ⟨hι j v hv.1, hv.2⟩⟩
  | .nilp, ds, ds', l, hr, hf, hl => by
    simp only [Tp.fit, Option.some.injEq] at hf; subst hf; simp only [Tp.inst]
    exact ⟨trivial, hl, fun v hv => by simp only [VR] at hv ⊢; exact hv⟩
  | .cint k n, ds, ds', l, hr, hf, hl => by
    simp only [Tp.fit, Option.some.injEq] at hf; subst hf; simp only [Tp.inst]
    exact ⟨trivial, hl, fun v hv => by simp only [VR] at hv ⊢; exact hv⟩
  | .cstr s, ds, ds', l, hr, hf, hl => by
    simp only [Tp.fit, Option.some.injEq] at hf; subst hf; simp only [Tp.inst]
    exact ⟨trivial, hl, fun v hv => by simp only [VR] at hv ⊢; exact hv⟩
  | .gptr g o, ds, ds', l, hr, hf, hl => by
    simp only [Tp.fit, Option.some.injEq] at hf; subst hf; simp only [Tp.inst]
    exact ⟨trivial, hl, fun v hv => by simp only [VR] at hv ⊢; exact hv⟩
  | .fn f a b, ds, ds', l, hr, hf, hl => by
    simp only [Tp.fit] at hf
    split at hf
    · rename_i ds1 h1
      obtain ⟨a1, a2, a3⟩ := insts_ren hι hN a ds ds1 l (fun h => hr (by simp [hasRo, h])) h1 hl
      obtain ⟨b1, b2, b3⟩ := insts_ren hι hN b ds1 ds' _ (fun h => hr (by simp [hasRo, h])) hf a2
      simp only [Tp.inst]
      rw [a1]
      refine ⟨b1, b2, fun v hv => ?_⟩
      simp only [VR] at hv ⊢
      obtain ⟨fs, cs, h1, h2, h3⟩ := hv
      exact ⟨fs, cs, h1, a3 _ h2, b3 _ h3⟩
    · cases hf
  | .agg a, ds, ds', l, hr, hf, hl => by
    simp only [Tp.fit] at hf
    obtain ⟨a1, a2, a3⟩ := insts_ren hι hN a ds ds' l (fun h => hr (by simp [hasRo, h])) hf hl
    simp only [Tp.inst]
    refine ⟨a1, a2, fun v hv => ?_⟩
    simp only [VR] at hv ⊢
    obtain ⟨vs, h1, h2, h3⟩ := hv
    exact ⟨vs, h1, a3 _ h2, h3⟩
  | .tup a, ds, ds', l, hr, hf, hl => by
    simp only [Tp.fit] at hf
    obtain ⟨a1, a2, a3⟩ := insts_ren hι hN a ds ds' l (fun h => hr (by simp [hasRo, h])) hf hl
    simp only [Tp.inst]
    refine ⟨a1, a2, fun v hv => ?_⟩
    simp only [VR] at hv ⊢
    obtain ⟨vs, h1, h2⟩ := hv
    exact ⟨vs, h1, a3 _ h2⟩
theorem insts_ren (hι : ∀ j u, ι2 j = some u → ι3 (ρ j) = some u) (hN : ro = true → ∀ b, N2 b → N3 b) : ∀ (ts : List Tp) (ds ds' : List DT) (l : List Dat), (hasRos ts = true → ro = true) → Tp.fits ts ds = some ds' → l.map (·.d) = ds →
    (Tp.insts (fun j => j) ts l).2 = (Tp.insts ρ ts l).2 ∧ (Tp.insts ρ ts l).2.map (·.d) = ds' ∧ ∀ vs, VRL ι2 N2 w (Tp.insts (fun j => j) ts l).1 vs → VRL ι3 N3 w (Tp.insts ρ ts l).1 vs
  | [], ds, ds', l, hr, hf, hl => by simp only [Tp.fits, Option.some.injEq] at hf; subst hf; simp only [Tp.insts]; exact ⟨trivial, hl, fun vs h => by cases vs <;> simp [VRL] at h ⊢⟩
  | t :: ts, ds, ds', l, hr, hf, hl => by
    simp only [Tp.fits] at hf
    split at hf
    · rename_i ds1 h1
      obtain ⟨a1, a2, a3⟩ := inst_ren hι hN t ds ds1 l (fun h => hr (by simp [hasRos, h])) h1 hl
      obtain ⟨b1, b2, b3⟩ := insts_ren hι hN ts ds1 ds' _ (fun h => hr (by simp [hasRos, h])) hf a2
      simp only [Tp.insts]
      rw [a1]
      refine ⟨b1, b2, fun vs hv => ?_⟩
      cases vs with
      | nil => simp [VRL] at hv
      | cons v vs => simp only [VRL] at hv ⊢; exact ⟨a3 v hv.1, b3 vs hv.2⟩
    · cases hf
end

theorem sc_vrc {N2 N3 : Nat → Prop} {w : World} : ∀ {s : Sc} {x : s.T} {v : Value}, (∀ k, s = .ints k → ∀ b, N2 b → N3 b) → VRc N2 w (s.av x) v → VRc N3 w (s.av x) v
  | .int k, x, v, _, h => h
  | .bool, x, v, _, h => h
  | .str, x, v, _, h => h
  | .ints k, x, v, hN, h => by
    simp only [Sc.av, VRc] at h ⊢
    exact h.mono (fun _ _ h => h) (hN k rfl) fun _ _ => rfl

theorem cells_vrc {N2 N3 : Nat → Prop} {w : World} : ∀ {t : FT} {x : El t}, (ftRo t = true → ∀ b, N2 b → N3 b) → ∀ a, a ∈ El.cells t x → ∀ v, VRc N2 w a v → VRc N3 w a v
  | [], x, _, a, ha, v, h => by simp [El.cells] at ha
  | [s], x, hN, a, ha, v, h => by
    simp only [El.cells, List.mem_singleton] at ha; subst ha
    exact sc_vrc (fun k e => hN (by subst e; rfl)) h
  | s :: s' :: r, x, hN, a, ha, v, h => by
    simp only [El.cells, List.mem_cons] at ha
    rcases ha with ha | ha
    · subst ha; exact sc_vrc (fun k e => hN (by subst e; rfl)) h
    · exact cells_vrc (t := s' :: r) (fun e => hN (by cases s <;> simp [ftRo, e])) a ha v h

theorem CellsR.on {P Q : AV → Value → Prop} {c p as} (h : CellsR P c p as) (hpq : ∀ a, a ∈ as → ∀ v, P a v → Q a v) : CellsR Q c p as :=
  fun f a ha => let ⟨v, h1, h2⟩ := h f a ha; ⟨v, h1, hpq a (List.mem_of_getElem? ha) _ h2⟩

theorem ot_ren (hι : ∀ j u, ι2 j = some u → ι3 (ρ j) = some u) (hN : ro = true → ∀ b, N2 b → N3 b) : ∀ (t : OT) (ds ds' : List DT) (l : List Dat), (OT.hasRo t = true → ro = true) → OT.fit t ds = some ds' → l.map (·.d) = ds →
    (OT.inst (fun j => j) t l).2 = (OT.inst ρ t l).2 ∧ (OT.inst ρ t l).2.map (·.d) = ds' ∧
    ((OT.inst (fun j => j) t l).1 = .dead → (OT.inst ρ t l).1 = .dead) ∧
    ∀ keep2 keep3 : Nat → Prop, (∀ b, own N2 keep2 b → own N3 keep3 b) → ∀ u, ObR ι2 N2 keep2 w u (OT.inst (fun j => j) t l).1 → ObR ι3 N3 keep3 w u (OT.inst ρ t l).1
  | .dead, ds, ds', l, hr, hf, hl => by
    simp only [OT.fit, Option.some.injEq] at hf; subst hf; simp only [OT.inst]
    exact ⟨trivial, hl, fun _ => trivial, fun _ _ _ _ h => h⟩
  | .box a, ds, ds', l, hr, hf, hl => by
    simp only [OT.fit] at hf
    obtain ⟨a1, a2, a3⟩ := insts_ren (w := w) hι hN a ds ds' l (fun h => hr (by simp [OT.hasRo, h])) hf hl
    simp only [OT.inst]
    refine ⟨a1, a2, fun h => (by cases h), fun k2 k3 ho u h => ?_⟩
    obtain ⟨b, p, c, T, rfl, h1, h2, h3⟩ := h
    obtain ⟨vs, hlen, hvs, hq⟩ := CellsR.list h3
    have r := a3 vs (.of_get hlen.symm fun f a v ha hv => (hq f a v ha hv).1)
    refine ⟨b, p, c, T, rfl, ho b h1, h2, fun f x ha => ?_⟩
    obtain ⟨v, hv, hva⟩ := r.get f x ha
    have hf' : f < (Tp.insts (fun j => j) a l).1.length := by rw [← hlen]; exact (List.getElem?_eq_some_iff.1 hv).1
    exact ⟨v, (hvs f hf').trans hv, hva, (hq f _ v (List.getElem?_eq_getElem hf') hv).2⟩
  | .arr t, ds, ds', l, hr, hf, hl => by
    cases ds with
    | nil => simp [OT.fit] at hf
    | cons d r =>
      simp only [OT.fit] at hf
      split at hf
      · rename_i e; subst e; cases hf
        cases l with
        | nil => simp at hl
        | cons x l =>
          simp only [List.map_cons, List.cons.injEq] at hl
          obtain ⟨xd, xs⟩ := x
          dsimp only at hl
          obtain ⟨rfl, hl⟩ := hl
          simp only [OT.inst]
          refine ⟨trivial, hl, fun h => (by cases h), fun k2 k3 ho u h => ?_⟩
          obtain ⟨a, cap, rfl, hle, h⟩ := h
          refine ⟨a, cap, rfl, hle, ?_⟩
          rcases h with rfl | ⟨b, c, T, rfl, h1, h2, h3, h4⟩
          · exact .inl rfl
          · exact .inr ⟨b, c, T, rfl, ho b h1, h2, h3, fun j x hx => (h4 j x hx).on fun a ha v hv => cells_vrc (fun e => hN (hr e)) a ha v hv⟩
      · cases hf
  | .map k v, ds, ds', l, hr, hf, hl => by
    cases ds with
    | nil => simp [OT.fit] at hf
    | cons d r =>
      simp only [OT.fit] at hf
      split at hf
      · rename_i e; subst e; cases hf
        cases l with
        | nil => simp at hl
        | cons x l =>
          simp only [List.map_cons, List.cons.injEq] at hl
          obtain ⟨xd, xs⟩ := x
          dsimp only at hl
          obtain ⟨rfl, hl⟩ := hl
          simp only [OT.inst]
          refine ⟨trivial, hl, fun h => (by cases h), fun k2 k3 ho u h => ?_⟩
          obtain ⟨r, ents, clock, rfl, h1, h2, h3, h4⟩ := h
          exact ⟨r, ents, clock, rfl, ho r h1, h2, h3, h4⟩
      · cases hf

theorem ots_len (ρ : Nat → Nat) : ∀ (ts : List OT) (l : List Dat), (OT.insts ρ ts l).length = ts.length
  | [], l => rfl
  | t :: ts, l => by simp [OT.insts, ots_len ρ ts]

theorem ots_ren (hι : ∀ j u, ι2 j = some u → ι3 (ρ j) = some u) (hN : ro = true → ∀ b, N2 b → N3 b) : ∀ (ts : List OT) (ds ds' : List DT) (l : List Dat), (anyL OT.hasRo ts = true → ro = true) → OT.fits ts ds = some ds' → l.map (·.d) = ds →
    ∀ k, (getH (OT.insts (fun j => j) ts l) k = .dead → getH (OT.insts ρ ts l) k = .dead) ∧
    ∀ keep2 keep3 : Nat → Prop, (∀ b, own N2 keep2 b → own N3 keep3 b) → ∀ u, ObR ι2 N2 keep2 w u (getH (OT.insts (fun j => j) ts l) k) → ObR ι3 N3 keep3 w u (getH (OT.insts ρ ts l) k)
  | [], ds, ds', l, hr, hf, hl, k => by simp only [OT.insts]; exact ⟨fun h => h, fun _ _ _ u h => by cases k <;> exact h⟩
  | t :: ts, ds, ds', l, hr, hf, hl, k => by
    simp only [OT.fits] at hf
    split at hf
    · rename_i ds1 h1
      obtain ⟨a1, a2, a3, a4⟩ := ot_ren (w := w) hι hN t ds ds1 l (fun h => hr (by simp [anyL, h])) h1 hl
      have ih := ots_ren hι hN ts ds1 ds' _ (fun h => hr (by simp [anyL, h])) hf a2
      simp only [OT.insts]
      rw [a1]
      cases k with
      | zero => exact ⟨a3, a4⟩
      | succ k => exact ih k
    · cases hf

end

/-! ### what the caller's objects are after a call -/

section
variable {h g : Nat → Ob}

theorem updD_app : ∀ (d e : Delta) (h : Nat → Ob), updD h (d ++ e) = updD (updD h d) e
  | [], e, h => rfl
  | (i, o) :: d, e, h => by simp only [List.cons_append, updD]; exact updD_app d e _

theorem gone_spec (m : M) : ∀ (n j k : Nat) (g : Nat → Ob), updD g (m.gone j n) k = .dead ∨ (updD g (m.gone j n) k = g k ∧ ∀ j', j ≤ j' → j' < j + n → renA m.ren j' ≠ some k)
  | 0, j, k, g => .inr ⟨rfl, fun j' h1 h2 => by omega⟩
  | n + 1, j, k, g => by
    simp only [M.gone]
    split
    · rename_i i hi
      simp only [updD]
      rcases gone_spec m n (j + 1) k (upd g i .dead) with e | ⟨e, hn⟩
      · exact .inl e
      · by_cases ek : k = i
        · left; rw [e]; simp [upd, ek]
        · refine .inr ⟨by rw [e]; simp [upd, ek], fun j' h1 h2 => ?_⟩
          by_cases ej : j' = j
          · subst ej; rw [hi]; simp; exact fun x => ek x.symm
          · exact hn j' (by omega) (by omega)
    · rename_i hi
      rcases gone_spec m n (j + 1) k g with e | ⟨e, hn⟩
      · exact .inl e
      · refine .inr ⟨e, fun j' h1 h2 => ?_⟩
        by_cases ej : j' = j
        · subst ej; rw [hi]; simp
        · exact hn j' (by omega) (by omega)

theorem kill_spec : ∀ (l : List Nat) (k : Nat) (g : Nat → Ob), (k ∈ l → updD g (killD l) k = .dead) ∧ (k ∉ l → updD g (killD l) k = g k)
  | [], k, g => ⟨fun h => by simp at h, fun _ => rfl⟩
  | i :: l, k, g => by
    simp only [killD, updD]
    have ih := kill_spec l k (upd g i .dead)
    refine ⟨fun hk => ?_, fun hk => ?_⟩
    · by_cases hl : k ∈ l
      · exact ih.1 hl
      · simp only [List.mem_cons, hl, or_false] at hk
        rw [ih.2 hl]; simp [upd, hk]
    · simp only [List.mem_cons, not_or] at hk
      rw [ih.2 hk.2]; simp [upd, hk.1]

theorem killD_keys (l : List Nat) : keysD (killD l) = l := by induction l <;> simp_all [killD, keysD]

theorem objD_spec (act : Nat → Nat) : ∀ (out : Heap) (j0 k : Nat) (g : Nat → Ob),
    (∃ j, j < out.length ∧ act (j0 + j) = k ∧ updD g (objD act j0 out) k = getH out j) ∨ ((∀ j, j < out.length → act (j0 + j) ≠ k) ∧ updD g (objD act j0 out) k = g k)
  | [], j0, k, g => .inr ⟨fun j h => by simp at h, rfl⟩
  | o :: out, j0, k, g => by
    simp only [objD, updD]
    rcases objD_spec act out (j0 + 1) k (upd g (act j0) o) with ⟨j, h1, h2, h3⟩ | ⟨h1, h2⟩
    · exact .inl ⟨j + 1, by simp; exact h1, by rw [← h2]; congr 1; omega, h3⟩
    · by_cases ek : k = act j0
      · exact .inl ⟨0, by simp, ek.symm, by rw [h2]; simp [upd, ek, getH]⟩
      · refine .inr ⟨fun j hj => ?_, by rw [h2]; simp [upd, ek]⟩
        cases j with
        | zero => exact fun e => ek e.symm
        | succ j => have := h1 j (by simpa using hj); rwa [show j0 + (j + 1) = j0 + 1 + j by omega]

theorem objD_keys (act : Nat → Nat) : ∀ (out : Heap) (j0 k : Nat), k ∈ keysD (objD act j0 out) ↔ ∃ j, j < out.length ∧ act (j0 + j) = k
  | [], j0, k => by simp [objD, keysD]
  | o :: out, j0, k => by
    simp only [objD, keysD, List.mem_cons, objD_keys act out]
    constructor
    · rintro (rfl | ⟨j, h1, h2⟩)
      · exact ⟨0, by simp, rfl⟩
      · exact ⟨j + 1, by simpa using h1, by rw [← h2]; congr 1; omega⟩
    · rintro ⟨j, h1, h2⟩
      cases j with
      | zero => exact .inl h2.symm
      | succ j => exact .inr ⟨j, by simpa using h1, by rw [← h2]; congr 1; omega⟩

theorem keysD_append (d e : Delta) : keysD (d ++ e) = keysD d ++ keysD e := by simp [keysD_eq]

theorem gone_keys (m : M) : ∀ (n j k : Nat), k ∈ keysD (m.gone j n) → ∃ j', renA m.ren j' = some k
  | 0, j, k, h => by simp [M.gone, keysD] at h
  | n + 1, j, k, h => by
    simp only [M.gone] at h
    split at h
    · rename_i i hi
      simp only [keysD, List.mem_cons] at h
      rcases h with rfl | h
      · exact ⟨j, hi⟩
      · exact gone_keys m n _ k h
    · exact gone_keys m n _ k h

theorem updD_arr : ∀ (d : Delta) (k : Nat) (g : Nat → Ob), (∀ x, x ∈ d → ∃ t, x.2 = .arr t []) → k ∈ keysD d → ∃ t, updD g d k = .arr t []
  | [], k, g, _, hk => by simp [keysD] at hk
  | (i, o) :: d, k, g, hx, hk => by
    simp only [updD]
    by_cases hm : k ∈ keysD d
    · exact updD_arr d k _ (fun x h => hx x (by simp [h])) hm
    · rw [updD_not d hm]
      simp only [keysD, List.mem_cons, hm, or_false] at hk
      obtain ⟨t, e⟩ := hx (i, o) (by simp)
      exact ⟨t, by simp [upd, hk]; exact e⟩

theorem lenL_insts (ρ : Nat → Nat) (ts : List OT) (l : List Dat) : lenL (OT.insts ρ ts l) = ts.length := by rw [lenL_eq, ots_len]

end

section
variable {E : Env} {ι : Nat → Option Value} {N : Nat → Prop} {h : Nat → Ob} {w : World} {nid : Nat}

theorem ObR.other {N keep keep' : Nat → Prop} {val : Value} {o : Ob} (ho : ObR ι N keep w val o) (hk : ∀ b, blkOf val = some b → own N keep b → own N keep' b) : ObR ι N keep' w val o := by
  cases o with
  | dead => trivial
  | box cs =>
    obtain ⟨b, o, c, T, rfl, h1, h2, h3⟩ := ho
    exact ⟨b, o, c, T, rfl, hk b rfl h1, h2, h3⟩
  | arr t xs =>
    obtain ⟨a, cap, rfl, hle, ho⟩ := ho
    refine ⟨a, cap, rfl, hle, ?_⟩
    rcases ho with rfl | ⟨b, c, T, rfl, h1, h2, h3, h4⟩
    · exact .inl rfl
    · by_cases hc : cap = 0
      · exact .inl hc
      · exact .inr ⟨b, c, T, rfl, hk b (by simp [blkOf, hc]) h1, h2, h3, h4⟩
  | map kt vt es =>
    obtain ⟨r, ents, clock, rfl, h1, h2, h3, h4⟩ := ho
    exact ⟨r, ents, clock, rfl, hk r rfl h1, h2, h3, h4⟩

theorem enter_mok {S : Spec} {args : List AV} {d : Den S.ids} {m : M} (H : S.enter args h nid = some (d, m)) : MOk h nid m := by
  unfold Spec.enter at H
  have o0 : MOk h nid ⟨[], [], nid, [], []⟩ := ⟨fun j j' i e => by simp [renA] at e, fun j i e => by simp [renA] at e, fun x hx => by simp at hx, fun i hi => by simp at hi, Nat.le_refl _⟩
  split at H
  · rename_i m1 hm1
    have o1 := mts_ok _ _ _ _ hm1 o0
    split at H
    · rename_i m2 hm2
      have o2 := (OT.mts_both (nid0 := nid) _ _ _ _ hm2).2 o1
      cases hok : m2.ok (lenL S.ihp) with
      | false => rw [hok] at H; simp at H
      | true =>
        rw [hok] at H; simp only [cond_true] at H
        split at H
        · simp only [Option.some.injEq, Prod.mk.injEq] at H
          obtain ⟨_, rfl⟩ := H
          exact o2
        · cases H
    · cases H
  · cases H

theorem Den.list_types : ∀ (ds : List DT) (d : Den ds), (Den.list ds d).map (·.d) = ds
  | [], d => rfl
  | [a], d => rfl
  | a :: b :: r, d => by simp only [Den.list, List.map_cons]; rw [Den.list_types (b :: r)]

/-- What the callee is handed. -/
theorem enter_sound (R : RepH E ι N h w) {S : Spec} {args : List AV} {vs : List Value} (hv : VRL ι N w args vs) {d : Den S.ids} {m : M} (H : S.enter args h nid = some (d, m))
    (fresh : ∀ k, k ∈ keysD m.add → ι k = none) :
    MOk h nid m ∧ frzOk m.ren m.frz = true ∧ (∀ j i, renA m.ren j = some i → j < S.ihp.length ∧ i < m.nid) ∧
    ∃ as l, Tp.insts (fun j => j) S.args (Den.list S.ids d) = (as, l) ∧ VRL (imgL ι m) (imgN ι N m) w as vs ∧
      (∀ k, getH (OT.insts (fun j => j) S.ihp l) k ≠ .dead → ∃ i u, renA m.ren k = some i ∧ addL ι m.add i = some u ∧ ObR (imgL ι m) (imgN ι N m) E.keep w u (getH (OT.insts (fun j => j) S.ihp l) k) ∧ (u = .slice none 0 0 ∨ (h i ≠ .dead ∧ ι i = some u))) := by
  unfold Spec.enter at H
  have o0 : MOk h nid ⟨[], [], nid, [], []⟩ := ⟨fun j j' i e => by simp [renA] at e, fun j i e => by simp [renA] at e, fun x hx => by simp at hx, fun i hi => by simp at hi, Nat.le_refl _⟩
  split at H
  · rename_i m1 hm1
    have o1 := mts_ok _ _ _ _ hm1 o0
    split at H
    · rename_i m2 hm2
      have o2 := (OT.mts_both (nid0 := nid) _ _ _ _ hm2).2 o1
      have x2 := (OT.mts_both (nid0 := nid) _ _ _ _ hm2).1
      cases hok : m2.ok (lenL S.ihp) with
      | false => rw [hok] at H; simp at H
      | true =>
        rw [hok] at H; simp only [cond_true] at H
        unfold M.ok at hok
        simp only [Bool.and_eq_true] at hok
        split at H
        · rename_i d' hd
          simp only [Option.some.injEq, Prod.mk.injEq] at H
          obtain ⟨rfl, rfl⟩ := H
          have I := img R o2 fresh
          obtain ⟨_, n1, as, d1, i1, r1⟩ := mts_sound I _ _ _ _ vs hm1 x2 hv
          obtain ⟨n2, d2, r2⟩ := ots_sound R o2 fresh hok.1 _ _ _ _ hm2 (.refl _) o1
          have hds : Den.list S.ids d' = n1 ++ n2 := by
            rw [Den.of_list hd, revL_eq, d2, d1]; simp
          refine ⟨o2, hok.1, fun j i e => by have := renLt_spec hok.2 j i e; rwa [lenL_eq] at this, as, n2, by rw [hds]; exact i1 n2, r1, fun k hk => ?_⟩
          have := (r2 []).2 k (by simpa using hk)
          simpa using this
        · cases H
    · cases H
  · cases H

open Classical in
/-- A CALL BY CONTRACT, as the caller sees it. -/
theorem call_sound (R : RepH E ι N h w) {f : Nat} {S : Spec} (hS : SoundS E.P E.C f S) {args : List AV} {vs : Array Value} (hv : VRL ι N w args vs.toList) {d : Den S.ids} {m : M}
    (H : S.enter args h nid = some (d, m)) {r : Den S.out.ds} (hF : S.F d = some r) (fresh : ∀ k, k ∈ keysD (S.leave m r).2 → nid ≤ k → ι k = none) :
    OpR E.P (callFunc f vs) w fun val w' => ∃ ι' N', Post E ι N h w nid (S.leave m r).1 (S.leave m r).2 val w' ι' N' := by
  obtain ⟨hwf, hS⟩ := hS
  have om := enter_mok H
  -- what the call changes, in four parts
  have hd : (S.leave m r).2 = revL m.add [] ++ (m.gone 0 (lenL S.ihp) ++ (objD (m.actual S.keep) 0 (OT.insts (m.actual S.keep) S.out.hp (S.out.res.inst (m.actual S.keep) (Den.list S.out.ds r)).2) ++
      cond S.out.hasRo (killD m.frz) [])) := by simp only [Spec.leave, catL_eq]
  have hv1 : (S.leave m r).1 = (S.out.res.inst (m.actual S.keep) (Den.list S.out.ds r)).1 := rfl
  generalize (S.leave m r).1 = v at *
  generalize (S.leave m r).2 = dl at *
  have keyAdd : ∀ k, k ∈ keysD (revL m.add []) ↔ k ∈ keysD m.add := fun k => by rw [revL_eq, keysD_eq, keysD_eq]; simp
  have addDl : ∀ k, k ∈ keysD m.add → k ∈ keysD dl := fun k hk => by rw [hd, keysD_append]; exact List.mem_append_left _ ((keyAdd k).2 hk)
  have addRng : ∀ k, k ∈ keysD m.add → nid ≤ k ∧ k < m.nid := fun k hk => by
    obtain ⟨o, ho⟩ := mem_keysD.1 hk
    exact (om.add _ ho).2
  have freshAdd : ∀ k, k ∈ keysD m.add → ι k = none := fun k hk => fresh k (addDl k hk) (addRng k hk).1
  obtain ⟨-, hz, hrng, as, l, hinsts, hva, hob⟩ := enter_sound R hv H freshAdd
  -- the objects that are handed over
  let H0 : Nat → Ob := fun i => if (∃ j, renA m.ren j = some i) ∨ i ∈ m.frz then h i else .dead
  have hH0 : ∀ i, H0 i = h i ∨ H0 i = .dead := fun i => by
    by_cases c : (∃ j, renA m.ren j = some i) ∨ i ∈ m.frz
    · exact .inl (if_pos c)
    · exact .inr (if_neg c)
  have Rc := img_rep R om freshAdd hz hob
  have Rp := R.part hH0
  have R1 : RepH (E.part ι h H0 w) (imgL ι m) (imgN ι N m) (getH (OT.insts (fun j => j) S.ihp l)) w := by
    refine ⟨fun k hk => ?_, Rc.sep, Rc.nlt, Rp.klt, Rp.pres, Rc.glob⟩
    obtain ⟨i, u, e1, e2, e3, e4⟩ := hob k hk
    refine ⟨u, by simp [imgL, e1, e2], e3.other fun b hb ow => ⟨ow.1, ?_⟩⟩
    rintro (hk | ⟨i', v', h1, h2, h3, h4⟩)
    · exact ow.2 hk
    · rcases e4 with rfl | ⟨e5, e6⟩
      · simp [blkOf] at hb
      · have hne : i ≠ i' := by
          rintro rfl
          have : H0 i = h i := if_pos (.inl ⟨k, e1⟩)
          rw [this] at h2; exact h1 h2
        exact R.sep i i' b hne e5 h1 (by rw [e6]; exact hb) (by rw [h3]; exact h4)
  have new1 : ∀ i, S.ihp.length ≤ i → imgL ι m i = none := fun i hi => by
    cases e : renA m.ren i with
    | none => simp [imgL, e]
    | some q => exact absurd (hrng i q e).1 (by omega)
  refine OpR.mono (hS d r hF (E.part ι h H0 w) rfl rfl (imgL ι m) (imgN ι N m) w vs as l hinsts hva R1 new1) fun val w' hp => ?_
  obtain ⟨ι2, N2, v2, l2, hinst, hvr, R2, new2, G⟩ := hp
  -- the contract is well made
  simp only [Spec.wf, Bool.and_eq_true] at hwf
  obtain ⟨hkeep, hfit⟩ := hwf
  have hkeep : S.keep ≤ S.ihp.length := by have := Nat.le_of_ble_eq_true hkeep; rwa [lenL_eq] at this
  obtain ⟨ds1, hf1, ds2, hf2⟩ : ∃ ds1, Tp.fit S.out.res S.out.ds = some ds1 ∧ ∃ ds2, OT.fits S.out.hp ds1 = some ds2 := by
    revert hfit
    cases e1 : Tp.fit S.out.res S.out.ds with
    | none => simp
    | some ds1 =>
      intro hfit
      exact ⟨ds1, rfl, Option.isSome_iff_exists.1 hfit⟩
  let ι3 : Nat → Option Value := fun k => if k < nid then ι k else if k < m.nid then addL ι m.add k else if k - m.nid + S.keep < S.out.hp.length then ι2 (k - m.nid + S.keep) else ι k
  let N3 : Nat → Prop := fun b => N2 b ∧ (S.out.hasRo = true ∨ ¬ ∃ i u, i ∈ m.frz ∧ ι i = some u ∧ blkOf u = some b)
  have live2 : ∀ j u, ι2 j = some u → j < S.out.hp.length := fun j u e => by
    rcases Nat.lt_or_ge j S.out.hp.length with h | h
    · exact h
    · rw [new2 j h] at e; cases e
  have addLow : ∀ k, k < nid → addL ι m.add k = ι k := fun k hk => by
    unfold addL
    split
    · rename_i hm; have := (addRng k hm).1; omega
    · rfl
  have hnid := om.nid
  have hι : ∀ j u, ι2 j = some u → ι3 (m.actual S.keep j) = some u := fun j u e => by
    have hj := live2 j u e
    by_cases hk : j < S.keep
    · have e' := (G.loc j hk).symm.trans e
      unfold imgL at e'
      cases hr : renA m.ren j with
      | none => rw [hr] at e'; cases e'
      | some i =>
        rw [hr] at e'
        change addL ι m.add i = some u at e'
        have hact : m.actual S.keep j = i := by
          unfold M.actual
          have : Nat.blt j S.keep = true := by rw [Nat.blt_eq]; exact hk
          rw [this, hr]; rfl
        have hi := (hrng j i hr).2
        rw [hact]
        by_cases hlow : i < nid
        · simp only [ι3, hlow, if_true]; rw [← addLow i hlow]; exact e'
        · simp only [ι3, hlow, hi, if_true, if_false]; exact e'
    · have hact : m.actual S.keep j = m.nid + (j - S.keep) := by
        unfold M.actual
        have : Nat.blt j S.keep = false := by
          cases hb : Nat.blt j S.keep with
          | false => rfl
          | true => rw [Nat.blt_eq] at hb; exact absurd hb hk
        rw [this]; rfl
      rw [hact]
      have a1 : ¬ m.nid + (j - S.keep) < nid := by omega
      have a2 : ¬ m.nid + (j - S.keep) < m.nid := by omega
      have a3 : m.nid + (j - S.keep) - m.nid + S.keep = j := by omega
      simp only [ι3, a1, a2, if_false, a3, hj, if_true]; exact e
  have hN3 : S.out.hasRo = true → ∀ b, N2 b → N3 b := fun hr b hb => ⟨hb, .inl hr⟩
  obtain ⟨i1, i2, i3⟩ := inst_ren (w := w') hι hN3 S.out.res _ _ _ (fun e => by simp [Out.hasRo, e]) hf1 (Den.list_types S.out.ds r)
  rw [hinst] at i1 i3
  change l2 = _ at i1
  rw [← i1] at hd i2
  have ren := ots_ren (w := w') hι hN3 S.out.hp ds1 ds2 l2 (fun e => by simp [Out.hasRo, e]) hf2 i2
  -- the objects' numbers
  have inRange : ∀ k, m.nid ≤ k → k - m.nid + S.keep < S.out.hp.length → k ∈ keysD dl := fun k h1 h2 => by
    rw [hd, keysD_append, keysD_append, keysD_append]
    refine List.mem_append_right _ (List.mem_append_right _ (List.mem_append_left _ ((objD_keys _ _ _ _).2 ⟨k - m.nid + S.keep, by rw [ots_len]; exact h2, ?_⟩)))
    unfold M.actual
    have : Nat.blt (0 + (k - m.nid + S.keep)) S.keep = false := by
      cases hb : Nat.blt (0 + (k - m.nid + S.keep)) S.keep with
      | false => rfl
      | true => rw [Nat.blt_eq] at hb; omega
    rw [this]; simp only [cond_false]; omega
  have loc3 : ∀ k u, ι k = some u → ι3 k = some u := fun k u e => by
    by_cases h1 : k < nid
    · simp only [ι3, h1, if_true]; exact e
    · by_cases h2 : k < m.nid
      · simp only [ι3, h1, h2, if_true, if_false]
        unfold addL
        split
        · rename_i hm; rw [freshAdd k hm] at e; cases e
        · exact e
      · by_cases h3 : k - m.nid + S.keep < S.out.hp.length
        · have := fresh k (inRange k (by omega) h3) (by omega)
          rw [this] at e; cases e
        · simp only [ι3, h1, h2, h3, if_false]; exact e
  have frzOwn : ∀ i u b, i ∈ m.frz → ι i = some u → blkOf u = some b → own N E.keep b := fun i u b hi hu hb => by
    obtain ⟨t, xs, hx⟩ := om.frz i hi
    exact (R.blk_lt (by rw [hx]; simp) hu hb).1
  have L : Later ι N w ι3 N3 w' := ⟨loc3, fun b hb => ⟨G.ro b (.inl hb), .inr fun ⟨i, u, h1, h2, h3⟩ => (frzOwn i u b h1 h2 h3).1 hb⟩, fun b hb => G.mem b (.inl hb)⟩
  -- which objects there are
  have cls : ∀ k, updD h dl k ≠ .dead → (∃ j, m.actual S.keep j = k ∧ updD h dl k = getH (OT.insts (m.actual S.keep) S.out.hp l2) j ∧ getH (OT.insts (fun j => j) S.out.hp l2) j ≠ .dead) ∨
      (∃ t, updD h dl k = .arr t [] ∧ ι3 k = some (.slice none 0 0)) ∨
      (updD h dl k = h k ∧ h k ≠ .dead ∧ (¬ ∃ j, renA m.ren j = some k) ∧ (k ∈ m.frz → S.out.hasRo = false)) := by
    intro k hk
    rw [hd, updD_app, updD_app, updD_app] at hk ⊢
    generalize hA : updD h (revL m.add []) = gA at hk ⊢
    generalize hB : updD gA (m.gone 0 (lenL S.ihp)) = gB at hk ⊢
    generalize hC : updD gB (objD (m.actual S.keep) 0 (OT.insts (m.actual S.keep) S.out.hp l2)) = gC at hk ⊢
    have hD : updD gC (cond S.out.hasRo (killD m.frz) []) k = gC k ∧ (k ∈ m.frz → S.out.hasRo = false) := by
      cases hr : S.out.hasRo with
      | false => exact ⟨rfl, fun _ => rfl⟩
      | true =>
        rw [hr] at hk
        simp only [cond_true] at hk ⊢
        by_cases hm : k ∈ m.frz
        · exact absurd ((kill_spec m.frz k gC).1 hm) hk
        · exact ⟨(kill_spec m.frz k gC).2 hm, fun x => absurd x hm⟩
    rw [hD.1] at hk ⊢
    rcases objD_spec (m.actual S.keep) (OT.insts (m.actual S.keep) S.out.hp l2) 0 k gB with ⟨j, h1, h2, h3⟩ | ⟨h1, h2⟩
    · rw [hC] at h3
      rw [Nat.zero_add] at h2
      exact .inl ⟨j, h2, h3, fun e => hk (h3.trans ((ren j).1 e))⟩
    · rw [hC] at h2
      rw [h2] at hk ⊢
      rcases gone_spec m (lenL S.ihp) 0 k gA with e | ⟨e, hn⟩
      · rw [hB] at e; exact absurd e hk
      · rw [hB] at e
        rw [e] at hk ⊢
        by_cases hm : k ∈ keysD m.add
        · obtain ⟨t, ht⟩ := updD_arr (revL m.add []) k h (fun x hx => (om.add x (by rw [revL_eq] at hx; simpa using hx)).1) ((keyAdd k).2 hm)
          rw [hA] at ht
          refine .inr (.inl ⟨t, ht, ?_⟩)
          have hr := addRng k hm
          have a1 : ¬ k < nid := by omega
          simp only [ι3, a1, hr.2, if_true, if_false, addL, hm]
        · have : gA k = h k := by rw [← hA]; exact updD_not _ fun x => hm ((keyAdd k).1 x)
          rw [this] at hk ⊢
          refine .inr (.inr ⟨rfl, hk, ?_, hD.2⟩)
          rintro ⟨j, hj⟩
          exact hn j (Nat.zero_le _) (by rw [lenL_eq]; have := (hrng j k hj).1; omega) hj
  -- what was not handed over
  have rest : ∀ k u b, h k ≠ .dead → (¬ ∃ j, renA m.ren j = some k) → ι k = some u → blkOf u = some b → (k ∈ m.frz ∧ imgN ι N m b) ∨ (k ∉ m.frz ∧ aside E ι h H0 b) := fun k u b h1 h2 h3 h4 => by
    by_cases hm : k ∈ m.frz
    · exact .inl ⟨hm, .inr ⟨k, u, hm, h3, h4⟩⟩
    · refine .inr ⟨hm, .inr ⟨k, u, h1, if_neg (fun c => c.elim h2 hm), h3, h4⟩⟩
  have ownOut : ∀ b, own N2 (aside E ι h H0) b → own N3 E.keep b := fun b ow => ⟨fun x => ow.1 x.1, fun x => ow.2 (.inl x)⟩
  have notBoth : ∀ k u b, h k ≠ .dead → (¬ ∃ j, renA m.ren j = some k) → ι k = some u → blkOf u = some b → ¬ own N2 (aside E ι h H0) b := fun k u b h1 h2 h3 h4 ow => by
    rcases rest k u b h1 h2 h3 h4 with ⟨_, x⟩ | ⟨_, x⟩
    · exact ow.1 (G.ro b x)
    · exact ow.2 x
  refine ⟨ι3, N3, by rw [hv1]; exact i3 val hvr, L, ⟨fun k hk => ?_, fun k k' b e hk hk' hb hc => ?_, fun b hb => R2.nlt b hb.1, fun b hb => R2.klt b (.inl hb), ?_, fun g hg => ?_⟩, fun k => ?_, fun b hb => ?_⟩
  · rcases cls k hk with ⟨j, h1, h2, h3⟩ | ⟨t, h1, h2⟩ | ⟨h1, h2, h3, h4⟩
    · obtain ⟨u, hu, ho⟩ := R2.ob j h3
      refine ⟨u, by rw [← h1]; exact hι j u hu, ?_⟩
      rw [h2]
      exact (ren j).2 _ _ ownOut u ho
    · refine ⟨_, h2, ?_⟩
      rw [h1]
      exact ⟨none, 0, rfl, Nat.le_refl _, .inl rfl⟩
    · obtain ⟨u, hu, ho⟩ := R.ob k h2
      refine ⟨u, loc3 k u hu, ?_⟩
      rw [h1]
      refine ho.keep L (fun b hb ow => ⟨fun x => ?_, ow.2⟩) fun b hb => ?_
      · rcases rest k u b h2 h3 hu hb with ⟨hm, _⟩ | ⟨hm, ha⟩
        · rcases x.2 with y | y
          · rw [h4 hm] at y; cases y
          · exact y ⟨k, u, hm, hu, hb⟩
        · rcases G.bound b x.1 with y | y
          · rcases y with y | ⟨i, z, q1, q2, q3⟩
            · exact ow.1 y
            · have hne : k ≠ i := fun e => hm (e ▸ q1)
              obtain ⟨t, xs, hx⟩ := om.frz i q1
              exact R.sep k i b hne h2 (by rw [hx]; simp) (by rw [hu]; exact hb) (by rw [q2]; exact q3)
          · exact y ha
      · rcases rest k u b h2 h3 hu hb with ⟨_, x⟩ | ⟨_, x⟩
        · exact G.mem b x
        · exact R2.pres.mem b x
  · have blkA : ∀ j k u, getH (OT.insts (fun j => j) S.out.hp l2) j ≠ .dead → m.actual S.keep j = k → ι3 k = some u → ι2 j = some u := fun j k u h1 h2 h3 => by
      obtain ⟨u', hu', _⟩ := R2.ob j h1
      have := hι j u' hu'
      rw [h2, h3] at this
      cases this; exact hu'
    cases e3 : ι3 k with
    | none => rw [e3] at hb; cases hb
    | some u =>
      rw [e3] at hb
      change blkOf u = some b at hb
      cases e3' : ι3 k' with
      | none => rw [e3'] at hc; cases hc
      | some u' =>
        rw [e3'] at hc
        change blkOf u' = some b at hc
        rcases cls k hk with ⟨j, h1, h2, h3⟩ | ⟨t, h1, h2⟩ | ⟨h1, h2, h3, h4⟩
        · have q := blkA j k u h3 h1 e3
          have ow : own N2 (aside E ι h H0) b := (R2.blk_lt h3 q hb).1
          rcases cls k' hk' with ⟨j', h1', h2', h3'⟩ | ⟨t', h1', h2'⟩ | ⟨h1', h2', h3', h4'⟩
          · have q' := blkA j' k' u' h3' h1' e3'
            have hne : j ≠ j' := fun x => e (by rw [← h1, ← h1', x])
            exact R2.sep j j' b hne h3 h3' (by rw [q]; exact hb) (by rw [q']; exact hc)
          · rw [e3'] at h2'; cases h2'; simp [blkOf] at hc
          · obtain ⟨z, hz', _⟩ := R.ob k' h2'
            have := loc3 k' z hz'
            rw [e3'] at this; cases this
            exact notBoth k' u' b h2' h3' hz' hc ow
        · rw [e3] at h2; cases h2; simp [blkOf] at hb
        · obtain ⟨z, hz', _⟩ := R.ob k h2
          have := loc3 k z hz'
          rw [e3] at this; cases this
          rcases cls k' hk' with ⟨j', h1', h2', h3'⟩ | ⟨t', h1', h2'⟩ | ⟨h1', h2', h3', h4'⟩
          · have q' := blkA j' k' u' h3' h1' e3'
            exact notBoth k u b h2 h3 hz' hb (R2.blk_lt h3' q' hc).1
          · rw [e3'] at h2'; cases h2'; simp [blkOf] at hc
          · obtain ⟨z', hz2, _⟩ := R.ob k' h2'
            have := loc3 k' z' hz2
            rw [e3'] at this; cases this
            exact R.sep k k' b e h2 h2' (by rw [hz']; exact hb) (by rw [hz2]; exact hc)
  · have q := R2.pres
    exact ⟨q.os.trans R.pres.os, q.tape.trans R.pres.tape, q.output.trans R.pres.output, Nat.le_trans R.pres.size q.size, fun b hb => (q.mem b (.inl hb)).trans (R.pres.mem b hb)⟩
  · obtain ⟨n, c, T, fz, hc, hx⟩ := R.glob g hg
    exact ⟨L.ro g n, c, T, fz, (L.mem g n).trans hc, hx.mono fun a v ⟨x, y⟩ => ⟨VRc.mono L.ro L.mem x, y⟩⟩
  · by_cases h1 : k < nid
    · left; simp only [ι3, h1, if_true]
    · by_cases h2 : k < m.nid
      · by_cases hm : k ∈ keysD m.add
        · exact .inr ⟨by omega, addDl k hm⟩
        · left; simp only [ι3, h1, h2, if_true, if_false, addL, hm]
      · by_cases h3 : k - m.nid + S.keep < S.out.hp.length
        · exact .inr ⟨by omega, inRange k (by omega) h3⟩
        · left; simp only [ι3, h1, h2, h3, if_false]
  · rcases G.bound b hb.1 with x | x
    · rcases x with x | ⟨i, u, h1, h2, h3⟩
      · exact .inl x
      · exact .inr (frzOwn i u b h1 h2 h3).2
    · exact .inr fun y => x (.inl y)

/-! ### the handler -/

structure HndOk (P : Program) (C : Ctx) (H : Hnd) : Prop where
  nat : ∀ {ρ : Type} (f : Nat) (args : List AV) (h : Nat → Ob) (nid : Nat) (K : AV → Delta → Option ρ), H.run f args h nid K = (H.run f args h nid pr).bind (on K)
  sound : ∀ (f : Nat) (args : List AV) (h : Nat → Ob) (nid : Nat) (v : AV) (d : Delta), H.run f args h nid pr = some (v, d) → ∀ (E : Env), E.P = P → E.C = C → ∀ (ι : Nat → Option Value) (N : Nat → Prop) (w : World) (vs : Array Value),
    RepH E ι N h w → VRL ι N w args vs.toList → (∀ k, k ∈ keysD d → nid ≤ k → ι k = none) → OpR P (callFunc f vs) w fun val w' => ∃ ι' N', Post E ι N h w nid v d val w' ι' N'

theorem callS_nat {ρ : Type} (args : List AV) (h : Nat → Ob) (nid : Nat) (K : AV → Delta → Option ρ) : ∀ (l : List Spec), callS args h nid K l = (callS args h nid pr l).bind (on K)
  | [] => rfl
  | S :: l => by
    simp only [callS]
    split
    · cases S.F _ <;> rfl
    · exact callS_nat args h nid K l

theorem callS_sound {P : Program} {C : Ctx} {f : Nat} {args : List AV} {v : AV} {d : Delta} : ∀ (l : List Spec), (∀ S, S ∈ l → SoundS P C f S) → callS args h nid pr l = some (v, d) → ∀ (E : Env), E.P = P → E.C = C → ∀ (ι : Nat → Option Value) (N : Nat → Prop) (w : World) (vs : Array Value),
    RepH E ι N h w → VRL ι N w args vs.toList → (∀ k, k ∈ keysD d → nid ≤ k → ι k = none) → OpR P (callFunc f vs) w fun val w' => ∃ ι' N', Post E ι N h w nid v d val w' ι' N'
  | [], _, H, _, _, _, _, _, _, _, _, _, _ => by simp [callS] at H
  | S :: l, hS, H, E, e1, e2, ι, N, w, vs, R, hv, fr => by
    simp only [callS] at H
    split at H
    · rename_i dd m hen
      cases hF : S.F dd with
      | none => rw [hF] at H; cases H
      | some r =>
        rw [hF] at H
        simp only [Option.bind_some, pr, Option.some.injEq, Prod.mk.injEq] at H
        obtain ⟨rfl, rfl⟩ := H
        subst e1 e2
        exact call_sound R (hS S (by simp)) hv hen hF fr
    · exact callS_sound l (fun S h => hS S (by simp [h])) H E e1 e2 ι N w vs R hv fr

theorem hnd_ok {P : Program} {C : Ctx} {spec : Nat → List Spec} (hS : ∀ f S, S ∈ spec f → SoundS P C f S) : HndOk P C (hnd spec) :=
  ⟨fun f args h nid K => callS_nat args h nid K (spec f), fun f args h nid v d H => callS_sound (spec f) (hS f) H⟩

theorem OpR.of_calls {P : Program} {f : FuncId} {fn : Func} {vs : Array Value} {w : World} {R : Value → World → Prop} (hf : P.funcs[f]? = some fn) (hn : (fn.name == "runtime.NumGoroutine") = false) (hb : fn.body.isNone = false)
    (h : Calls P f vs w fun e w'' => ∃ val, e = .returned val ∧ R val w'') : OpR P (callFunc f vs) w R := by
  refine .inr (.inl ⟨f, vs, ?_, h⟩)
  unfold callFunc
  simp only [Sem.run_bind, run_program, Result.andThen_ok, hf, hn, hb, Bool.false_eq_true, if_false, Sem.run_pure]

theorem newOp_key {C : Ctx} {op : Op} {av : Operand → AV} {v : AV} {d : Delta} (hn : newOp op = true) (H : evOp C op av h nid pr = some (v, d)) : nid ∈ keysD d := by
  have key : ∀ {v' d'}, pr v' d' = some (v, d) → nid ∈ keysD d' → nid ∈ keysD d := fun e hm => by
    simp only [pr, Option.some.injEq, Prod.mk.injEq] at e
    rw [← e.2]; exact hm
  have kc : ∀ {b : Bool} {x : Option (AV × Delta)}, cond b x none = some (v, d) → x = some (v, d) := fun {b x} e => by cases b <;> simp_all
  have kc' : ∀ {b : Bool} {x : Option (AV × Delta)}, cond b none x = some (v, d) → x = some (v, d) := fun {b x} e => by cases b <;> simp_all
  cases op <;> simp only [newOp] at hn <;> try (cases hn; done)
  case alloc t =>
    simp only [evOp] at H
    exact key (kc' H) (by simp [keysD])
  case box t x =>
    simp only [evOp] at H
    split at H
    · exact key H (by simp [keysD])
    · cases H
  case buildSlice t n ps =>
    simp only [evOp] at H
    split at H
    · split at H
      · have H := kc H
        split at H
        · split at H
          · exact key H (by rw [catL_eq, keysD_append]; simp [keysD])
          · cases H
        · cases H
      · cases H
    · cases H
  case makeSlice t l c =>
    simp only [evOp] at H
    split at H
    · split at H
      · have H := (need_some (kc H)).2
        exact key H (by simp [keysD])
      · cases H
    · cases H
  case call c =>
    obtain ⟨cal, args, tys⟩ := c
    cases cal <;> try (cases hn; done)
    rename_i b
    cases b <;> try (cases hn; done)
    simp only [evOp] at H
    split at H
    all_goals first | contradiction | skip
    all_goals
      split at H
      · split at H
        · have H := kc H
          unfold appA at H
          split at H
          · split at H
            · split at H
              · split at H
                · split at H
                  · exact key (need_some H).2 (by simp [keysD])
                  · cases H
                · cases H
              · exact key (need_some H).2 (by simp [keysD])
              · cases H
            · cases H
          · cases H
        · cases H
      · cases H

/-- AN OPERATION OR A CALL. -/
theorem evOper_sound (T : TyOk E.P E.C) {H : Hnd} (hH : HndOk E.P E.C H) (R : RepH E ι N h w) {av : Operand → AV} {ev : Operand → Value} (hv : ∀ x, VR ι N w (av x) (ev x)) {o : Oper} {v : AV} {d : Delta}
    (Ho : evOper E.C H o av h nid pr = some (v, d)) (fresh : ∀ k, k ∈ keysD d → nid ≤ k → ι k = none) : OpR E.P (execOp ev o) w fun val w' => ∃ ι' N', Post E ι N h w nid v d val w' ι' N' := by
  unfold evOper at Ho
  split at Ho
  · rename_i f args tys hop
    split at Ho
    · rename_i f' first cap hf
      have hfv := hv f
      rw [hf] at hfv
      simp only [VR] at hfv
      obtain ⟨fs, cs, hfv, h1, h2⟩ := hfv
      have hargs : VRL ι N w (args.toList.map av) (args.map ev).toList := by
        rw [Array.toList_map]
        generalize args.toList = l
        induction l with
        | nil => simp [VRL]
        | cons x l ih => simp only [List.map_cons, VRL]; exact ⟨hv x, ih⟩
      have := hH.sound f' _ h nid v d Ho E rfl rfl ι N w (fs ++ args.map ev ++ cs) R (by
        simp only [catL_eq, mapL_eq, Array.toList_append, List.append_assoc]
        exact h1.append (hargs.append h2)) fresh
      have hrun : ∀ w, (execOp ev o).run E.P w = (callFunc f' (fs ++ args.map ev ++ cs)).run E.P w := fun w => by
        simp [execOp, hop, resolve, hfv, Deferred.ofValue, invoke, Sem.run_bind, Sem.run_pure]
      unfold OpR at this ⊢
      rw [hrun w]
      exact this
    · cases Ho
  · have hn : newOp o.op = true → ι nid = none := fun e => fresh nid (newOp_key e Ho) (Nat.le_refl _)
    obtain ⟨v', d', e, r⟩ := evOp_sound (K := pr) T R hv hn Ho
    simp only [pr, Option.some.injEq, Prod.mk.injEq] at e
    obtain ⟨rfl, rfl⟩ := e
    exact r.opR R fun hm => fresh nid (by rw [keysD_eq]; exact hm) (Nat.le_refl _)

end
end Ev
