/- Each operation of the evaluator is what the model does: reads, writes, new memory. Conditions: the tables fit the program. -/
import Derived.Test.YtbokmcaoggnjhaaDoorEvOps
set_option linter.unusedVariables false
set_option linter.unusedSimpArgs false
namespace Ev
open Go

theorem El.cells_len : ∀ (t : FT) (x : El t), (El.cells t x).length = lenL t
  | [], _ => rfl
  | [s], x => rfl
  | s :: s' :: r, x => by simp only [El.cells, List.length_cons, El.cells_len (s' :: r) x.2, lenL]

/-- What an operation comes to. -/
def Res (E : Env) (ι : Nat → Option Value) (N : Nat → Prop) (h : Nat → Ob) (w : World) (nid : Nat) (s : Sem Next) (v : AV) (d : Delta) : Prop :=
  ∃ val w' ι' N', (s.run E.P w = .ok (.value val) w' ∨ (s.run E.P w = .ok .skip w' ∧ val = undef)) ∧ VR ι' N' w' v val ∧ Later ι N w ι' N' w' ∧
    RepH E ι' N' (updD h d) w' ∧ (ι' = ι ∨ ((∃ u, ι' = updL ι nid u) ∧ nid ∈ d.map (·.1))) ∧ (∀ b, N' b → N b ∨ (∃ i u, ι i = some u ∧ blkOf u = some b ∧ h i ≠ .dead))

section
variable {E : Env} {ι : Nat → Option Value} {N : Nat → Prop} {h : Nat → Ob} {w : World} {nid : Nat} {s : Sem Next}

theorem Res.pure {v : AV} {val : Value} (R : RepH E ι N h w) (hs : s.run E.P w = .ok (.value val) w) (hv : VR ι N w v val) : Res E ι N h w nid s v [] :=
  ⟨val, w, ι, N, .inl hs, hv, .refl ι N w, R, .inl rfl, fun b hb => .inl hb⟩

/-- Cells of read-only elements as values. -/
theorem part_vr {Q : AV → Value → Prop} {C : Ctx} {cs : List AV} {t o : Nat} {v : AV} {u : Value} (hq : ∀ a x, Q a x → VR ι N w a x ∧ x.oneCell' = true)
    (hx : (((C.ty t).d.isAgg = true ∧ ∃ vs : List Value, u = .agg vs.toArray ∧ v = .agg ((cs.drop o).take (C.ty t).size) ∧ vs.length = ((cs.drop o).take (C.ty t).size).length ∧
          ∀ (j : Nat) a x, ((cs.drop o).take (C.ty t).size)[j]? = some a → vs[j]? = some x → Q a x) ∨
        ((C.ty t).d.isAgg = false ∧ cs[o]? = some v ∧ Q v u))) : VR ι N w v u := by
  rcases hx with ⟨_, vs, rfl, rfl, hl, hj⟩ | ⟨_, _, hu⟩
  · simp only [VR]
    refine ⟨vs.toArray, rfl, VRL.of_get (by simpa using hl.symm) fun i a x h1 h2 => (hq a x (hj i a x h1 (by simpa using h2))).1, fun x hx => ?_⟩
    obtain ⟨i, hi⟩ := List.getElem?_of_mem (by simpa using hx : x ∈ vs)
    have hlt : i < vs.length := by
      rcases Nat.lt_or_ge i vs.length with h | h
      · exact h
      · simp [List.getElem?_eq_none h] at hi
    rw [hl] at hlt
    obtain ⟨a, ha⟩ : ∃ a, ((cs.drop o).take (C.ty t).size)[i]? = some a := ⟨_, List.getElem?_eq_getElem hlt⟩
    exact (hq a x (hj i a x ha hi)).2
  · exact (hq _ _ hu).1

theorem op_load {ρ : Type} {av : Operand → AV} {ev : Operand → Value} {K : AV → Delta → Option ρ} {r : ρ} (T : TyOk E.P E.C) (R : RepH E ι N h w) (hv : ∀ x, VR ι N w (av x) (ev x))
    {t : Nat} {p : Operand} {o : Oper} (ho : o.op = .load t p) (H : evOp E.C (.load t p) av h nid K = some r) : ∃ v d, K v d = some r ∧ Res E ι N h w nid (execOp ev o) v d := by
  simp only [evOp] at H
  cases ht : (E.C.ty t).d.isOther with
  | true => rw [ht] at H; simp at H
  | false =>
    rw [ht] at H; simp only [cond_false] at H
    have hp := hv p
    have ex : ∀ {u : Value}, (Instr.loadAt t (ev p)).run E.P w = .ok u w → (execOp ev o).run E.P w = .ok (.value u) w := fun {u} e => by
      simp [execOp, ho, e]
    split at H
    · rename_i id off hp'
      rw [hp'] at hp; simp only [VR] at hp
      obtain ⟨b, o', hι, hpv⟩ := hp
      split at H
      · rename_i cs hcs
        split at H
        · rename_i v hpart
          obtain ⟨u, hu, hob⟩ := R.ob id (by rw [hcs]; simp)
          rw [hι] at hu; cases hu
          rw [hcs] at hob
          obtain ⟨b', o'', c, T0, e1, hown, hheap, hcells⟩ := hob
          simp at e1; obtain ⟨rfl, rfl⟩ := e1
          obtain ⟨u, hrun, hx⟩ := run_load_cells T hheap hcells hpart ht
          exact ⟨v, [], H, Res.pure R (ex (by rw [hpv]; exact hrun)) (part_vr (fun _ _ x => x) hx)⟩
        · cases H
      · cases H
    · rename_i ft x f hp'
      rw [hp'] at hp; simp only [VR] at hp
      obtain ⟨b, o', hpv, hN, c, T0, fz, hheap, hcells⟩ := hp
      split at H
      · rename_i v hpart
        obtain ⟨u, hrun, hx⟩ := run_load_cells T hheap hcells hpart ht
        exact ⟨v, [], H, Res.pure R (ex (by rw [hpv]; exact hrun)) (part_vr (fun _ _ x => ⟨x.vr, x.one⟩) hx)⟩
      · cases H
    · rename_i id sz j f hp'
      rw [hp'] at hp; simp only [VR] at hp
      obtain ⟨b, o', n, cap, hι, hj, hpv⟩ := hp
      split at H
      · rename_i ft xs hxs
        cases hsz : Nat.beq sz (lenL ft) with
        | false => rw [hsz] at H; simp at H
        | true =>
          rw [hsz] at H; simp only [cond_true] at H
          have hsz' : sz = lenL ft := Nat.eq_of_beq_eq_true hsz
          split at H
          · rename_i v hpart
            obtain ⟨u, hu, hob⟩ := R.ob id (by rw [hxs]; simp)
            rw [hι] at hu; cases hu
            rw [hxs] at hob
            obtain ⟨a, cap', e1, hle, hob⟩ := hob
            simp only [Value.slice.injEq] at e1
            obtain ⟨e1, e2, e3⟩ := e1
            subst e3
            rcases hob with hz | ⟨b', c, T0, e, hown, hheap, hfit, hel⟩
            · omega
            · rw [← e1] at e; simp at e; obtain ⟨rfl, rfl⟩ := e
              have hjl : j < xs.length := by omega
              have hget : xs.getD j (El.dflt ft) = xs[j] := by simp [List.getD_eq_getElem?_getD, hjl]
              rw [hget] at hpart
              obtain ⟨u, hrun, hx⟩ := run_load_cells T hheap (hel j xs[j] (by simp [hjl])) hpart ht
              refine ⟨v, [], H, Res.pure R (ex ?_) (part_vr (fun _ _ x => ⟨x.vr, x.one⟩) hx)⟩
              rw [hpv, hsz']; simpa using hrun
          · cases H
      · cases H
    · rename_i g off hp'
      rw [hp'] at hp; simp only [VR] at hp
      split at H
      · rename_i v hpart
        have hne : E.C.glob g ≠ [] := by
          intro e
          rw [e] at hpart
          obtain ⟨i, z, _, ⟨hi, hi0⟩, _⟩ := T.inf t ht
          unfold partA at hpart
          have : Nat.ble (off + (E.C.ty t).size) (lenL ([] : List AV)) = false := by
            cases hh : Nat.ble (off + (E.C.ty t).size) (lenL ([] : List AV)) with
            | false => rfl
            | true => have := Nat.le_of_ble_eq_true hh; simp [lenL] at this; omega
          rw [this] at hpart; simp at hpart
        obtain ⟨hN, c, T0, fz, hheap, hcells⟩ := R.glob g hne
        obtain ⟨u, hrun, hx⟩ := run_load_cells T hheap hcells hpart ht
        refine ⟨v, [], H, Res.pure R (ex ?_) (part_vr (fun _ _ x => ⟨x.1.vr, x.2⟩) hx)⟩
        rw [hp]; simpa using hrun
      · cases H
    · cases H

/-! ### own arrays that become read-only -/

/-- What an own array holds is there to be read. -/
theorem RepH.reads (R : RepH E ι N h w) {id : Nat} {t : FT} {xs : List (El t)} (hx : h id = .arr t xs) {v : Value} (hv : ι id = some v) {N' : Nat → Prop} (hN : ∀ b, N b → N' b)
    (hb : ∀ b, blkOf v = some b → N' b) : RoG (VRc N' w) N' w t xs v := by
  obtain ⟨u, hu, hob⟩ := R.ob id (by rw [hx]; simp)
  rw [hv] at hu; cases hu
  rw [hx] at hob
  obtain ⟨a, cap, rfl, hle, hob⟩ := hob
  refine ⟨a, cap, rfl, ?_⟩
  rcases hob with rfl | ⟨b, c, T0, rfl, hown, hheap, hfit, hel⟩
  · exact .inl (List.eq_nil_of_length_eq_zero (by omega))
  · by_cases hc : cap = 0
    · exact .inl (List.eq_nil_of_length_eq_zero (by omega))
    · exact .inr ⟨b, 0, ⟨rfl, hle⟩, hb b (by simp [blkOf, hc]), c, T0, _, hheap, fun j x hj => by
        rw [Nat.zero_add]; exact (hel j x hj).mono fun _ _ => VRc.mono hN fun _ _ => rfl⟩

/-- What has been frozen so far. -/
structure Frz (E : Env) (ι : Nat → Option Value) (h : Nat → Ob) (w : World) (N1 : Nat → Prop) (h1 : Nat → Ob) : Prop where
  rep : RepH E ι N1 h1 w
  old : ∀ i, h1 i ≠ .dead → h1 i = h i
  ro : ∀ i t xs v, h i = .arr t xs → h1 i = .dead → ι i = some v → RoG (VRc N1 w) N1 w t xs v

theorem Frz.step {N1 : Nat → Prop} {h1 : Nat → Ob} (F : Frz E ι h w N1 h1) {id : Nat} {t : FT} {xs : List (El t)} (hx : h id = .arr t xs) {v : Value} (hv : ι id = some v) :
    ∃ N2, Frz E ι h w N2 (upd h1 id .dead) ∧ Later ι N1 w ι N2 w ∧ RoG (VRc N2 w) N2 w t xs v ∧ ∀ b, N2 b → N1 b ∨ (blkOf v = some b ∧ h id ≠ .dead) := by
  by_cases hd : h1 id = .dead
  · refine ⟨N1, ⟨F.rep.kill id, fun i hi => ?_, fun i t' ys u e1 e2 e3 => ?_⟩, .refl _ _ _, F.ro id t xs v hx hd hv, fun b hb => .inl hb⟩
    · by_cases e : i = id
      · subst e; simp [upd] at hi
      · rw [upd_other _ _ e] at hi ⊢; exact F.old i hi
    · by_cases e : i = id
      · subst e; exact F.ro i t' ys u e1 hd e3
      · rw [upd_other _ _ e] at e2; exact F.ro i t' ys u e1 e2 e3
  · have h1x : h1 id = .arr t xs := (F.old id hd).trans hx
    cases hb : blkOf v with
    | none =>
      have hro : RoG (VRc N1 w) N1 w t xs v := F.rep.reads h1x hv (fun _ h => h) (by simp [hb])
      refine ⟨N1, ⟨F.rep.kill id, fun i hi => ?_, fun i t' ys u e1 e2 e3 => ?_⟩, .refl _ _ _, hro, fun b hb => .inl hb⟩
      · by_cases e : i = id
        · subst e; simp [upd] at hi
        · rw [upd_other _ _ e] at hi ⊢; exact F.old i hi
      · by_cases e : i = id
        · subst e; rw [hx] at e1; cases e1; rw [hv] at e3; cases e3; exact hro
        · rw [upd_other _ _ e] at e2; exact F.ro i t' ys u e1 e2 e3
    | some b =>
      obtain ⟨R2, L⟩ := F.rep.freeze hv hb (by rw [h1x]; simp)
      have hro : RoG (VRc (fun k => N1 k ∨ k = b) w) (fun k => N1 k ∨ k = b) w t xs v := F.rep.reads h1x hv (fun _ h => .inl h) (by simp [hb])
      refine ⟨_, ⟨R2, fun i hi => ?_, fun i t' ys u e1 e2 e3 => ?_⟩, L, hro, fun k hk => hk.imp (fun x => x) fun e => ⟨by rw [e], by rw [hx]; simp⟩⟩
      · by_cases e : i = id
        · subst e; simp [upd] at hi
        · rw [upd_other _ _ e] at hi ⊢; exact F.old i hi
      · by_cases e : i = id
        · subst e; rw [hx] at e1; cases e1; rw [hv] at e3; cases e3; exact hro
        · rw [upd_other _ _ e] at e2
          exact (F.ro i t' ys u e1 e2 e3).mono (fun _ _ => VRc.mono L.ro L.mem) L.ro L.mem

theorem updD_append (h : Nat → Ob) (a b : Delta) : updD h (a ++ b) = updD (updD h a) b := by
  induction a generalizing h with
  | nil => rfl
  | cons x a ih => obtain ⟨i, o⟩ := x; exact ih _

theorem thaw_sound : ∀ (as : List AV) (vs : List Value) {N1 : Nat → Prop} {h1 : Nat → Ob}, Frz E ι h w N1 h1 → Later ι N w ι N1 w → VRL ι N w as vs →
    ∃ N2, Frz E ι h w N2 (updD h1 (thaw h as).2) ∧ Later ι N1 w ι N2 w ∧ VRL ι N2 w (thaw h as).1 vs ∧ (∀ b, N2 b → N1 b ∨ ∃ i u, ι i = some u ∧ blkOf u = some b ∧ h i ≠ .dead) ∧
      (∀ x ∈ (thaw h as).2, x.2 = .dead ∧ ι x.1 ≠ none)
  | [], [], N1, h1, F, L, _ => ⟨N1, F, .refl _ _ _, by simp [thaw, VRL], fun b hb => .inl hb, by simp [thaw]⟩
  | [], _ :: _, _, _, _, _, hv => by simp [VRL] at hv
  | _ :: _, [], _, _, _, _, hv => by simp [VRL] at hv
  | a :: as, v :: vs, N1, h1, F, L, hv => by
    simp only [VRL] at hv
    obtain ⟨hv1, hv2⟩ := hv
    have plain : (thaw h (a :: as)).2 = (thaw h as).2 → (thaw h (a :: as)).1 = a :: (thaw h as).1 →
        ∃ N2, Frz E ι h w N2 (updD h1 (thaw h (a :: as)).2) ∧ Later ι N1 w ι N2 w ∧ VRL ι N2 w (thaw h (a :: as)).1 (v :: vs) ∧ (∀ b, N2 b → N1 b ∨ ∃ i u, ι i = some u ∧ blkOf u = some b ∧ h i ≠ .dead) ∧
          (∀ x ∈ (thaw h (a :: as)).2, x.2 = .dead ∧ ι x.1 ≠ none) := by
      intro e1 e2
      obtain ⟨N2, F2, L2, h2, h3, h4⟩ := thaw_sound as vs F L hv2
      rw [e1, e2]
      exact ⟨N2, F2, L2, by simp only [VRL]; exact ⟨VR.mono (L.trans L2) a v hv1, h2⟩, h3, h4⟩
    cases a with
    | full id =>
      simp only [thaw]
      have hι := hv1
      simp only [VR] at hι
      cases hx : h id with
      | arr t xs =>
        simp only [hx]
        obtain ⟨N2, F2, L2, hro, hn⟩ := F.step hx hι.1
        obtain ⟨N3, F3, L3, h2, h3, h4⟩ := thaw_sound as vs F2 (L.trans L2) hv2
        refine ⟨N3, F3, L2.trans L3, ?_, fun b hb => ?_, ?_⟩
        · simp only [VRL, VR]
          exact ⟨hro.mono (fun _ _ => VRc.mono L3.ro L3.mem) L3.ro L3.mem, h2⟩
        · rcases h3 b hb with h | h
          · rcases hn b h with h | h
            · exact .inl h
            · exact .inr ⟨id, v, hι.1, h⟩
          · exact .inr h
        · intro x hx
          simp only [List.mem_cons] at hx
          rcases hx with rfl | hx
          · exact ⟨rfl, by rw [hι.1]; simp⟩
          · exact h4 x hx
      | dead => simp only [hx]; obtain ⟨N2, F2, L2, h2, h3, h4⟩ := thaw_sound as vs F L hv2; exact ⟨N2, F2, L2, by simp only [VRL, VR]; exact ⟨trivial, h2⟩, h3, h4⟩
      | box cs => simp only [hx]; obtain ⟨N2, F2, L2, h2, h3, h4⟩ := thaw_sound as vs F L hv2; exact ⟨N2, F2, L2, by simp only [VRL, VR]; exact ⟨trivial, h2⟩, h3, h4⟩
      | map k v es => simp only [hx]; obtain ⟨N2, F2, L2, h2, h3, h4⟩ := thaw_sound as vs F L hv2; exact ⟨N2, F2, L2, by simp only [VRL, VR]; exact ⟨trivial, h2⟩, h3, h4⟩
    | _ => exact plain rfl rfl

theorem Frz.start (R : RepH E ι N h w) : Frz E ι h w N h := ⟨R, fun _ _ => rfl, fun i t xs v e1 e2 => by rw [e1] at e2; cases e2⟩

/-! ### elements out of cells -/

theorem RoG.ints {N : Nat → Prop} {w : World} {k : IntKind} {xs : List Int} {v : Value} (h : RoG (VRc N w) N w [.int k] xs v) : RoG VRs N w [.int k] xs v := by
  obtain ⟨a, cap, rfl, h⟩ := h
  refine ⟨a, cap, rfl, h.imp (fun x => x) ?_⟩
  rintro ⟨b, o, ⟨rfl, hcp⟩, hb, c, T, fz, hc, hx⟩
  refine ⟨b, o, ⟨rfl, hcp⟩, hb, c, T, fz, hc, fun j x hj f a ha => ?_⟩
  obtain ⟨v, h1, h2⟩ := hx j x hj f a ha
  refine ⟨v, h1, ?_⟩
  cases f with
  | zero => simp [El.cells, Sc.av] at ha; subst ha; exact h2
  | succ f => simp [El.cells] at ha

theorem Sc.of_vr {s : Sc} {a : AV} {x : s.T} {v : Value} (h : Sc.of s a = some x) (hv : VR ι N w a v) : VRc N w (s.av x) v := by
  unfold Sc.of at h
  split at h
  · rename_i k k' n
    split at h
    · rename_i e; subst e; cases h; simpa [Sc.av, VRc, VRs, VR] using hv
    · cases h
  · cases h; simpa [Sc.av, VRc, VRs, VR] using hv
  · cases h; simpa [Sc.av, VRc, VRs, VR] using hv
  · rename_i k k' xs
    split at h
    · rename_i e; subst e; cases h
      simp only [VR] at hv
      simp only [Sc.av, VRc]
      exact hv.ints
    · cases h
  · cases h
    simp only [VR] at hv; subst hv
    exact ⟨none, 0, rfl, .inl rfl⟩
  · cases h

theorem El.of_vr : ∀ {t : FT} {as : List AV} {y : El t} {vs : List Value}, El.of t as = some y → VRL ι N w as vs → ∀ (f : Nat) a v, (El.cells t y)[f]? = some a → vs[f]? = some v → VRc N w a v
  | [], [], _, _, _, _, _, _, _, h, _ => by simp [El.cells] at h
  | [], _ :: _, _, _, h, _, _, _, _, _, _ => by simp [El.of] at h
  | [s], [a], y, [v], h, hv, f, b, u, h1, h2 => by
    simp only [El.of] at h
    simp only [VRL] at hv
    cases f with
    | zero => simp [El.cells] at h1 h2; subst h1 h2; exact Sc.of_vr h hv.1
    | succ f => simp [El.cells] at h1
  | [s], [a], y, [], h, hv, f, b, u, h1, h2 => by simp at h2
  | [s], [a], y, v :: v' :: vs, h, hv, f, b, u, h1, h2 => by simp [VRL] at hv
  | [s], [], _, _, h, _, _, _, _, _, _ => by simp [El.of] at h
  | [s], _ :: _ :: _, _, _, h, _, _, _, _, _, _ => by simp [El.of] at h
  | s :: s' :: r, [], _, _, h, _, _, _, _, _, _ => by simp [El.of] at h
  | s :: s' :: r, a :: as, y, [], h, hv, f, b, u, h1, h2 => by simp at h2
  | s :: s' :: r, a :: as, y, v :: vs, h, hv, f, b, u, h1, h2 => by
    simp only [El.of] at h
    split at h
    · rename_i x z hx hz
      cases h
      simp only [VRL] at hv
      cases f with
      | zero => simp [El.cells] at h1 h2; subst h1 h2; exact Sc.of_vr hx hv.1
      | succ f => exact El.of_vr (t := s' :: r) hz hv.2 f b u (by simpa [El.cells] using h1) (by simpa using h2)
    · cases h

theorem El.of_len : ∀ {t : FT} {as : List AV} {y : El t}, El.of t as = some y → as.length = lenL t
  | [], [], _, _ => rfl
  | [], _ :: _, _, h => by simp [El.of] at h
  | [s], [a], _, _ => rfl
  | [s], [], _, h => by simp [El.of] at h
  | [s], _ :: _ :: _, _, h => by simp [El.of] at h
  | s :: s' :: r, [], _, h => by simp [El.of] at h
  | s :: s' :: r, a :: as, y, h => by
    simp only [El.of] at h
    split at h
    · rename_i x z hx hz
      have := El.of_len (t := s' :: r) hz
      simp only [List.length_cons, this, lenL]
    · cases h

/-! ### stores -/

theorem thaw_len : ∀ (as : List AV), (thaw h as).1.length = as.length
  | [] => rfl
  | a :: as => by
    have ih := thaw_len as
    cases a <;> simp [thaw, ih]
    split <;> simp [ih]

theorem noKey_not {d : Delta} {i : Nat} (h : noKey d i = true) : ∀ x ∈ d, x.1 ≠ i := by
  induction d with
  | nil => simp
  | cons y d ih =>
    obtain ⟨j, o⟩ := y
    simp only [noKey] at h
    cases hj : Nat.beq j i with
    | true => rw [hj] at h; simp at h
    | false =>
      rw [hj] at h
      intro x hx
      simp only [List.mem_cons] at hx
      rcases hx with rfl | hx
      · intro e; simp at e; subst e; simp at hj
      · exact ih h x hx

theorem updD_other : ∀ (d : Delta) (h : Nat → Ob) (i : Nat), (∀ x ∈ d, x.1 ≠ i) → updD h d i = h i
  | [], _, _, _ => rfl
  | (j, o) :: d, h, i, hd => by
    rw [updD, updD_other d _ i fun x hx => hd x (List.mem_cons_of_mem _ hx), upd_other]
    exact fun e => hd (j, o) (List.mem_cons_self ..) e.symm

theorem updD_comm : ∀ (d : Delta) (h : Nat → Ob) (i : Nat) (o : Ob), (∀ x ∈ d, x.1 ≠ i) → updD (upd h i o) d = upd (updD h d) i o
  | [], _, _, _, _ => rfl
  | (j, u) :: d, h, i, o, hd => by
    have hji : j ≠ i := hd (j, u) (List.mem_cons_self ..)
    have : upd (upd h i o) j u = upd (upd h j u) i o := by funext k; simp only [upd]; split <;> split <;> simp_all
    rw [updD, this, updD_comm d _ i o fun x hx => hd x (List.mem_cons_of_mem _ hx)]; rfl

theorem CellsR.of {ι : Nat → Option Value} {N : Nat → Prop} {w : World} {t : FT} {as : List AV} {y : El t} {c : Array Value} {p : Nat} (h : CellsR (VR ι N w) c p as) (hy : El.of t as = some y) :
    CellsR (VRc N w) c p (El.cells t y) := by
  obtain ⟨vs, hl, hc, hq⟩ := cellsR_list h
  have hvr : VRL ι N w as vs := VRL.of_get hl.symm hq
  intro f a ha
  have hf : f < vs.length := by
    have h1 : f < (El.cells t y).length := (List.getElem?_eq_some_iff.1 ha).1
    rw [El.cells_len, ← El.of_len hy, ← hl] at h1; exact h1
  exact ⟨vs[f], hc f _ (by simp [hf]), El.of_vr hy hvr f a vs[f] ha (by simp [hf])⟩

theorem op_store {ρ : Type} {av : Operand → AV} {ev : Operand → Value} {K : AV → Delta → Option ρ} {r : ρ} (T : TyOk E.P E.C) (R : RepH E ι N h w) (hv : ∀ x, VR ι N w (av x) (ev x))
    {t : Nat} {p x : Operand} {o : Oper} (ho : o.op = .store t p x) (H : evOp E.C (.store t p x) av h nid K = some r) : ∃ v d, K v d = some r ∧ Res E ι N h w nid (execOp ev o) v d := by
  simp only [evOp] at H
  cases ht : (E.C.ty t).d.isOther with
  | true => rw [ht] at H; simp at H
  | false =>
    rw [ht] at H; simp only [cond_false] at H
    have hp := hv p
    have ex : ∀ {w' : World}, (Instr.storeAt t (ev p) (ev x)).run E.P w = .ok () w' → (execOp ev o).run E.P w = .ok .skip w' := fun {w'} e => by
      simp [execOp, ho, e]
    split at H
    · rename_i vs hvs
      obtain ⟨hx, h1⟩ := cellsA_vr (hv x) hvs
      rw [lenL_eq] at H
      have hl := hx.len
      cases hsz : Nat.beq vs.length (E.C.ty t).size with
      | false => rw [hsz] at H; simp at H
      | true =>
        rw [hsz] at H; simp only [cond_true] at H
        have hsz' : vs.length = (E.C.ty t).size := Nat.eq_of_beq_eq_true hsz
        have hl' : (ev x).cells.toList.length = (E.C.ty t).size := by rw [← hl, hsz']
        split at H
        · rename_i id off hp'
          rw [hp'] at hp; simp only [VR] at hp
          obtain ⟨b, o', hι, hpv⟩ := hp
          split at H
          · rename_i cs hcs
            rw [lenL_eq] at H
            cases hfit : Nat.ble (off + vs.length) cs.length with
            | false => rw [hfit] at H; simp at H
            | true =>
              rw [hfit] at H; simp only [cond_true] at H
              have hfit' := Nat.le_of_ble_eq_true hfit
              obtain ⟨u, hu, hob⟩ := R.ob id (by rw [hcs]; simp)
              rw [hι] at hu; cases hu
              rw [hcs] at hob
              obtain ⟨b', o'', c, T0, e1, hown, hheap, hcells⟩ := hob
              simp at e1; obtain ⟨rfl, rfl⟩ := e1
              -- the row has room
              have hroom : o' + off + (ev x).cells.toList.length ≤ c.size := by
                rcases Nat.eq_zero_or_pos vs.length with h0 | h0
                · have : (E.C.ty t).size = 0 := by omega
                  obtain ⟨i, z, _, ⟨h2, h3⟩, _⟩ := T.inf t ht; omega
                · obtain ⟨v, hv1, _⟩ := hcells (off + vs.length - 1) cs[off + vs.length - 1] (by rw [List.getElem?_eq_getElem])
                  have := (Array.getElem?_eq_some_iff.1 hv1).1
                  omega
              have hrun := run_store_cells T hheap (t := t) (v := ev x) (p := o' + off) ht hl' h1 hroom
              refine ⟨_, _, H, undef, _, ι, N, .inr ⟨ex (by rw [hpv]; exact hrun), rfl⟩, by simp only [VR]; exact ⟨#[], rfl, by simp [VRL]⟩, ?_⟩
              obtain ⟨R', L⟩ := R.write (i := id) (b := b) hι rfl (by rw [hcs]; simp) (.box (putCells cs off vs))
                (w.setRow b (c.toList.take (o' + off) ++ (ev x).cells.toList ++ c.toList.drop (o' + off + (ev x).cells.toList.length)).toArray)
                (fun k hk => setRow_other w b k _ hk) (by simp) rfl rfl rfl (fun ow L => ⟨b, o', _, T0, rfl, ow, setRow_heap w b c _ T0 _ hheap,
                  CellsR.put hcells (fun a v ⟨x, y⟩ => ⟨VR.mono L a v x, y⟩) hl hfit' hroom fun j a v ha hv => by
                    obtain ⟨v', hv1, hv2⟩ := hx.get j a ha
                    rw [hv] at hv1; cases hv1
                    exact ⟨VR.mono L a v hv2, h1 v (List.mem_of_getElem? hv)⟩⟩)
              exact ⟨L, R', .inl rfl, fun b hb => .inl hb⟩
          · cases H
        · rename_i id sz j f hp'
          rw [hp'] at hp; simp only [VR] at hp
          obtain ⟨b, o', n, cap, hι, hj, hpv⟩ := hp
          split at H
          · rename_i ft xs hxs
            cases hcnd : (Nat.beq sz (lenL ft) && Nat.ble (f + vs.length) (lenL ft)) with
            | false => rw [hcnd] at H; simp at H
            | true =>
              rw [hcnd] at H; simp only [cond_true] at H
              simp only [Bool.and_eq_true] at hcnd
              have hszf : sz = lenL ft := Nat.eq_of_beq_eq_true hcnd.1
              have hfit : f + vs.length ≤ lenL ft := Nat.le_of_ble_eq_true hcnd.2
              obtain ⟨N2, F2, L2, hth, hn2, hdead⟩ := thaw_sound vs _ (Frz.start R) (.refl ι N w) hx
              have htl := thaw_len (h := h) vs
              generalize hth' : thaw h vs = tv at *
              obtain ⟨vs', d⟩ := tv
              simp only at H hth hn2 hdead htl F2 L2
              split at H
              · rename_i y hy
                cases hnk : noKey d id with
                | false => rw [hnk] at H; simp at H
                | true =>
                  rw [hnk] at H; simp only [cond_true] at H
                  have hnk' := noKey_not hnk
                  obtain ⟨u, hu, hob⟩ := R.ob id (by rw [hxs]; simp)
                  rw [hι] at hu; cases hu
                  rw [hxs] at hob
                  obtain ⟨a, cap', e1, hle, hob⟩ := hob
                  simp only [Value.slice.injEq] at e1
                  obtain ⟨e1, e2, e3⟩ := e1
                  subst e3
                  rcases hob with hz | ⟨b', c, T0, e, hown, hheap, hfitc, hel⟩
                  · omega
                  · rw [← e1] at e; simp at e; obtain ⟨rfl, rfl⟩ := e
                    have hjl : j < xs.length := by omega
                    have hget : xs.getD j (El.dflt ft) = xs[j] := by simp [List.getD_eq_getElem?_getD, hjl]
                    rw [hget] at hy
                    have hcap0 : cap ≠ 0 := by omega
                    have hrow : (j + 1) * lenL ft ≤ cap * lenL ft := Nat.mul_le_mul_right _ (by omega)
                    have hroom : j * lenL ft + f + (ev x).cells.toList.length ≤ c.size := by
                      rw [← hl]; rw [Nat.add_mul] at hrow; omega
                    have hrun := run_store_cells T hheap (t := t) (v := ev x) (p := j * lenL ft + f) ht hl' h1 hroom
                    have hlive : updD h d id = h id := updD_other d h id hnk'
                    obtain ⟨R', L⟩ := F2.rep.write (i := id) (b := b) hι (by simp [blkOf, hcap0]) (by rw [hlive, hxs]; simp) (.arr ft (xs.set j y))
                      (w.setRow b (c.toList.take (j * lenL ft + f) ++ (ev x).cells.toList ++ c.toList.drop (j * lenL ft + f + (ev x).cells.toList.length)).toArray)
                      (fun k hk => setRow_other w b k _ hk) (by simp) rfl rfl rfl (fun ow L => by
                        refine ⟨_, cap, by rw [List.length_set]; exact congrArg (fun q => Value.slice _ q cap) e2, by rw [List.length_set]; exact hle, .inr ⟨b, _, T0, rfl, ow, setRow_heap w b c _ T0 _ hheap, ?_, fun j' x' hx' => ?_⟩⟩
                        · simp only [List.size_toArray, List.length_append, List.length_take, List.length_drop, Array.length_toList]; omega
                        · have hold : ∀ (j' : Nat) (x' : El ft), xs[j']? = some x' → CellsR (VRc N2 w) c (j' * lenL ft) (El.cells ft x') := fun j' x' e => (hel j' x' e).mono fun _ _ => VRc.mono L2.ro L2.mem
                          by_cases hjj : j' = j
                          · subst hjj
                            rw [List.getElem?_set_self (by omega)] at hx'
                            cases hx'
                            have hput : CellsR (VR ι N2 w) (c.toList.take (j' * lenL ft + f) ++ (ev x).cells.toList ++ c.toList.drop (j' * lenL ft + f + (ev x).cells.toList.length)).toArray (j' * lenL ft) (putCells (El.cells ft xs[j']) f vs') :=
                              CellsR.put (hold j' xs[j'] (by simp [hjl])) (fun a v h => h.vr) (by rw [htl]; exact hl) (by rw [htl, El.cells_len]; exact hfit) hroom (fun q a v ha hv => by
                                obtain ⟨v', hv1, hv2⟩ := hth.get q a ha
                                rw [hv] at hv1; cases hv1
                                exact hv2)
                            exact (hput.of hy).mono fun _ _ => VRc.mono L.ro L.mem
                          · rw [List.getElem?_set_ne (Ne.symm hjj)] at hx'
                            intro q a ha
                            obtain ⟨v, hv1, hv2⟩ := hold j' x' hx' q a ha
                            refine ⟨v, ?_, VRc.mono L.ro L.mem hv2⟩
                            have hq : q < lenL ft := by rw [← El.cells_len ft x']; exact (List.getElem?_eq_some_iff.1 ha).1
                            rw [seg_get c _ _ hroom, if_neg]
                            · exact hv1
                            · rw [← hl]
                              rcases Nat.lt_or_gt_of_ne hjj with hlt | hgt
                              · have := Nat.mul_le_mul_right (lenL ft) (show j' + 1 ≤ j by omega); rw [Nat.add_mul] at this; omega
                              · have := Nat.mul_le_mul_right (lenL ft) (show j + 1 ≤ j' by omega); rw [Nat.add_mul] at this; omega)
                    refine ⟨_, _, H, undef, w.setRow b (c.toList.take (j * lenL ft + f) ++ (ev x).cells.toList ++ c.toList.drop (j * lenL ft + f + (ev x).cells.toList.length)).toArray, ι, N2,
                      .inr ⟨ex (by rw [hpv, hszf]; simpa using hrun), rfl⟩, by simp only [VR]; exact ⟨#[], rfl, by simp [VRL]⟩, L2.trans L, ?_, .inl rfl, fun b hb => (hn2 b hb)⟩
                    rw [updD, updD_comm d h id _ hnk']
                    exact R'
              · cases H
          · cases H
        · cases H
    · cases H

end
end Ev
