/- Each operation of the evaluator is what the model does: the rest. Conditions: the tables fit the program. -/
import Derived.Test.YtbokmcaoggnjhaaDoorEvOps6
set_option linter.unusedVariables false
set_option linter.unusedSimpArgs false
namespace Ev
open Go

section
variable {E : Env} {ι : Nat → Option Value} {N : Nat → Prop} {h : Nat → Ob} {w : World} {nid : Nat} {s : Sem Next} {ρ : Type}
  {av : Operand → AV} {ev : Operand → Value} {K : AV → Delta → Option ρ} {r : ρ}

theorem fits_le {n : Nat} (h : fits n = true) : n ≤ LIM := Nat.le_of_ble_eq_true h

theorem app_res (T : TyOk E.P E.C) (R : RepH E ι N h w) (hi : ι nid = none) {t1 t2 e : Nat} (h1 : (E.C.ty t1).d = .slice e) (h2 : slcOrStr (E.C.ty t2).d = true) {s x : AV} {vs vx : Value} (hvs : VR ι N w s vs) (hvx : VR ι N w x vx)
    (H : appA h nid (E.C.ty e).ft s x K = some r) : ∃ v d, K v d = some r ∧ ∃ val w' ι', (∀ ty, (Builtin.append_ #[t1, t2] ty #[vs, vx]).run E.P w = .ok val w') ∧ VR ι' N w' v val ∧ Later ι N w ι' N w' ∧ RepH E ι' N (updD h d) w' ∧
      (∃ u, ι' = updL ι nid u) ∧ nid ∈ d.map (·.1) := by
  have u1 := T.und t1
  rw [h1] at u1; simp only [TDR] at u1
  obtain ⟨d2, u2, hd2⟩ : ∃ d2, E.P.underlying t2 = some d2 ∧ ((∃ e2, d2 = .slice e2) ∨ d2 = .string) := by
    have u2 := T.und t2
    generalize (E.C.ty t2).d = q at *
    cases q <;> simp [slcOrStr] at h2
    · exact ⟨_, u2, .inr rfl⟩
    · exact ⟨_, u2, .inl ⟨_, rfl⟩⟩
  unfold appA at H
  split at H
  · rename_i t hft
    split at H
    · rename_i ys hys
      have hx := srcOf_src (P := E.P) R hys hvx
      split at H
      · rename_i id
        split at H
        · rename_i t' xs hxs
          split at H
          · rename_i e'; subst e'
            obtain ⟨hf, H⟩ := need_some H
            simp only [VR] at hvs
            obtain ⟨u, hu, hob⟩ := R.ob id (by rw [hxs]; simp)
            rw [hvs.1] at hu; cases hu
            have hro : roOf h t' (.full id) = some (xs, [id]) := by simp [roOf, hxs]
            have hsrc := roOf_src (P := E.P) R hro (v := vs) (by simpa only [VR] using hvs)
            have hob' := hob
            rw [hxs] at hob'
            obtain ⟨a, cap, rfl, hle, hob'⟩ := hob'
            obtain ⟨val, w', _, hrun, _, _, hform, L, R'⟩ := app_sound (h' := upd h id .dead) T R hi u1 u2 hd2 hft hsrc hx (fits_le hf) hle (by
              by_cases hc : cap = 0
              · exact .inl ⟨hc, R.kill id⟩
              · rcases hob' with h0 | ⟨b, c, T0, rfl, hown, hheap, hfit, hel⟩
                · exact absurd h0 hc
                · exact .inr ⟨id, b, c, T0, rfl, hvs.1, hxs, rfl, hc, hown, hheap, hfit, hel⟩)
            exact ⟨_, _, H, val, w', _, hrun, by simp only [VR]; exact ⟨by simp [updL], hform⟩, L, R', ⟨_, rfl⟩, by simp⟩
          · cases H
        · cases H
      · obtain ⟨hf, H⟩ := need_some H
        simp only [VR] at hvs; subst hvs
        obtain ⟨val, w', _, hrun, _, _, hform, L, R'⟩ := app_sound (h' := h) (xs := []) T R hi u1 u2 hd2 hft (base := none) (cap := 0) Src.nil hx (by simpa using fits_le hf) (by simp) (.inl ⟨rfl, R⟩)
        exact ⟨_, _, H, val, w', _, hrun, by simp only [VR]; exact ⟨by simp [updL], hform⟩, L, R', ⟨_, rfl⟩, by simp⟩
      · cases H
    · cases H
  · cases H

theorem op_makeSlice (T : TyOk E.P E.C) (R : RepH E ι N h w) (hv : ∀ x, VR ι N w (av x) (ev x)) (hi : ι nid = none)
    {t : Nat} {l c : Operand} {o : Oper} (ho : o.op = .makeSlice t l c) (H : evOp E.C (.makeSlice t l c) av h nid K = some r) : ∃ v d, K v d = some r ∧ Res E ι N h w nid (execOp ev o) v d := by
  simp only [evOp] at H
  split at H
  · rename_i e k n ht hl
    have hu := T.und t
    rw [ht] at hu; simp only [TDR] at hu
    split at H
    · rename_i ft hft
      obtain ⟨hoth, hsz, hpos, hdf⟩ := T.ft e ft hft
      obtain ⟨i, z, hin, ⟨hisz, _⟩, hby, hz, hz1, hz2, hzs, _⟩ := T.inf e hoth
      have his : i.size = lenL ft := hisz.trans hsz.symm
      cases hsame : sameOpd l c with
      | false => rw [hsame] at H; simp at H
      | true =>
        rw [hsame] at H; simp only [cond_true] at H
        have hlc : c = l := by
          cases l <;> cases c <;> simp [sameOpd] at hsame
          rw [hsame]
        subst hlc
        obtain ⟨hb, H⟩ := need_some H
        simp only [Bool.and_eq_true, decide_eq_true_eq] at hb
        have hn := fits_le hb.2
        have hLIM : LIM = 1099511627776 := rfl
        have hvl := hv c
        rw [hl] at hvl; simp only [VR] at hvl
        have hn0 := hb.1
        have hrun := run_make (P := E.P) w t e i z hu hin hz k k n n hn0 (Int.le_refl _) (by
          have h1 : n ≤ 1099511627776 := by omega
          have : (i.bytes : Int) * n ≤ 128 * 1099511627776 := Int.mul_le_mul (by omega) h1 hn0 (by omega)
          omega) (by omega)
        have hex : (execOp ev o).run E.P w = .ok (.value (.slice (some ⟨w.heap.size, 0, none⟩) n.toNat n.toNat)) (w.alloc (.cells (madeCells z.cells (n.toNat * i.size)) e)) := by
          simp [execOp, ho, hvl, hrun]
        obtain ⟨R', L⟩ := R.newCells hi (madeCells z.cells (n.toNat * i.size)) e (.slice (some ⟨w.heap.size, 0, none⟩) n.toNat n.toNat) (.arr ft (List.replicate n.toNat (El.dflt ft)))
          (fun b hb => by simp [blkOf] at hb; exact hb.2.symm) (fun ow hh L => by
            refine ⟨_, n.toNat, by rw [List.length_replicate], by simp, ?_⟩
            by_cases h0 : n.toNat = 0
            · exact .inl h0
            · refine .inr ⟨w.heap.size, _, e, rfl, ow, hh, by rw [size_madeCells, his]; exact Nat.le_refl _, fun j x hj f a ha => ?_⟩
              have hjn : j < n.toNat := by have := (List.getElem?_eq_some_iff.1 hj).1; simpa using this
              have hxd : x = El.dflt ft := by rw [List.getElem?_replicate, if_pos hjn] at hj; cases hj; rfl
              subst hxd
              have hf : f < lenL ft := by rw [← El.cells_len ft (El.dflt ft)]; exact (List.getElem?_eq_some_iff.1 ha).1
              obtain ⟨v, e1, e2⟩ := hdf i z hin hz f a ha
              refine ⟨v, ?_, VRc.mono (fun _ h => h.elim) (fun _ h => h.elim) e2⟩
              have hmul := Nat.mul_le_mul_right (lenL ft) (show j + 1 ≤ n.toNat by omega)
              rw [Nat.add_mul] at hmul
              have hlt : j * lenL ft + f < n.toNat * i.size := by rw [his]; omega
              have hzl : z.cells.size = lenL ft := hzs.trans his
              simp only [madeCells, Array.getElem?_map]
              rw [Array.getElem?_eq_getElem (by simpa using hlt)]
              simp only [Array.getElem_range, Option.map_some, hzl]
              have hm : (j * lenL ft + f) % lenL ft = f := by rw [Nat.add_comm, Nat.add_mul_mod_self_right, Nat.mod_eq_of_lt hf]
              rw [hm, getElem!_pos z.cells f (by omega)]
              rw [Nat.zero_add] at e1
              rw [Array.getElem?_eq_getElem (by omega)] at e1
              exact e1)
        exact ⟨_, _, H, _, _, _, N, .inl hex, by simp [VR, updL], L, R', .inr ⟨⟨_, rfl⟩, by simp⟩, fun b hb => .inl hb⟩
    · cases H
  · cases H

theorem fields_get {P : Program} : ∀ {fs : List (Nat × Nat × Bool)} {l : List Field}, FieldsR P fs l → ∀ (k o n : Nat) (g : Bool), fieldOff fs k = some (o, n, g) →
    ∃ f, l[k]? = some f ∧ f.offset = o ∧ (P.info? f.type).map (·.size) = some n ∧ rowB P f.type = some g
  | [], [], _, k, o, n, g, h => by cases k <;> simp [fieldOff] at h
  | (o', n', g') :: fs, f :: l, hf, 0, o, n, g, h => by
    simp [fieldOff] at h; obtain ⟨rfl, rfl, rfl⟩ := h
    simp only [FieldsR] at hf
    exact ⟨f, rfl, hf.1, hf.2.1, hf.2.2.1⟩
  | (o', n', g') :: fs, f :: l, hf, k + 1, o, n, g, h => by
    simp only [FieldsR] at hf
    obtain ⟨x, e1, e2⟩ := fields_get hf.2.2.2 k o n g (by simpa [fieldOff] using h)
    exact ⟨x, by simpa using e1, e2⟩
  | [], _ :: _, hf, _, _, _, _, _ => by simp [FieldsR] at hf
  | _ :: _, [], hf, _, _, _, _, _ => by simp [FieldsR] at hf

theorem places_run {P : Program} : ∀ {fs : List (Nat × Nat × Bool)} {l : List Field}, FieldsR P fs l →
    ∃ ps : List (Nat × Nat), (l.mapM (fun f => do Pure.pure (f.offset, ← Go.sizeOf f.type)) : Sem (List (Nat × Nat))).run P w = .ok ps w ∧ ∀ k, ps[k]? = placeOf fs k
  | [], [], _ => ⟨[], rfl, fun k => by cases k <;> simp [placeOf, fieldOff]⟩
  | (o, n, g) :: fs, f :: l, hf => by
    simp only [FieldsR] at hf
    obtain ⟨ps, h1, h2⟩ := places_run hf.2.2.2
    cases hq : P.info? f.type with
    | none => simp [hq] at hf
    | some i =>
      have hn : i.size = n := by simpa [hq] using hf.2.1
      refine ⟨(o, n) :: ps, ?_, fun k => ?_⟩
      · have hs : (Go.sizeOf f.type).run P w = .ok n w := by simp [Go.sizeOf, typeInfo, hq, hn]
        simp only [List.mapM_cons, Sem.run_bind, hs, Result.andThen_ok, Sem.run_pure, h1, hf.1]
      · cases k with
        | zero => simp [placeOf, fieldOff]
        | succ k => simpa [placeOf, fieldOff] using h2 k
  | [], _ :: _, hf => by simp [FieldsR] at hf
  | _ :: _, [], hf => by simp [FieldsR] at hf

theorem op_build (T : TyOk E.P E.C) (R : RepH E ι N h w) (hv : ∀ x, VR ι N w (av x) (ev x))
    {t : Nat} {ps : Array (Nat × Operand)} {o : Oper} (ho : o.op = .build t ps) (H : evOp E.C (.build t ps) av h nid K = some r) : ∃ v d, K v d = some r ∧ Res E ι N h w nid (execOp ev o) v d := by
  simp only [evOp] at H
  split at H
  · rename_i fs ht
    have hu := T.und t
    rw [ht] at hu; simp only [TDR] at hu
    obtain ⟨fields, hu, hfr⟩ := hu
    obtain ⟨i, z, hin, ⟨hisz, _⟩, hby, hz, hz1, hz2, hzs, _⟩ := T.inf t (by rw [ht]; rfl)
    split at H
    · rename_i cs hfill
      -- the places
      have hplaces : ∃ places : Array (Nat × Nat), (fields.mapM (fun f => do Pure.pure (f.offset, ← Go.sizeOf f.type)) : Sem (Array (Nat × Nat))).run E.P w = .ok places w ∧
          ∀ k, places[k]? = placeOf fs k := by
        obtain ⟨l, h1, h2⟩ := places_run (P := E.P) (w := w) hfr
        refine ⟨l.toArray, ?_, fun k => by simpa using h2 k⟩
        rw [Array.mapM_eq_mapM_toList]
        simp only [Sem.run_map]
        rw [h1]; rfl
      obtain ⟨places, hpl, hpk⟩ := hplaces
      have hpf : (fun k => places[k]?) = placeOf fs := funext hpk
      rw [← hpf] at hfill
      obtain ⟨cs', hf, hr1, hr2, hr3⟩ := fill_sound (pairs av ps.toList) (ps.toList.map fun x => (x.1, ev x.2)) _ z.cells cs hfill (VRL.any hz1) hz2 (by rw [pairs_len]; simp) (pairs_get hv ps.toList)
      have hex : (execOp ev o).run E.P w = .ok (.value (.agg cs')) w := by
        have hzv : (zeroValue t).run E.P w = .ok z w := by simp [zeroValue, typeInfo, hin, hz]
        have hmap : (ps.map fun x => (x.1, ev x.2)).toList = ps.toList.map fun x => (x.1, ev x.2) := by simp
        simp only [execOp, ho, Instr.build, Sem.run_bind, hzv, Result.andThen_ok, run_underlying hu w, hpl]
        rw [hmap, hf]
        rfl
      exact ⟨_, _, H, Res.pure R hex (by simp only [VR]; exact ⟨cs', rfl, hr1, hr2⟩)⟩
    · cases H
  · cases H

end
end Ev
