/- Each operation of the evaluator is what the model does: new memory. Conditions: the tables fit the program. -/
import Derived.Test.YtbokmcaoggnjhaaDoorEvOps2
set_option linter.unusedVariables false
set_option linter.unusedSimpArgs false
namespace Ev
open Go

section
variable {E : Env} {ι : Nat → Option Value} {N : Nat → Prop} {h : Nat → Ob} {w : World} {nid : Nat} {s : Sem Next}

theorem heap_alloc_new (w : World) (o : Obj) : (w.alloc o).heap[w.heap.size]? = some o := by
  show (w.heap.push o)[w.heap.size]? = some o
  simp

theorem Later.alloc {ι : Nat → Option Value} {N : Nat → Prop} {w : World} (o : Obj) (hn : ∀ b, N b → b < w.heap.size) : Later ι N w ι N (w.alloc o) :=
  Later.world fun b hb => heap_alloc_lt w o (hn b hb)

/-- A new block for an own object. -/
theorem RepH.newCells (R : RepH E ι N h w) (hi : ι nid = none) (c : Array Value) (T0 : TypeId) (v : Value) (o : Ob) (hb : ∀ b, blkOf v = some b → b = w.heap.size)
    (ho : own N E.keep w.heap.size → (w.alloc (.cells c T0)).heap[w.heap.size]? = some (.cells c T0 (0, 0)) → Later ι N w (updL ι nid v) N (w.alloc (.cells c T0)) → ObR (updL ι nid v) N E.keep (w.alloc (.cells c T0)) v o) :
    RepH E (updL ι nid v) N (upd h nid o) (w.alloc (.cells c T0)) ∧ Later ι N w (updL ι nid v) N (w.alloc (.cells c T0)) := by
  have L : Later ι N w (updL ι nid v) N (w.alloc (.cells c T0)) := (Later.alloc _ R.nlt).trans (.updL hi)
  refine ⟨(R.alloc (.cells c T0)).new nid hi v o (ho (R.fresh _ (Nat.le_refl _)) (heap_alloc_new w _) L) fun j b hj hv => ?_, L⟩
  intro hj'
  have := hb b hv
  subst this
  obtain ⟨u, hu, hob⟩ := R.ob j hj
  rw [hu] at hj'
  exact absurd (hob.blk hj hj').2 (Nat.lt_irrefl _)

theorem op_box {ρ : Type} {av : Operand → AV} {ev : Operand → Value} {K : AV → Delta → Option ρ} {r : ρ} (R : RepH E ι N h w) (hv : ∀ x, VR ι N w (av x) (ev x)) (hi : ι nid = none)
    {t : Nat} {x : Operand} {o : Oper} (ho : o.op = .box t x) (H : evOp E.C (.box t x) av h nid K = some r) : ∃ v d, K v d = some r ∧ Res E ι N h w nid (execOp ev o) v d := by
  simp only [evOp] at H
  split at H
  · rename_i cs hcs
    obtain ⟨h1, h2⟩ := cellsA_vr (hv x) hcs
    have hrun : (execOp ev o).run E.P w = .ok (.value (.pointer (some ⟨w.heap.size, 0, none⟩))) (w.alloc (.cells (ev x).cells t)) := by
      simp [execOp, ho, Instr.box, newVar, newRow]
    obtain ⟨R', L⟩ := R.newCells hi (ev x).cells t (.pointer (some ⟨w.heap.size, 0, none⟩)) (.box cs) (fun b hb => by simp [blkOf] at hb; exact hb.symm) (fun ow hh L =>
      ⟨w.heap.size, 0, _, t, rfl, ow, hh, fun f a ha => by
        obtain ⟨v, hv1, hv2⟩ := h1.get f a ha
        exact ⟨v, by simpa using hv1, VR.mono L a v hv2, h2 v (List.mem_of_getElem? hv1)⟩⟩)
    exact ⟨_, _, H, _, _, _, N, .inl hrun, by simp [VR, updL], L, R', .inr ⟨⟨_, rfl⟩, by simp⟩, fun b hb => .inl hb⟩
  · cases H

theorem VRL.any {ι : Nat → Option Value} {N : Nat → Prop} {w : World} {as vs} (h : VRL (fun _ => none) (fun _ => False) default as vs) : VRL ι N w as vs :=
  VRL.mono ⟨fun _ _ e => by simp at e, fun _ e => e.elim, fun _ e => e.elim⟩ as vs h

theorem op_alloc {ρ : Type} {av : Operand → AV} {ev : Operand → Value} {K : AV → Delta → Option ρ} {r : ρ} (T : TyOk E.P E.C) (R : RepH E ι N h w) (hi : ι nid = none)
    {t : Nat} {o : Oper} (ho : o.op = .alloc t) (H : evOp E.C (.alloc t) av h nid K = some r) : ∃ v d, K v d = some r ∧ Res E ι N h w nid (execOp ev o) v d := by
  simp only [evOp] at H
  cases ht : (E.C.ty t).d.isOther with
  | true => rw [ht] at H; simp at H
  | false =>
    rw [ht] at H; simp only [cond_false] at H
    obtain ⟨i, z, hin, _, _, hz, h1, h2, _⟩ := T.inf t ht
    have hrun : (execOp ev o).run E.P w = .ok (.value (.pointer (some ⟨w.heap.size, 0, none⟩))) (w.alloc (.cells z.cells t)) := by
      simp [execOp, ho, Instr.alloc, zeroValue, typeInfo, hin, hz, newVar, newRow]
    obtain ⟨R', L⟩ := R.newCells hi z.cells t (.pointer (some ⟨w.heap.size, 0, none⟩)) (.box (E.C.ty t).zero) (fun b hb => by simp [blkOf] at hb; exact hb.symm) (fun ow hh L =>
      ⟨w.heap.size, 0, _, t, rfl, ow, hh, fun f a ha => by
        obtain ⟨v, hv1, hv2⟩ := h1.get f a ha
        obtain ⟨v', e1, e2⟩ := (VRL.any (ι := updL ι nid (.pointer (some ⟨w.heap.size, 0, none⟩))) (N := N) (w := w.alloc (.cells z.cells t)) h1).get f a ha
        rw [hv1] at e1; cases e1
        exact ⟨v, by simpa using hv1, e2, h2 v (List.mem_of_getElem? hv1)⟩⟩)
    exact ⟨_, _, H, _, _, _, N, .inl hrun, by simp [VR, updL], L, R', .inr ⟨⟨_, rfl⟩, by simp⟩, fun b hb => .inl hb⟩

/-! ### parts laid into cells -/

theorem fold_set (cs : Array Value) (off : Nat) : ∀ (vs : List Value) (k : Nat), k + vs.length ≤ cs.size - off →
    ((vs.zipIdx k).foldl (fun cs (c, j) => cs.setIfInBounds (off + j) c) cs).toList = cs.toList.take (off + k) ++ vs ++ cs.toList.drop (off + k + vs.length)
  | [], k, _ => by simp
  | v :: vs, k, hl => by
    have hl' : off + k < cs.size := by simp at hl; omega
    simp only [List.zipIdx_cons, List.foldl_cons]
    have ih := fold_set (cs.setIfInBounds (off + k) v) off vs (k + 1) (by simp at hl ⊢; omega)
    rw [ih]
    have e := list_seg_step cs.toList (off + k) v vs (by simp at hl ⊢; omega)
    simpa [Array.toList_setIfInBounds, Nat.add_assoc] using e

theorem fill_sound {place : Nat → Option (Nat × Nat)} : ∀ (parts : List (Nat × AV)) (cparts : List (Nat × Value)) (as : List AV) (cs : Array Value) (as' : List AV),
    fillA place as parts = some as' → VRL ι N w as cs.toList → (∀ x ∈ cs.toList, x.oneCell' = true) → parts.length = cparts.length →
    (∀ (j : Nat) a b, parts[j]? = some a → cparts[j]? = some b → a.1 = b.1 ∧ VR ι N w a.2 b.2) →
    ∃ cs', Instr.fill place cs cparts = some cs' ∧ VRL ι N w as' cs'.toList ∧ (∀ x ∈ cs'.toList, x.oneCell' = true) ∧ cs'.size = cs.size
  | [], cparts, as, cs, as', H, h1, h2, hl, hp => by
    have : cparts = [] := List.eq_nil_of_length_eq_zero (by simpa using hl.symm)
    subst this
    simp only [fillA, Option.some.injEq] at H
    subst H
    exact ⟨cs, rfl, h1, h2, rfl⟩
  | (i, a) :: parts, [], as, cs, as', H, h1, h2, hl, hp => by simp at hl
  | (i, a) :: parts, (i', v) :: cparts, as, cs, as', H, h1, h2, hl, hp => by
    obtain ⟨e1, hav⟩ := hp 0 (i, a) (i', v) rfl rfl
    simp only at e1 hav; subst e1
    simp only [fillA] at H
    split at H
    · rename_i o n vs hpl hvs
      rw [lenL_eq, lenL_eq] at H
      cases hc : (Nat.beq vs.length n && Nat.ble (o + n) as.length) with
      | false => rw [hc] at H; simp at H
      | true =>
        rw [hc] at H; simp only [cond_true] at H
        simp only [Bool.and_eq_true] at hc
        have hn : vs.length = n := Nat.eq_of_beq_eq_true hc.1
        have hfit : o + n ≤ as.length := Nat.le_of_ble_eq_true hc.2
        obtain ⟨hx, hone⟩ := cellsA_vr hav hvs
        have hlen := hx.len
        have hsz : as.length = cs.size := by simpa using h1.len
        have hvsz : v.cells.size = n := by rw [← hn, hlen]; simp
        have hcs' := fold_set cs o v.cells.toList 0 (by simp; omega)
        simp only [Nat.add_zero] at hcs'
        have hcond : ¬ (v.cells.size ≠ n ∨ o + v.cells.size > cs.size) := by omega
        let cs1 := v.cells.zipIdx.foldl (fun cs (x : Value × Nat) => cs.setIfInBounds (o + x.2) x.1) cs
        have hcs1 : cs1.toList = cs.toList.take o ++ v.cells.toList ++ cs.toList.drop (o + v.cells.toList.length) := by
          rw [← hcs']
          show (v.cells.zipIdx.foldl (fun cs (x : Value × Nat) => cs.setIfInBounds (o + x.2) x.1) cs).toList = _
          rw [← Array.foldl_toList]
          congr 1
          simp
        have hvr : VRL ι N w (putCells as o vs) cs1.toList := by
          refine VRL.of_get ?_ fun j b u hb hu => ?_
          · rw [putCells_len, hcs1]; simp; omega
          · rw [putCells_get vs as o j (by omega)] at hb
            rw [hcs1] at hu
            have := seg_get cs o v.cells.toList (by simp; omega) j
            simp only [List.getElem?_toArray] at this
            rw [this] at hu
            by_cases hj : o ≤ j ∧ j < o + vs.length
            · rw [if_pos hj] at hb; rw [if_pos (by omega)] at hu
              obtain ⟨u', e1, e2⟩ := hx.get (j - o) b hb
              rw [hu] at e1; cases e1; exact e2
            · rw [if_neg hj] at hb; rw [if_neg (by omega)] at hu
              obtain ⟨u', e1, e2⟩ := h1.get j b hb
              rw [show cs.toList[j]? = cs[j]? from by simp, hu] at e1; cases e1; exact e2
        have hone1 : ∀ x ∈ cs1.toList, x.oneCell' = true := by
          intro x hxm
          rw [hcs1] at hxm
          simp only [List.mem_append] at hxm
          rcases hxm with (hxm | hxm) | hxm
          · exact h2 x (List.mem_of_mem_take hxm)
          · exact hone x hxm
          · exact h2 x (List.mem_of_mem_drop hxm)
        have hsz1 : cs1.size = cs.size := by
          have := congrArg List.length hcs1
          simp at this; omega
        obtain ⟨cs', hf, hr1, hr2, hr3⟩ := fill_sound parts cparts (putCells as o vs) cs1 as' H hvr hone1 (by simpa using hl) fun j a b ha hb => hp (j + 1) a b (by simpa using ha) (by simpa using hb)
        refine ⟨cs', ?_, hr1, hr2, hr3.trans hsz1⟩
        simp only [Instr.fill, hpl]
        rw [if_neg (by simpa using hcond)]
        exact hf
    · cases H

theorem pairs_len (av : Operand → AV) : ∀ (l : List (Nat × Operand)), (pairs av l).length = l.length
  | [] => rfl
  | (i, x) :: l => by simp [pairs, pairs_len av l]

theorem pairs_get {av : Operand → AV} {ev : Operand → Value} (hv : ∀ x, VR ι N w (av x) (ev x)) : ∀ (l : List (Nat × Operand)) (j : Nat) a b, (pairs av l)[j]? = some a → (l.map fun x => (x.1, ev x.2))[j]? = some b → a.1 = b.1 ∧ VR ι N w a.2 b.2
  | [], j, a, b, ha, _ => by simp [pairs] at ha
  | (i, x) :: l, 0, a, b, ha, hb => by simp [pairs] at ha hb; subst ha hb; exact ⟨rfl, hv x⟩
  | (i, x) :: l, j + 1, a, b, ha, hb => pairs_get hv l j a b (by simpa [pairs] using ha) (by simpa using hb)

theorem repA_get (z : List AV) : ∀ (n j : Nat), (repA n z)[j]? = if j < n * z.length then z[j % z.length]? else none
  | 0, j => by simp [repA]
  | n + 1, j => by
    rw [repA, catL_eq]
    by_cases hj : j < z.length
    · rw [List.getElem?_append_left hj, if_pos (by rw [Nat.add_mul]; omega), Nat.mod_eq_of_lt hj]
    · rw [List.getElem?_append_right (by omega), repA_get z n]
      have e : (n + 1) * z.length = n * z.length + z.length := by rw [Nat.add_mul, Nat.one_mul]
      by_cases hz : z.length = 0
      · simp [hz]
      · rw [show j % z.length = (j - z.length) % z.length from by rw [Nat.mod_eq_sub_mod (by omega)]]
        by_cases h2 : j - z.length < n * z.length
        · rw [if_pos h2, if_pos (by omega)]
        · rw [if_neg h2, if_neg (by omega)]

theorem repA_len (z : List AV) : ∀ n, (repA n z).length = n * z.length
  | 0 => by simp [repA]
  | n + 1 => by rw [repA, catL_eq, List.length_append, repA_len z n, Nat.add_mul]; omega

theorem ofs_get {t : FT} : ∀ (n : Nat) (l : List AV) (xs : List (El t)), El.ofs t (lenL t) n l = some xs → xs.length = n ∧ ∀ (j : Nat) x, xs[j]? = some x → El.of t ((l.drop (j * lenL t)).take (lenL t)) = some x
  | 0, l, xs, h => by simp [El.ofs] at h; subst h; simp
  | n + 1, l, xs, h => by
    simp only [El.ofs] at h
    split at h
    · rename_i x ys hx hys
      cases h
      rw [takeA_eq] at hx
      rw [dropA_eq] at hys
      obtain ⟨h1, h2⟩ := ofs_get n _ ys hys
      refine ⟨by simp [h1], fun j y hj => ?_⟩
      cases j with
      | zero => simp at hj; subst hj; simpa using hx
      | succ j =>
        have := h2 j y (by simpa using hj)
        rw [List.drop_drop] at this
        rw [show (j + 1) * lenL t = lenL t + j * lenL t by rw [Nat.add_mul]; omega]
        exact this
    · cases h

end
end Ev
