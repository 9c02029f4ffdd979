/- Each operation of the evaluator is what the model does: slices that are made. Conditions: the tables fit the program. -/
import Derived.Test.YtbokmcaoggnjhaaDoorEvOps3
set_option linter.unusedVariables false
set_option linter.unusedSimpArgs false
namespace Ev
open Go

section
variable {E : Env} {ι : Nat → Option Value} {N : Nat → Prop} {h : Nat → Ob} {w : World} {nid : Nat} {s : Sem Next}

theorem VRL.cells {as : List AV} {vs : List Value} (hv : VRL ι N w as vs) (p n : Nat) : CellsR (VR ι N w) vs.toArray p ((as.drop p).take n) := by
  intro f a ha
  rw [List.getElem?_take] at ha
  split at ha
  · rw [List.getElem?_drop] at ha
    obtain ⟨v, h1, h2⟩ := hv.get _ a ha
    exact ⟨v, by simpa using h1, h2⟩
  · cases ha

theorem zero_cells {z : Value} {i : TypeInfo} {as : List AV} (h1 : VRL ι N w as z.cells.toList) (n : Nat) :
    VRL ι N w (repA n as) ((Array.range (n * z.cells.size)).map (fun j => z.cells[j % z.cells.size]!)).toList := by
  have hl := h1.len
  refine VRL.of_get (by rw [repA_len]; simp [hl]) fun j a v ha hv => ?_
  rw [repA_get] at ha
  split at ha
  · rename_i hj
    have hzs : 0 < z.cells.size := by
      rcases Nat.eq_zero_or_pos z.cells.size with h0 | h0
      · simp [hl, h0] at hj
      · exact h0
    obtain ⟨v', e1, e2⟩ := h1.get _ a ha
    have hjs : j < n * z.cells.size := by simpa [hl] using hj
    have hm : j % z.cells.size < z.cells.size := Nat.mod_lt _ hzs
    simp [hjs] at hv
    rw [hl] at e1
    simp at e1
    have : z.cells[j % z.cells.size]! = v' := by
      rw [getElem!_pos z.cells (j % z.cells.size) hm]
      have := Array.getElem?_eq_getElem hm
      rw [this] at e1; simpa using e1
    rw [this] at hv; subst hv; exact e2
  · cases ha

theorem op_buildSlice {ρ : Type} {av : Operand → AV} {ev : Operand → Value} {K : AV → Delta → Option ρ} {r : ρ} (T : TyOk E.P E.C) (R : RepH E ι N h w) (hv : ∀ x, VR ι N w (av x) (ev x)) (hi : ι nid = none)
    {t n : Nat} {ps : Array (Nat × Operand)} {o : Oper} (ho : o.op = .buildSlice t n ps) (H : evOp E.C (.buildSlice t n ps) av h nid K = some r) : ∃ v d, K v d = some r ∧ Res E ι N h w nid (execOp ev o) v d := by
  simp only [evOp] at H
  split at H
  · rename_i e he
    have hu := T.und t
    rw [he] at hu; simp only [TDR] at hu
    split at H
    · rename_i ft hft
      obtain ⟨hoth, hsz, hpos, hdf⟩ := T.ft e ft hft
      obtain ⟨i, z, hin, ⟨hisz, _⟩, hby, hz, hz1, hz2, hzs, _⟩ := T.inf e hoth
      cases hlim : Nat.ble (n * (E.C.ty e).size) 16777216 with
      | false => rw [hlim] at H; simp at H
      | true =>
        rw [hlim] at H; simp only [cond_true] at H
        have hlim' : n * i.size ≤ 16777216 := by rw [hisz]; exact Nat.le_of_ble_eq_true hlim
        split at H
        · rename_i cs hfill
          rw [← hsz] at H hfill
          -- the concrete cells
          have hz0 : VRL ι N w (repA n (E.C.ty e).zero) ((Array.range (n * i.size)).map (fun j => z.cells[j % z.cells.size]!)).toList := by
            rw [← hzs]; exact zero_cells (i := i) (VRL.any hz1) n
          have hzone : ∀ x ∈ ((Array.range (n * i.size)).map (fun j => z.cells[j % z.cells.size]!)).toList, x.oneCell' = true := by
            intro x hx
            simp only [Array.toList_map, List.mem_map] at hx
            obtain ⟨j, hj, rfl⟩ := hx
            have hn0 : 0 < z.cells.size := by
              rw [hzs, hisz, ← hsz]; exact hpos
            have hm : j % z.cells.size < z.cells.size := Nat.mod_lt _ hn0
            rw [getElem!_pos z.cells (j % z.cells.size) hm]
            exact hz2 _ (by simp)
          have hpl : (fun k => some (k * lenL ft, lenL ft)) = (fun k => some (k * i.size, i.size)) := by rw [hisz, hsz]
          rw [hpl] at hfill
          obtain ⟨cs', hf, hr1, hr2, hr3⟩ := fill_sound (pairs av ps.toList) (ps.toList.map fun x => (x.1, ev x.2)) _ _ cs hfill hz0 hzone (by rw [pairs_len]; simp) (pairs_get hv ps.toList)
          obtain ⟨N2, F2, L2, hth, hn2, hdead⟩ := thaw_sound cs _ (Frz.start R) (.refl ι N w) hr1
          generalize thaw h cs = tv at *
          obtain ⟨as2, d⟩ := tv
          simp only at H hth hn2 hdead F2 L2
          split at H
          · rename_i xs hxs
            obtain ⟨hxl, hxe⟩ := ofs_get n as2 xs hxs
            have hrun : (execOp ev o).run E.P w = .ok (.value (.slice (some ⟨w.heap.size, 0, none⟩) n n)) (w.alloc (.cells cs' e)) := by
              have hle : ¬ (16777216 < n * i.size) := by omega
              by_cases h0 : n * i.size = 0
              · have hr0 : (Array.range (n * i.size)).map (fun j => z.cells[j % z.cells.size]!) = #[] := by simp [h0]
                rw [hr0] at hf
                simp [execOp, ho, Instr.buildSlice, run_underlying hu, Go.sizeOf, typeInfo, hin, h0, hf, newRow, Array.range_zero']
              · simp [execOp, ho, Instr.buildSlice, run_underlying hu, Go.sizeOf, typeInfo, hin, h0, hle, zeroValue, hz, hf, newRow]
            have hone : (own N2 E.keep w.heap.size → (w.alloc (.cells cs' e)).heap[w.heap.size]? = some (.cells cs' e (0, 0)) → Later ι N2 w (updL ι nid (.slice (some ⟨w.heap.size, 0, none⟩) n n)) N2 (w.alloc (.cells cs' e)) →
                ObR (updL ι nid (.slice (some ⟨w.heap.size, 0, none⟩) n n)) N2 E.keep (w.alloc (.cells cs' e)) (.slice (some ⟨w.heap.size, 0, none⟩) n n) (.arr ft xs)) := fun ow hh L => by
              refine ⟨some ⟨w.heap.size, 0, none⟩, n, by rw [hxl], by omega, ?_⟩
              by_cases hn0 : n = 0
              · exact .inl hn0
              · refine .inr ⟨w.heap.size, cs', e, rfl, ow, hh, ?_, fun j x hj => ?_⟩
                · rw [hr3]; simp [hisz, hsz]
                · have hc := (VRL.cells hth (j * lenL ft) (lenL ft)).of (hxe j x hj)
                  intro f a ha
                  obtain ⟨v, e1, e2⟩ := hc f a ha
                  exact ⟨v, by simpa using e1, VRc.mono L.ro L.mem e2⟩
            obtain ⟨R', L⟩ := F2.rep.newCells hi cs' e (.slice (some ⟨w.heap.size, 0, none⟩) n n) (.arr ft xs) (fun b hb => by simp [blkOf] at hb; exact hb.2.symm) hone
            refine ⟨_, _, H, _, _, _, N2, .inl hrun, by simp [VR, updL], L2.trans L, ?_, .inr ⟨⟨_, rfl⟩, by rw [catL_eq]; simp⟩, hn2⟩
            rw [catL_eq, updD_append]
            exact R'
          · cases H
        · cases H
    · cases H
  · cases H

end
end Ev
