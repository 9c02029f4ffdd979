/- Each operation of the evaluator is what the model does. Conditions: the tables fit the program. -/
import Derived.Test.YtbokmcaoggnjhaaDoorEvRep
import Derived.Laws.Append
import Derived.Laws.AppendOwn
import Derived.Laws.MakeOwn
import Derived.Laws.BytesString
import Derived.Laws.BytesArg
import Derived.Laws.Entries
set_option linter.unusedVariables false
set_option linter.unusedSimpArgs false
namespace Ev
open Go

/-! ### the tables -/

def rowB (P : Program) (t : TypeId) : Option Bool :=
  match P.underlying t with
  | some (.struct _) => some true
  | some (.array _ _) => some true
  | some _ => some false
  | none => none

def FieldsR (P : Program) : List (Nat × Nat × Bool) → List Field → Prop
  | [], [] => True
  | (o, n, g) :: fs, f :: r => f.offset = o ∧ (P.info? f.type).map (·.size) = some n ∧ rowB P f.type = some g ∧ FieldsR P fs r
  | _, _ => False

def TDR (P : Program) : TD → Option TypeDesc → Prop
  | .int k, u => u = some (.int k)
  | .bool, u => u = some .bool
  | .str, u => u = some .string
  | .ptr e, u => u = some (.pointer e)
  | .slice e, u => u = some (.slice e)
  | .struct fs, u => ∃ fields : Array Field, u = some (.struct fields) ∧ FieldsR P fs fields.toList
  | .map k v, u => u = some (.map k v)
  | .other, _ => True

structure TyOk (P : Program) (C : Ctx) : Prop where
  und : ∀ t, TDR P (C.ty t).d (P.underlying t)
  inf : ∀ t, (C.ty t).d.isOther = false → ∃ i z, P.info? t = some i ∧ (i.size = (C.ty t).size ∧ 0 < i.size) ∧ i.bytes ≤ 128 ∧ i.zero = some z ∧
    VRL (fun _ => none) (fun _ => False) default (C.ty t).zero z.cells.toList ∧ (∀ x ∈ z.cells.toList, x.oneCell' = true) ∧ z.cells.size = i.size ∧
    ((C.ty t).d.isAgg = false → i.size = 1)
  ft : ∀ t f, (C.ty t).ft = some f → (C.ty t).d.isOther = false ∧ lenL f = (C.ty t).size ∧ 0 < lenL f ∧
    ∀ i z, P.info? t = some i → i.zero = some z → CellsR (VRc (fun _ => False) default) z.cells 0 (El.cells f (El.dflt f))
  names : P.follows .mixedOrders = true

theorem TyOk.row {P C} (T : TyOk P C) {t : Nat} (h : (C.ty t).d.isOther = false) : ∃ d, P.underlying t = some d ∧ d.isRow = (C.ty t).d.isAgg := by
  have u := T.und t
  generalize (C.ty t).d = x at *
  cases x <;> simp [TDR, TD.isOther] at u h
  case struct fs => obtain ⟨f, u, _⟩ := u; exact ⟨_, u, rfl⟩
  all_goals exact ⟨_, u, rfl⟩

theorem run_isAgg' {P : Program} {t : TypeId} {d : TypeDesc} (h : P.underlying t = some d) (w : World) : (isAgg t).run P w = .ok d.isRow w := by
  unfold isAgg
  rw [Sem.run_bind, run_underlying h w]
  cases d <;> rfl

/-! ### lists of cells -/

theorem cellsR_list {Q : AV → Value → Prop} {c : Array Value} {p : Nat} : ∀ {as : List AV}, CellsR Q c p as →
    ∃ vs : List Value, vs.length = as.length ∧ (∀ (j : Nat) v, vs[j]? = some v → c[p + j]? = some v) ∧ ∀ (j : Nat) a v, as[j]? = some a → vs[j]? = some v → Q a v
  | [], _ => ⟨[], rfl, by simp, by simp⟩
  | a :: as, h => by
    obtain ⟨v, h1, h2⟩ := h 0 a rfl
    obtain ⟨vs, hl, hc, hq⟩ := cellsR_list (p := p + 1) (as := as) fun f b hb => by
      obtain ⟨v, h1, h2⟩ := h (f + 1) b (by simpa using hb)
      exact ⟨v, by rw [← h1]; congr 1; omega, h2⟩
    refine ⟨v :: vs, by simp [hl], fun j u hu => ?_, fun j b u hb hu => ?_⟩
    · cases j with
      | zero => simp at hu; subst hu; exact h1
      | succ j => have := hc j u (by simpa using hu); rw [← this]; congr 1; omega
    · cases j with
      | zero => simp at hb hu; subst hb hu; exact h2
      | succ j => exact hq j b u (by simpa using hb) (by simpa using hu)

theorem CellsR.sub {Q : AV → Value → Prop} {c : Array Value} {p : Nat} {as : List AV} (h : CellsR Q c p as) (o n : Nat) : CellsR Q c (p + o) ((as.drop o).take n) := by
  intro f a ha
  rw [List.getElem?_take] at ha
  split at ha
  · rw [List.getElem?_drop] at ha
    obtain ⟨v, h1, h2⟩ := h _ a ha
    exact ⟨v, by rw [← h1]; congr 1; omega, h2⟩
  · cases ha

/-- What lies in memory is loaded. -/
theorem run_load_cells {P : Program} {C : Ctx} (T : TyOk P C) {Q : AV → Value → Prop} {w : World} {b p : Nat} {c : Array Value} {T0 : TypeId} {fz : Nat × Nat} {cs : List AV}
    (hb : w.heap[b]? = some (.cells c T0 fz)) (hc : CellsR Q c p cs) {t o : Nat} {v : AV} (hv : partA (C.ty t).d.isAgg (C.ty t).size cs o = some v) (ht : (C.ty t).d.isOther = false) :
    ∃ u, (Instr.loadAt t (.pointer (some ⟨b, p + o, none⟩))).run P w = .ok u w ∧
      (((C.ty t).d.isAgg = true ∧ ∃ vs : List Value, u = .agg vs.toArray ∧ v = .agg ((cs.drop o).take (C.ty t).size) ∧ vs.length = ((cs.drop o).take (C.ty t).size).length ∧
          ∀ (j : Nat) a x, ((cs.drop o).take (C.ty t).size)[j]? = some a → vs[j]? = some x → Q a x) ∨
        ((C.ty t).d.isAgg = false ∧ cs[o]? = some v ∧ Q v u)) := by
  obtain ⟨i, z, hi, ⟨hsz, _⟩, _, _, _, _, _, h1⟩ := T.inf t ht
  obtain ⟨d, hu, hd⟩ := T.row ht
  unfold partA at hv
  rw [lenL_eq] at hv
  by_cases hle : Nat.ble (o + (C.ty t).size) cs.length = true
  · rw [hle] at hv
    have hle' : o + (C.ty t).size ≤ cs.length := by simpa using hle
    simp only [cond_true, Option.some.injEq] at hv
    cases hg : (C.ty t).d.isAgg with
    | true =>
      rw [hg] at hv hd
      simp only [cond_true] at hv
      rw [takeA_eq, dropA_eq] at hv
      obtain ⟨vs, hl, hvc, hvq⟩ := cellsR_list (hc.sub o (C.ty t).size)
      have hlen : vs.length = (C.ty t).size := by rw [hl]; simp; omega
      refine ⟨.agg vs.toArray, ?_, .inl ⟨rfl, vs, rfl, hv.symm, hl, hvq⟩⟩
      refine run_loadAt_mid w b (p + o) t vs d (fun j x hx => ?_) hu hd (by rw [hi]; simp [hsz, hlen])
      have := hvc j x hx
      simp [World.cell?, hb, this]
    | false =>
      rw [hg] at hv hd
      simp only [cond_false] at hv
      rw [getA_eq] at hv
      have h1' := h1 hg
      have ho : o < cs.length := by omega
      have hco : cs[o]? = some v := by rw [List.getD_eq_getElem?_getD, List.getElem?_eq_getElem ho] at hv; simpa [List.getElem?_eq_getElem ho] using hv
      obtain ⟨u, hu1, hu2⟩ := hc o v hco
      refine ⟨u, ?_, .inr ⟨rfl, hco, hu2⟩⟩
      have hcell : w.cell? ⟨b, p + o, none⟩ = some u := by simp [World.cell?, hb, hu1]
      simp [Instr.loadAt, Instr.sureAddr, loadVar, Sem.run_bind, run_isAgg' hu, hd, hcell]
  · have : Nat.ble (o + (C.ty t).size) cs.length = false := by cases h : Nat.ble (o + (C.ty t).size) cs.length <;> simp_all
    rw [this] at hv; simp at hv

theorem VRs.one {a v} (h : VRs a v) : v.oneCell' = true := by
  cases a <;> simp [VRs] at h <;> subst h <;> rfl

theorem VRc.one {N w a v} (h : VRc N w a v) : v.oneCell' = true := by
  unfold VRc at h
  split at h
  · obtain ⟨a, cap, rfl, _⟩ := h; rfl
  · exact h.one

theorem VRs.vr {ι N w a v} (h : VRs a v) : VR ι N w a v := by
  cases a <;> simp [VRs] at h <;> simpa [VR] using h

theorem VRc.vr {ι N w a v} (h : VRc N w a v) : VR ι N w a v := by
  cases a with
  | ro t xs =>
    simp only [VRc, VR] at h ⊢
    exact h.mono (fun a v h => by
      cases a <;> simp [VRs] at h <;> simpa [VRc, VRs] using h) (fun _ h => h) fun _ _ => rfl
  | _ => simp only [VRc] at h; exact h.vr

/-- Values whose cells are told are values of as many cells. -/
theorem cellsA_vr {ι N w} {a : AV} {v : Value} {as : List AV} (h : VR ι N w a v) (hc : cellsA a = some as) :
    VRL ι N w as v.cells.toList ∧ ∀ x ∈ v.cells.toList, x.oneCell' = true := by
  have one : ∀ {a : AV} {v : Value}, VR ι N w a v → (∀ vs, v ≠ .agg vs) → v.oneCell' = true → VRL ι N w [a] v.cells.toList ∧ ∀ x ∈ v.cells.toList, x.oneCell' = true := by
    intro a v h1 h2 h3
    have : v.cells = #[v] := by cases v <;> first | rfl | exact absurd rfl (h2 _)
    rw [this]
    simp [VRL, h1, h3]
  cases a with
  | undef => simp [cellsA] at hc
  | tup vs => simp [cellsA] at hc
  | agg cs =>
    simp only [cellsA, Option.some.injEq] at hc; subst hc
    simp only [VR] at h
    obtain ⟨vs, rfl, h1, h2⟩ := h
    exact ⟨h1, h2⟩
  | int k n => simp only [cellsA, Option.some.injEq] at hc; subst hc; have h' := h; simp only [VR] at h'; subst h'; exact one h (by simp) rfl
  | bool b => simp only [cellsA, Option.some.injEq] at hc; subst hc; have h' := h; simp only [VR] at h'; subst h'; exact one h (by simp) rfl
  | str s => simp only [cellsA, Option.some.injEq] at hc; subst hc; have h' := h; simp only [VR] at h'; subst h'; exact one h (by simp) rfl
  | nilsl => simp only [cellsA, Option.some.injEq] at hc; subst hc; have h' := h; simp only [VR] at h'; subst h'; exact one h (by simp) rfl
  | nilp => simp only [cellsA, Option.some.injEq] at hc; subst hc; have h' := h; simp only [VR] at h'; subst h'; exact one h (by simp) rfl
  | gptr g o => simp only [cellsA, Option.some.injEq] at hc; subst hc; have h' := h; simp only [VR] at h'; subst h'; exact one h (by simp) rfl
  | ro t xs => simp only [cellsA, Option.some.injEq] at hc; subst hc; have h' := h; simp only [VR] at h'; obtain ⟨x, cap, rfl, _⟩ := h'; exact one h (by simp) rfl
  | roe t x f => simp only [cellsA, Option.some.injEq] at hc; subst hc; have h' := h; simp only [VR] at h'; obtain ⟨x, cap, rfl, _⟩ := h'; exact one h (by simp) rfl
  | ptr i o => simp only [cellsA, Option.some.injEq] at hc; subst hc; have h' := h; simp only [VR] at h'; obtain ⟨x, cap, _, rfl⟩ := h'; exact one h (by simp) rfl
  | full i => simp only [cellsA, Option.some.injEq] at hc; subst hc; have h' := h; simp only [VR] at h'; obtain ⟨_, x, n, c, rfl⟩ := h'; exact one h (by simp) rfl
  | psl a b c d => simp only [cellsA, Option.some.injEq] at hc; subst hc; have h' := h; simp only [VR] at h'; obtain ⟨x, n, cap, _, _, a', cap', rfl, _⟩ := h'; exact one h (by simp) rfl
  | elp a b c d => simp only [cellsA, Option.some.injEq] at hc; subst hc; have h' := h; simp only [VR] at h'; obtain ⟨x, n, o, cap, _, _, rfl⟩ := h'; exact one h (by simp) rfl
  | map i => simp only [cellsA, Option.some.injEq] at hc; subst hc; have h' := h; simp only [VR] at h'; obtain ⟨_, r, rfl⟩ := h'; exact one h (by simp) rfl
  | fn f a b => simp only [cellsA, Option.some.injEq] at hc; subst hc; have h' := h; simp only [VR] at h'; obtain ⟨x, y, rfl, _⟩ := h'; exact one h (by simp) rfl

theorem putCells_len : ∀ (vs cs : List AV) (n : Nat), (putCells cs n vs).length = cs.length
  | [], cs, n => rfl
  | v :: vs, cs, n => by rw [putCells, putCells_len vs, setA_eq]; simp

theorem putCells_get : ∀ (vs cs : List AV) (n f : Nat), n + vs.length ≤ cs.length → (putCells cs n vs)[f]? = if n ≤ f ∧ f < n + vs.length then vs[f - n]? else cs[f]?
  | [], cs, n, f, _ => by simp [putCells]; intro h1 h2; omega
  | v :: vs, cs, n, f, h => by
    simp only [List.length_cons] at h
    rw [putCells, putCells_get vs _ _ _ (by rw [setA_eq]; simp; omega), setA_eq]
    by_cases h1 : n + 1 ≤ f ∧ f < n + 1 + vs.length
    · rw [if_pos h1, if_pos ⟨by omega, by simp; omega⟩]
      obtain ⟨k, rfl⟩ : ∃ k, f = n + 1 + k := ⟨f - (n + 1), by omega⟩
      rw [show n + 1 + k - n = k + 1 by omega]; simp
    · rw [if_neg h1]
      by_cases h2 : f = n
      · subst h2; rw [if_pos ⟨by omega, by simp⟩, List.getElem?_set_self (by omega), Nat.sub_self]; rfl
      · rw [if_neg (by simp only [List.length_cons]; omega), List.getElem?_set_ne (Ne.symm h2)]

/-- Cells are written: what the row holds then. -/
theorem seg_get (c : Array Value) (p : Nat) (vs : List Value) (h : p + vs.length ≤ c.size) (j : Nat) :
    (c.toList.take p ++ vs ++ c.toList.drop (p + vs.length)).toArray[j]? = if p ≤ j ∧ j < p + vs.length then vs[j - p]? else c[j]? := by
  simp only [List.getElem?_toArray]
  by_cases h1 : j < p
  · rw [List.append_assoc, List.getElem?_append_left (by simp; omega), if_neg (by omega)]; simp [h1]
  · by_cases h2 : j < p + vs.length
    · rw [if_pos ⟨by omega, h2⟩, List.getElem?_append_left (by simp; omega), List.getElem?_append_right (by simp; omega)]
      congr 1; simp; omega
    · rw [if_neg (by omega), List.getElem?_append_right (by simp; omega)]
      rw [List.getElem?_drop]
      simp
      congr 1
      omega

theorem CellsR.put {Q Q' : AV → Value → Prop} {c : Array Value} {p o : Nat} {cs as : List AV} {vs : List Value} (h : CellsR Q c p cs) (hq : ∀ a v, Q a v → Q' a v)
    (hl : as.length = vs.length) (ho : o + as.length ≤ cs.length) (hfit : p + o + vs.length ≤ c.size) (hv : ∀ (j : Nat) a v, as[j]? = some a → vs[j]? = some v → Q' a v) :
    CellsR Q' (c.toList.take (p + o) ++ vs ++ c.toList.drop (p + o + vs.length)).toArray p (putCells cs o as) := by
  intro f a ha
  rw [putCells_get as cs o f ho] at ha
  rw [seg_get c (p + o) vs hfit]
  by_cases h1 : o ≤ f ∧ f < o + as.length
  · rw [if_pos h1] at ha
    rw [if_pos ⟨by omega, by omega⟩]
    have hlt : f - o < vs.length := by omega
    refine ⟨vs[f - o], ?_, hv (f - o) a _ ha (by simp [hlt])⟩
    rw [show p + f - (p + o) = f - o by omega]; simp [hlt]
  · rw [if_neg h1] at ha
    obtain ⟨v, hv1, hv2⟩ := h f a ha
    rw [if_neg (by omega)]
    exact ⟨v, hv1, hq _ _ hv2⟩

theorem run_store_cells {P : Program} {C : Ctx} (T : TyOk P C) {w : World} {b p : Nat} {c : Array Value} {T0 : TypeId} (hb : w.heap[b]? = some (.cells c T0 (0, 0)))
    {t : Nat} {v : Value} (ht : (C.ty t).d.isOther = false) (hl : v.cells.toList.length = (C.ty t).size) (h1 : ∀ x ∈ v.cells.toList, x.oneCell' = true) (hfit : p + v.cells.toList.length ≤ c.size) :
    (Instr.storeAt t (.pointer (some ⟨b, p, none⟩)) v).run P w =
      .ok () (w.setRow b (c.toList.take p ++ v.cells.toList ++ c.toList.drop (p + v.cells.toList.length)).toArray) := by
  obtain ⟨i, z, hi, ⟨hsz, _⟩, _⟩ := T.inf t ht
  have hst := run_storeCells_at P b p T0 v.cells.toList 0 c w hb (by simpa using hfit) h1
  have hs : ¬ (v.cells.size ≠ i.size) := by rw [hsz, ← hl]; simp
  simp only [Nat.add_zero] at hst
  have hsz' : v.cells.size = i.size := by rw [hsz, ← hl]; simp
  simp only [Instr.storeAt, Instr.sureAddr, storeVar, Sem.run_bind, Sem.run_pure, Result.andThen_ok, Go.sizeOf, typeInfo, hi, run_program, hsz', ne_eq, not_true_eq_false, if_false, hst]

end Ev
