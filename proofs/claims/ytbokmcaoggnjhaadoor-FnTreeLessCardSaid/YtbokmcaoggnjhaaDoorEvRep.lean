/- What the evaluator's values and objects stand for in the model's world, and how that is kept. Conditions: as stated. -/
import Derived.Test.YtbokmcaoggnjhaaDoorEvDef
import Derived.Calls
import Derived.Orders
import Derived.Laws.World
import Derived.Laws.Sem
import Derived.Laws.CopyRow
import Derived.Deep.MidRow
import Derived.Below
set_option linter.unusedVariables false
set_option linter.unusedSimpArgs false
namespace Ev
open Go

/-! ### lists of the evaluation's own -/

theorem lenL_eq {α : Type} (l : List α) : lenL l = l.length := by induction l <;> simp_all [lenL]
theorem catL_eq {α : Type} (l m : List α) : catL l m = l ++ m := by induction l <;> simp_all [catL]
theorem mapL_eq {α β : Type} (f : α → β) (l : List α) : mapL f l = l.map f := by induction l <;> simp_all [mapL]
theorem revL_eq {α : Type} (l m : List α) : revL l m = l.reverse ++ m := by induction l generalizing m <;> simp_all [revL]
theorem mapO_eq {α β : Type} (f : α → β) (l : Option α) : mapO f l = l.map f := by cases l <;> rfl
theorem dropA_eq {α : Type} : ∀ (n : Nat) (l : List α), dropA n l = l.drop n
  | 0, l => by cases l <;> rfl
  | n + 1, [] => rfl
  | n + 1, a :: l => by simp [dropA, dropA_eq n l]
theorem takeA_eq {α : Type} : ∀ (n : Nat) (l : List α), takeA n l = l.take n
  | 0, l => by cases l <;> rfl
  | n + 1, [] => rfl
  | n + 1, a :: l => by simp [takeA, takeA_eq n l]
theorem getA_eq : ∀ (l : List AV) (n : Nat), getA l n = l.getD n .undef
  | [], n => by cases n <;> rfl
  | a :: l, 0 => rfl
  | a :: l, n + 1 => by simp [getA, getA_eq l n]
theorem setA_eq : ∀ (l : List AV) (n : Nat) (v : AV), setA l n v = l.set n v
  | [], n, v => by cases n <;> rfl
  | a :: l, 0, v => rfl
  | a :: l, n + 1, v => by simp [setA, setA_eq l n v]
theorem need_some {α : Type} {b : Bool} {x : Option α} {r : α} (h : need b x = some r) : b = true ∧ x = some r := by
  cases b
  · simp [need] at h
  · exact ⟨rfl, h⟩

def upd (h : Nat → Ob) (i : Nat) (o : Ob) : Nat → Ob := fun j => if j = i then o else h j

theorem getH_setH : ∀ (l : Heap) (i : Nat) (o : Ob), getH (setH l i o) = upd (getH l) i o
  | [], 0, o => by funext j; cases j <;> simp [getH, setH, upd]
  | [], i + 1, o => by
    funext j
    cases j with
    | zero => simp [getH, setH, upd]
    | succ j =>
      have := congrFun (getH_setH [] i o) j
      simp only [setH, getH] at this ⊢
      rw [this]; simp [upd, getH]
  | x :: l, 0, o => by funext j; cases j <;> simp [getH, setH, upd]
  | x :: l, i + 1, o => by
    funext j
    cases j with
    | zero => simp [getH, setH, upd]
    | succ j =>
      have := congrFun (getH_setH l i o) j
      simp only [setH, getH] at this ⊢
      rw [this]; simp [upd, getH]

def updD (h : Nat → Ob) : Delta → Nat → Ob
  | [] => h
  | (i, o) :: d => updD (upd h i o) d

theorem getH_apD : ∀ (d : Delta) (l : Heap), getH (apD l d) = updD (getH l) d
  | [], l => rfl
  | (i, o) :: d, l => by simp only [apD, updD]; rw [getH_apD d, getH_setH]

theorem getH_big : ∀ (l : Heap) (i : Nat), l.length ≤ i → getH l i = .dead
  | [], i, _ => by cases i <;> rfl
  | x :: l, 0, h => by simp at h
  | x :: l, i + 1, h => by simpa [getH] using getH_big l i (by simpa using h)

/-! ### values -/

def CellsR (P : AV → Value → Prop) (c : Array Value) (p : Nat) (as : List AV) : Prop :=
  ∀ (f : Nat) (a : AV), as[f]? = some a → ∃ v, c[p + f]? = some v ∧ P a v

def RoAt (P : AV → Value → Prop) (N : Nat → Prop) (w : World) (t : FT) (xs : List (El t)) (b o : Nat) : Prop :=
  N b ∧ ∃ c T fz, w.heap[b]? = some (.cells c T fz) ∧ ∀ (j : Nat) (x : El t), xs[j]? = some x → CellsR P c (o + j * lenL t) (El.cells t x)

def RoG (P : AV → Value → Prop) (N : Nat → Prop) (w : World) (t : FT) (xs : List (El t)) (v : Value) : Prop :=
  ∃ a cap, v = .slice a xs.length cap ∧ (xs = [] ∨ ∃ b o, (a = some ⟨b, o, none⟩ ∧ xs.length ≤ cap) ∧ RoAt P N w t xs b o)

/-- Scalars. -/
def VRs : AV → Value → Prop
  | .int k n, v => v = .int k n
  | .bool b, v => v = .bool b
  | .str s, v => v = .string ⟨s.toArray⟩
  | _, _ => False

/-- Cells of elements. -/
def VRc (N : Nat → Prop) (w : World) : AV → Value → Prop
  | .ro t xs, v => RoG VRs N w t xs v
  | a, v => VRs a v

mutual
def VR (ι : Nat → Option Value) (N : Nat → Prop) (w : World) : AV → Value → Prop
  | .undef, _ => True
  | .int k n, v => v = .int k n
  | .bool b, v => v = .bool b
  | .str s, v => v = .string ⟨s.toArray⟩
  | .ro t xs, v => RoG (VRc N w) N w t xs v
  | .roe t x f, v => ∃ b o, v = .pointer (some ⟨b, o + f, none⟩) ∧ N b ∧ ∃ c T fz, w.heap[b]? = some (.cells c T fz) ∧ CellsR (VRc N w) c o (El.cells t x)
  | .nilsl, v => v = .slice none 0 0
  | .nilp, v => v = .pointer none
  | .ptr id off, v => ∃ b o, ι id = some (.pointer (some ⟨b, o, none⟩)) ∧ v = .pointer (some ⟨b, o + off, none⟩)
  | .full id, v => ι id = some v ∧ ∃ a n c, v = .slice a n c
  | .psl id sz off len, v => ∃ a n cap, ι id = some (.slice a n cap) ∧ off + len ≤ n ∧ ∃ a' cap', v = .slice a' len cap' ∧ len ≤ cap' ∧ (len = 0 ∨ ∃ b o, a = some ⟨b, o, none⟩ ∧ a' = some ⟨b, o + off * sz, none⟩)
  | .elp id sz j f, v => ∃ b o n cap, ι id = some (.slice (some ⟨b, o, none⟩) n cap) ∧ j < n ∧ v = .pointer (some ⟨b, o + j * sz + f, none⟩)
  | .map id, v => ι id = some v ∧ ∃ r, v = .map (some r)
  | .fn f first cap, v => ∃ fs cs : Array Value, v = .func (.func f) fs cs ∧ VRL ι N w first fs.toList ∧ VRL ι N w cap cs.toList
  | .agg cs, v => ∃ vs : Array Value, v = .agg vs ∧ VRL ι N w cs vs.toList ∧ ∀ x ∈ vs.toList, x.oneCell' = true
  | .tup cs, v => ∃ vs : Array Value, v = .tuple vs ∧ VRL ι N w cs vs.toList
  | .gptr g off, v => v = .pointer (some ⟨g, off, none⟩)
def VRL (ι : Nat → Option Value) (N : Nat → Prop) (w : World) : List AV → List Value → Prop
  | [], [] => True
  | a :: as, v :: vs => VR ι N w a v ∧ VRL ι N w as vs
  | _, _ => False
end

/-- What later worlds keep. -/
structure Later (ι : Nat → Option Value) (N : Nat → Prop) (w : World) (ι' : Nat → Option Value) (N' : Nat → Prop) (w' : World) : Prop where
  loc : ∀ i v, ι i = some v → ι' i = some v
  ro : ∀ b, N b → N' b
  mem : ∀ b, N b → w'.heap[b]? = w.heap[b]?

theorem Later.refl (ι N w) : Later ι N w ι N w := ⟨fun _ _ h => h, fun _ h => h, fun _ _ => rfl⟩
theorem Later.trans {ι N w ι' N' w' ι'' N'' w''} (h : Later ι N w ι' N' w') (k : Later ι' N' w' ι'' N'' w'') : Later ι N w ι'' N'' w'' :=
  ⟨fun i v e => k.loc _ _ (h.loc _ _ e), fun b hb => k.ro b (h.ro b hb), fun b hb => (k.mem b (h.ro b hb)).trans (h.mem b hb)⟩

theorem CellsR.mono {P Q : AV → Value → Prop} {c p as} (h : CellsR P c p as) (hpq : ∀ a v, P a v → Q a v) : CellsR Q c p as :=
  fun f a ha => let ⟨v, h1, h2⟩ := h f a ha; ⟨v, h1, hpq _ _ h2⟩

theorem RoG.mono {P Q : AV → Value → Prop} {N N' : Nat → Prop} {w w' : World} {t xs v} (h : RoG P N w t xs v) (hpq : ∀ a v, P a v → Q a v)
    (hn : ∀ b, N b → N' b) (hw : ∀ b, N b → w'.heap[b]? = w.heap[b]?) : RoG Q N' w' t xs v := by
  obtain ⟨a, cap, rfl, h⟩ := h
  refine ⟨a, cap, rfl, h.imp id ?_⟩
  rintro ⟨b, o, ⟨rfl, hcp⟩, hb, c, T, fz, hc, hx⟩
  exact ⟨b, o, ⟨rfl, hcp⟩, hn b hb, c, T, fz, (hw b hb).trans hc, fun j x hj => (hx j x hj).mono hpq⟩

theorem VRc.mono {N N' : Nat → Prop} {w w' : World} (hn : ∀ b, N b → N' b) (hw : ∀ b, N b → w'.heap[b]? = w.heap[b]?) {a v} (h : VRc N w a v) : VRc N' w' a v := by
  unfold VRc at h ⊢
  split at h
  · exact h.mono (fun _ _ h => h) hn hw
  · exact h

mutual
theorem VR.mono {ι N w ι' N' w'} (L : Later ι N w ι' N' w') : ∀ (a : AV) (v : Value), VR ι N w a v → VR ι' N' w' a v
  | .undef, v, _ => by simp [VR]
  | .int _ _, v, h | .bool _, v, h | .str _, v, h | .nilsl, v, h | .nilp, v, h | .gptr _ _, v, h => by simpa [VR] using h
  | .ro t xs, v, h => by
    simp only [VR] at h ⊢
    exact h.mono (fun _ _ => VRc.mono L.ro L.mem) L.ro L.mem
  | .roe t x f, v, h => by
    simp only [VR] at h ⊢
    obtain ⟨b, o, hv, hb, c, T, fz, hc, hx⟩ := h
    exact ⟨b, o, hv, L.ro b hb, c, T, fz, (L.mem b hb).trans hc, hx.mono fun _ _ => VRc.mono L.ro L.mem⟩
  | .ptr id off, v, h => by
    simp only [VR] at h ⊢
    obtain ⟨b, o, h1, h2⟩ := h
    exact ⟨b, o, L.loc _ _ h1, h2⟩
  | .full id, v, h => by simp only [VR] at h ⊢; exact ⟨L.loc _ _ h.1, h.2⟩
  | .psl id sz off len, v, h => by
    simp only [VR] at h ⊢
    obtain ⟨a, n, cap, h1, h2⟩ := h
    exact ⟨a, n, cap, L.loc _ _ h1, h2⟩
  | .elp id sz j f, v, h => by
    simp only [VR] at h ⊢
    obtain ⟨b, o, n, cap, h1, h2⟩ := h
    exact ⟨b, o, n, cap, L.loc _ _ h1, h2⟩
  | .map id, v, h => by simp only [VR] at h ⊢; exact ⟨L.loc _ _ h.1, h.2⟩
  | .fn f a b, v, h => by
    simp only [VR] at h ⊢
    obtain ⟨fs, cs, h1, h2, h3⟩ := h
    exact ⟨fs, cs, h1, VRL.mono L _ _ h2, VRL.mono L _ _ h3⟩
  | .agg cs, v, h => by
    simp only [VR] at h ⊢
    obtain ⟨vs, h1, h2, h3⟩ := h
    exact ⟨vs, h1, VRL.mono L _ _ h2, h3⟩
  | .tup cs, v, h => by
    simp only [VR] at h ⊢
    obtain ⟨vs, h1, h2⟩ := h
    exact ⟨vs, h1, VRL.mono L _ _ h2⟩
theorem VRL.mono {ι N w ι' N' w'} (L : Later ι N w ι' N' w') : ∀ (as : List AV) (vs : List Value), VRL ι N w as vs → VRL ι' N' w' as vs
  | [], [], _ => by simp [VRL]
  | a :: as, v :: vs, h => by
    simp only [VRL] at h ⊢
    exact ⟨VR.mono L a v h.1, VRL.mono L as vs h.2⟩
  | [], _ :: _, h => by simp [VRL] at h
  | _ :: _, [], h => by simp [VRL] at h
end

theorem VRL.len {ι N w} : ∀ {as : List AV} {vs : List Value}, VRL ι N w as vs → as.length = vs.length
  | [], [], _ => rfl
  | a :: as, v :: vs, h => by simp only [VRL] at h; simp [VRL.len h.2]
  | [], _ :: _, h => by simp [VRL] at h
  | _ :: _, [], h => by simp [VRL] at h

theorem VRL.get {ι N w} : ∀ {as : List AV} {vs : List Value}, VRL ι N w as vs → ∀ (i : Nat) (a : AV), as[i]? = some a → ∃ v, vs[i]? = some v ∧ VR ι N w a v
  | [], [], _, i, a, h => by simp at h
  | a :: as, v :: vs, h, 0, b, hb => by simp only [VRL] at h; simp at hb; subst hb; exact ⟨v, rfl, h.1⟩
  | a :: as, v :: vs, h, i + 1, b, hb => by simp only [VRL] at h; exact VRL.get h.2 i b (by simpa using hb)
  | [], _ :: _, h, _, _, _ => by simp [VRL] at h
  | _ :: _, [], h, _, _, _ => by simp [VRL] at h

theorem VRL.of_get {ι N w} : ∀ {as : List AV} {vs : List Value}, as.length = vs.length → (∀ (i : Nat) (a : AV) (v : Value), as[i]? = some a → vs[i]? = some v → VR ι N w a v) → VRL ι N w as vs
  | [], [], _, _ => by simp [VRL]
  | a :: as, v :: vs, hl, h => by
    simp only [VRL]
    exact ⟨h 0 a v rfl rfl, VRL.of_get (by simpa using hl) fun i a' v' h1 h2 => h (i + 1) a' v' (by simpa using h1) (by simpa using h2)⟩
  | [], _ :: _, hl, _ => by simp at hl
  | _ :: _, [], hl, _ => by simp at hl

theorem VRL.append {ι N w} : ∀ {as bs : List AV} {vs us : List Value}, VRL ι N w as vs → VRL ι N w bs us → VRL ι N w (as ++ bs) (vs ++ us)
  | [], bs, [], us, _, h => by simpa using h
  | a :: as, bs, v :: vs, us, h, k => by
    simp only [VRL] at h; simp only [List.cons_append, VRL]; exact ⟨h.1, VRL.append h.2 k⟩
  | [], _, _ :: _, _, h, _ => by simp [VRL] at h
  | _ :: _, _, [], _, h, _ => by simp [VRL] at h

/-! ### objects -/

/-- The block that an own object takes up. -/
def blkOf : Value → Option Nat
  | .pointer (some a) => some a.block
  | .slice (some a) _ cap => if cap = 0 then none else some a.block
  | .map (some r) => some r
  | _ => none

def own (N keep : Nat → Prop) (b : Nat) : Prop := ¬ N b ∧ ¬ keep b

def EntR (N : Nat → Prop) (w : World) (kt vt : FT) (e : MapEntry) (x : El kt × El vt) : Prop :=
  ∃ kv : Array Value, (e.key = .agg kv ∨ (e.key.oneCell' = true ∧ kv = #[e.key])) ∧ CellsR VRs kv 0 (El.cells kt x.1) ∧ kv.size = lenL kt ∧ ∃ v, El.cells vt x.2 = [v] ∧ VRs v e.val

def ObR (ι : Nat → Option Value) (N keep : Nat → Prop) (w : World) (val : Value) : Ob → Prop
  | .dead => True
  | .box cs => ∃ b o c T, val = .pointer (some ⟨b, o, none⟩) ∧ own N keep b ∧ w.heap[b]? = some (.cells c T (0, 0)) ∧ CellsR (fun a v => VR ι N w a v ∧ v.oneCell' = true) c o cs
  | .arr t xs => ∃ a cap, val = .slice a xs.length cap ∧ xs.length ≤ cap ∧ (cap = 0 ∨ ∃ b c T, a = some ⟨b, 0, none⟩ ∧ own N keep b ∧ w.heap[b]? = some (.cells c T (0, 0)) ∧ cap * lenL t ≤ c.size ∧
      ∀ (j : Nat) (x : El t), xs[j]? = some x → CellsR (VRc N w) c (j * lenL t) (El.cells t x))
  | .map kt vt es => ∃ r ents clock, val = .map (some r) ∧ own N keep r ∧ w.heap[r]? = some (.map ents clock) ∧ ents.size = es.length ∧ ∀ (i : Nat) e x, ents[i]? = some e → es[i]? = some x → EntR N w kt vt e x

structure Pres (w0 : World) (keep : Nat → Prop) (w : World) : Prop where
  os : w.os = w0.os
  tape : w.tape = w0.tape
  output : w.output = w0.output
  size : w0.heap.size ≤ w.heap.size
  mem : ∀ b, keep b → w.heap[b]? = w0.heap[b]?

/-- What holds for a whole run: the tables, the world at the beginning, the blocks that must stay. -/
structure Env where
  P : Program
  C : Ctx
  w0 : World
  keep : Nat → Prop

structure RepH (E : Env) (ι : Nat → Option Value) (N : Nat → Prop) (h : Nat → Ob) (w : World) : Prop where
  ob : ∀ i, h i ≠ .dead → ∃ v, ι i = some v ∧ ObR ι N E.keep w v (h i)
  sep : ∀ i j b, i ≠ j → h i ≠ .dead → h j ≠ .dead → (ι i).bind blkOf = some b → (ι j).bind blkOf ≠ some b
  nlt : ∀ b, N b → b < w.heap.size
  klt : ∀ b, E.keep b → b < w.heap.size
  pres : Pres E.w0 E.keep w
  glob : ∀ g, E.C.glob g ≠ [] → N g ∧ ∃ c T fz, w.heap[g]? = some (.cells c T fz) ∧ CellsR (fun a v => VRc N w a v ∧ v.oneCell' = true) c 0 (E.C.glob g)

theorem ObR.blk {ι N keep w val o} (h : ObR ι N keep w val o) (hd : o ≠ .dead) {b : Nat} (hb : blkOf val = some b) : own N keep b ∧ b < w.heap.size := by
  have lt : ∀ {b x}, w.heap[b]? = some x → b < w.heap.size := fun {b x} e => by
    rcases Nat.lt_or_ge b w.heap.size with h | h
    · exact h
    · simp [Array.getElem?_eq_none h] at e
  cases o with
  | dead => exact absurd rfl hd
  | box cs => obtain ⟨b', o, c, T, rfl, h1, h2, _⟩ := h; simp [blkOf] at hb; subst hb; exact ⟨h1, lt h2⟩
  | arr t xs =>
    obtain ⟨a, cap, rfl, hle, h⟩ := h
    rcases h with rfl | ⟨b', c, T, rfl, h1, h2, _⟩
    · cases a <;> simp [blkOf] at hb
    · by_cases hc : cap = 0
      · simp [blkOf, hc] at hb
      · simp [blkOf, hc] at hb; subst hb; exact ⟨h1, lt h2⟩
  | map kt vt es => obtain ⟨r, ents, clock, rfl, h1, h2, _⟩ := h; simp [blkOf] at hb; subst hb; exact ⟨h1, lt h2⟩

/-- An object is as it was where its block is. -/
theorem ObR.keep {ι N keep w ι' N' w' val o} (L : Later ι N w ι' N' w') (h : ObR ι N keep w val o) (hown : ∀ b, blkOf val = some b → own N keep b → own N' keep b)
    (hm : ∀ b, blkOf val = some b → w'.heap[b]? = w.heap[b]?) : ObR ι' N' keep w' val o := by
  cases o with
  | dead => trivial
  | box cs =>
    obtain ⟨b, o, c, T, rfl, h1, h2, h3⟩ := h
    exact ⟨b, o, c, T, rfl, hown b rfl h1, (hm b rfl).trans h2, h3.mono fun a v ⟨x, y⟩ => ⟨VR.mono L a v x, y⟩⟩
  | arr t xs =>
    obtain ⟨a, cap, rfl, hle, h⟩ := h
    refine ⟨a, cap, rfl, hle, ?_⟩
    rcases h with rfl | ⟨b, c, T, rfl, h1, h2, h3, h4⟩
    · exact .inl rfl
    · by_cases hc : cap = 0
      · exact .inl hc
      · exact .inr ⟨b, c, T, rfl, hown b (by simp [blkOf, hc]) h1, (hm b (by simp [blkOf, hc])).trans h2, h3, fun j x hx => (h4 j x hx).mono fun _ _ => VRc.mono L.ro L.mem⟩
  | map kt vt es =>
    obtain ⟨r, ents, clock, rfl, h1, h2, h3, h4⟩ := h
    exact ⟨r, ents, clock, rfl, hown r rfl h1, (hm r rfl).trans h2, h3, h4⟩

/-! ### how the objects change -/

section
variable {E : Env} {ι : Nat → Option Value} {N : Nat → Prop} {h : Nat → Ob} {w : World}

theorem upd_same (h : Nat → Ob) (i : Nat) (o : Ob) : upd h i o i = o := by simp [upd]
theorem upd_other (h : Nat → Ob) {i j : Nat} (o : Ob) (e : j ≠ i) : upd h i o j = h j := by simp [upd, e]

/-- An object is given up. -/
theorem RepH.kill (R : RepH E ι N h w) (i : Nat) : RepH E ι N (upd h i .dead) w := by
  refine ⟨fun j hj => ?_, fun j k b e hj hk => ?_, R.nlt, R.klt, R.pres, R.glob⟩
  · by_cases e : j = i
    · subst e; simp [upd] at hj
    · rw [upd_other _ _ e] at hj ⊢; exact R.ob j hj
  · have hj' : h j ≠ .dead := by by_cases e : j = i <;> simp_all [upd]
    have hk' : h k ≠ .dead := by by_cases e : k = i <;> simp_all [upd]
    exact R.sep j k b e hj' hk'

def updL (ι : Nat → Option Value) (i : Nat) (v : Value) : Nat → Option Value := fun j => if j = i then some v else ι j

theorem Later.updL {ι N w i v} (h : ι i = none) : Later ι N w (updL ι i v) N w :=
  ⟨fun j u e => by unfold Ev.updL; split <;> simp_all, fun _ h => h, fun _ _ => rfl⟩

theorem Later.world {ι N w w'} (h : ∀ b, N b → w'.heap[b]? = w.heap[b]?) : Later ι N w ι N w' := ⟨fun _ _ e => e, fun _ h => h, h⟩

theorem Pres.same {w0 keep w w'} (p : Pres w0 keep w) (h1 : w'.os = w.os) (h2 : w'.tape = w.tape) (h3 : w'.output = w.output) (h4 : w.heap.size ≤ w'.heap.size)
    (h5 : ∀ b, keep b → w'.heap[b]? = w.heap[b]?) : Pres w0 keep w' :=
  ⟨h1.trans p.os, h2.trans p.tape, h3.trans p.output, Nat.le_trans p.size h4, fun b hb => (h5 b hb).trans (p.mem b hb)⟩

/-- The world changes outside all that is known. -/
theorem RepH.world (R : RepH E ι N h w) {w' : World} (h1 : w'.os = w.os) (h2 : w'.tape = w.tape) (h3 : w'.output = w.output) (h4 : w.heap.size ≤ w'.heap.size)
    (h5 : ∀ b, b < w.heap.size → w'.heap[b]? = w.heap[b]?) : RepH E ι N h w' := by
  have L : Later ι N w ι N w' := Later.world fun b hb => h5 b (R.nlt b hb)
  refine ⟨fun i hi => ?_, R.sep, fun b hb => Nat.lt_of_lt_of_le (R.nlt b hb) h4, fun b hb => Nat.lt_of_lt_of_le (R.klt b hb) h4,
    R.pres.same h1 h2 h3 h4 fun b hb => h5 b (R.klt b hb), fun g hg => ?_⟩
  · obtain ⟨v, hv, ho⟩ := R.ob i hi
    exact ⟨v, hv, ho.keep L (fun b _ h => h) fun b hb => h5 b (ho.blk hi hb).2⟩
  · obtain ⟨n, c, T, fz, hc, hx⟩ := R.glob g hg
    exact ⟨n, c, T, fz, (h5 g (R.nlt g n)).trans hc, hx.mono fun a v ⟨x, y⟩ => ⟨VRc.mono L.ro L.mem x, y⟩⟩

theorem RepH.drew (R : RepH E ι N h w) : RepH E ι N h w.drew := R.world rfl rfl rfl (Nat.le_refl _) fun _ _ => rfl

theorem heap_alloc_lt (w : World) (o : Obj) {b : Nat} (hb : b < w.heap.size) : (w.alloc o).heap[b]? = w.heap[b]? := Go.RowKit.Below.heap_alloc w o b hb

theorem RepH.alloc (R : RepH E ι N h w) (o : Obj) : RepH E ι N h (w.alloc o) :=
  R.world rfl rfl rfl (by simp) fun b hb => heap_alloc_lt w o hb

theorem RepH.fresh (R : RepH E ι N h w) (b : Nat) (hb : w.heap.size ≤ b) : own N E.keep b :=
  ⟨fun x => absurd (R.nlt b x) (by omega), fun x => absurd (R.klt b x) (by omega)⟩

/-- A new object, of which its place is told. -/
theorem RepH.new (R : RepH E ι N h w) (i : Nat) (hi : ι i = none) (v : Value) (o : Ob) (ho : ObR (updL ι i v) N E.keep w v o)
    (hs : ∀ j b, h j ≠ .dead → blkOf v = some b → (ι j).bind blkOf ≠ some b) : RepH E (updL ι i v) N (upd h i o) w := by
  have L : Later ι N w (updL ι i v) N w := .updL hi
  have hd : h i = .dead := by
    by_cases e : h i = .dead
    · exact e
    · obtain ⟨u, hu, _⟩ := R.ob i e; rw [hi] at hu; cases hu
  have other : ∀ j, j ≠ i → updL ι i v j = ι j := fun j e => by simp [updL, e]
  refine ⟨fun j hj => ?_, fun j k b e hj hk hb => ?_, R.nlt, R.klt, R.pres, fun g hg => ?_⟩
  · by_cases e : j = i
    · subst e; refine ⟨v, by simp [updL], ?_⟩; rw [upd_same]; exact ho
    · rw [upd_other _ _ e] at hj ⊢
      obtain ⟨u, hu, ho⟩ := R.ob j hj
      exact ⟨u, (other j e).trans hu, ho.keep L (fun _ _ h => h) fun _ _ => rfl⟩
  · by_cases ej : j = i
    · subst ej
      have ek : k ≠ j := fun x => e x.symm
      rw [upd_other _ _ ek] at hk
      rw [other k ek]
      exact hs k b hk (by simpa [updL] using hb)
    · rw [upd_other _ _ ej] at hj
      rw [other j ej] at hb
      by_cases ek : k = i
      · subst ek
        intro hk'
        have : blkOf v = some b := by simpa [updL] using hk'
        exact hs j b hj this hb
      · rw [upd_other _ _ ek] at hk; rw [other k ek]
        exact R.sep j k b e hj hk hb
  · obtain ⟨n, c, T, fz, hc, hx⟩ := R.glob g hg
    exact ⟨n, c, T, fz, hc, hx.mono fun a v ⟨x, y⟩ => ⟨VRc.mono L.ro L.mem x, y⟩⟩

/-- A block that is an own object's is written anew. -/
theorem RepH.write (R : RepH E ι N h w) {i b : Nat} {v : Value} (hv : ι i = some v) (hb : blkOf v = some b) (hl : h i ≠ .dead) (o : Ob)
    (w' : World) (hm : ∀ k, k ≠ b → w'.heap[k]? = w.heap[k]?) (hz : w'.heap.size = w.heap.size) (h1 : w'.os = w.os) (h2 : w'.tape = w.tape) (h3 : w'.output = w.output)
    (ho : own N E.keep b → Later ι N w ι N w' → ObR ι N E.keep w' v o) : RepH E ι N (upd h i o) w' ∧ Later ι N w ι N w' := by
  obtain ⟨u, hu, hob⟩ := R.ob i hl
  rw [hv] at hu; cases hu
  obtain ⟨hown, hlt⟩ := hob.blk hl hb
  have L : Later ι N w ι N w' := .world fun k hk => hm k fun e => hown.1 (e ▸ hk)
  refine ⟨⟨fun j hj => ?_, fun j k c e hj hk hc => ?_, fun k hk => by rw [hz]; exact R.nlt k hk, fun k hk => by rw [hz]; exact R.klt k hk,
    R.pres.same h1 h2 h3 (Nat.le_of_eq hz.symm) fun k hk => hm k fun e => hown.2 (e ▸ hk), fun g hg => ?_⟩, L⟩
  · by_cases e : j = i
    · subst e; exact ⟨v, hv, by rw [upd_same]; exact ho hown L⟩
    · rw [upd_other _ _ e] at hj ⊢
      obtain ⟨u, hu, ho⟩ := R.ob j hj
      refine ⟨u, hu, ho.keep L (fun _ _ h => h) fun c hc => hm c fun ec => ?_⟩
      subst ec
      exact R.sep j i c e hj hl (by rw [hu]; exact hc) (by rw [hv]; exact hb)
  · have live : ∀ k, upd h i o k ≠ .dead → h k ≠ .dead := fun k hk => by
      by_cases e : k = i
      · subst e; exact hl
      · rwa [upd_other _ _ e] at hk
    exact R.sep j k c e (live j hj) (live k hk) hc
  · obtain ⟨n, c, T, fz, hc, hx⟩ := R.glob g hg
    exact ⟨n, c, T, fz, (hm g fun e => hown.1 (e ▸ n)).trans hc, hx.mono fun a v ⟨x, y⟩ => ⟨VRc.mono L.ro L.mem x, y⟩⟩

/-- An own array's block is handed over to what is only read. -/
theorem RepH.freeze (R : RepH E ι N h w) {i b : Nat} {v : Value} (hv : ι i = some v) (hb : blkOf v = some b) (hl : h i ≠ .dead) :
    RepH E ι (fun k => N k ∨ k = b) (upd h i .dead) w ∧ Later ι N w ι (fun k => N k ∨ k = b) w := by
  obtain ⟨u, hu, hob⟩ := R.ob i hl
  rw [hv] at hu; cases hu
  obtain ⟨hown, hlt⟩ := hob.blk hl hb
  have L : Later ι N w ι (fun k => N k ∨ k = b) w := ⟨fun _ _ e => e, fun _ h => .inl h, fun _ _ => rfl⟩
  have R' := R.kill i
  refine ⟨⟨fun j hj => ?_, R'.sep, fun k hk => hk.elim (R.nlt k) fun e => e ▸ hlt, R.klt, R.pres, fun g hg => ?_⟩, L⟩
  · have e : j ≠ i := fun e => by subst e; simp [upd] at hj
    rw [upd_other _ _ e] at hj ⊢
    obtain ⟨u, hu, ho⟩ := R.ob j hj
    refine ⟨u, hu, ho.keep L (fun c hc ow => ⟨fun x => x.elim ow.1 fun ec => ?_, ow.2⟩) fun _ _ => rfl⟩
    subst ec
    exact R.sep j i c e hj hl (by rw [hu]; exact hc) (by rw [hv]; exact hb)
  · obtain ⟨n, c, T, fz, hc, hx⟩ := R.glob g hg
    exact ⟨.inl n, c, T, fz, hc, hx.mono fun a v ⟨x, y⟩ => ⟨VRc.mono L.ro L.mem x, y⟩⟩

end

end Ev
