/- The tables of types, checked. Conditions: none. -/
import Derived.Test.YtbokmcaoggnjhaaDoorEvFn
set_option linter.unusedVariables false
set_option linter.unusedSimpArgs false
namespace Ev
open Go

/-! ### the checks -/

def intOf : TypeDesc → Option IntKind
  | .int k => some k
  | _ => none

def fieldsC (P : Program) : List (Nat × Nat × Bool) → List Field → Bool
  | [], [] => true
  | (o, n, g) :: fs, f :: r => Nat.beq f.offset o && (match P.info? f.type with
      | some i => Nat.beq i.size n
      | none => false) && (match rowB P f.type with
      | some b => b == g
      | none => false) && fieldsC P fs r
  | _, _ => false

def tdC (P : Program) : TD → Option TypeDesc → Bool
  | .int k, some (.int k') => decide (k = k')
  | .bool, some .bool => true
  | .str, some .string => true
  | .ptr e, some (.pointer e') => Nat.beq e e'
  | .slice e, some (.slice e') => Nat.beq e e'
  | .struct fs, some (.struct fields) => fieldsC P fs fields.toList
  | .map k v, some (.map k' v') => Nat.beq k k' && Nat.beq v v'
  | .other, _ => true
  | _, _ => false

def noBytes : Str → Bool
  | [] => true
  | _ => false

def zC : AV → Value → Bool
  | .undef, v => v.oneCell'
  | .int k n, .int k' n' => decide (k = k') && decide (n = n')
  | .bool b, .bool b' => b == b'
  | .str [], .string s => noBytes s.data.toList
  | .nilsl, .slice none 0 0 => true
  | .nilp, .pointer none => true
  | _, _ => false

def zsC : List AV → List Value → Bool
  | [], [] => true
  | a :: as, v :: vs => zC a v && zsC as vs
  | _, _ => false

def cC : AV → Value → Bool
  | .int k n, .int k' n' => decide (k = k') && decide (n = n')
  | .bool b, .bool b' => b == b'
  | .str [], .string s => noBytes s.data.toList
  | .ro _ [], .slice none 0 0 => true
  | _, _ => false

def csC : List AV → List Value → Bool
  | [], _ => true
  | a :: as, v :: vs => cC a v && csC as vs
  | _, _ => false

def tiC (P : Program) (t : Nat) (x : TI) : Bool :=
  tdC P x.d (P.underlying t) && (x.d.isOther || (match P.info? t with
    | some i => match i.zero with
      | some z => Nat.beq i.size x.size && Nat.blt 0 i.size && Nat.ble i.bytes 128 && zsC x.zero z.cells.toList && Nat.beq z.cells.size i.size && (x.d.isAgg || Nat.beq i.size 1) && (match x.ft with
        | some f => Nat.beq (lenL f) x.size && Nat.blt 0 (lenL f) && csC (El.cells f (El.dflt f)) z.cells.toList
        | none => true)
      | none => false
    | none => false)) && (match x.ft with
    | some _ => !x.d.isOther
    | none => true)

def tisC (P : Program) : List (Nat × TI) → Bool
  | [] => true
  | (t, x) :: l => tiC P t x && tisC P l

def tyNone : TI := ⟨.other, 0, 0, [], none⟩
def tyOf : List (Nat × TI) → Nat → TI
  | [], _ => tyNone
  | (t, x) :: l, n => cond (Nat.beq t n) x (tyOf l n)

/-! ### what they show -/

theorem fieldsC_ok {P : Program} : ∀ {fs : List (Nat × Nat × Bool)} {l : List Field}, fieldsC P fs l = true → FieldsR P fs l
  | [], [], _ => trivial
  | (o, n, g) :: fs, f :: r, h => by
    simp only [fieldsC, Bool.and_eq_true] at h
    obtain ⟨⟨⟨h1, h2⟩, h3⟩, h4⟩ := h
    refine ⟨Nat.eq_of_beq_eq_true h1, ?_, ?_, fieldsC_ok h4⟩
    · split at h2
      · rename_i i hi; rw [hi]; simp [Nat.eq_of_beq_eq_true h2]
      · cases h2
    · split at h3
      · rename_i b hb; rw [hb]; simpa using h3
      · cases h3
  | [], _ :: _, h => by simp [fieldsC] at h
  | _ :: _, [], h => by simp [fieldsC] at h

theorem tdC_ok {P : Program} {d : TD} {u : Option TypeDesc} (h : tdC P d u = true) : TDR P d u := by
  unfold tdC at h
  split at h <;> simp only [TDR]
  · simp only [decide_eq_true_eq] at h; rw [h]
  · rw [Nat.eq_of_beq_eq_true h]
  · rw [Nat.eq_of_beq_eq_true h]
  · exact ⟨_, rfl, fieldsC_ok h⟩
  · simp only [Bool.and_eq_true] at h
    rw [Nat.eq_of_beq_eq_true h.1, Nat.eq_of_beq_eq_true h.2]
  · cases h

theorem noBytes_ok {s : ByteArray} (h : noBytes s.data.toList = true) : Value.string s = .string ⟨([] : List UInt8).toArray⟩ := by
  unfold noBytes at h
  split at h
  · rename_i e
    obtain ⟨⟨l⟩⟩ := s
    simp only at e
    subst e; rfl
  · cases h

theorem zC_ok {a : AV} {v : Value} (h : zC a v = true) : VR (fun _ => none) (fun _ => False) default a v ∧ v.oneCell' = true := by
  unfold zC at h
  split at h
  · simp only [VR]; exact ⟨trivial, h⟩
  · simp only [Bool.and_eq_true, decide_eq_true_eq] at h
    simp only [VR]; rw [h.1, h.2]; exact ⟨rfl, rfl⟩
  · simp only [VR]; simp only [beq_iff_eq] at h; rw [h]; exact ⟨rfl, rfl⟩
  · simp only [VR]; exact ⟨noBytes_ok h, rfl⟩
  · simp only [VR]; exact ⟨trivial, rfl⟩
  · simp only [VR]; exact ⟨trivial, rfl⟩
  · cases h

theorem zsC_ok : ∀ {as : List AV} {vs : List Value}, zsC as vs = true → VRL (fun _ => none) (fun _ => False) default as vs ∧ ∀ x, x ∈ vs → x.oneCell' = true
  | [], [], _ => ⟨by simp only [VRL], fun x h => by simp at h⟩
  | a :: as, v :: vs, h => by
    simp only [zsC, Bool.and_eq_true] at h
    have h1 := zC_ok h.1
    have h2 := zsC_ok h.2
    refine ⟨by simp only [VRL]; exact ⟨h1.1, h2.1⟩, fun x hx => ?_⟩
    cases hx with
    | head => exact h1.2
    | tail _ hx => exact h2.2 x hx
  | [], _ :: _, h => by simp [zsC] at h
  | _ :: _, [], h => by simp [zsC] at h

theorem cC_ok {a : AV} {v : Value} (h : cC a v = true) : VRc (fun _ => False) default a v := by
  unfold cC at h
  split at h
  · simp only [Bool.and_eq_true, decide_eq_true_eq] at h
    simp only [VRc, VRs]; rw [h.1, h.2]
  · simp only [VRc, VRs]; simp only [beq_iff_eq] at h; rw [h]
  · simp only [VRc, VRs]; exact noBytes_ok h
  · simp only [VRc]; exact ⟨none, 0, rfl, .inl rfl⟩
  · cases h

theorem csC_ok : ∀ {as : List AV} {vs : List Value}, csC as vs = true → ∀ (f : Nat) (a : AV), as[f]? = some a → ∃ v, vs[f]? = some v ∧ VRc (fun _ => False) default a v
  | [], vs, _, f, a, hf => by simp at hf
  | a :: as, v :: vs, h, 0, b, hb => by
    simp only [csC, Bool.and_eq_true] at h
    simp at hb; subst hb
    exact ⟨v, rfl, cC_ok h.1⟩
  | a :: as, v :: vs, h, f + 1, b, hb => by
    simp only [csC, Bool.and_eq_true] at h
    exact csC_ok h.2 f b (by simpa using hb)
  | _ :: _, [], h, _, _, _ => by simp [csC] at h

theorem tyOf_mem {P : Program} : ∀ {l : List (Nat × TI)} (h : tisC P l = true) (t : Nat), tyOf l t = tyNone ∨ tiC P t (tyOf l t) = true
  | [], _, t => .inl rfl
  | (n, x) :: l, h, t => by
    simp only [tisC, Bool.and_eq_true] at h
    simp only [tyOf]
    cases hb : Nat.beq n t with
    | true => right; have := Nat.eq_of_beq_eq_true hb; subst this; exact h.1
    | false => exact tyOf_mem h.2 t

theorem tyOk_of {P : Program} {l : List (Nat × TI)} {C : Ctx} (hC : C.ty = tyOf l) (h : tisC P l = true) (hn : P.follows .mixedOrders = true) : TyOk P C := by
  have none' : ∀ {t}, tyOf l t = tyNone → (C.ty t) = tyNone := fun e => by rw [hC]; exact e
  refine ⟨fun t => ?_, fun t ht => ?_, fun t f hf => ?_, hn⟩
  · rcases tyOf_mem h t with e | e
    · rw [none' e]; exact trivial
    · rw [hC]
      simp only [tiC, Bool.and_eq_true] at e
      exact tdC_ok e.1.1
  · rcases tyOf_mem h t with e | e
    · rw [none' e] at ht; cases ht
    · rw [hC] at ht ⊢
      simp only [tiC, Bool.and_eq_true, ht, Bool.false_or] at e
      obtain ⟨⟨_, e⟩, _⟩ := e
      split at e
      · rename_i i hi
        split at e
        · rename_i z hz
          simp only [Bool.and_eq_true, Nat.blt_eq] at e
          obtain ⟨⟨⟨⟨⟨⟨e1, e2⟩, e3⟩, e4⟩, e5⟩, e6⟩, e7⟩ := e
          have q := zsC_ok e4
          refine ⟨i, z, hi, ⟨Nat.eq_of_beq_eq_true e1, e2⟩, Nat.le_of_ble_eq_true e3, hz, q.1, q.2, Nat.eq_of_beq_eq_true e5, fun ha => ?_⟩
          rw [ha] at e6
          simpa using e6
        · cases e
      · cases e
  · rcases tyOf_mem h t with e | e
    · rw [none' e] at hf; cases hf
    · rw [hC] at hf ⊢
      have ho : (tyOf l t).d.isOther = false := by
        simp only [tiC, Bool.and_eq_true] at e
        have := e.2
        rw [hf] at this
        simpa using this
      simp only [tiC, Bool.and_eq_true, ho, Bool.false_or, hf] at e
      obtain ⟨⟨_, e⟩, _⟩ := e
      split at e
      · rename_i i hi
        split at e
        · rename_i z hz
          simp only [Bool.and_eq_true, Nat.blt_eq] at e
          obtain ⟨_, ⟨e7, e8⟩, e9⟩ := e
          refine ⟨ho, Nat.eq_of_beq_eq_true e7, e8, fun i' z' hi' hz' k a ha => ?_⟩
          rw [hi] at hi'; cases hi'
          rw [hz] at hz'; cases hz'
          obtain ⟨v, hv, hr⟩ := csC_ok e9 k a ha
          exact ⟨v, by rw [Nat.zero_add, ← hv]; simp, hr⟩
        · cases e
      · cases e

end Ev
