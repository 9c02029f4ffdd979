/- Regions, in the order of the text or in any that is left open. Conditions: as stated. -/
import Derived.Test.YtbokmcaoggnjhaaDoorEvCall
set_option linter.unusedVariables false
set_option linter.unusedSimpArgs false
namespace Ev
open Go

/-! ### which operations stand ahead of which -/

theorem bindsA_eq (e : Edge) : bindsA e = Region.binds .any e := by
  unfold bindsA Region.binds
  cases e.ground <;> rfl

theorem ancE_spec (acc : List Nat) (i : Nat) : ∀ (es : List Edge) (s j : Nat), Nat.testBit (ancE acc i es s) j = true →
    Nat.testBit s j = true ∨ ∃ e, e ∈ es ∧ bindsA e = true ∧ e.on < i ∧ (e.on = j ∨ Nat.testBit (getN acc e.on) j = true)
  | [], s, j, h => .inl h
  | e :: r, s, j, h => by
    simp only [ancE] at h
    rcases ancE_spec acc i r _ j h with h | ⟨e', h1, h2⟩
    · cases hb : (bindsA e && Nat.blt e.on i) with
      | false => rw [hb] at h; exact .inl h
      | true =>
        rw [hb] at h
        simp only [cond_true] at h
        simp only [Bool.and_eq_true, Nat.blt_eq] at hb
        have h : Nat.testBit (s ||| (2 ^ e.on ||| getN acc e.on)) j = true := h
        rw [Nat.testBit_or, Nat.testBit_or, Nat.testBit_two_pow] at h
        simp only [Bool.or_eq_true, decide_eq_true_eq] at h
        rcases h with h | h | h
        · exact .inl h
        · exact .inr ⟨e, by simp, hb.1, hb.2, .inl h⟩
        · exact .inr ⟨e, by simp, hb.1, hb.2, .inr h⟩
    · exact .inr ⟨e', by simp [h1], h2⟩

theorem getN_eq : ∀ (l : List Nat) (n : Nat), getN l n = l.getD n 0
  | [], n => by cases n <;> rfl
  | a :: l, 0 => rfl
  | a :: l, n + 1 => by simp [getN, getN_eq l n]

theorem getN_append (l m : List Nat) (n : Nat) (h : n < l.length) : getN (l ++ m) n = getN l n := by
  rw [getN_eq, getN_eq]; simp [List.getD, List.getElem?_append_left h]

def AncGood (all : List Oper) (A : List Nat) (k : Nat) : Prop :=
  ∀ j, Nat.testBit (getN A k) j = true → j < k ∧ ∃ o e, all[k]? = some o ∧ e ∈ o.after.toList ∧ bindsA e = true ∧ e.on < k ∧ (e.on = j ∨ Nat.testBit (getN A e.on) j = true)

theorem ancs_spec (all : List Oper) : ∀ (ops : List Oper) (i : Nat) (acc : List Nat), acc.length = i → (∀ j, ops[j]? = all[i + j]?) → (∀ k, k < i → AncGood all acc k) →
    ∀ k, AncGood all (ancs ops i acc) k
  | [], i, acc, hl, ho, hg, k => by
    simp only [ancs]
    rcases Nat.lt_or_ge k i with h | h
    · exact hg k h
    · intro j hj
      rw [getN_eq] at hj
      have : acc.getD k 0 = 0 := by simp [List.getD, List.getElem?_eq_none (by omega : acc.length ≤ k)]
      rw [this] at hj; simp at hj
  | o :: r, i, acc, hl, ho, hg, k => by
    simp only [ancs, catL_eq]
    have ext : ∀ n, n < i → getN (acc ++ [ancE acc i o.after.toList 0]) n = getN acc n := fun n hn => getN_append _ _ n (by omega)
    have last : getN (acc ++ [ancE acc i o.after.toList 0]) i = ancE acc i o.after.toList 0 := by
      rw [getN_eq]; simp [List.getD, ← hl]
    refine ancs_spec all r (i + 1) _ (by simp [hl]) (fun j => by have := ho (j + 1); simp at this; rw [this]; congr 1; omega) (fun k hk => ?_) k
    have ho0 : all[i]? = some o := by have := ho 0; simpa using this.symm
    by_cases e : k = i
    · subst e
      intro j hj
      rw [last] at hj
      rcases ancE_spec acc k _ _ j hj with h | ⟨e, h1, h2, h3, h4⟩
      · simp at h
      · have lt : j < k := by
          rcases h4 with h4 | h4
          · omega
          · have := (hg e.on h3 j h4).1; omega
        refine ⟨lt, o, e, ho0, h1, h2, h3, h4.imp id fun h => ?_⟩
        rw [ext _ h3]; exact h
    · have hk' : k < i := by omega
      intro j hj
      rw [ext k hk'] at hj
      obtain ⟨h1, o', e', h2, h3, h4, h5, h6⟩ := hg k hk' j hj
      exact ⟨h1, o', e', h2, h3, h4, h5, h6.imp id fun h => by rw [ext _ (by omega)]; exact h⟩

theorem anc_good (all : List Oper) (k : Nat) : AncGood all (ancs all 0 []) k :=
  ancs_spec all all 0 [] rfl (fun j => by simp) (fun k hk => by omega) k

theorem besideA_iff {A : List Nat} {i j : Nat} : besideA A i j = true ↔ i ≠ j ∧ Nat.testBit (getN A i) j = false ∧ Nat.testBit (getN A j) i = false := by
  unfold besideA
  simp only [Bool.and_eq_true, Bool.not_eq_true']
  rw [and_assoc]
  constructor
  · rintro ⟨h1, h2, h3⟩
    refine ⟨fun e => ?_, h2, h3⟩
    subst e; simp at h1
  · rintro ⟨h1, h2, h3⟩
    refine ⟨?_, h2, h3⟩
    cases hb : Nat.beq i j with
    | false => rfl
    | true => exact absurd (Nat.eq_of_beq_eq_true hb) h1

theorem besideA_symm {A : List Nat} {i j : Nat} (h : besideA A i j = true) : besideA A j i = true := by
  rw [besideA_iff] at h ⊢
  exact ⟨h.1.symm, h.2.2, h.2.1⟩

theorem dstOf_eq : ∀ (ops : List Oper) (n : Nat), dstOf ops n = (ops[n]?).bind (·.dst)
  | [], n => by cases n <;> rfl
  | o :: r, 0 => rfl
  | o :: r, n + 1 => by simp [dstOf, dstOf_eq r n]

/-! ### what was done -/

structure Ent where
  v : AV
  d : Delta
  run : Bool

section
variable (all : List Oper) (fr0 : List AV) (h0 : Heap) (es : Nat → Ent)

def frD (D : Nat → Bool) : Nat → List AV
  | 0 => fr0
  | m + 1 => cond (D m) (putA (frD D m) (dstOf all m) (es m).v) (frD D m)
def hL : Nat → Heap
  | 0 => h0
  | m + 1 => apD (hL m) (es m).d
def hD (D : Nat → Bool) : Nat → Nat → Ob
  | 0 => getH h0
  | m + 1 => cond (D m) (updD (hD D m) (es m).d) (hD D m)
def lgOf : Nat → List LogE
  | 0 => []
  | m + 1 => cond (es m).run (⟨m, keysD (es m).d, lenL (hL h0 es m)⟩ :: lgOf m) (lgOf m)
end

def yes : Nat → Bool := fun _ => true

def WantA (all : List Oper) (F : List AV) (o : Oper) : Bool → Prop
  | true => o.guard = none ∨ ∃ j want t, o.guard = some (j, want) ∧ dstOf all j = some t ∧ getA F t = .bool want
  | false => ∃ j want t, o.guard = some (j, want) ∧ dstOf all j = some t ∧ (getA F t = .bool (!want) ∨ getA F t = .tup [])

structure AtOk (C : Ctx) (H : Hnd) (O : Order) (all : List Oper) (fr0 : List AV) (h0 : Heap) (es : Nat → Ent) (i : Nat) (o : Oper) : Prop where
  want : WantA all (O.fr all i (frD all fr0 es yes i)) o (es i).run
  ran : (es i).run = true → evOper C H o (opnd (O.fr all i (frD all fr0 es yes i))) (O.hp i (lgOf h0 es i) (getH (hL h0 es i))) (lenL (hL h0 es i)) pr = some ((es i).v, (es i).d) ∧
    O.ok i (lgOf h0 es i) (es i).d = true
  not : (es i).run = false → (es i).v = .tup [] ∧ (es i).d = []

section
variable {all : List Oper} {fr0 : List AV} {h0 : Heap} {es es' : Nat → Ent} {C : Ctx} {H : Hnd} {O : Order}

theorem frD_congr {D : Nat → Bool} : ∀ {m : Nat}, (∀ j, j < m → es j = es' j) → frD all fr0 es D m = frD all fr0 es' D m
  | 0, _ => rfl
  | m + 1, h => by simp only [frD]; rw [frD_congr fun j hj => h j (by omega), h m (by omega)]
theorem hL_congr : ∀ {m : Nat}, (∀ j, j < m → es j = es' j) → hL h0 es m = hL h0 es' m
  | 0, _ => rfl
  | m + 1, h => by simp only [hL]; rw [hL_congr fun j hj => h j (by omega), h m (by omega)]
theorem lgOf_congr : ∀ {m : Nat}, (∀ j, j < m → es j = es' j) → lgOf h0 es m = lgOf h0 es' m
  | 0, _ => rfl
  | m + 1, h => by simp only [lgOf]; rw [lgOf_congr fun j hj => h j (by omega), hL_congr fun j hj => h j (by omega), h m (by omega)]

theorem setA_self (fr : List AV) (t : Nat) {v : AV} (h : getA fr t = v) : setA fr t v = fr := by
  subst h
  rw [setA_eq, getA_eq]
  rcases Nat.lt_or_ge t fr.length with h | h
  · simp [List.getD, List.getElem?_eq_getElem h]
  · rw [List.set_eq_of_length_le h]

theorem getA_set_undef (fr : List AV) (d t : Nat) : getA (setA fr d .undef) t = .undef ∨ (t ≠ d ∧ getA (setA fr d .undef) t = getA fr t) := by
  rw [setA_eq, getA_eq, getA_eq]
  by_cases e : t = d
  · subst e
    left
    rcases Nat.lt_or_ge t fr.length with h | h
    · simp [List.getD, h]
    · simp [List.getD, h]
  · right
    exact ⟨e, by simp [List.getD, List.getElem?_set_ne (Ne.symm e)]⟩

theorem blankC_get (A : List Nat) (i t : Nat) : ∀ (ops : List Oper) (j : Nat) (fr : List AV),
    getA (blankC A i ops j fr) t = .undef ∨ (getA (blankC A i ops j fr) t = getA fr t ∧ ∀ k, dstOf ops k = some t → besideA A i (j + k) = false)
  | [], j, fr => .inr ⟨rfl, fun k hk => by cases k <;> simp [dstOf] at hk⟩
  | o :: r, j, fr => by
    simp only [blankC]
    have step : ∀ fr', (getA fr' t = .undef ∨ (getA fr' t = getA fr t ∧ (o.dst = some t → besideA A i j = false))) →
        getA (blankC A i r (j + 1) fr') t = .undef ∨ (getA (blankC A i r (j + 1) fr') t = getA fr t ∧ ∀ k, dstOf (o :: r) k = some t → besideA A i (j + k) = false) := fun fr' h => by
      rcases blankC_get A i t r (j + 1) fr' with h1 | ⟨h1, h2⟩
      · exact .inl h1
      · rcases h with h | ⟨h, h3⟩
        · left; rw [h1, h]
        · refine .inr ⟨h1.trans h, fun k hk => ?_⟩
          cases k with
          | zero => exact h3 hk
          | succ k => have := h2 k hk; rwa [show j + 1 + k = j + (k + 1) by omega] at this
    cases hd : o.dst with
    | none => exact step fr (.inr ⟨rfl, fun e => by rw [hd] at e; cases e⟩)
    | some d =>
      cases hb : besideA A i j with
      | false => exact step fr (.inr ⟨rfl, fun _ => hb⟩)
      | true =>
        simp only [cond_true]
        rcases getA_set_undef fr d t with h | ⟨h1, h2⟩
        · exact step _ (.inl h)
        · exact step _ (.inr ⟨h2, fun e => by rw [hd] at e; cases e; exact absurd rfl h1⟩)

/-- Two operations that are beside each other. -/
def Order.beside (O : Order) (i j : Nat) : Prop := O.draw = true ∧ besideA O.A i j = true

theorem Order.fr_get (O : Order) (i t : Nat) (fr : List AV) : getA (O.fr all i fr) t = .undef ∨ (getA (O.fr all i fr) t = getA fr t ∧ ∀ k, dstOf all k = some t → ¬ O.beside i k) := by
  unfold Order.fr Order.beside
  cases O.draw with
  | false => exact .inr ⟨rfl, fun k _ h => by simp at h⟩
  | true =>
    rcases blankC_get O.A i t all 0 fr with h | ⟨h1, h2⟩
    · exact .inl h
    · refine .inr ⟨h1, fun k hk hb => ?_⟩
      have := h2 k hk
      rw [Nat.zero_add] at this
      rw [this] at hb; cases hb.2

theorem evOper_nat {P : Program} (hH : HndOk P C H) {ρ : Type} (o : Oper) (av : Operand → AV) (h : Nat → Ob) (nid : Nat) (K : AV → Delta → Option ρ) :
    evOper C H o av h nid K = (evOper C H o av h nid pr).bind (on K) := by
  unfold evOper
  split
  · split
    · exact hH.nat _ _ _ _ K
    · rfl
  · exact evOp_nat _ _ _ _ _ _

theorem evOps_tr {P : Program} (hH : HndOk P C H) {ρ : Type} {K : List AV → Heap → List LogE → Option ρ} {r : ρ} : ∀ (ops : List Oper) (i : Nat) (pre : Nat → Ent), (∀ j, ops[j]? = all[i + j]?) →
    evOps C H O all ops i (frD all fr0 pre yes i) (hL h0 pre i) (lgOf h0 pre i) K = some r →
    ∃ es : Nat → Ent, (∀ j, j < i → es j = pre j) ∧ (∀ j o, ops[j]? = some o → AtOk C H O all fr0 h0 es (i + j) o) ∧
      K (frD all fr0 es yes (i + ops.length)) (hL h0 es (i + ops.length)) (lgOf h0 es (i + ops.length)) = some r
  | [], i, pre, ho, H1 => ⟨pre, fun _ _ => rfl, fun j o h => by simp at h, by simpa [evOps] using H1⟩
  | o :: ops, i, pre, ho, H1 => by
    have ho' : ∀ j, ops[j]? = all[i + 1 + j]? := fun j => by have := ho (j + 1); simp at this; rw [this]; congr 1; omega
    have hdst : dstOf all i = o.dst := by rw [dstOf_eq]; have := ho 0; simp at this; rw [← this]; rfl
    -- with one more entry
    have more : ∀ e : Ent, WantA all (O.fr all i (frD all fr0 pre yes i)) o e.run →
        (e.run = true → evOper C H o (opnd (O.fr all i (frD all fr0 pre yes i))) (O.hp i (lgOf h0 pre i) (getH (hL h0 pre i))) (lenL (hL h0 pre i)) pr = some (e.v, e.d) ∧ O.ok i (lgOf h0 pre i) e.d = true) →
        (e.run = false → e.v = .tup [] ∧ e.d = []) →
        evOps C H O all ops (i + 1) (putA (frD all fr0 pre yes i) o.dst e.v) (apD (hL h0 pre i) e.d) (cond e.run (⟨i, keysD e.d, lenL (hL h0 pre i)⟩ :: lgOf h0 pre i) (lgOf h0 pre i)) K = some r →
        ∃ es : Nat → Ent, (∀ j, j < i → es j = pre j) ∧ (∀ j o', (o :: ops)[j]? = some o' → AtOk C H O all fr0 h0 es (i + j) o') ∧
          K (frD all fr0 es yes (i + (o :: ops).length)) (hL h0 es (i + (o :: ops).length)) (lgOf h0 es (i + (o :: ops).length)) = some r := by
      intro e hw hr hn H2
      let pre' : Nat → Ent := fun j => if j = i then e else pre j
      have hp : ∀ j, j < i → pre' j = pre j := fun j hj => by simp only [pre']; rw [if_neg (by omega)]
      have hpi : pre' i = e := by simp [pre']
      have e1 : frD all fr0 pre' yes (i + 1) = putA (frD all fr0 pre yes i) o.dst e.v := by
        simp only [frD, yes, cond_true, hpi, hdst]
        rw [frD_congr hp]
      have e2 : hL h0 pre' (i + 1) = apD (hL h0 pre i) e.d := by simp only [hL, hpi]; rw [hL_congr hp]
      have e3 : lgOf h0 pre' (i + 1) = cond e.run (⟨i, keysD e.d, lenL (hL h0 pre i)⟩ :: lgOf h0 pre i) (lgOf h0 pre i) := by
        simp only [lgOf, hpi]; rw [hL_congr hp, lgOf_congr hp]
      obtain ⟨es, a1, a2, a3⟩ := evOps_tr hH ops (i + 1) pre' ho' (by rw [e1, e2, e3]; exact H2)
      have hes : ∀ j, j < i → es j = pre j := fun j hj => (a1 j (by omega)).trans (hp j hj)
      have hesi : es i = e := (a1 i (by omega)).trans hpi
      refine ⟨es, hes, fun j o' hj => ?_, by rw [show i + (o :: ops).length = i + 1 + ops.length by simp; omega]; exact a3⟩
      cases j with
      | zero =>
        simp at hj; subst hj
        simp only [Nat.add_zero]
        refine ⟨?_, fun h => ?_, fun h => ?_⟩
        · rw [hesi, frD_congr hes]; exact hw
        · rw [hesi] at h ⊢; rw [frD_congr hes, hL_congr hes, lgOf_congr hes]; exact hr h
        · rw [hesi] at h ⊢; exact hn h
      | succ j =>
        have := a2 j o' (by simpa using hj)
        rwa [show i + 1 + j = i + (j + 1) by omega] at this
    have goOk : WantA all (O.fr all i (frD all fr0 pre yes i)) o true →
        (evOper C H o (opnd (O.fr all i (frD all fr0 pre yes i))) (O.hp i (lgOf h0 pre i) (getH (hL h0 pre i))) (lenL (hL h0 pre i)) fun v d =>
          cond (O.ok i (lgOf h0 pre i) d) (evOps C H O all ops (i + 1) (putA (frD all fr0 pre yes i) o.dst v) (apD (hL h0 pre i) d) (⟨i, keysD d, (lenL (hL h0 pre i))⟩ :: lgOf h0 pre i) K) none) = some r →
        ∃ es : Nat → Ent, (∀ j, j < i → es j = pre j) ∧ (∀ j o', (o :: ops)[j]? = some o' → AtOk C H O all fr0 h0 es (i + j) o') ∧
          K (frD all fr0 es yes (i + (o :: ops).length)) (hL h0 es (i + (o :: ops).length)) (lgOf h0 es (i + (o :: ops).length)) = some r := by
      intro hw H2
      rw [evOper_nat hH] at H2
      cases hp : evOper C H o (opnd (O.fr all i (frD all fr0 pre yes i))) (O.hp i (lgOf h0 pre i) (getH (hL h0 pre i))) (lenL (hL h0 pre i)) pr with
      | none => rw [hp] at H2; cases H2
      | some vd =>
        obtain ⟨v, d⟩ := vd
        rw [hp] at H2
        simp only [Option.bind_some, on] at H2
        cases hok : O.ok i (lgOf h0 pre i) d with
        | false => rw [hok] at H2; simp at H2
        | true =>
          rw [hok] at H2; simp only [cond_true] at H2
          exact more ⟨v, d, true⟩ hw (fun _ => ⟨hp, hok⟩) (fun h => by cases h) H2
    have skipOk : WantA all (O.fr all i (frD all fr0 pre yes i)) o false →
        evOps C H O all ops (i + 1) (putA (frD all fr0 pre yes i) o.dst (.tup [])) (hL h0 pre i) (lgOf h0 pre i) K = some r →
        ∃ es : Nat → Ent, (∀ j, j < i → es j = pre j) ∧ (∀ j o', (o :: ops)[j]? = some o' → AtOk C H O all fr0 h0 es (i + j) o') ∧
          K (frD all fr0 es yes (i + (o :: ops).length)) (hL h0 es (i + (o :: ops).length)) (lgOf h0 es (i + (o :: ops).length)) = some r :=
      fun hw H2 => more ⟨.tup [], [], false⟩ hw (fun h => by cases h) (fun _ => ⟨rfl, rfl⟩) H2
    simp only [evOps] at H1
    split at H1
    · rename_i hg
      exact goOk (.inl hg) H1
    · rename_i j want hg
      split at H1
      · cases H1
      · rename_i t ht
        split at H1
        · rename_i b hb
          have hfr : getA (frD all fr0 pre yes i) t = .bool b := by
            rcases O.fr_get (all := all) i t (frD all fr0 pre yes i) with h | ⟨h, _⟩
            · rw [hb] at h; cases h
            · rw [← h]; exact hb
          cases b with
          | true =>
            rw [setA_self _ t hfr] at H1
            cases want with
            | true => exact goOk (.inr ⟨j, true, t, hg, ht, hb⟩) H1
            | false => exact skipOk ⟨j, false, t, hg, ht, .inl hb⟩ H1
          | false =>
            simp only [cond_false] at H1
            rw [setA_self _ t hfr] at H1
            cases want with
            | true => exact skipOk ⟨j, true, t, hg, ht, .inl hb⟩ H1
            | false => exact goOk (.inr ⟨j, false, t, hg, ht, hb⟩) H1
        · rename_i hb
          exact skipOk ⟨j, want, t, hg, ht, .inr hb⟩ H1
        · cases H1

theorem frD_len (D : Nat → Bool) : ∀ m, (frD all fr0 es D m).length = fr0.length
  | 0 => rfl
  | m + 1 => by
    simp only [frD]
    cases D m with
    | false => exact frD_len D m
    | true =>
      simp only [cond_true]
      unfold putA
      split
      · exact frD_len D m
      · rw [setA_eq, List.length_set]; exact frD_len D m

theorem getA_putA (fr fr' : List AV) (d : Option Nat) (v : AV) (t : Nat) (hl : fr.length = fr'.length) (h : d = some t ∨ getA fr t = getA fr' t) : getA (putA fr d v) t = getA (putA fr' d v) t := by
  unfold putA
  split
  · rcases h with h | h
    · cases h
    · exact h
  · rename_i v' d'
    simp only [setA_eq, getA_eq] at *
    by_cases e : d' = t
    · subst e
      simp only [List.getD_eq_getElem?_getD, List.getElem?_set_self', hl]
      rcases Nat.lt_or_ge d' fr'.length with q | q
      · rw [List.getElem?_eq_getElem q, List.getElem?_eq_getElem (by omega)]; rfl
      · rw [List.getElem?_eq_none q, List.getElem?_eq_none (by omega)]
    · rcases h with h | h
      · cases h; exact absurd rfl e
      · simp only [List.getD_eq_getElem?_getD, List.getElem?_set_ne e] at *; exact h

theorem getA_putA_ne (fr : List AV) (d : Option Nat) (v : AV) (t : Nat) (h : d ≠ some t) : getA (putA fr d v) t = getA fr t := by
  unfold putA
  split
  · rfl
  · rename_i d'
    have e : d' ≠ t := fun e => h (by rw [e])
    simp only [setA_eq, getA_eq, List.getD_eq_getElem?_getD, List.getElem?_set_ne e]

theorem frD_agree {D D' : Nat → Bool} {t : Nat} : ∀ {m : Nat}, (∀ j, j < m → dstOf all j = some t → D j = D' j) → getA (frD all fr0 es D m) t = getA (frD all fr0 es D' m) t
  | 0, _ => rfl
  | m + 1, h => by
    have ih := frD_agree (m := m) fun j hj => h j (by omega)
    simp only [frD]
    by_cases e : dstOf all m = some t
    · rw [h m (by omega) e]
      cases D' m with
      | false => exact ih
      | true => exact getA_putA _ _ _ _ _ (by rw [frD_len, frD_len]) (.inl e)
    · have : ∀ X : List AV, ∀ b : Bool, getA (cond b (putA X (dstOf all m) (es m).v) X) t = getA X t := fun X b => by
        cases b with
        | false => rfl
        | true => exact getA_putA_ne _ _ _ _ e
      rw [this, this]; exact ih

theorem frD_stop {D : Nat → Bool} {t m : Nat} : ∀ {m' : Nat}, m ≤ m' → (∀ j, m ≤ j → j < m' → dstOf all j = some t → D j = false) → getA (frD all fr0 es D m') t = getA (frD all fr0 es D m) t
  | 0, hm, _ => by have : m = 0 := by omega
                   subst this; rfl
  | m' + 1, hm, h => by
    by_cases e : m = m' + 1
    · subst e; rfl
    · have ih := frD_stop (m' := m') (by omega) fun j h1 h2 => h j h1 (by omega)
      simp only [frD]
      by_cases ed : dstOf all m' = some t
      · rw [h m' (by omega) (by omega) ed]; exact ih
      · cases D m' with
        | false => exact ih
        | true => simp only [cond_true]; rw [getA_putA_ne _ _ _ _ ed]; exact ih

theorem hD_agree {D D' : Nat → Bool} {k : Nat} : ∀ {m : Nat}, (∀ j, j < m → k ∈ keysD (es j).d → D j = D' j) → hD h0 es D m k = hD h0 es D' m k
  | 0, _ => rfl
  | m + 1, h => by
    have ih := hD_agree (m := m) fun j hj => h j (by omega)
    simp only [hD]
    by_cases e : k ∈ keysD (es m).d
    · rw [h m (by omega) e]
      cases D' m with
      | false => exact ih
      | true => exact updD_mem _ e
    · have : ∀ X : Nat → Ob, ∀ b : Bool, cond b (updD X (es m).d) X k = X k := fun X b => by
        cases b with
        | false => rfl
        | true => exact updD_not _ e
      rw [this, this]; exact ih

theorem hD_stop {D : Nat → Bool} {k m : Nat} : ∀ {m' : Nat}, m ≤ m' → (∀ j, m ≤ j → j < m' → k ∈ keysD (es j).d → D j = false) → hD h0 es D m' k = hD h0 es D m k
  | 0, hm, _ => by have : m = 0 := by omega
                   subst this; rfl
  | m' + 1, hm, h => by
    by_cases e : m = m' + 1
    · subst e; rfl
    · have ih := hD_stop (m' := m') (by omega) fun j h1 h2 => h j h1 (by omega)
      simp only [hD]
      by_cases ed : k ∈ keysD (es m').d
      · rw [h m' (by omega) (by omega) ed]; exact ih
      · cases D m' with
        | false => exact ih
        | true => simp only [cond_true]; rw [updD_not _ ed]; exact ih

theorem hD_yes : ∀ m, hD h0 es yes m = getH (hL h0 es m)
  | 0 => rfl
  | m + 1 => by simp only [hD, hL, yes, cond_true]; rw [getH_apD, ← hD_yes m]

theorem setH_len : ∀ (l : Heap) (i : Nat) (o : Ob), l.length ≤ (setH l i o).length ∧ i < (setH l i o).length
  | [], 0, o => by simp [setH]
  | [], i + 1, o => by have := setH_len [] i o; simp only [setH, List.length_cons, List.length_nil] at *; omega
  | x :: l, 0, o => by simp [setH]
  | x :: l, i + 1, o => by have := setH_len l i o; simp only [setH, List.length_cons] at *; omega

theorem apD_len : ∀ (d : Delta) (l : Heap), l.length ≤ (apD l d).length ∧ ∀ k, k ∈ keysD d → k < (apD l d).length
  | [], l => ⟨Nat.le_refl _, fun k hk => by simp [keysD] at hk⟩
  | (i, o) :: d, l => by
    have a := setH_len l i o
    have b := apD_len d (setH l i o)
    simp only [apD, keysD, List.mem_cons]
    refine ⟨by omega, fun k hk => ?_⟩
    rcases hk with rfl | hk
    · omega
    · exact b.2 k hk

theorem hL_mono : ∀ {m m' : Nat}, m ≤ m' → (hL h0 es m).length ≤ (hL h0 es m').length
  | m, 0, h => by have : m = 0 := by omega
                  subst this; exact Nat.le_refl _
  | m, m' + 1, h => by
    by_cases e : m = m' + 1
    · subst e; exact Nat.le_refl _
    · exact Nat.le_trans (hL_mono (by omega)) (apD_len _ _).1

theorem memN_iff : ∀ {l : List Nat} {n : Nat}, memN l n = true ↔ n ∈ l
  | [], n => by simp [memN]
  | a :: l, n => by
    simp only [memN, List.mem_cons]
    cases h : Nat.beq a n with
    | true => simp [Nat.eq_of_beq_eq_true h]
    | false =>
      have : n ≠ a := fun e => by subst e; simp at h
      simp [this, memN_iff]

theorem hideL_mem (A : List Nat) (i : Nat) : ∀ (lg : List LogE) (l : List Nat) (k : Nat), (k ∈ l ∨ ∃ e, e ∈ lg ∧ besideA A i e.ix = true ∧ k ∈ e.keys) → k ∈ hideL A i lg l
  | [], l, k, h => by
    rcases h with h | ⟨e, h, _⟩
    · exact h
    · simp at h
  | x :: lg, l, k, h => by
    simp only [hideL]
    refine hideL_mem A i lg _ k ?_
    rcases h with h | ⟨e, h, hb, hk⟩
    · left; cases besideA A i x.ix <;> simp [catL_eq, h]
    · cases h with
      | head => left; rw [hb]; simp [catL_eq, hk]
      | tail _ h => exact .inr ⟨e, h, hb, hk⟩

theorem keyOk_spec (A : List Nat) (cm : Nat → List Nat) (i k : Nat) : ∀ (lg : List LogE), keyOk A cm i k lg = true → ∀ e, e ∈ lg → besideA A i e.ix = true → k ∈ cm e.ix ∨ e.nid ≤ k
  | [], _, e, h, _ => by simp at h
  | x :: lg, H, e, h, hb => by
    simp only [keyOk] at H
    cases h with
    | head =>
      rw [hb] at H
      simp only [cond_true] at H
      cases hq : (memN (cm x.ix) k || Nat.ble x.nid k) with
      | false => rw [hq] at H; simp at H
      | true =>
        simp only [Bool.or_eq_true] at hq
        exact hq.imp memN_iff.1 Nat.le_of_ble_eq_true
    | tail _ h =>
      have : keyOk A cm i k lg = true := by
        cases h1 : besideA A i x.ix with
        | false => rw [h1] at H; exact H
        | true =>
          rw [h1] at H
          simp only [cond_true] at H
          cases hq : (memN (cm x.ix) k || Nat.ble x.nid k) with
          | false => rw [hq] at H; simp at H
          | true => rw [hq] at H; exact H
      exact keyOk_spec A cm i k lg this e h hb

theorem keysOk_spec (A : List Nat) (cm : Nat → List Nat) (i : Nat) (lg : List LogE) (hid : List Nat) : ∀ (ks : List Nat), keysOk A cm i lg hid ks = true → ∀ k, k ∈ ks → k ∉ hid ∧ keyOk A cm i k lg = true
  | [], _, k, h => by simp at h
  | x :: ks, H, k, h => by
    simp only [keysOk] at H
    cases h1 : memN hid x with
    | true => rw [h1] at H; simp at H
    | false =>
      rw [h1] at H
      simp only [cond_false] at H
      cases h2 : keyOk A cm i x lg with
      | false => rw [h2] at H; simp at H
      | true =>
        rw [h2] at H
        simp only [cond_true] at H
        cases h with
        | head => exact ⟨fun hm => (by rw [memN_iff.2 hm] at h1; cases h1), h2⟩
        | tail _ h => exact keysOk_spec A cm i lg hid ks H k h

theorem lgOf_mem : ∀ {i j : Nat}, j < i → (es j).run = true → (⟨j, keysD (es j).d, lenL (hL h0 es j)⟩ : LogE) ∈ lgOf h0 es i
  | 0, j, h, _ => by omega
  | i + 1, j, h, hr => by
    simp only [lgOf]
    by_cases e : j = i
    · subst e; rw [hr]; simp
    · have := lgOf_mem (i := i) (j := j) (by omega) hr
      cases (es i).run <;> simp [this]

/-- `i` is done too. -/
def ins (D : Nat → Bool) (i : Nat) : Nat → Bool := fun j => if j = i then true else D j

theorem putA_comm (fr : List AV) {d d' : Option Nat} (v v' : AV) (h : ∀ t, d = some t → d' ≠ some t) : putA (putA fr d v) d' v' = putA (putA fr d' v') d v := by
  cases d with
  | none => rfl
  | some t =>
    cases d' with
    | none => rfl
    | some t' =>
      have : t ≠ t' := fun e => h t rfl (by rw [e])
      simp only [putA, setA_eq]
      exact List.set_comm _ _ this

theorem frD_insert {D : Nat → Bool} {i : Nat} (hi : D i = false) : ∀ {m : Nat}, i < m → (∀ j, i < j → j < m → D j = true → ∀ t, dstOf all i = some t → dstOf all j ≠ some t) →
    frD all fr0 es (ins D i) m = putA (frD all fr0 es D m) (dstOf all i) (es i).v
  | 0, h, _ => by omega
  | m + 1, h, hw => by
    simp only [frD]
    by_cases e : m = i
    · subst e
      have h1 : ins D m m = true := by simp [ins]
      rw [h1, hi]
      simp only [cond_true, cond_false]
      congr 1
      have : ∀ q, q ≤ m → frD all fr0 es (ins D m) q = frD all fr0 es D q := fun q => by
        induction q with
        | zero => intro _; rfl
        | succ q ih =>
          intro hq
          simp only [frD]
          rw [ih (by omega)]
          have : ins D m q = D q := by simp only [ins]; rw [if_neg (by omega)]
          rw [this]
      exact this m (Nat.le_refl _)
    · have ih := frD_insert hi (m := m) (by omega) fun j h1 h2 => hw j h1 (by omega)
      have h1 : ins D i m = D m := by simp [ins, e]
      rw [h1, ih]
      cases hd : D m with
      | false => rfl
      | true =>
        simp only [cond_true]
        exact putA_comm _ _ _ (hw m (by omega) (by omega) hd)

theorem hD_insert {D : Nat → Bool} {i : Nat} (hi : D i = false) : ∀ {m : Nat}, i < m → (∀ j, i < j → j < m → D j = true → ∀ k, k ∈ keysD (es i).d → k ∉ keysD (es j).d) →
    hD h0 es (ins D i) m = updD (hD h0 es D m) (es i).d
  | 0, h, _ => by omega
  | m + 1, h, hw => by
    simp only [hD]
    by_cases e : m = i
    · subst e
      have h1 : ins D m m = true := by simp [ins]
      rw [h1, hi]
      simp only [cond_true, cond_false]
      congr 1
      have : ∀ q, q ≤ m → hD h0 es (ins D m) q = hD h0 es D q := fun q => by
        induction q with
        | zero => intro _; rfl
        | succ q ih =>
          intro hq
          simp only [hD]
          rw [ih (by omega)]
          have : ins D m q = D q := by simp only [ins]; rw [if_neg (by omega)]
          rw [this]
      exact this m (Nat.le_refl _)
    · have ih := hD_insert hi (m := m) (by omega) fun j h1 h2 => hw j h1 (by omega)
      have h1 : ins D i m = D m := by simp [ins, e]
      rw [h1, ih]
      cases hd : D m with
      | false => rfl
      | true =>
        simp only [cond_true]
        funext k
        by_cases hk : k ∈ keysD (es m).d
        · have hk' : k ∉ keysD (es i).d := fun x => hw m (by omega) (by omega) hd k x hk
          rw [updD_not _ hk']
          exact updD_mem _ hk
        · rw [updD_not _ hk]
          exact (updD_congr _ (updD_not _ hk)).symm

end
end Ev
