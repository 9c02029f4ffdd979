/- A small calculus of what functions give back: that they do, and what is so of it. Conditions: none. -/
import Derived.Test.YtbokmcaoggnjhaaDoorEvLaw
set_option linter.unusedVariables false
set_option linter.unusedSimpArgs false
namespace Ev
open Go

/-- It gives something back, of which Q is so. -/
def Ret {α : Type} (x : Option α) (Q : α → Prop) : Prop := ∃ a, x = some a ∧ Q a

theorem Ret.pure {α : Type} {a : α} {Q : α → Prop} (h : Q a) : Ret (some a) Q := ⟨a, rfl, h⟩
theorem Ret.of {α : Type} {x : Option α} {a : α} {Q : α → Prop} (e : x = some a) (h : Q a) : Ret x Q := ⟨a, e, h⟩
theorem Ret.mono {α : Type} {x : Option α} {P Q : α → Prop} (h : Ret x P) (k : ∀ a, P a → Q a) : Ret x Q := by
  obtain ⟨a, e, q⟩ := h; exact ⟨a, e, k a q⟩
theorem Ret.bind {α β : Type} {x : Option α} {f : α → Option β} {P : α → Prop} {Q : β → Prop} (h : Ret x P) (k : ∀ a, P a → Ret (f a) Q) : Ret (x.bind f) Q := by
  obtain ⟨a, rfl, q⟩ := h; exact k a q
theorem Ret.need {α : Type} {b : Bool} {x : Option α} {Q : α → Prop} (h : b = true) (k : Ret x Q) : Ret (Ev.need b x) Q := by subst h; exact k
theorem Ret.cond {α : Type} {b : Bool} {x y : Option α} {Q : α → Prop} (h1 : b = true → Ret x Q) (h0 : b = false → Ret y Q) : Ret (bif b then x else y) Q := by
  cases b
  · exact h0 rfl
  · exact h1 rfl
theorem Ret.ite {α : Type} {p : Prop} [Decidable p] {x y : Option α} {Q : α → Prop} (h1 : p → Ret x Q) (h0 : ¬ p → Ret y Q) : Ret (if p then x else y) Q := by
  by_cases h : p
  · rw [if_pos h]; exact h1 h
  · rw [if_neg h]; exact h0 h
theorem Ret.map {α β : Type} {x : Option α} {f : α → β} {Q : β → Prop} (h : Ret x (fun a => Q (f a))) : Ret (x.map f) Q := by
  obtain ⟨a, rfl, q⟩ := h; exact ⟨f a, rfl, q⟩

/-- A loop: what is kept, what goes down. -/
theorem Ret.loop {T σ : Type} {step : (T → Option σ) → T → Option σ} (Inv : T → Prop) (μ : T → Nat) (Q : T → σ → Prop)
    (h : ∀ again t, Inv t → (∀ t', Inv t' → μ t' < μ t → Ret (again t') (Q t')) → Ret (step again t) (Q t)) : ∀ n t, Inv t → μ t < n → Ret (loopN step n t) (Q t)
  | 0, _, _, hn => absurd hn (Nat.not_lt_zero _)
  | n + 1, t, hi, hn => h _ t hi fun t' hi' hm => Ret.loop Inv μ Q h n t' hi' (by omega)

/-- A loop that comes to just what a plain function says. -/
theorem loop_eq {T σ : Type} {step : (T → Option σ) → T → Option σ} (Inv : T → Prop) (μ : T → Nat) (g : T → σ)
    (h : ∀ again t, Inv t → (∀ t', Inv t' → μ t' < μ t → again t' = some (g t')) → step again t = some (g t)) : ∀ n t, Inv t → μ t < n → loopN step n t = some (g t)
  | 0, _, _, hn => absurd hn (Nat.not_lt_zero _)
  | n + 1, t, hi, hn => h _ t hi fun t' hi' hm => loop_eq Inv μ g h n t' hi' (by omega)

/-! ### rewriting where conditions are met -/

theorem need_and {α : Type} {p q : Prop} [Decidable p] [Decidable q] {x : Option α} (hp : p) (hq : q) : need (decide p && decide q) x = x := need_true _ (by simp [hp, hq])
theorem need_dec {α : Type} {p : Prop} [Decidable p] {x : Option α} (hp : p) : need (decide p) x = x := need_true _ (by simp [hp])
theorem need_decf {α : Type} {p : Prop} [Decidable p] {x : Option α} {n : Nat} (hp : p) (hn : n ≤ 1099511627776) : need (decide p && fits n) x = x := need_true _ (by simp [hp, fits_of hn])
theorem need_fits {α : Type} {n : Nat} {x : Option α} (h : n ≤ 1099511627776) : need (fits n) x = x := need_true _ (fits_of h)
theorem need_ne {α : Type} {a b : Int} {x : Option α} (h : a ≠ b) : need (a != b) x = x := need_true _ (by simp [h])
theorem need_t {α : Type} {x : Option α} : need true x = x := rfl
theorem c_dec {α : Type} (p : Prop) [Decidable p] (x y : α) : (bif decide p then x else y) = if p then x else y := by
  by_cases h : p <;> simp [h]
theorem c_eq {α β : Type} [BEq β] [LawfulBEq β] [DecidableEq β] (a b : β) (x y : α) : (bif a == b then x else y) = if a = b then x else y := by
  by_cases h : a = b
  · simp [h]
  · rw [if_neg h, beq_false_of_ne h]; rfl
theorem c_ne {α β : Type} [BEq β] [LawfulBEq β] [DecidableEq β] (a b : β) (x y : α) : (bif a != b then x else y) = if a = b then y else x := by
  by_cases h : a = b
  · simp [h]
  · rw [if_neg h, bne, beq_false_of_ne h]; rfl
theorem c_not {α : Type} (b : Bool) (x y : α) : (bif !b then x else y) = bif b then y else x := by cases b <;> rfl
theorem c_nodec {α : Type} (p : Prop) [Decidable p] (x y : α) : (bif !decide p then x else y) = if p then y else x := by
  by_cases h : p <;> simp [h]
theorem tmod_e {a b : Int} (h : 0 ≤ a) : a.tmod b = a % b := Int.tmod_eq_emod_of_nonneg h
theorem tdiv_e {a b : Int} (h : 0 ≤ a) : a.tdiv b = a / b := Int.tdiv_eq_ediv_of_nonneg h
theorem bind_some' {α β : Type} (a : α) (f : α → Option β) : (some a).bind f = f a := rfl
theorem bif_bind {α β : Type} (p : Prop) [Decidable p] (x y : Option α) (f : α → Option β) : (if p then x else y).bind f = if p then x.bind f else y.bind f := by
  by_cases h : p <;> simp [h]
theorem getD_in {α : Type} {l : List α} {i : Nat} {d : α} (h : i < l.length) : l.getD i d = l[i] := by simp [List.getD, h]

end Ev
