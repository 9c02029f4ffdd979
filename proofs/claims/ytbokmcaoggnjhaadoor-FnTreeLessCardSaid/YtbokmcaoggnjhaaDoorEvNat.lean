/- What comes behind an operation does not bear upon what it does. Conditions: none. -/
import Derived.Test.YtbokmcaoggnjhaaDoorEvRep
set_option linter.unusedVariables false
set_option linter.unusedSimpArgs false
namespace Ev
open Go

theorem need_bind {α β : Type} (b : Bool) (x : Option α) (k : α → Option β) : (need b x).bind k = need b (x.bind k) := by cases b <;> rfl
theorem cond_bind {α β : Type} (b : Bool) (x y : Option α) (k : α → Option β) : (cond b x y).bind k = cond b (x.bind k) (y.bind k) := by cases b <;> rfl

section
variable {ρ : Type}

theorem binA_nat (op : BinOp) (i : Bool) (x y : AV) (K : AV → Option ρ) : binA op i x y K = (binA op i x y some).bind K := by
  unfold binA
  repeat' split
  all_goals first
    | rfl
    | (simp only [need_bind, cond_bind, Option.bind_some, Option.bind_none])

theorem sliceStr_nat (s : Str) (lo hi : Option AV) (K : AV → Option ρ) : sliceStr s lo hi K = (sliceStr s lo hi some).bind K := by
  unfold sliceStr
  repeat' split
  all_goals first
    | rfl
    | (simp only [need_bind, cond_bind, Option.bind_some, Option.bind_none])

theorem sliceRo_nat (t : FT) (s : List (El t)) (lo hi : Option AV) (K : AV → Option ρ) : sliceRo t s lo hi K = (sliceRo t s lo hi some).bind K := by
  unfold sliceRo
  repeat' split
  all_goals first
    | rfl
    | (simp only [need_bind, cond_bind, Option.bind_some, Option.bind_none])

theorem slicePsl_nat (id sz n : Nat) (lo hi : Option AV) (K : AV → Option ρ) : slicePsl id sz n lo hi K = (slicePsl id sz n lo hi some).bind K := by
  unfold slicePsl
  repeat' split
  all_goals first
    | rfl
    | (simp only [need_bind, cond_bind, Option.bind_some, Option.bind_none])

theorem lenA_nat (h : Nat → Ob) (K : AV → Option ρ) (i : Bool) (x : AV) : lenA h K i x = (lenA h some i x).bind K := by
  unfold lenA
  repeat' split
  all_goals first
    | rfl
    | (simp only [need_bind, cond_bind, Option.bind_some, Option.bind_none])

def pr (v : AV) (d : Delta) : Option (AV × Delta) := some (v, d)
def on (K : AV → Delta → Option ρ) (p : AV × Delta) : Option ρ := K p.1 p.2

theorem appA_nat (h : Nat → Ob) (nid : Nat) (ft : Option FT) (s x : AV) (K : AV → Delta → Option ρ) : appA h nid ft s x K = (appA h nid ft s x pr).bind (on K) := by
  unfold appA
  repeat' split
  all_goals first
    | rfl
    | (simp only [need_bind, cond_bind, Option.bind_some, Option.bind_none, pr, on])

theorem evOp_nat (C : Ctx) (o : Op) (av : Operand → AV) (h : Nat → Ob) (nid : Nat) (K : AV → Delta → Option ρ) :
    evOp C o av h nid K = (evOp C o av h nid pr).bind (on K) := by
  cases o
  case binOp op t x y u =>
    simp only [evOp]
    rw [binA_nat, binA_nat (K := fun v => pr v [])]
    cases binA op (C.ty t).d.isBool (av x) (av y) some <;> rfl
  case call c =>
    obtain ⟨cal, args, tys⟩ := c
    cases cal <;> simp only [evOp] <;> try rfl
    split
    · split
      · rw [cond_bind, lenA_nat, lenA_nat (K := fun v => pr v [])]
        cases lenA h some _ _ <;> rfl
      · rfl
    · split
      · split
        · rw [cond_bind, appA_nat]; rfl
        · rfl
      · rfl
    · split <;> rfl
    · split <;> rfl
    · rfl
  case slice t x lo hi mx =>
    cases mx with
    | some m => rfl
    | none =>
      simp only [evOp]
      split
      · split
        · rw [sliceStr_nat, sliceStr_nat (K := fun v => pr v [])]
          cases sliceStr _ _ _ some <;> rfl
        · rfl
      · rw [cond_bind]
        congr 1
        split
        · rw [cond_bind, sliceRo_nat, sliceRo_nat (K := fun v => pr v [])]
          cases sliceRo _ _ _ _ some <;> rfl
        · split
          · rw [cond_bind, slicePsl_nat, slicePsl_nat (K := fun v => pr v [])]
            cases slicePsl _ _ _ _ _ some <;> rfl
          · rfl
        · rfl
      · rfl
  case makeFunc f a b => cases f <;> rfl
  all_goals
    try simp only [evOp]
    try simp only [cond_bind]
    try (congr 1; done)
    try congr 1
    try (repeat' split)
    all_goals first
      | rfl
      | (simp only [need_bind, cond_bind, Option.bind_some, Option.bind_none, pr, on]; done)
      | trace_state

end
end Ev
