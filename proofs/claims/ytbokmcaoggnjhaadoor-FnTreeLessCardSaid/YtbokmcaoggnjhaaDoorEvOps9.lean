/- Each operation of the evaluator is what the model does: builtin calls; all operations in one. Conditions: the tables fit the program. -/
import Derived.Test.YtbokmcaoggnjhaaDoorEvOps8
set_option linter.unusedVariables false
set_option linter.unusedSimpArgs false
namespace Ev
open Go

section
variable {E : Env} {ι : Nat → Option Value} {N : Nat → Prop} {h : Nat → Ob} {w : World} {nid : Nat} {s : Sem Next} {ρ : Type}
  {av : Operand → AV} {ev : Operand → Value} {K : AV → Delta → Option ρ} {r : ρ}

theorem exec_builtin {b : Builtin} {args : Array Operand} {argTypes : Array TypeId} {o : Oper} (ho : o.op = .call { callee := .builtin b, args, argTypes }) {w' : World} {v : Value}
    (hb : ∀ consts, (builtin b argTypes o.type consts (args.map ev)).run E.P w = .ok (.value v) w') : (execOp ev o).run E.P w = .ok (.value v) w' := by
  simp only [execOp, ho, resolve, invoke, Sem.run_bind, Sem.run_pure, Result.andThen_ok]
  exact hb _

theorem len_sound (R : RepH E ι N h w) (T : TyOk E.P E.C) {t : Nat} (ht : slcOrStr (E.C.ty t).d = true) {a : AV} {x : Value} {K : AV → Option ρ} (hx : VR ι N w a x) (H : lenA h K (E.C.ty t).d.isStr a = some r) :
    ∃ v val, K v = some r ∧ VR ι N w v val ∧ ∀ ty, (Builtin.len_ #[t] ty #[x]).run E.P w = .ok val w := by
  have hu := T.und t
  have slc : (E.C.ty t).d.isStr = false → ∃ e, E.P.underlying t = some (.slice e) := by
    intro h1
    generalize (E.C.ty t).d = q at *
    cases q <;> simp [slcOrStr, TD.isStr] at ht h1
    exact ⟨_, hu⟩
  have str : (E.C.ty t).d.isStr = true → E.P.underlying t = some .string := by
    intro h1
    generalize (E.C.ty t).d = q at *
    cases q <;> simp [slcOrStr, TD.isStr] at ht h1
    exact hu
  have slen : ∀ {b : Option Addr} {n c : Nat}, (E.C.ty t).d.isStr = false → x = .slice b n c → ∀ ty, (Builtin.len_ #[t] ty #[x]).run E.P w = .ok (.int .i64 n) w := by
    intro b n c h1 h2 ty
    obtain ⟨e, he⟩ := slc h1
    subst h2
    simp [Builtin.len_, run_underlying he, goInt]
  unfold lenA at H
  split at H
  · simp only [VR] at hx; subst hx
    cases hs : (E.C.ty t).d.isStr with
    | false => rw [hs] at H; simp at H
    | true =>
      rw [hs] at H; simp only [cond_true] at H
      exact ⟨_, _, H, by (simp only [VR]; try rfl), fun ty => by simp [Builtin.len_, run_underlying (str hs), goInt, bytes_size]⟩
  · simp only [VR] at hx
    obtain ⟨b, cap, hx, _⟩ := hx
    cases hs : (E.C.ty t).d.isStr with
    | true => rw [hs] at H; simp at H
    | false =>
      rw [hs] at H; simp only [cond_false] at H
      exact ⟨_, _, H, by (simp only [VR]; try rfl), slen hs hx⟩
  · simp only [VR] at hx
    cases hs : (E.C.ty t).d.isStr with
    | true => rw [hs] at H; simp at H
    | false =>
      rw [hs] at H; simp only [cond_false] at H
      exact ⟨_, _, H, by (simp only [VR]; try rfl), slen hs hx⟩
  · rename_i id
    split at H
    · rename_i ft xs hxs
      cases hs : (E.C.ty t).d.isStr with
      | true => rw [hs] at H; simp at H
      | false =>
        rw [hs] at H; simp only [cond_false] at H
        simp only [VR] at hx
        obtain ⟨u, hu', hob⟩ := R.ob id (by rw [hxs]; simp)
        rw [hx.1] at hu'; cases hu'
        rw [hxs] at hob
        obtain ⟨b, cap, e1, _⟩ := hob
        exact ⟨_, _, H, by (simp only [VR]; try rfl), slen hs e1⟩
    · cases H
  · simp only [VR] at hx
    obtain ⟨_, _, _, _, _, a', cap', hx, _⟩ := hx
    cases hs : (E.C.ty t).d.isStr with
    | true => rw [hs] at H; simp at H
    | false =>
      rw [hs] at H; simp only [cond_false] at H
      exact ⟨_, _, H, by (simp only [VR]; try rfl), slen hs hx⟩
  · cases H

theorem min_run {P : Program} {w : World} {k : IntKind} : ∀ (l : List AV) (n : Int) (k' : IntKind) (m : Int) (vs : List Value), foldI minA k n l = some (k', m) → VRL ι N w l vs →
    (vs.foldlM Builtin.min2 (.int k n)).run P w = .ok (.int k' m) w
  | [], n, k', m, [], h, _ => by simp [foldI] at h; obtain ⟨rfl, rfl⟩ := h; rfl
  | .int k2 n2 :: l, n, k', m, v :: vs, h, hv => by
    simp only [foldI] at h
    split at h
    · rename_i e; subst e
      simp only [VRL, VR] at hv
      obtain ⟨rfl, hv⟩ := hv
      simp only [List.foldlM_cons, Sem.run_bind, Builtin.min2, Sem.run_pure, Result.andThen_ok]
      exact min_run l _ k' m vs h hv
    · cases h
  | [], _, _, _, _ :: _, _, hv => by simp [VRL] at hv
  | .int _ _ :: _, _, _, _, [], _, hv => by simp [VRL] at hv
  | .undef :: l, _, _, _, _, h, _ => by simp [foldI] at h
  | .bool _ :: l, _, _, _, _, h, _ => by simp [foldI] at h
  | .str _ :: l, _, _, _, _, h, _ => by simp [foldI] at h
  | .ro _ _ :: l, _, _, _, _, h, _ => by simp [foldI] at h
  | .roe _ _ _ :: l, _, _, _, _, h, _ => by simp [foldI] at h
  | .nilsl :: l, _, _, _, _, h, _ => by simp [foldI] at h
  | .nilp :: l, _, _, _, _, h, _ => by simp [foldI] at h
  | .ptr _ _ :: l, _, _, _, _, h, _ => by simp [foldI] at h
  | .full _ :: l, _, _, _, _, h, _ => by simp [foldI] at h
  | .psl _ _ _ _ :: l, _, _, _, _, h, _ => by simp [foldI] at h
  | .elp _ _ _ _ :: l, _, _, _, _, h, _ => by simp [foldI] at h
  | .map _ :: l, _, _, _, _, h, _ => by simp [foldI] at h
  | .fn _ _ _ :: l, _, _, _, _, h, _ => by simp [foldI] at h
  | .agg _ :: l, _, _, _, _, h, _ => by simp [foldI] at h
  | .tup _ :: l, _, _, _, _, h, _ => by simp [foldI] at h
  | .gptr _ _ :: l, _, _, _, _, h, _ => by simp [foldI] at h

theorem max2_int' {P : Program} {w : World} (k : IntKind) (x y : Int) : (Builtin.max2 (.int k x) (.int k y)).run P w = .ok (.int k (maxA x y)) w := by
  simp [Builtin.max2, maxA]

theorem max_run {P : Program} {w : World} {k : IntKind} : ∀ (l : List AV) (n : Int) (k' : IntKind) (m : Int) (vs : List Value), foldI maxA k n l = some (k', m) → VRL ι N w l vs →
    (vs.foldlM Builtin.max2 (.int k n)).run P w = .ok (.int k' m) w
  | [], n, k', m, [], h, _ => by simp [foldI] at h; obtain ⟨rfl, rfl⟩ := h; rfl
  | .int k2 n2 :: l, n, k', m, v :: vs, h, hv => by
    simp only [foldI] at h
    split at h
    · rename_i e; subst e
      simp only [VRL, VR] at hv
      obtain ⟨rfl, hv⟩ := hv
      simp only [List.foldlM_cons, Sem.run_bind, max2_int', Result.andThen_ok]
      exact max_run l _ k' m vs h hv
    · cases h
  | [], _, _, _, _ :: _, _, hv => by simp [VRL] at hv
  | .int _ _ :: _, _, _, _, [], _, hv => by simp [VRL] at hv
  | .undef :: l, _, _, _, _, h, _ => by simp [foldI] at h
  | .bool _ :: l, _, _, _, _, h, _ => by simp [foldI] at h
  | .str _ :: l, _, _, _, _, h, _ => by simp [foldI] at h
  | .ro _ _ :: l, _, _, _, _, h, _ => by simp [foldI] at h
  | .roe _ _ _ :: l, _, _, _, _, h, _ => by simp [foldI] at h
  | .nilsl :: l, _, _, _, _, h, _ => by simp [foldI] at h
  | .nilp :: l, _, _, _, _, h, _ => by simp [foldI] at h
  | .ptr _ _ :: l, _, _, _, _, h, _ => by simp [foldI] at h
  | .full _ :: l, _, _, _, _, h, _ => by simp [foldI] at h
  | .psl _ _ _ _ :: l, _, _, _, _, h, _ => by simp [foldI] at h
  | .elp _ _ _ _ :: l, _, _, _, _, h, _ => by simp [foldI] at h
  | .map _ :: l, _, _, _, _, h, _ => by simp [foldI] at h
  | .fn _ _ _ :: l, _, _, _, _, h, _ => by simp [foldI] at h
  | .agg _ :: l, _, _, _, _, h, _ => by simp [foldI] at h
  | .tup _ :: l, _, _, _, _, h, _ => by simp [foldI] at h
  | .gptr _ _ :: l, _, _, _, _, h, _ => by simp [foldI] at h

theorem foldA_cons {f : Int → Int → Int} {l : List AV} {k : IntKind} {m : Int} (h : foldA f l = some (k, m)) : ∃ k0 n l', l = .int k0 n :: l' ∧ foldI f k0 n l' = some (k, m) := by
  cases l with
  | nil => simp [foldA] at h
  | cons a l => cases a <;> simp [foldA] at h; exact ⟨_, _, _, rfl, h⟩

theorem op_builtin (T : TyOk E.P E.C) (R : RepH E ι N h w) (hv : ∀ x, VR ι N w (av x) (ev x)) {b : Builtin} (hi : b = .append → ι nid = none) {args : Array Operand} {argTypes : Array TypeId} {o : Oper}
    (ho : o.op = .call { callee := .builtin b, args, argTypes }) (H : evOp E.C (.call { callee := .builtin b, args, argTypes }) av h nid K = some r) : ∃ v d, K v d = some r ∧ Res E ι N h w nid (execOp ev o) v d := by
  simp only [evOp] at H
  split at H
  · rename_i x hx
    have hargs : args = #[x] := by apply Array.ext'; simpa using hx
    split at H
    · rename_i t ht
      have htys : argTypes = #[t] := by apply Array.ext'; simpa using ht
      cases hs : slcOrStr (E.C.ty t).d with
      | false => rw [hs] at H; simp at H
      | true =>
        rw [hs] at H; simp only [cond_true] at H
        obtain ⟨v, val, H, hvr, hrun⟩ := len_sound R T hs (hv x) H
        refine ⟨v, [], H, Res.pure R (exec_builtin ho fun c => ?_) hvr⟩
        subst hargs htys
        simp [builtin, hrun]
    · cases H
  · rename_i sl x hx
    have hargs : args = #[sl, x] := by apply Array.ext'; simpa using hx
    split at H
    · rename_i t1 t2 ht
      have htys : argTypes = #[t1, t2] := by apply Array.ext'; simpa using ht
      split at H
      · rename_i e he
        cases hs : slcOrStr (E.C.ty t2).d with
        | false => rw [hs] at H; simp at H
        | true =>
          rw [hs] at H; simp only [cond_true] at H
          obtain ⟨v, d, H, val, w', ι', hrun, hvr, L, R', h1, h2⟩ := app_res T R (hi rfl) he hs (hv sl) (hv x) H
          refine ⟨v, d, H, val, w', ι', N, .inl (exec_builtin ho fun c => ?_), hvr, L, R', .inr ⟨h1, h2⟩, fun b hb => .inl hb⟩
          subst hargs htys
          simp [builtin, hrun]
      · cases H
    · cases H
  · split at H
    · rename_i k n hf
      obtain ⟨k0, n0, l', hl, hf⟩ := foldA_cons hf
      have hvl := VRL.mapL hv args.toList
      rw [hl] at hvl
      cases hargs : args.toList with
      | nil => rw [hargs] at hvl; simp [VRL] at hvl
      | cons y ys =>
        rw [hargs] at hvl
        simp only [List.map_cons, VRL, VR] at hvl
        refine ⟨_, [], H, Res.pure R (val := .int k n) (exec_builtin ho fun c => ?_) (by simp only [VR])⟩
        have hm : (args.map ev).toList = .int k0 n0 :: ys.map ev := by rw [Array.toList_map, hargs]; simp [hvl.1]
        have := min_run (P := E.P) l' n0 k n (ys.map ev) hf hvl.2
        simp only [builtin, Builtin.min_, hm, Sem.run_bind, this]; rfl
    · cases H
  · split at H
    · rename_i k n hf
      obtain ⟨k0, n0, l', hl, hf⟩ := foldA_cons hf
      have hvl := VRL.mapL hv args.toList
      rw [hl] at hvl
      cases hargs : args.toList with
      | nil => rw [hargs] at hvl; simp [VRL] at hvl
      | cons y ys =>
        rw [hargs] at hvl
        simp only [List.map_cons, VRL, VR] at hvl
        refine ⟨_, [], H, Res.pure R (val := .int k n) (exec_builtin ho fun c => ?_) (by simp only [VR])⟩
        have hm : (args.map ev).toList = .int k0 n0 :: ys.map ev := by rw [Array.toList_map, hargs]; simp [hvl.1]
        have := max_run (P := E.P) l' n0 k n (ys.map ev) hf hvl.2
        simp only [builtin, Builtin.max_, hm, Sem.run_bind, this]; rfl
    · cases H
  · cases H

theorem op_move (R : RepH E ι N h w) (hv : ∀ x, VR ι N w (av x) (ev x)) {x : Operand} {o : Oper} (ho : o.op = .move x ∨ o.op = .assign x)
    (H : K (av x) [] = some r) : ∃ v d, K v d = some r ∧ Res E ι N h w nid (execOp ev o) v d := by
  refine ⟨_, _, H, Res.pure R (val := ev x) ?_ (hv x)⟩
  rcases ho with ho | ho <;> simp [execOp, ho]

/-- The operations that make a new object. -/
def newOp : Op → Bool
  | .alloc _ | .box _ _ | .buildSlice _ _ _ | .makeSlice _ _ _ => true
  | .call { callee := .builtin .append, .. } => true
  | _ => false

/-- ALL OPERATIONS (calls of Go functions apart). -/
theorem evOp_sound (T : TyOk E.P E.C) (R : RepH E ι N h w) (hv : ∀ x, VR ι N w (av x) (ev x)) {o : Oper} (hi : newOp o.op = true → ι nid = none)
    (H : evOp E.C o.op av h nid K = some r) : ∃ v d, K v d = some r ∧ Res E ι N h w nid (execOp ev o) v d := by
  generalize hop : o.op = op at H hi
  cases op with
  | move x => exact op_move R hv (.inl hop) (by simpa only [evOp] using H)
  | assign x => exact op_move R hv (.inr hop) (by simpa only [evOp] using H)
  | pick c a b => exact op_pick R hv hop H
  | alloc t => exact op_alloc T R (hi rfl) hop H
  | box t x => exact op_box R hv (hi rfl) hop H
  | build t ps => exact op_build T R hv hop H
  | buildSlice t n ps => exact op_buildSlice T R hv (hi rfl) hop H
  | load t p => exact op_load T R hv hop H
  | store t p x => exact op_store T R hv hop H
  | nilCheck x => exact op_nilCheck R hv hop H
  | binOp op t x y u => exact op_binOp T R hv hop H
  | unOp op t x => exact op_unOp T R hv hop H
  | convert t u x => exact op_convert T R hv hop H
  | makeFunc f a b => exact op_makeFunc R hv hop H
  | makeSlice t l c => exact op_makeSlice T R hv (hi rfl) hop H
  | slice t x lo hi mx => exact op_slice T R hv hop H
  | fieldAddr t x f => exact op_fieldAddr T R hv hop H
  | field t x f => exact op_field T R hv hop H
  | indexAddr t x i => exact op_indexAddr T R hv hop H
  | index t x i => exact op_index T R hv hop H
  | extract x i => exact op_extract R hv hop H
  | call c =>
    obtain ⟨cal, args, tys⟩ := c
    cases cal with
    | builtin b => exact op_builtin T R hv (fun e => hi (by subst e; rfl)) hop H
    | _ => simp [evOp] at H
  | _ => simp [evOp] at H

end
end Ev
