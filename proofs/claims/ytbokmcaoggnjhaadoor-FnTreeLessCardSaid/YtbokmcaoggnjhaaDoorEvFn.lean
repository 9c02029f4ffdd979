/- Functions. Conditions: as stated. -/
import Derived.Test.YtbokmcaoggnjhaaDoorEvCode
set_option linter.unusedVariables false
set_option linter.unusedSimpArgs false
namespace Ev
open Go

def resM (tmps : Array Value) : ResultVar → Sem Value
  | .tmp t => pure (tmps.getD t undef)
  | .cell a t => do loadVar t (← asAddr (tmps.getD a undef))

theorem results_eq (fn : Func) (tmps : Array Value) : results fn tmps = (do
    let vs ← fn.results.mapM (resM tmps)
    pure (if h : vs.size = 1 then vs[0] else .tuple vs)) := by
  unfold results
  rfl

section
variable {E : Env} {keep : Nat} {ι : Nat → Option Value} {N : Nat → Prop} {w : World}

theorem resA_sound (T : TyOk E.P E.C) {st : St} {a : Act} (R : RepSt E keep ι N st a w) : ∀ (rs : List ResultVar) (l : List AV), resA E.C st.fr (getH st.hp) rs = some l →
    ∃ vals : List Value, (rs.mapM (resM a.tmps)).run E.P w = .ok vals w ∧ VRL ι N w l vals
  | [], l, H => by
    simp only [resA, Option.some.injEq] at H; subst H
    exact ⟨[], by simp [Sem.run_pure], by simp only [VRL]⟩
  | .tmp t :: rs, l, H => by
    simp only [resA] at H
    split at H
    · rename_i l' h'
      cases H
      obtain ⟨vals, h1, h2⟩ := resA_sound T R rs l' h'
      refine ⟨a.tmps.getD t undef :: vals, ?_, ?_⟩
      · simp only [List.mapM_cons, resM, Sem.run_bind, Sem.run_pure, Result.andThen_ok, h1]
      · simp only [VRL]
        exact ⟨R.fr.opnd (F := st.fr) (fun t => .inr rfl) (.tmp t), h2⟩
    · cases H
  | .cell p t :: rs, l, H => by
    simp only [resA] at H
    split at H
    · rename_i id o hp
      split at H
      · rename_i cs hcs
        cases hot : (E.C.ty t).d.isOther with
        | true => rw [hot] at H; simp at H
        | false =>
          rw [hot] at H
          simp only [cond_false] at H
          split at H
          · rename_i v l' hpart h'
            cases H
            obtain ⟨vals, h1, h2⟩ := resA_sound T R rs l' h'
            have hv := R.fr.opnd (F := st.fr) (fun t => .inr rfl) (.tmp p)
            simp only [Ev.opnd, hp, VR, Act.eval] at hv
            obtain ⟨b, q, e1, e2⟩ := hv
            obtain ⟨u, hu, hob⟩ := R.rep.ob id (by rw [hcs]; simp)
            rw [e1] at hu; cases hu
            rw [hcs] at hob
            obtain ⟨b', q', c, T0, e3, _, hheap, hcells⟩ := hob
            cases e3
            obtain ⟨x, hrun, hx⟩ := run_load_cells T hheap hcells hpart hot
            refine ⟨x :: vals, ?_, ?_⟩
            · have hl : (loadVar t ⟨b, q + o, none⟩).run E.P w = .ok x w := by
                have := hrun
                simpa [Instr.loadAt, Instr.sureAddr, Sem.run_bind, Sem.run_pure] using this
              simp only [List.mapM_cons, resM, Sem.run_bind, e2, asAddr, Sem.run_pure, Result.andThen_ok, hl, h1]
            · simp only [VRL]
              exact ⟨part_vr (fun _ _ x => x) hx, h2⟩
          · cases H
      · cases H
    · cases H

theorem results_sound (T : TyOk E.P E.C) {st : St} {a : Act} (R : RepSt E keep ι N st a w) {fn : Func} {l : List AV} (H : resA E.C st.fr (getH st.hp) fn.results.toList = some l) :
    ∃ val, (results fn a.tmps).run E.P w = .ok val w ∧ VR ι N w (resV l) val := by
  obtain ⟨vals, h1, h2⟩ := resA_sound T R _ _ H
  refine ⟨if h : vals.toArray.size = 1 then vals.toArray[0] else .tuple vals.toArray, ?_, ?_⟩
  · skip
    rw [results_eq, Array.mapM_eq_mapM_toList]
    simp only [List.toList_toArray, Sem.run_bind]
    have : ∀ (s : Sem (List Value)), s.run E.P w = .ok vals w → (List.toArray <$> s).run E.P w = .ok vals.toArray w := fun s hs => by
      rw [← bind_pure_comp, Sem.run_bind, hs]; rfl
    rw [this _ h1]
    rfl
  · have hl := h2.len
    unfold resV
    split
    · rename_i x
      cases vals with
      | nil => simp at hl
      | cons v vs =>
        cases vs with
        | nil => simp only [VRL] at h2; simpa using h2.1
        | cons _ _ => simp at hl
    · rename_i hne
      have : ¬ vals.toArray.size = 1 := by
        intro h
        have hlen : l.length = 1 := by rw [hl]; simpa using h
        obtain ⟨x, hx⟩ := List.length_eq_one_iff.1 hlen
        exact hne x hx
      rw [dif_neg this]
      simp only [VR]
      exact ⟨vals.toArray, rfl, by simpa using h2⟩

end

/-- A FUNCTION's CALL, where the evaluator speaks. -/
theorem calls_of_ev {P : Program} {C : Ctx} {H : Hnd} {f : Nat} {fn : Func} {ann : Ann} {S : Spec} (T : TyOk P C) (hH : HndOk P C H) (hf : P.funcs[f]? = some fn)
    (hb : fn.body.isNone = false) (hwf : S.wf = true) (d : Den S.ids) (r : Den S.out.ds) (hF : evFn C H fn ann S d = some r) (E : Env) (eP : E.P = P) (eC : E.C = C) (ι : Nat → Option Value) (N : Nat → Prop) (w : World) (vs : Array Value)
    (args : List AV) (l : List Dat) (hinsts : Tp.insts (fun j => j) S.args (Den.list S.ids d) = (args, l)) (hv : VRL ι N w args vs.toList) (R : RepH E ι N (getH (OT.insts (fun j => j) S.ihp l)) w)
    (new : ∀ i, S.ihp.length ≤ i → ι i = none) :
    Calls P f vs w fun e w' => ∃ val, e = .returned val ∧ ∃ ι' N' v l', S.out.res.inst (fun j => j) (Den.list S.out.ds r) = (v, l') ∧ VR ι' N' w' v val ∧
      RepH E ι' N' (getH (OT.insts (fun j => j) S.out.hp l')) w' ∧ (∀ i, S.out.hp.length ≤ i → ι' i = none) ∧ Grow E S.keep ι N w ι' N' w' := by
  subst eP eC
  unfold evFn at hF
  cases hbody : fn.body with
  | none => rw [hbody] at hb; cases hb
  | some c =>
    rw [hbody] at hF
    simp only [hinsts] at hF
    refine calls_of_wp hf hbody ?_
    have hkeep : S.keep ≤ S.ihp.length := by
      simp only [Spec.wf, Bool.and_eq_true] at hwf
      have := Nat.le_of_ble_eq_true hwf.1; rwa [lenL_eq] at this
    have hlen : args.length = vs.size := by rw [hv.len]; simp
    refine evCode_sound (keep := S.keep) T hH c ann _ _ r hF ι N _ w ⟨?_, R, fun i hi => ?_, ?_⟩ _ fun e st' hK hl a' w' ι' N' R' G df => ?_
    · simp only [catL_eq, lenL_eq, Array.toList_append, hlen]
      exact hv.append (blankA_vrl _ _ (by simp))
    · dsimp only at hi; rw [ots_len] at hi; exact new i hi
    · dsimp only; rw [ots_len]; exact hkeep
    · have fin : ∀ {l : List AV}, resA E.C st'.fr (getH st'.hp) fn.results.toList = some l → S.out.of S.keep (resV l) st'.hp = some r → a'.defers = [] ∧ ∃ v, (results fn a'.tmps).run E.P w' = .ok v w' ∧
          ∃ val, Ending.returned v = .returned val ∧ ∃ ι' N' v l', S.out.res.inst (fun j => j) (Den.list S.out.ds r) = (v, l') ∧ VR ι' N' w' v val ∧
            RepH E ι' N' (getH (OT.insts (fun j => j) S.out.hp l')) w' ∧ (∀ i, S.out.hp.length ≤ i → ι' i = none) ∧ Grow E S.keep ι N w ι' N' w' := fun {l} h1 h2 => by
        obtain ⟨val, hrun, hval⟩ := results_sound T R' h1
        obtain ⟨ι2, N2, v', l', e1, e2, e3, e4, e5⟩ := out_sound h2 R'.rep R'.new R'.kp hval
        exact ⟨df, val, hrun, val, rfl, ι2, N2, v', l', e1, e2, e3, e4, G.trans e5⟩
      cases e with
      | exit i => cases hK
      | normal =>
        dsimp only at hK
        split at hK
        · rename_i l h1; exact fin h1 hK
        · cases hK
      | ret =>
        dsimp only at hK
        split at hK
        · rename_i l h1; exact fin h1 hK
        · cases hK

/-- A FUNCTION MEETS ITS CONTRACT, where the evaluator says so. -/
theorem sound_of_ev {P : Program} {C : Ctx} {H : Hnd} {f : Nat} {fn : Func} {ann : Ann} {S : Spec} (T : TyOk P C) (hH : HndOk P C H) (hf : P.funcs[f]? = some fn) (hname : (fn.name == "runtime.NumGoroutine") = false)
    (hb : fn.body.isNone = false) (hwf : S.wf = true) (hev : ∀ d, evFn C H fn ann S d = S.F d) : SoundS P C f S :=
  ⟨hwf, fun d r hF E eP eC ι N w vs args l hinsts hv R new => OpR.of_calls hf hname hb (calls_of_ev T hH hf hb hwf d r ((hev d).trans hF) E eP eC ι N w vs args l hinsts hv R new)⟩

end Ev
