/- Code and functions. Conditions: as stated. -/
import Derived.Test.YtbokmcaoggnjhaaDoorEvRegion2
import Derived.Deep.LoopGhost
set_option linter.unusedVariables false
set_option linter.unusedSimpArgs false
namespace Ev
open Go

/-! ### shapes of states -/

theorem renA_idRen : ∀ (n j : Nat), renA (idRen n) j = if j < n then some j else none
  | 0, j => by simp [idRen, renA]
  | n + 1, j => by
    simp only [idRen, renA]
    cases hb : Nat.beq n j with
    | true => have := Nat.eq_of_beq_eq_true hb; subst this; simp
    | false =>
      have hne : n ≠ j := fun e => by subst e; simp at hb
      simp only [cond_false]
      rw [renA_idRen n j]
      by_cases h : j < n
      · rw [if_pos h, if_pos (by omega)]
      · rw [if_neg h, if_neg (by omega)]

theorem renHas_idRen : ∀ (n i : Nat), i < n → renHas (idRen n) i = true
  | 0, i, h => by omega
  | n + 1, i, h => by
    simp only [idRen, renHas]
    by_cases e : n = i
    · subst e; simp
    · rw [renHas_idRen n i (by omega)]
      cases Nat.beq n i <;> rfl

section
variable {E : Env} {keep : Nat} {ι : Nat → Option Value} {N : Nat → Prop} {w : World} {hp : Heap}

theorem mok0 (h : Nat → Ob) (keep n : Nat) : MOk h n ⟨idRen keep, [], n, [], []⟩ := by
  refine ⟨fun j j' i e e' => ?_, fun j i e => ?_, fun x hx => by simp at hx, fun i hi => by simp at hi, Nat.le_refl _⟩
  · simp only [renA_idRen] at e e'
    split at e <;> split at e' <;> simp_all
  · simp only [renA_idRen] at e
    split at e
    · cases e; exact renHas_idRen _ _ (by assumption)
    · cases e

/-- What the image of a state under a shape keeps. -/
theorem img_core (R : RepH E ι N (getH hp) w) (new : ∀ i, hp.length ≤ i → ι i = none) (kp : keep ≤ hp.length) {ots : List OT} {m1 m2 : M}
    (x1 : M.Ext ⟨idRen keep, [], lenL hp, [], []⟩ m1) (o1 : MOk (getH hp) (lenL hp) m1) (h2 : OT.mts (getH hp) (getOT ots) ots 0 m1 = some m2) (hok : m2.ok (lenL ots) = true) :
    m1.Ext m2 ∧ Img E ι N (getH hp) w m2 (addL ι m2.add) (imgL ι m2) (imgN ι N m2) ∧ ∃ n2, m2.ds = n2.reverse ++ m1.ds ∧
      RepH E (imgL ι m2) (imgN ι N m2) (getH (OT.insts (fun j => j) ots n2)) w ∧ (∀ i, ots.length ≤ i → imgL ι m2 i = none) ∧ Grow E keep ι N w (imgL ι m2) (imgN ι N m2) w ∧ keep ≤ ots.length := by
  have b := OT.mts_both (nid0 := lenL hp) _ _ _ _ h2
  have o2 := b.2 o1
  have fresh : ∀ k, k ∈ keysD m2.add → ι k = none := fun k hk => by
    obtain ⟨o, ho⟩ := mem_keysD.1 hk
    have := (o2.add _ ho).2.1
    rw [lenL_eq] at this
    exact new k this
  unfold M.ok at hok
  simp only [Bool.and_eq_true] at hok
  have hrng : ∀ j i, renA m2.ren j = some i → j < ots.length := fun j i e => by have := (renLt_spec hok.2 j i e).1; rwa [lenL_eq] at this
  have keepRen : ∀ j, j < keep → renA m2.ren j = some j := fun j hj => b.1.ren j j (x1.ren j j (by rw [renA_idRen, if_pos hj]))
  obtain ⟨n2, d2, r2⟩ := ots_sound R o2 fresh hok.1 _ _ _ _ h2 (.refl _) o1
  refine ⟨b.1, img R o2 fresh, n2, d2, img_rep R o2 fresh hok.1 fun k hk => ?_, fun i hi => ?_, ⟨fun i hi => ?_, fun b hb => .inl hb, fun _ _ => rfl, fun b hb => ?_⟩, ?_⟩
  · have := (r2 []).2 k (by simpa using hk)
    simpa using this
  · cases e : renA m2.ren i with
    | none => simp [imgL, e]
    | some q => have := hrng i q e; omega
  · simp only [imgL, keepRen i hi, Option.bind_some, addL]
    rw [if_neg]
    intro hm
    obtain ⟨o, ho⟩ := mem_keysD.1 hm
    have := (o2.add _ ho).2.1
    rw [lenL_eq] at this; dsimp only at this; omega
  · rcases hb with hb | ⟨i, u, h1, h3, h4⟩
    · exact .inl hb
    · obtain ⟨t, xs, hx⟩ := o2.frz i h1
      exact .inr (R.blk_lt (by rw [hx]; simp) h3 h4).1.2
  · rcases Nat.eq_zero_or_pos keep with h | h
    · omega
    · have := hrng (keep - 1) (keep - 1) (keepRen _ (by omega)); omega

theorem set_get_self {α : Type} {l : List α} {i : Nat} {v : α} (h : l[i]? = some v) : l.set i v = l := by
  obtain ⟨hi, rfl⟩ := List.getElem?_eq_some_iff.1 h
  simp

theorem frMt_sound {h : Nat → Ob} {mf : M} {ι2 ι' : Nat → Option Value} {N' : Nat → Prop} {ots : Nat → OT} (I : Img E ι N h w mf ι2 ι' N') {fr : List AV} {vs : List Value} (hv : VRL ι N w fr vs) :
    ∀ (slots : List (Nat × Tp)) (m m' : M), frMt h ots fr slots m = some m' → m'.Ext mf → ∃ new, m'.ds = new.reverse ++ m.ds ∧ ∀ rest fr0, VRL ι' N' w fr0 vs →
      ∃ fr1, instFr slots (new ++ rest) fr0 = (fr1, rest) ∧ VRL ι' N' w fr1 vs
  | [], m, m', H, X => by simp only [frMt, Option.some.injEq] at H; subst H; exact ⟨[], rfl, fun rest fr0 h0 => ⟨fr0, rfl, h0⟩⟩
  | (i, t) :: r, m, m', H, X => by
    simp only [frMt] at H
    split at H
    · rename_i m1 hm1
      have X1 := (frMt_both (nid0 := 0) r m1 m' H).1
      obtain ⟨n2, d2, r2⟩ := frMt_sound I hv r m1 m' H X
      have put : ∃ n1 av, m1.ds = n1.reverse ++ m.ds ∧ (∀ rest, Tp.inst (fun j => j) t (n1 ++ rest) = (av, rest)) ∧ ∀ fr0, VRL ι' N' w fr0 vs → VRL ι' N' w (setA fr0 i av) vs := by
        rcases Nat.lt_or_ge i fr.length with q | q
        · obtain ⟨v, hvi, hr⟩ := hv.get i fr[i] (List.getElem?_eq_getElem q)
          have hg : getA fr i = fr[i] := by rw [getA_eq]; simp [List.getElem?_eq_getElem q]
          rw [hg] at hm1
          obtain ⟨_, n1, av, d1, i1, r1⟩ := mt_sound I t _ m m1 v hm1 (X1.trans X) hr
          refine ⟨n1, av, d1, i1, fun fr0 h0 => ?_⟩
          rw [setA_eq]
          have := h0.set i av v r1
          rwa [set_get_self hvi] at this
        · have hg : getA fr i = .undef := by rw [getA_eq]; simp [List.getElem?_eq_none q]
          rw [hg] at hm1
          obtain ⟨_, n1, av, d1, i1, r1⟩ := mt_sound I t _ m m1 default hm1 (X1.trans X) (by simp only [VR])
          refine ⟨n1, av, d1, i1, fun fr0 h0 => ?_⟩
          rw [setA_eq, List.set_eq_of_length_le]
          · exact h0
          · rw [h0.len, ← hv.len]; exact q
      obtain ⟨n1, av, d1, i1, p1⟩ := put
      refine ⟨n1 ++ n2, by rw [d2, d1]; simp, fun rest fr0 h0 => ?_⟩
      obtain ⟨fr1, e1, e2⟩ := r2 rest (setA fr0 i av) (p1 fr0 h0)
      refine ⟨fr1, ?_, e2⟩
      simp only [instFr, List.append_assoc, i1]
      exact e1
    · cases H

theorem blankA_vrl {ι : Nat → Option Value} {N : Nat → Prop} {w : World} : ∀ (n : Nat) (vs : List Value), vs.length = n → VRL ι N w (blankA n) vs
  | 0, [], _ => by simp [blankA, VRL]
  | n + 1, v :: vs, h => by simp only [blankA, VRL, VR]; exact ⟨trivial, blankA_vrl n vs (by simpa using h)⟩
  | 0, _ :: _, h => by simp at h
  | n + 1, [], h => by simp at h

/-- THE DATA OF A STATE, and the state of those. -/
theorem sh_sound {sh : Sh} {st : St} {d : Den sh.ds} (H : sh.of keep st = some d) {a : Act} (R : RepSt E keep ι N st a w) {n : Nat} (hn : n = st.fr.length) :
    ∃ ι' N', RepSt E keep ι' N' (sh.st n d) a w ∧ Grow E keep ι N w ι' N' w ∧ (sh.st n d).fr.length = n := by
  unfold Sh.of at H
  split at H
  · rename_i m1 hm1
    split at H
    · rename_i m2 hm2
      cases hok : m2.ok (lenL sh.hp) with
      | false => rw [hok] at H; simp at H
      | true =>
        rw [hok] at H; simp only [cond_true] at H
        have b := frMt_both (nid0 := lenL st.hp) _ _ _ hm1
        obtain ⟨X, I, n2, d2, R2, new2, G, kp⟩ := img_core R.rep R.new R.kp b.1 (b.2 (mok0 _ _ _)) hm2 hok
        obtain ⟨n1, d1, r1⟩ := frMt_sound I R.fr _ _ _ hm1 X
        have hds : Den.list sh.ds d = n1 ++ n2 := by rw [Den.of_list H, revL_eq, d2, d1]; simp
        obtain ⟨fr1, e1, e2⟩ := r1 n2 (blankA n) (blankA_vrl n _ (by rw [hn, R.fr.len]))
        have hst : sh.st n d = ⟨fr1, OT.insts (fun j => j) sh.hp n2⟩ := by
          unfold Sh.st
          rw [hds, e1]
        refine ⟨_, _, ⟨by rw [hst]; exact e2, by rw [hst]; exact R2, fun i hi => new2 i ?_, ?_⟩, G, by rw [hst]; dsimp only; rw [e2.len, ← R.fr.len, hn]⟩
        · rw [hst] at hi; dsimp only at hi; rwa [ots_len] at hi
        · rw [hst]; dsimp only; rw [ots_len]; exact kp
    · cases H
  · cases H

/-- THE DATA OF WHAT A FUNCTION LEAVES. -/
theorem out_sound {o : Out} {v : AV} {d : Den o.ds} (H : o.of keep v hp = some d) (R : RepH E ι N (getH hp) w) (new : ∀ i, hp.length ≤ i → ι i = none) (kp : keep ≤ hp.length) {val : Value} (hv : VR ι N w v val) :
    ∃ ι' N' v' l', o.res.inst (fun j => j) (Den.list o.ds d) = (v', l') ∧ VR ι' N' w v' val ∧ RepH E ι' N' (getH (OT.insts (fun j => j) o.hp l')) w ∧ (∀ i, o.hp.length ≤ i → ι' i = none) ∧ Grow E keep ι N w ι' N' w := by
  unfold Out.of at H
  split at H
  · rename_i m1 hm1
    split at H
    · rename_i m2 hm2
      cases hok : m2.ok (lenL o.hp) with
      | false => rw [hok] at H; simp at H
      | true =>
        rw [hok] at H; simp only [cond_true] at H
        have x1 := mt_ext _ _ _ _ hm1
        have o1 := mt_ok (nid0 := lenL hp) _ _ _ _ hm1 (mok0 _ _ _)
        obtain ⟨X, I, n2, d2, R2, new2, G, kp⟩ := img_core R new kp x1 o1 hm2 hok
        obtain ⟨_, n1, av, d1, i1, r1⟩ := mt_sound I _ _ _ _ val hm1 X hv
        have hds : Den.list o.ds d = n1 ++ n2 := by rw [Den.of_list H, revL_eq, d2, d1]; simp
        exact ⟨_, _, av, n2, by rw [hds]; exact i1 n2, r1, R2, new2, G⟩
    · cases H
  · cases H

theorem outsOf_sound {ι : Nat → Option Value} {N : Nat → Prop} {w : World} {fr : List AV} {vs : List Value} (hv : VRL ι N w fr vs) : ∀ (outs : List (Nat × Tp)) (l dats : List Dat), outsOf fr outs l = some dats →
    ∃ new, dats = l.reverse ++ new ∧ ∀ fr0, VRL ι N w fr0 vs → VRL ι N w (setOuts fr0 outs new) vs
  | [], l, dats, H => by
    simp only [outsOf, Option.some.injEq] at H
    exact ⟨[], by rw [← H, revL_eq], fun fr0 h0 => by simp only [setOuts]; exact h0⟩
  | (i, t) :: r, l, dats, H => by
    have put : ∀ (av : AV) (x : Dat), getA fr i = av → x.av = av → av ≠ .undef → outsOf fr r (x :: l) = some dats → ∃ new, dats = l.reverse ++ new ∧ ∀ fr0, VRL ι N w fr0 vs → VRL ι N w (setOuts fr0 ((i, t) :: r) new) vs := by
      intro av x hg hx hu H
      obtain ⟨new, e, h⟩ := outsOf_sound hv r (x :: l) dats H
      refine ⟨x :: new, by rw [e]; simp, fun fr0 h0 => ?_⟩
      simp only [setOuts]
      refine h _ ?_
      rw [hx, setA_eq]
      rcases Nat.lt_or_ge i fr.length with q | q
      · obtain ⟨v, hvi, hr⟩ := hv.get i fr[i] (List.getElem?_eq_getElem q)
        have : fr[i] = av := by rw [← hg, getA_eq]; simp [List.getElem?_eq_getElem q]
        rw [this] at hr
        have := h0.set i av v hr
        rwa [set_get_self hvi] at this
      · rw [getA_eq] at hg
        simp [List.getElem?_eq_none q] at hg
        exact absurd hg.symm hu
    simp only [outsOf] at H
    split at H
    · rename_i k k' n hg
      split at H
      · rename_i e; subst e; exact put _ _ hg rfl (by simp) H
      · cases H
    · rename_i b hg; exact put _ _ hg rfl (by simp) H
    · rename_i b hg; exact put _ _ hg rfl (by simp) H
    · cases H

theorem blankOps_get (t : Nat) : ∀ (ops : List Oper) (fr : List AV), getA (blankOps ops fr) t = .undef ∨ (getA (blankOps ops fr) t = getA fr t ∧ ∀ k, dstOf ops k ≠ some t)
  | [], fr => .inr ⟨rfl, fun k => by cases k <;> simp [dstOf]⟩
  | o :: r, fr => by
    simp only [blankOps]
    rcases blankOps_get t r (putA fr o.dst .undef) with h | ⟨h, hn⟩
    · exact .inl h
    · by_cases e : o.dst = some t
      · left
        rw [h, e]
        simp only [putA]
        rcases getA_set_undef fr t t with q | ⟨q, _⟩
        · exact q
        · exact absurd rfl q
      · right
        rw [h, getA_putA_ne _ _ _ _ e]
        exact ⟨rfl, fun k => by cases k with
          | zero => exact e
          | succ k => exact hn k⟩

theorem blankOps_len : ∀ (ops : List Oper) (fr : List AV), (blankOps ops fr).length = fr.length
  | [], fr => rfl
  | o :: r, fr => by
    simp only [blankOps]
    rw [blankOps_len r]
    unfold putA
    split
    · rfl
    · rw [setA_eq, List.length_set]

theorem setOuts_len : ∀ (outs : List (Nat × Tp)) (l : List Dat) (fr : List AV), (setOuts fr outs l).length = fr.length
  | [], l, fr => by simp only [setOuts]
  | (i, t) :: r, [], fr => by simp only [setOuts]
  | (i, t) :: r, x :: l, fr => by simp only [setOuts]; rw [setOuts_len r, setA_eq, List.length_set]

def exitOf : Ex → Exit
  | .normal => .normal
  | .exit i => .exit i
  | .ret => .ret

variable {H : Hnd}

/-- CODE. -/
theorem evCode_sound (T : TyOk E.P E.C) (hH : HndOk E.P E.C H) : ∀ (c : Code) {ρ : Type} (ann : Ann) (st : St) (K : Ex → St → Option ρ) (r : ρ), evCode E.C H keep c ann st K = some r →
    ∀ (ι : Nat → Option Value) (N : Nat → Prop) (a : Act) (w : World), RepSt E keep ι N st a w → ∀ (Q : Exit → Act → World → Prop),
      (∀ e st', K e st' = some r → st'.fr.length = st.fr.length → ∀ a' w' ι' N', RepSt E keep ι' N' st' a' w' → Grow E keep ι N w ι' N' w' → a'.defers = a.defers → Q (exitOf e) a' w') → c.wp E.P Q a w := by
  intro c
  induction c with
  | skip => intro ρ ann st K r HK ι N a w R Q hQ; exact wp_skip (hQ .normal st (by simpa only [evCode] using HK) rfl a w ι N R (.refl _ _ _ _ _) rfl)
  | label l => intro ρ ann st K r HK ι N a w R Q hQ; exact wp_label (hQ .normal st (by simpa only [evCode] using HK) rfl a w ι N R (.refl _ _ _ _ _) rfl)
  | ret => intro ρ ann st K r HK ι N a w R Q hQ; exact wp_ret (hQ .ret st (by simpa only [evCode] using HK) rfl a w ι N R (.refl _ _ _ _ _) rfl)
  | exit i => intro ρ ann st K r HK ι N a w R Q hQ; exact wp_exit (hQ (.exit i) st (by simpa only [evCode] using HK) rfl a w ι N R (.refl _ _ _ _ _) rfl)
  | region id ops draw =>
    intro ρ ann st K r HK ι N a w R Q hQ
    have plain : ∀ cm, evRegion E.C H ops.toList draw cm st (fun fr h _ => K .normal ⟨fr, h⟩) = some r → (Code.region id ops draw).wp E.P Q a w := fun cm h =>
      evRegion_sound T hH h R fun fr h lg hK _ hl _ a' w' ι' N' R' G df => hQ .normal ⟨fr, h⟩ hK hl a' w' ι' N' R' G df
    simp only [evCode] at HK
    split at HK
    · rename_i ds outs
      cases hr : evRegion E.C H ops.toList draw [] st (fun fr _ lg => cond (quiet lg) ((outsOf fr outs []).bind (Den.of ds)) none) with
      | none => rw [hr] at HK; cases HK
      | some d =>
        rw [hr] at HK
        simp only [Option.bind_some] at HK
        refine evRegion_sound T hH hr R fun fr h lg hK hq hl hsame a' w' ι' N' R' G df => ?_
        cases hqt : quiet lg with
        | false => rw [hqt] at hK; simp at hK
        | true =>
          rw [hqt] at hK
          simp only [cond_true] at hK
          cases ho : outsOf fr outs [] with
          | none => rw [ho] at hK; cases hK
          | some dats =>
            rw [ho] at hK
            simp only [Option.bind_some] at hK
            have hhp := hq hqt
            subst hhp
            obtain ⟨new, e, hset⟩ := outsOf_sound R'.fr outs [] dats ho
            have hd := Den.of_list hK
            simp only [List.reverse_nil, List.nil_append] at e
            rw [hd, e] at HK
            refine hQ .normal _ HK (by dsimp only; rw [setOuts_len, blankOps_len]) a' w' ι' N' ⟨?_, R'.rep, R'.new, R'.kp⟩ G df
            refine hset _ (VRL.of_get ?_ fun t x v hx hv => ?_)
            · rw [blankOps_len, ← R'.fr.len, hl]
            · have hg : getA (blankOps ops.toList st.fr) t = x := by rw [getA_eq]; simp [hx]
              rcases blankOps_get t ops.toList st.fr with h1 | ⟨h1, h2⟩
              · rw [h1] at hg; subst hg; simp only [VR]
              · have := hsame t h2
                rw [hg] at h1
                rw [h1, ← this, getA_eq]
                have htl : t < fr.length := by rw [R'.fr.len]; exact (List.getElem?_eq_some_iff.1 hv).1
                obtain ⟨u, hu, hr⟩ := R'.fr.get t fr[t] (List.getElem?_eq_getElem htl)
                rw [hv] at hu; cases hu
                simpa [List.getElem?_eq_getElem htl] using hr
    · exact plain _ HK
  | seq x y ihx ihy =>
    intro ρ ann st K r HK ι N a w R Q hQ
    refine wp_seq ?_
    -- the first, then the second from a state of data
    have next : ∀ (ann' : Ann) (st' : St), st'.fr.length = st.fr.length → evCode E.C H keep y ann' st' K = some r → ∀ a' w' ι' N', RepSt E keep ι' N' st' a' w' → Grow E keep ι N w ι' N' w' → a'.defers = a.defers → y.wp E.P Q a' w' :=
      fun ann' st' hl h a' w' ι' N' R' G df => ihy ann' st' K r h ι' N' a' w' R' Q fun e st2 h2 hl2 a2 w2 ι2 N2 R2 G2 df2 => hQ e st2 h2 (hl2.trans hl) a2 w2 ι2 N2 R2 (G.trans G2) (df2.trans df)
    have viaShape : ∀ (sh : Sh) (ann' : Ann) (d : Den sh.ds), evCode E.C H keep y ann' (sh.st (lenL st.fr) d) K = some r → ∀ st', sh.of keep st' = some d → st'.fr.length = st.fr.length → ∀ a' w' ι' N',
        RepSt E keep ι' N' st' a' w' → Grow E keep ι N w ι' N' w' → a'.defers = a.defers → y.wp E.P Q a' w' := fun sh ann' d h st' hd hl a' w' ι' N' R' G df => by
      obtain ⟨ι2, N2, R2, G2, hl2⟩ := sh_sound hd R' (n := lenL st.fr) (by rw [lenL_eq, hl])
      exact next ann' _ (by rw [hl2, lenL_eq]) h a' w' ι2 N2 R2 (G.trans G2) df
    simp only [evCode] at HK
    split at HK
    · rename_i sh ax ay
      cases h1 : evCode E.C H keep x (ρ := Den sh.ds) ax st (kJoin (sh.of keep)) with
      | none => rw [h1] at HK; cases HK
      | some d =>
        rw [h1] at HK
        simp only [Option.bind_some] at HK
        refine ihx ax st _ d h1 ι N a w R _ fun e st' hK hl a' w' ι' N' R' G df => ?_
        cases e with
        | normal => exact viaShape sh ay d HK st' hK hl a' w' ι' N' R' G df
        | exit i => cases hK
        | ret => cases hK
    · rename_i sh ax ay
      cases h1 : evCode E.C H keep x (ρ := Den sh.ds ⊕ ρ) ax st (kJoinS (sh.of keep) K) with
      | none => rw [h1] at HK; cases HK
      | some q =>
        rw [h1] at HK
        simp only [Option.bind_some] at HK
        refine ihx ax st _ q h1 ι N a w R _ fun e st' hK hl a' w' ι' N' R' G df => ?_
        have out : ∀ (e : Ex), (K e st').map Sum.inr = some q → Q (exitOf e) a' w' := fun e h => by
          cases hk : K e st' with
          | none => rw [hk] at h; cases h
          | some r' =>
            rw [hk] at h
            simp only [Option.map_some, Option.some.injEq] at h
            subst h
            cases HK
            exact hQ e st' hk hl a' w' ι' N' R' G df
        cases e with
        | normal =>
          cases hs : sh.of keep st' with
          | none => simp only [kJoin, kJoinS, kLoop, kLoopS] at hK; rw [hs] at hK; cases hK
          | some d =>
            simp only [kJoin, kJoinS, kLoop, kLoopS] at hK
            rw [hs] at hK
            simp only [Option.map_some, Option.some.injEq] at hK
            subst hK
            exact viaShape sh ay d HK st' hs hl a' w' ι' N' R' G df
        | exit i => exact out (.exit i) hK
        | ret => exact out .ret hK
    · refine ihx ann.l st _ r HK ι N a w R _ fun e st' hK hl a' w' ι' N' R' G df => ?_
      cases e with
      | normal => exact next ann.r st' hl hK a' w' ι' N' R' G df
      | exit i => exact hQ (.exit i) st' hK hl a' w' ι' N' R' G df
      | ret => exact hQ .ret st' hK hl a' w' ι' N' R' G df
  | cond c x y ihx ihy =>
    intro ρ ann st K r HK ι N a w R Q hQ
    simp only [evCode] at HK
    split at HK
    · rename_i t ht
      have hc := R.fr.opnd (F := st.fr) (fun t => .inr rfl) c
      rw [ht] at hc
      simp only [VR] at hc
      refine wp_cond hc ?_
      cases t with
      | true => exact ihx ann.l st K r HK ι N a w R Q hQ
      | false => exact ihy ann.r st K r HK ι N a w R Q hQ
    · cases HK
  | block i c ih =>
    intro ρ ann st K r HK ι N a w R Q hQ
    simp only [evCode] at HK
    refine wp_block (ih ann.l st _ r HK ι N a w R _ fun e st' hK hl a' w' ι' N' R' G df => ?_)
    cases e with
    | normal => exact hQ .normal st' hK hl a' w' ι' N' R' G df
    | ret => exact hQ .ret st' hK hl a' w' ι' N' R' G df
    | exit j =>
      simp only [kJoin, kJoinS, kLoop, kLoopS] at hK
      simp only [exitOf, Exit.inBlock]
      cases hb : Nat.beq j i with
      | true =>
        rw [hb] at hK
        have := Nat.eq_of_beq_eq_true hb
        rw [if_pos this]
        exact hQ .normal st' hK hl a' w' ι' N' R' G df
      | false =>
        rw [hb] at hK
        have hne : j ≠ i := fun e => by subst e; simp at hb
        rw [if_neg hne]
        exact hQ (.exit j) st' hK hl a' w' ι' N' R' G df
  | loop c ih =>
    intro ρ ann st K r HK ι N a w R Q hQ
    simp only [evCode] at HK
    -- a way out, from a state of data
    have leave : ∀ (out : Sh) (x : Nat) (d : Den out.ds), K (.exit x) (out.st (lenL st.fr) d) = some r → ∀ st', out.of keep st' = some d → st'.fr.length = st.fr.length → ∀ a' w' ι' N',
        RepSt E keep ι' N' st' a' w' → Grow E keep ι N w ι' N' w' → a'.defers = a.defers → Q (.exit x) a' w' := fun out x d h st' hd hl a' w' ι' N' R' G df => by
      obtain ⟨ι2, N2, R2, G2, hl2⟩ := sh_sound hd R' (n := lenL st.fr) (by rw [lenL_eq, hl])
      exact hQ (.exit x) _ h (by rw [hl2, lenL_eq]) a' w' ι2 N2 R2 (G.trans G2) df
    split at HK
    · rename_i sh fuel x out an
      cases h0 : sh.of keep st with
      | none => rw [h0] at HK; cases HK
      | some d0 =>
        rw [h0] at HK
        simp only [Option.bind_some] at HK
        cases h1 : loopN (σ := Den out.ds) (fun again d => evCode E.C H keep c an (sh.st (lenL st.fr) d) (kLoop (sh.of keep) (out.of keep) x again)) (fuel d0) d0 with
        | none => rw [h1] at HK; cases HK
        | some res =>
          rw [h1] at HK
          simp only [Option.bind_some] at HK
          obtain ⟨ι1, N1, R1, G1, hl1⟩ := sh_sound h0 R (n := lenL st.fr) (lenL_eq _)
          refine wp_loop_ghost (fun n a' w' => ∃ d ι' N', RepSt E keep ι' N' (sh.st (lenL st.fr) d) a' w' ∧ Grow E keep ι N w ι' N' w' ∧ a'.defers = a.defers ∧ (sh.st (lenL st.fr) d).fr.length = lenL st.fr ∧
            loopN (σ := Den out.ds) (fun again d => evCode E.C H keep c an (sh.st (lenL st.fr) d) (kLoop (sh.of keep) (out.of keep) x again)) n d = some res) (fuel d0) ⟨d0, ι1, N1, R1, G1, rfl, hl1, h1⟩ ?_
          rintro n a' w' ⟨d, ι', N', R', G', df', hl', hn⟩
          cases n with
          | zero => cases hn
          | succ n =>
            simp only [loopN] at hn
            refine ih an _ _ res hn ι' N' a' w' R' _ fun e st' hK hl2 a2 w2 ι2 N2 R2 G2 df2 => ?_
            have hlen : st'.fr.length = st.fr.length := by rw [hl2, hl', lenL_eq]
            cases e with
            | normal =>
              simp only [kJoin, kJoinS, kLoop, kLoopS] at hK
              cases hs : sh.of keep st' with
              | none => rw [hs] at hK; cases hK
              | some d' =>
                rw [hs] at hK
                simp only [Option.bind_some] at hK
                obtain ⟨ι3, N3, R3, G3, hl3⟩ := sh_sound hs R2 (n := lenL st.fr) (by rw [lenL_eq, hlen])
                exact ⟨n, Nat.lt_succ_self n, d', ι3, N3, R3, (G'.trans G2).trans G3, df2.trans df', hl3, hK⟩
            | ret => cases hK
            | exit j =>
              simp only [kJoin, kJoinS, kLoop, kLoopS] at hK
              cases hb : Nat.beq j x with
              | false => rw [hb] at hK; cases hK
              | true =>
                rw [hb] at hK
                have := Nat.eq_of_beq_eq_true hb
                subst this
                exact leave out j res HK st' hK hlen a2 w2 ι2 N2 R2 (G'.trans G2) (df2.trans df')
    · rename_i sh fuel x out an
      cases h0 : sh.of keep st with
      | none => rw [h0] at HK; cases HK
      | some d0 =>
        rw [h0] at HK
        simp only [Option.bind_some] at HK
        cases h1 : loopN (σ := Den out.ds ⊕ ρ) (fun again d => evCode E.C H keep c an (sh.st (lenL st.fr) d) (kLoopS (sh.of keep) (out.of keep) x K again)) (fuel d0) d0 with
        | none => rw [h1] at HK; cases HK
        | some res =>
          rw [h1] at HK
          simp only [Option.bind_some] at HK
          obtain ⟨ι1, N1, R1, G1, hl1⟩ := sh_sound h0 R (n := lenL st.fr) (lenL_eq _)
          refine wp_loop_ghost (fun n a' w' => ∃ d ι' N', RepSt E keep ι' N' (sh.st (lenL st.fr) d) a' w' ∧ Grow E keep ι N w ι' N' w' ∧ a'.defers = a.defers ∧ (sh.st (lenL st.fr) d).fr.length = lenL st.fr ∧
            loopN (σ := Den out.ds ⊕ ρ) (fun again d => evCode E.C H keep c an (sh.st (lenL st.fr) d) (kLoopS (sh.of keep) (out.of keep) x K again)) n d = some res) (fuel d0) ⟨d0, ι1, N1, R1, G1, rfl, hl1, h1⟩ ?_
          rintro n a' w' ⟨d, ι', N', R', G', df', hl', hn⟩
          cases n with
          | zero => cases hn
          | succ n =>
            simp only [loopN] at hn
            refine ih an _ _ res hn ι' N' a' w' R' _ fun e st' hK hl2 a2 w2 ι2 N2 R2 G2 df2 => ?_
            have hlen : st'.fr.length = st.fr.length := by rw [hl2, hl', lenL_eq]
            have outK : ∀ (e : Ex), (K e st').map (Sum.inr (α := Den out.ds)) = some res → Q (exitOf e) a2 w2 := fun e h => by
              cases hk : K e st' with
              | none => rw [hk] at h; cases h
              | some r' =>
                rw [hk] at h
                simp only [Option.map_some, Option.some.injEq] at h
                subst h
                cases HK
                exact hQ e st' hk hlen a2 w2 ι2 N2 R2 (G'.trans G2) (df2.trans df')
            cases e with
            | normal =>
              simp only [kJoin, kJoinS, kLoop, kLoopS] at hK
              cases hs : sh.of keep st' with
              | none => rw [hs] at hK; cases hK
              | some d' =>
                rw [hs] at hK
                simp only [Option.bind_some] at hK
                obtain ⟨ι3, N3, R3, G3, hl3⟩ := sh_sound hs R2 (n := lenL st.fr) (by rw [lenL_eq, hlen])
                exact ⟨n, Nat.lt_succ_self n, d', ι3, N3, R3, (G'.trans G2).trans G3, df2.trans df', hl3, hK⟩
            | ret => exact outK .ret hK
            | exit j =>
              simp only [kJoin, kJoinS, kLoop, kLoopS] at hK
              cases hb : Nat.beq j x with
              | false => rw [hb] at hK; exact outK (.exit j) hK
              | true =>
                rw [hb] at hK
                have := Nat.eq_of_beq_eq_true hb
                subst this
                simp only [cond_true] at hK
                cases hs : out.of keep st' with
                | none => rw [hs] at hK; cases hK
                | some d' =>
                  rw [hs] at hK
                  simp only [Option.map_some, Option.some.injEq] at hK
                  subst hK
                  exact leave out j d' HK st' hs hlen a2 w2 ι2 N2 R2 (G'.trans G2) (df2.trans df')
    · cases HK
  | _ => intro ρ ann st K r HK; simp [evCode] at HK

end
end Ev
