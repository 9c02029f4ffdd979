/- Regions: one operation, and all. Conditions: as stated. -/
import Derived.Test.YtbokmcaoggnjhaaDoorEvRegion
set_option linter.unusedVariables false
set_option linter.unusedSimpArgs false
namespace Ev
open Go

/-- A state and what it stands for. -/
structure RepSt (E : Env) (keep : Nat) (ι : Nat → Option Value) (N : Nat → Prop) (st : St) (a : Act) (w : World) : Prop where
  fr : VRL ι N w st.fr a.tmps.toList
  rep : RepH E ι N (getH st.hp) w
  new : ∀ i, st.hp.length ≤ i → ι i = none
  kp : keep ≤ st.hp.length

/-- The middle of a region: those of `D` are done. -/
structure InvD (E : Env) (keep : Nat) (all : List Oper) (fr0 : List AV) (h0 : Heap) (es : Nat → Ent) (n : Nat) (D : Nat → Bool) (ι0 : Nat → Option Value) (N0 : Nat → Prop) (w0 : World) (df : List Deferred)
    (ι : Nat → Option Value) (N : Nat → Prop) (a : Act) (w : World) : Prop where
  fr : VRL ι N w (frD all fr0 es D n) a.tmps.toList
  rep : RepH E ι N (hD h0 es D n) w
  born : ∀ k, ι k ≠ none → k < h0.length ∨ ∃ i, i < n ∧ D i = true ∧ k ∈ keysD (es i).d ∧ (hL h0 es i).length ≤ k
  grow : Grow E keep ι0 N0 w0 ι N w
  df : a.defers = df

theorem VRL.set {ι : Nat → Option Value} {N : Nat → Prop} {w : World} : ∀ {as : List AV} {vs : List Value}, VRL ι N w as vs → ∀ (t : Nat) (a : AV) (v : Value), VR ι N w a v → VRL ι N w (as.set t a) (vs.set t v)
  | [], [], _, t, a, v, _ => by simp [VRL]
  | x :: as, y :: vs, h, 0, a, v, hv => by simp only [VRL] at h; simp only [List.set_cons_zero, VRL]; exact ⟨hv, h.2⟩
  | x :: as, y :: vs, h, t + 1, a, v, hv => by simp only [VRL] at h; simp only [List.set_cons_succ, VRL]; exact ⟨h.1, VRL.set h.2 t a v hv⟩
  | [], _ :: _, h, _, _, _, _ => by simp [VRL] at h
  | _ :: _, [], h, _, _, _, _ => by simp [VRL] at h

theorem VRL.put {ι : Nat → Option Value} {N : Nat → Prop} {w : World} {fr : List AV} {a : Act} (h : VRL ι N w fr a.tmps.toList) (d : Option Nat) {v : AV} {val : Value} (hv : VR ι N w v val) :
    VRL ι N w (putA fr d v) (a.put d val).tmps.toList := by
  unfold putA Act.put
  cases d with
  | none => exact h
  | some t =>
    simp only [setA_eq, Array.toList_setIfInBounds]
    exact h.set t v val hv

theorem put_defers (a : Act) (d : Option Nat) (v : Value) : (a.put d v).defers = a.defers := by cases d <;> rfl

theorem const1_vr {ι : Nat → Option Value} {N : Nat → Prop} {w : World} {v : Value} {a : AV} (h : const1 v = some a) : VR ι N w a v ∧ v.oneCell' = true := by
  unfold const1 at h
  split at h <;> cases h <;> refine ⟨?_, rfl⟩ <;> simp only [VR, bytesA]

theorem constL_vr {ι : Nat → Option Value} {N : Nat → Prop} {w : World} : ∀ {vs : List Value} {as : List AV}, constL vs = some as → VRL ι N w as vs ∧ ∀ x, x ∈ vs → x.oneCell' = true
  | [], as, h => by simp only [constL, Option.some.injEq] at h; subst h; exact ⟨by simp only [VRL], fun x hx => by simp at hx⟩
  | v :: vs, as, h => by
    simp only [constL] at h
    split at h
    · rename_i a as' h1 h2
      cases h
      have q1 := const1_vr (ι := ι) (N := N) (w := w) h1
      have q2 := constL_vr (ι := ι) (N := N) (w := w) h2
      refine ⟨by simp only [VRL]; exact ⟨q1.1, q2.1⟩, fun x hx => ?_⟩
      cases hx with
      | head => exact q1.2
      | tail _ hx => exact q2.2 x hx
    · cases h

theorem constA_vr {ι : Nat → Option Value} {N : Nat → Prop} {w : World} (v : Value) : VR ι N w (constA v) v := by
  unfold constA
  split
  · rename_i cs
    split
    · rename_i as h
      obtain ⟨q1, q2⟩ := constL_vr (ι := ι) (N := N) (w := w) h
      simp only [VR]
      exact ⟨cs, rfl, q1, fun x hx => q2 x hx⟩
    · simp only [VR]
  · split
    · rename_i a h
      exact (const1_vr h).1
    · simp only [VR]

theorem VRL.opnd {ι : Nat → Option Value} {N : Nat → Prop} {w : World} {fr F : List AV} {a : Act} (h : VRL ι N w fr a.tmps.toList) (hF : ∀ t, getA F t = .undef ∨ getA F t = getA fr t) (x : Operand) :
    VR ι N w (opnd F x) (a.eval x) := by
  cases x with
  | tmp t =>
    simp only [Ev.opnd, Act.eval]
    rcases hF t with e | e
    · rw [e]; simp only [VR]
    · rw [e, getA_eq]
      rcases Nat.lt_or_ge t fr.length with q | q
      · obtain ⟨v, hv, hr⟩ := h.get t fr[t] (List.getElem?_eq_getElem q)
        have hv' : a.tmps[t]? = some v := by rw [← hv]; simp
        simp only [List.getD_eq_getElem?_getD, List.getElem?_eq_getElem q, Option.getD_some]
        have : a.tmps.getD t undef = v := by simp [hv']
        rw [this]; exact hr
      · simp only [List.getD_eq_getElem?_getD, List.getElem?_eq_none q, Option.getD_none, VR]
  | const v => exact constA_vr v
  | global g => simp only [Ev.opnd, Act.eval, VR]
  | func f => simp only [Ev.opnd, Act.eval, VR]; exact ⟨#[], #[], rfl, by simp [VRL], by simp [VRL]⟩

theorem VRL.slot {ι : Nat → Option Value} {N : Nat → Prop} {w : World} {fr F : List AV} {tmps : Array Value} (h : VRL ι N w fr tmps.toList) {t : Nat} (hF : getA F t = .undef ∨ getA F t = getA fr t) {x : AV} (hx : getA F t = x) (hu : x ≠ .undef) :
    ∃ v, tmps[t]? = some v ∧ VR ι N w x v := by
  subst hx
  rcases hF with e | e
  · exact absurd e hu
  · rw [e, getA_eq] at hu ⊢
    rcases Nat.lt_or_ge t fr.length with q | q
    · obtain ⟨v, hv, hr⟩ := h.get t fr[t] (List.getElem?_eq_getElem q)
      refine ⟨v, by rw [← hv]; simp, ?_⟩
      simp only [List.getD_eq_getElem?_getD, List.getElem?_eq_getElem q, Option.getD_some]; exact hr
    · simp only [List.getD_eq_getElem?_getD, List.getElem?_eq_none q, Option.getD_none] at hu
      exact absurd rfl hu

theorem wanted_of {ι : Nat → Option Value} {N : Nat → Prop} {w : World} {ops : Array Oper} {F fr : List AV} {tmps : Array Value} (h : VRL ι N w fr tmps.toList) (hF : ∀ t, getA F t = .undef ∨ getA F t = getA fr t)
    {o : Oper} {b : Bool} (hw : WantA ops.toList F o b) : Region.wanted o (yielded ops tmps) = b := by
  have yl : ∀ j t, dstOf ops.toList j = some t → yielded ops tmps j = match tmps[t]? with | some (.bool b) => some b | _ => none := fun j t ht => by
    rw [dstOf_eq] at ht
    have : (ops[j]?).bind (·.dst) = some t := by simpa using ht
    unfold yielded
    rw [this]; rfl
  cases b with
  | true =>
    rcases hw with hg | ⟨j, want, t, hg, ht, hx⟩
    · simp [Region.wanted, hg]
    · obtain ⟨v, hv, hr⟩ := h.slot (hF t) hx (by simp)
      simp only [VR] at hr; subst hr
      simp [Region.wanted, hg, yl j t ht, hv]
  | false =>
    obtain ⟨j, want, t, hg, ht, hx⟩ := hw
    rcases hx with hx | hx
    · obtain ⟨v, hv, hr⟩ := h.slot (hF t) hx (by simp)
      simp only [VR] at hr; subst hr
      simp [Region.wanted, hg, yl j t ht, hv]
    · obtain ⟨v, hv, hr⟩ := h.slot (hF t) hx (by simp)
      simp only [VR] at hr
      obtain ⟨vs, rfl, _⟩ := hr
      simp [Region.wanted, hg, yl j t ht, hv]

section
variable {E : Env} {keep : Nat} {all : List Oper} {fr0 : List AV} {h0 : Heap} {es : Nat → Ent} {H : Hnd} {O : Order} {ops : Array Oper}

theorem dstOk1_spec (A : List Nat) (i : Nat) (d : Option Nat) : ∀ (l : List Oper) (j : Nat), dstOk1 A i d l j = true → ∀ k t, d = some t → dstOf l k = some t → besideA A i (j + k) = false
  | [], j, _, k, t, _, hk => by cases k <;> simp [dstOf] at hk
  | o :: r, j, h, k, t, hd, hk => by
    simp only [dstOk1] at h
    have hr : dstOk1 A i d r (j + 1) = true ∧ (eqDst d o.dst = true → besideA A i j = false) := by
      cases h1 : eqDst d o.dst with
      | false => rw [h1] at h; exact ⟨h, fun x => by cases x⟩
      | true =>
        rw [h1] at h
        simp only [cond_true] at h
        cases h2 : besideA A i j with
        | true => rw [h2] at h; simp at h
        | false => rw [h2] at h; exact ⟨h, fun _ => rfl⟩
    cases k with
    | zero =>
      simp only [dstOf] at hk
      refine hr.2 ?_
      rw [hd, hk]; simp [eqDst]
    | succ k =>
      have := dstOk1_spec A i d r (j + 1) hr.1 k t hd hk
      rwa [show j + 1 + k = j + (k + 1) by omega] at this

theorem dstOk_spec (A : List Nat) (all : List Oper) : ∀ (l : List Oper) (i : Nat), dstOk A all l i = true → ∀ k t j, dstOf l k = some t → dstOf all j = some t → besideA A (i + k) j = false
  | [], i, _, k, t, j, hk, _ => by cases k <;> simp [dstOf] at hk
  | o :: r, i, h, k, t, j, hk, hj => by
    simp only [dstOk] at h
    cases h1 : dstOk1 A i o.dst all 0 with
    | false => rw [h1] at h; simp at h
    | true =>
      rw [h1] at h
      cases k with
      | zero =>
        have := dstOk1_spec A i o.dst all 0 h1 j t hk hj
        rwa [Nat.zero_add] at this
      | succ k =>
        have := dstOk_spec A all r (i + 1) h k t j hk hj
        rwa [show i + 1 + k = i + (k + 1) by omega] at this

/-- ONE OPERATION of a region, when those of `D` are done. -/
theorem step_op (T : TyOk E.P E.C) (hH : HndOk E.P E.C H) (hops : ops.toList = all) (hat : ∀ i o, all[i]? = some o → AtOk E.C H O all fr0 h0 es i o) (hdst : O.draw = true → dstOk O.A all all 0 = true)
    {D : Nat → Bool} {i : Nat} {o : Oper} (hi : all[i]? = some o) (hDi : D i = false) (P1 : ∀ j, j < i → D j = false → O.beside i j) (P2 : ∀ j, i < j → D j = true → O.beside i j)
    {ι0 : Nat → Option Value} {N0 : Nat → Prop} {w0 : World} {df : List Deferred} {ι : Nat → Option Value} {N : Nat → Prop} {a : Act} {w : World} (hk0 : keep ≤ h0.length)
    (I : InvD E keep all fr0 h0 es all.length D ι0 N0 w0 df ι N a w) {Q : Exit → Act → World → Prop} {K : Act → World → Prop}
    (hK : ∀ ι' N' a' w', InvD E keep all fr0 h0 es all.length (ins D i) ι0 N0 w0 df ι' N' a' w' → K a' w') : wpOp E.P ops Q i K a w := by
  have hA := hat i o hi
  have hin : i < all.length := (List.getElem?_eq_some_iff.1 hi).1
  have hoi : ops[i]? = some o := by rw [← hops] at hi; simpa using hi
  have hdi : dstOf all i = o.dst := by rw [dstOf_eq, hi]; rfl
  -- the slots that are looked at
  have agreeF : ∀ t, getA (O.fr all i (frD all fr0 es yes i)) t = .undef ∨ getA (O.fr all i (frD all fr0 es yes i)) t = getA (frD all fr0 es D all.length) t := fun t => by
    rcases O.fr_get (all := all) i t (frD all fr0 es yes i) with h | ⟨h, hn⟩
    · exact .inl h
    · right
      rw [h]
      rw [frD_stop (m := i) (m' := all.length) (by omega) fun j h1 h2 h3 => ?_]
      · refine frD_agree fun j hj ht => ?_
        cases hd : D j with
        | true => rfl
        | false => exact absurd (P1 j hj hd) (hn j ht)
      · cases hd : D j with
        | false => rfl
        | true =>
          have : i < j := by
            rcases Nat.lt_or_ge i j with q | q
            · exact q
            · have : j = i := by omega
              subst this; rw [hDi] at hd; cases hd
          exact absurd (P2 j this hd) (hn j h3)
  have hwant := wanted_of (ops := ops) I.fr agreeF (o := o) (b := (es i).run) (by rw [hops]; exact hA.want)
  -- slots written behind
  have hslot : ∀ j, i < j → j < all.length → D j = true → ∀ t, dstOf all i = some t → dstOf all j ≠ some t := fun j h1 h2 h3 t h4 h5 => by
    have hb := P2 j h1 h3
    have := dstOk_spec O.A all all 0 (hdst hb.1) i t j h4 h5
    rw [Nat.zero_add, hb.2] at this; cases this
  unfold wpOp
  rw [hoi]
  dsimp only
  rw [hwant]
  cases hrun : (es i).run with
  | false =>
    obtain ⟨hv, hd⟩ := hA.not hrun
    simp only [Bool.false_eq_true, if_false]
    refine hK ι N _ w ⟨?_, ?_, fun k hk => ?_, I.grow, by rw [put_defers]; exact I.df⟩
    · rw [frD_insert hDi hin hslot, hv, hdi]
      exact I.fr.put o.dst (by simp only [VR]; exact ⟨#[], rfl, by simp [VRL]⟩)
    · rw [hD_insert hDi hin (fun j _ _ _ k hk => by rw [hd] at hk; simp [keysD] at hk), hd]
      exact I.rep
    · rcases I.born k hk with h | ⟨j, h1, h2, h3⟩
      · exact .inl h
      · exact .inr ⟨j, h1, by simp [ins, h2], h3⟩
  | true =>
    obtain ⟨hev, hok⟩ := hA.ran hrun
    simp only [if_true]
    left
    rw [lenL_eq] at hev
    -- an object that is not hidden
    have hidden : ∀ j k, k ∈ keysD (es j).d → j < i → O.beside i j → k ∈ O.hid i (lgOf h0 es i) := fun j k hk hj hb => by
      have hrj : (es j).run = true := by
        cases hr : (es j).run with
        | true => rfl
        | false =>
          have hjo : j < all.length := by omega
          have := ((hat j all[j] (List.getElem?_eq_getElem hjo)).not hr).2
          rw [this] at hk; simp [keysD] at hk
      unfold Order.hid
      rw [hb.1]
      exact hideL_mem _ _ _ _ _ (.inr ⟨_, lgOf_mem hj hrj, hb.2, hk⟩)
    have behind : ∀ j k, k ∈ keysD (es j).d → i < j → j < all.length → O.beside i j → k ∈ O.hid i (lgOf h0 es i) ∨ (hL h0 es i).length ≤ k := fun j k hk hj hjn hb => by
      have hrj : (es j).run = true := by
        cases hr : (es j).run with
        | true => rfl
        | false =>
          have := ((hat j all[j] (List.getElem?_eq_getElem hjn)).not hr).2
          rw [this] at hk; simp [keysD] at hk
      have hokj := ((hat j all[j] (List.getElem?_eq_getElem hjn)).ran hrj).2
      unfold Order.ok at hokj
      rw [hb.1] at hokj
      have := keyOk_spec _ _ _ _ _ (keysOk_spec _ _ _ _ _ _ hokj k hk).2 _ (lgOf_mem hj hrun) (besideA_symm hb.2)
      rcases this with h | h
      · left
        unfold Order.hid
        rw [hb.1]
        exact hideL_mem _ _ _ _ _ (.inl h)
      · right; rw [lenL_eq] at h; exact h
    have agreeH : ∀ k, k ∉ O.hid i (lgOf h0 es i) → k < (hL h0 es i).length → getH (hL h0 es i) k = hD h0 es D all.length k := fun k h1 h2 => by
      rw [hD_stop (m := i) (m' := all.length) (by omega) fun j q1 q2 q3 => ?_]
      · rw [← hD_yes]
        refine hD_agree fun j hj hk => ?_
        cases hd : D j with
        | true => rfl
        | false => exact absurd (hidden j k hk hj (P1 j hj hd)) h1
      · cases hd : D j with
        | false => rfl
        | true =>
          have hij : i < j := by
            rcases Nat.lt_or_ge i j with q | q
            · exact q
            · have : j = i := by omega
              subst this; rw [hDi] at hd; cases hd
          rcases behind j k q3 hij q2 (P2 j hij hd) with h | h
          · exact absurd h h1
          · omega
    have hpk : ∀ k, O.hp i (lgOf h0 es i) (getH (hL h0 es i)) k = .dead ∨ (O.hp i (lgOf h0 es i) (getH (hL h0 es i)) k = getH (hL h0 es i) k ∧ k ∉ O.hid i (lgOf h0 es i)) := fun k => by
      unfold Order.hp Order.hid
      cases O.draw with
      | false => exact .inr ⟨rfl, by simp⟩
      | true =>
        simp only [cond_true, maskH]
        cases hm : memN (hideL O.A i (lgOf h0 es i) (O.cm i)) k with
        | true => exact .inl rfl
        | false => exact .inr ⟨rfl, fun x => by rw [memN_iff.2 x] at hm; cases hm⟩
    have hHle : ∀ k, O.hp i (lgOf h0 es i) (getH (hL h0 es i)) k = hD h0 es D all.length k ∨ O.hp i (lgOf h0 es i) (getH (hL h0 es i)) k = .dead := fun k => by
      rcases hpk k with h | ⟨h, hn⟩
      · exact .inr h
      · rcases Nat.lt_or_ge k (hL h0 es i).length with q | q
        · left; rw [h]; exact agreeH k hn q
        · right; rw [h]; exact getH_big _ _ q
    -- what is new
    have hkeys : ∀ k, k ∈ keysD (es i).d → k < (hL h0 es (i + 1)).length := fun k hk => by simp only [hL]; exact (apD_len _ _).2 k hk
    have fresh : ∀ k, k ∈ keysD (es i).d → (hL h0 es i).length ≤ k → ι k = none := fun k hk hn => by
      cases hc : ι k with
      | none => rfl
      | some u =>
        rcases I.born k (by rw [hc]; simp) with h | ⟨j, h1, h2, h3, h4⟩
        · have := hL_mono (h0 := h0) (es := es) (Nat.zero_le i)
          simp only [hL] at this; omega
        · rcases Nat.lt_or_ge j i with q | q
          · have := (apD_len (es j).d (hL h0 es j)).2 k h3
            have h5 := hL_mono (h0 := h0) (es := es) (m := j + 1) (m' := i) (by omega)
            simp only [hL] at h5; omega
          · have : j ≠ i := by rintro rfl; rw [hDi] at h2; cases h2
            have h5 := hL_mono (h0 := h0) (es := es) (m := i + 1) (m' := j) (by omega)
            have := hkeys k hk; omega
    have hidKeys : ∀ k, k ∈ keysD (es i).d → k ∉ O.hid i (lgOf h0 es i) := fun k hk => by
      unfold Order.ok at hok
      cases hd : O.draw with
      | false => unfold Order.hid; rw [hd]; simp
      | true => rw [hd] at hok; exact (keysOk_spec _ _ _ _ _ _ hok k hk).1
    have eqKeys : ∀ k, k ∈ keysD (es i).d → O.hp i (lgOf h0 es i) (getH (hL h0 es i)) k = hD h0 es D all.length k := fun k hk => by
      rcases Nat.lt_or_ge k (hL h0 es i).length with q | q
      · rcases hpk k with h | ⟨h, hn⟩
        · have h2 : O.hp i (lgOf h0 es i) (getH (hL h0 es i)) k = getH (hL h0 es i) k := by
            have := hidKeys k hk
            unfold Order.hp
            cases hd : O.draw with
            | false => rfl
            | true =>
              simp only [cond_true, maskH]
              cases hm : memN (O.hid i (lgOf h0 es i)) k with
              | false => rfl
              | true => exact absurd (memN_iff.1 hm) this
          rw [h2]; exact agreeH k (hidKeys k hk) q
        · rw [h]; exact agreeH k hn q
      · have hdead : hD h0 es D all.length k = .dead := by
          by_cases hd : hD h0 es D all.length k = .dead
          · exact hd
          · obtain ⟨u, hu, _⟩ := I.rep.ob k hd
            rw [fresh k hk q] at hu; cases hu
        rw [hdead]
        rcases hpk k with h | ⟨h, _⟩
        · exact h
        · rw [h]; exact getH_big _ _ q
    have hpart := I.rep.part hHle
    have hop := evOper_sound (E := E.part ι (hD h0 es D all.length) (O.hp i (lgOf h0 es i) (getH (hL h0 es i))) w) T hH hpart (av := opnd (O.fr all i (frD all fr0 es yes i))) (ev := a.eval)
      (fun x => I.fr.opnd agreeF x) hev fresh
    refine OpR.wp (OpR.mono hop fun val w' ⟨ι', N', p⟩ => ?_)
    have p := Post.whole I.rep hHle p eqKeys
    refine hK ι' N' _ w' ⟨?_, ?_, fun k hk => ?_, ?_, by rw [put_defers]; exact I.df⟩
    · rw [frD_insert hDi hin hslot, hdi]
      exact (VRL.mono p.later _ _ I.fr).put o.dst p.vr
    · rw [hD_insert hDi hin fun j h1 h2 h3 k hk hkj => ?_]
      · exact p.rep
      · -- nobody beside touches what is touched here
        have hb := P2 j h1 h3
        have hrj : (es j).run = true := by
          cases hr : (es j).run with
          | true => rfl
          | false =>
            have := ((hat j all[j] (List.getElem?_eq_getElem h2)).not hr).2
            rw [this] at hkj; simp [keysD] at hkj
        have hokj := ((hat j all[j] (List.getElem?_eq_getElem h2)).ran hrj).2
        unfold Order.ok at hokj
        rw [hb.1] at hokj
        have hn := (keysOk_spec _ _ _ _ _ _ hokj k hkj).1
        apply hn
        unfold Order.hid
        rw [hb.1]
        exact hideL_mem _ _ _ _ _ (.inr ⟨_, lgOf_mem h1 hrun, besideA_symm hb.2, hk⟩)
    · rcases p.new k with e | ⟨h1, h2⟩
      · rw [e] at hk
        rcases I.born k hk with h | ⟨j, h1, h2, h3⟩
        · exact .inl h
        · exact .inr ⟨j, h1, by simp [ins, h2], h3⟩
      · exact .inr ⟨i, hin, by simp [ins], h2, h1⟩
    · refine I.grow.trans ⟨fun k hk => ?_, p.later.ro, p.later.mem, p.bound⟩
      rcases p.new k with e | ⟨h1, _⟩
      · exact e
      · have := hL_mono (h0 := h0) (es := es) (Nat.zero_le i)
        simp only [hL] at this; omega

theorem frD_D {D D' : Nat → Bool} : ∀ {m : Nat}, (∀ j, j < m → D j = D' j) → frD all fr0 es D m = frD all fr0 es D' m
  | 0, _ => rfl
  | m + 1, h => by simp only [frD]; rw [frD_D fun j hj => h j (by omega), h m (by omega)]
theorem hD_D {D D' : Nat → Bool} : ∀ {m : Nat}, (∀ j, j < m → D j = D' j) → hD h0 es D m = hD h0 es D' m
  | 0, _ => rfl
  | m + 1, h => by simp only [hD]; rw [hD_D fun j hj => h j (by omega), h m (by omega)]

theorem frD_stop' {D : Nat → Bool} (h : ∀ j, D j = false) : ∀ {m : Nat}, frD all fr0 es D m = fr0
  | 0 => rfl
  | m + 1 => by simp only [frD]; rw [h m]; exact frD_stop' h
theorem hD_stop' {D : Nat → Bool} (h : ∀ j, D j = false) : ∀ {m : Nat}, hD h0 es D m = getH h0
  | 0 => rfl
  | m + 1 => by simp only [hD]; rw [h m]; exact hD_stop' h

theorem keysD_nil {d : Delta} (h : keysD d = []) : d = [] := by
  cases d with
  | nil => rfl
  | cons x d => obtain ⟨i, o⟩ := x; simp [keysD] at h

theorem quiet_same {C : Ctx} (hat : ∀ i o, all[i]? = some o → AtOk C H O all fr0 h0 es i o) : ∀ {m : Nat}, m ≤ all.length → quiet (lgOf h0 es m) = true → hL h0 es m = h0
  | 0, _, _ => rfl
  | m + 1, hm, hq => by
    have ho := List.getElem?_eq_getElem (by omega : m < all.length)
    simp only [lgOf] at hq
    simp only [hL]
    cases hr : (es m).run with
    | false =>
      rw [hr] at hq
      rw [((hat m _ ho).not hr).2, quiet_same hat (by omega) hq]; rfl
    | true =>
      rw [hr] at hq
      simp only [cond_true, quiet] at hq
      split at hq
      · rename_i hk
        rw [keysD_nil hk, quiet_same hat (by omega) hq]; rfl
      · cases hq

theorem InvD.done {D : Nat → Bool} {ι0 : Nat → Option Value} {N0 : Nat → Prop} {w0 : World} {df : List Deferred} {ι : Nat → Option Value} {N : Nat → Prop} {a : Act} {w : World} (hk0 : keep ≤ h0.length)
    (I : InvD E keep all fr0 h0 es all.length D ι0 N0 w0 df ι N a w) (hD : ∀ j, j < all.length → D j = true) : RepSt E keep ι N ⟨frD all fr0 es yes all.length, hL h0 es all.length⟩ a w := by
  have hm := hL_mono (h0 := h0) (es := es) (Nat.zero_le all.length)
  simp only [hL] at hm
  refine ⟨?_, ?_, fun k hk => ?_, by dsimp only; omega⟩
  · rw [← frD_D (D := D) fun j hj => by rw [hD j hj]; rfl]; exact I.fr
  · dsimp only; rw [← hD_yes, ← hD_D (D := D) fun j hj => by rw [hD j hj]; rfl]; exact I.rep
  · dsimp only at hk
    cases hc : ι k with
    | none => rfl
    | some u =>
      rcases I.born k (by rw [hc]; simp) with h | ⟨i, h1, h2, h3, h4⟩
      · omega
      · have := (apD_len (es i).d (hL h0 es i)).2 k h3
        have h5 := hL_mono (h0 := h0) (es := es) (m := i + 1) (m' := all.length) (by omega)
        simp only [hL] at h5; omega

theorem countP_ins {D : Nat → Bool} {i : Nat} (hD : D i = false) : ∀ (l : List Nat), i ∈ l → l.countP (fun j => !ins D i j) < l.countP (fun j => !D j)
  | [], h => by simp at h
  | x :: l, h => by
    have hle : l.countP (fun j => !ins D i j) ≤ l.countP (fun j => !D j) := List.countP_mono_left fun j _ hj => by
      simp only [ins] at hj
      by_cases e : j = i
      · simp [e] at hj
      · simpa [e] using hj
    by_cases e : x = i
    · subst e
      have h1 : ins D x x = true := by simp [ins]
      simp only [List.countP_cons, h1, hD]
      simp only [Bool.not_true, Bool.not_false, Bool.false_eq_true, if_true, if_false]
      omega
    · have hm : i ∈ l := by simpa [Ne.symm e] using h
      have := countP_ins hD l hm
      have hx : ins D i x = D x := by simp [ins, e]
      simp only [List.countP_cons, hx]
      omega

theorem edgeOk_spec (i : Nat) : ∀ (l : List Edge), edgeOk i l = true → ∀ e, e ∈ l → bindsA e = true → e.on < i
  | [], _, e, h, _ => by simp at h
  | x :: l, H, e, h, hb => by
    simp only [edgeOk] at H
    have q : edgeOk i l = true ∧ (bindsA x = true → x.on < i) := by
      cases h1 : bindsA x with
      | false => rw [h1] at H; exact ⟨H, fun y => by cases y⟩
      | true =>
        rw [h1] at H
        simp only [cond_true] at H
        cases h2 : Nat.blt x.on i with
        | false => rw [h2] at H; simp at H
        | true => rw [h2] at H; exact ⟨H, fun _ => by rwa [Nat.blt_eq] at h2⟩
    cases h with
    | head => exact q.2 hb
    | tail _ h => exact edgeOk_spec i l q.1 e h hb

theorem edgesOk_spec : ∀ (l : List Oper) (i : Nat), edgesOk l i = true → ∀ k o, l[k]? = some o → ∀ e, e ∈ o.after.toList → bindsA e = true → e.on < i + k
  | [], i, _, k, o, hk => by simp at hk
  | x :: l, i, H, k, o, hk => by
    simp only [edgesOk] at H
    cases h1 : edgeOk i x.after.toList with
    | false => rw [h1] at H; simp at H
    | true =>
      rw [h1] at H
      cases k with
      | zero => simp at hk; subst hk; intro e he hb; have := edgeOk_spec i _ h1 e he hb; omega
      | succ k =>
        intro e he hb
        have := edgesOk_spec l (i + 1) H k o (by simpa using hk) e he hb
        omega

/-- A REGION. -/
theorem evRegion_sound (T : TyOk E.P E.C) (hH : HndOk E.P E.C H) {ρ : Type} {draw : Bool} {cm : List (Nat × List Nat)} {st : St} {K : List AV → Heap → List LogE → Option ρ} {r : ρ}
    (H1 : evRegion E.C H ops.toList draw cm st K = some r) {a : Act} {w : World} {ι : Nat → Option Value} {N : Nat → Prop} (R : RepSt E keep ι N st a w) {id : Nat} {Q : Exit → Act → World → Prop}
    (hQ : ∀ fr h lg, K fr h lg = some r → (quiet lg = true → h = st.hp) → fr.length = st.fr.length → (∀ t, (∀ k, dstOf ops.toList k ≠ some t) → getA fr t = getA st.fr t) → ∀ a' w' ι' N', RepSt E keep ι' N' ⟨fr, h⟩ a' w' → Grow E keep ι N w ι' N' w' → a'.defers = a.defers → Q .normal a' w') :
    (Code.region id ops draw).wp E.P Q a w := by
  have start : ∀ (O : Order), evOps E.C H O ops.toList ops.toList 0 st.fr st.hp [] K = some r → ∃ es : Nat → Ent, (∀ i o, ops.toList[i]? = some o → AtOk E.C H O ops.toList st.fr st.hp es i o) ∧
      K (frD ops.toList st.fr es yes ops.toList.length) (hL st.hp es ops.toList.length) (lgOf st.hp es ops.toList.length) = some r := fun O h => by
    obtain ⟨es, _, h1, h2⟩ := evOps_tr (all := ops.toList) (fr0 := st.fr) (h0 := st.hp) hH ops.toList 0 (fun _ => ⟨.undef, [], false⟩) (fun j => by simp) h
    refine ⟨es, fun i o hi => ?_, by simpa using h2⟩
    have := h1 i o hi
    rwa [Nat.zero_add] at this
  have fin : ∀ {O : Order} {es : Nat → Ent}, (∀ i o, ops.toList[i]? = some o → AtOk E.C H O ops.toList st.fr st.hp es i o) →
      K (frD ops.toList st.fr es yes ops.toList.length) (hL st.hp es ops.toList.length) (lgOf st.hp es ops.toList.length) = some r →
      ∀ D ι' N' a' w', InvD E keep ops.toList st.fr st.hp es ops.toList.length D ι N w a.defers ι' N' a' w' → (∀ j, j < ops.toList.length → D j = true) → Q .normal a' w' := fun {O es} hat hK D ι' N' a' w' I hD =>
    hQ _ _ _ hK (fun hq => quiet_same hat (Nat.le_refl _) hq) (frD_len _ _) (fun t ht => frD_stop (m := 0) (Nat.zero_le _) fun j _ _ hj => absurd hj (ht j)) a' w' ι' N' (I.done R.kp hD) I.grow I.df
  cases draw with
  | false =>
    obtain ⟨es, hat, hK⟩ := start _ (by simpa only [evRegion, cond_false] using H1)
    refine wp_region ?_
    have loop : ∀ q m, m + q = ops.toList.length → ∀ ι' N' a' w', InvD E keep ops.toList st.fr st.hp es ops.toList.length (fun j => decide (j < m)) ι N w a.defers ι' N' a' w' → wpOps E.P ops Q (List.range' m q) a' w' := by
      intro q
      induction q with
      | zero =>
        intro m hm ι' N' a' w' I
        simp only [List.range'_zero, wpOps]
        exact fin hat hK _ ι' N' a' w' I fun j hj => by simp; omega
      | succ q ih =>
        intro m hm ι' N' a' w' I
        rw [List.range'_succ, wpOps_cons]
        have hmo := List.getElem?_eq_getElem (by omega : m < ops.toList.length)
        refine step_op (all := ops.toList) T hH rfl hat (fun h => by cases h) hmo (by simp) (fun j hj hd => by simp at hd; omega) (fun j hj hd => by simp at hd; omega) R.kp I fun ι2 N2 a2 w2 I2 => ?_
        refine ih (m + 1) (by omega) ι2 N2 a2 w2 ?_
        have : ins (fun j => decide (j < m)) m = fun j => decide (j < m + 1) := by
          funext j
          simp only [ins]
          by_cases e : j = m
          · simp [e]
          · simp [e]; omega
        rw [← this]; exact I2
    have := loop ops.toList.length 0 (by omega) ι N a w ⟨?_, ?_, fun k hk => ?_, .refl _ _ _ _ _, rfl⟩
    · rw [List.range_eq_range']; simpa using this
    · rw [frD_stop' (D := fun j => decide (j < 0)) fun j => by simp]; exact R.fr
    · rw [hD_stop' (D := fun j => decide (j < 0)) fun j => by simp]; exact R.rep
    · left
      rcases Nat.lt_or_ge k st.hp.length with q | q
      · exact q
      · exact absurd (R.new k q) hk
  | true =>
    simp only [evRegion, cond_true] at H1
    cases he : edgesOk ops.toList 0 with
    | false => rw [he] at H1; simp at H1
    | true =>
      cases hd : dstOk (ancs ops.toList 0 []) ops.toList ops.toList 0 with
      | false => rw [he, hd] at H1; simp at H1
      | true =>
        rw [he, hd] at H1
        simp only [cond_true] at H1
        obtain ⟨es, hat, hK⟩ := start _ H1
        refine wp_region_any T.names ?_
        have edges : ∀ (i : Nat) (o : Oper), ops[i]? = some o → ∀ e, e ∈ o.after → Region.binds .any e = true → e.on < i := fun i o hi e hm hb => by
          have := edgesOk_spec ops.toList 0 he i o (by simpa using hi) e (by simpa using hm) (by rw [bindsA_eq]; exact hb)
          omega
        have hgood := anc_good ops.toList
        have any : ∀ fuel (listed : Array Bool) a' w' ι' N', listed.size = ops.size → (List.range ops.size).countP (fun j => !listed.getD j false) ≤ fuel →
            (∀ (i : Nat) (o : Oper), ops[i]? = some o → listed.getD i false = true → ∀ e, e ∈ o.after → Region.binds .any e = true → listed.getD e.on false = true) →
            InvD E keep ops.toList st.fr st.hp es ops.toList.length (fun j => listed.getD j false) ι N w a.defers ι' N' a' w' → wpAny E.P .any ops Q fuel listed a' w' := by
          intro fuel
          induction fuel with
          | zero =>
            intro listed a' w' ι' N' hs hc hdn I
            have hall : ∀ j, j < ops.toList.length → listed.getD j false = true := fun j hj => by
              have h0 : (List.range ops.size).countP (fun j => !listed.getD j false) = 0 := by omega
              have := List.countP_eq_zero.1 h0 j (by simpa using hj)
              simpa using this
            refine ⟨?_, fin hat hK _ ι' N' a' w' I hall⟩
            apply List.eq_nil_iff_forall_not_mem.2
            intro j hj
            obtain ⟨h1, o, h2, _⟩ := mem_ready.1 hj
            have hjs : j < ops.size := (Array.getElem?_eq_some_iff.1 h2).1
            have := hall j (by simpa using hjs)
            have hjl : j < listed.size := by omega
            simp [hjl] at h1 this
            rw [h1] at this; cases this
          | succ fuel ih =>
            intro listed a' w' ι' N' hs hc hdn I
            have eqD : ∀ j, j < ops.size → listed.getD j true = listed.getD j false := fun j hj => by
              have hjl : j < listed.size := by omega
              simp [hjl]
            refine ⟨fun hr => ?_, fun i hi => ?_⟩
            · refine fin hat hK _ ι' N' a' w' I fun j hj => ?_
              induction j using Nat.strongRecOn with
              | _ j ihj =>
                cases hdj : listed.getD j false with
                | true => rfl
                | false =>
                  exfalso
                  have hjs : j < ops.size := by simpa using hj
                  have hjo := Array.getElem?_eq_getElem hjs
                  have : j ∈ Region.ready .any ops listed := mem_ready.2 ⟨by rw [eqD j hjs]; exact hdj, ops[j], hjo, fun e hm hb => ihj e.on (edges j _ hjo e hm hb) (by have := edges j _ hjo e hm hb; omega)⟩
                  rw [hr] at this; cases this
            · obtain ⟨h1, o, h2, h3⟩ := mem_ready.1 hi
              have his : i < ops.size := (Array.getElem?_eq_some_iff.1 h2).1
              have hDi : listed.getD i false = false := by rw [← eqD i his]; exact h1
              -- those ahead of a done one are done
              have closed : ∀ q, listed.getD q false = true → ∀ j, Nat.testBit (getN (ancs ops.toList 0 []) q) j = true → listed.getD j false = true := fun q => by
                induction q using Nat.strongRecOn with
                | _ q ihq =>
                  intro hq j hj
                  obtain ⟨_, o', e, k1, k2, k3, k4, k5⟩ := hgood q j hj
                  have hon := hdn q o' (by simpa using k1) hq e (by simpa using k2) (by rw [← bindsA_eq]; exact k3)
                  rcases k5 with rfl | k5
                  · exact hon
                  · exact ihq e.on k4 hon j k5
              have mine : ∀ j, Nat.testBit (getN (ancs ops.toList 0 []) i) j = true → listed.getD j false = true := fun j hj => by
                obtain ⟨_, o', e, k1, k2, k3, k4, k5⟩ := hgood i j hj
                have ho' : o' = o := by
                  have : ops[i]? = some o' := by simpa using k1
                  rw [h2] at this; cases this; rfl
                subst ho'
                have hon := h3 e (by simpa using k2) (by rw [← bindsA_eq]; exact k3)
                rcases k5 with rfl | k5
                · exact hon
                · exact closed e.on hon j k5
              have no : ∀ {b : Bool}, (b = true → False) → b = false := fun {b} h => by cases b <;> simp_all
              have getIns : (fun j => (listed.setIfInBounds i true).getD j false) = ins (fun j => listed.getD j false) i := by
                funext j
                simp only [ins]
                by_cases e : j = i
                · subst e
                  have hjl : j < listed.size := by omega
                  simp [hjl]
                · rw [if_neg e, getD_set_ne false (Ne.symm e)]
              refine step_op (all := ops.toList) T hH rfl hat (fun _ => hd) (by simpa using h2) hDi (fun j hj hdj => ⟨rfl, besideA_iff.2 ⟨by omega, no fun h => ?_, no fun h => ?_⟩⟩)
                (fun j hj hdj => ⟨rfl, besideA_iff.2 ⟨by omega, no fun h => ?_, no fun h => ?_⟩⟩) R.kp I fun ι2 N2 a2 w2 I2 => ?_
              · have := mine j h; rw [hdj] at this; cases this
              · have := (hgood j i h).1; omega
              · have := (hgood i j h).1; omega
              · have := closed j hdj i h; rw [hDi] at this; cases this
              · refine ih _ a2 w2 ι2 N2 (by simpa using hs) ?_ (fun i' o' hi' hl e hm hb => ?_) (by rw [getIns]; exact I2)
                · have := countP_ins (D := fun j => listed.getD j false) hDi (List.range ops.size) (by simpa using his)
                  rw [← getIns] at this
                  dsimp only at this
                  omega
                · by_cases ei : i' = i
                  · subst ei
                    rw [h2] at hi'; cases hi'
                    exact getD_set_true (h3 e hm hb)
                  · rw [getD_set_ne false (Ne.symm ei)] at hl
                    exact getD_set_true (hdn i' o' hi' hl e hm hb)
        have hrep0 : (Array.replicate ops.size false).size = ops.size := by simp
        have get0 : (fun j => (Array.replicate ops.size false).getD j false) = fun _ => false := by
          funext j
          rcases Nat.lt_or_ge j ops.size with q | q
          · simp [q]
          · simp [q]
        refine any ops.size _ a { w with drawn := w.drawn + 1 } ι N hrep0 (Nat.le_trans List.countP_le_length (by simp)) (fun i o hi hl => ?_) ?_
        · have := congrFun get0 i
          rw [this] at hl; cases hl
        · rw [get0]
          refine ⟨?_, ?_, fun k hk => ?_, ⟨fun _ _ => rfl, fun _ h => h, fun _ _ => rfl, fun _ h => .inl h⟩, rfl⟩
          · rw [frD_stop' (D := fun _ => false) fun j => rfl]
            exact VRL.mono (Later.world (w := w) (w' := { w with drawn := w.drawn + 1 }) fun _ _ => rfl) _ _ R.fr
          · rw [hD_stop' (D := fun _ => false) fun j => rfl]; exact R.rep.drew
          · left
            rcases Nat.lt_or_ge k st.hp.length with q | q
            · exact q
            · exact absurd (R.new k q) hk

end
end Ev
