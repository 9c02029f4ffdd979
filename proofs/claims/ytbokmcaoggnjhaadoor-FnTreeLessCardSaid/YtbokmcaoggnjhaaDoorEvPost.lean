/- What an operation or a call leaves, and how it stands in a larger state. Conditions: as stated. -/
import Derived.Test.YtbokmcaoggnjhaaDoorEvMatch
import Derived.Test.YtbokmcaoggnjhaaDoorEvNat
set_option linter.unusedVariables false
set_option linter.unusedSimpArgs false
namespace Ev
open Go

theorem keysD_eq (d : Delta) : keysD d = d.map (·.1) := by
  induction d with
  | nil => rfl
  | cons x d ih => obtain ⟨i, o⟩ := x; simp [keysD, ih]

theorem updD_congr : ∀ (d : Delta) {H h : Nat → Ob} {k : Nat}, H k = h k → updD H d k = updD h d k
  | [], _, _, _, e => e
  | (i, o) :: d, H, h, k, e => by
    simp only [updD]
    refine updD_congr d ?_
    by_cases ek : k = i
    · subst ek; simp [upd]
    · simp [upd, ek, e]

theorem updD_not : ∀ (d : Delta) {h : Nat → Ob} {k : Nat}, k ∉ keysD d → updD h d k = h k
  | [], _, _, _ => rfl
  | (i, o) :: d, h, k, e => by
    simp only [keysD, List.mem_cons, not_or] at e
    simp only [updD]
    rw [updD_not d e.2]
    simp [upd, e.1]

theorem updD_mem : ∀ (d : Delta) {H h : Nat → Ob} {k : Nat}, k ∈ keysD d → updD H d k = updD h d k
  | [], _, _, _, e => by simp [keysD] at e
  | (i, o) :: d, H, h, k, e => by
    simp only [updD]
    by_cases hk : k ∈ keysD d
    · exact updD_mem d hk
    · simp only [keysD, List.mem_cons, hk, or_false] at e
      subst e
      rw [updD_not d hk, updD_not d hk]
      simp [upd]

/-- What an operation leaves. -/
structure Post (E : Env) (ι : Nat → Option Value) (N : Nat → Prop) (h : Nat → Ob) (w : World) (nid : Nat) (v : AV) (d : Delta) (val : Value) (w' : World) (ι' : Nat → Option Value) (N' : Nat → Prop) : Prop where
  vr : VR ι' N' w' v val
  later : Later ι N w ι' N' w'
  rep : RepH E ι' N' (updD h d) w'
  new : ∀ k, ι' k = ι k ∨ (nid ≤ k ∧ k ∈ keysD d)
  bound : ∀ b, N' b → N b ∨ ¬ E.keep b

/-- How an operation comes to its value: at once, by a call, or by a row without a body. -/
def OpR (P : Program) (s : Sem Next) (w : World) (R : Value → World → Prop) : Prop :=
  (∃ val w', (s.run P w = .ok (.value val) w' ∨ (s.run P w = .ok .skip w' ∧ val = undef)) ∧ R val w') ∨
  (∃ f args, s.run P w = .ok (.enter f args) w ∧ Calls P f args w fun e w'' => ∃ val, e = .returned val ∧ R val w'') ∨
  (∃ row args w', s.run P w = .ok (.row row args) w' ∧ Rows P row args w' R)

theorem OpR.mono {P : Program} {s : Sem Next} {w : World} {R R' : Value → World → Prop} (h : OpR P s w R) (hr : ∀ v w', R v w' → R' v w') : OpR P s w R' := by
  rcases h with ⟨val, w', h1, h2⟩ | ⟨f, args, h1, h2⟩ | ⟨row, args, w', h1, h2⟩
  · exact .inl ⟨val, w', h1, hr _ _ h2⟩
  · exact .inr (.inl ⟨f, args, h1, Calls.mono h2 fun e w'' ⟨val, e1, e2⟩ => ⟨val, e1, hr _ _ e2⟩⟩)
  · exact .inr (.inr ⟨row, args, w', h1, Rows.mono h2 hr⟩)

theorem OpR.wp {P : Program} {o : Oper} {a : Act} {w : World} {next : Act → World → Prop} {Q : Exit → Act → World → Prop} (h : OpR P (execOp a.eval o) w fun v w' => next (a.put o.dst v) w') :
    o.wp P a w next Q := by
  unfold Oper.wp
  rcases h with ⟨val, w', h1, h2⟩ | ⟨f, args, h1, h2⟩ | ⟨row, args, w', h1, h2⟩
  · rcases h1 with h1 | ⟨h1, rfl⟩ <;> rw [h1] <;> exact h2
  · rw [h1]
    refine Calls.mono h2 fun e w'' ⟨val, e1, e2⟩ => ?_
    subst e1; exact e2
  · rw [h1]; exact h2

section
variable {E : Env} {ι : Nat → Option Value} {N : Nat → Prop} {h : Nat → Ob} {w : World} {nid : Nat} {s : Sem Next} {v : AV} {d : Delta}

theorem RepH.blk_lt (R : RepH E ι N h w) {i : Nat} {u : Value} (hd : h i ≠ .dead) (hu : ι i = some u) {b : Nat} (hb : blkOf u = some b) : own N E.keep b ∧ b < w.heap.size := by
  obtain ⟨u', hu', ho⟩ := R.ob i hd
  rw [hu] at hu'; cases hu'
  exact ho.blk hd hb

theorem Res.opR (R0 : RepH E ι N h w) (R : Res E ι N h w nid s v d) (hi : nid ∈ d.map (·.1) → ι nid = none) : OpR E.P s w fun val w' => ∃ ι' N', Post E ι N h w nid v d val w' ι' N' := by
  obtain ⟨val, w', ι', N', h1, h2, h3, h4, h5, h6⟩ := R
  refine .inl ⟨val, w', h1, ι', N', h2, h3, h4, fun k => ?_, fun b hb => (h6 b hb).imp id fun ⟨i, u, e1, e2, e3⟩ => (R0.blk_lt e3 e1 e2).1.2⟩
  rcases h5 with rfl | ⟨⟨u, rfl⟩, hm⟩
  · exact .inl rfl
  · by_cases e : k = nid
    · subst e; exact .inr ⟨Nat.le_refl _, by rw [keysD_eq]; exact hm⟩
    · exact .inl (by simp [updL, e])

/-- The blocks of objects that are left aside. -/
def aside (E : Env) (ι : Nat → Option Value) (h H : Nat → Ob) (b : Nat) : Prop :=
  E.keep b ∨ ∃ i v, h i ≠ .dead ∧ H i = .dead ∧ ι i = some v ∧ blkOf v = some b

def Env.part (E : Env) (ι : Nat → Option Value) (h H : Nat → Ob) (w : World) : Env := ⟨E.P, E.C, w, aside E ι h H⟩

theorem RepH.part (R : RepH E ι N h w) {H : Nat → Ob} (hH : ∀ i, H i = h i ∨ H i = .dead) : RepH (E.part ι h H w) ι N H w := by
  have live : ∀ {i}, H i ≠ .dead → H i = h i := fun {i} hi => (hH i).resolve_right hi
  refine ⟨fun i hi => ?_, fun i j b e hi hj => R.sep i j b e (live hi ▸ hi) (live hj ▸ hj), R.nlt, fun b hb => ?_, ⟨rfl, rfl, rfl, Nat.le_refl _, fun _ _ => rfl⟩, R.glob⟩
  · have hi' : h i ≠ .dead := live hi ▸ hi
    obtain ⟨u, hu, ho⟩ := R.ob i hi'
    refine ⟨u, hu, ?_⟩
    rw [live hi]
    have key : ∀ b, blkOf u = some b → ¬ aside E ι h H b := by
      rintro b hb (hk | ⟨j, x, h1, h2, h3, h4⟩)
      · exact (ho.blk hi' hb).1.2 hk
      · have e : i ≠ j := by rintro rfl; exact hi h2
        exact R.sep i j b e hi' h1 (by rw [hu]; exact hb) (by rw [h3]; exact h4)
    generalize h i = o at *
    cases o with
    | dead => trivial
    | box cs =>
      obtain ⟨b, o, c, T, rfl, h1, h2, h3⟩ := ho
      exact ⟨b, o, c, T, rfl, ⟨h1.1, key b rfl⟩, h2, h3⟩
    | arr t xs =>
      obtain ⟨a, cap, rfl, hle, ho⟩ := ho
      refine ⟨a, cap, rfl, hle, ?_⟩
      rcases ho with rfl | ⟨b, c, T, rfl, h1, h2, h3, h4⟩
      · exact .inl rfl
      · by_cases hc : cap = 0
        · exact .inl hc
        · exact .inr ⟨b, c, T, rfl, ⟨h1.1, key b (by simp [blkOf, hc])⟩, h2, h3, h4⟩
    | map kt vt es =>
      obtain ⟨r, ents, clock, rfl, h1, h2, h3, h4⟩ := ho
      exact ⟨r, ents, clock, rfl, ⟨h1.1, key r rfl⟩, h2, h3, h4⟩
  · rcases hb with hk | ⟨j, x, h1, h2, h3, h4⟩
    · exact R.klt b hk
    · exact (R.blk_lt h1 h3 h4).2

theorem ObR.less {N keep keep' : Nat → Prop} {val : Value} {o : Ob} (ho : ObR ι N keep w val o) (hk : ∀ b, keep' b → keep b) : ObR ι N keep' w val o := by
  cases o with
  | dead => trivial
  | box cs =>
    obtain ⟨b, o, c, T, rfl, h1, h2, h3⟩ := ho
    exact ⟨b, o, c, T, rfl, ⟨h1.1, fun x => h1.2 (hk b x)⟩, h2, h3⟩
  | arr t xs =>
    obtain ⟨a, cap, rfl, hle, ho⟩ := ho
    refine ⟨a, cap, rfl, hle, ?_⟩
    rcases ho with rfl | ⟨b, c, T, rfl, h1, h2, h3, h4⟩
    · exact .inl rfl
    · exact .inr ⟨b, c, T, rfl, ⟨h1.1, fun x => h1.2 (hk b x)⟩, h2, h3, h4⟩
  | map kt vt es =>
    obtain ⟨r, ents, clock, rfl, h1, h2, h3, h4⟩ := ho
    exact ⟨r, ents, clock, rfl, ⟨h1.1, fun x => h1.2 (hk r x)⟩, h2, h3, h4⟩

/-- What is done to a part of the objects is done to all. -/
theorem Post.whole (R : RepH E ι N h w) {H : Nat → Ob} (hH : ∀ i, H i = h i ∨ H i = .dead) {val : Value} {w' : World} {ι' : Nat → Option Value} {N' : Nat → Prop}
    (p : Post (E.part ι h H w) ι N H w nid v d val w' ι' N') (hk : ∀ k, k ∈ keysD d → H k = h k) : Post E ι N h w nid v d val w' ι' N' := by
  have live : ∀ {i}, H i ≠ .dead → H i = h i := fun {i} hi => (hH i).resolve_right hi
  -- an object aside is as it was
  have asd : ∀ i, h i ≠ .dead → H i = .dead → updD h d i = h i := fun i h1 h2 => updD_not d fun hm => h1 ((hk i hm).symm.trans h2)
  have same : ∀ i, ¬ (h i ≠ .dead ∧ H i = .dead) → updD h d i = updD H d i := fun i hn => by
    refine updD_congr d ?_
    rcases hH i with e | e
    · exact e.symm
    · by_cases hd : h i = .dead
      · rw [hd, e]
      · exact absurd ⟨hd, e⟩ hn
  have blkAside : ∀ {i u b}, h i ≠ .dead → H i = .dead → ι i = some u → blkOf u = some b → aside E ι h H b := fun h1 h2 h3 h4 => .inr ⟨_, _, h1, h2, h3, h4⟩
  refine ⟨p.vr, p.later, ⟨fun i hi => ?_, fun i j b e hi hj hb => ?_, p.rep.nlt, fun b hb => p.rep.klt b (.inl hb), ?_, p.rep.glob⟩, p.new, fun b hb => ?_⟩
  · by_cases ha : h i ≠ .dead ∧ H i = .dead
    · rw [asd i ha.1 ha.2]
      obtain ⟨u, hu, ho⟩ := R.ob i ha.1
      refine ⟨u, p.later.loc i u hu, ho.keep p.later (fun b hb ow => ⟨fun hn => ?_, ow.2⟩) fun b hb => p.rep.pres.mem b (blkAside ha.1 ha.2 hu hb)⟩
      rcases p.bound b hn with x | x
      · exact ow.1 x
      · exact x (blkAside ha.1 ha.2 hu hb)
    · rw [same i ha] at hi ⊢
      obtain ⟨u, hu, ho⟩ := p.rep.ob i hi
      exact ⟨u, hu, ho.less fun b hb => .inl hb⟩
  · by_cases hai : h i ≠ .dead ∧ H i = .dead
    · obtain ⟨u, hu, ho⟩ := R.ob i hai.1
      have hu' := p.later.loc i u hu
      rw [hu'] at hb
      by_cases haj : h j ≠ .dead ∧ H j = .dead
      · obtain ⟨x, hx, _⟩ := R.ob j haj.1
        rw [p.later.loc j x hx]
        intro hc
        exact R.sep i j b e hai.1 haj.1 (by rw [hu]; exact hb) (by rw [hx]; exact hc)
      · rw [same j haj] at hj
        intro hc
        obtain ⟨x, hx, hox⟩ := p.rep.ob j hj
        rw [hx] at hc
        exact (hox.blk hj hc).1.2 (blkAside hai.1 hai.2 hu hb)
    · rw [same i hai] at hi
      by_cases haj : h j ≠ .dead ∧ H j = .dead
      · obtain ⟨x, hx, _⟩ := R.ob j haj.1
        rw [p.later.loc j x hx]
        intro hc
        obtain ⟨u, hu, hou⟩ := p.rep.ob i hi
        rw [hu] at hb
        exact (hou.blk hi hb).1.2 (blkAside haj.1 haj.2 hx hc)
      · rw [same j haj] at hj
        exact p.rep.sep i j b e hi hj hb
  · have q := p.rep.pres
    exact ⟨q.os.trans R.pres.os, q.tape.trans R.pres.tape, q.output.trans R.pres.output, Nat.le_trans R.pres.size q.size, fun b hb => (q.mem b (.inl hb)).trans (R.pres.mem b hb)⟩
  · exact (p.bound b hb).imp id fun x y => x (.inl y)

end
end Ev
