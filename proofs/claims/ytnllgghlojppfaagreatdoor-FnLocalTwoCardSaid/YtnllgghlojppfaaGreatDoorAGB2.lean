/- Plain laws about what the functions compute. Conditions: as stated. -/
import Derived.Test.YtnllgghlojppfaaGreatDoorAGB1
section
set_option linter.unusedVariables false
set_option linter.unusedSimpArgs false
namespace Ev
open Go
def Tk.Pos (ls ds : List Nat) : Tk → Prop
  | .lit c => c < ls.length ∧ 0 < ls.getD c 0
  | .far l k => (257 + symF longF l < ls.length ∧ 0 < ls.getD (257 + symF longF l) 0) ∧ symF backF k < ds.length ∧ 0 < ds.getD (symF backF k) 0
theorem mSym_symB (ns : List Nat) (hk : kraft ns ≤ 32768) (h15 : ∀ n ∈ ns, n ≤ 15) (i : Nat) (hi : i < ns.length) (h0 : 0 < ns.getD i 0) (rest : List Bool) : mSym ns (some (symB ns i ++ rest)) = some (i, rest) := by
  rw [symB_eq ns h15 i hi h0]; exact mSym_code ns hk h15 i hi h0 rest
theorem mNum_app (k n : Nat) (rest : List Bool) : mNum k (some (numB n k ++ rest)) = some rest := by
  unfold mNum
  dsimp only
  rw [if_pos (by rw [List.length_append, numB_length]; omega), List.drop_left' (numB_length n k)]
theorem take_numB (k n : Nat) (hn : n < 2 ^ k) (rest : List Bool) : valB ((numB n k ++ rest).take k) = n := by
  rw [List.take_left' (numB_length n k), valB_numB, Nat.mod_eq_of_lt hn]
theorem mFar_code (ds : List Nat) (hkd : kraft ds ≤ 32768) (hd : ∀ n ∈ ds, n ≤ 15) (go : List Bool → List Int → Option (List Bool × List Int)) (l k : Nat) (h : (Tk.far l k).Ok)
    (hp : symF backF k < ds.length ∧ 0 < ds.getD (symF backF k) 0) (out o : List Int) (rest : List Bool) (hf : farM out l k = some o) :
    mFar ds go (symF longF l) (numB (l - longF.getD (symF longF l) 0) (longB.getD (symF longF l) 0) ++ (symB ds (symF backF k) ++ (numB (k - backF.getD (symF backF k) 0) (backB.getD (symF backF k) 0) ++ rest))) out = go rest o := by
  obtain ⟨h1, h2, h3, h4⟩ := h
  obtain ⟨_, _, a1, a2, a3⟩ := sym_long l h1 h2
  obtain ⟨_, _, b1, b2, b3⟩ := sym_back k h3 h4
  unfold mFar
  rw [mNum_app, mSym_symB ds hkd hd _ hp.1 hp.2]
  dsimp only
  rw [if_neg (by omega), mNum_app]
  dsimp only
  rw [take_numB _ _ a3, take_numB _ _ b3, show longF.getD (symF longF l) 0 + (l - longF.getD (symF longF l) 0) = l by omega, show backF.getD (symF backF k) 0 + (k - backF.getD (symF backF k) 0) = k by omega, hf]
theorem mTok_code (ls ds : List Nat) (hkl : kraft ls ≤ 32768) (hkd : kraft ds ≤ 32768) (hl : ∀ n ∈ ls, n ≤ 15) (hd : ∀ n ∈ ds, n ≤ 15) (he : 256 < ls.length ∧ 0 < ls.getD 256 0) (s : Str) (hs : s.length ≤ 300) (rest : List Bool) :
    ∀ (F a f : Nat), a ≤ s.length → s.length ≤ a + F → (toksM s F a).length < f → (∀ t ∈ toksM s F a, t.Pos ls ds) → mTok ls ds f (toksB ls ds (toksM s F a) ++ rest) (ints (s.take a)) = some (rest, ints s)
  | 0, a, f, ha, hF, hf, hp => by
    obtain ⟨f', rfl⟩ : ∃ f', f = f' + 1 := ⟨f - 1, by omega⟩
    rw [mTok_succ]
    unfold mStep
    rw [if_neg (by rw [ints_length, List.length_take]; omega)]
    simp only [toksM, toksB]
    rw [mSym_symB ls hkl hl 256 he.1 he.2]
    dsimp only
    rw [if_pos rfl, List.take_of_length_le (by omega)]
  | F + 1, a, f, ha, hF, hf, hp => by
    obtain ⟨f', rfl⟩ : ∃ f', f = f' + 1 := ⟨f - 1, by omega⟩
    by_cases c : a < s.length
    · have e : toksM s (F + 1) a = tokM s a :: toksM s F (a + (tokM s a).long) := by rw [toksM, if_pos c]
      have hok := toksM_ok s (F + 1) a ha
      rw [e] at hf hp hok ⊢
      have hp0 := hp _ (List.mem_cons_self ..)
      have hp1 : ∀ t ∈ toksM s F (a + (tokM s a).long), t.Pos ls ds := fun t ht => hp t (List.mem_cons_of_mem _ ht)
      have hok0 := hok _ (List.mem_cons_self ..)
      rw [List.length_cons] at hf
      have hlong := tokM_long s a
      rw [mTok_succ]
      unfold mStep
      rw [if_neg (by rw [ints_length, List.length_take]; omega), toksB]
      cases ht : tokM s a with
      | lit ch =>
        have hch := tokM_lit ht
        rw [ht] at hp0 hok0 hf hp1
        have hlt : ch < 256 := hok0
        simp only [tokB, List.append_assoc]
        rw [mSym_symB ls hkl hl ch hp0.1 hp0.2]
        dsimp only
        rw [if_neg (by omega), if_pos hlt]
        have ih := mTok_code ls ds hkl hkd hl hd he s hs rest F (a + 1) f' (by omega) (by omega) (by simpa [Tk.long] using hf) (by simpa [Tk.long] using hp1)
        have e1 : ints (s.take (a + 1)) = ints (s.take a) ++ [(ch : Int)] := by
          rw [take_succ' s a 0 c, ints_append, hch]; rfl
        rw [← e1]
        exact ih
      | far l k =>
        obtain ⟨g1, g2, g3, g4, g5, g6⟩ := tokM_far ht ha
        rw [ht] at hp0 hok0 hf hp1
        obtain ⟨⟨q1, q2⟩, q3, q4⟩ := hp0
        obtain ⟨_, _, a1, _, _⟩ := sym_long l g1 g2
        simp only [tokB, List.append_assoc]
        rw [mSym_symB ls hkl hl _ q1 q2]
        dsimp only
        rw [if_neg (by omega), if_neg (by omega), if_neg (by omega), Nat.add_sub_cancel_left, mFar_code ds hkd hd _ l k hok0 ⟨q3, q4⟩ _ _ _ g6]
        exact mTok_code ls ds hkl hkd hl hd he s hs rest F (a + l) f' (by omega) (by omega) (by simpa [Tk.long] using hf) (by simpa [Tk.long] using hp1)
    · have e : toksM s (F + 1) a = [] := by rw [toksM, if_neg c]
      rw [e, mTok_succ]
      unfold mStep
      rw [if_neg (by rw [ints_length, List.length_take]; omega)]
      simp only [toksB]
      rw [mSym_symB ls hkl hl 256 he.1 he.2]
      dsimp only
      rw [if_pos rfl, List.take_of_length_le (by omega)]
theorem symB_len (ns : List Nat) (i : Nat) : (symB ns i).length = ns.getD i 0 := by
  unfold symB msb; rw [List.length_reverse, numB_length]
theorem toksB_len (ls ds : List Nat) (he : 0 < ls.getD 256 0) : ∀ ts : List Tk, (∀ t ∈ ts, t.Pos ls ds) → ts.length + 1 ≤ (toksB ls ds ts).length
  | [], _ => by rw [toksB, symB_len, List.length_nil]; omega
  | t :: r, h => by
    have ih := toksB_len ls ds he r (fun x hx => h x (List.mem_cons_of_mem _ hx))
    have h0 := h t (List.mem_cons_self ..)
    have : 1 ≤ (tokB ls ds t).length := by
      cases t with
      | lit c => rw [tokB, symB_len]; have := h0.2; omega
      | far l k => rw [tokB, List.length_append, symB_len]; have := h0.1.2; omega
    rw [toksB, List.length_append, List.length_cons]; omega
theorem lensM_kraft {ns : List Nat} (h : lensM ns = true) : kraft ns ≤ 32768 := by
  unfold lensM at h
  simp only [Bool.and_eq_true, Bool.or_eq_true, decide_eq_true_eq] at h
  rcases h.2.2 with h | h
  · omega
  · omega
theorem mPack_code (ls ds : List Nat) (h1 : lensM ls = true) (h2 : lensM ds = true) (he : 256 < ls.length ∧ 0 < ls.getD 256 0) (s : Str) (hs : s.length ≤ 300) (hp : ∀ t ∈ toks s, t.Pos ls ds) (rest : List Bool) :
    mPack ls ds (some (toksB ls ds (toks s) ++ rest)) [] = some (rest, ints s) := by
  have hl := toksB_len ls ds he.2 (toks s) hp
  unfold mPack
  dsimp only
  rw [h1, h2, Bool.and_self, if_pos rfl]
  have := mTok_code ls ds (lensM_kraft h1) (lensM_kraft h2) (lensM_le h1).2 (lensM_le h2).2 he s hs rest s.length 0 ((toksB ls ds (toks s) ++ rest).length + 1) (Nat.zero_le _) (by omega) (by rw [List.length_append]; unfold toks at hl; unfold toks; omega) hp
  exact this
theorem valB_rep : ∀ n, valB (List.replicate n false) = 0
  | 0 => rfl
  | n + 1 => by rw [List.replicate_succ, valB, valB_rep n]; rfl
theorem mEven_fill (z : Nat) (h : z < 8) : mEven (some (List.replicate z false)) = some [] := by
  unfold mEven
  dsimp only
  rw [List.length_replicate, Nat.mod_eq_of_lt h, List.take_of_length_le (by simp), valB_rep, if_pos rfl, List.drop_eq_nil_of_le (by simp)]
theorem mGet_of (b body : List Bool) (k : Nat) (hk : k < 4) (o : List Int) (ho : o.length ≤ 300) (hb : b = true :: (numB k 2 ++ body)) (h : ∀ rest, mBody k (some (body ++ rest)) [] = some (rest, o)) :
    mGet (textB b) = some (o, (textB b).length) := by
  subst hb
  unfold mGet
  rw [bitsOf_textB]
  unfold fillB
  generalize hz : (8 - (true :: (numB k 2 ++ body)).length % 8) % 8 = z
  have hz8 : z < 8 := by rw [← hz]; exact Nat.mod_lt _ (by decide)
  rw [List.cons_append, mGo, mPart_cons, List.append_assoc, take_numB 2 k (by omega), mNum_app, h]
  simp only [Option.map_some, Option.bind_some]
  rw [if_neg (by omega), if_pos trivial]
  simp only [Option.bind_some]
  rw [mEven_fill z hz8]
  simp
theorem fix_pos (t : Tk) (h : t.Ok) : t.Pos fixL fixD := by
  have hL : ∀ i, i < 288 → 0 < fixL.getD i 0 := by decide +kernel
  have hD : ∀ i, i < 32 → 0 < fixD.getD i 0 := by decide +kernel
  cases t with
  | lit c =>
    have h : c < 256 := h
    exact ⟨by rw [fixL_length]; omega, hL c (by omega)⟩
  | far l k =>
    obtain ⟨h1, h2, h3, h4⟩ := h
    obtain ⟨_, _, a1, _, _⟩ := sym_long l h1 h2
    obtain ⟨_, _, b1, _, _⟩ := sym_back k h3 h4
    exact ⟨⟨by rw [fixL_length]; omega, hL _ (by omega)⟩, by rw [fixD_length]; omega, hD _ (by omega)⟩
theorem fixL_lensM : lensM fixL = true := by decide +kernel
theorem fixD_lensM : lensM fixD = true := by decide +kernel
theorem mGet_fixed (s : Str) (hs : s.length ≤ 300) : mGet (fixedT s) = some (ints s, (fixedT s).length) := by
  unfold fixedT
  refine mGet_of (fixedB s) (toksB fixL fixD (toks s)) 1 (by omega) _ (by rw [ints_length]; exact hs) ?_ fun rest => ?_
  · unfold fixedB
    rw [List.append_assoc, show numB 1 1 = [true] from rfl]; rfl
  · unfold mBody
    rw [if_neg (by omega), if_pos rfl]
    exact mPack_code fixL fixD fixL_lensM fixD_lensM (by rw [fixL_length]; exact ⟨by omega, by decide +kernel⟩) s hs (fun t ht => fix_pos t (toks_ok s t ht)) rest
theorem bytesB_bits : ∀ s : Str, bytesB s.length (bitsOf s) = ints s
  | [] => rfl
  | c :: r => by
    rw [List.length_cons, bytesB, bitsOf, List.take_left' (numB_length _ _), List.drop_left' (numB_length _ _), bytesB_bits r, valB_numB, Nat.mod_eq_of_lt (by have := c.toNat_lt; simpa using this)]
    rfl
theorem mGet_store (s : Str) (hs : s.length ≤ 300) : mGet (storeT s) = some (ints s, (storeT s).length) := by
  have hb : bitsOf (storeT s) = hdr8 ++ (numB s.length 16 ++ (numB (65535 - s.length) 16 ++ bitsOf s)) := by
    unfold storeT
    rw [bitsOf_append, bitsOf_textB8 5 (storeB s.length) (by unfold storeB; simp only [List.length_append, numB_length]; rfl)]
    unfold storeB
    simp only [List.append_assoc]
  have hlen : (bitsOf s).length = 8 * s.length := bitsOf_length s
  unfold mGet
  rw [hb]
  have h8 : ∀ r : List Bool, hdr8 ++ r = true :: (numB 0 2 ++ (List.replicate 5 false ++ r)) := fun r => rfl
  rw [h8, mGo, mPart_cons, take_numB 2 0 (by omega), mNum_app]
  unfold mBody
  rw [if_pos rfl]
  unfold mStored mEven
  dsimp only
  rw [show (List.replicate 5 false ++ (numB s.length 16 ++ (numB (65535 - s.length) 16 ++ bitsOf s))).length % 8 = 5 by simp only [List.length_append, List.length_replicate, numB_length, hlen]; omega,
    List.take_left' (List.length_replicate ..), valB_rep, if_pos rfl, List.drop_left' (List.length_replicate ..)]
  dsimp only
  rw [mNum_app]
  dsimp only
  rw [mNum_app]
  dsimp only
  rw [take_numB 16 s.length (by omega), take_numB 16 (65535 - s.length) (by omega), if_neg (by omega)]
  simp only [Option.map_some, Option.bind_some, List.nil_append]
  rw [if_neg (by rw [bytesB_length]; omega), if_pos trivial, bytesB_bits, List.drop_eq_nil_of_le (by omega)]
  simp [valB]
end Ev
end
section
set_option linter.unusedVariables false
set_option linter.unusedSimpArgs false
namespace Ev
open Go
theorem mMeta_code (M : List Nat) (h7 : ∀ i, M.getD i 0 ≤ 7) (rest : List Bool) : ∀ (is A : List Nat), mMeta is (metaB M is ++ rest) A = some (rest, is.foldl (fun A k => A.set k (M.getD k 0)) A)
  | [], A => rfl
  | k :: r, A => by
    have e : metaB M (k :: r) = numB (M.getD k 0) 3 ++ metaB M r := by simp [metaB]
    have := h7 k
    rw [e, List.append_assoc, mMeta, mNum_app]
    dsimp only
    rw [take_numB 3 _ (by omega), mMeta_code M h7 rest r]
    rfl
theorem order_all0 (a0 a1 a2 a3 a4 a5 a6 a7 a8 a9 a10 a11 a12 a13 a14 a15 a16 a17 a18 : Nat) : orderL.foldl (fun A k => A.set k ([a0, a1, a2, a3, a4, a5, a6, a7, a8, a9, a10, a11, a12, a13, a14, a15, a16, a17, a18].getD k 0)) (List.replicate 19 0) = [a0, a1, a2, a3, a4, a5, a6, a7, a8, a9, a10, a11, a12, a13, a14, a15, a16, a17, a18] := by kernel_rfl
theorem order_all (M : List Nat) (h : M.length = 19) : orderL.foldl (fun A k => A.set k (M.getD k 0)) (List.replicate 19 0) = M := by
  match M, h with
  | [a0, a1, a2, a3, a4, a5, a6, a7, a8, a9, a10, a11, a12, a13, a14, a15, a16, a17, a18], _ => exact order_all0 a0 a1 a2 a3 a4 a5 a6 a7 a8 a9 a10 a11 a12 a13 a14 a15 a16 a17 a18
theorem mAll_code (M : List Nat) (hk : kraft M ≤ 32768) (h15 : ∀ n ∈ M, n ≤ 15) (rest : List Bool) (n : Nat) : ∀ (S all : List Nat) (f : Nat), (∀ s ∈ S, s < M.length ∧ 0 < M.getD s 0 ∧ s < 16) → all.length + S.length = n → S.length < f →
    mAll M n f (allB M S ++ rest) all = some (rest, all ++ S)
  | [], all, f, h, hn, hf => by
    obtain ⟨f', rfl⟩ : ∃ f', f = f' + 1 := ⟨f - 1, by omega⟩
    rw [mAll_succ]
    unfold mAllStep
    rw [if_neg (by simp at hn; omega)]
    simp [allB]
  | s :: r, all, f, h, hn, hf => by
    obtain ⟨f', rfl⟩ : ∃ f', f = f' + 1 := ⟨f - 1, by omega⟩
    obtain ⟨h1, h2, h3⟩ := h s (List.mem_cons_self ..)
    rw [List.length_cons] at hn hf
    have e : allB M (s :: r) = symB M s ++ allB M r := by simp [allB]
    rw [mAll_succ]
    unfold mAllStep
    rw [if_pos (by omega), e, List.append_assoc, mSym_symB M hk h15 s h1 h2]
    dsimp only
    unfold mRep
    rw [if_pos h3]
    simp only [Option.bind_some]
    rw [mAll_code M hk h15 rest n r (all ++ [s]) f' (fun x hx => h x (List.mem_cons_of_mem _ hx)) (by simp; omega) (by omega), List.append_assoc]
    rfl
theorem lensM_of {ns : List Nat} (h1 : ns.length ≤ 300) (h2 : ∀ n ∈ ns, n ≤ 15) (h3 : kraft ns = 32768 ∨ used ns = 1 ∧ kraft ns = 16384) : lensM ns = true := by
  unfold lensM
  simp only [Bool.and_eq_true, Bool.or_eq_true, decide_eq_true_eq, List.all_eq_true]
  exact ⟨h1, h2, h3⟩
theorem mLens_own (ts : List Tk) (hO : OwnOk ts) (rest : List Bool) :
    mLens (some (numB ((ownL ts).length - 257) 5 ++ (numB ((ownD ts).length - 1) 5 ++ (numB 15 4 ++ (metaB (ownM ts) orderL ++ (allB (ownM ts) (ownS ts) ++ rest)))))) = some (ownL ts, ownD ts, rest) := by
  have l1 := hO.l1
  have l2 := hO.l2
  have d1 := hO.d1
  have d2 := hO.d2
  have hSl : (ownS ts).length = (ownL ts).length + (ownD ts).length := by unfold ownS; rw [List.length_append]
  have h16 : ∀ s ∈ ownS ts, s < 16 := fun s hs => by
    unfold ownS at hs
    rcases List.mem_append.1 hs with h | h
    · have := hO.l15 s h; omega
    · have := hO.d15 s h; omega
  have hML : lensM (ownM ts) = true := lensM_of (by rw [hO.ml]; omega) hO.m15 hO.m.ok
  unfold mLens
  dsimp only
  rw [mNum_app]
  dsimp only
  rw [mNum_app]
  dsimp only
  rw [mNum_app]
  dsimp only
  rw [take_numB 5 _ (by omega), take_numB 5 _ (by omega), take_numB 4 15 (by omega)]
  unfold mLens3
  rw [show orderL.take (15 + 4) = orderL from rfl, mMeta_code (ownM ts) hO.m7, order_all _ hO.ml]
  dsimp only
  have hneg : ¬ (lensM (ownM ts) = false ∨ 286 < (ownL ts).length - 257 + 257 ∨ 30 < (ownD ts).length - 1 + 1) := by
    rintro (q | q | q)
    · rw [hML] at q; cases q
    · omega
    · omega
  rw [if_neg hneg, show (ownL ts).length - 257 + 257 = (ownL ts).length by omega, show (ownD ts).length - 1 + 1 = (ownD ts).length by omega,
    mAll_code (ownM ts) hO.km hO.m15 rest ((ownL ts).length + (ownD ts).length) (ownS ts) [] _ (fun s hs => ⟨by rw [hO.ml]; exact (hO.mpos s hs).2, (hO.mpos s hs).1, h16 s hs⟩) (by rw [hSl]; simp) (by omega)]
  dsimp only
  rw [List.nil_append, if_pos hSl]
  unfold ownS
  rw [List.take_left' rfl, List.drop_left' rfl]
theorem OwnOk.pos {ts : List Tk} (h : OwnOk ts) : ∀ t ∈ ts, t.Pos (ownL ts) (ownD ts) := fun t ht => by
  cases t with
  | lit c => have := h.lpos c (List.mem_flatMap.2 ⟨_, ht, by simp [litS]⟩); exact ⟨this.2, this.1⟩
  | far l k =>
    have h1 := h.lpos (257 + symF longF l) (List.mem_flatMap.2 ⟨_, ht, by simp [litS]⟩)
    have h2 := h.dpos (symF backF k) (List.mem_flatMap.2 ⟨_, ht, by simp [bakS]⟩)
    exact ⟨⟨h1.2, h1.1⟩, h2.2, h2.1⟩
theorem mGet_own (s : Str) (hs : s.length ≤ 300) : mGet (ownT s) = some (ints s, (ownT s).length) := by
  have hlen : (toks s).length ≤ 300 := Nat.le_trans (toks_length s) hs
  have hO := own_ok (toks s) (toks_ok s) hlen
  unfold ownT
  refine mGet_of (ownB (toks s)) (numB ((ownL (toks s)).length - 257) 5 ++ (numB ((ownD (toks s)).length - 1) 5 ++ (numB 15 4 ++ (metaB (ownM (toks s)) orderL ++ (allB (ownM (toks s)) (ownS (toks s)) ++ toksB (ownL (toks s)) (ownD (toks s)) (toks s)))))) 2 (by omega) _ (by rw [ints_length]; exact hs) ?_ fun rest => ?_
  · unfold ownB ownH
    simp only [List.append_assoc, List.nil_append, show numB 1 1 = [true] from rfl, List.cons_append]
  · simp only [List.append_assoc]
    unfold mBody
    rw [if_neg (by omega), if_neg (by omega), if_pos rfl, mLens_own _ hO]
    dsimp only
    exact mPack_code _ _ (lensM_of (by have := hO.l2; omega) hO.l15 hO.lk) (lensM_of (by have := hO.d2; omega) hO.d15 hO.dk) ⟨by have := hO.l1; omega, hO.epos⟩ s hs hO.pos rest
theorem bestT_le (s : Str) : (bestT s).length ≤ s.length + 5 := by
  have := storeT_length s
  unfold bestT
  dsimp only
  split <;> split <;> omega
theorem mGet_best (s : Str) (hs : s.length ≤ 300) : mGet (bestT s) = some (ints s, (bestT s).length) := by
  have h : bestT s = ownT s ∨ bestT s = fixedT s ∨ bestT s = storeT s := by
    unfold bestT
    dsimp only
    by_cases c1 : (fixedT s).length < (storeT s).length
    · rw [if_pos c1]; split
      · exact .inl rfl
      · exact .inr (.inl rfl)
    · rw [if_neg c1]; split
      · exact .inl rfl
      · exact .inr (.inr rfl)
  rcases h with h | h | h <;> rw [h]
  · exact mGet_own s hs
  · exact mGet_fixed s hs
  · exact mGet_store s hs
theorem flateM_best (s : Str) (hs : s.length ≤ 300) : flateM (bestT s) = (s, ((bestT s).length : Int), true) := by
  have := bestT_le s
  unfold flateM
  rw [if_neg (by omega), mGet_best s hs]
  unfold getZ ints
  dsimp only
  rw [toBytes_ints]
end Ev
end
section
set_option linter.unusedVariables false
set_option linter.unusedSimpArgs false
namespace Ev
open Go
theorem cutAt_sum (b : UInt8) : ∀ s : Str, ((cutAt b s).map fun p => p.length + 1).sum = s.length + 1
  | [] => rfl
  | c :: s => by
    have ih := cutAt_sum b s
    simp only [cutAt]
    split
    · rw [List.map_cons, List.sum_cons, ih, List.length_cons, List.length_nil]; omega
    · cases hc : cutAt b s with
      | nil => exact absurd hc (cutAt_ne b s)
      | cons p r =>
        rw [hc] at ih
        simp only [List.map_cons, List.sum_cons, List.length_cons] at ih ⊢
        omega
theorem sum_le_mul {α : Type} (f : α → Nat) (k : Nat) : ∀ l : List α, (∀ x ∈ l, f x ≤ k) → (l.map f).sum ≤ k * l.length
  | [], _ => by simp
  | x :: l, h => by
    have h1 := h x (List.mem_cons_self ..)
    have h2 := sum_le_mul f k l (fun y hy => h y (List.mem_cons_of_mem _ hy))
    rw [List.map_cons, List.sum_cons, List.length_cons, Nat.mul_add]; omega
theorem nameOk_le {s : Str} (h : nameOk s = true) : 1 ≤ s.length ∧ s.length ≤ 43 := by
  unfold nameOk at h
  rw [Bool.and_eq_true, List.all_eq_true, decide_eq_true_eq] at h
  obtain ⟨h1, h2⟩ := h
  have hs := cutAt_sum 47 s
  have hp : ∀ p ∈ cutAt 47 s, 1 ≤ p.length ∧ p.length ≤ 10 := fun p hp => by
    have := h1 p hp
    unfold part at this
    simp only [Bool.and_eq_true, decide_eq_true_eq] at this
    exact this.2.1
  have hm := sum_le_mul (fun p : Str => p.length + 1) 11 (cutAt 47 s) (fun p h => by have := hp p h; omega)
  refine ⟨?_, by omega⟩
  cases hc : cutAt 47 s with
  | nil => exact absurd hc (cutAt_ne 47 s)
  | cons p r =>
    have := (hp p (by rw [hc]; exact List.mem_cons_self ..)).1
    rw [hc, List.map_cons, List.sum_cons] at hs
    omega
abbrev Fil.txt (e : Fil) : Str := e.2.2.2.2.2.2.2
def packM (text : Str) : Nat × Str := if (bestT text).length < text.length then (8, bestT text) else (0, text)
def stF (e : Fil) : Nat := stN e.2.1.toNat e.2.2.1.toNat e.2.2.2.1.toNat e.2.2.2.2.1.toNat e.2.2.2.2.2.1.toNat e.2.2.2.2.2.2.1.toNat
def locH (e : Fil) : Str := headM (packM e.txt).1 (stF e) (crcM e.txt) (packM e.txt).2.length e.txt.length e.1.length
def locT (e : Fil) : Str := locH e ++ (e.1 ++ (packM e.txt).2)
theorem headM_length (a b c d e f : Nat) : (headM a b c d e f).length = 30 := by
  unfold headM; simp only [List.length_append, leB_length]
theorem packM_le (t : Str) : (packM t).2.length ≤ t.length ∧ (packM t).1 ≤ 8 := by
  unfold packM
  split
  · exact ⟨by dsimp only; omega, by dsimp only; omega⟩
  · exact ⟨Nat.le_refl _, by dsimp only; omega⟩
theorem unpM_8 (body t : Str) (h : flateM body = (t, (body.length : Int), true)) : unpM 8 body = some t := by
  unfold unpM
  rw [h, if_neg (by omega), if_pos rfl]
  exact if_pos ⟨rfl, rfl⟩
theorem unpM_0 (body : Str) : unpM 0 body = some body := by
  unfold unpM; rw [if_pos rfl]
theorem packM_un (t : Str) (ht : t.length ≤ 300) : unpM (packM t).1 (packM t).2 = some t := by
  have h8 := unpM_8 (bestT t) t (flateM_best t ht)
  have h0 := unpM_0 t
  unfold packM
  generalize bestT t = b at h8 ⊢
  split
  · exact h8
  · exact h0
theorem locT_length (e : Fil) : (locT e).length = 30 + e.1.length + (packM e.txt).2.length := by
  unfold locT locH; rw [List.length_append, List.length_append, headM_length]; omega
theorem filOk_parts {e : Fil} (h : filOk e = true) : nameOk e.1 = true ∧ stM e.2.1 e.2.2.1 e.2.2.2.1 e.2.2.2.2.1 e.2.2.2.2.2.1 e.2.2.2.2.2.2.1 = true ∧ e.txt.length ≤ 300 := by
  unfold filOk at h
  simp only [Bool.and_eq_true, decide_eq_true_eq] at h
  exact ⟨h.1, h.2.1, h.2.2⟩
set_option maxRecDepth 100000 in
theorem locM_locT (e : Fil) (h : filOk e = true) (x : Str) : locM (locT e ++ x) = some (e, (locT e).length) := by
  obtain ⟨h1, h2, h3⟩ := filOk_parts h
  have hL := locT_length e
  have hnl := nameOk_le h1
  have hp := packM_le e.txt
  have hu := packM_un e.txt h3
  have hc := crcM_lt e.txt
  obtain ⟨y, mo, d, hh, mi, sec, e1, e2, e3, e4, e5, e6, _⟩ := stM_nat h2
  have hst : stF e = stN y mo d hh mi sec := by
    unfold stF; rw [e1, e2, e3, e4, e5, e6]; simp only [Int.toNat_natCast]
  rw [e1, e2, e3, e4, e5, e6] at h2
  obtain ⟨g1, g2⟩ := stG_stN h2
  rw [← hst] at g1 g2
  obtain ⟨s, hs⟩ : ∃ s, s = locT e ++ x := ⟨_, rfl⟩
  rw [← hs]
  have hsl : s.length = (locT e).length + x.length := by rw [hs, List.length_append]
  have happ : s = locH e ++ (e.1 ++ ((packM e.txt).2 ++ x)) := by rw [hs]; unfold locT; simp only [List.append_assoc]
  have hl30 : (locH e).length = 30 := headM_length _ _ _ _ _ _
  have ht30 : locH e = s.take 30 := by rw [happ, List.take_left' hl30]
  have hd30 : s.drop 30 = e.1 ++ ((packM e.txt).2 ++ x) := by rw [happ, List.drop_left' hl30]
  have hname : (s.drop 30).take e.1.length = e.1 := by rw [hd30, List.take_left' rfl]
  have hbody : (s.drop (30 + e.1.length)).take (packM e.txt).2.length = (packM e.txt).2 := by
    rw [← List.drop_drop, hd30, List.drop_left' rfl, List.take_left' rfl]
  obtain ⟨q1, q2, q3, q4, q5, q6, q7, q8, q9, q10⟩ := (head_iff s (by omega) (packM e.txt).1 (stF e) (crcM e.txt) (packM e.txt).2.length e.txt.length e.1.length (by omega) g2 hc (by omega) (by omega) (by omega)).1 ht30
  unfold locM
  rw [if_neg (by omega), q9, q7, if_neg (by omega), q4, hbody, hu]
  dsimp only
  have hC : locC s e.txt := by
    unfold locC
    rw [q9, hname, q5, g1]
    exact ⟨h1, h2, h3, q1, q2, q3, q10, q6, q8⟩
  rw [if_pos hC, hname, q5, g1]
  dsimp only
  rw [← e1, ← e2, ← e3, ← e4, ← e5, ← e6, ← hL]
theorem locM_short (e : Fil) (h : filOk e = true) (k : Nat) (hk : k < (locT e).length) : locM ((locT e).take k) = none := by
  obtain ⟨h1, h2, h3⟩ := filOk_parts h
  have hL := locT_length e
  have hnl := nameOk_le h1
  have hp := packM_le e.txt
  have hc := crcM_lt e.txt
  obtain ⟨y, mo, d, hh, mi, sec, e1, e2, e3, e4, e5, e6, _⟩ := stM_nat h2
  have hst : stF e = stN y mo d hh mi sec := by
    unfold stF; rw [e1, e2, e3, e4, e5, e6]; simp only [Int.toNat_natCast]
  rw [e1, e2, e3, e4, e5, e6] at h2
  obtain ⟨g1, g2⟩ := stG_stN h2
  rw [← hst] at g2
  have hl30 : (locH e).length = 30 := headM_length _ _ _ _ _ _
  have ht30 : locH e = (locT e).take 30 := by unfold locT; rw [List.take_left' hl30]
  obtain ⟨q1, q2, q3, q4, q5, q6, q7, q8, q9, q10⟩ := (head_iff (locT e) (by omega) (packM e.txt).1 (stF e) (crcM e.txt) (packM e.txt).2.length e.txt.length e.1.length (by omega) g2 hc (by omega) (by omega) (by omega)).1 ht30
  unfold locM
  rw [List.length_take, Nat.min_eq_left (by omega)]
  by_cases c : k < 30
  · rw [if_pos c]
  · rw [if_neg c, leN_take _ _ _ _ (by omega), leN_take _ _ _ _ (by omega), q9, q7, if_pos (by omega)]
end Ev
end
section
set_option linter.unusedVariables false
set_option linter.unusedSimpArgs false
namespace Ev
open Go
theorem locT_le {e : Fil} (h : filOk e = true) : (locT e).length ≤ 373 ∧ 30 ≤ (locT e).length := by
  obtain ⟨h1, h2, h3⟩ := filOk_parts h
  have := nameOk_le h1
  have := packM_le e.txt
  rw [locT_length]; omega
end Ev
end
section
set_option linter.unusedVariables false
set_option linter.unusedSimpArgs false
namespace Ev
open Go
theorem filOk_eq (e : Fil) (hn : e.1.length ≤ 1048576) : entryOk e.1 e.2.1 e.2.2.1 e.2.2.2.1 e.2.2.2.2.1 e.2.2.2.2.2.1 e.2.2.2.2.2.2.1 e.2.2.2.2.2.2.2 = some (filOk e) := entryOk_eq _ hn _ _ _ _ _ _ _
theorem specFilOk_eq (e : Fil) (hn : e.1.length ≤ 1048576) : specEntryOk e.1 e.2.1 e.2.2.1 e.2.2.2.1 e.2.2.2.2.1 e.2.2.2.2.2.1 e.2.2.2.2.2.2.1 e.2.2.2.2.2.2.2 = some (filOk e) := specEntryOk_eq _ hn _ _ _ _ _ _ _
theorem fil_parts {e : Fil} (h : filOk e = true) : ∃ (nm : Str) (y mo d hh mi sec : Nat) (t : Str), e = (nm, (y : Int), (mo : Int), (d : Int), (hh : Int), (mi : Int), (sec : Int), t) ∧ nameOk nm = true ∧ stM y mo d hh mi sec = true ∧ t.length ≤ 300 ∧ nm.length ≤ 43 ∧ 1 ≤ nm.length ∧ stF e = stN y mo d hh mi sec ∧ stN y mo d hh mi sec < 4294967296 := by
  obtain ⟨h1, h2, h3⟩ := filOk_parts h
  have hnl := nameOk_le h1
  obtain ⟨nm, y, mo, d, hh, mi, sec, t⟩ := e
  dsimp only at h1 h2 h3 hnl
  obtain ⟨y', mo', d', hh', mi', sec', rfl, rfl, rfl, rfl, rfl, rfl, _⟩ := stM_nat h2
  exact ⟨nm, y', mo', d', hh', mi', sec', t, rfl, h1, h2, h3, hnl.2, hnl.1, by unfold stF; simp only [Int.toNat_natCast], (stG_stN h2).2⟩
theorem localPut_eq (e : Fil) (hn : e.1.length ≤ 1048576) : localPut e.1 e.2.1 e.2.2.1 e.2.2.2.1 e.2.2.2.2.1 e.2.2.2.2.2.1 e.2.2.2.2.2.2.1 e.2.2.2.2.2.2.2 = some (if filOk e then locT e else []) := by
  unfold localPut
  rw [filOk_eq e hn]
  simp only [bind_go]
  cases hf : filOk e with
  | false => rfl
  | true =>
    obtain ⟨nm, y, mo, d, hh, mi, sec, t, rfl, h1, h2, h3, h4, _, h5, h6⟩ := fil_parts hf
    have hb := bestT_le t
    dsimp only
    simp only [Bool.not_true, cond_false]
    rw [if_pos trivial, flatePut_eq t h3]
    simp only [bind_go]
    unfold locT locH packM
    rw [h5]
    dsimp only [Fil.txt]
    by_cases hlt : (bestT t).length < t.length
    · rw [decide_eq_true (by omega), cond_true, if_pos hlt]
      have := headOf_eq nm (by omega) h2 t (by omega) 8 (bestT t).length (by omega) (by omega)
      rw [show ((8 : Nat) : Int) = 8 from rfl] at this
      rw [this]
      simp only [bind_go]
      rw [need_fits (by rw [headM_length]; omega), need_fits (by rw [List.length_append, headM_length]; omega), List.append_assoc]
    · rw [decide_eq_false (by omega), cond_false, if_neg hlt]
      have := headOf_eq nm (by omega) h2 t (by omega) 0 t.length (by omega) (by omega)
      rw [show ((0 : Nat) : Int) = 0 from rfl] at this
      rw [this]
      simp only [bind_go]
      rw [need_fits (by rw [headM_length]; omega), need_fits (by rw [List.length_append, headM_length]; omega), List.append_assoc]
theorem l6How_eq (t : Str) (ht : t.length ≤ 300) : l6How t = some (((packM t).1 : Int), (packM t).2) := by
  unfold l6How packM
  rw [specFlatePut_eq t ht]
  simp only [bind_go]
  by_cases hlt : (bestT t).length < t.length
  · rw [decide_eq_true (by omega), if_pos hlt]; rfl
  · rw [decide_eq_false (by omega), if_neg hlt]; rfl
def fldM (e : Fil) : Str := leB 20 2 ++ leB 0 2 ++ leB (packM e.txt).1 2 ++ leB (stF e) 4 ++ leB (crcM e.txt) 4 ++ leB (packM e.txt).2.length 4 ++ leB e.txt.length 4 ++ leB e.1.length 2 ++ leB 0 2
theorem locH_fld (e : Fil) : locH e = leB 67324752 4 ++ fldM e := by
  unfold locH headM fldM; simp only [List.append_assoc]
theorem fldM_length (e : Fil) : (fldM e).length = 26 := by
  unfold fldM; simp only [List.length_append, leB_length]
set_option maxRecDepth 100000 in
theorem l6Fields_eq (e : Fil) (hf : filOk e = true) : l6Fields e.1 e.2.1 e.2.2.1 e.2.2.2.1 e.2.2.2.2.1 e.2.2.2.2.2.1 e.2.2.2.2.2.2.1 e.2.2.2.2.2.2.2 = some (fldM e) := by
  have L : ∀ n k, (leB n k).length = k := leB_length
  obtain ⟨nm, y, mo, d, hh, mi, sec, t, rfl, h1, h2, h3, h4, _, h5, h6⟩ := fil_parts hf
  have hp := packM_le t
  have hc := crcM_lt t
  have n1 := l6Bytes_eq 20 2 (by omega) (by omega)
  have n2 := l6Bytes_eq 0 2 (by omega) (by omega)
  have n3 := l6Bytes_eq (packM t).1 2 (by omega) (by omega)
  have n4 := l6Bytes_eq (stN y mo d hh mi sec) 4 (by omega) (by omega)
  have n5 := l6Bytes_eq (crcM t) 4 (by omega) (by omega)
  have n6 := l6Bytes_eq (packM t).2.length 4 (by omega) (by omega)
  have n7 := l6Bytes_eq t.length 4 (by omega) (by omega)
  have n8 := l6Bytes_eq nm.length 2 (by omega) (by omega)
  rw [show ((20 : Nat) : Int) = 20 from rfl, show ((2 : Nat) : Int) = 2 from rfl] at n1
  rw [show ((0 : Nat) : Int) = 0 from rfl, show ((2 : Nat) : Int) = 2 from rfl] at n2
  rw [show ((2 : Nat) : Int) = 2 from rfl] at n3 n8
  rw [show ((4 : Nat) : Int) = 4 from rfl] at n4 n5 n6 n7
  unfold l6Fields
  dsimp only
  rw [l6How_eq t h3]
  simp only [bind_go]
  rw [n1, n2]
  simp only [bind_go]
  rw [need_fits (by simp only [L]; omega), n3]
  simp only [bind_go]
  rw [need_fits (by simp only [List.length_append, L]; omega), l6Put_ok h2]
  simp only [bind_go]
  rw [n4]
  simp only [bind_go]
  rw [need_fits (by simp only [List.length_append, L]; omega), specCrc_eq t (by omega)]
  simp only [bind_go]
  rw [n5]
  simp only [bind_go]
  rw [need_fits (by simp only [List.length_append, L]; omega), n6]
  simp only [bind_go]
  rw [need_fits (by simp only [List.length_append, L]; omega), n7]
  simp only [bind_go]
  rw [need_fits (by simp only [List.length_append, L]; omega), n8]
  simp only [bind_go]
  rw [need_fits (by simp only [List.length_append, L]; omega), need_fits (by simp only [List.length_append, L]; omega)]
  unfold fldM
  rw [h5]
theorem l6Local_eq (e : Fil) (hf : filOk e = true) : l6Local e.1 e.2.1 e.2.2.1 e.2.2.2.1 e.2.2.2.2.1 e.2.2.2.2.2.1 e.2.2.2.2.2.2.1 e.2.2.2.2.2.2.2 = some (locT e) := by
  have hfl := fldM_length e
  have hff := l6Fields_eq e hf
  obtain ⟨g1, g2, g3⟩ := filOk_parts hf
  have hnl := nameOk_le g1
  have hp : (packM e.2.2.2.2.2.2.2).2.length ≤ e.2.2.2.2.2.2.2.length ∧ (packM e.2.2.2.2.2.2.2).1 ≤ 8 := packM_le e.txt
  have g3' : e.2.2.2.2.2.2.2.length ≤ 300 := g3
  have n1 := l6Bytes_eq 67324752 4 (by omega) (by omega)
  rw [show ((67324752 : Nat) : Int) = 67324752 from rfl, show ((4 : Nat) : Int) = 4 from rfl] at n1
  unfold l6Local
  rw [l6How_eq e.2.2.2.2.2.2.2 g3]
  simp only [bind_go]
  rw [n1, hff]
  simp only [bind_go]
  rw [need_fits (by rw [leB_length]; omega), need_fits (by rw [List.length_append, leB_length]; omega), need_fits (by rw [List.length_append, List.length_append, leB_length]; omega)]
  unfold locT
  rw [locH_fld]
  simp only [List.append_assoc]
end Ev
end
section
set_option linter.unusedVariables false
set_option linter.unusedSimpArgs false
namespace Ev
open Go
theorem rdOne_d (xs : List Int) {b : List Int} {p : Int} (h : RdOk b p) (hp : p ≤ 1000000000) (hx : 0 < xs.length) (hx2 : xs.length ≤ 1000000000) : Ret (rdOne xs b p) (Drawn b p 1 fun x => x ∈ xs) := by
  unfold rdOne
  refine .bind (pick_ret _ h hp (by omega)) ?_
  rintro ⟨r, b', p'⟩ ⟨rfl, rfl, h0, h1⟩
  dsimp only at h0 h1 ⊢
  have hlt : r < xs.length := by omega
  ((try simp (disch := omega) only [need_and, need_dec, need_decf, need_fits, need_ne, need_t, w64_id, tmod_e, tdiv_e, bind_some', Option.map_some, cond_true, cond_false, Int.sub_zero, Int.toNat_natCast]); (try simp only [c_dec, c_eq, c_ne, c_nodec, c_not, if_true, if_false]))
  refine .pure ⟨rfl, by dsimp only; omega, by dsimp only; omega, ?_⟩
  dsimp only
  rw [getD_in (by omega)]
  exact List.getElem_mem _
theorem days_ge (y mo : Int) : ∃ n, days y mo = some n ∧ 28 ≤ n := by
  unfold days
  cases (mo == 4) <;> cases (mo == 6) <;> cases (mo == 9) <;> cases (mo == 11) <;> simp only [cond_true, cond_false, bind_go] <;> first
    | exact ⟨30, rfl, by omega⟩
    | (cases (mo == 2) <;> simp only [cond_true, cond_false, bind_go] <;> first
        | exact ⟨31, rfl, by omega⟩
        | (cases (y.tmod 4 == 0) <;> simp only [cond_true, cond_false, bind_go] <;> first
            | exact ⟨28, rfl, by omega⟩
            | (cases (y.tmod 100 != 0) <;> simp only [cond_true, cond_false, bind_go] <;> first
                | exact ⟨29, rfl, by omega⟩
                | (cases (y.tmod 400 == 0) <;> first
                    | exact ⟨29, rfl, by omega⟩
                    | exact ⟨28, rfl, by omega⟩))))
theorem daysM_ge (y mo : Int) : 28 ≤ daysM y mo := by
  obtain ⟨n, h, h2⟩ := days_ge y mo
  unfold daysM; rw [h]; exact h2
theorem stM_of {y mo d h mi s : Int} (h1 : 1980 ≤ y ∧ y ≤ 2107) (h2 : 1 ≤ mo ∧ mo ≤ 12) (h3 : 1 ≤ d ∧ d ≤ 28) (h4 : 0 ≤ h ∧ h ≤ 23) (h5 : 0 ≤ mi ∧ mi ≤ 59) (h6 : 0 ≤ s ∧ s ≤ 58) (h7 : s % 2 = 0) : stM y mo d h mi s = true := by
  have := daysM_ge y mo
  unfold stM
  rw [decide_eq_true h1, decide_eq_true h2, decide_eq_true (⟨h3.1, by omega⟩ : 1 ≤ d ∧ d ≤ daysM y mo), decide_eq_true h4, decide_eq_true h5, decide_eq_true h6, tmod_e (by omega), h7]
  rfl
def DrawnS (b : List Int) (p c : Int) (Q : Int → Int → Int → Int → Int → Int → Prop) (r : Int × Int × Int × Int × Int × Int × List Int × Int) : Prop := ∃ y mo d h mi s p', r = (y, mo, d, h, mi, s, b, p') ∧ p ≤ p' ∧ p' ≤ p + c ∧ Q y mo d h mi s
theorem l11Stamp_d {b : List Int} {p : Int} (h : RdOk b p) (hp : p ≤ 900000000) : Ret (l11Stamp b p) (DrawnS b p 6 fun y mo d h mi s => stM y mo d h mi s = true) := by
  unfold l11Stamp
  refine .bind (rdOne_d _ h (by omega) (by decide) (by decide)) ?_
  rintro ⟨y, b1, p1⟩ ⟨rfl, g1, g2, g3⟩
  dsimp only at g1 g2 g3 ⊢
  refine .bind (pick_d 12 (h.up g1) (by omega) (by omega) (by omega)) ?_
  rintro ⟨mo, b2, p2⟩ ⟨rfl, k1, k2, k3⟩
  dsimp only at k1 k2 k3 ⊢
  refine .bind (pick_d 28 ((h.up g1).up k1) (by omega) (by omega) (by omega)) ?_
  rintro ⟨d, b3, p3⟩ ⟨rfl, l1, l2, l3⟩
  dsimp only at l1 l2 l3 ⊢
  refine .bind (pick_d 24 (((h.up g1).up k1).up l1) (by omega) (by omega) (by omega)) ?_
  rintro ⟨hh, b4, p4⟩ ⟨rfl, m1, m2, m3⟩
  dsimp only at m1 m2 m3 ⊢
  refine .bind (pick_d 60 ((((h.up g1).up k1).up l1).up m1) (by omega) (by omega) (by omega)) ?_
  rintro ⟨mi, b5, p5⟩ ⟨rfl, n1, n2, n3⟩
  dsimp only at n1 n2 n3 ⊢
  refine .bind (pick_d 30 (((((h.up g1).up k1).up l1).up m1).up n1) (by omega) (by omega) (by omega)) ?_
  rintro ⟨s, b6, p6⟩ ⟨rfl, o1, o2, o3⟩
  dsimp only at o1 o2 o3 ⊢
  rw [w64_id (by omega) (by omega), w64_id (by omega) (by omega), w64_id (by omega) (by omega)]
  refine .pure ⟨y, _, _, hh, mi, _, p6, rfl, by omega, by omega, ?_⟩
  have hy : 1980 ≤ y ∧ y ≤ 2107 := by
    simp only [List.mem_cons, List.not_mem_nil, or_false] at g3
    rcases g3 with rfl | rfl | rfl | rfl <;> omega
  exact stM_of hy (by omega) (by omega) (by omega) (by omega) (by omega) (by omega)
theorem l11AnyStamp_d {b : List Int} {p : Int} (h : RdOk b p) (hp : p ≤ 800000000) : Ret (l11AnyStamp b p) (DrawnS b p 8 fun y mo d h mi s => True) := by
  unfold l11AnyStamp
  refine .bind (l11Stamp_d h (by omega)) ?_
  rintro _ ⟨y, mo, d, hh, mi, s, p1, rfl, g1, g2, _⟩
  dsimp only
  refine .bind (pick_d 10 (h.up g1) (by omega) (by omega) (by omega)) ?_
  rintro ⟨x, b2, p2⟩ ⟨rfl, k1, k2, k3⟩
  dsimp only at k1 k2 k3 ⊢
  have h2 := (h.up g1).up k1
  refine .cond (fun _ => ?_) fun _ => .cond (fun _ => ?_) fun _ => .cond (fun _ => ?_) fun _ => .cond (fun _ => ?_) fun _ => .pure ⟨_, _, _, _, _, _, _, rfl, by omega, by omega, trivial⟩
  all_goals
    refine .bind (rdOne_d _ h2 (by omega) (by decide) (by decide)) ?_
    rintro ⟨z, b3, p3⟩ ⟨rfl, l1, l2, l3⟩
    dsimp only at l1 l2 l3 ⊢
    exact .pure ⟨_, _, _, _, _, _, _, rfl, by omega, by omega, trivial⟩
def entZ (e : Fil) (b : List Int) (p : Int) : Str × Int × Int × Int × Int × Int × Int × Str × List Int × Int := (e.1, e.2.1, e.2.2.1, e.2.2.2.1, e.2.2.2.2.1, e.2.2.2.2.2.1, e.2.2.2.2.2.2.1, e.2.2.2.2.2.2.2, b, p)
def DrawnE (b : List Int) (p c : Int) (Q : Fil → Prop) (r : Str × Int × Int × Int × Int × Int × Int × Str × List Int × Int) : Prop := ∃ e p', r = entZ e b p' ∧ p ≤ p' ∧ p' ≤ p + c ∧ Q e
theorem l11Name_ok {b : List Int} {p : Int} (h : RdOk b p) (hp : p ≤ 900000000) : Ret (l11Name b p) (Drawn b p 1 fun s => nameOk s = true ∧ s ∈ nameL) := by
  unfold l11Name
  refine .bind (rdOf_d _ h (by omega) (by decide) (by decide)) ?_
  rintro ⟨x, b2, p2⟩ ⟨rfl, k1, k2, k3⟩
  dsimp only at k1 k2 k3 ⊢
  refine .pure ⟨rfl, k1, k2, ?_⟩
  dsimp only
  simp only [List.mem_cons, List.not_mem_nil, or_false] at k3
  rcases k3 with rfl | rfl | rfl | rfl | rfl | rfl | rfl <;> exact ⟨by decide +kernel, by decide⟩
theorem l11Entry_d {b : List Int} {p : Int} (h : RdOk b p) (hp : p ≤ 800000000) : Ret (l11Entry b p) (DrawnE b p 57 fun e => filOk e = true ∧ e.1 ∈ nameL) := by
  unfold l11Entry
  refine .bind (l11Name_ok h (by omega)) ?_
  rintro ⟨nm, b1, p1⟩ ⟨rfl, g1, g2, g3⟩
  dsimp only at g1 g2 g3 ⊢
  refine .bind (l11Stamp_d (h.up g1) (by omega)) ?_
  rintro _ ⟨y, mo, d, hh, mi, s, p2, rfl, k1, k2, k3⟩
  dsimp only
  refine .bind (l11Text_d ((h.up g1).up k1) (by omega)) ?_
  rintro ⟨t, b3, p3⟩ ⟨rfl, l1, l2, l3⟩
  dsimp only at l1 l2 l3 ⊢
  refine .pure ⟨(nm, y, mo, d, hh, mi, s, t), p3, rfl, by omega, by omega, ?_, g3.2⟩
  unfold filOk
  dsimp only
  rw [g3.1, k3, decide_eq_true l3]; rfl
def FilSm (e : Fil) : Prop := e.1 ∈ nameL ∧ e.txt.length ≤ 301
theorem FilSm.len {e : Fil} (h : FilSm e) : e.1.length ≤ 11 := nameL_len _ h.1
theorem filOk_sm {e : Fil} (h : filOk e = true) (hn : e.1 ∈ nameL) : FilSm e := by
  obtain ⟨h1, h2, h3⟩ := filOk_parts h
  exact ⟨hn, by omega⟩
theorem l11AnyEntry_d {b : List Int} {p : Int} (h : RdOk b p) (hp : p ≤ 700000000) : Ret (l11AnyEntry b p) (DrawnE b p 120 FilSm) := by
  unfold l11AnyEntry
  refine .bind (l11Entry_d h (by omega)) ?_
  rintro _ ⟨e, p1, rfl, g1, g2, g3⟩
  have hsm := filOk_sm g3.1 g3.2
  unfold entZ
  dsimp only
  refine .bind (pick_d 10 (h.up g1) (by omega) (by omega) (by omega)) ?_
  rintro ⟨x, b2, p2⟩ ⟨rfl, k1, k2, k3⟩
  dsimp only at k1 k2 k3 ⊢
  have h2 := (h.up g1).up k1
  refine .cond (fun _ => ?_) fun _ => .cond (fun _ => ?_) fun _ => .cond (fun _ => ?_) fun _ => .pure ⟨e, p2, rfl, by omega, by omega, hsm⟩
  · refine .bind (l11AnyName_in h2 (by omega)) ?_
    rintro ⟨z, b3, p3⟩ ⟨rfl, l1, l2, l3⟩
    dsimp only at l1 l2 l3 ⊢
    exact .pure ⟨(z, e.2), p3, rfl, by omega, by omega, l3, hsm.2⟩
  · refine .bind (l11AnyStamp_d h2 (by omega)) ?_
    rintro _ ⟨y, mo, d, hh, mi, s, p3, rfl, l1, l2, _⟩
    dsimp only
    exact .pure ⟨(e.1, y, mo, d, hh, mi, s, e.txt), p3, rfl, by omega, by omega, hsm⟩
  · refine .bind (l11AnyText_d h2 (by omega)) ?_
    rintro ⟨z, b3, p3⟩ ⟨rfl, l1, l2, l3⟩
    dsimp only at l1 l2 l3 ⊢
    exact .pure ⟨(e.1, e.2.1, e.2.2.1, e.2.2.2.1, e.2.2.2.2.1, e.2.2.2.2.2.1, e.2.2.2.2.2.2.1, z), p3, rfl, by omega, by omega, hsm.1, l3⟩
def CodeOk (xs : List Int) : Prop := ∀ x ∈ xs, 0 ≤ x ∧ x ≤ 255
theorem l1Open_d (xs : List Int) (h : CodeOk xs) (hl : xs.length ≤ 1048576) : Ret (l1Open xs) fun r => r.2 = 0 ∧ RdOk r.1 r.2 := by
  unfold l1Open
  by_cases c : xs.length > 2000
  · rw [decide_eq_true (by omega), cond_true, need_true _ (by simp; omega)]
    refine .pure ⟨rfl, ?_, fun x hx => h x (List.mem_of_mem_take hx), by omega⟩
    rw [List.length_take]; exact Nat.min_le_left ..
  · rw [decide_eq_false (by omega), cond_false]
    exact .pure ⟨rfl, by dsimp only; omega, h, by omega⟩
theorem drawEntryOk_d (xs : List Int) (h : CodeOk xs) (hl : xs.length ≤ 1048576) : Ret (drawEntryOk xs) FilSm := by
  unfold drawEntryOk
  refine .bind (l1Open_d xs h hl) ?_
  rintro ⟨b, p⟩ ⟨rfl, hr⟩
  dsimp only at hr ⊢
  refine .bind (l11AnyEntry_d hr (by omega)) ?_
  rintro _ ⟨e, p1, rfl, g1, g2, g3⟩
  exact .pure g3
end Ev
end
section
set_option linter.unusedVariables false
set_option linter.unusedSimpArgs false
namespace Ev
open Go
theorem sm_fil {e : Fil} (h : FilSm e) : e.1.length ≤ 1048576 := by have := h.len; omega
end Ev
end
section
set_option linter.unusedVariables false
set_option linter.unusedSimpArgs false
namespace Ev
open Go
def putM (e : Fil) : Str := if filOk e then locT e else []
theorem localPut_M (e : Fil) (hn : e.1.length ≤ 1048576) : localPut e.1 e.2.1 e.2.2.1 e.2.2.2.1 e.2.2.2.2.1 e.2.2.2.2.2.1 e.2.2.2.2.2.2.1 e.2.2.2.2.2.2.2 = some (putM e) := localPut_eq e hn
theorem specLocalPut_M (e : Fil) (hn : e.1.length ≤ 1048576) : specLocalPut e.1 e.2.1 e.2.2.1 e.2.2.2.1 e.2.2.2.2.1 e.2.2.2.2.2.1 e.2.2.2.2.2.2.1 e.2.2.2.2.2.2.2 = some (putM e) := by
  unfold specLocalPut putM
  rw [specFilOk_eq e hn]
  simp only [bind_go]
  cases hf : filOk e with
  | false => rfl
  | true =>
    simp only [Bool.not_true, cond_false]
    rw [l6Local_eq e hf]; rfl
theorem l11Bent_d (s : Str) (hs : s.length ≤ 1000000) {b : List Int} {p : Int} (h : RdOk b p) (hp : p ≤ 800000000) : Ret (l11Bent s b p) (Drawn b p 4 fun t => t.length ≤ s.length + 4) := by
  unfold l11Bent
  by_cases c : s = []
  · subst c
    exact .pure ⟨rfl, by dsimp only; omega, by dsimp only; omega, by simp⟩
  rw [beq_false_of_ne c, cond_false]
  have hl : 0 < s.length := List.length_pos_iff.2 c
  refine .bind (pick_d _ h (by omega) (by omega) (by omega)) ?_
  rintro ⟨k, b1, p1⟩ ⟨rfl, g1, g2, g3⟩
  dsimp only at g1 g2 g3 ⊢
  refine .bind (pick_d 5 (h.up g1) (by omega) (by omega) (by omega)) ?_
  rintro ⟨x, b2, p2⟩ ⟨rfl, k1, k2, k3⟩
  dsimp only at k1 k2 k3 ⊢
  have h2 := (h.up g1).up k1
  refine .cond (fun _ => ?_) fun _ => .cond (fun _ => ?_) fun _ => .cond (fun _ => ?_) fun _ => .pure ⟨rfl, by dsimp only; omega, by dsimp only; omega, by dsimp only; omega⟩
  · rw [need_true _ (by simp; omega)]
    refine .bind (pick_d 256 h2 (by omega) (by omega) (by omega)) ?_
    rintro ⟨z, b3, p3⟩ ⟨rfl, l1, l2, l3⟩
    dsimp only at l1 l2 l3 ⊢
    rw [w64_id (by omega) (by omega), need_fits (by simp [toBytes]; omega), need_true _ (by simp; omega), need_fits (by simp [toBytes]; omega)]
    refine .pure ⟨rfl, by dsimp only; omega, by dsimp only; omega, ?_⟩
    simp [toBytes]; omega
  · rw [need_true _ (by simp; omega)]
    refine .pure ⟨rfl, by dsimp only; omega, by dsimp only; omega, ?_⟩
    dsimp only
    rw [List.length_take]; omega
  · refine .bind (rdOf_d _ h2 (by omega) (by decide) (by decide)) ?_
    rintro ⟨z, b3, p3⟩ ⟨rfl, l1, l2, l3⟩
    dsimp only at l1 l2 l3 ⊢
    have hz : z.length ≤ 4 := by
      simp only [List.mem_cons, List.not_mem_nil, or_false] at l3
      rcases l3 with rfl | rfl | rfl <;> decide
    rw [need_fits (by omega)]
    refine .pure ⟨rfl, by dsimp only; omega, by dsimp only; omega, ?_⟩
    dsimp only
    rw [List.length_append]; omega
theorem drawLocalPut_d (xs : List Int) (h : CodeOk xs) (hl : xs.length ≤ 1048576) : Ret (drawLocalPut xs) FilSm := drawEntryOk_d xs h hl
theorem drawLocalGet_d (xs : List Int) (h : CodeOk xs) (hl : xs.length ≤ 1048576) : Ret (drawLocalGet xs) fun s => s.length ≤ 1000 := by
  unfold drawLocalGet
  refine .bind (l1Open_d xs h hl) ?_
  rintro ⟨b, p⟩ ⟨rfl, hr⟩
  dsimp only at hr ⊢
  refine .bind (l11Entry_d hr (by omega)) ?_
  rintro _ ⟨e, p1, rfl, g1, g2, g3⟩
  have hle := locT_le g3.1
  unfold entZ
  dsimp only
  rw [specLocalPut_M e (by have := (nameOk_le (filOk_parts g3.1).1); omega)]
  simp only [bind_go]
  unfold putM
  rw [if_pos g3.1]
  refine .bind (l11Bent_d (locT e) (by omega) (hr.up g1) (by omega)) ?_
  rintro ⟨t, b2, p2⟩ ⟨rfl, k1, k2, k3⟩
  dsimp only at k3 ⊢
  exact .pure (by omega)
theorem localGet_T (e : Fil) (h : filOk e = true) (x : Str) (hx : x.length ≤ 1000000) : localGet (locT e ++ x) = some (e.1, e.2.1, e.2.2.1, e.2.2.2.1, e.2.2.2.2.1, e.2.2.2.2.2.1, e.2.2.2.2.2.2.1, e.2.2.2.2.2.2.2, ((locT e).length : Int), true) := by
  have := locT_le h
  rw [localGet_eq _ (by rw [List.length_append]; omega), locM_locT e h x]; rfl
theorem locT_PK (e : Fil) : ∃ r, locT e = 80 :: 75 :: r := by
  have : leB 67324752 4 = [80, 75, 3, 4] := by decide
  unfold locT
  rw [locH_fld, this]
  exact ⟨_, rfl⟩
theorem locT_ne (e : Fil) : (locT e == []) = false := by
  obtain ⟨r, hr⟩ := locT_PK e
  rw [hr]; rfl
theorem FnLocal_true (xs : List Int) (h : CodeOk xs) (ys : List Int) (h' : CodeOk ys) : FnLocal xs ys = some true := by
  unfold FnLocal
  by_cases c : xs.length > 1048576
  · rw [decide_eq_true (by omega)]; rfl
  rw [decide_eq_false (by omega), cond_false]
  simp only [bind_go]
  by_cases c' : ys.length > 1048576
  · rw [decide_eq_true (by omega)]; rfl
  rw [decide_eq_false (by omega), cond_false]
  obtain ⟨e, he, hs⟩ := drawLocalPut_d xs h (by omega)
  have hl := sm_fil hs
  rw [he]
  simp only [bind_go]
  rw [localPut_M e hl, specLocalPut_M e hl, filOk_eq e hl, specFilOk_eq e hl]
  simp only [bind_go, beq_self_eq_true, Bool.not_true, cond_false]
  cases hf : filOk e with
  | false => simp only [Bool.not_false, cond_true, bind_go]
  | true =>
    simp only [Bool.not_true, cond_false]
    obtain ⟨t, ht, htl⟩ := drawLocalGet_d ys h' (by omega)
    rw [ht]
    simp only [bind_go]
    have hle := locT_le hf
    have hp : putM e = locT e := by unfold putM; rw [if_pos hf]
    have hlen := locT_length e
    have hpk := packM_le (Fil.txt e)
    rw [hp, need_fits (by omega), localGet_T e hf t (by omega)]
    simp only [bind_go]
    rw [w64_id (n := ((locT e).length : Int) - 1) (by omega) (by omega), need_true _ (by simp; omega), show (((locT e).length : Int) - 1).toNat = (locT e).length - 1 by omega, localGet_eq _ (by rw [List.length_take]; omega), locM_short e hf _ (by omega)]
    simp only [bind_go, locZ, beq_self_eq_true, Bool.and_true, Bool.and_self, cond_true, Bool.not_false]
    rw [need_true _ (by simp; omega)]
    have h2 : ((locT e).take 2 == [80, 75]) = true := by
      obtain ⟨r, hr⟩ := locT_PK e
      rw [hr]; rfl
    rw [h2, cond_true, w64_id (n := 30 + (e.1.length : Int)) (by omega) (by omega)]
    have ht3 := (filOk_parts hf).2.2
    show ((some (decide (((locT e).length : Int) ≤ w64 (30 + (e.1.length : Int) + ((Fil.txt e).length : Int))))).bind fun c2 => some c2) = some true
    rw [w64_id (by omega) (by omega)]
    simp only [bind_go]
    rw [decide_eq_true]
    omega
theorem FnLocalTwo_true (xs : List Int) (h : CodeOk xs) (ys : List Int) (h' : CodeOk ys) : FnLocalTwo xs ys = some true := by
  unfold FnLocalTwo
  by_cases c : xs.length > 1048576
  · rw [decide_eq_true (by omega)]; rfl
  rw [decide_eq_false (by omega), cond_false]
  simp only [bind_go]
  by_cases c' : ys.length > 1048576
  · rw [decide_eq_true (by omega)]; rfl
  rw [decide_eq_false (by omega), cond_false]
  obtain ⟨e, he, hs⟩ := drawLocalPut_d xs h (by omega)
  obtain ⟨f, hfd, hsf⟩ := drawLocalPut_d ys h' (by omega)
  have hl := sm_fil hs
  have hlf := sm_fil hsf
  rw [he]
  simp only [bind_go]
  rw [hfd]
  simp only [bind_go]
  rw [localPut_M e hl, localPut_M f hlf, specLocalPut_M e hl]
  simp only [bind_go, beq_self_eq_true, Bool.not_true, cond_false]
  cases hf : filOk e with
  | false =>
    have hp : putM e = [] := by unfold putM; rw [if_neg (by rw [hf]; simp)]
    rw [hp]; rfl
  | true =>
    have hp : putM e = locT e := by unfold putM; rw [if_pos hf]
    rw [hp, locT_ne, cond_false]
    simp only [bind_go]
    cases hff : filOk f with
    | false =>
      have hpf : putM f = [] := by unfold putM; rw [if_neg (by rw [hff]; simp)]
      rw [hpf]; rfl
    | true =>
      have hpf : putM f = locT f := by unfold putM; rw [if_pos hff]
      have hle := locT_le hf
      have hlef := locT_le hff
      rw [hpf, locT_ne, cond_false, need_fits (by omega), localGet_T e hf _ (by omega)]
      simp only [bind_go]
      rw [need_fits (by omega), need_true _ (by simp; omega), Int.toNat_natCast, List.drop_left' rfl]
      have hg := localGet_T f hff [] (by simp)
      rw [List.append_nil] at hg
      rw [hg]
      simp only [bind_go, beq_self_eq_true, Bool.and_true, Bool.and_self, cond_true]
theorem bump_byte (c : UInt8) : ∃ d, toBytes [IntKind.wrap .u8 ((c.toNat : Int) + 1)] = [d] ∧ d ≠ c := by
  have key : ∀ n : Fin 256, (toBytes [IntKind.wrap .u8 ((n.val : Int) + 1)]).length = 1 ∧ toBytes [IntKind.wrap .u8 ((n.val : Int) + 1)] ≠ [UInt8.ofNat n.val] := by decide +kernel
  have hc : c.toNat < 256 := by have := c.toNat_lt; simpa using this
  obtain ⟨k1, k2⟩ := key ⟨c.toNat, hc⟩
  dsimp only at k1 k2
  match hm : toBytes [IntKind.wrap .u8 ((c.toNat : Int) + 1)], k1 with
  | [d], _ =>
    refine ⟨d, rfl, fun e => k2 ?_⟩
    rw [hm, e]
    congr 1
    exact (UInt8.ofNat_toNat).symm
theorem head_fields (e : Fil) (h : filOk e = true) (r : Str) : leN (locH e ++ r) 8 2 = (packM (Fil.txt e)).1 ∧ leN (locH e ++ r) 14 4 = crcM (Fil.txt e) ∧ leN (locH e ++ r) 18 4 = (packM (Fil.txt e)).2.length ∧ leN (locH e ++ r) 26 2 = e.1.length := by
  have hp := packM_le (Fil.txt e)
  have hc := crcM_lt (Fil.txt e)
  obtain ⟨g1, g2, g3⟩ := filOk_parts h
  have hnl := nameOk_le g1
  obtain ⟨nm, y, mo, d, hh, mi, sec, t, hE, _, _, _, _, _, h5, h6⟩ := fil_parts h
  have hl30 : (locH e).length = 30 := headM_length _ _ _ _ _ _
  obtain ⟨q1, q2, q3, q4, q5, q6, q7, q8, q9, q10⟩ := (head_iff (locH e ++ r) (by rw [List.length_append]; omega) (packM (Fil.txt e)).1 (stF e) (crcM (Fil.txt e)) (packM (Fil.txt e)).2.length (Fil.txt e).length e.1.length (by omega) (by rw [h5]; exact h6) hc (by omega) (by omega) (by omega)).1 (by rw [List.take_left' hl30]; rfl)
  exact ⟨q4, q6, q7, q9⟩
theorem locM_bent (e : Fil) (h : filOk e = true) (h0 : packM (Fil.txt e) = (0, (Fil.txt e))) (body : Str) (hl : body.length = (Fil.txt e).length) (hc : crcM body ≠ crcM (Fil.txt e)) : locM (locH e ++ (e.1 ++ body)) = none := by
  obtain ⟨q4, q6, q7, q9⟩ := head_fields e h (e.1 ++ body)
  have hl30 : (locH e).length = 30 := headM_length _ _ _ _ _ _
  rw [h0] at q4 q7
  dsimp only at q4 q7
  have hd : (locH e ++ (e.1 ++ body)).drop (30 + e.1.length) = body := by rw [← List.drop_drop, List.drop_left' hl30, List.drop_left' rfl]
  unfold locM
  split
  · rfl
  · split
    · rfl
    · rw [q4, q7, q9, hd, List.take_of_length_le (by omega), unpM_0]
      dsimp only
      rw [if_neg]
      intro q
      have := q.2.2.2.2.2.2.2.1
      rw [q6] at this
      exact hc this.symm
theorem FnLocalBent_true (xs : List Int) (h : CodeOk xs) (ys : List Int) (h' : CodeOk ys) : FnLocalBent xs ys = some true := by
  unfold FnLocalBent
  by_cases c : xs.length > 1048576
  · rw [decide_eq_true (by omega)]; rfl
  rw [decide_eq_false (by omega), cond_false]
  simp only [bind_go]
  by_cases c' : ys.length > 1048576
  · rw [decide_eq_true (by omega)]; rfl
  rw [decide_eq_false (by omega), cond_false]
  obtain ⟨e, he, hs⟩ := drawLocalPut_d xs h (by omega)
  have hl := sm_fil hs
  rw [he]
  simp only [bind_go]
  rw [localPut_M e hl, specLocalPut_M e hl]
  simp only [bind_go, beq_self_eq_true, Bool.not_true, cond_false]
  cases hf : filOk e with
  | false =>
    have hp : putM e = [] := by unfold putM; rw [if_neg (by rw [hf]; simp)]
    rw [hp]; rfl
  | true =>
    have hp : putM e = locT e := by unfold putM; rw [if_pos hf]
    have hle := locT_le hf
    have hlen := locT_length e
    have hpk := packM_le (Fil.txt e)
    have ht3 := (filOk_parts hf).2.2
    have hnl := nameOk_le (filOk_parts hf).1
    rw [hp, locT_ne, cond_false]
    by_cases ht : e.2.2.2.2.2.2.2 = []
    · rw [ht]; rfl
    have htl : 0 < (Fil.txt e).length := List.length_pos_iff.2 ht
    have htl' : e.2.2.2.2.2.2.2.length = (Fil.txt e).length := rfl
    have hl30 : (locH e).length = 30 := headM_length _ _ _ _ _ _
    rw [beq_false_of_ne ht, cond_false, w64_id (n := 30 + (e.1.length : Int)) (by omega) (by omega), show 30 + (e.1.length : Int) = ((30 + e.1.length : Nat) : Int) by omega, need_true _ (by simp; omega), Int.toNat_natCast]
    simp only [bind_go]
    have hd : (locT e).drop (30 + e.1.length) = (packM (Fil.txt e)).2 := by
      unfold locT; rw [← List.drop_drop, List.drop_left' hl30, List.drop_left' rfl]
    rw [hd]
    by_cases hpe : (packM (Fil.txt e)).2 = e.2.2.2.2.2.2.2
    · have h0 : packM (Fil.txt e) = (0, (Fil.txt e)) := by
        unfold packM at hpe ⊢
        split
        · rename_i hlt
          rw [if_pos hlt] at hpe
          have := congrArg List.length hpe
          dsimp only at this
          omega
        · rfl
      have hm := Nat.mod_lt ys.length htl
      have hk : w64 (((30 + e.1.length : Nat) : Int) + ((ys.length : Int).tmod (e.2.2.2.2.2.2.2.length : Int))) = ((30 + e.1.length + ys.length % (Fil.txt e).length : Nat) : Int) := by
        rw [tmod_e (by omega), htl', w64_id (by omega) (by omega)]; omega
      rw [hpe, beq_self_eq_true, Bool.not_true, cond_false]
      show need ((((Fil.txt e).length : Nat) : Int) != 0) _ = _
      rw [need_ne (by omega), hk]
      generalize hj : ys.length % (Fil.txt e).length = j at hm
      rw [h0] at hlen
      dsimp only at hlen
      rw [need_true _ (by simp; omega), need_true _ (by simp; omega), Int.toNat_natCast]
      obtain ⟨d, hbd, hdne⟩ := bump_byte ((locT e).getD (30 + e.1.length + j) 0)
      rw [hbd, w64_id (n := ((30 + e.1.length + j : Nat) : Int) + 1) (by omega) (by omega), show ((30 + e.1.length + j : Nat) : Int) + 1 = ((30 + e.1.length + j + 1 : Nat) : Int) by omega, Int.toNat_natCast, need_fits (by simp; omega), need_true _ (by simp; omega), need_fits (by simp; omega)]
      have hT : locT e = locH e ++ (e.1 ++ (Fil.txt e)) := by unfold locT; rw [h0]
      have e1 : (locT e).take (30 + e.1.length + j) = locH e ++ (e.1 ++ (Fil.txt e).take j) := by
        rw [hT, Nat.add_assoc, ← hl30, List.take_length_add_append, List.take_length_add_append]
      have e2 : (locT e).drop (30 + e.1.length + j + 1) = (Fil.txt e).drop (j + 1) := by
        rw [hT, show 30 + e.1.length + j + 1 = 30 + (e.1.length + (j + 1)) by omega, ← List.drop_drop, List.drop_left' hl30, ← List.drop_drop, List.drop_left' rfl]
      have e3 : (locT e).getD (30 + e.1.length + j) 0 = (Fil.txt e).getD j 0 := by
        rw [hT]
        simp only [List.getD_eq_getElem?_getD]
        rw [List.getElem?_append_right (by omega), hl30, show 30 + e.1.length + j - 30 = e.1.length + j by omega, List.getElem?_append_right (by omega), Nat.add_sub_cancel_left]
      have hb : (locT e).take (30 + e.1.length + j) ++ [d] ++ (locT e).drop (30 + e.1.length + j + 1) = locH e ++ (e.1 ++ ((Fil.txt e).take j ++ d :: (Fil.txt e).drop (j + 1))) := by
        rw [e1, e2]; simp only [List.append_assoc, List.cons_append, List.nil_append]
      rw [e3, getD_in hm] at hdne
      have ht0 : (Fil.txt e) = (Fil.txt e).take j ++ (Fil.txt e)[j] :: (Fil.txt e).drop (j + 1) := by rw [← List.drop_eq_getElem_cons hm, List.take_append_drop]
      have hno := locM_bent e hf h0 ((Fil.txt e).take j ++ d :: (Fil.txt e).drop (j + 1)) (by simp; omega) (fun q => by
        rw [ht0] at q
        have q' : crcM ((Fil.txt e).take j ++ d :: (Fil.txt e).drop (j + 1)) = crcM ((Fil.txt e).take j ++ (Fil.txt e)[j] :: (Fil.txt e).drop (j + 1)) := by
          rw [← ht0] at q ⊢; exact q
        exact hdne (crcM_one _ _ _ _ q'))
      rw [hb, localGet_eq _ (by simp; omega), hno]
      rfl
    · rw [beq_false_of_ne hpe]; rfl
end Ev
end
