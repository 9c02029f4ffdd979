/- Plain laws about what the functions compute. Conditions: as stated. -/
import Derived.Test.YtckgjeigokngiaaGreatDoorBGB1
section
set_option linter.unusedVariables false
set_option linter.unusedSimpArgs false
namespace Ev
open Go
def renM (es : List Fil) (i : Nat) (to_ : Str) : List Fil := es.set i (to_, (es.getD i Fil.z).2)
def zipMoveM (s n to_ : Str) : Str × Int := match zipGetM s with
  | none => ([], 1)
  | some es => if nameOk to_ = false then (s, 1) else match atM es n with
    | none => (s, 2)
    | some i => if clash (dropM es i) to_ = true then (s, 3) else (zipT (renM es i to_), 0)
theorem renM_names (es : List Fil) (i : Nat) (to_ : Str) (hi : i < es.length) : (renM es i to_).map Prod.fst = (es.map Prod.fst).take i ++ to_ :: (es.map Prod.fst).drop (i + 1) := by
  unfold renM
  rw [List.map_set, List.set_eq_take_append_cons_drop, if_pos (by rw [List.length_map]; exact hi)]
theorem apart_ren (es : List Fil) (h : Apart (es.map Prod.fst)) (i : Nat) (hi : i < es.length) (to_ : Str) : apartM ((renM es i to_).map Prod.fst) = !clash (dropM es i) to_ := by
  rw [Bool.eq_iff_iff, apartM_iff, renM_names es i to_ hi]
  have hd : Apart ((dropM es i).map Prod.fst) := h.sublist ((dropM_sub es i).map _)
  have hdm : (dropM es i).map Prod.fst = (es.map Prod.fst).take i ++ (es.map Prod.fst).drop (i + 1) := by unfold dropM; rw [List.map_append, List.map_take, List.map_drop]
  have hc : (!clash (dropM es i) to_) = true ↔ ∀ b ∈ (es.map Prod.fst).take i ++ (es.map Prod.fst).drop (i + 1), hit to_ b = false := by
    rw [Bool.not_eq_true', ← hdm]
    unfold clash
    rw [List.any_eq_false]
    constructor
    · intro q b hb
      obtain ⟨e, he, rfl⟩ := List.mem_map.1 hb
      have := q e he
      simpa using this
    · intro q e he
      have := q e.1 (List.mem_map.2 ⟨e, he, rfl⟩)
      simp [this]
  rw [hc]
  rw [hdm] at hd
  generalize (es.map Prod.fst).take i = A at hd ⊢
  generalize (es.map Prod.fst).drop (i + 1) = B at hd ⊢
  unfold Apart at hd ⊢
  rw [List.pairwise_append] at hd ⊢
  rw [List.pairwise_cons]
  constructor
  · rintro ⟨_, ⟨q1, _⟩, q2⟩ b hb
    rcases List.mem_append.1 hb with hb | hb
    · exact q2 b hb to_ (List.mem_cons_self ..)
    · rw [hit_comm]; exact q1 b hb
  · intro q
    refine ⟨hd.1, ⟨fun b hb => by rw [hit_comm]; exact q b (List.mem_append.2 (.inr hb)), hd.2.1⟩, fun a ha b hb => ?_⟩
    rcases List.mem_cons.1 hb with rfl | hb
    · exact q a (List.mem_append.2 (.inl ha))
    · exact hd.2.2 a ha b hb
theorem zipM_ren {es : List Fil} (h : zipM es = true) {i : Nat} (hi : i < es.length) {to_ : Str} (hn : nameOk to_ = true) (hc : clash (dropM es i) to_ = false) : zipM (renM es i to_) = true := by
  obtain ⟨g1, g2, g3⟩ := (zipM_iff es).1 h
  rw [zipM_iff]
  refine ⟨fun x hx => ?_, by unfold renM; rw [List.length_set]; exact g2, ?_⟩
  · unfold renM at hx
    rcases List.mem_or_eq_of_mem_set hx with hx | rfl
    · exact g1 x hx
    · have := g1 es[i] (List.getElem_mem hi)
      rw [getD_in hi]
      obtain ⟨q1, q2, q3⟩ := filOk_parts this
      unfold filOk
      dsimp only
      rw [hn, q2, decide_eq_true q3]; rfl
  · exact (apartM_iff _).1 (by rw [apart_ren es g3 i hi, hc]; rfl)
theorem zipMove_eq (s n to_ : Str) (hs : s.length ≤ 1048576) (ht : to_.length ≤ 1048576) : zipMove s n to_ = some (zipMoveM s n to_) := by
  unfold zipMove editMove zipMoveM
  rw [zipGet_eq s hs]
  simp only [bind_go]
  cases hz : zipGetM s with
  | none => rfl
  | some es =>
    have hok := zipGetM_ok hz
    have h6 := (zipM_all hok).2
    simp only [zipZ, Bool.not_true, cond_false]
    unfold zipMove1
    rw [find_eq es n (by omega)]
    simp only [bind_go]
    rw [implNameOk_eq to_ ht]
    simp only [bind_go]
    cases hf : nameOk to_ with
    | false => rfl
    | true =>
      simp only [Bool.not_true, cond_false]
      rw [if_neg (by simp)]
      cases ha : atM es n with
      | none => rfl
      | some i =>
        obtain ⟨hi, hn⟩ := atM_some ha
        rw [show atZ (some i) = (i : Int) from rfl]
        rw [decide_eq_false (by omega), cond_false, need_true _ (by simp; omega), Int.toNat_natCast]
        show orElse (((((namesOf (renM es i to_)).bind _)).bind _)) _ _ = _
        have hl : (renM es i to_).length = es.length := by unfold renM; rw [List.length_set]
        rw [namesOf_eq _ (by omega)]
        simp only [bind_go]
        rw [apart_eq _ (by rw [List.length_map]; omega) (fun b hb => by
          rw [renM_names es i to_ hi] at hb
          rcases List.mem_append.1 hb with hb | hb
          · obtain ⟨x, hx, rfl⟩ := List.mem_map.1 (List.mem_of_mem_take hb)
            exact names_le hok x hx
          · rcases List.mem_cons.1 hb with rfl | hb
            · exact ht
            · obtain ⟨x, hx, rfl⟩ := List.mem_map.1 (List.mem_of_mem_drop hb)
              exact names_le hok x hx)]
        simp only [bind_go]
        have har := apart_ren es ((zipM_iff es).1 hok).2.2 i hi to_
        unfold apartM at har
        rw [har, Bool.not_not]
        cases hcl : clash (dropM es i) to_ with
        | true => rfl
        | false =>
          have hzz := zipM_ren hok hi hf hcl
          rw [cond_false, if_neg (by simp)]
          simp only [bind_go]
          rw [show ((0 : Int) != 0) = false from rfl, cond_false]
          have := zipPut_eq (renM es i to_) (by omega) (names_le hzz)
          rw [if_pos hzz] at this
          show orElse ((zipPut (renM es i to_)).bind _) _ _ = _
          rw [this]
          simp only [bind_go, orElse_some]
def addsM : List Fil → List Fil → Int × List Fil
  | es, [] => (0, es)
  | es, e :: r => if addC es e = 0 then addsM (es ++ [e]) r else (addC es e, [])
theorem zipJoin1_l0 (more : List Fil) (hm : ∀ e ∈ more, e.1.length ≤ 1048576) (hn : more.length ≤ 1000) : ∀ (j i : Nat) (es : List Fil), i + j = more.length → zipM es = true →
    zipJoin1.l0 (j + 1) ((more.length : Int), (i : Int), more, es) = some (if (addsM es (more.drop i)).1 = 0 then .inl (more, (addsM es (more.drop i)).2) else .inr ((addsM es (more.drop i)).1, more, []))
  | 0, i, es, h, hz => by
    rw [zipJoin1.l0.succ]; simp only [zipJoin1.l0.step]
    rw [idx_ge (by omega), List.drop_eq_nil_of_le (by omega)]; rfl
  | j + 1, i, es, h, hz => by
    have hi : i < more.length := by omega
    rw [zipJoin1.l0.succ]; simp only [zipJoin1.l0.step]
    rw [idx_lt hi, cond_true, need_true _ idx_in', Int.toNat_natCast, getD_fil more i hi, addEntry_eq es hz _ (hm _ (List.getElem_mem hi)), List.drop_eq_getElem_cons hi, addsM]
    simp only [bind_go]
    by_cases hc : addC es more[i] = 0
    · rw [if_pos hc, if_pos hc, show (addC es more[i] != 0) = false by simp [hc], cond_false, w64_id (by omega) (by omega), show (i : Int) + 1 = ((i + 1 : Nat) : Int) by omega]
      exact zipJoin1_l0 more hm hn j (i + 1) _ (by omega) (addC_zip hz hc).1
    · rw [if_neg hc, if_neg hc, show (addC es more[i] != 0) = true by simp [hc], cond_true, if_neg hc]; rfl
theorem addsM_zip : ∀ (more es : List Fil), zipM es = true → (addsM es more).1 = 0 → zipM (addsM es more).2 = true ∧ (addsM es more).2 = es ++ more
  | [], es, hz, h => ⟨hz, by simp [addsM]⟩
  | e :: r, es, hz, h => by
    rw [addsM] at h ⊢
    by_cases hc : addC es e = 0
    · rw [if_pos hc] at h ⊢
      obtain ⟨i1, i2⟩ := addsM_zip r (es ++ [e]) (addC_zip hz hc).1 h
      exact ⟨i1, by rw [i2, List.append_assoc]; rfl⟩
    · rw [if_neg hc] at h; exact absurd h hc
def zipJoinM (a b : Str) : Str × Int := match zipGetM b with
  | none => ([], 1)
  | some more => match zipGetM a with
    | none => ([], 1)
    | some es => if (addsM es more).1 = 0 then (zipT (addsM es more).2, 0) else (a, (addsM es more).1)
theorem zipJoin_eq (a b : Str) (ha : a.length ≤ 1048576) (hb : b.length ≤ 1048576) : zipJoin a b = some (zipJoinM a b) := by
  unfold zipJoin zipJoinM
  rw [zipGet_eq b hb]
  simp only [bind_go]
  cases hzb : zipGetM b with
  | none => rfl
  | some more =>
    have hokb := zipGetM_ok hzb
    have h6b := (zipM_all hokb).2
    simp only [zipZ, Bool.not_true, cond_false]
    unfold editJoin
    rw [zipGet_eq a ha]
    simp only [bind_go]
    cases hz : zipGetM a with
    | none => rfl
    | some es =>
      have hok := zipGetM_ok hz
      have h6 := (zipM_all hok).2
      simp only [zipZ, Bool.not_true, cond_false]
      have hl := zipJoin1_l0 more (names_le hokb) (by omega) more.length 0 es (by omega) hok
      rw [show ((0 : Nat) : Int) = 0 from rfl, List.drop_zero] at hl
      unfold zipJoin1
      rw [fuel_of, hl]
      simp only [bind_go]
      by_cases hc : (addsM es more).1 = 0
      · obtain ⟨hzz, _⟩ := addsM_zip more es hok hc
        rw [if_pos hc, if_pos hc]
        dsimp only
        simp only [bind_go]
        rw [show ((0 : Int) != 0) = false from rfl, cond_false, zipPut_eq _ (by have := (zipM_all hzz).2; omega) (names_le hzz), if_pos hzz]
        simp only [bind_go]
      · rw [if_neg hc, if_neg hc]
        dsimp only
        simp only [bind_go]
        rw [show ((addsM es more).1 != 0) = true by simp [hc], cond_true]
        simp only [bind_go]
end Ev
end
section
set_option linter.unusedVariables false
set_option linter.unusedSimpArgs false
namespace Ev
open Go
theorem zipM_nil : zipM [] = true := rfl
theorem zipT_len {es : List Fil} (h : zipM es = true) : (zipT es).length ≤ 1048576 := by have := zipT_le es h; omega
theorem zipGet_T {es : List Fil} (h : zipM es = true) : zipGet (zipT es) = some (true, es) := by
  rw [zipGet_eq _ (zipT_len h), zipGetM_zipT es h]; rfl
theorem zipPut_T {es : List Fil} (h : zipM es = true) : zipPut es = some (zipT es) := by
  have := (zipM_all h).2
  rw [zipPut_eq es (by omega) (names_le h), if_pos h]
theorem zipNames_T {es : List Fil} (h : zipM es = true) : zipNames (zipT es) = some (es.map Prod.fst) := by
  have := (zipM_all h).2
  unfold zipNames
  rw [zipGet_T h]
  simp only [bind_go]
  rw [namesOf_eq es (by omega)]; rfl
theorem sm_fil {e : Fil} (h : FilSm e) : e.1.length ≤ 1048576 := by have := h.len; omega
theorem zipAdd_T {es : List Fil} (h : zipM es = true) (e : Fil) (he : e.1.length ≤ 1048576) : zipAdd (zipT es) e.1 e.2.1 e.2.2.1 e.2.2.2.1 e.2.2.2.2.1 e.2.2.2.2.2.1 e.2.2.2.2.2.2.1 e.2.2.2.2.2.2.2 = some (if addC es e = 0 then (zipT (es ++ [e]), 0) else (zipT es, addC es e)) := by
  rw [zipAdd_eq _ (zipT_len h) e he]
  unfold zipAddM
  rw [zipGetM_zipT es h]
theorem zipT_nil_len : (zipT []).length = 22 := by decide +kernel
theorem FnZipNone_true (xs : List Int) (h : CodeOk xs) : FnZipNone xs = some true := by
  unfold FnZipNone
  by_cases c : xs.length > 1048576
  · rw [decide_eq_true (by omega)]; rfl
  rw [decide_eq_false (by omega), cond_false]
  obtain ⟨e, he, hs⟩ := drawEntryOk_d xs h (by omega)
  have hl := sm_fil hs
  rw [he]
  simp only [bind_go]
  rw [filOk_eq e hl, zipPut_T zipM_nil]
  simp only [bind_go]
  rw [zipGet_T zipM_nil, specFilOk_eq e hl]
  simp only [bind_go, beq_self_eq_true, Bool.not_true, cond_false]
  cases hf : filOk e with
  | false =>
    simp only [Bool.not_false, cond_true, bind_go]
    rw [zipT_nil_len]; rfl
  | true =>
    have hc : addC [] e = 0 := by unfold addC; rw [hf]; rfl
    have hz := (addC_zip zipM_nil hc).1
    simp only [Bool.not_true, cond_false]
    rw [zipAdd_T zipM_nil e hl, if_pos hc]
    simp only [bind_go]
    rw [show ((0 : Int) == 0) = true from rfl, cond_true]
    have hp : zipPut [(e.1, e.2.1, e.2.2.1, e.2.2.2.1, e.2.2.2.2.1, e.2.2.2.2.2.1, e.2.2.2.2.2.2.1, e.2.2.2.2.2.2.2)] = some (zipT ([] ++ [e])) := zipPut_T hz
    rw [hp]
    simp only [bind_go, beq_self_eq_true, cond_true]
    rw [zipNames_T hz]; rfl
theorem drawZip_start {xs : List Int} (h : CodeOk xs) (hl : xs.length ≤ 1048576) : ∃ es, drawZipOk xs = some es ∧ ListSm es ∧ zipOk es = some (zipM es) ∧ specZipOk es = some (zipM es) := by
  obtain ⟨es, he, hs⟩ := drawZipOk_d xs h hl
  have hn : es.length ≤ 1048576 := by have := hs.1; omega
  have hx : ∀ e ∈ es, e.1.length ≤ 1048576 := fun e he => sm_fil (hs.2 e he)
  exact ⟨es, he, hs, zipOk_eq es hn hx, zipOk_same es hn hx⟩
theorem under_more (a r : Str) : under a (a ++ 47 :: r) = true := by
  unfold under
  rw [List.take_left' rfl, decide_eq_true (by simp), beq_self_eq_true]
  simp [List.getD_eq_getElem?_getD]
theorem clash_under {es : List Fil} {e : Fil} (he : e ∈ es) (r : Str) : clash es (e.1 ++ 47 :: r) = true := by
  unfold clash
  rw [List.any_eq_true]
  refine ⟨e, he, ?_⟩
  rw [hit_parts, under_more]; simp
theorem FnZipUnder_l0 (es : List Fil) (hz : zipM es = true) : ∀ (j i : Nat), i + j = es.length → FnZipUnder.l0 (j + 1) (zipT es, (i : Int), es) = some (.inl ())
  | 0, i, h => by
    rw [FnZipUnder.l0.succ]; simp only [FnZipUnder.l0.step]
    rw [idx_ge (by omega)]; rfl
  | j + 1, i, h => by
    have hi : i < es.length := by omega
    have h6 := (zipM_all hz).2
    have hnm := zipM_names hz es[i] (List.getElem_mem hi)
    rw [FnZipUnder.l0.succ]; simp only [FnZipUnder.l0.step]
    rw [idx_lt hi, cond_true, need_true _ idx_in', Int.toNat_natCast, getD_fil es i hi, need_fits (by simp; omega)]
    have hadd := zipAdd_T hz (es[i].1 ++ [47, 120], es[i].2) (by simp; omega)
    have hc : addC es (es[i].1 ++ [47, 120], es[i].2) ≠ 0 := by
      unfold addC
      split
      · omega
      · rw [if_pos (clash_under (List.getElem_mem hi) [120])]; omega
    rw [if_neg hc] at hadd
    dsimp only at hadd
    rw [hadd]
    simp only [bind_go]
    rw [show (addC es (es[i].1 ++ [47, 120], es[i].2) == 0) = false by simp [hc]]
    simp only [cond_false, beq_self_eq_true, Bool.not_true, bind_go]
    rw [w64_id (by omega) (by omega), show (i : Int) + 1 = ((i + 1 : Nat) : Int) by omega]
    exact FnZipUnder_l0 es hz j (i + 1) (by omega)
theorem FnZipUnder_true (xs : List Int) (h : CodeOk xs) : FnZipUnder xs = some true := by
  unfold FnZipUnder
  by_cases c : xs.length > 1048576
  · rw [decide_eq_true (by omega)]; rfl
  rw [decide_eq_false (by omega), cond_false]
  obtain ⟨es, he, hs, h1, h2⟩ := drawZip_start h (by omega)
  rw [he]
  simp only [bind_go]
  rw [h1, h2]
  simp only [bind_go, beq_self_eq_true, Bool.not_true, cond_false]
  cases hz : zipM es with
  | false => rfl
  | true =>
    simp only [Bool.not_true, cond_false]
    rw [zipPut_T hz]
    simp only [bind_go]
    have hl := FnZipUnder_l0 es hz es.length 0 (by omega)
    rw [show ((0 : Nat) : Int) = 0 from rfl] at hl
    rw [fuel_of, hl]; rfl
def freshL : List Str := [[102, 114, 101, 115, 104, 49], [102, 114, 101, 115, 104, 50], [102, 114, 101, 115, 104, 51], [102, 114, 101, 115, 104, 52], [102, 114, 101, 115, 104, 53], [102, 114, 101, 115, 104, 54], [102, 114, 101, 115, 104, 55]]
def freshE (n : Str) : Fil := (n, 2000, 1, 1, 0, 0, 0, [])
theorem fresh_no : ∀ n ∈ freshL, ∀ m ∈ nameL, hit n m = false := by decide +kernel
theorem fresh_own : ∀ i, i < 7 → ∀ j, j < i → hit (freshL.getD i []) (freshL.getD j []) = false := by decide +kernel
theorem fresh_ok : ∀ n ∈ freshL, filOk (freshE n) = true := by decide +kernel
theorem fresh_len : ∀ n ∈ freshL, n.length = 6 := by decide
def fillF (es : List Fil) (i : Nat) : List Fil := es ++ ((freshL.take (min i (6 - es.length))).map freshE)
theorem fillF_len (es : List Fil) (i : Nat) (h6 : es.length ≤ 6) (hi : i ≤ 7) : (fillF es i).length = es.length + min i (6 - es.length) := by
  unfold fillF
  rw [List.length_append, List.length_map, List.length_take, show freshL.length = 7 from rfl]; omega
theorem fillF_clash (es : List Fil) (hs : ListSm es) (i : Nat) (hi : i < 7) (h6 : es.length ≤ 6) : clash (fillF es i) (freshL.getD i []) = false := by
  have hm : freshL.getD i [] ∈ freshL := by rw [getD_in hi]; exact List.getElem_mem _
  unfold clash fillF
  rw [List.any_append, Bool.or_eq_false_iff, List.any_eq_false, List.any_eq_false]
  constructor
  · intro e he
    rw [fresh_no _ hm _ (hs.2 e he).1]; simp
  · intro e he
    obtain ⟨n, hn, rfl⟩ := List.mem_map.1 he
    obtain ⟨j, hj, rfl⟩ := List.getElem_of_mem hn
    rw [List.length_take, show freshL.length = 7 from rfl] at hj
    have := fresh_own i hi j (by omega)
    rw [List.getElem_take]
    rw [getD_in (show j < freshL.length by rw [show freshL.length = 7 from rfl]; omega)] at this
    show ¬ hit (freshL.getD i []) (freshL[j]'_) = true
    rw [this]; simp
theorem FnZipFull_l0 (es : List Fil) (hs : ListSm es) (hz : zipM es = true) : ∀ (j i : Nat) (nm : Str), i + j = 7 → zipM (fillF es i) = true →
    FnZipFull.l0 (j + 1) (zipT (fillF es i), (i : Int), es, nm, 2000, 1, 1, 0, 0, 0, [], freshL) = some (.inl (zipT (fillF es 7))) ∧ zipM (fillF es 7) = true
  | 0, i, nm, h, hf => by
    obtain rfl : i = 7 := by omega
    rw [FnZipFull.l0.succ]; simp only [FnZipFull.l0.step]
    rw [show freshL.length = 7 from rfl, idx_ge (by omega)]
    exact ⟨rfl, hf⟩
  | j + 1, i, nm, h, hf => by
    have h6 := (zipM_all hz).2
    have hi : i < 7 := by omega
    have hm : freshL.getD i [] ∈ freshL := by rw [getD_in hi]; exact List.getElem_mem _
    have hlen := fillF_len es i h6 (by omega)
    have hcl := fillF_clash es hs i hi h6
    rw [FnZipFull.l0.succ]; simp only [FnZipFull.l0.step]
    rw [show freshL.length = 7 from rfl, idx_lt hi, cond_true, need_true _ idx_in', Int.toNat_natCast]
    have hadd : zipAdd (zipT (fillF es i)) (freshL.getD i []) 2000 1 1 0 0 0 [] = some (if addC (fillF es i) (freshE (freshL.getD i [])) = 0 then (zipT (fillF es i ++ [freshE (freshL.getD i [])]), 0) else (zipT (fillF es i), addC (fillF es i) (freshE (freshL.getD i [])))) :=
      zipAdd_T hf (freshE (freshL.getD i [])) (by show (freshL.getD i []).length ≤ 1048576; rw [fresh_len _ hm]; omega)
    rw [hadd]
    have hC : addC (fillF es i) (freshE (freshL.getD i [])) = if 6 ≤ (fillF es i).length then 4 else 0 := by
      unfold addC
      rw [fresh_ok _ hm]
      show (if clash (fillF es i) (freshL.getD i []) = true then _ else _) = _
      rw [hcl, if_neg (by simp)]
    rw [w64_id (n := ((es.length : Nat) : Int) + (i : Int)) (by omega) (by omega), w64_id (n := (i : Int) + 1) (by omega) (by omega), show (i : Int) + 1 = ((i + 1 : Nat) : Int) by omega]
    by_cases hfull : es.length + i < 6
    · have hC0 : addC (fillF es i) (freshE (freshL.getD i [])) = 0 := by
        rw [hC, if_neg (by omega)]
      have hz' := (addC_zip hf hC0).1
      have hnext : fillF es i ++ [freshE (freshL.getD i [])] = fillF es (i + 1) := by
        unfold fillF
        rw [show min (i + 1) (6 - es.length) = i + 1 by omega, show min i (6 - es.length) = i by omega, List.take_succ_eq_append_getElem (show i < freshL.length from hi), List.map_append, List.append_assoc, getD_in (show i < freshL.length from hi)]; rfl
      rw [hnext] at hz'
      rw [if_pos hC0, hnext, decide_eq_true (by omega)]
      simp only [bind_go]
      rw [show ((0 : Int) == 0) = true from rfl, show ((0 : Int) != 0) = false from rfl, show (true == true) = true from rfl]
      simp only [Bool.not_true, cond_false, bind_go]
      exact FnZipFull_l0 es hs hz j (i + 1) _ (by omega) hz'
    · have hC4 : addC (fillF es i) (freshE (freshL.getD i [])) = 4 := by
        rw [hC, if_pos (by omega)]
      have hnext : fillF es i = fillF es (i + 1) := by
        unfold fillF
        rw [show min (i + 1) (6 - es.length) = min i (6 - es.length) by omega]
      rw [hC4, if_neg (by omega), decide_eq_false (by omega)]
      simp only [bind_go]
      rw [show ((4 : Int) == 0) = false from rfl, show ((4 : Int) != 0) = true from rfl, show ((4 : Int) != 4) = false from rfl, show (false == false) = true from rfl]
      simp only [Bool.not_true, cond_false, cond_true, bind_go]
      have ih := FnZipFull_l0 es hs hz j (i + 1) (freshL.getD i []) (by omega) (by rw [← hnext]; exact hf)
      rw [← hnext] at ih
      exact ih
theorem FnZipFull_true (xs : List Int) (h : CodeOk xs) : FnZipFull xs = some true := by
  unfold FnZipFull
  by_cases c : xs.length > 1048576
  · rw [decide_eq_true (by omega)]; rfl
  rw [decide_eq_false (by omega), cond_false]
  obtain ⟨es, he, hs, h1, h2⟩ := drawZip_start h (by omega)
  rw [he]
  simp only [bind_go]
  rw [h1, h2]
  simp only [bind_go, beq_self_eq_true, Bool.not_true, cond_false]
  cases hz : zipM es with
  | false => rfl
  | true =>
    have h6 := (zipM_all hz).2
    simp only [Bool.not_true, cond_false]
    rw [zipPut_T hz]
    simp only [bind_go]
    have h0 : fillF es 0 = es := by unfold fillF; simp
    obtain ⟨hl, hz7⟩ := FnZipFull_l0 es hs hz 7 0 [] (by omega) (by rw [h0]; exact hz)
    rw [h0, show ((0 : Nat) : Int) = 0 from rfl] at hl
    show ((FnZipFull.l0 8 (zipT es, 0, es, [], 2000, 1, 1, 0, 0, 0, [], freshL)).bind _) = _
    rw [hl]
    simp only [bind_go]
    rw [zipNames_T hz7]
    simp only [bind_go]
    rw [List.length_map, fillF_len es 7 h6 (by omega), show es.length + min 7 (6 - es.length) = 6 by omega]; rfl
end Ev
end
section
set_option linter.unusedVariables false
set_option linter.unusedSimpArgs false
namespace Ev
open Go
theorem hit_self (a : Str) : hit a a = true := by unfold hit; rw [beq_self_eq_true]; rfl
theorem zipM_getD {es : List Fil} (h : zipM es = true) {i j : Nat} (hi : i < es.length) (hj : j < es.length) (hn : es[i].1 = es[j].1) : i = j := by
  have hp := ((zipM_iff es).1 h).2.2
  unfold Apart at hp
  rw [List.pairwise_map, List.pairwise_iff_getElem] at hp
  rcases Nat.lt_trichotomy i j with q | q | q
  · have := hp i j hi hj q
    rw [← hn, hit_self] at this; cases this
  · exact q
  · have := hp j i hj hi q
    rw [← hn, hit_self] at this; cases this
theorem atM_own {es : List Fil} (h : zipM es = true) {i : Nat} (hi : i < es.length) : atM es es[i].1 = some i := by
  cases ha : atM es es[i].1 with
  | none => exact absurd rfl (atM_none ha es[i] (List.getElem_mem hi))
  | some k =>
    obtain ⟨hk, e⟩ := atM_some ha
    rw [zipM_getD h hk hi e]
theorem locM_short30 {s : Str} (h : s.length < 30) : locM s = none := by unfold locM; rw [if_pos h]
theorem zipGetM_nil : zipGetM [] = none := by
  unfold zipGetM
  have h : readsM 6 [] = ([], [], []) := by rw [readsM, locM_short30 (by simp)]
  rw [h]
  refine if_neg ?_
  rintro ⟨_, q⟩
  have := congrArg List.length q
  unfold closeM at this
  rw [List.length_append, endM_length] at this
  simp at this
theorem FnZipJoinSelf_true (xs : List Int) (h : CodeOk xs) : FnZipJoinSelf xs = some true := by
  unfold FnZipJoinSelf
  by_cases c : xs.length > 1048576
  · rw [decide_eq_true (by omega)]; rfl
  rw [decide_eq_false (by omega), cond_false]
  obtain ⟨es, he, hs, h1, h2⟩ := drawZip_start h (by omega)
  rw [he]
  simp only [bind_go]
  rw [h1, h2]
  simp only [bind_go, beq_self_eq_true, Bool.not_true, cond_false]
  cases hz : zipM es with
  | false => rfl
  | true =>
    simp only [Bool.not_true, cond_false]
    rw [zipPut_T hz]
    simp only [bind_go]
    have hlen := zipT_len hz
    rw [zipJoin_eq _ _ hlen hlen, zipJoin_eq _ [] hlen (by simp)]
    have e2 : zipJoinM (zipT es) [] = ([], 1) := by unfold zipJoinM; rw [zipGetM_nil]
    have e1 : zipJoinM (zipT es) (zipT es) = (zipT es, if es = [] then 0 else 3) := by
      unfold zipJoinM
      rw [zipGetM_zipT es hz]
      dsimp only
      cases es with
      | nil => rfl
      | cons e r =>
        have hc : addC (e :: r) e = 3 := by
          unfold addC
          rw [(zipM_all hz).1 e (List.mem_cons_self ..), if_neg (by simp), if_pos]
          unfold clash
          rw [List.any_cons, hit_self]; rfl
        have ha : addsM (e :: r) (e :: r) = (3, []) := by rw [addsM, hc]; rfl
        rw [ha] <;> rfl
    rw [e1, e2]
    simp only [bind_go, beq_self_eq_true, cond_true]
    cases es with
    | nil => rfl
    | cons e r =>
      rw [if_neg (by simp)]
      have : (((e :: r).length : Int) == 0) = false := by simp; omega
      rw [this]; rfl
def moveT (es : List Fil) (n t : Str) : Str × Int := if nameOk t = false then (zipT es, 1) else match atM es n with
    | none => (zipT es, 2)
    | some i => if clash (dropM es i) t = true then (zipT es, 3) else (zipT (renM es i t), 0)
theorem zipMove_T {es : List Fil} (h : zipM es = true) (n t : Str) (ht : t.length ≤ 1048576) : zipMove (zipT es) n t = some (moveT es n t) := by
  rw [zipMove_eq _ n t (zipT_len h) ht]
  unfold zipMoveM moveT
  rw [zipGetM_zipT es h] <;> rfl
theorem moveT_at {es : List Fil} {n t : Str} {i : Nat} (hn : nameOk t = true) (ha : atM es n = some i) : moveT es n t = if clash (dropM es i) t = true then (zipT es, 3) else (zipT (renM es i t), 0) := by
  unfold moveT
  rw [hn, ha] <;> rfl
theorem dropM_mem {es : List Fil} {i k : Nat} (hi : i < es.length) (hk : k < es.length) (hne : k ≠ i) : es[k] ∈ dropM es i := by
  unfold dropM
  rw [List.mem_append]
  rcases Nat.lt_or_ge k i with q | q
  · exact .inl (List.mem_take_iff_getElem.2 ⟨k, by omega, rfl⟩)
  · refine .inr (List.mem_drop_iff_getElem.2 ⟨k - (i + 1), by omega, ?_⟩)
    congr 1; omega
theorem clash_dropM_own {es : List Fil} (h : zipM es = true) {i : Nat} (hi : i < es.length) : clash (dropM es i) es[i].1 = false := by
  have h1 := apart_ren es ((zipM_iff es).1 h).2.2 i hi es[i].1
  have e : renM es i es[i].1 = es := by
    unfold renM
    rw [getD_in hi]
    apply List.ext_getElem (by simp)
    intro k h1 h2
    rw [List.getElem_set]
    split
    · rename_i hk; subst hk; rfl
    · rfl
  rw [e, zipM_apart h] at h1
  cases hc : clash (dropM es i) es[i].1 with
  | false => rfl
  | true => rw [hc] at h1; cases h1
theorem renM_own {es : List Fil} {i : Nat} (hi : i < es.length) : renM es i es[i].1 = es := by
  unfold renM
  rw [getD_in hi]
  apply List.ext_getElem (by simp)
  intro k h1 h2
  rw [List.getElem_set]
  split
  · rename_i hk; subst hk; rfl
  · rfl
theorem FnZipMoveSame_l0 (es : List Fil) (hz : zipM es = true) (i : Nat) (hi : i < es.length) : ∀ (j k : Nat), k + j = es.length → FnZipMoveSame.l0 (j + 1) (zipT es, (i : Int), (k : Int), es) = some (.inl (zipT es, (i : Int), es))
  | 0, k, h => by
    rw [FnZipMoveSame.l0.succ]; simp only [FnZipMoveSame.l0.step]
    rw [idx_ge (by omega)]; rfl
  | j + 1, k, h => by
    have hk : k < es.length := by omega
    have h6 := (zipM_all hz).2
    have hnm := zipM_names hz es[k] (List.getElem_mem hk)
    have hok := (filOk_parts ((zipM_all hz).1 es[k] (List.getElem_mem hk))).1
    rw [FnZipMoveSame.l0.succ]; simp only [FnZipMoveSame.l0.step]
    rw [idx_lt hk, cond_true, need_true _ (idx_in hi), need_true _ idx_in', Int.toNat_natCast, Int.toNat_natCast, getD_fil es i hi, getD_fil es k hk, zipMove_T hz _ _ (by omega), moveT_at hok (atM_own hz hi)]
    rw [w64_id (by omega) (by omega), show (k : Int) + 1 = ((k + 1 : Nat) : Int) by omega]
    by_cases hik : k = i
    · subst hik
      rw [if_neg (by rw [clash_dropM_own hz hk]; simp), renM_own hk]
      simp only [bind_go, beq_self_eq_true, Bool.not_true, cond_false]
      exact FnZipMoveSame_l0 es hz k hk j (k + 1) (by omega)
    · have hcl : clash (dropM es i) es[k].1 = true := by
        unfold clash
        rw [List.any_eq_true]
        exact ⟨es[k], dropM_mem hi hk hik, hit_self _⟩
      rw [if_pos hcl]
      simp only [bind_go, beq_self_eq_true, Bool.not_true, cond_false]
      rw [show ((3 : Int) == 0) = false from rfl, show ((i : Int) == (k : Int)) = false by simp; omega]
      simp only [bind_go, beq_self_eq_true, Bool.not_true, cond_false]
      exact FnZipMoveSame_l0 es hz i hi j (k + 1) (by omega)
theorem FnZipMoveSame_l1 (es : List Fil) (hz : zipM es = true) : ∀ (j i : Nat), i + j = es.length → FnZipMoveSame.l1 (j + 1) (zipT es, (i : Int), es) = some (.inl ())
  | 0, i, h => by
    rw [FnZipMoveSame.l1.succ]; simp only [FnZipMoveSame.l1.step]
    rw [idx_ge (by omega)]; rfl
  | j + 1, i, h => by
    have hi : i < es.length := by omega
    have h6 := (zipM_all hz).2
    rw [FnZipMoveSame.l1.succ]; simp only [FnZipMoveSame.l1.step]
    have hl := FnZipMoveSame_l0 es hz i hi es.length 0 (by omega)
    rw [show ((0 : Nat) : Int) = 0 from rfl] at hl
    rw [idx_lt hi, cond_true, fuel_of, hl]
    simp only [bind_go]
    rw [w64_id (by omega) (by omega), show (i : Int) + 1 = ((i + 1 : Nat) : Int) by omega]
    exact FnZipMoveSame_l1 es hz j (i + 1) (by omega)
theorem FnZipMoveSame_true (xs : List Int) (h : CodeOk xs) : FnZipMoveSame xs = some true := by
  unfold FnZipMoveSame
  by_cases c : xs.length > 1048576
  · rw [decide_eq_true (by omega)]; rfl
  rw [decide_eq_false (by omega), cond_false]
  obtain ⟨es, he, hs, h1, h2⟩ := drawZip_start h (by omega)
  rw [he]
  simp only [bind_go]
  rw [h1, h2]
  simp only [bind_go, beq_self_eq_true, Bool.not_true, cond_false]
  cases hz : zipM es with
  | false => rfl
  | true =>
    simp only [Bool.not_true, cond_false]
    rw [zipPut_T hz]
    simp only [bind_go]
    have hl := FnZipMoveSame_l1 es hz es.length 0 (by omega)
    rw [show ((0 : Nat) : Int) = 0 from rfl] at hl
    rw [fuel_of, hl]; rfl
def dropT (es : List Fil) (n : Str) : Str × Int := match atM es n with
    | none => (zipT es, 2)
    | some i => (zipT (dropM es i), 0)
theorem zipDrop_T {es : List Fil} (h : zipM es = true) (n : Str) : zipDrop (zipT es) n = some (dropT es n) := by
  rw [zipDrop_eq _ n (zipT_len h)]
  unfold zipDropM dropT
  rw [zipGetM_zipT es h] <;> rfl
theorem dropT_at {es : List Fil} {n : Str} {i : Nat} (ha : atM es n = some i) : dropT es n = (zipT (dropM es i), 0) := by
  unfold dropT
  rw [ha] <;> rfl
theorem FnZipDropAll_l0 (es : List Fil) (hz : zipM es = true) : ∀ (j i : Nat), i + j = es.length → FnZipDropAll.l0 (j + 1) (zipT (es.drop i), (i : Int), es) = some (.inl (zipT []))
  | 0, i, h => by
    rw [FnZipDropAll.l0.succ]; simp only [FnZipDropAll.l0.step]
    rw [idx_ge (by omega), List.drop_eq_nil_of_le (by omega)]; rfl
  | j + 1, i, h => by
    have hi : i < es.length := by omega
    have h6 := (zipM_all hz).2
    have hzi : zipM (es.drop i) = true := zipM_sub hz (List.drop_sublist ..)
    have hzn : zipM (es.drop (i + 1)) = true := zipM_sub hz (List.drop_sublist ..)
    have hd : es.drop i = es[i] :: es.drop (i + 1) := List.drop_eq_getElem_cons hi
    have ha : atM (es.drop i) es[i].1 = some 0 := by
      unfold atM
      rw [hd, List.findIdx?_cons, beq_self_eq_true, if_pos rfl]
    rw [FnZipDropAll.l0.succ]; simp only [FnZipDropAll.l0.step]
    rw [idx_lt hi, cond_true, need_true _ idx_in', Int.toNat_natCast, getD_fil es i hi, zipDrop_T hzi, dropT_at ha]
    have hdr : dropM (es.drop i) 0 = es.drop (i + 1) := by unfold dropM; rw [hd]; rfl
    rw [hdr]
    simp only [bind_go]
    rw [show ((0 : Int) != 0) = false from rfl]
    have hlt : (zipT (es.drop (i + 1))).length < (zipT (es.drop i)).length := by
      rw [zipT_length _ (zipM_all hzi).1, zipT_length _ (zipM_all hzn).1, hd]
      simp only [List.map_cons, List.sum_cons, sumL]
      omega
    simp only [cond_false, bind_go]
    rw [decide_eq_false (by omega), cond_false, w64_id (by omega) (by omega), show (i : Int) + 1 = ((i + 1 : Nat) : Int) by omega]
    exact FnZipDropAll_l0 es hz j (i + 1) (by omega)
theorem FnZipDropAll_true (xs : List Int) (h : CodeOk xs) : FnZipDropAll xs = some true := by
  unfold FnZipDropAll
  by_cases c : xs.length > 1048576
  · rw [decide_eq_true (by omega)]; rfl
  rw [decide_eq_false (by omega), cond_false]
  obtain ⟨es, he, hs, h1, h2⟩ := drawZip_start h (by omega)
  rw [he]
  simp only [bind_go]
  rw [h1, h2]
  simp only [bind_go, beq_self_eq_true, Bool.not_true, cond_false]
  cases hz : zipM es with
  | false => rfl
  | true =>
    simp only [Bool.not_true, cond_false]
    rw [zipPut_T hz]
    simp only [bind_go]
    have hl := FnZipDropAll_l0 es hz es.length 0 (by omega)
    rw [show ((0 : Nat) : Int) = 0 from rfl, List.drop_zero] at hl
    rw [fuel_of, hl]
    simp only [bind_go]
    rw [zipPut_T zipM_nil]
    simp only [bind_go, beq_self_eq_true]
end Ev
end
