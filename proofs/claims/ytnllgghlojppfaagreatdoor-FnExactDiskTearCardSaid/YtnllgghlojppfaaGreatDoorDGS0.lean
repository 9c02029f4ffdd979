/- Library functions by the kit's own contracts. Conditions: as stated. -/
import Derived.Shelf.Strings.OnBuilder
import Derived.Lib.ItoaNum
import Derived.Shelf.LaysM
import Derived.Shelf.Strconv.Itoa3
import Derived.Test.YtnllgghlojppfaaGreatDoorProg
import Derived.Test.YtnllgghlojppfaaGreatDoorDGA2
section
set_option linter.unusedVariables false
set_option linter.unusedSimpArgs false
namespace Ev
open Go Go.Proofs Go.Shelf
def joinL (xs : List Str) (sep : Str) : Str := sep.intercalate xs
end Ev
end
section
set_option linter.unusedVariables false
set_option linter.unusedSimpArgs false
namespace Ev
open Go Go.Proofs Go.Shelf
def itoaF (n : Int) : Option Str := need (decide (-9223372036854775808 ≤ n) && decide (n ≤ 9223372036854775807)) (some (Lib.itoa n))
def itoaSpec : Spec := ⟨0, [.sc (.int .i64)], [], [.int .i64], ⟨[.str], .sc .str, []⟩, fun (n : Int) => itoaF n⟩
end Ev
end
section
namespace Go.Proofs
open Go.Shelf
def Tryz.laysM171_ren : Go.Shelf.Ren := ⟨fun | 171 => 62 | 243 => 118 | 246 => 177 | 283 => 217 | 284 => 218 | 285 => 219 | 286 => 220 | 129 => 209 | 317 => 250 | 318 => 251 | 319 => 252 | 320 => 253 | 337 => 272 | 338 => 273 | n => n, fun | 3 => 3 | 9 => 9 | 2 => 2 | 4 => 4 | 171 => 201 | 0 => 0 | 53 => 196 | 37 => 22 | 5 => 5 | 173 => 203 | 212 => 230 | 51 => 161 | 20 => 20 | 213 => 231 | 46 => 115 | 232 => 254 | 233 => 255 | n => n, fun | 17 => 5 | 18 => 8 | 19 => 9 | n => n⟩
theorem Tryz.laysM171 : Go.Proofs.LaysM.n171 Tryz.prog Tryz.laysM171_ren := {
  mixed := by kernel_rfl
  f129 := Tryz.func209.trans (congrArg some (by kernel_rfl))
  f171 := Tryz.func62.trans (congrArg some (by kernel_rfl))
  f243 := Tryz.func118.trans (congrArg some (by kernel_rfl))
  f246 := Tryz.func177.trans (congrArg some (by kernel_rfl))
  f283 := Tryz.func217.trans (congrArg some (by kernel_rfl))
  f284 := Tryz.func218.trans (congrArg some (by kernel_rfl))
  f285 := Tryz.func219.trans (congrArg some (by kernel_rfl))
  f286 := Tryz.func220.trans (congrArg some (by kernel_rfl))
  f317 := Tryz.func250.trans (congrArg some (by kernel_rfl))
  f318 := Tryz.func251.trans (congrArg some (by kernel_rfl))
  f319 := Tryz.func252.trans (congrArg some (by kernel_rfl))
  f320 := Tryz.func253.trans (congrArg some (by kernel_rfl))
  f337 := Tryz.func272.trans (congrArg some (by kernel_rfl))
  f338 := Tryz.func273.trans (congrArg some (by kernel_rfl))
  t0 := Tryz.underlying0
  a0 := Tryz.isAgg0
  z0 := Tryz.sizeOf0
  v0 := Tryz.zeroValue0
  t2 := Tryz.underlying2
  a2 := Tryz.isAgg2
  z2 := Tryz.sizeOf2
  v2 := Tryz.zeroValue2
  t3 := Tryz.underlying3
  a3 := Tryz.isAgg3
  z3 := Tryz.sizeOf3
  v3 := Tryz.zeroValue3
  t4 := Tryz.underlying4
  a4 := Tryz.isAgg4
  z4 := Tryz.sizeOf4
  v4 := Tryz.zeroValue4
  t5 := Tryz.underlying5
  a5 := Tryz.isAgg5
  z5 := Tryz.sizeOf5
  v5 := Tryz.zeroValue5
  t9 := Tryz.underlying9
  a9 := Tryz.isAgg9
  z9 := Tryz.sizeOf9
  v9 := Tryz.zeroValue9
  t20 := Tryz.underlying20
  a20 := Tryz.isAgg20
  z20 := Tryz.sizeOf20
  v20 := Tryz.zeroValue20
  t37 := Tryz.underlying22
  a37 := Tryz.isAgg22
  z37 := Tryz.sizeOf22
  v37 := Tryz.zeroValue22
  t46 := Tryz.underlying115
  a46 := Tryz.isAgg115
  z46 := Tryz.sizeOf115
  v46 := Tryz.zeroValue115
  t51 := Tryz.underlying161
  a51 := Tryz.isAgg161
  z51 := Tryz.sizeOf161
  v51 := Tryz.zeroValue161
  t53 := Tryz.underlying196
  a53 := Tryz.isAgg196
  z53 := Tryz.sizeOf196
  v53 := Tryz.zeroValue196
  t171 := Tryz.underlying201
  a171 := Tryz.isAgg201
  z171 := Tryz.sizeOf201
  v171 := Tryz.zeroValue201
  t173 := Tryz.underlying203
  a173 := Tryz.isAgg203
  z173 := Tryz.sizeOf203
  v173 := Tryz.zeroValue203
  t212 := Tryz.underlying230
  a212 := Tryz.isAgg230
  z212 := Tryz.sizeOf230
  v212 := Tryz.zeroValue230
  t213 := Tryz.underlying231
  a213 := Tryz.isAgg231
  z213 := Tryz.sizeOf231
  t232 := Tryz.underlying254
  a232 := Tryz.isAgg254
  z232 := Tryz.sizeOf254
  v232 := Tryz.zeroValue254
  t233 := Tryz.underlying255
  a233 := Tryz.isAgg255
  z233 := Tryz.sizeOf255
  v233 := Tryz.zeroValue255
  g17 := by kernel_rfl
  g18 := by kernel_rfl
  g19 := by kernel_rfl
  i0 := by kernel_rfl
  i2 := by kernel_rfl
  i3 := by kernel_rfl
  i4 := by kernel_rfl
  i5 := by kernel_rfl
  i9 := by kernel_rfl
  i20 := by kernel_rfl
  i37 := by kernel_rfl
  i46 := by kernel_rfl
  i51 := by kernel_rfl
  i53 := by kernel_rfl
  i171 := by kernel_rfl
  i173 := by kernel_rfl
  i212 := by kernel_rfl
  i232 := by kernel_rfl
  i233 := by kernel_rfl
  m17 := by kernel_rfl
  m18 := by kernel_rfl
  m19 := by kernel_rfl }
end Go.Proofs
end
section
set_option linter.unusedVariables false
set_option linter.unusedSimpArgs false
namespace Ev
open Go Go.Proofs Go.Shelf
theorem sound_callsG {P : Program} {C : Ctx} {f : Nat} {fn : Func} {sargs : List Tp} {ids ods : List DT} {res : Tp} {F : Den ids → Option (Den ods)} (hf : P.funcs[f]? = some fn) (hname : (fn.name == "runtime.NumGoroutine") = false) (hb : fn.body.isNone = false)
    (hwf : (Spec.mk 0 sargs [] ids ⟨ods, res, []⟩ F).wf = true)
    (h : ∀ (d : Den ids) (r : Den ods), F d = some r → ∀ (ι : Nat → Option Value) (N : Nat → Prop) (w : World) (vs : Array Value), (∀ b, N b → b < w.heap.size) →
      (∀ g, C.glob g ≠ [] → N g ∧ ∃ c T fz, w.heap[g]? = some (.cells c T fz) ∧ GlobR (fun a v => VRc N w a v ∧ v.oneCell' = true) c (C.glob g)) → VRL ι N w (Tp.insts (fun j => j) sargs (Den.list ids d)).1 vs.toList →
      Calls P f vs w fun e w' => ∃ val, e = .returned val ∧ RowKit.Below w.heap.size w w' ∧ VR ι N w' (res.inst (fun j => j) (Den.list ods r)).1 val) : SoundS P C f ⟨0, sargs, [], ids, ⟨ods, res, []⟩, F⟩ := by
  refine ⟨hwf, fun d r hF E eP eC ι N w vs args l hinsts hv R new => ?_⟩
  subst eP eC
  refine OpR.of_calls hf hname hb ((h d r hF ι N w vs R.nlt R.glob (by rw [hinsts]; exact hv)).mono ?_)
  rintro e w' ⟨val, rfl, bel, hr⟩
  have mem : ∀ b, b < w.heap.size → w'.heap[b]? = w.heap[b]? := bel.block
  refine ⟨val, rfl, ι, N, _, _, rfl, hr, ?_, fun i _ => new i (Nat.zero_le _), ⟨fun i hi => absurd hi (by simp), fun _ h => h, fun b hb => mem b (R.nlt b hb), fun _ h => .inl h⟩⟩
  refine ⟨fun i hi => ?_, fun i j b e hi => ?_, fun b hb => Nat.lt_of_lt_of_le (R.nlt b hb) bel.size, fun b hb => Nat.lt_of_lt_of_le (R.klt b hb) bel.size, ?_, fun g hg => ?_⟩
  · cases i <;> simp [OT.insts, getH] at hi
  · cases i <;> simp [OT.insts, getH] at hi
  · exact ⟨bel.os.trans R.pres.os, bel.tape.trans R.pres.tape, bel.output.trans R.pres.output, Nat.le_trans R.pres.size bel.size, fun k hk => (mem k (R.klt k hk)).trans (R.pres.mem k hk)⟩
  · obtain ⟨n, c, T, fz, hc, hx⟩ := R.glob g hg
    exact ⟨n, c, T, fz, (mem g (R.nlt g n)).trans hc, hx.mono fun a v ⟨x, y⟩ => ⟨VRc.mono (fun _ h => h) (fun b hb => mem b (R.nlt b hb)) x, y⟩⟩
theorem below_grow (w : World) (k : Nat) (os : Array Obj) : RowKit.Below w.heap.size w (Sort.grow (w.drewN k) os) := by
  have hd : ∀ k (u : World), (u.drewN k).heap = u.heap ∧ (u.drewN k).os = u.os ∧ (u.drewN k).tape = u.tape ∧ (u.drewN k).output = u.output := fun k => by
    induction k with
    | zero => intro u; exact ⟨rfl, rfl, rfl, rfl⟩
    | succ k ih => intro u; exact ih u.drew
  obtain ⟨h1, h2, h3, h4⟩ := hd k w
  refine ⟨h2, h3, h4, ?_, fun j hj => ?_⟩
  · show w.heap.size ≤ ((w.drewN k).heap ++ os).size
    rw [h1]; simp
  · show ((w.drewN k).heap ++ os)[j]? = w.heap[j]?
    rw [h1, Array.getElem?_append_left hj]
theorem itoa_sound {P : Program} {C : Ctx} {ρ : Ren} (L : LaysM.n171 P ρ) {g : Nat} (hg : P.globalNamed "internal/strconv.uint64pow10" = some g) (hC : C.glob g = Lib.pow10Tab.map fun n => .int .u64 n) {fn : Func} (hf : P.funcs[ρ.f 171]? = some fn) (hname : (fn.name == "runtime.NumGoroutine") = false) (hb : fn.body.isNone = false) : SoundS P C (ρ.f 171) itoaSpec := by
  refine sound_callsG hf hname hb rfl fun n r hF ι N w vs hN hG hv => ?_
  obtain ⟨hfit, hF⟩ := need_some hF
  cases hF
  simp only [Bool.and_eq_true, decide_eq_true_eq] at hfit
  simp only [Den.list, Tp.insts, Tp.inst, Dat.av] at hv
  obtain ⟨l⟩ := vs
  dsimp only at hv
  match l, hv with
  | [a], hv =>
    simp only [VRL, VR] at hv
    obtain ⟨rfl, _⟩ := hv
    obtain ⟨_, c, T, fz, hheap, hsz, hcells⟩ := hG g (by rw [hC]; simp [Lib.pow10Tab])
    have htab : Lib.TabIs P w "internal/strconv.uint64pow10" .u64 Lib.pow10Tab := by
      unfold Lib.TabIs World.var?
      rw [hg]
      simp only [Option.bind_some, hheap]
      congr 1
      rw [hC, List.length_map] at hsz
      apply Array.ext (by simpa using hsz)
      intro i h1 h2
      have hi : i < Lib.pow10Tab.length := by simpa using h2
      obtain ⟨v, hv, hr, _⟩ := hcells i (.int .u64 Lib.pow10Tab[i]) (by rw [hC, List.getElem?_map, List.getElem?_eq_getElem hi]; rfl)
      simp only [VRc, VRs] at hr
      subst hr
      rw [Nat.zero_add, Array.getElem?_eq_getElem h1] at hv
      simpa using hv
    refine (Any.strconv_Itoa L n hfit.1 hfit.2 w htab).mono ?_
    rintro e w' ⟨rfl, k, os, rfl⟩
    exact ⟨_, rfl, below_grow w k os, by simp only [Den.list, Tp.inst, Dat.av, VR]⟩
  | [], hv => simp [VRL] at hv
  | _ :: _ :: _, hv => simp [VRL] at hv
end Ev
end
