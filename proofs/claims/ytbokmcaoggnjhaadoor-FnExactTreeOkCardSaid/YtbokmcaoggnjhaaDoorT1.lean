/- The functions that FnExactTreeOk reaches, each as a plain function, and that the evaluator says so. Conditions: none. -/
import Derived.Test.YtbokmcaoggnjhaaDoorProg
import Derived.Test.YtbokmcaoggnjhaaDoorEvLib
import Derived.Test.YtbokmcaoggnjhaaDoorEvTy
import Derived.Test.YtbokmcaoggnjhaaDoorEvEntry
import Derived.KernelRfl
open Ev Go Go.Proofs
set_option maxRecDepth 100000
def Ev.tyTab : List (Nat × TI) := [
  (2, ⟨.int .i64, 1, 8, [.int .i64 0], some [.int .i64]⟩),
  (3, ⟨.int .i64, 1, 8, [.int .i64 0], some [.int .i64]⟩),
  (4, ⟨.bool, 1, 1, [.bool false], some [.bool]⟩),
  (5, ⟨.int .u8, 1, 1, [.int .u8 0], some [.int .u8]⟩),
  (6, ⟨.int .u8, 1, 1, [.int .u8 0], some [.int .u8]⟩),
  (7, ⟨.struct [(0, 1, false), (1, 1, false), (2, 1, false), (3, 1, false)], 4, 24, [.int .i64 0, .int .i64 0, .bool false, .int .u8 0], some [.int .i64, .int .i64, .bool, .int .u8]⟩),
  (8, ⟨.struct [(0, 1, false), (1, 1, false), (2, 1, false), (3, 1, false)], 4, 24, [.int .i64 0, .int .i64 0, .bool false, .int .u8 0], some [.int .i64, .int .i64, .bool, .int .u8]⟩),
  (9, ⟨.str, 1, 16, [.str []], some [.str]⟩),
  (10, ⟨.str, 1, 16, [.str []], some [.str]⟩),
  (11, ⟨.str, 1, 16, [.str []], some [.str]⟩),
  (12, ⟨.int .u64, 1, 8, [.int .u64 0], some [.int .u64]⟩),
  (13, ⟨.struct [(0, 1, false), (1, 1, false)], 2, 24, [.str [], .int .u64 0], some [.str, .int .u64]⟩),
  (14, ⟨.struct [(0, 1, false), (1, 1, false)], 2, 24, [.str [], .int .u64 0], some [.str, .int .u64]⟩),
  (15, ⟨.ptr 72, 1, 8, [.nilp], none⟩),
  (16, ⟨.ptr 75, 1, 8, [.nilp], none⟩),
  (17, ⟨.ptr 84, 1, 8, [.nilp], none⟩),
  (18, ⟨.struct [(0, 1, false)], 1, 8, [.nilp], none⟩),
  (19, ⟨.struct [(0, 1, false)], 1, 8, [.nilp], none⟩),
  (21, ⟨.int .i32, 1, 4, [.int .i32 0], some [.int .i32]⟩),
  (22, ⟨.slice 34, 1, 24, [.nilsl], none⟩),
  (25, ⟨.slice 36, 1, 24, [.nilsl], none⟩),
  (29, ⟨.slice 5, 1, 24, [.nilsl], some [.ints .u8]⟩),
  (33, ⟨.struct [(0, 1, false), (1, 1, false)], 2, 32, [.str [], .str []], some [.str, .str]⟩),
  (34, ⟨.struct [(0, 1, false), (1, 1, false)], 2, 32, [.str [], .str []], some [.str, .str]⟩),
  (36, ⟨.struct [(0, 1, false), (1, 1, false)], 2, 32, [.str [], .str []], some [.str, .str]⟩),
  (39, ⟨.slice 9, 1, 24, [.nilsl], none⟩),
  (43, ⟨.ptr 51, 1, 8, [.nilp], none⟩),
  (50, ⟨.struct [(0, 1, false), (1, 1, false)], 2, 32, [.nilsl, .int .i64 0], some [.ints .u8, .int .i64]⟩),
  (51, ⟨.struct [(0, 1, false), (1, 1, false)], 2, 32, [.nilsl, .int .i64 0], some [.ints .u8, .int .i64]⟩),
  (62, ⟨.int .u64, 1, 8, [.int .u64 0], some [.int .u64]⟩),
  (64, ⟨.struct [(0, 1, false), (1, 1, false)], 2, 2, [.int .u8 0, .int .u8 0], some [.int .u8, .int .u8]⟩),
  (65, ⟨.struct [(0, 1, false), (1, 1, false)], 2, 2, [.int .u8 0, .int .u8 0], some [.int .u8, .int .u8]⟩),
  (67, ⟨.int .u32, 1, 4, [.int .u32 0], some [.int .u32]⟩),
  (71, ⟨.struct [(0, 1, false), (1, 1, false), (2, 1, false), (3, 1, false)], 4, 40, [.nilp, .nilp, .nilp, .str []], none⟩),
  (72, ⟨.struct [(0, 1, false), (1, 1, false), (2, 1, false), (3, 1, false)], 4, 40, [.nilp, .nilp, .nilp, .str []], none⟩),
  (77, ⟨.int .u8, 1, 1, [.int .u8 0], some [.int .u8]⟩),
  (78, ⟨.int .u8, 1, 1, [.int .u8 0], some [.int .u8]⟩),
  (80, ⟨.ptr 5, 1, 8, [.nilp], none⟩),
  (81, ⟨.int .i32, 1, 4, [.int .i32 0], some [.int .i32]⟩),
  (82, ⟨.int .i32, 1, 4, [.int .i32 0], some [.int .i32]⟩),
  (83, ⟨.struct [(0, 1, false), (1, 1, false), (2, 1, false), (3, 1, false), (4, 1, false), (5, 1, false), (6, 1, false), (7, 1, false), (8, 1, false), (9, 1, false), (10, 1, false)], 11, 48, [.int .u64 0, .int .u64 0, .int .u32 0, .int .u8 0, .int .u8 0, .int .u8 0, .int .u8 0, .undef, .nilp, .int .i32 0, .int .i32 0], none⟩),
  (84, ⟨.struct [(0, 1, false), (1, 1, false), (2, 1, false), (3, 1, false), (4, 1, false), (5, 1, false), (6, 1, false), (7, 1, false), (8, 1, false), (9, 1, false), (10, 1, false)], 11, 48, [.int .u64 0, .int .u64 0, .int .u32 0, .int .u8 0, .int .u8 0, .int .u8 0, .int .u8 0, .undef, .nilp, .int .i32 0, .int .i32 0], none⟩)]
theorem Ev.tyTab_ok : tisC Tryd.prog Ev.tyTab = true := by kernel_rfl
theorem Ev.nm : Tryd.prog.follows .mixedOrders = true := by kernel_rfl
def Ev.C0 : Ctx := ⟨tyOf Ev.tyTab, fun _ => []⟩
theorem Ev.tyOk : TyOk Tryd.prog C0 := tyOk_of rfl Ev.tyTab_ok Ev.nm
namespace Ev
set_option maxHeartbeats 1000000
set_option linter.unusedVariables false
def within (n : Int) (low : Int) (high : Int) : Option (Bool) :=
 ((bif (decide (n ≥ low)) then (some (decide (n ≤ high))) else
 (some false)).bind fun c =>
 (some c))

def within.S : Spec := ⟨0, [.sc (.int .i64), .sc (.int .i64), .sc (.int .i64)], [], [.int .i64, .int .i64, .int .i64], ⟨[.bool], .sc .bool, []⟩,
  fun ((n, low, high) : Int × Int × Int) => within n low high⟩

theorem within.ev : ∀ d, evFn C0 (hnd (tab [])) Tryd.f30 (.seq .u (.seq (.reg [.bool] [(6, .sc .bool)]) .u)) within.S d = within.S.F d := fun _ => by kernel_rfl

theorem within.sound : SoundS Tryd.prog C0 30 within.S := sound_of_ev tyOk (tab_ok (l := []) trivial) Tryd.func30 (by kernel_rfl) (by kernel_rfl) (by kernel_rfl) within.ev

def partOk.l0.step (again : (Str × Int × Int) → Option ((Str) ⊕ (Bool))) : (Str × Int × Int) → Option ((Str) ⊕ (Bool)) := fun (s1, t, t1) =>
 (bif (decide (t1 < t)) then (need (decide (0 ≤ t1) && decide (t1 < s1.length)) ((bif (decide (((s1.getD t1.toNat 0).toNat : Int) < 97)) then (bif (decide (((s1.getD t1.toNat 0).toNat : Int) < 48)) then (bif (((s1.getD t1.toNat 0).toNat : Int) != 46) then (bif (((s1.getD t1.toNat 0).toNat : Int) != 45) then (some (((s1.getD t1.toNat 0).toNat : Int) != 95)) else
 (some false)) else
 (some false)) else
 (bif (decide (((s1.getD t1.toNat 0).toNat : Int) > 57)) then (bif (((s1.getD t1.toNat 0).toNat : Int) != 46) then (bif (((s1.getD t1.toNat 0).toNat : Int) != 45) then (some (((s1.getD t1.toNat 0).toNat : Int) != 95)) else
 (some false)) else
 (some false)) else
 (some false))) else
 (bif (decide (((s1.getD t1.toNat 0).toNat : Int) > 122)) then (bif (decide (((s1.getD t1.toNat 0).toNat : Int) < 48)) then (bif (((s1.getD t1.toNat 0).toNat : Int) != 46) then (bif (((s1.getD t1.toNat 0).toNat : Int) != 45) then (some (((s1.getD t1.toNat 0).toNat : Int) != 95)) else
 (some false)) else
 (some false)) else
 (bif (decide (((s1.getD t1.toNat 0).toNat : Int) > 57)) then (bif (((s1.getD t1.toNat 0).toNat : Int) != 46) then (bif (((s1.getD t1.toNat 0).toNat : Int) != 45) then (some (((s1.getD t1.toNat 0).toNat : Int) != 95)) else
 (some false)) else
 (some false)) else
 (some false))) else
 (some false))).bind fun c =>
 (bif c then ((some false).map Sum.inr) else
 (again (s1, t, (w64 (t1 + 1))))))) else
 (some (.inl s1)))
def partOk.l0 : Nat → (Str × Int × Int) → Option ((Str) ⊕ (Bool)) := loopN (partOk.l0.step)
theorem partOk.l0.succ (n : Nat) (t : (Str × Int × Int)) : partOk.l0 (n + 1) t = partOk.l0.step (partOk.l0 n) t := rfl

def partOk (s : Str) : Option (Bool) :=
 ((partOk.l0 (((s.length : Int) - (0 : Int)).toNat + 1) (s, (s.length : Int), 0)).bind fun r => match r with
 | .inl s2 => (((within (s2.length : Int) 1 10).bind fun within_ =>
 (bif within_ then (bif (!(s2 == [46])) then (some (!(s2 == [46, 46]))) else
 (some false)) else
 (some false))).bind fun c1 =>
 (some c1))
 | .inr r => some r)

def partOk.S : Spec := ⟨0, [.sc .str], [], [.str], ⟨[.bool], .sc .bool, []⟩,
  fun (s : Str) => partOk s⟩

theorem partOk.ev : ∀ d, evFn C0 (hnd (tab [(30, within.S)])) Tryd.f23 (.seq .u (.seq (.seq .u (.blk (.loopS ⟨[.str, .int .i64, .int .i64], [(0, .sc .str), (6, .sc (.int .i64)), (7, .sc (.int .i64))], []⟩ (fun ((s1, t, t1) : Str × Int × Int) => (t - t1).toNat + 1) 0 ⟨[.str], [(0, .sc .str)], []⟩ (.seq .u (.seq .u (.seq (.blk (.seq .u (.seq .u (.seq (.reg [.bool] [(38, .sc .bool)]) .u)))) .u)))))) (.seq (.reg [.bool] [(2, .sc .bool)]) .u))) partOk.S d = partOk.S.F d := fun _ => by kernel_rfl

theorem partOk.sound : SoundS Tryd.prog C0 23 partOk.S := sound_of_ev tyOk (tab_ok (l := [(30, within.S)]) ⟨within.sound, trivial⟩) Tryd.func23 (by kernel_rfl) (by kernel_rfl) (by kernel_rfl) partOk.ev

def l1In (n : Int) (low : Int) (high : Int) : Option (Bool) :=
 ((bif (decide (n ≥ low)) then (some (decide (n ≤ high))) else
 (some false)).bind fun c =>
 (some c))

def l1In.S : Spec := ⟨0, [.sc (.int .i64), .sc (.int .i64), .sc (.int .i64)], [], [.int .i64, .int .i64, .int .i64], ⟨[.bool], .sc .bool, []⟩,
  fun ((n, low, high) : Int × Int × Int) => l1In n low high⟩

theorem l1In.ev : ∀ d, evFn C0 (hnd (tab [])) Tryd.f21 (.seq .u (.seq (.reg [.bool] [(6, .sc .bool)]) .u)) l1In.S d = l1In.S.F d := fun _ => by kernel_rfl

theorem l1In.sound : SoundS Tryd.prog C0 21 l1In.S := sound_of_ev tyOk (tab_ok (l := []) trivial) Tryd.func21 (by kernel_rfl) (by kernel_rfl) (by kernel_rfl) l1In.ev

def l1Cut.l0.step (again : (Str × Int × Int × Int × Int × List Str) → Option (Str × Int × List Str)) : (Str × Int × Int × Int × Int × List Str) → Option (Str × Int × List Str) := fun (s1, b1, most1, from_, i, out) =>
 ((bif (decide (i < (s1.length : Int))) then (some (decide ((out.length : Int) < most1))) else
 (some false)).bind fun c =>
 (bif c then (need (decide (0 ≤ i) && decide (i < s1.length)) (bif (((s1.getD i.toNat 0).toNat : Int) == b1) then (need (decide (0 ≤ i) && decide (i ≤ s1.length)) (need (decide (0 ≤ from_) && decide (from_ ≤ i)) (need (fits (out.length + ([((s1.take i.toNat).drop from_.toNat)] : List (Str)).length)) (again (s1, b1, most1, (w64 (i + 1)), (w64 (i + 1)), (out ++ [((s1.take i.toNat).drop from_.toNat)])))))) else
 (again (s1, b1, most1, from_, (w64 (i + 1)), out)))) else
 (some (s1, from_, out))))
def l1Cut.l0 : Nat → (Str × Int × Int × Int × Int × List Str) → Option (Str × Int × List Str) := loopN (l1Cut.l0.step)
theorem l1Cut.l0.succ (n : Nat) (t : (Str × Int × Int × Int × Int × List Str)) : l1Cut.l0 (n + 1) t = l1Cut.l0.step (l1Cut.l0 n) t := rfl

def l1Cut (s : Str) (b : Int) (most : Int) : Option (List Str) :=
 ((l1Cut.l0 (((s.length : Int) - (0 : Int)).toNat + 1) (s, b, most, 0, 0, [])).bind fun (s2, from_1, out1) =>
 (need (decide (0 ≤ from_1) && decide (from_1 ≤ s2.length)) (need (fits (out1.length + ([(s2.drop from_1.toNat)] : List (Str)).length)) (some (out1 ++ [(s2.drop from_1.toNat)])))))

def l1Cut.S : Spec := ⟨0, [.sc .str, .sc (.int .u8), .sc (.int .i64)], [], [.str, .int .u8, .int .i64], ⟨[.list [.str]], .full 0, [.arr [.str]]⟩,
  fun ((s, b, most) : Str × Int × Int) => l1Cut s b most⟩

theorem l1Cut.ev : ∀ d, evFn C0 (hnd (tab [])) Tryd.f20 (.seq .u (.seq .u (.seq .u (.seq (.seq .u (.blk (.loop ⟨[.str, .int .u8, .int .i64, .int .i64, .int .i64, .list [.str]], [(0, .sc .str), (1, .sc (.int .u8)), (2, .sc (.int .i64)), (7, .full 0), (8, .sc (.int .i64)), (9, .sc (.int .i64))], [.arr [.str]]⟩ (fun ((s1, b1, most1, from_, i, out) : Str × Int × Int × Int × Int × List Str) => ((s1.length : Int) - i).toNat + 1) 0 ⟨[.str, .int .i64, .list [.str]], [(0, .sc .str), (7, .full 0), (8, .sc (.int .i64))], [.arr [.str]]⟩ (.seq (.seq (.reg [.bool] [(20, .sc .bool)]) .u) .u)))) .u)))) l1Cut.S d = l1Cut.S.F d := fun _ => by kernel_rfl

theorem l1Cut.sound : SoundS Tryd.prog C0 20 l1Cut.S := sound_of_ev tyOk (tab_ok (l := []) trivial) Tryd.func20 (by kernel_rfl) (by kernel_rfl) (by kernel_rfl) l1Cut.ev

def szFile (path : Str) (text : Str) (n : Int) : Option (Int) :=
 (bif (decide ((w64 (n - (path.length : Int))) < 0)) then (some (-1)) else
 (bif (decide ((w64 ((w64 (n - (path.length : Int))) - (text.length : Int))) < 0)) then (some (-1)) else
 (some (w64 ((w64 (n - (path.length : Int))) - (text.length : Int))))))

def szFile.S : Spec := ⟨0, [.agg [.sc .str, .sc .str], .sc (.int .i64)], [], [.str, .str, .int .i64], ⟨[.int .i64], .sc (.int .i64), []⟩,
  fun ((path, text, n) : Str × Str × Int) => szFile path text n⟩

theorem szFile.ev : ∀ d, evFn C0 (hnd (tab [])) Tryd.f11 .u szFile.S d = szFile.S.F d := fun _ => by kernel_rfl

theorem szFile.sound : SoundS Tryd.prog C0 11 szFile.S := sound_of_ev tyOk (tab_ok (l := []) trivial) Tryd.func11 (by kernel_rfl) (by kernel_rfl) (by kernel_rfl) szFile.ev

def szFileS.l0.step (again : ((List (Str × Str)) × Int × Int) → Option ((Int) ⊕ (Int))) : ((List (Str × Str)) × Int × Int) → Option ((Int) ⊕ (Int)) := fun (a, left, i) =>
 (bif (decide (i < (a.length : Int))) then (need (decide (0 ≤ i) && decide (i < a.length)) ((szFile ((a.getD i.toNat ([], [])).1) ((a.getD i.toNat ([], [])).2) left).bind fun szFile_ =>
 (bif (decide (szFile_ < 0)) then ((some (-1)).map Sum.inr) else
 (again (a, szFile_, (w64 (i + 1))))))) else
 (some (.inl left)))
def szFileS.l0 : Nat → ((List (Str × Str)) × Int × Int) → Option ((Int) ⊕ (Int)) := loopN (szFileS.l0.step)
theorem szFileS.l0.succ (n : Nat) (t : ((List (Str × Str)) × Int × Int)) : szFileS.l0 (n + 1) t = szFileS.l0.step (szFileS.l0 n) t := rfl

def szFileS (xs : List (Str × Str)) (n : Int) : Option (Int) :=
 (bif (decide ((w64 (n - (xs.length : Int))) < 0)) then (some (-1)) else
 ((szFileS.l0 (((xs.length : Int) - (0 : Int)).toNat + 1) (xs, (w64 (n - (xs.length : Int))), 0)).bind fun r => match r with
 | .inl left1 => (some left1)
 | .inr r => some r))

def szFileS.S : Spec := ⟨0, [.sc (.list [.str, .str]), .sc (.int .i64)], [], [.list [.str, .str], .int .i64], ⟨[.int .i64], .sc (.int .i64), []⟩,
  fun ((xs, n) : (List (Str × Str)) × Int) => szFileS xs n⟩

theorem szFileS.ev : ∀ d, evFn C0 (hnd (tab [(11, szFile.S)])) Tryd.f5 (.seq .u (.seq .u (.seq .u (.seq (.seq .u (.blk (.loopS ⟨[.list [.str, .str], .int .i64, .int .i64], [(0, .sc (.list [.str, .str])), (1, .sc (.int .i64)), (5, .sc (.int .i64))], []⟩ (fun ((a, left, i) : (List (Str × Str)) × Int × Int) => ((a.length : Int) - i).toNat + 1) 0 ⟨[.int .i64], [(1, .sc (.int .i64))], []⟩ .u))) .u)))) szFileS.S d = szFileS.S.F d := fun _ => by kernel_rfl

theorem szFileS.sound : SoundS Tryd.prog C0 5 szFileS.S := sound_of_ev tyOk (tab_ok (l := [(11, szFile.S)]) ⟨szFile.sound, trivial⟩) Tryd.func5 (by kernel_rfl) (by kernel_rfl) (by kernel_rfl) szFileS.ev

def toFile (path : Str) (text : Str) : Option (Str × Str) :=
 (some (path, text))

def toFile.S : Spec := ⟨0, [.agg [.sc .str, .sc .str]], [], [.str, .str], ⟨[.str, .str], .agg [.sc .str, .sc .str], []⟩,
  fun ((path, text) : Str × Str) => toFile path text⟩

theorem toFile.ev : ∀ d, evFn C0 (hnd (tab [])) Tryd.f14 .u toFile.S d = toFile.S.F d := fun _ => by kernel_rfl

theorem toFile.sound : SoundS Tryd.prog C0 14 toFile.S := sound_of_ev tyOk (tab_ok (l := []) trivial) Tryd.func14 (by kernel_rfl) (by kernel_rfl) (by kernel_rfl) toFile.ev

def toFileS.l0.step (again : ((List (Str × Str)) × Int × List (Str × Str)) → Option (List (Str × Str))) : ((List (Str × Str)) × Int × List (Str × Str)) → Option (List (Str × Str)) := fun (a, i, out) =>
 (bif (decide (i < (a.length : Int))) then (need (decide (0 ≤ i) && decide (i < a.length)) ((toFile ((a.getD i.toNat ([], [])).1) ((a.getD i.toNat ([], [])).2)).bind fun (r, r1) =>
 (need (decide (0 ≤ i) && decide (i < out.length)) (again (a, (w64 (i + 1)), (out.set i.toNat (r, r1))))))) else
 (some out))
def toFileS.l0 : Nat → ((List (Str × Str)) × Int × List (Str × Str)) → Option (List (Str × Str)) := loopN (toFileS.l0.step)
theorem toFileS.l0.succ (n : Nat) (t : ((List (Str × Str)) × Int × List (Str × Str))) : toFileS.l0 (n + 1) t = toFileS.l0.step (toFileS.l0 n) t := rfl

def toFileS (xs : List (Str × Str)) : Option (List (Str × Str)) :=
 (need (decide (0 ≤ (xs.length : Int)) && fits (xs.length : Int).toNat) ((toFileS.l0 (((xs.length : Int) - (0 : Int)).toNat + 1) (xs, 0, (List.replicate (xs.length : Int).toNat (([], []) : Str × Str)))).bind fun out1 =>
 (some out1)))

def toFileS.S : Spec := ⟨0, [.sc (.list [.str, .str])], [], [.list [.str, .str]], ⟨[.list [.str, .str]], .full 0, [.arr [.str, .str]]⟩,
  fun (xs : List (Str × Str)) => toFileS xs⟩

theorem toFileS.ev : ∀ d, evFn C0 (hnd (tab [(14, toFile.S)])) Tryd.f7 (.seq .u (.seq .u (.seq (.seq .u (.blk (.loop ⟨[.list [.str, .str], .int .i64, .list [.str, .str]], [(0, .sc (.list [.str, .str])), (3, .full 0), (4, .sc (.int .i64))], [.arr [.str, .str]]⟩ (fun ((a, i, out) : (List (Str × Str)) × Int × List (Str × Str)) => ((a.length : Int) - i).toNat + 1) 0 ⟨[.list [.str, .str]], [(3, .full 0)], [.arr [.str, .str]]⟩ .u))) .u))) toFileS.S d = toFileS.S.F d := fun _ => by kernel_rfl

theorem toFileS.sound : SoundS Tryd.prog C0 7 toFileS.S := sound_of_ev tyOk (tab_ok (l := [(14, toFile.S)]) ⟨toFile.sound, trivial⟩) Tryd.func7 (by kernel_rfl) (by kernel_rfl) (by kernel_rfl) toFileS.ev

def eqFile (p : Str) (t : Str) (q : Str) (u : Str) : Option (Bool) :=
 (bif (!(p == q)) then (some false) else
 (bif (!(t == u)) then (some false) else
 (some true)))

def eqFile.S : Spec := ⟨0, [.agg [.sc .str, .sc .str], .agg [.sc .str, .sc .str]], [], [.str, .str, .str, .str], ⟨[.bool], .sc .bool, []⟩,
  fun ((p, t, q, u) : Str × Str × Str × Str) => eqFile p t q u⟩

theorem eqFile.ev : ∀ d, evFn C0 (hnd (tab [])) Tryd.f17 .u eqFile.S d = eqFile.S.F d := fun _ => by kernel_rfl

theorem eqFile.sound : SoundS Tryd.prog C0 17 eqFile.S := sound_of_ev tyOk (tab_ok (l := []) trivial) Tryd.func17 (by kernel_rfl) (by kernel_rfl) (by kernel_rfl) eqFile.ev

def eqFileS.l0.step (again : ((List (Str × Str)) × (List (Str × Str)) × Int) → Option ((Unit) ⊕ (Bool))) : ((List (Str × Str)) × (List (Str × Str)) × Int) → Option ((Unit) ⊕ (Bool)) := fun (a, b, i) =>
 (bif (decide (i < (a.length : Int))) then (need (decide (0 ≤ i) && decide (i < a.length)) (need (decide (0 ≤ i) && decide (i < b.length)) ((eqFile ((a.getD i.toNat ([], [])).1) ((a.getD i.toNat ([], [])).2) ((b.getD i.toNat ([], [])).1) ((b.getD i.toNat ([], [])).2)).bind fun eqFile_ =>
 (bif (!eqFile_) then ((some false).map Sum.inr) else
 (again (a, b, (w64 (i + 1)))))))) else
 (some (.inl ())))
def eqFileS.l0 : Nat → ((List (Str × Str)) × (List (Str × Str)) × Int) → Option ((Unit) ⊕ (Bool)) := loopN (eqFileS.l0.step)
theorem eqFileS.l0.succ (n : Nat) (t : ((List (Str × Str)) × (List (Str × Str)) × Int)) : eqFileS.l0 (n + 1) t = eqFileS.l0.step (eqFileS.l0 n) t := rfl

def eqFileS (xs : List (Str × Str)) (ys : List (Str × Str)) : Option (Bool) :=
 (bif ((xs.length : Int) != (ys.length : Int)) then (some false) else
 ((eqFileS.l0 (((xs.length : Int) - (0 : Int)).toNat + 1) (xs, ys, 0)).bind fun r => match r with
 | .inl _ => (some true)
 | .inr r => some r))

def eqFileS.S : Spec := ⟨0, [.sc (.list [.str, .str]), .sc (.list [.str, .str])], [], [.list [.str, .str], .list [.str, .str]], ⟨[.bool], .sc .bool, []⟩,
  fun ((xs, ys) : (List (Str × Str)) × List (Str × Str)) => eqFileS xs ys⟩

theorem eqFileS.ev : ∀ d, evFn C0 (hnd (tab [(17, eqFile.S)])) Tryd.f9 (.seq .u (.seq .u (.seq (.seq .u (.blk (.loopS ⟨[.list [.str, .str], .list [.str, .str], .int .i64], [(0, .sc (.list [.str, .str])), (1, .sc (.list [.str, .str])), (5, .sc (.int .i64))], []⟩ (fun ((a, b, i) : (List (Str × Str)) × (List (Str × Str)) × Int) => ((a.length : Int) - i).toNat + 1) 0 ⟨[], [], []⟩ .u))) .u))) eqFileS.S d = eqFileS.S.F d := fun _ => by kernel_rfl

theorem eqFileS.sound : SoundS Tryd.prog C0 9 eqFileS.S := sound_of_ev tyOk (tab_ok (l := [(17, eqFile.S)]) ⟨eqFile.sound, trivial⟩) Tryd.func9 (by kernel_rfl) (by kernel_rfl) (by kernel_rfl) eqFileS.ev

def specNameOk.l0.step (again : (Int × Str × Int × List Str) → Option ((Int × Str × List Str) ⊕ ((List Str) ⊕ (Bool)))) : (Int × Str × Int × List Str) → Option ((Int × Str × List Str) ⊕ ((List Str) ⊕ (Bool))) := fun (i1, w, k, list1) =>
 (bif (decide (k < (w.length : Int))) then ((need (decide (0 ≤ k) && decide (k < w.length)) (bif (decide (((w.getD k.toNat 0).toNat : Int) ≥ 97)) then (need (decide (0 ≤ k) && decide (k < w.length)) (bif (decide (((w.getD k.toNat 0).toNat : Int) ≤ 122)) then (some (!true)) else
 (need (decide (0 ≤ k) && decide (k < w.length)) (bif (decide (((w.getD k.toNat 0).toNat : Int) ≥ 48)) then (need (decide (0 ≤ k) && decide (k < w.length)) (bif (decide (((w.getD k.toNat 0).toNat : Int) ≤ 57)) then (some (!true)) else
 (need (decide (0 ≤ k) && decide (k < w.length)) (bif (((w.getD k.toNat 0).toNat : Int) == 46) then (some (!true)) else
 (need (decide (0 ≤ k) && decide (k < w.length)) (bif (((w.getD k.toNat 0).toNat : Int) == 45) then (some (!true)) else
 (need (decide (0 ≤ k) && decide (k < w.length)) (some (!(((w.getD k.toNat 0).toNat : Int) == 95)))))))))) else
 (need (decide (0 ≤ k) && decide (k < w.length)) (bif (((w.getD k.toNat 0).toNat : Int) == 46) then (some (!true)) else
 (need (decide (0 ≤ k) && decide (k < w.length)) (bif (((w.getD k.toNat 0).toNat : Int) == 45) then (some (!true)) else
 (need (decide (0 ≤ k) && decide (k < w.length)) (some (!(((w.getD k.toNat 0).toNat : Int) == 95)))))))))))) else
 (need (decide (0 ≤ k) && decide (k < w.length)) (bif (decide (((w.getD k.toNat 0).toNat : Int) ≥ 48)) then (need (decide (0 ≤ k) && decide (k < w.length)) (bif (decide (((w.getD k.toNat 0).toNat : Int) ≤ 57)) then (some (!true)) else
 (need (decide (0 ≤ k) && decide (k < w.length)) (bif (((w.getD k.toNat 0).toNat : Int) == 46) then (some (!true)) else
 (need (decide (0 ≤ k) && decide (k < w.length)) (bif (((w.getD k.toNat 0).toNat : Int) == 45) then (some (!true)) else
 (need (decide (0 ≤ k) && decide (k < w.length)) (some (!(((w.getD k.toNat 0).toNat : Int) == 95)))))))))) else
 (need (decide (0 ≤ k) && decide (k < w.length)) (bif (((w.getD k.toNat 0).toNat : Int) == 46) then (some (!true)) else
 (need (decide (0 ≤ k) && decide (k < w.length)) (bif (((w.getD k.toNat 0).toNat : Int) == 45) then (some (!true)) else
 (need (decide (0 ≤ k) && decide (k < w.length)) (some (!(((w.getD k.toNat 0).toNat : Int) == 95)))))))))))).bind fun c =>
 (bif c then (((some false).map Sum.inr).map Sum.inr) else
 (again (i1, w, (w64 (k + 1)), list1)))) else
 (some (.inl (i1, w, list1))))
def specNameOk.l0 : Nat → (Int × Str × Int × List Str) → Option ((Int × Str × List Str) ⊕ ((List Str) ⊕ (Bool))) := loopN (specNameOk.l0.step)
theorem specNameOk.l0.succ (n : Nat) (t : (Int × Str × Int × List Str)) : specNameOk.l0 (n + 1) t = specNameOk.l0.step (specNameOk.l0 n) t := rfl

def specNameOk.l1.step (again : (Int × List Str) → Option ((List Str) ⊕ (Bool))) : (Int × List Str) → Option ((List Str) ⊕ (Bool)) := fun (i, list) =>
 (bif (decide (i < (list.length : Int))) then (need (decide (0 ≤ i) && decide (i < list.length)) ((specNameOk.l0 ((((list.getD i.toNat []).length : Int) - (0 : Int)).toNat + 1) (i, (list.getD i.toNat []), 0, list)).bind fun r => match r with
 | .inl (i2, w1, list2) => (((l1In (w1.length : Int) 1 10).bind fun l1In_ =>
 (bif (!l1In_) then (some true) else
 (bif (w1 == [46]) then (some true) else
 (some (w1 == [46, 46]))))).bind fun c1 =>
 (bif c1 then ((some false).map Sum.inr) else
 (again ((w64 (i2 + 1)), list2))))
 | .inr r => some r)) else
 (some (.inl list)))
def specNameOk.l1 : Nat → (Int × List Str) → Option ((List Str) ⊕ (Bool)) := loopN (specNameOk.l1.step)
theorem specNameOk.l1.succ (n : Nat) (t : (Int × List Str)) : specNameOk.l1 (n + 1) t = specNameOk.l1.step (specNameOk.l1 n) t := rfl

def specNameOk (s : Str) : Option (Bool) :=
 ((l1Cut s 47 (w64 ((s.length : Int) + 1))).bind fun l1Cut_ =>
 ((specNameOk.l1 (((l1Cut_.length : Int) - (0 : Int)).toNat + 1) (0, l1Cut_)).bind fun r => match r with
 | .inl list3 => (some (decide ((list3.length : Int) ≤ 4)))
 | .inr r => some r))

def specNameOk.S : Spec := ⟨0, [.sc .str], [], [.str], ⟨[.bool], .sc .bool, []⟩,
  fun (s : Str) => specNameOk s⟩

theorem specNameOk.ev : ∀ d, evFn C0 (hnd (tab [(20, l1Cut.S), (21, l1In.S)])) Tryd.f12 (.seq .u (.seq .u (.seq (.seq .u (.blk (.loopS ⟨[.int .i64, .list [.str]], [(3, .full 0), (4, .sc (.int .i64))], [.arr [.str]]⟩ (fun ((i, list) : Int × List Str) => ((list.length : Int) - i).toNat + 1) 0 ⟨[.list [.str]], [(3, .full 0)], [.arr [.str]]⟩ (.seq .u (.seq (.blk (.seq .u (.seq (.seq .u (.blk (.loopS ⟨[.int .i64, .str, .int .i64, .list [.str]], [(3, .full 0), (4, .sc (.int .i64)), (5, .sc .str), (6, .sc (.int .i64))], [.arr [.str]]⟩ (fun ((i1, w, k, list1) : Int × Str × Int × List Str) => ((w.length : Int) - k).toNat + 1) 2 ⟨[.int .i64, .str, .list [.str]], [(3, .full 0), (4, .sc (.int .i64)), (5, .sc .str)], [.arr [.str]]⟩ (.seq .u (.seq (.blk (.seq (.reg [.bool] [(68, .sc .bool)]) .u)) .u))))) (.seq (.reg [.bool] [(80, .sc .bool)]) .u)))) .u))))) .u))) specNameOk.S d = specNameOk.S.F d := fun _ => by kernel_rfl

theorem specNameOk.sound : SoundS Tryd.prog C0 12 specNameOk.S := sound_of_ev tyOk (tab_ok (l := [(20, l1Cut.S), (21, l1In.S)]) ⟨l1Cut.sound, l1In.sound, trivial⟩) Tryd.func12 (by kernel_rfl) (by kernel_rfl) (by kernel_rfl) specNameOk.ev

def l7Under (a : Str) (b : Str) : Option (Bool) :=
 ((bif (decide ((b.length : Int) > (a.length : Int))) then (need (decide (0 ≤ (a.length : Int)) && decide ((a.length : Int) ≤ b.length)) (bif ((b.take (a.length : Int).toNat) == a) then (need (decide (0 ≤ (a.length : Int)) && decide ((a.length : Int) < b.length)) (some (((b.getD (a.length : Int).toNat 0).toNat : Int) == 47))) else
 (some false))) else
 (some false)).bind fun c =>
 (some c))

def l7Under.S : Spec := ⟨0, [.sc .str, .sc .str], [], [.str, .str], ⟨[.bool], .sc .bool, []⟩,
  fun ((a, b) : Str × Str) => l7Under a b⟩

theorem l7Under.ev : ∀ d, evFn C0 (hnd (tab [])) Tryd.f13 (.seq .u (.seq (.reg [.bool] [(4, .sc .bool)]) .u)) l7Under.S d = l7Under.S.F d := fun _ => by kernel_rfl

theorem l7Under.sound : SoundS Tryd.prog C0 13 l7Under.S := sound_of_ev tyOk (tab_ok (l := []) trivial) Tryd.func13 (by kernel_rfl) (by kernel_rfl) (by kernel_rfl) l7Under.ev

def specTreeOk.l0.step (again : ((List (Str × Str)) × Int × Int) → Option (((List (Str × Str)) × Int) ⊕ ((List (Str × Str)) ⊕ (Bool)))) : ((List (Str × Str)) × Int × Int) → Option (((List (Str × Str)) × Int) ⊕ ((List (Str × Str)) ⊕ (Bool))) := fun (t1, i1, k) =>
 (bif (decide (k < (t1.length : Int))) then (need (decide (0 ≤ i1) && decide (i1 < t1.length)) (need (decide (0 ≤ k) && decide (k < t1.length)) ((l7Under ((t1.getD i1.toNat ([], [])).1) ((t1.getD k.toNat ([], [])).1)).bind fun l7Under_ =>
 (bif l7Under_ then (((some false).map Sum.inr).map Sum.inr) else
 (again (t1, i1, (w64 (k + 1)))))))) else
 (some (.inl (t1, i1))))
def specTreeOk.l0 : Nat → ((List (Str × Str)) × Int × Int) → Option (((List (Str × Str)) × Int) ⊕ ((List (Str × Str)) ⊕ (Bool))) := loopN (specTreeOk.l0.step)
theorem specTreeOk.l0.succ (n : Nat) (t : ((List (Str × Str)) × Int × Int)) : specTreeOk.l0 (n + 1) t = specTreeOk.l0.step (specTreeOk.l0 n) t := rfl

def specTreeOk.l1.step (again : ((List (Str × Str)) × Int) → Option ((List (Str × Str)) ⊕ (Bool))) : ((List (Str × Str)) × Int) → Option ((List (Str × Str)) ⊕ (Bool)) := fun (t, i) =>
 (bif (decide (i < (t.length : Int))) then ((need (decide (0 ≤ i) && decide (i < t.length)) ((specNameOk ((t.getD i.toNat ([], [])).1)).bind fun NameOk =>
 (bif (!NameOk) then (some true) else
 (need (decide (0 ≤ i) && decide (i < t.length)) (bif (decide ((((t.getD i.toNat ([], [])).2).length : Int) > 300)) then (some true) else
 (bif (decide (i > 0)) then (need (decide (0 ≤ (w64 (i - 1))) && decide ((w64 (i - 1)) < t.length)) (need (decide (0 ≤ i) && decide (i < t.length)) (some (!(Op.bytesLess ((t.getD (w64 (i - 1)).toNat ([], [])).1) ((t.getD i.toNat ([], [])).1)))))) else
 (some false))))))).bind fun c =>
 (bif c then ((some false).map Sum.inr) else
 ((specTreeOk.l0 (((t.length : Int) - (0 : Int)).toNat + 1) (t, i, 0)).bind fun r => match r with
 | .inl (t2, i2) => (again (t2, (w64 (i2 + 1))))
 | .inr r => some r))) else
 (some (.inl t)))
def specTreeOk.l1 : Nat → ((List (Str × Str)) × Int) → Option ((List (Str × Str)) ⊕ (Bool)) := loopN (specTreeOk.l1.step)
theorem specTreeOk.l1.succ (n : Nat) (t : ((List (Str × Str)) × Int)) : specTreeOk.l1 (n + 1) t = specTreeOk.l1.step (specTreeOk.l1 n) t := rfl

def specTreeOk (xs : List (Str × Str)) : Option (Bool) :=
 ((specTreeOk.l1 (((xs.length : Int) - (0 : Int)).toNat + 1) (xs, 0)).bind fun r => match r with
 | .inl t3 => (some (decide ((t3.length : Int) ≤ 8)))
 | .inr r => some r)

def specTreeOk.S : Spec := ⟨0, [.sc (.list [.str, .str])], [], [.list [.str, .str]], ⟨[.bool], .sc .bool, []⟩,
  fun (xs : List (Str × Str)) => specTreeOk xs⟩

theorem specTreeOk.ev : ∀ d, evFn C0 (hnd (tab [(12, specNameOk.S), (13, l7Under.S)])) Tryd.f6 (.seq .u (.seq (.seq .u (.blk (.loopS ⟨[.list [.str, .str], .int .i64], [(0, .sc (.list [.str, .str])), (3, .sc (.int .i64))], []⟩ (fun ((t, i) : (List (Str × Str)) × Int) => ((t.length : Int) - i).toNat + 1) 0 ⟨[.list [.str, .str]], [(0, .sc (.list [.str, .str]))], []⟩ (.seq .u (.seq (.blk (.seq (.seq (.reg [.bool] [(44, .sc .bool)]) .u) (.seq .u (.blk (.loopS ⟨[.list [.str, .str], .int .i64, .int .i64], [(0, .sc (.list [.str, .str])), (3, .sc (.int .i64)), (4, .sc (.int .i64))], []⟩ (fun ((t1, i1, k) : (List (Str × Str)) × Int × Int) => ((t1.length : Int) - k).toNat + 1) 2 ⟨[.list [.str, .str], .int .i64], [(0, .sc (.list [.str, .str])), (3, .sc (.int .i64))], []⟩ .u))))) .u))))) .u)) specTreeOk.S d = specTreeOk.S.F d := fun _ => by kernel_rfl

theorem specTreeOk.sound : SoundS Tryd.prog C0 6 specTreeOk.S := sound_of_ev tyOk (tab_ok (l := [(12, specNameOk.S), (13, l7Under.S)]) ⟨specNameOk.sound, l7Under.sound, trivial⟩) Tryd.func6 (by kernel_rfl) (by kernel_rfl) (by kernel_rfl) specTreeOk.ev

def hasPrefix0 (s : Str) (p : Str) : Option (Bool) :=
 ((bif (decide ((s.length : Int) ≥ (p.length : Int))) then (need (decide (0 ≤ (p.length : Int)) && decide ((p.length : Int) ≤ s.length)) (some ((s.take (p.length : Int).toNat) == p))) else
 (some false)).bind fun c =>
 (some c))

def hasPrefix0.S : Spec := ⟨0, [.sc .str, .sc .str], [], [.str, .str], ⟨[.bool], .sc .bool, []⟩,
  fun ((s, p) : Str × Str) => hasPrefix0 s p⟩

theorem hasPrefix0.ev : ∀ d, evFn C0 (hnd (tab [])) Tryd.f31 (.seq .u (.seq (.reg [.bool] [(4, .sc .bool)]) .u)) hasPrefix0.S d = hasPrefix0.S.F d := fun _ => by kernel_rfl

theorem hasPrefix0.sound : SoundS Tryd.prog C0 31 hasPrefix0.S := sound_of_ev tyOk (tab_ok (l := []) trivial) Tryd.func31 (by kernel_rfl) (by kernel_rfl) (by kernel_rfl) hasPrefix0.ev

def hasPrefix (s : Str) (p : Str) : Option (Bool) :=
 ((hasPrefix0 s p).bind fun HasPrefi =>
 (some HasPrefi))

def hasPrefix.S : Spec := ⟨0, [.sc .str, .sc .str], [], [.str, .str], ⟨[.bool], .sc .bool, []⟩,
  fun ((s, p) : Str × Str) => hasPrefix s p⟩

theorem hasPrefix.ev : ∀ d, evFn C0 (hnd (tab [(31, hasPrefix0.S)])) Tryd.f24 .u hasPrefix.S d = hasPrefix.S.F d := fun _ => by kernel_rfl

theorem hasPrefix.sound : SoundS Tryd.prog C0 24 hasPrefix.S := sound_of_ev tyOk (tab_ok (l := [(31, hasPrefix0.S)]) ⟨hasPrefix0.sound, trivial⟩) Tryd.func24 (by kernel_rfl) (by kernel_rfl) (by kernel_rfl) hasPrefix.ev

def indexByteString.S : Spec := indexByteSpec
def indexByteString (s : Str) (c : Int) : Option (Int) := some (idxB s c)
theorem indexByteString.sound : SoundS Tryd.prog C0 49 indexByteString.S := indexByte_sound Tryd.func49 (by kernel_rfl) (by kernel_rfl) (by kernel_rfl) (by kernel_rfl)

def countString.S : Spec := countByteSpec
def countString (s : Str) (c : Int) : Option (Int) := some (cntB s c)
theorem countString.sound : SoundS Tryd.prog C0 42 countString.S := countByte_sound Tryd.func42 (by kernel_rfl) (by kernel_rfl) (by kernel_rfl) (by kernel_rfl)

def indexByte0 (s : Str) (c : Int) : Option (Int) :=
 ((indexByteString s c).bind fun IndexByt =>
 (some IndexByt))

def indexByte0.S : Spec := ⟨0, [.sc .str, .sc (.int .u8)], [], [.str, .int .u8], ⟨[.int .i64], .sc (.int .i64), []⟩,
  fun ((s, c) : Str × Int) => indexByte0 s c⟩

theorem indexByte0.ev : ∀ d, evFn C0 (hnd (tab [(49, indexByteString.S)])) Tryd.f45 .u indexByte0.S d = indexByte0.S.F d := fun _ => by kernel_rfl

theorem indexByte0.sound : SoundS Tryd.prog C0 45 indexByte0.S := sound_of_ev tyOk (tab_ok (l := [(49, indexByteString.S)]) ⟨indexByteString.sound, trivial⟩) Tryd.func45 (by kernel_rfl) (by kernel_rfl) (by kernel_rfl) indexByte0.ev

def index0S (s : Str) : Option (Int) :=
 ((some (([47] : Str) == s)).bind fun c =>
 (bif c then (some 0) else
 ((indexByte0 s 47).bind fun IndexByt =>
 (some IndexByt))))

def index0S.S : Spec := ⟨0, [.sc .str, .cstr [47]], [], [.str], ⟨[.int .i64], .sc (.int .i64), []⟩,
  fun (s : Str) => index0S s⟩

theorem index0S.ev : ∀ d, evFn C0 (hnd (tab [(45, indexByte0.S)])) Tryd.f43 (.seq .u (.seq .u (.seq (.blk (.seq (.reg [.bool] [(16, .sc .bool)]) .u)) .u))) index0S.S d = index0S.S.F d := fun _ => by kernel_rfl

theorem index0S.sound : SoundS Tryd.prog C0 43 index0S.S := sound_of_ev tyOk (tab_ok (l := [(45, indexByte0.S)]) ⟨indexByte0.sound, trivial⟩) Tryd.func43 (by kernel_rfl) (by kernel_rfl) (by kernel_rfl) index0S.ev

def indexS (s : Str) : Option (Int) :=
 ((index0S s).bind fun Index =>
 (some Index))

def indexS.S : Spec := ⟨0, [.sc .str, .cstr [47]], [], [.str], ⟨[.int .i64], .sc (.int .i64), []⟩,
  fun (s : Str) => indexS s⟩

theorem indexS.ev : ∀ d, evFn C0 (hnd (tab [(43, index0S.S)])) Tryd.f39 .u indexS.S d = indexS.S.F d := fun _ => by kernel_rfl

theorem indexS.sound : SoundS Tryd.prog C0 39 indexS.S := sound_of_ev tyOk (tab_ok (l := [(43, index0S.S)]) ⟨index0S.sound, trivial⟩) Tryd.func39 (by kernel_rfl) (by kernel_rfl) (by kernel_rfl) indexS.ev

def countS (s : Str) : Option (Int) :=
 ((countString s 47).bind fun CountStr =>
 (some CountStr))

def countS.S : Spec := ⟨0, [.sc .str, .cstr [47]], [], [.str], ⟨[.int .i64], .sc (.int .i64), []⟩,
  fun (s : Str) => countS s⟩

theorem countS.ev : ∀ d, evFn C0 (hnd (tab [(42, countString.S)])) Tryd.f38 .u countS.S d = countS.S.F d := fun _ => by kernel_rfl

theorem countS.sound : SoundS Tryd.prog C0 38 countS.S := sound_of_ev tyOk (tab_ok (l := [(42, countString.S)]) ⟨countString.sound, trivial⟩) Tryd.func38 (by kernel_rfl) (by kernel_rfl) (by kernel_rfl) countS.ev

def genSplitS.l0.step (again : (Str × Int × Int × List Str) → Option (Str × Int × List Str)) : (Str × Int × Int × List Str) → Option (Str × Int × List Str) := fun (s2, n1, i, a) =>
 (bif (decide (i < n1)) then ((indexS s2).bind fun Index =>
 (bif (decide (Index < 0)) then (some (s2, i, a)) else
 (need (decide (0 ≤ (w64 (Index + 0))) && decide ((w64 (Index + 0)) ≤ s2.length)) (need (decide (0 ≤ i) && decide (i < a.length)) (need (decide (0 ≤ (w64 (Index + 1))) && decide ((w64 (Index + 1)) ≤ s2.length)) (again ((s2.drop (w64 (Index + 1)).toNat), n1, (w64 (i + 1)), (a.set i.toNat (s2.take (w64 (Index + 0)).toNat))))))))) else
 (some (s2, i, a)))
def genSplitS.l0 : Nat → (Str × Int × Int × List Str) → Option (Str × Int × List Str) := loopN (genSplitS.l0.step)
theorem genSplitS.l0.succ (n : Nat) (t : (Str × Int × Int × List Str)) : genSplitS.l0 (n + 1) t = genSplitS.l0.step (genSplitS.l0 n) t := rfl

def genSplitS (s : Str) : Option (List Str) :=
 (((countS s).bind fun Count =>
 (some (s, (w64 (Count + 1))))).bind fun (s1, n) =>
 (need (decide (0 ≤ (minA n (w64 ((s1.length : Int) + 1)))) && fits (minA n (w64 ((s1.length : Int) + 1))).toNat) ((genSplitS.l0 (((w64 ((minA n (w64 ((s1.length : Int) + 1))) - 1)) - (0 : Int)).toNat + 1) (s1, (w64 ((minA n (w64 ((s1.length : Int) + 1))) - 1)), 0, (List.replicate (minA n (w64 ((s1.length : Int) + 1))).toNat ([] : Str)))).bind fun (s3, i1, a1) =>
 (need (decide (0 ≤ i1) && decide (i1 < a1.length)) (need (decide (0 ≤ (w64 (i1 + 1))) && decide ((w64 (i1 + 1)) ≤ (a1.set i1.toNat s3).length)) (some (((a1.set i1.toNat s3).drop 0).take ((w64 (i1 + 1)).toNat))))))))

def genSplitS.S : Spec := ⟨0, [.sc .str, .cstr [47], .cint .i64 0, .cint .i64 (-1)], [], [.str], ⟨[.list [.str]], .sc (.list [.str]), []⟩,
  fun (s : Str) => genSplitS s⟩

theorem genSplitS.ev : ∀ d, evFn C0 (hnd (tab [(38, countS.S), (39, indexS.S)])) Tryd.f29 (.seq .u (.seq .u (.seq .u (.join ⟨[.str, .int .i64], [(0, .sc .str), (1, .cstr [47]), (2, .cint .i64 0), (3, .sc (.int .i64))], []⟩ .u (.seq .u (.seq .u (.seq .u (.seq .u (.seq (.blk (.loop ⟨[.str, .int .i64, .int .i64, .list [.str]], [(0, .sc .str), (1, .cstr [47]), (2, .cint .i64 0), (3, .sc (.int .i64)), (9, .full 0), (10, .sc (.int .i64))], [.arr [.str]]⟩ (fun ((s2, n1, i, a) : Str × Int × Int × List Str) => (n1 - i).toNat + 1) 0 ⟨[.str, .int .i64, .list [.str]], [(0, .sc .str), (9, .full 0), (10, .sc (.int .i64))], [.arr [.str]]⟩ .u)) .u))))))))) genSplitS.S d = genSplitS.S.F d := fun _ => by kernel_rfl

theorem genSplitS.sound : SoundS Tryd.prog C0 29 genSplitS.S := sound_of_ev tyOk (tab_ok (l := [(38, countS.S), (39, indexS.S)]) ⟨countS.sound, indexS.sound, trivial⟩) Tryd.func29 (by kernel_rfl) (by kernel_rfl) (by kernel_rfl) genSplitS.ev

def splitS (s : Str) : Option (List Str) :=
 ((genSplitS s).bind fun genSplit =>
 (some genSplit))

def splitS.S : Spec := ⟨0, [.sc .str, .cstr [47]], [], [.str], ⟨[.list [.str]], .sc (.list [.str]), []⟩,
  fun (s : Str) => splitS s⟩

theorem splitS.ev : ∀ d, evFn C0 (hnd (tab [(29, genSplitS.S)])) Tryd.f22 .u splitS.S d = splitS.S.F d := fun _ => by kernel_rfl

theorem splitS.sound : SoundS Tryd.prog C0 22 splitS.S := sound_of_ev tyOk (tab_ok (l := [(29, genSplitS.S)]) ⟨genSplitS.sound, trivial⟩) Tryd.func22 (by kernel_rfl) (by kernel_rfl) (by kernel_rfl) splitS.ev

def implNameOk.l0.step (again : (List Str × List Str × Int × Int) → Option ((List Str) ⊕ (Bool))) : (List Str × List Str × Int × Int) → Option ((List Str) ⊕ (Bool)) := fun (parts, t, t1, t2) =>
 (bif (decide (t2 < t1)) then (need (decide (0 ≤ t2) && decide (t2 < t.length)) ((partOk (t.getD t2.toNat [])).bind fun partOk_ =>
 (bif (!partOk_) then ((some false).map Sum.inr) else
 (again (parts, t, t1, (w64 (t2 + 1))))))) else
 (some (.inl parts)))
def implNameOk.l0 : Nat → (List Str × List Str × Int × Int) → Option ((List Str) ⊕ (Bool)) := loopN (implNameOk.l0.step)
theorem implNameOk.l0.succ (n : Nat) (t : (List Str × List Str × Int × Int)) : implNameOk.l0 (n + 1) t = implNameOk.l0.step (implNameOk.l0 n) t := rfl

def implNameOk (s : Str) : Option (Bool) :=
 ((splitS s).bind fun Split =>
 ((implNameOk.l0 (((Split.length : Int) - (0 : Int)).toNat + 1) (Split, Split, (Split.length : Int), 0)).bind fun r => match r with
 | .inl parts1 => (some (decide ((parts1.length : Int) ≤ 4)))
 | .inr r => some r))

def implNameOk.S : Spec := ⟨0, [.sc .str], [], [.str], ⟨[.bool], .sc .bool, []⟩,
  fun (s : Str) => implNameOk s⟩

theorem implNameOk.ev : ∀ d, evFn C0 (hnd (tab [(22, splitS.S), (23, partOk.S)])) Tryd.f15 (.seq .u (.seq .u (.seq (.seq .u (.blk (.loopS ⟨[.list [.str], .list [.str], .int .i64, .int .i64], [(3, .sc (.list [.str])), (8, .sc (.list [.str])), (9, .sc (.int .i64)), (10, .sc (.int .i64))], []⟩ (fun ((parts, t, t1, t2) : List Str × List Str × Int × Int) => (t1 - t2).toNat + 1) 0 ⟨[.list [.str]], [(3, .sc (.list [.str]))], []⟩ .u))) .u))) implNameOk.S d = implNameOk.S.F d := fun _ => by kernel_rfl

theorem implNameOk.sound : SoundS Tryd.prog C0 15 implNameOk.S := sound_of_ev tyOk (tab_ok (l := [(22, splitS.S), (23, partOk.S)]) ⟨splitS.sound, partOk.sound, trivial⟩) Tryd.func15 (by kernel_rfl) (by kernel_rfl) (by kernel_rfl) implNameOk.ev

def apart.l0.step (again : (List Str × Str × List Str × Int × Int × List Str × Int × Int) → Option ((List Str × List Str × Int × Int) ⊕ ((Unit) ⊕ (Bool)))) : (List Str × Str × List Str × Int × Int × List Str × Int × Int) → Option ((List Str × List Str × Int × Int) ⊕ ((Unit) ⊕ (Bool))) := fun (names1, a, t3, t4, t5, t6, t7, t8) =>
 (bif (decide (t8 < t7)) then (need (decide (0 ≤ t8) && decide (t8 < t6.length)) ((bif (a == (t6.getD t8.toNat [])) then (some true) else
 (need (fits ((t6.getD t8.toNat []).length + ([47] : Str).length)) ((hasPrefix a ((t6.getD t8.toNat []) ++ [47])).bind fun HasPrefi =>
 (bif HasPrefi then (some true) else
 (need (fits (a.length + ([47] : Str).length)) ((hasPrefix (t6.getD t8.toNat []) (a ++ [47])).bind fun HasPrefi1 =>
 (some HasPrefi1))))))).bind fun c =>
 (bif c then (((some false).map Sum.inr).map Sum.inr) else
 (again (names1, a, t3, t4, t5, t6, t7, (w64 (t8 + 1))))))) else
 (some (.inl (names1, t3, t4, t5))))
def apart.l0 : Nat → (List Str × Str × List Str × Int × Int × List Str × Int × Int) → Option ((List Str × List Str × Int × Int) ⊕ ((Unit) ⊕ (Bool))) := loopN (apart.l0.step)
theorem apart.l0.succ (n : Nat) (t : (List Str × Str × List Str × Int × Int × List Str × Int × Int)) : apart.l0 (n + 1) t = apart.l0.step (apart.l0 n) t := rfl

def apart.l1.step (again : (List Str × List Str × Int × Int) → Option ((Unit) ⊕ (Bool))) : (List Str × List Str × Int × Int) → Option ((Unit) ⊕ (Bool)) := fun (names, t, t1, t2) =>
 (bif (decide (t2 < t1)) then (need (decide (0 ≤ t2) && decide (t2 < t.length)) (need (decide (0 ≤ t2) && decide (t2 ≤ names.length)) ((apart.l0 ((((names.take t2.toNat).length : Int) - (0 : Int)).toNat + 1) (names, (t.getD t2.toNat []), t, t1, t2, (names.take t2.toNat), ((names.take t2.toNat).length : Int), 0)).bind fun r => match r with
 | .inl (names2, t9, t10, t11) => (again (names2, t9, t10, (w64 (t11 + 1))))
 | .inr r => some r))) else
 (some (.inl ())))
def apart.l1 : Nat → (List Str × List Str × Int × Int) → Option ((Unit) ⊕ (Bool)) := loopN (apart.l1.step)
theorem apart.l1.succ (n : Nat) (t : (List Str × List Str × Int × Int)) : apart.l1 (n + 1) t = apart.l1.step (apart.l1 n) t := rfl

def apart (xs : List Str) : Option (Bool) :=
 ((apart.l1 (((xs.length : Int) - (0 : Int)).toNat + 1) (xs, xs, (xs.length : Int), 0)).bind fun r => match r with
 | .inl _ => (some true)
 | .inr r => some r)

def apart.S : Spec := ⟨0, [.sc (.list [.str])], [], [.list [.str]], ⟨[.bool], .sc .bool, []⟩,
  fun (xs : List Str) => apart xs⟩

theorem apart.ev : ∀ d, evFn C0 (hnd (tab [(24, hasPrefix.S)])) Tryd.f16 (.seq .u (.seq (.seq .u (.blk (.loopS ⟨[.list [.str], .list [.str], .int .i64, .int .i64], [(0, .sc (.list [.str])), (7, .sc (.list [.str])), (8, .sc (.int .i64)), (9, .sc (.int .i64))], []⟩ (fun ((names, t, t1, t2) : List Str × List Str × Int × Int) => (t1 - t2).toNat + 1) 0 ⟨[], [], []⟩ (.seq .u (.seq .u (.seq (.blk (.seq .u (.seq .u (.blk (.loopS ⟨[.list [.str], .str, .list [.str], .int .i64, .int .i64, .list [.str], .int .i64, .int .i64], [(0, .sc (.list [.str])), (4, .sc .str), (7, .sc (.list [.str])), (8, .sc (.int .i64)), (9, .sc (.int .i64)), (16, .sc (.list [.str])), (17, .sc (.int .i64)), (18, .sc (.int .i64))], []⟩ (fun ((names1, a, t3, t4, t5, t6, t7, t8) : List Str × Str × List Str × Int × Int × List Str × Int × Int) => (t7 - t8).toNat + 1) 2 ⟨[.list [.str], .list [.str], .int .i64, .int .i64], [(0, .sc (.list [.str])), (7, .sc (.list [.str])), (8, .sc (.int .i64)), (9, .sc (.int .i64))], []⟩ (.seq .u (.seq .u (.seq (.blk (.seq .u (.seq (.reg [.bool] [(36, .sc .bool)]) .u))) .u)))))))) .u)))))) .u)) apart.S d = apart.S.F d := fun _ => by kernel_rfl

theorem apart.sound : SoundS Tryd.prog C0 16 apart.S := sound_of_ev tyOk (tab_ok (l := [(24, hasPrefix.S)]) ⟨hasPrefix.sound, trivial⟩) Tryd.func16 (by kernel_rfl) (by kernel_rfl) (by kernel_rfl) apart.ev

def implTreeOk.l0.step (again : ((List (Str × Str)) × (List (Str × Str)) × Int × Int × List Str) → Option (((List (Str × Str)) × List Str) ⊕ (Bool))) : ((List (Str × Str)) × (List (Str × Str)) × Int × Int × List Str) → Option (((List (Str × Str)) × List Str) ⊕ (Bool)) := fun (t, t1, t2, t3, paths) =>
 (bif (decide (t3 < t2)) then (need (decide (0 ≤ t3) && decide (t3 < t1.length)) (((implNameOk ((t1.getD t3.toNat ([], [])).1)).bind fun NameOk =>
 (bif (!NameOk) then (some true) else
 (bif (decide ((((t1.getD t3.toNat ([], [])).2).length : Int) > 300)) then (some true) else
 (bif (decide (t3 > 0)) then (need (decide (0 ≤ (w64 (t3 - 1))) && decide ((w64 (t3 - 1)) < t.length)) (some (!(Op.bytesLess ((t.getD (w64 (t3 - 1)).toNat ([], [])).1) ((t1.getD t3.toNat ([], [])).1))))) else
 (some false))))).bind fun c =>
 (bif c then ((some false).map Sum.inr) else
 (need (fits (paths.length + ([(t1.getD t3.toNat ([], [])).1] : List (Str)).length)) (again (t, t1, t2, (w64 (t3 + 1)), (paths ++ [(t1.getD t3.toNat ([], [])).1]))))))) else
 (some (.inl (t, paths))))
def implTreeOk.l0 : Nat → ((List (Str × Str)) × (List (Str × Str)) × Int × Int × List Str) → Option (((List (Str × Str)) × List Str) ⊕ (Bool)) := loopN (implTreeOk.l0.step)
theorem implTreeOk.l0.succ (n : Nat) (t : ((List (Str × Str)) × (List (Str × Str)) × Int × Int × List Str)) : implTreeOk.l0 (n + 1) t = implTreeOk.l0.step (implTreeOk.l0 n) t := rfl

def implTreeOk (xs : List (Str × Str)) : Option (Bool) :=
 ((implTreeOk.l0 (((xs.length : Int) - (0 : Int)).toNat + 1) (xs, xs, (xs.length : Int), 0, [])).bind fun r => match r with
 | .inl (t4, paths1) => ((bif (decide ((t4.length : Int) ≤ 8)) then ((apart paths1).bind fun apart_ =>
 (some apart_)) else
 (some false)).bind fun c1 =>
 (some c1))
 | .inr r => some r)

def implTreeOk.S : Spec := ⟨0, [.sc (.list [.str, .str])], [], [.list [.str, .str]], ⟨[.bool], .sc .bool, []⟩,
  fun (xs : List (Str × Str)) => implTreeOk xs⟩

theorem implTreeOk.ev : ∀ d, evFn C0 (hnd (tab [(15, implNameOk.S), (16, apart.S)])) Tryd.f8 (.seq .u (.seq .u (.seq (.seq .u (.blk (.loopS ⟨[.list [.str, .str], .list [.str, .str], .int .i64, .int .i64, .list [.str]], [(0, .sc (.list [.str, .str])), (3, .full 0), (7, .sc (.list [.str, .str])), (8, .sc (.int .i64)), (9, .sc (.int .i64))], [.arr [.str]]⟩ (fun ((t, t1, t2, t3, paths) : (List (Str × Str)) × (List (Str × Str)) × Int × Int × List Str) => (t2 - t3).toNat + 1) 0 ⟨[.list [.str, .str], .list [.str]], [(0, .sc (.list [.str, .str])), (3, .full 0)], [.arr [.str]]⟩ (.seq .u (.seq .u (.seq (.blk (.seq .u (.seq (.seq (.reg [.bool] [(38, .sc .bool)]) .u) .u))) .u)))))) (.seq (.reg [.bool] [(2, .sc .bool)]) .u)))) implTreeOk.S d = implTreeOk.S.F d := fun _ => by kernel_rfl

theorem implTreeOk.sound : SoundS Tryd.prog C0 8 implTreeOk.S := sound_of_ev tyOk (tab_ok (l := [(15, implNameOk.S), (16, apart.S)]) ⟨implNameOk.sound, apart.sound, trivial⟩) Tryd.func8 (by kernel_rfl) (by kernel_rfl) (by kernel_rfl) implTreeOk.ev

def FnExactTreeOk (xs : List (Str × Str)) : Option (Bool) :=
 ((szFileS xs 1048576).bind fun szFileS_ =>
 (bif (decide (szFileS_ < 0)) then (some true) else
 ((toFileS xs).bind fun toFileS_ =>
 ((specTreeOk toFileS_).bind fun TreeOk =>
 ((toFileS xs).bind fun toFileS_1 =>
 ((implTreeOk toFileS_1).bind fun TreeOk1 =>
 (bif (!(TreeOk1 == TreeOk)) then (some false) else
 ((toFileS xs).bind fun toFileS_2 =>
 ((eqFileS toFileS_1 toFileS_2).bind fun eqFileS_ =>
 (bif (!eqFileS_) then (some false) else
 (some true)))))))))))

def FnExactTreeOk.S : Spec := ⟨0, [.sc (.list [.str, .str])], [], [.list [.str, .str]], ⟨[.bool], .sc .bool, []⟩,
  fun (xs : List (Str × Str)) => FnExactTreeOk xs⟩

theorem FnExactTreeOk.ev : ∀ d, evFn C0 (hnd (tab [(5, szFileS.S), (6, specTreeOk.S), (7, toFileS.S), (8, implTreeOk.S), (9, eqFileS.S)])) Tryd.f3 .u FnExactTreeOk.S d = FnExactTreeOk.S.F d := fun _ => by kernel_rfl

theorem FnExactTreeOk.sound : SoundS Tryd.prog C0 3 FnExactTreeOk.S := sound_of_ev tyOk (tab_ok (l := [(5, szFileS.S), (6, specTreeOk.S), (7, toFileS.S), (8, implTreeOk.S), (9, eqFileS.S)]) ⟨szFileS.sound, specTreeOk.sound, toFileS.sound, implTreeOk.sound, eqFileS.sound, trivial⟩) Tryd.func3 (by kernel_rfl) (by kernel_rfl) (by kernel_rfl) FnExactTreeOk.ev

end Ev
