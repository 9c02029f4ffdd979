/- That the evaluator says of each function what it computes, and so that the program does. Conditions: none. -/
import Derived.Test.YtnllgghlojppfaaGreatDoorProg
import Derived.KernelRfl
import Derived.Test.YtnllgghlojppfaaGreatDoorDGP0
section
open Go Go.Proofs
set_option maxRecDepth 100000
namespace Ev
def tyTab : List (Nat × TI) := [
  (2, ⟨.int .i64, 1, 8, [.int .i64 0], some [.int .i64]⟩),
  (3, ⟨.int .i64, 1, 8, [.int .i64 0], some [.int .i64]⟩),
  (4, ⟨.bool, 1, 1, [.bool false], some [.bool]⟩),
  (5, ⟨.int .u8, 1, 1, [.int .u8 0], some [.int .u8]⟩),
  (6, ⟨.int .u8, 1, 1, [.int .u8 0], some [.int .u8]⟩),
  (7, ⟨.struct [(0, 1, false), (1, 1, false), (2, 1, false), (3, 1, false)], 4, 24, [.int .i64 0, .int .i64 0, .bool false, .int .u8 0], some [.int .i64, .int .i64, .bool, .int .u8]⟩),
  (8, ⟨.struct [(0, 1, false), (1, 1, false), (2, 1, false), (3, 1, false)], 4, 24, [.int .i64 0, .int .i64 0, .bool false, .int .u8 0], some [.int .i64, .int .i64, .bool, .int .u8]⟩),
  (9, ⟨.str, 1, 16, [.str []], some [.str]⟩),
  (10, ⟨.str, 1, 16, [.str []], some [.str]⟩),
  (11, ⟨.str, 1, 16, [.str []], some [.str]⟩),
  (12, ⟨.int .u64, 1, 8, [.int .u64 0], some [.int .u64]⟩),
  (13, ⟨.struct [(0, 1, false), (1, 1, false)], 2, 24, [.str [], .int .u64 0], some [.str, .int .u64]⟩),
  (14, ⟨.struct [(0, 1, false), (1, 1, false)], 2, 24, [.str [], .int .u64 0], some [.str, .int .u64]⟩),
  (15, ⟨.ptr 259, 1, 8, [.nilp], none⟩),
  (16, ⟨.ptr 262, 1, 8, [.nilp], none⟩),
  (17, ⟨.ptr 269, 1, 8, [.nilp], none⟩),
  (18, ⟨.struct [(0, 1, false)], 1, 8, [.nilp], none⟩),
  (19, ⟨.struct [(0, 1, false)], 1, 8, [.nilp], none⟩),
  (21, ⟨.int .i32, 1, 4, [.int .i32 0], some [.int .i32]⟩),
  (22, ⟨.slice 5, 1, 24, [.nilsl], some [.ints .u8]⟩),
  (23, ⟨.struct [(0, 1, false), (1, 1, false), (2, 1, false), (3, 1, false), (4, 1, false), (5, 1, false)], 6, 48, [.int .i64 0, .int .i64 0, .int .i64 0, .int .i64 0, .int .i64 0, .int .i64 0], some [.int .i64, .int .i64, .int .i64, .int .i64, .int .i64, .int .i64]⟩),
  (24, ⟨.struct [(0, 1, false), (1, 1, false), (2, 1, false), (3, 1, false), (4, 1, false), (5, 1, false)], 6, 48, [.int .i64 0, .int .i64 0, .int .i64 0, .int .i64 0, .int .i64 0, .int .i64 0], some [.int .i64, .int .i64, .int .i64, .int .i64, .int .i64, .int .i64]⟩),
  (25, ⟨.struct [(0, 1, false), (1, 6, true), (7, 1, false)], 8, 80, [.str [], .int .i64 0, .int .i64 0, .int .i64 0, .int .i64 0, .int .i64 0, .int .i64 0, .str []], some [.str, .int .i64, .int .i64, .int .i64, .int .i64, .int .i64, .int .i64, .str]⟩),
  (26, ⟨.struct [(0, 1, false), (1, 6, true), (7, 1, false)], 8, 80, [.str [], .int .i64 0, .int .i64 0, .int .i64 0, .int .i64 0, .int .i64 0, .int .i64 0, .str []], some [.str, .int .i64, .int .i64, .int .i64, .int .i64, .int .i64, .int .i64, .str]⟩),
  (34, ⟨.struct [(0, 1, false), (1, 1, false)], 2, 32, [.str [], .str []], some [.str, .str]⟩),
  (35, ⟨.struct [(0, 1, false), (1, 1, false)], 2, 32, [.str [], .str []], some [.str, .str]⟩),
  (37, ⟨.struct [(0, 1, false), (1, 1, false)], 2, 32, [.str [], .str []], some [.str, .str]⟩),
  (42, ⟨.slice 9, 1, 24, [.nilsl], none⟩),
  (49, ⟨.slice 54, 1, 24, [.nilsl], none⟩),
  (53, ⟨.struct [(0, 1, false), (1, 1, false)], 2, 32, [.str [], .str []], some [.str, .str]⟩),
  (54, ⟨.struct [(0, 1, false), (1, 1, false)], 2, 32, [.str [], .str []], some [.str, .str]⟩),
  (55, ⟨.slice 26, 1, 24, [.nilsl], none⟩),
  (65, ⟨.ptr 110, 1, 8, [.nilp], none⟩),
  (80, ⟨.ptr 82, 1, 8, [.nilp], none⟩),
  (81, ⟨.struct [(0, 1, false), (1, 1, false)], 2, 32, [.nilp, .nilsl], none⟩),
  (82, ⟨.struct [(0, 1, false), (1, 1, false)], 2, 32, [.nilp, .nilsl], none⟩),
  (88, ⟨.ptr 9, 1, 8, [.nilp], none⟩),
  (109, ⟨.struct [(0, 1, false), (1, 1, false)], 2, 32, [.nilsl, .int .i64 0], some [.ints .u8, .int .i64]⟩),
  (110, ⟨.struct [(0, 1, false), (1, 1, false)], 2, 32, [.nilsl, .int .i64 0], some [.ints .u8, .int .i64]⟩),
  (115, ⟨.int .u64, 1, 8, [.int .u64 0], some [.int .u64]⟩),
  (116, ⟨.ptr 118, 1, 8, [.nilp], none⟩),
  (117, ⟨.struct [(0, 1, false), (1, 1, false), (2, 1, false)], 3, 32, [.str [], .int .i64 0, .bool false], some [.str, .int .i64, .bool]⟩),
  (118, ⟨.struct [(0, 1, false), (1, 1, false), (2, 1, false)], 3, 32, [.str [], .int .i64 0, .bool false], some [.str, .int .i64, .bool]⟩),
  (121, ⟨.slice 3, 1, 24, [.nilsl], some [.ints .i64]⟩),
  (134, ⟨.ptr 5, 1, 8, [.nilp], none⟩),
  (146, ⟨.ptr 148, 1, 8, [.nilp], none⟩),
  (147, ⟨.struct [(0, 1, false), (1, 1, false)], 2, 32, [.nilsl, .int .i64 0], some [.ints .u8, .int .i64]⟩),
  (148, ⟨.struct [(0, 1, false), (1, 1, false)], 2, 32, [.nilsl, .int .i64 0], some [.ints .u8, .int .i64]⟩),
  (151, ⟨.slice 154, 1, 24, [.nilsl], none⟩),
  (153, ⟨.struct [(0, 1, false), (1, 1, false), (2, 1, false)], 3, 24, [.int .i64 0, .int .i64 0, .int .i64 0], some [.int .i64, .int .i64, .int .i64]⟩),
  (154, ⟨.struct [(0, 1, false), (1, 1, false), (2, 1, false)], 3, 24, [.int .i64 0, .int .i64 0, .int .i64 0], some [.int .i64, .int .i64, .int .i64]⟩),
  (155, ⟨.struct [(0, 1, false), (1, 1, false)], 2, 48, [.nilsl, .nilsl], some [.ints .i64, .ints .i64]⟩),
  (156, ⟨.struct [(0, 1, false), (1, 1, false)], 2, 48, [.nilsl, .nilsl], some [.ints .i64, .ints .i64]⟩),
  (161, ⟨.int .u32, 1, 4, [.int .u32 0], some [.int .u32]⟩),
  (164, ⟨.map 199 3, 1, 8, [.undef], none⟩),
  (165, ⟨.map 199 3, 1, 8, [.undef], none⟩),
  (188, ⟨.int .i64, 1, 8, [.int .i64 0], some [.int .i64]⟩),
  (196, ⟨.int .u64, 1, 8, [.int .u64 0], some [.int .u64]⟩),
  (198, ⟨.struct [(0, 1, false), (1, 1, false)], 2, 16, [.int .i64 0, .int .i64 0], some [.int .i64, .int .i64]⟩),
  (199, ⟨.struct [(0, 1, false), (1, 1, false)], 2, 16, [.int .i64 0, .int .i64 0], some [.int .i64, .int .i64]⟩),
  (207, ⟨.ptr 209, 1, 8, [.nilp], none⟩),
  (208, ⟨.struct [(0, 1, false), (1, 1, false), (2, 1, false)], 3, 40, [.nilsl, .int .i64 0, .int .i64 0], some [.ints .u8, .int .i64, .int .i64]⟩),
  (209, ⟨.struct [(0, 1, false), (1, 1, false), (2, 1, false)], 3, 40, [.nilsl, .int .i64 0, .int .i64 0], some [.ints .u8, .int .i64, .int .i64]⟩),
  (215, ⟨.int .u64, 1, 8, [.int .u64 0], some [.int .u64]⟩),
  (219, ⟨.ptr 3, 1, 8, [.nilp], none⟩),
  (221, ⟨.slice 223, 1, 24, [.nilsl], none⟩),
  (222, ⟨.struct [(0, 1, false), (1, 1, false)], 2, 32, [.int .i64 0, .nilsl], some [.int .i64, .ints .i64]⟩),
  (223, ⟨.struct [(0, 1, false), (1, 1, false)], 2, 32, [.int .i64 0, .nilsl], some [.int .i64, .ints .i64]⟩),
  (236, ⟨.ptr 215, 1, 8, [.nilp], none⟩),
  (239, ⟨.ptr 241, 1, 8, [.nilp], none⟩),
  (240, ⟨.struct [(0, 1, false), (1, 1, false), (2, 1, false)], 3, 32, [.str [], .int .i64 0, .bool false], some [.str, .int .i64, .bool]⟩),
  (241, ⟨.struct [(0, 1, false), (1, 1, false), (2, 1, false)], 3, 32, [.str [], .int .i64 0, .bool false], some [.str, .int .i64, .bool]⟩),
  (245, ⟨.slice 247, 1, 24, [.nilsl], none⟩),
  (246, ⟨.struct [(0, 1, false), (1, 1, false), (2, 1, false)], 3, 40, [.int .i64 0, .int .i64 0, .nilsl], some [.int .i64, .int .i64, .ints .i64]⟩),
  (247, ⟨.struct [(0, 1, false), (1, 1, false), (2, 1, false)], 3, 40, [.int .i64 0, .int .i64 0, .nilsl], some [.int .i64, .int .i64, .ints .i64]⟩),
  (251, ⟨.struct [(0, 1, false), (1, 1, false)], 2, 2, [.int .u8 0, .int .u8 0], some [.int .u8, .int .u8]⟩),
  (252, ⟨.struct [(0, 1, false), (1, 1, false)], 2, 2, [.int .u8 0, .int .u8 0], some [.int .u8, .int .u8]⟩),
  (258, ⟨.struct [(0, 1, false), (1, 1, false), (2, 1, false), (3, 1, false)], 4, 40, [.nilp, .nilp, .nilp, .str []], none⟩),
  (259, ⟨.struct [(0, 1, false), (1, 1, false), (2, 1, false), (3, 1, false)], 4, 40, [.nilp, .nilp, .nilp, .str []], none⟩),
  (263, ⟨.int .u8, 1, 1, [.int .u8 0], some [.int .u8]⟩),
  (264, ⟨.int .u8, 1, 1, [.int .u8 0], some [.int .u8]⟩),
  (266, ⟨.int .i32, 1, 4, [.int .i32 0], some [.int .i32]⟩),
  (267, ⟨.int .i32, 1, 4, [.int .i32 0], some [.int .i32]⟩),
  (268, ⟨.struct [(0, 1, false), (1, 1, false), (2, 1, false), (3, 1, false), (4, 1, false), (5, 1, false), (6, 1, false), (7, 1, false), (8, 1, false), (9, 1, false), (10, 1, false)], 11, 48, [.int .u64 0, .int .u64 0, .int .u32 0, .int .u8 0, .int .u8 0, .int .u8 0, .int .u8 0, .undef, .nilp, .int .i32 0, .int .i32 0], none⟩),
  (269, ⟨.struct [(0, 1, false), (1, 1, false), (2, 1, false), (3, 1, false), (4, 1, false), (5, 1, false), (6, 1, false), (7, 1, false), (8, 1, false), (9, 1, false), (10, 1, false)], 11, 48, [.int .u64 0, .int .u64 0, .int .u32 0, .int .u8 0, .int .u8 0, .int .u8 0, .int .u8 0, .undef, .nilp, .int .i32 0, .int .i32 0], none⟩)]
theorem tyTab_ok : tisC Tryz.prog tyTab = true := by kernel_rfl
theorem nm : Tryz.prog.follows .mixedOrders = true := by kernel_rfl
def eqTab : List (Nat × FT) := [(26, [.str, .int .i64, .int .i64, .int .i64, .int .i64, .int .i64, .int .i64, .str]), (54, [.str, .str]), (199, [.int .i64, .int .i64])]
theorem eqTab_ok : eqsC Tryz.prog eqTab = true := by kernel_rfl
theorem onesTab_ok : onesC Tryz.prog tyTab = true := by kernel_rfl
def globs : List (Nat × List AV) := [(3, [.ro [.int .i64] [16, 17, 18, 0, 8, 7, 9, 6, 10, 5, 11, 4, 12, 3, 13, 2, 14, 1, 15]]), (5, [.int .u64 1, .int .u64 10, .int .u64 100, .int .u64 1000, .int .u64 10000, .int .u64 100000, .int .u64 1000000, .int .u64 10000000, .int .u64 100000000, .int .u64 1000000000, .int .u64 10000000000, .int .u64 100000000000, .int .u64 1000000000000, .int .u64 10000000000000, .int .u64 100000000000000, .int .u64 1000000000000000, .int .u64 10000000000000000, .int .u64 100000000000000000, .int .u64 1000000000000000000, .int .u64 10000000000000000000])]
def C0 : Ctx := ⟨tyOf tyTab, globOf globs, eqOf eqTab⟩
theorem tyOk : TyOk Tryz.prog C0 := tyOk_of rfl tyTab_ok nm rfl eqTab_ok onesTab_ok
end Ev
end
section
open Go Go.Proofs
set_option maxRecDepth 100000
namespace Ev
set_option maxHeartbeats 1000000
set_option linter.unusedVariables false
def within.S : Spec := ⟨0, [.sc (.int .i64), .sc (.int .i64), .sc (.int .i64)], [], [.int .i64, .int .i64, .int .i64], ⟨[.bool], .sc .bool, []⟩,
  fun ((n, low, high) : Int × Int × Int) => within n low high⟩
theorem within.ev : ∀ d, evFn C0 (hnd (tab [])) Tryz.f109 (.seq .u (.seq (.reg [.bool] [(6, .sc .bool)]) .u)) within.S d = within.S.F d := fun _ => by kernel_rfl
theorem within.sound : SoundS Tryz.prog C0 109 within.S := sound_of_ev tyOk (tab_ok (l := []) trivial) Tryz.func109 (by kernel_rfl) (by kernel_rfl) (by kernel_rfl) within.ev
def partOk.S : Spec := ⟨0, [.sc .str], [], [.str], ⟨[.bool], .sc .bool, []⟩,
  fun (s : Str) => partOk s⟩
theorem partOk.ev : ∀ d, evFn C0 (hnd (tab [(109, within.S)])) Tryz.f108 (.seq .u (.seq (.seq .u (.blk (.loopS ⟨[.str, .int .i64, .int .i64], [(0, .sc .str), (6, .sc (.int .i64)), (7, .sc (.int .i64))], []⟩ (fun ((s1, t, t1) : Str × Int × Int) => (t - t1).toNat + 1) 0 ⟨[.str], [(0, .sc .str)], []⟩ (.seq .u (.seq .u (.seq (.blk (.seq .u (.seq .u (.seq (.reg [.bool] [(38, .sc .bool)]) .u)))) .u)))))) (.seq (.reg [.bool] [(2, .sc .bool)]) .u))) partOk.S d = partOk.S.F d := fun _ => by kernel_rfl
theorem partOk.sound : SoundS Tryz.prog C0 108 partOk.S := sound_of_ev tyOk (tab_ok (l := [(109, within.S)]) ⟨within.sound, trivial⟩) Tryz.func108 (by kernel_rfl) (by kernel_rfl) (by kernel_rfl) partOk.ev
def l1In.S : Spec := ⟨0, [.sc (.int .i64), .sc (.int .i64), .sc (.int .i64)], [], [.int .i64, .int .i64, .int .i64], ⟨[.bool], .sc .bool, []⟩,
  fun ((n, low, high) : Int × Int × Int) => l1In n low high⟩
theorem l1In.ev : ∀ d, evFn C0 (hnd (tab [])) Tryz.f111 (.seq .u (.seq (.reg [.bool] [(6, .sc .bool)]) .u)) l1In.S d = l1In.S.F d := fun _ => by kernel_rfl
theorem l1In.sound : SoundS Tryz.prog C0 111 l1In.S := sound_of_ev tyOk (tab_ok (l := []) trivial) Tryz.func111 (by kernel_rfl) (by kernel_rfl) (by kernel_rfl) l1In.ev
def l1Cut.S : Spec := ⟨0, [.sc .str, .sc (.int .u8), .sc (.int .i64)], [], [.str, .int .u8, .int .i64], ⟨[.list [.str]], .full 0, [.arr [.str]]⟩,
  fun ((s, b, most) : Str × Int × Int) => l1Cut s b most⟩
theorem l1Cut.ev : ∀ d, evFn C0 (hnd (tab [])) Tryz.f70 (.seq .u (.seq .u (.seq .u (.seq (.seq .u (.blk (.loop ⟨[.str, .int .u8, .int .i64, .int .i64, .int .i64, .list [.str]], [(0, .sc .str), (1, .sc (.int .u8)), (2, .sc (.int .i64)), (7, .full 0), (8, .sc (.int .i64)), (9, .sc (.int .i64))], [.arr [.str]]⟩ (fun ((s1, b1, most1, from_, i, out) : Str × Int × Int × Int × Int × List Str) => ((s1.length : Int) - i).toNat + 1) 0 ⟨[.str, .int .i64, .list [.str]], [(0, .sc .str), (7, .full 0), (8, .sc (.int .i64))], [.arr [.str]]⟩ (.seq (.seq (.reg [.bool] [(20, .sc .bool)]) .u) .u)))) .u)))) l1Cut.S d = l1Cut.S.F d := fun _ => by kernel_rfl
theorem l1Cut.sound : SoundS Tryz.prog C0 70 l1Cut.S := sound_of_ev tyOk (tab_ok (l := []) trivial) Tryz.func70 (by kernel_rfl) (by kernel_rfl) (by kernel_rfl) l1Cut.ev
def specNameOk.S : Spec := ⟨0, [.sc .str], [], [.str], ⟨[.bool], .sc .bool, []⟩,
  fun (s : Str) => specNameOk s⟩
theorem specNameOk.ev : ∀ d, evFn C0 (hnd (tab [(70, l1Cut.S), (111, l1In.S)])) Tryz.f53 (.seq .u (.seq .u (.seq (.seq .u (.blk (.loopS ⟨[.int .i64, .list [.str]], [(3, .full 0), (4, .sc (.int .i64))], [.arr [.str]]⟩ (fun ((i, list) : Int × List Str) => ((list.length : Int) - i).toNat + 1) 0 ⟨[.list [.str]], [(3, .full 0)], [.arr [.str]]⟩ (.seq .u (.seq (.blk (.seq .u (.seq (.seq .u (.blk (.loopS ⟨[.int .i64, .str, .int .i64, .list [.str]], [(3, .full 0), (4, .sc (.int .i64)), (5, .sc .str), (6, .sc (.int .i64))], [.arr [.str]]⟩ (fun ((i1, w, k, list1) : Int × Str × Int × List Str) => ((w.length : Int) - k).toNat + 1) 2 ⟨[.int .i64, .str, .list [.str]], [(3, .full 0), (4, .sc (.int .i64)), (5, .sc .str)], [.arr [.str]]⟩ (.seq .u (.seq (.blk (.seq (.reg [.bool] [(68, .sc .bool)]) .u)) .u))))) (.seq (.reg [.bool] [(80, .sc .bool)]) .u)))) .u))))) .u))) specNameOk.S d = specNameOk.S.F d := fun _ => by kernel_rfl
theorem specNameOk.sound : SoundS Tryz.prog C0 53 specNameOk.S := sound_of_ev tyOk (tab_ok (l := [(70, l1Cut.S), (111, l1In.S)]) ⟨l1Cut.sound, l1In.sound, trivial⟩) Tryz.func53 (by kernel_rfl) (by kernel_rfl) (by kernel_rfl) specNameOk.ev
def l7Under.S : Spec := ⟨0, [.sc .str, .sc .str], [], [.str, .str], ⟨[.bool], .sc .bool, []⟩,
  fun ((a, b) : Str × Str) => l7Under a b⟩
theorem l7Under.ev : ∀ d, evFn C0 (hnd (tab [])) Tryz.f75 (.seq .u (.seq (.reg [.bool] [(4, .sc .bool)]) .u)) l7Under.S d = l7Under.S.F d := fun _ => by kernel_rfl
theorem l7Under.sound : SoundS Tryz.prog C0 75 l7Under.S := sound_of_ev tyOk (tab_ok (l := []) trivial) Tryz.func75 (by kernel_rfl) (by kernel_rfl) (by kernel_rfl) l7Under.ev
def hasPrefix0.S : Spec := ⟨0, [.sc .str, .sc .str], [], [.str, .str], ⟨[.bool], .sc .bool, []⟩,
  fun ((s, p) : Str × Str) => hasPrefix0 s p⟩
theorem hasPrefix0.ev : ∀ d, evFn C0 (hnd (tab [])) Tryz.f149 (.seq .u (.seq (.reg [.bool] [(4, .sc .bool)]) .u)) hasPrefix0.S d = hasPrefix0.S.F d := fun _ => by kernel_rfl
theorem hasPrefix0.sound : SoundS Tryz.prog C0 149 hasPrefix0.S := sound_of_ev tyOk (tab_ok (l := []) trivial) Tryz.func149 (by kernel_rfl) (by kernel_rfl) (by kernel_rfl) hasPrefix0.ev
def hasPrefix.S : Spec := ⟨0, [.sc .str, .sc .str], [], [.str, .str], ⟨[.bool], .sc .bool, []⟩,
  fun ((s, p) : Str × Str) => hasPrefix s p⟩
theorem hasPrefix.ev : ∀ d, evFn C0 (hnd (tab [(149, hasPrefix0.S)])) Tryz.f84 .u hasPrefix.S d = hasPrefix.S.F d := fun _ => by kernel_rfl
theorem hasPrefix.sound : SoundS Tryz.prog C0 84 hasPrefix.S := sound_of_ev tyOk (tab_ok (l := [(149, hasPrefix0.S)]) ⟨hasPrefix0.sound, trivial⟩) Tryz.func84 (by kernel_rfl) (by kernel_rfl) (by kernel_rfl) hasPrefix.ev
def indexByteString.S : Spec := indexByteSpec
theorem indexByteString.sound : SoundS Tryz.prog C0 266 indexByteString.S := indexByte_sound Tryz.func266 (by kernel_rfl) (by kernel_rfl) (by kernel_rfl) (by kernel_rfl)
def countString.S : Spec := countByteSpec
theorem countString.sound : SoundS Tryz.prog C0 249 countString.S := countByte_sound Tryz.func249 (by kernel_rfl) (by kernel_rfl) (by kernel_rfl) (by kernel_rfl)
def indexByte0.S : Spec := ⟨0, [.sc .str, .sc (.int .u8)], [], [.str, .int .u8], ⟨[.int .i64], .sc (.int .i64), []⟩,
  fun ((s, c) : Str × Int) => indexByte0 s c⟩
theorem indexByte0.ev : ∀ d, evFn C0 (hnd (tab [(266, indexByteString.S)])) Tryz.f234 .u indexByte0.S d = indexByte0.S.F d := fun _ => by kernel_rfl
theorem indexByte0.sound : SoundS Tryz.prog C0 234 indexByte0.S := sound_of_ev tyOk (tab_ok (l := [(266, indexByteString.S)]) ⟨indexByteString.sound, trivial⟩) Tryz.func234 (by kernel_rfl) (by kernel_rfl) (by kernel_rfl) indexByte0.ev
def index0S.S : Spec := ⟨0, [.sc .str, .cstr [47]], [], [.str], ⟨[.int .i64], .sc (.int .i64), []⟩,
  fun (s : Str) => index0S s⟩
theorem index0S.ev : ∀ d, evFn C0 (hnd (tab [(234, indexByte0.S)])) Tryz.f197 (.seq .u (.seq .u (.seq (.blk (.seq (.reg [.bool] [(16, .sc .bool)]) .u)) .u))) index0S.S d = index0S.S.F d := fun _ => by kernel_rfl
theorem index0S.sound : SoundS Tryz.prog C0 197 index0S.S := sound_of_ev tyOk (tab_ok (l := [(234, indexByte0.S)]) ⟨indexByte0.sound, trivial⟩) Tryz.func197 (by kernel_rfl) (by kernel_rfl) (by kernel_rfl) index0S.ev
def indexS.S : Spec := ⟨0, [.sc .str, .cstr [47]], [], [.str], ⟨[.int .i64], .sc (.int .i64), []⟩,
  fun (s : Str) => indexS s⟩
theorem indexS.ev : ∀ d, evFn C0 (hnd (tab [(197, index0S.S)])) Tryz.f216 .u indexS.S d = indexS.S.F d := fun _ => by kernel_rfl
theorem indexS.sound : SoundS Tryz.prog C0 216 indexS.S := sound_of_ev tyOk (tab_ok (l := [(197, index0S.S)]) ⟨index0S.sound, trivial⟩) Tryz.func216 (by kernel_rfl) (by kernel_rfl) (by kernel_rfl) indexS.ev
def countS.S : Spec := ⟨0, [.sc .str, .cstr [47]], [], [.str], ⟨[.int .i64], .sc (.int .i64), []⟩,
  fun (s : Str) => countS s⟩
theorem countS.ev : ∀ d, evFn C0 (hnd (tab [(249, countString.S)])) Tryz.f215 .u countS.S d = countS.S.F d := fun _ => by kernel_rfl
theorem countS.sound : SoundS Tryz.prog C0 215 countS.S := sound_of_ev tyOk (tab_ok (l := [(249, countString.S)]) ⟨countString.sound, trivial⟩) Tryz.func215 (by kernel_rfl) (by kernel_rfl) (by kernel_rfl) countS.ev
def genSplitS.S : Spec := ⟨0, [.sc .str, .cstr [47], .cint .i64 0, .cint .i64 (-1)], [], [.str], ⟨[.list [.str]], .sc (.list [.str]), []⟩,
  fun (s : Str) => genSplitS s⟩
theorem genSplitS.ev : ∀ d, evFn C0 (hnd (tab [(215, countS.S), (216, indexS.S)])) Tryz.f174 (.seq .u (.seq .u (.seq .u (.join ⟨[.str, .int .i64], [(0, .sc .str), (1, .cstr [47]), (2, .cint .i64 0), (3, .sc (.int .i64))], []⟩ .u (.seq .u (.seq .u (.seq .u (.seq .u (.seq (.blk (.loop ⟨[.str, .int .i64, .int .i64, .list [.str]], [(0, .sc .str), (1, .cstr [47]), (2, .cint .i64 0), (3, .sc (.int .i64)), (9, .full 0), (10, .sc (.int .i64))], [.arr [.str]]⟩ (fun ((s2, n1, i, a) : Str × Int × Int × List Str) => (n1 - i).toNat + 1) 0 ⟨[.str, .int .i64, .list [.str]], [(0, .sc .str), (9, .full 0), (10, .sc (.int .i64))], [.arr [.str]]⟩ .u)) .u))))))))) genSplitS.S d = genSplitS.S.F d := fun _ => by kernel_rfl
theorem genSplitS.sound : SoundS Tryz.prog C0 174 genSplitS.S := sound_of_ev tyOk (tab_ok (l := [(215, countS.S), (216, indexS.S)]) ⟨countS.sound, indexS.sound, trivial⟩) Tryz.func174 (by kernel_rfl) (by kernel_rfl) (by kernel_rfl) genSplitS.ev
def splitS.S : Spec := ⟨0, [.sc .str, .cstr [47]], [], [.str], ⟨[.list [.str]], .sc (.list [.str]), []⟩,
  fun (s : Str) => splitS s⟩
theorem splitS.ev : ∀ d, evFn C0 (hnd (tab [(174, genSplitS.S)])) Tryz.f107 .u splitS.S d = splitS.S.F d := fun _ => by kernel_rfl
theorem splitS.sound : SoundS Tryz.prog C0 107 splitS.S := sound_of_ev tyOk (tab_ok (l := [(174, genSplitS.S)]) ⟨genSplitS.sound, trivial⟩) Tryz.func107 (by kernel_rfl) (by kernel_rfl) (by kernel_rfl) splitS.ev
def implNameOk.S : Spec := ⟨0, [.sc .str], [], [.str], ⟨[.bool], .sc .bool, []⟩,
  fun (s : Str) => implNameOk s⟩
theorem implNameOk.ev : ∀ d, evFn C0 (hnd (tab [(107, splitS.S), (108, partOk.S)])) Tryz.f51 (.seq .u (.seq .u (.seq (.seq .u (.blk (.loopS ⟨[.list [.str], .list [.str], .int .i64, .int .i64], [(3, .sc (.list [.str])), (8, .sc (.list [.str])), (9, .sc (.int .i64)), (10, .sc (.int .i64))], []⟩ (fun ((parts, t, t1, t2) : List Str × List Str × Int × Int) => (t1 - t2).toNat + 1) 0 ⟨[.list [.str]], [(3, .sc (.list [.str]))], []⟩ .u))) .u))) implNameOk.S d = implNameOk.S.F d := fun _ => by kernel_rfl
theorem implNameOk.sound : SoundS Tryz.prog C0 51 implNameOk.S := sound_of_ev tyOk (tab_ok (l := [(107, splitS.S), (108, partOk.S)]) ⟨splitS.sound, partOk.sound, trivial⟩) Tryz.func51 (by kernel_rfl) (by kernel_rfl) (by kernel_rfl) implNameOk.ev
def apart.S : Spec := ⟨0, [.sc (.list [.str])], [], [.list [.str]], ⟨[.bool], .sc .bool, []⟩,
  fun (xs : List Str) => apart xs⟩
theorem apart.ev : ∀ d, evFn C0 (hnd (tab [(84, hasPrefix.S)])) Tryz.f74 (.seq .u (.seq (.seq .u (.blk (.loopS ⟨[.list [.str], .list [.str], .int .i64, .int .i64], [(0, .sc (.list [.str])), (7, .sc (.list [.str])), (8, .sc (.int .i64)), (9, .sc (.int .i64))], []⟩ (fun ((names, t, t1, t2) : List Str × List Str × Int × Int) => (t1 - t2).toNat + 1) 0 ⟨[], [], []⟩ (.seq .u (.seq .u (.seq (.blk (.seq .u (.seq .u (.blk (.loopS ⟨[.list [.str], .str, .list [.str], .int .i64, .int .i64, .list [.str], .int .i64, .int .i64], [(0, .sc (.list [.str])), (4, .sc .str), (7, .sc (.list [.str])), (8, .sc (.int .i64)), (9, .sc (.int .i64)), (16, .sc (.list [.str])), (17, .sc (.int .i64)), (18, .sc (.int .i64))], []⟩ (fun ((names1, a, t3, t4, t5, t6, t7, t8) : List Str × Str × List Str × Int × Int × List Str × Int × Int) => (t7 - t8).toNat + 1) 2 ⟨[.list [.str], .list [.str], .int .i64, .int .i64], [(0, .sc (.list [.str])), (7, .sc (.list [.str])), (8, .sc (.int .i64)), (9, .sc (.int .i64))], []⟩ (.seq .u (.seq .u (.seq (.blk (.seq .u (.seq (.reg [.bool] [(36, .sc .bool)]) .u))) .u)))))))) .u)))))) .u)) apart.S d = apart.S.F d := fun _ => by kernel_rfl
theorem apart.sound : SoundS Tryz.prog C0 74 apart.S := sound_of_ev tyOk (tab_ok (l := [(84, hasPrefix.S)]) ⟨hasPrefix.sound, trivial⟩) Tryz.func74 (by kernel_rfl) (by kernel_rfl) (by kernel_rfl) apart.ev
def rBit.S : Spec := ⟨1, [.ptr 0 0], [.box [.sc .str, .sc (.int .i64), .sc .bool]], [.str, .int .i64, .bool], ⟨[.int .i64, .str, .int .i64, .bool], .sc (.int .i64), [.box [.sc .str, .sc (.int .i64), .sc .bool]]⟩,
  fun ((s, at_, bad) : Str × Int × Bool) => rBit s at_ bad⟩
theorem rBit.ev : ∀ d, evFn C0 (hnd (tab [])) Tryz.f100 .u rBit.S d = rBit.S.F d := fun _ => by kernel_rfl
theorem rBit.sound : SoundS Tryz.prog C0 100 rBit.S := sound_of_ev tyOk (tab_ok (l := []) trivial) Tryz.func100 (by kernel_rfl) (by kernel_rfl) (by kernel_rfl) rBit.ev
def rGet.S : Spec := ⟨1, [.ptr 0 0, .sc (.int .i64)], [.box [.sc .str, .sc (.int .i64), .sc .bool]], [.int .i64, .str, .int .i64, .bool], ⟨[.int .i64, .str, .int .i64, .bool], .sc (.int .i64), [.box [.sc .str, .sc (.int .i64), .sc .bool]]⟩,
  fun ((bits, s, at_, bad) : Int × Str × Int × Bool) => rGet bits s at_ bad⟩
theorem rGet.ev : ∀ d, evFn C0 (hnd (tab [(100, rBit.S)])) Tryz.f101 (.seq .u (.seq .u (.seq (.seq .u (.blk (.loop ⟨[.int .i64, .int .i64, .int .i64, .str, .int .i64, .bool], [(0, .ptr 0 0), (5, .sc (.int .i64)), (7, .sc (.int .i64)), (8, .sc (.int .i64))], [.box [.sc .str, .sc (.int .i64), .sc .bool]]⟩ (fun ((n, t, t1, o, o1, o2) : Int × Int × Int × Str × Int × Bool) => (t - t1).toNat + 1) 0 ⟨[.int .i64, .str, .int .i64, .bool], [(5, .sc (.int .i64))], [.box [.sc .str, .sc (.int .i64), .sc .bool]]⟩ .u))) .u))) rGet.S d = rGet.S.F d := fun _ => by kernel_rfl
theorem rGet.sound : SoundS Tryz.prog C0 101 rGet.S := sound_of_ev tyOk (tab_ok (l := [(100, rBit.S)]) ⟨rBit.sound, trivial⟩) Tryz.func101 (by kernel_rfl) (by kernel_rfl) (by kernel_rfl) rGet.ev
def rEven.S : Spec := ⟨1, [.ptr 0 0], [.box [.sc .str, .sc (.int .i64), .sc .bool]], [.str, .int .i64, .bool], ⟨[.str, .int .i64, .bool], .tup [], [.box [.sc .str, .sc (.int .i64), .sc .bool]]⟩,
  fun ((s, at_, bad) : Str × Int × Bool) => rEven s at_ bad⟩
theorem rEven.ev : ∀ d, evFn C0 (hnd (tab [(100, rBit.S)])) Tryz.f106 (.blk (.loop ⟨[.str, .int .i64, .bool], [(0, .ptr 0 0)], [.box [.sc .str, .sc (.int .i64), .sc .bool]]⟩ (fun ((o, o1, o2) : Str × Int × Bool) => 9) 0 ⟨[.str, .int .i64, .bool], [], [.box [.sc .str, .sc (.int .i64), .sc .bool]]⟩ .u)) rEven.S d = rEven.S.F d := fun _ => by kernel_rfl
theorem rEven.sound : SoundS Tryz.prog C0 106 rEven.S := sound_of_ev tyOk (tab_ok (l := [(100, rBit.S)]) ⟨rBit.sound, trivial⟩) Tryz.func106 (by kernel_rfl) (by kernel_rfl) (by kernel_rfl) rEven.ev
def crcUpdate.S : Spec := ⟨0, [.sc (.int .u32), .sc .str], [], [.int .u32, .str], ⟨[.int .u32], .sc (.int .u32), []⟩,
  fun ((crc_, text) : Int × Str) => crcUpdate crc_ text⟩
theorem crcUpdate.ev : ∀ d, evFn C0 (hnd (tab [])) Tryz.f168 (.seq .u (.seq .u (.seq (.seq .u (.blk (.loop ⟨[.int .u32, .str, .int .i64], [(0, .sc (.int .u32)), (1, .sc .str), (5, .sc (.int .i64))], []⟩ (fun ((crc_1, text1, k) : Int × Str × Int) => ((text1.length : Int) - k).toNat + 1) 0 ⟨[.int .u32], [(0, .sc (.int .u32))], []⟩ (.seq .u (.seq (.blk (.seq .u (.seq .u (.blk (.loop ⟨[.int .u32, .str, .int .i64, .int .i64], [(0, .sc (.int .u32)), (1, .sc .str), (5, .sc (.int .i64)), (20, .sc (.int .i64))], []⟩ (fun ((crc_2, text2, k1, t) : Int × Str × Int × Int) => (8 - t).toNat + 1) 2 ⟨[.int .u32, .str, .int .i64], [(0, .sc (.int .u32)), (1, .sc .str), (5, .sc (.int .i64))], []⟩ .u))))) .u))))) .u))) crcUpdate.S d = crcUpdate.S.F d := fun _ => by kernel_rfl
theorem crcUpdate.sound : SoundS Tryz.prog C0 168 crcUpdate.S := sound_of_ev tyOk (tab_ok (l := []) trivial) Tryz.func168 (by kernel_rfl) (by kernel_rfl) (by kernel_rfl) crcUpdate.ev
def crc.S : Spec := ⟨0, [.sc .str], [], [.str], ⟨[.int .i64], .sc (.int .i64), []⟩,
  fun (text : Str) => crc text⟩
theorem crc.ev : ∀ d, evFn C0 (hnd (tab [(168, crcUpdate.S)])) Tryz.f96 .u crc.S d = crc.S.F d := fun _ => by kernel_rfl
theorem crc.sound : SoundS Tryz.prog C0 96 crc.S := sound_of_ev tyOk (tab_ok (l := [(168, crcUpdate.S)]) ⟨crcUpdate.sound, trivial⟩) Tryz.func96 (by kernel_rfl) (by kernel_rfl) (by kernel_rfl) crc.ev
def lensOk.S : Spec := ⟨0, [.sc (.list [.int .i64])], [], [.list [.int .i64]], ⟨[.bool], .sc .bool, []⟩,
  fun (lens : List Int) => lensOk lens⟩
theorem lensOk.ev : ∀ d, evFn C0 (hnd (tab [(109, within.S)])) Tryz.f170 (.seq .u (.seq .u (.seq .u (.seq (.seq .u (.blk (.loopS ⟨[.int .i64, .int .i64, .int .i64, .list [.int .i64], .int .i64, .int .i64], [(3, .sc (.int .i64)), (4, .sc (.int .i64)), (5, .sc (.int .i64)), (11, .sc (.list [.int .i64])), (12, .sc (.int .i64)), (13, .sc (.int .i64))], []⟩ (fun ((sum, many, last, t, t1, t2) : Int × Int × Int × List Int × Int × Int) => (t1 - t2).toNat + 1) 0 ⟨[.int .i64, .int .i64, .int .i64], [(3, .sc (.int .i64)), (4, .sc (.int .i64)), (5, .sc (.int .i64))], []⟩ .u))) (.seq (.reg [.bool] [(2, .sc .bool)]) .u))))) lensOk.S d = lensOk.S.F d := fun _ => by kernel_rfl
theorem lensOk.sound : SoundS Tryz.prog C0 170 lensOk.S := sound_of_ev tyOk (tab_ok (l := [(109, within.S)]) ⟨within.sound, trivial⟩) Tryz.func170 (by kernel_rfl) (by kernel_rfl) (by kernel_rfl) lensOk.ev
def codes.S : Spec := ⟨0, [.sc (.list [.int .i64])], [], [.list [.int .i64]], ⟨[.list [.int .i64]], .full 0, [.arr [.int .i64]]⟩,
  fun (lens : List Int) => codes lens⟩
theorem codes.ev : ∀ d, evFn C0 (hnd (tab [])) Tryz.f166 (.seq .u (.seq .u (.seq .u (.seq (.seq .u (.blk (.loop ⟨[.list [.int .i64], .int .i64, .int .i64, .list [.int .i64]], [(0, .sc (.list [.int .i64])), (3, .full 0), (4, .sc (.int .i64)), (5, .sc (.int .i64))], [.arr [.int .i64]]⟩ (fun ((lens1, next_, l, out) : List Int × Int × Int × List Int) => (15 - l).toNat + 2) 0 ⟨[.list [.int .i64]], [(3, .full 0)], [.arr [.int .i64]]⟩ (.seq .u (.seq (.blk (.seq (.seq .u (.blk (.loop ⟨[.list [.int .i64], .int .i64, .int .i64, .list [.int .i64], .int .i64, .int .i64, .list [.int .i64]], [(0, .sc (.list [.int .i64])), (3, .full 0), (4, .sc (.int .i64)), (5, .sc (.int .i64)), (15, .sc (.list [.int .i64])), (16, .sc (.int .i64)), (17, .sc (.int .i64))], [.arr [.int .i64]]⟩ (fun ((lens2, next_1, l1, t, t1, t2, out1) : List Int × Int × Int × List Int × Int × Int × List Int) => (t1 - t2).toNat + 1) 2 ⟨[.list [.int .i64], .int .i64, .int .i64, .list [.int .i64]], [(0, .sc (.list [.int .i64])), (3, .full 0), (4, .sc (.int .i64)), (5, .sc (.int .i64))], [.arr [.int .i64]]⟩ .u))) .u)) .u))))) .u)))) codes.S d = codes.S.F d := fun _ => by kernel_rfl
theorem codes.sound : SoundS Tryz.prog C0 166 codes.S := sound_of_ev tyOk (tab_ok (l := []) trivial) Tryz.func166 (by kernel_rfl) (by kernel_rfl) (by kernel_rfl) codes.ev
def bookOf.S : Spec := ⟨0, [.sc (.list [.int .i64])], [], [.list [.int .i64]], ⟨[.map [.int .i64, .int .i64] [.int .i64]], .map 0, [.map [.int .i64, .int .i64] [.int .i64]]⟩,
  fun (lens : List Int) => bookOf lens⟩
theorem bookOf.ev : ∀ d, evFn C0 (hnd (tab [(166, codes.S)])) Tryz.f171 (.seq .u (.seq .u (.seq (.seq .u (.blk (.loop ⟨[.list [.int .i64], .int .i64, .int .i64, .map [.int .i64, .int .i64] [.int .i64], .list [.int .i64]], [(0, .sc (.list [.int .i64])), (3, .map 0), (8, .full 1), (9, .sc (.int .i64)), (10, .sc (.int .i64))], [.map [.int .i64, .int .i64] [.int .i64], .arr [.int .i64]]⟩ (fun ((lens1, t, t1, o, o1) : List Int × Int × Int × (List ((Int × Int) × Int)) × List Int) => (t - t1).toNat + 1) 0 ⟨[.map [.int .i64, .int .i64] [.int .i64]], [(3, .map 0)], [.map [.int .i64, .int .i64] [.int .i64]]⟩ .u))) .u))) bookOf.S d = bookOf.S.F d := fun _ => by kernel_rfl
theorem bookOf.sound : SoundS Tryz.prog C0 171 bookOf.S := sound_of_ev tyOk (tab_ok (l := [(166, codes.S)]) ⟨codes.sound, trivial⟩) Tryz.func171 (by kernel_rfl) (by kernel_rfl) (by kernel_rfl) bookOf.ev
def rSymbol.S : Spec := ⟨2, [.ptr 0 0, .map 1], [.box [.sc .str, .sc (.int .i64), .sc .bool], .map [.int .i64, .int .i64] [.int .i64]], [.str, .int .i64, .bool, .map [.int .i64, .int .i64] [.int .i64]], ⟨[.int .i64, .str, .int .i64, .bool, .map [.int .i64, .int .i64] [.int .i64]], .sc (.int .i64), [.box [.sc .str, .sc (.int .i64), .sc .bool], .map [.int .i64, .int .i64] [.int .i64]]⟩,
  fun ((s, at_, bad, book) : Str × Int × Bool × List ((Int × Int) × Int)) => rSymbol s at_ bad book⟩
theorem rSymbol.ev : ∀ d, evFn C0 (hnd (tab [(100, rBit.S)])) Tryz.f172 (.seq .u (.seq .u (.seq (.seq .u (.blk (.loopS ⟨[.int .i64, .int .i64, .str, .int .i64, .bool, .map [.int .i64, .int .i64] [.int .i64]], [(0, .ptr 0 0), (1, .map 1), (5, .sc (.int .i64)), (6, .sc (.int .i64))], [.box [.sc .str, .sc (.int .i64), .sc .bool], .map [.int .i64, .int .i64] [.int .i64]]⟩ (fun ((code_, l, o, o1, o2, o3) : Int × Int × Str × Int × Bool × List ((Int × Int) × Int)) => (15 - l).toNat + 2) 0 ⟨[.str, .int .i64, .bool, .map [.int .i64, .int .i64] [.int .i64]], [(0, .ptr 0 0)], [.box [.sc .str, .sc (.int .i64), .sc .bool], .map [.int .i64, .int .i64] [.int .i64]]⟩ (.seq .u (.seq (.blk (.seq .u (.seq .u (.seq (.reg [.bool] [(33, .sc .bool)]) .u)))) .u))))) .u))) rSymbol.S d = rSymbol.S.F d := fun _ => by kernel_rfl
theorem rSymbol.sound : SoundS Tryz.prog C0 172 rSymbol.S := sound_of_ev tyOk (tab_ok (l := [(100, rBit.S)]) ⟨rBit.sound, trivial⟩) Tryz.func172 (by kernel_rfl) (by kernel_rfl) (by kernel_rfl) rSymbol.ev
def add.S : Spec := ⟨0, [.full 0, .agg [.sc (.int .i64), .sc (.int .i64), .sc (.int .i64)]], [.arr [.int .u8]], [.int .i64, .int .i64, .int .i64, .list [.int .u8]], ⟨[.bool, .list [.int .u8]], .tup [.full 0, .sc .bool], [.arr [.int .u8]]⟩,
  fun ((byte, long, back, out) : Int × Int × Int × List Int) => add byte long back out⟩
theorem add.ev : ∀ d, evFn C0 (hnd (tab [(109, within.S)])) Tryz.f173 (.seq .u (.seq (.seq .u (.cond (.seq (.seq (.reg [.bool] [(17, .sc .bool)]) .u) .u) .u)) (.seq (.seq (.reg [.bool] [(41, .sc .bool)]) .u) (.seq (.seq .u (.blk (.loop ⟨[.int .i64, .int .i64, .list [.int .u8], .int .i64, .int .i64, .int .i64], [(0, .full 0), (3, .ptr 1 0), (43, .sc (.int .i64)), (44, .sc (.int .i64))], [.arr [.int .u8], .box [.sc (.int .i64), .sc (.int .i64), .sc (.int .i64)]]⟩ (fun ((t, t1, out1, o, o1, o2) : Int × Int × List Int × Int × Int × Int) => (t - t1).toNat + 1) 0 ⟨[.list [.int .u8]], [(0, .full 0)], [.arr [.int .u8]]⟩ .u))) .u)))) add.S d = add.S.F d := fun _ => by kernel_rfl
theorem add.sound : SoundS Tryz.prog C0 173 add.S := sound_of_ev tyOk (tab_ok (l := [(109, within.S)]) ⟨within.sound, trivial⟩) Tryz.func173 (by kernel_rfl) (by kernel_rfl) (by kernel_rfl) add.ev
def ladderOf.S : Spec := ⟨0, [.sc (.int .i64), .sc (.int .i64), .sc (.int .i64), .sc (.int .i64)], [], [.int .i64, .int .i64, .int .i64, .int .i64], ⟨[.list [.int .i64], .list [.int .i64]], .agg [.sc (.list [.int .i64]), .sc (.list [.int .i64])], []⟩,
  fun ((from_, many, plain, each) : Int × Int × Int × Int) => ladderOf from_ many plain each⟩
theorem ladderOf.ev : ∀ d, evFn C0 (hnd (tab [])) Tryz.f211 (.seq .u (.seq .u (.seq (.seq .u (.blk (.loop ⟨[.int .i64, .int .i64, .int .i64, .int .i64, .int .i64, .list [.int .i64], .list [.int .i64], .list [.int .i64], .list [.int .i64]], [(0, .sc (.int .i64)), (2, .sc (.int .i64)), (3, .sc (.int .i64)), (8, .ptr 0 0), (9, .ptr 1 0), (13, .sc (.int .i64)), (14, .sc (.int .i64))], [.box [.full 2, .full 3], .box [.full 4, .full 5], .arr [.int .i64], .arr [.int .i64], .arr [.int .i64], .arr [.int .i64]]⟩ (fun ((from_1, plain1, each1, t, t1, o, o1, o2, o3) : Int × Int × Int × Int × Int × List Int × List Int × List Int × List Int) => (t - t1).toNat + 1) 0 ⟨[.list [.int .i64], .list [.int .i64], .list [.int .i64], .list [.int .i64]], [(8, .ptr 0 0), (9, .ptr 1 0)], [.box [.full 2, .full 3], .box [.full 4, .full 5], .arr [.int .i64], .arr [.int .i64], .arr [.int .i64], .arr [.int .i64]]⟩ (.seq .u (.seq .u (.seq (.blk (.seq .u (.seq .u (.join ⟨[.int .i64, .int .i64, .int .i64, .int .i64, .int .i64, .int .i64, .list [.int .i64], .list [.int .i64], .list [.int .i64], .list [.int .i64]], [(0, .sc (.int .i64)), (2, .sc (.int .i64)), (3, .sc (.int .i64)), (8, .ptr 0 0), (9, .ptr 1 0), (11, .sc (.int .i64)), (13, .sc (.int .i64)), (14, .sc (.int .i64))], [.box [.full 2, .full 3], .box [.full 4, .full 5], .arr [.int .i64], .arr [.int .i64], .arr [.int .i64], .arr [.int .i64]]⟩ .u .u)))) .u)))))) .u))) ladderOf.S d = ladderOf.S.F d := fun _ => by kernel_rfl
theorem ladderOf.sound : SoundS Tryz.prog C0 211 ladderOf.S := sound_of_ev tyOk (tab_ok (l := []) trivial) Tryz.func211 (by kernel_rfl) (by kernel_rfl) (by kernel_rfl) ladderOf.ev
def longsOf.S : Spec := ⟨0, [], [], [], ⟨[.list [.int .i64], .list [.int .i64]], .agg [.sc (.list [.int .i64]), .sc (.list [.int .i64])], []⟩,
  fun (_ : Unit) => longsOf⟩
theorem longsOf.ev : ∀ d, evFn C0 (hnd (tab [(211, ladderOf.S)])) Tryz.f161 .u longsOf.S d = longsOf.S.F d := fun _ => by kernel_rfl
theorem longsOf.sound : SoundS Tryz.prog C0 161 longsOf.S := sound_of_ev tyOk (tab_ok (l := [(211, ladderOf.S)]) ⟨ladderOf.sound, trivial⟩) Tryz.func161 (by kernel_rfl) (by kernel_rfl) (by kernel_rfl) longsOf.ev
def backsOf.S : Spec := ⟨0, [], [], [], ⟨[.list [.int .i64], .list [.int .i64]], .agg [.sc (.list [.int .i64]), .sc (.list [.int .i64])], []⟩,
  fun (_ : Unit) => backsOf⟩
theorem backsOf.ev : ∀ d, evFn C0 (hnd (tab [(211, ladderOf.S)])) Tryz.f163 .u backsOf.S d = backsOf.S.F d := fun _ => by kernel_rfl
theorem backsOf.sound : SoundS Tryz.prog C0 163 backsOf.S := sound_of_ev tyOk (tab_ok (l := [(211, ladderOf.S)]) ⟨ladderOf.sound, trivial⟩) Tryz.func163 (by kernel_rfl) (by kernel_rfl) (by kernel_rfl) backsOf.ev
def fixedLens.S : Spec := ⟨0, [], [], [], ⟨[.list [.int .i64], .list [.int .i64]], .tup [.full 0, .full 1], [.arr [.int .i64], .arr [.int .i64]]⟩,
  fun (_ : Unit) => fixedLens⟩
theorem fixedLens.ev : ∀ d, evFn C0 (hnd (tab [])) Tryz.f103 (.seq .u (.seq .u (.seq (.seq .u (.blk (.loop ⟨[.int .i64, .int .i64, .list [.int .i64]], [(2, .full 0), (8, .sc (.int .i64)), (9, .sc (.int .i64))], [.arr [.int .i64]]⟩ (fun ((t, t1, lit) : Int × Int × List Int) => (t - t1).toNat + 1) 0 ⟨[.list [.int .i64]], [(2, .full 0)], [.arr [.int .i64]]⟩ (.seq .u (.seq .u (.seq (.blk (.seq .u (.blk (.seq (.reg [.bool] [(15, .sc .bool)]) .u)))) .u)))))) (.seq .u (.seq (.seq .u (.blk (.loop ⟨[.int .i64, .int .i64, .list [.int .i64], .list [.int .i64]], [(2, .full 0), (4, .full 1), (34, .sc (.int .i64)), (35, .sc (.int .i64))], [.arr [.int .i64], .arr [.int .i64]]⟩ (fun ((t2, t3, lit2, dist) : Int × Int × List Int × List Int) => (t2 - t3).toNat + 1) 3 ⟨[.list [.int .i64], .list [.int .i64]], [(2, .full 0), (4, .full 1)], [.arr [.int .i64], .arr [.int .i64]]⟩ .u))) .u))))) fixedLens.S d = fixedLens.S.F d := fun _ => by kernel_rfl
theorem fixedLens.sound : SoundS Tryz.prog C0 103 fixedLens.S := sound_of_ev tyOk (tab_ok (l := []) trivial) Tryz.func103 (by kernel_rfl) (by kernel_rfl) (by kernel_rfl) fixedLens.ev
def rStored.S : Spec := ⟨1, [.ptr 0 0, .full 1], [.box [.sc .str, .sc (.int .i64), .sc .bool], .arr [.int .u8]], [.str, .int .i64, .bool, .list [.int .u8]], ⟨[.str, .int .i64, .bool, .list [.int .u8]], .full 1, [.box [.sc .str, .sc (.int .i64), .sc .bool], .arr [.int .u8]]⟩,
  fun ((s, at_, bad, out) : Str × Int × Bool × List Int) => rStored s at_ bad out⟩
theorem rStored.ev : ∀ d, evFn C0 (hnd (tab [(101, rGet.S), (106, rEven.S)])) Tryz.f102 (.seq .u (.seq .u (.seq .u (.join ⟨[.int .i64, .str, .int .i64, .bool, .list [.int .u8]], [(0, .ptr 0 0), (1, .full 1), (5, .sc (.int .i64))], [.box [.sc .str, .sc (.int .i64), .sc .bool], .arr [.int .u8]]⟩ .u (.seq (.seq .u (.blk (.loop ⟨[.int .i64, .int .i64, .str, .int .i64, .bool, .list [.int .u8]], [(0, .ptr 0 0), (1, .full 1), (5, .sc (.int .i64)), (7, .sc (.int .i64))], [.box [.sc .str, .sc (.int .i64), .sc .bool], .arr [.int .u8]]⟩ (fun ((n1, k, o3, o4, o5, out2) : Int × Int × Str × Int × Bool × List Int) => (n1 - k).toNat + 1) 0 ⟨[.str, .int .i64, .bool, .list [.int .u8]], [(1, .full 1)], [.box [.sc .str, .sc (.int .i64), .sc .bool], .arr [.int .u8]]⟩ (.seq (.seq (.reg [.bool] [(35, .sc .bool)]) .u) .u)))) .u))))) rStored.S d = rStored.S.F d := fun _ => by kernel_rfl
theorem rStored.sound : SoundS Tryz.prog C0 102 rStored.S := sound_of_ev tyOk (tab_ok (l := [(101, rGet.S), (106, rEven.S)]) ⟨rGet.sound, rEven.sound, trivial⟩) Tryz.func102 (by kernel_rfl) (by kernel_rfl) (by kernel_rfl) rStored.ev
end Ev
end
section
open Go Go.Proofs
set_option maxRecDepth 100000
namespace Ev
set_option maxHeartbeats 1000000
set_option linter.unusedVariables false
def rLengths.S : Spec := ⟨1, [.ptr 0 0], [.box [.sc .str, .sc (.int .i64), .sc .bool]], [.str, .int .i64, .bool], ⟨[.list [.int .i64], .list [.int .i64], .str, .int .i64, .bool], .tup [.sc (.list [.int .i64]), .sc (.list [.int .i64])], [.box [.sc .str, .sc (.int .i64), .sc .bool]]⟩,
  fun ((s, at_, bad) : Str × Int × Bool) => rLengths s at_ bad⟩
theorem rLengths.ev : ∀ d, evFn C0 (hnd (tab [(101, rGet.S), (170, lensOk.S), (171, bookOf.S), (172, rSymbol.S)])) Tryz.f105 (.seq .u (.seq .u (.join ⟨[.int .i64, .int .i64, .int .i64, .str, .int .i64, .bool], [(0, .ptr 0 0), (4, .sc (.int .i64)), (5, .sc (.int .i64)), (6, .sc (.int .i64))], [.box [.sc .str, .sc (.int .i64), .sc .bool]]⟩ (.seq (.reg [.bool] [(29, .sc .bool)]) .u) (.seq .u (.seq (.seq .u (.blk (.loop ⟨[.int .i64, .int .i64, .list [.int .i64], .int .i64, .int .i64, .str, .int .i64, .bool, .list [.int .i64]], [(0, .ptr 0 0), (4, .sc (.int .i64)), (5, .sc (.int .i64)), (7, .full 1), (38, .sc (.list [.int .i64])), (39, .sc (.int .i64)), (40, .sc (.int .i64))], [.box [.sc .str, .sc (.int .i64), .sc .bool], .arr [.int .i64]]⟩ (fun ((lit1, dist1, t, t1, t2, o3, o4, o5, meta_) : Int × Int × List Int × Int × Int × Str × Int × Bool × List Int) => (t1 - t2).toNat + 1) 0 ⟨[.int .i64, .int .i64, .str, .int .i64, .bool, .list [.int .i64]], [(0, .ptr 0 0), (4, .sc (.int .i64)), (5, .sc (.int .i64)), (7, .full 1)], [.box [.sc .str, .sc (.int .i64), .sc .bool], .arr [.int .i64]]⟩ .u))) (.seq (.seq (.reg [.bool] [(58, .sc .bool)]) .u) (.seq .u (.seq .u (.seq (.blk (.loop ⟨[.int .i64, .int .i64, .str, .int .i64, .bool, .map [.int .i64, .int .i64] [.int .i64], .list [.int .i64]], [(0, .ptr 0 0), (4, .sc (.int .i64)), (5, .sc (.int .i64)), (10, .map 1), (11, .full 2)], [.box [.sc .str, .sc (.int .i64), .sc .bool], .map [.int .i64, .int .i64] [.int .i64], .arr [.int .i64]]⟩ (fun ((lit3, dist3, o9, o10, o11, o12, all) : Int × Int × Str × Int × Bool × (List ((Int × Int) × Int)) × List Int) => ((w64 (lit3 + dist3)) - (all.length : Int)).toNat + 1) 2 ⟨[.int .i64, .int .i64, .str, .int .i64, .bool, .list [.int .i64]], [(0, .ptr 0 0), (4, .sc (.int .i64)), (5, .sc (.int .i64)), (11, .full 1)], [.box [.sc .str, .sc (.int .i64), .sc .bool], .arr [.int .i64]]⟩ (.seq (.seq (.reg [.bool] [(77, .sc .bool)]) .u) (.blk (.seq .u (.seq .u (.join ⟨[.int .i64, .int .i64, .int .i64, .int .i64, .str, .int .i64, .bool, .map [.int .i64, .int .i64] [.int .i64], .list [.int .i64]], [(0, .ptr 0 0), (4, .sc (.int .i64)), (5, .sc (.int .i64)), (10, .map 1), (11, .full 2), (13, .sc (.int .i64)), (14, .sc (.int .i64))], [.box [.sc .str, .sc (.int .i64), .sc .bool], .map [.int .i64, .int .i64] [.int .i64], .arr [.int .i64]]⟩ .u (.seq .u (.blk (.loop ⟨[.int .i64, .int .i64, .int .i64, .int .i64, .int .i64, .str, .int .i64, .bool, .map [.int .i64, .int .i64] [.int .i64], .list [.int .i64]], [(0, .ptr 0 0), (4, .sc (.int .i64)), (5, .sc (.int .i64)), (10, .map 1), (11, .full 2), (13, .sc (.int .i64)), (112, .sc (.int .i64)), (113, .sc (.int .i64))], [.box [.sc .str, .sc (.int .i64), .sc .bool], .map [.int .i64, .int .i64] [.int .i64], .arr [.int .i64]]⟩ (fun ((lit5, dist5, again_1, t3, t4, o17, o18, o19, o20, all2) : Int × Int × Int × Int × Int × Str × Int × Bool × (List ((Int × Int) × Int)) × List Int) => (t3 - t4).toNat + 1) 5 ⟨[.int .i64, .int .i64, .str, .int .i64, .bool, .map [.int .i64, .int .i64] [.int .i64], .list [.int .i64]], [(0, .ptr 0 0), (4, .sc (.int .i64)), (5, .sc (.int .i64)), (10, .map 1), (11, .full 2)], [.box [.sc .str, .sc (.int .i64), .sc .bool], .map [.int .i64, .int .i64] [.int .i64], .arr [.int .i64]]⟩ .u)))))))))) (.seq (.seq (.reg [.bool] [(131, .sc .bool)]) .u) .u)))))))))) rLengths.S d = rLengths.S.F d := fun _ => by kernel_rfl
theorem rLengths.sound : SoundS Tryz.prog C0 105 rLengths.S := sound_of_ev tyOk (tab_ok (l := [(101, rGet.S), (170, lensOk.S), (171, bookOf.S), (172, rSymbol.S)]) ⟨rGet.sound, lensOk.sound, bookOf.sound, rSymbol.sound, trivial⟩) Tryz.func105 (by kernel_rfl) (by kernel_rfl) (by kernel_rfl) rLengths.ev
def rPacked.S : Spec := ⟨1, [.ptr 0 0, .full 1, .sc (.list [.int .i64]), .sc (.list [.int .i64])], [.box [.sc .str, .sc (.int .i64), .sc .bool], .arr [.int .u8]], [.list [.int .i64], .list [.int .i64], .str, .int .i64, .bool, .list [.int .u8]], ⟨[.str, .int .i64, .bool, .list [.int .u8]], .full 1, [.box [.sc .str, .sc (.int .i64), .sc .bool], .arr [.int .u8]]⟩,
  fun ((lit, dist, s, at_, bad, out) : List Int × List Int × Str × Int × Bool × List Int) => rPacked lit dist s at_ bad out⟩
theorem rPacked.ev : ∀ d, evFn C0 (hnd (tab [(101, rGet.S), (161, longsOf.S), (163, backsOf.S), (170, lensOk.S), (171, bookOf.S), (172, rSymbol.S), (173, add.S)])) Tryz.f104 (.seq .u (.seq (.seq (.reg [.bool] [(29, .sc .bool)]) .u) (.seq .u (.seq (.blk (.loopS ⟨[.str, .int .i64, .bool, .list [.int .u8], .map [.int .i64, .int .i64] [.int .i64], .map [.int .i64, .int .i64] [.int .i64]], [(0, .ptr 0 0), (1, .full 1), (9, .map 2), (10, .map 3)], [.box [.sc .str, .sc (.int .i64), .sc .bool], .arr [.int .u8], .map [.int .i64, .int .i64] [.int .i64], .map [.int .i64, .int .i64] [.int .i64]]⟩ (fun ((o, o1, o2, out1, o3, o4) : Str × Int × Bool × List Int × (List ((Int × Int) × Int)) × List ((Int × Int) × Int)) => 100000) 0 ⟨[.str, .int .i64, .bool, .list [.int .u8]], [(1, .full 1)], [.box [.sc .str, .sc (.int .i64), .sc .bool], .arr [.int .u8]]⟩ (.seq (.seq (.reg [.bool] [(47, .sc .bool)]) .u) (.blk (.seq .u (.seq (.blk (.seq (.reg [.bool] [(51, .sc .bool)]) .u)) (.seq (.cm [(1, [0]), (2, [0]), (3, [0]), (4, [0]), (5, [0])]) (.seq .u (.seq .u (.seq (.cm [(1, [0]), (2, [0]), (3, [0]), (4, [0])]) (.seq .u (.seq (.seq (.reg [.bool] [(129, .sc .bool)]) .u) .u)))))))))))) .u)))) rPacked.S d = rPacked.S.F d := fun _ => by kernel_rfl
theorem rPacked.sound : SoundS Tryz.prog C0 104 rPacked.S := sound_of_ev tyOk (tab_ok (l := [(101, rGet.S), (161, longsOf.S), (163, backsOf.S), (170, lensOk.S), (171, bookOf.S), (172, rSymbol.S), (173, add.S)]) ⟨rGet.sound, longsOf.sound, backsOf.sound, lensOk.sound, bookOf.sound, rSymbol.sound, add.sound, trivial⟩) Tryz.func104 (by kernel_rfl) (by kernel_rfl) (by kernel_rfl) rPacked.ev
def rPackedBad.S : Spec := ⟨1, [.ptr 0 0, .full 1, .sc (.list [.int .i64]), .sc (.list [.int .i64])], [.box [.sc .str, .sc (.int .i64), .sc .bool], .arr [.int .u8]], [.list [.int .i64], .list [.int .i64], .str, .int .i64, .bool, .list [.int .u8]], ⟨[.str, .int .i64, .bool], .undef, [.box [.sc .str, .sc (.int .i64), .sc .bool]]⟩,
  fun ((lit, dist, s, at_, bad, out) : List Int × List Int × Str × Int × Bool × List Int) => rPackedBad lit dist s at_ bad out⟩
theorem rPackedBad.ev : ∀ d, evFn C0 (hnd (tab [(101, rGet.S), (161, longsOf.S), (163, backsOf.S), (170, lensOk.S), (171, bookOf.S), (172, rSymbol.S), (173, add.S)])) Tryz.f104 (.seq .u (.seq (.seq (.reg [.bool] [(29, .sc .bool)]) .u) (.seq .u (.seq (.blk (.loopS ⟨[.str, .int .i64, .bool, .list [.int .u8], .map [.int .i64, .int .i64] [.int .i64], .map [.int .i64, .int .i64] [.int .i64]], [(0, .ptr 0 0), (1, .full 1), (9, .map 2), (10, .map 3)], [.box [.sc .str, .sc (.int .i64), .sc .bool], .arr [.int .u8], .map [.int .i64, .int .i64] [.int .i64], .map [.int .i64, .int .i64] [.int .i64]]⟩ (fun ((o, o1, o2, out1, o3, o4) : Str × Int × Bool × List Int × (List ((Int × Int) × Int)) × List ((Int × Int) × Int)) => 100000) 0 ⟨[.str, .int .i64, .bool, .list [.int .u8]], [(1, .full 1)], [.box [.sc .str, .sc (.int .i64), .sc .bool], .arr [.int .u8]]⟩ (.seq (.seq (.reg [.bool] [(47, .sc .bool)]) .u) (.blk (.seq .u (.seq (.blk (.seq (.reg [.bool] [(51, .sc .bool)]) .u)) (.seq (.cm [(1, [0]), (2, [0]), (3, [0]), (4, [0]), (5, [0])]) (.seq .u (.seq .u (.seq (.cm [(1, [0]), (2, [0]), (3, [0]), (4, [0])]) (.seq .u (.seq (.seq (.reg [.bool] [(129, .sc .bool)]) .u) .u)))))))))))) .u)))) rPackedBad.S d = rPackedBad.S.F d := fun _ => by kernel_rfl
theorem rPackedBad.sound : SoundS Tryz.prog C0 104 rPackedBad.S := sound_of_ev tyOk (tab_ok (l := [(101, rGet.S), (161, longsOf.S), (163, backsOf.S), (170, lensOk.S), (171, bookOf.S), (172, rSymbol.S), (173, add.S)]) ⟨rGet.sound, longsOf.sound, backsOf.sound, lensOk.sound, bookOf.sound, rSymbol.sound, add.sound, trivial⟩) Tryz.func104 (by kernel_rfl) (by kernel_rfl) (by kernel_rfl) rPackedBad.ev
def flateGet.S : Spec := ⟨0, [.sc .str], [], [.str], ⟨[.str, .int .i64, .bool], .tup [.sc .str, .sc (.int .i64), .sc .bool], []⟩,
  fun (text : Str) => flateGet text⟩
theorem flateGet.ev : ∀ d, evFn C0 (hnd (tab [(100, rBit.S), (101, rGet.S), (102, rStored.S), (103, fixedLens.S), (104, rPacked.S), (104, rPackedBad.S), (105, rLengths.S), (106, rEven.S)])) Tryz.f50 (.seq .u (.seq .u (.seq .u (.seq .u (.seq (.seq .u (.blk (.loopS ⟨[.bool, .str, .int .i64, .bool, .list [.int .u8]], [(5, .ptr 0 0), (6, .full 1), (7, .sc .bool)], [.box [.sc .str, .sc (.int .i64), .sc .bool], .arr [.int .u8]]⟩ (fun ((last, o, o1, o2, out) : Bool × Str × Int × Bool × List Int) => 100000) 0 ⟨[.str, .int .i64, .bool, .list [.int .u8]], [(5, .ptr 0 0), (6, .full 1)], [.box [.sc .str, .sc (.int .i64), .sc .bool], .arr [.int .u8]]⟩ .u))) .u))))) flateGet.S d = flateGet.S.F d := fun _ => by kernel_rfl
theorem flateGet.sound : SoundS Tryz.prog C0 50 flateGet.S := sound_of_ev tyOk (tab_ok (l := [(100, rBit.S), (101, rGet.S), (102, rStored.S), (103, fixedLens.S), (104, rPacked.S), (104, rPackedBad.S), (105, rLengths.S), (106, rEven.S)]) ⟨rBit.sound, rGet.sound, rStored.sound, fixedLens.sound, rPacked.sound, rPackedBad.sound, rLengths.sound, rEven.sound, trivial⟩) Tryz.func50 (by kernel_rfl) (by kernel_rfl) (by kernel_rfl) flateGet.ev
def days.S : Spec := ⟨0, [.sc (.int .i64), .sc (.int .i64)], [], [.int .i64, .int .i64], ⟨[.int .i64], .sc (.int .i64), []⟩,
  fun ((year, month) : Int × Int) => days year month⟩
theorem days.ev : ∀ d, evFn C0 (hnd (tab [])) Tryz.f110 (.seq .u (.seq (.seq .u (.blk (.join ⟨[.int .i64, .int .i64, .bool], [(0, .sc (.int .i64)), (5, .sc (.int .i64)), (6, .sc .bool)], []⟩ .u (.cond .u (.seq .u (.cond (.seq (.seq (.reg [.bool] [(25, .sc .bool)]) .u) .u) .u)))))) .u)) days.S d = days.S.F d := fun _ => by kernel_rfl
theorem days.sound : SoundS Tryz.prog C0 110 days.S := sound_of_ev tyOk (tab_ok (l := []) trivial) Tryz.func110 (by kernel_rfl) (by kernel_rfl) (by kernel_rfl) days.ev
def stampOk.S : Spec := ⟨0, [.agg [.sc (.int .i64), .sc (.int .i64), .sc (.int .i64), .sc (.int .i64), .sc (.int .i64), .sc (.int .i64)]], [], [.int .i64, .int .i64, .int .i64, .int .i64, .int .i64, .int .i64], ⟨[.bool], .sc .bool, []⟩,
  fun ((y, mo, d, h, mi, sec) : Int × Int × Int × Int × Int × Int) => stampOk y mo d h mi sec⟩
theorem stampOk.ev : ∀ d, evFn C0 (hnd (tab [(109, within.S), (110, days.S)])) Tryz.f52 (.seq .u (.seq (.reg [.bool] [(2, .sc .bool)]) .u)) stampOk.S d = stampOk.S.F d := fun _ => by kernel_rfl
theorem stampOk.sound : SoundS Tryz.prog C0 52 stampOk.S := sound_of_ev tyOk (tab_ok (l := [(109, within.S), (110, days.S)]) ⟨within.sound, days.sound, trivial⟩) Tryz.func52 (by kernel_rfl) (by kernel_rfl) (by kernel_rfl) stampOk.ev
def stampPut.S : Spec := ⟨0, [.agg [.sc (.int .i64), .sc (.int .i64), .sc (.int .i64), .sc (.int .i64), .sc (.int .i64), .sc (.int .i64)]], [], [.int .i64, .int .i64, .int .i64, .int .i64, .int .i64, .int .i64], ⟨[.int .i64], .sc (.int .i64), []⟩,
  fun ((y, mo, d, h, mi, sec) : Int × Int × Int × Int × Int × Int) => stampPut y mo d h mi sec⟩
theorem stampPut.ev : ∀ d, evFn C0 (hnd (tab [(52, stampOk.S)])) Tryz.f95 .u stampPut.S d = stampPut.S.F d := fun _ => by kernel_rfl
theorem stampPut.sound : SoundS Tryz.prog C0 95 stampPut.S := sound_of_ev tyOk (tab_ok (l := [(52, stampOk.S)]) ⟨stampOk.sound, trivial⟩) Tryz.func95 (by kernel_rfl) (by kernel_rfl) (by kernel_rfl) stampPut.ev
def stampGet.S : Spec := ⟨0, [.sc (.int .i64)], [], [.int .i64], ⟨[.int .i64, .int .i64, .int .i64, .int .i64, .int .i64, .int .i64, .bool], .tup [.agg [.sc (.int .i64), .sc (.int .i64), .sc (.int .i64), .sc (.int .i64), .sc (.int .i64), .sc (.int .i64)], .sc .bool], []⟩,
  fun (n : Int) => stampGet n⟩
theorem stampGet.ev : ∀ d, evFn C0 (hnd (tab [(95, stampPut.S)])) Tryz.f49 .u stampGet.S d = stampGet.S.F d := fun _ => by kernel_rfl
theorem stampGet.sound : SoundS Tryz.prog C0 49 stampGet.S := sound_of_ev tyOk (tab_ok (l := [(95, stampPut.S)]) ⟨stampPut.sound, trivial⟩) Tryz.func49 (by kernel_rfl) (by kernel_rfl) (by kernel_rfl) stampGet.ev
def entryOk.S : Spec := ⟨0, [.agg [.sc .str, .sc (.int .i64), .sc (.int .i64), .sc (.int .i64), .sc (.int .i64), .sc (.int .i64), .sc (.int .i64), .sc .str]], [], [.str, .int .i64, .int .i64, .int .i64, .int .i64, .int .i64, .int .i64, .str], ⟨[.bool], .sc .bool, []⟩,
  fun ((name, y, mo, d, h, mi, sec, text) : Str × Int × Int × Int × Int × Int × Int × Str) => entryOk name y mo d h mi sec text⟩
theorem entryOk.ev : ∀ d, evFn C0 (hnd (tab [(51, implNameOk.S), (52, stampOk.S)])) Tryz.f19 (.seq .u (.seq (.reg [.bool] [(2, .sc .bool)]) .u)) entryOk.S d = entryOk.S.F d := fun _ => by kernel_rfl
theorem entryOk.sound : SoundS Tryz.prog C0 19 entryOk.S := sound_of_ev tyOk (tab_ok (l := [(51, implNameOk.S), (52, stampOk.S)]) ⟨implNameOk.sound, stampOk.sound, trivial⟩) Tryz.func19 (by kernel_rfl) (by kernel_rfl) (by kernel_rfl) entryOk.ev
def number.S : Spec := ⟨0, [.sc (.int .i64), .sc (.int .i64)], [], [.int .i64, .int .i64], ⟨[.str], .sc .str, []⟩,
  fun ((n, bytes) : Int × Int) => number n bytes⟩
theorem number.ev : ∀ d, evFn C0 (hnd (tab [])) Tryz.f94 (.seq .u (.seq .u (.seq (.seq .u (.blk (.loop ⟨[.int .i64, .int .i64, .int .i64, .list [.int .u8]], [(0, .sc (.int .i64)), (5, .full 0), (7, .sc (.int .i64)), (8, .sc (.int .i64))], [.arr [.int .u8]]⟩ (fun ((n1, t, t1, out) : Int × Int × Int × List Int) => (t - t1).toNat + 1) 0 ⟨[.list [.int .u8]], [(5, .full 0)], [.arr [.int .u8]]⟩ .u))) .u))) number.S d = number.S.F d := fun _ => by kernel_rfl
theorem number.sound : SoundS Tryz.prog C0 94 number.S := sound_of_ev tyOk (tab_ok (l := []) trivial) Tryz.func94 (by kernel_rfl) (by kernel_rfl) (by kernel_rfl) number.ev
def numberAt.S : Spec := ⟨0, [.sc .str, .sc (.int .i64), .sc (.int .i64)], [], [.str, .int .i64, .int .i64], ⟨[.int .i64], .sc (.int .i64), []⟩,
  fun ((s, at_, bytes) : Str × Int × Int) => numberAt s at_ bytes⟩
theorem numberAt.ev : ∀ d, evFn C0 (hnd (tab [])) Tryz.f48 (.seq .u (.seq .u (.seq (.seq .u (.blk (.loop ⟨[.str, .int .i64, .int .i64, .int .i64], [(0, .sc .str), (1, .sc (.int .i64)), (7, .sc (.int .i64)), (8, .sc (.int .i64))], []⟩ (fun ((s1, at_1, n, k) : Str × Int × Int × Int) => (k - 0).toNat + 2) 0 ⟨[.int .i64], [(7, .sc (.int .i64))], []⟩ .u))) .u))) numberAt.S d = numberAt.S.F d := fun _ => by kernel_rfl
theorem numberAt.sound : SoundS Tryz.prog C0 48 numberAt.S := sound_of_ev tyOk (tab_ok (l := []) trivial) Tryz.func48 (by kernel_rfl) (by kernel_rfl) (by kernel_rfl) numberAt.ev
def headOf.S : Spec := ⟨0, [.agg [.sc .str, .sc (.int .i64), .sc (.int .i64), .sc (.int .i64), .sc (.int .i64), .sc (.int .i64), .sc (.int .i64), .sc .str], .sc (.int .i64), .sc (.int .i64)], [], [.str, .int .i64, .int .i64, .int .i64, .int .i64, .int .i64, .int .i64, .str, .int .i64, .int .i64], ⟨[.str], .sc .str, []⟩,
  fun ((name, y, mo, d, h, mi, sec, text, method, packed) : Str × Int × Int × Int × Int × Int × Int × Str × Int × Int) => headOf name y mo d h mi sec text method packed⟩
theorem headOf.ev : ∀ d, evFn C0 (hnd (tab [(94, number.S), (95, stampPut.S), (96, crc.S)])) Tryz.f46 .u headOf.S d = headOf.S.F d := fun _ => by kernel_rfl
theorem headOf.sound : SoundS Tryz.prog C0 46 headOf.S := sound_of_ev tyOk (tab_ok (l := [(94, number.S), (95, stampPut.S), (96, crc.S)]) ⟨number.sound, stampPut.sound, crc.sound, trivial⟩) Tryz.func46 (by kernel_rfl) (by kernel_rfl) (by kernel_rfl) headOf.ev
def localGet.S : Spec := ⟨0, [.sc .str], [], [.str], ⟨[.str, .int .i64, .int .i64, .int .i64, .int .i64, .int .i64, .int .i64, .str, .int .i64, .bool], .tup [.agg [.sc .str, .sc (.int .i64), .sc (.int .i64), .sc (.int .i64), .sc (.int .i64), .sc (.int .i64), .sc (.int .i64), .sc .str], .sc (.int .i64), .sc .bool], []⟩,
  fun (text : Str) => localGet text⟩
theorem localGet.ev : ∀ d, evFn C0 (hnd (tab [(19, entryOk.S), (46, headOf.S), (48, numberAt.S), (49, stampGet.S), (50, flateGet.S)])) Tryz.f18 (.seq .u (.seq .u (.seq .u (.seq .u (.seq (.seq (.reg [.bool] [(36, .sc .bool)]) .u) (.seq .u (.seq .u (.joinS ⟨[.str, .int .i64, .int .i64, .int .i64, .str, .int .i64, .int .i64, .int .i64, .int .i64, .int .i64, .int .i64, .str, .str, .int .i64, .int .i64, .int .i64, .int .i64, .int .i64, .int .i64, .str], [(0, .sc .str), (2, .ptr 0 0), (5, .sc (.int .i64)), (6, .sc (.int .i64)), (7, .sc (.int .i64)), (9, .ptr 1 0)], [.box [.sc .str, .sc (.int .i64), .sc (.int .i64), .sc (.int .i64), .sc (.int .i64), .sc (.int .i64), .sc (.int .i64), .sc .str], .box [.sc .str, .sc (.int .i64), .sc (.int .i64), .sc (.int .i64), .sc (.int .i64), .sc (.int .i64), .sc (.int .i64), .sc .str]]⟩ (.seq .u (.blk (.seq .u (.cond .u (.seq .u (.cond (.seq .u (.seq (.seq (.reg [.bool] [(74, .sc .bool)]) .u) .u)) .u)))))) (.seq (.seq (.reg [.bool] [(89, .sc .bool)]) .u) .u))))))))) localGet.S d = localGet.S.F d := fun _ => by kernel_rfl
theorem localGet.sound : SoundS Tryz.prog C0 18 localGet.S := sound_of_ev tyOk (tab_ok (l := [(19, entryOk.S), (46, headOf.S), (48, numberAt.S), (49, stampGet.S), (50, flateGet.S)]) ⟨entryOk.sound, headOf.sound, numberAt.sound, stampGet.sound, flateGet.sound, trivial⟩) Tryz.func18 (by kernel_rfl) (by kernel_rfl) (by kernel_rfl) localGet.ev
def namesOf.S : Spec := ⟨0, [.sc (.list [.str, .int .i64, .int .i64, .int .i64, .int .i64, .int .i64, .int .i64, .str])], [], [.list [.str, .int .i64, .int .i64, .int .i64, .int .i64, .int .i64, .int .i64, .str]], ⟨[.list [.str]], .full 0, [.arr [.str]]⟩,
  fun (list : List (Str × Int × Int × Int × Int × Int × Int × Str)) => namesOf list⟩
theorem namesOf.ev : ∀ d, evFn C0 (hnd (tab [])) Tryz.f144 (.seq .u (.seq .u (.seq (.seq .u (.blk (.loop ⟨[.list [.str, .int .i64, .int .i64, .int .i64, .int .i64, .int .i64, .int .i64, .str], .int .i64, .int .i64, .list [.str]], [(3, .full 0), (7, .sc (.list [.str, .int .i64, .int .i64, .int .i64, .int .i64, .int .i64, .int .i64, .str])), (8, .sc (.int .i64)), (9, .sc (.int .i64))], [.arr [.str]]⟩ (fun ((t, t1, t2, out) : (List (Str × Int × Int × Int × Int × Int × Int × Str)) × Int × Int × List Str) => (t1 - t2).toNat + 1) 0 ⟨[.list [.str]], [(3, .full 0)], [.arr [.str]]⟩ .u))) .u))) namesOf.S d = namesOf.S.F d := fun _ => by kernel_rfl
theorem namesOf.sound : SoundS Tryz.prog C0 144 namesOf.S := sound_of_ev tyOk (tab_ok (l := []) trivial) Tryz.func144 (by kernel_rfl) (by kernel_rfl) (by kernel_rfl) namesOf.ev
def zipOk.S : Spec := ⟨0, [.sc (.list [.str, .int .i64, .int .i64, .int .i64, .int .i64, .int .i64, .int .i64, .str])], [], [.list [.str, .int .i64, .int .i64, .int .i64, .int .i64, .int .i64, .int .i64, .str]], ⟨[.bool], .sc .bool, []⟩,
  fun (list : List (Str × Int × Int × Int × Int × Int × Int × Str)) => zipOk list⟩
theorem zipOk.ev : ∀ d, evFn C0 (hnd (tab [(19, entryOk.S), (74, apart.S), (144, namesOf.S)])) Tryz.f76 (.seq .u (.seq (.seq .u (.blk (.loopS ⟨[.list [.str, .int .i64, .int .i64, .int .i64, .int .i64, .int .i64, .int .i64, .str], .list [.str, .int .i64, .int .i64, .int .i64, .int .i64, .int .i64, .int .i64, .str], .int .i64, .int .i64], [(0, .sc (.list [.str, .int .i64, .int .i64, .int .i64, .int .i64, .int .i64, .int .i64, .str])), (5, .sc (.list [.str, .int .i64, .int .i64, .int .i64, .int .i64, .int .i64, .int .i64, .str])), (6, .sc (.int .i64)), (7, .sc (.int .i64))], []⟩ (fun ((list1, t, t1, t2) : (List (Str × Int × Int × Int × Int × Int × Int × Str)) × (List (Str × Int × Int × Int × Int × Int × Int × Str)) × Int × Int) => (t1 - t2).toNat + 1) 0 ⟨[.list [.str, .int .i64, .int .i64, .int .i64, .int .i64, .int .i64, .int .i64, .str]], [(0, .sc (.list [.str, .int .i64, .int .i64, .int .i64, .int .i64, .int .i64, .int .i64, .str]))], []⟩ .u))) .u)) zipOk.S d = zipOk.S.F d := fun _ => by kernel_rfl
theorem zipOk.sound : SoundS Tryz.prog C0 76 zipOk.S := sound_of_ev tyOk (tab_ok (l := [(19, entryOk.S), (74, apart.S), (144, namesOf.S)]) ⟨entryOk.sound, apart.sound, namesOf.sound, trivial⟩) Tryz.func76 (by kernel_rfl) (by kernel_rfl) (by kernel_rfl) zipOk.ev
def closing.S : Spec := ⟨0, [.sc (.list [.str])], [], [.list [.str]], ⟨[.str], .sc .str, []⟩,
  fun (locals : List Str) => closing locals⟩
theorem closing.ev : ∀ d, evFn C0 (hnd (tab [(48, numberAt.S), (94, number.S)])) Tryz.f78 (.seq .u (.seq .u (.seq .u (.seq (.seq .u (.blk (.loop ⟨[.list [.str], .str, .int .i64, .list [.str], .int .i64, .int .i64], [(0, .sc (.list [.str])), (3, .sc .str), (4, .sc (.int .i64)), (9, .sc (.list [.str])), (10, .sc (.int .i64)), (11, .sc (.int .i64))], []⟩ (fun ((locals1, heads, at_, t, t1, t2) : List Str × Str × Int × List Str × Int × Int) => (t1 - t2).toNat + 1) 0 ⟨[.list [.str], .str, .int .i64], [(0, .sc (.list [.str])), (3, .sc .str), (4, .sc (.int .i64))], []⟩ .u))) .u)))) closing.S d = closing.S.F d := fun _ => by kernel_rfl
theorem closing.sound : SoundS Tryz.prog C0 78 closing.S := sound_of_ev tyOk (tab_ok (l := [(48, numberAt.S), (94, number.S)]) ⟨numberAt.sound, number.sound, trivial⟩) Tryz.func78 (by kernel_rfl) (by kernel_rfl) (by kernel_rfl) closing.ev
def zipGet.S : Spec := ⟨0, [.sc .str], [], [.str], ⟨[.bool, .list [.str, .int .i64, .int .i64, .int .i64, .int .i64, .int .i64, .int .i64, .str]], .tup [.full 0, .sc .bool], [.arr [.str, .int .i64, .int .i64, .int .i64, .int .i64, .int .i64, .int .i64, .str]]⟩,
  fun (text : Str) => zipGet text⟩
theorem zipGet.ev : ∀ d, evFn C0 (hnd (tab [(18, localGet.S), (76, zipOk.S), (78, closing.S)])) Tryz.f42 (.seq .u (.seq .u (.seq .u (.seq .u (.seq (.blk (.loop ⟨[.str, .list [.str, .int .i64, .int .i64, .int .i64, .int .i64, .int .i64, .int .i64, .str], .list [.str]], [(4, .full 0), (5, .full 1), (6, .sc .str)], [.arr [.str, .int .i64, .int .i64, .int .i64, .int .i64, .int .i64, .int .i64, .str], .arr [.str]]⟩ (fun ((rest, out, locals) : Str × (List (Str × Int × Int × Int × Int × Int × Int × Str)) × List Str) => (6 - (out.length : Int)).toNat + 1) 0 ⟨[.str, .list [.str, .int .i64, .int .i64, .int .i64, .int .i64, .int .i64, .int .i64, .str], .list [.str]], [(4, .full 0), (5, .full 1), (6, .sc .str)], [.arr [.str, .int .i64, .int .i64, .int .i64, .int .i64, .int .i64, .int .i64, .str], .arr [.str]]⟩ .u)) (.seq (.seq (.reg [.bool] [(45, .sc .bool)]) .u) .u)))))) zipGet.S d = zipGet.S.F d := fun _ => by kernel_rfl
theorem zipGet.sound : SoundS Tryz.prog C0 42 zipGet.S := sound_of_ev tyOk (tab_ok (l := [(18, localGet.S), (76, zipOk.S), (78, closing.S)]) ⟨localGet.sound, zipOk.sound, closing.sound, trivial⟩) Tryz.func42 (by kernel_rfl) (by kernel_rfl) (by kernel_rfl) zipGet.ev
def itoa.S : Spec := itoaSpec
theorem itoa.sound : SoundS Tryz.prog C0 62 itoa.S := itoa_sound Tryz.laysM171 (g := 5) (by kernel_rfl) (by kernel_rfl) Tryz.func62 (by kernel_rfl) (by kernel_rfl)
def index0N.S : Spec := ⟨0, [.sc .str, .cstr [10]], [], [.str], ⟨[.int .i64], .sc (.int .i64), []⟩,
  fun (s : Str) => index0N s⟩
theorem index0N.ev : ∀ d, evFn C0 (hnd (tab [(234, indexByte0.S)])) Tryz.f197 (.seq .u (.seq .u (.seq (.blk (.seq (.reg [.bool] [(16, .sc .bool)]) .u)) .u))) index0N.S d = index0N.S.F d := fun _ => by kernel_rfl
theorem index0N.sound : SoundS Tryz.prog C0 197 index0N.S := sound_of_ev tyOk (tab_ok (l := [(234, indexByte0.S)]) ⟨indexByte0.sound, trivial⟩) Tryz.func197 (by kernel_rfl) (by kernel_rfl) (by kernel_rfl) index0N.ev
def index0B.S : Spec := ⟨0, [.sc .str, .cstr [32]], [], [.str], ⟨[.int .i64], .sc (.int .i64), []⟩,
  fun (s : Str) => index0B s⟩
theorem index0B.ev : ∀ d, evFn C0 (hnd (tab [(234, indexByte0.S)])) Tryz.f197 (.seq .u (.seq .u (.seq (.blk (.seq (.reg [.bool] [(16, .sc .bool)]) .u)) .u))) index0B.S d = index0B.S.F d := fun _ => by kernel_rfl
theorem index0B.sound : SoundS Tryz.prog C0 197 index0B.S := sound_of_ev tyOk (tab_ok (l := [(234, indexByte0.S)]) ⟨indexByte0.sound, trivial⟩) Tryz.func197 (by kernel_rfl) (by kernel_rfl) (by kernel_rfl) index0B.ev
def cutNl0.S : Spec := ⟨0, [.sc .str, .cstr [10]], [], [.str], ⟨[.str, .str, .bool], .tup [.sc .str, .sc .str, .sc .bool], []⟩,
  fun (s : Str) => cutNl0 s⟩
theorem cutNl0.ev : ∀ d, evFn C0 (hnd (tab [(197, index0S.S), (197, index0N.S), (197, index0B.S)])) Tryz.f142 .u cutNl0.S d = cutNl0.S.F d := fun _ => by kernel_rfl
theorem cutNl0.sound : SoundS Tryz.prog C0 142 cutNl0.S := sound_of_ev tyOk (tab_ok (l := [(197, index0S.S), (197, index0N.S), (197, index0B.S)]) ⟨index0S.sound, index0N.sound, index0B.sound, trivial⟩) Tryz.func142 (by kernel_rfl) (by kernel_rfl) (by kernel_rfl) cutNl0.ev
def cutBl0.S : Spec := ⟨0, [.sc .str, .cstr [32]], [], [.str], ⟨[.str, .str, .bool], .tup [.sc .str, .sc .str, .sc .bool], []⟩,
  fun (s : Str) => cutBl0 s⟩
theorem cutBl0.ev : ∀ d, evFn C0 (hnd (tab [(197, index0S.S), (197, index0N.S), (197, index0B.S)])) Tryz.f142 .u cutBl0.S d = cutBl0.S.F d := fun _ => by kernel_rfl
theorem cutBl0.sound : SoundS Tryz.prog C0 142 cutBl0.S := sound_of_ev tyOk (tab_ok (l := [(197, index0S.S), (197, index0N.S), (197, index0B.S)]) ⟨index0S.sound, index0N.sound, index0B.sound, trivial⟩) Tryz.func142 (by kernel_rfl) (by kernel_rfl) (by kernel_rfl) cutBl0.ev
def cutNl.S : Spec := ⟨0, [.sc .str, .cstr [10]], [], [.str], ⟨[.str, .str, .bool], .tup [.sc .str, .sc .str, .sc .bool], []⟩,
  fun (s : Str) => cutNl s⟩
theorem cutNl.ev : ∀ d, evFn C0 (hnd (tab [(142, cutNl0.S), (142, cutBl0.S)])) Tryz.f72 .u cutNl.S d = cutNl.S.F d := fun _ => by kernel_rfl
theorem cutNl.sound : SoundS Tryz.prog C0 72 cutNl.S := sound_of_ev tyOk (tab_ok (l := [(142, cutNl0.S), (142, cutBl0.S)]) ⟨cutNl0.sound, cutBl0.sound, trivial⟩) Tryz.func72 (by kernel_rfl) (by kernel_rfl) (by kernel_rfl) cutNl.ev
def cutBl.S : Spec := ⟨0, [.sc .str, .cstr [32]], [], [.str], ⟨[.str, .str, .bool], .tup [.sc .str, .sc .str, .sc .bool], []⟩,
  fun (s : Str) => cutBl s⟩
theorem cutBl.ev : ∀ d, evFn C0 (hnd (tab [(142, cutNl0.S), (142, cutBl0.S)])) Tryz.f72 .u cutBl.S d = cutBl.S.F d := fun _ => by kernel_rfl
theorem cutBl.sound : SoundS Tryz.prog C0 72 cutBl.S := sound_of_ev tyOk (tab_ok (l := [(142, cutNl0.S), (142, cutBl0.S)]) ⟨cutNl0.sound, cutBl0.sound, trivial⟩) Tryz.func72 (by kernel_rfl) (by kernel_rfl) (by kernel_rfl) cutBl.ev
def archive.S : Spec := ⟨0, [.sc .str], [], [.str], ⟨[.bool], .sc .bool, []⟩,
  fun (text : Str) => archive text⟩
theorem archive.ev : ∀ d, evFn C0 (hnd (tab [(42, zipGet.S)])) Tryz.f61 .u archive.S d = archive.S.F d := fun _ => by kernel_rfl
theorem archive.sound : SoundS Tryz.prog C0 61 archive.S := sound_of_ev tyOk (tab_ok (l := [(42, zipGet.S)]) ⟨zipGet.sound, trivial⟩) Tryz.func61 (by kernel_rfl) (by kernel_rfl) (by kernel_rfl) archive.ev
def diskOk.S : Spec := ⟨0, [.agg [.sc .str, .sc .str]], [], [.str, .str], ⟨[.bool], .sc .bool, []⟩,
  fun ((text, log) : Str × Str) => diskOk text log⟩
theorem diskOk.ev : ∀ d, evFn C0 (hnd (tab [(61, archive.S)])) Tryz.f60 (.seq .u (.seq (.reg [.bool] [(2, .sc .bool)]) .u)) diskOk.S d = diskOk.S.F d := fun _ => by kernel_rfl
theorem diskOk.sound : SoundS Tryz.prog C0 60 diskOk.S := sound_of_ev tyOk (tab_ok (l := [(61, archive.S)]) ⟨archive.sound, trivial⟩) Tryz.func60 (by kernel_rfl) (by kernel_rfl) (by kernel_rfl) diskOk.ev
def diskTear.S : Spec := ⟨0, [.agg [.sc .str, .sc .str], .sc .str, .sc (.int .i64)], [], [.str, .str, .str, .int .i64], ⟨[.str, .str], .agg [.sc .str, .sc .str], []⟩,
  fun ((dtext, dlog, text, bytes) : Str × Str × Str × Int) => diskTear dtext dlog text bytes⟩
theorem diskTear.ev : ∀ d, evFn C0 (hnd (tab [(60, diskOk.S), (61, archive.S), (62, itoa.S)])) Tryz.f25 (.seq .u (.seq (.seq (.reg [.bool] [(15, .sc .bool)]) .u) .u)) diskTear.S d = diskTear.S.F d := fun _ => by kernel_rfl
theorem diskTear.sound : SoundS Tryz.prog C0 25 diskTear.S := sound_of_ev tyOk (tab_ok (l := [(60, diskOk.S), (61, archive.S), (62, itoa.S)]) ⟨diskOk.sound, archive.sound, itoa.sound, trivial⟩) Tryz.func25 (by kernel_rfl) (by kernel_rfl) (by kernel_rfl) diskTear.ev
def diskRise.S : Spec := ⟨0, [.agg [.sc .str, .sc .str]], [], [.str, .str], ⟨[.str, .str, .bool], .tup [.agg [.sc .str, .sc .str], .sc .bool], []⟩,
  fun ((text, log) : Str × Str) => diskRise text log⟩
theorem diskRise.ev : ∀ d, evFn C0 (hnd (tab [(61, archive.S), (62, itoa.S), (72, cutNl.S), (72, cutBl.S)])) Tryz.f31 (.seq .u (.seq .u (.seq (.seq (.reg [.bool] [(22, .sc .bool)]) .u) .u))) diskRise.S d = diskRise.S.F d := fun _ => by kernel_rfl
theorem diskRise.sound : SoundS Tryz.prog C0 31 diskRise.S := sound_of_ev tyOk (tab_ok (l := [(61, archive.S), (62, itoa.S), (72, cutNl.S), (72, cutBl.S)]) ⟨archive.sound, itoa.sound, cutNl.sound, cutBl.sound, trivial⟩) Tryz.func31 (by kernel_rfl) (by kernel_rfl) (by kernel_rfl) diskRise.ev
def l1Dec.S : Spec := ⟨0, [.sc (.int .i64)], [], [.int .i64], ⟨[.str], .sc .str, []⟩,
  fun (n : Int) => l1Dec n⟩
def l1Dec.SF (k_ : Nat) : Spec := ⟨0, [.sc (.int .i64)], [], [.int .i64], ⟨[.str], .sc .str, []⟩,
  fun (n : Int) => l1DecF k_ n⟩
theorem l1Dec.ev (k_ : Nat) : ∀ d, evFn C0 (hnd (tab [(117, l1Dec.SF k_)])) Tryz.f117 .u (l1Dec.SF (k_ + 1)) d = (l1Dec.SF (k_ + 1)).F d := fun _ => by kernel_rfl
theorem l1Dec.soundF : ∀ k_ : Nat, SoundS Tryz.prog C0 117 (l1Dec.SF k_)
 | 0 => ⟨rfl, fun _ _ h => by cases h⟩
 | k_ + 1 => sound_of_ev tyOk (tab_ok (l := [(117, l1Dec.SF k_)]) ⟨l1Dec.soundF k_, trivial⟩) Tryz.func117 (by kernel_rfl) (by kernel_rfl) (by kernel_rfl) (l1Dec.ev k_)
theorem l1Dec.sound : SoundS Tryz.prog C0 117 l1Dec.S := l1Dec.soundF 30
end Ev
end
section
open Go Go.Proofs
set_option maxRecDepth 100000
namespace Ev
set_option maxHeartbeats 1000000
set_option linter.unusedVariables false
def l1Num.S : Spec := ⟨0, [.sc .str], [], [.str], ⟨[.int .i64], .sc (.int .i64), []⟩,
  fun (s : Str) => l1Num s⟩
theorem l1Num.ev : ∀ d, evFn C0 (hnd (tab [])) Tryz.f71 (.seq .u (.seq .u (.seq (.seq .u (.blk (.loopS ⟨[.str, .int .i64, .int .i64], [(0, .sc .str), (3, .sc (.int .i64)), (4, .sc (.int .i64))], []⟩ (fun ((s1, n, i) : Str × Int × Int) => ((s1.length : Int) - i).toNat + 1) 0 ⟨[.str, .int .i64], [(0, .sc .str), (3, .sc (.int .i64))], []⟩ (.seq .u (.seq (.blk (.seq (.seq (.reg [.bool] [(24, .sc .bool)]) .u) .u)) .u))))) (.seq (.seq (.reg [.bool] [(45, .sc .bool)]) .u) .u)))) l1Num.S d = l1Num.S.F d := fun _ => by kernel_rfl
theorem l1Num.sound : SoundS Tryz.prog C0 71 l1Num.S := sound_of_ev tyOk (tab_ok (l := []) trivial) Tryz.func71 (by kernel_rfl) (by kernel_rfl) (by kernel_rfl) l1Num.ev
def l1Pow.S : Spec := ⟨0, [.sc (.int .i64)], [], [.int .i64], ⟨[.int .i64], .sc (.int .i64), []⟩,
  fun (n : Int) => l1Pow n⟩
theorem l1Pow.ev : ∀ d, evFn C0 (hnd (tab [])) Tryz.f254 (.seq .u (.seq .u (.seq (.blk (.loop ⟨[.int .i64, .int .i64], [(0, .sc (.int .i64)), (3, .sc (.int .i64))], []⟩ (fun ((n1, out) : Int × Int) => (n1 - 0).toNat + 1) 0 ⟨[.int .i64], [(3, .sc (.int .i64))], []⟩ .u)) .u))) l1Pow.S d = l1Pow.S.F d := fun _ => by kernel_rfl
theorem l1Pow.sound : SoundS Tryz.prog C0 254 l1Pow.S := sound_of_ev tyOk (tab_ok (l := []) trivial) Tryz.func254 (by kernel_rfl) (by kernel_rfl) (by kernel_rfl) l1Pow.ev
def sBit.S : Spec := ⟨1, [.ptr 0 0], [.box [.sc .str, .sc (.int .i64), .sc .bool]], [.str, .int .i64, .bool], ⟨[.int .i64, .str, .int .i64, .bool], .sc (.int .i64), [.box [.sc .str, .sc (.int .i64), .sc .bool]]⟩,
  fun ((s, at_, bad) : Str × Int × Bool) => sBit s at_ bad⟩
theorem sBit.ev : ∀ d, evFn C0 (hnd (tab [(254, l1Pow.S)])) Tryz.f277 .u sBit.S d = sBit.S.F d := fun _ => by kernel_rfl
theorem sBit.sound : SoundS Tryz.prog C0 277 sBit.S := sound_of_ev tyOk (tab_ok (l := [(254, l1Pow.S)]) ⟨l1Pow.sound, trivial⟩) Tryz.func277 (by kernel_rfl) (by kernel_rfl) (by kernel_rfl) sBit.ev
def sNum.S : Spec := ⟨1, [.ptr 0 0, .sc (.int .i64)], [.box [.sc .str, .sc (.int .i64), .sc .bool]], [.int .i64, .str, .int .i64, .bool], ⟨[.int .i64, .str, .int .i64, .bool], .sc (.int .i64), [.box [.sc .str, .sc (.int .i64), .sc .bool]]⟩,
  fun ((bits, s, at_, bad) : Int × Str × Int × Bool) => sNum bits s at_ bad⟩
theorem sNum.ev : ∀ d, evFn C0 (hnd (tab [(254, l1Pow.S), (277, sBit.S)])) Tryz.f278 (.seq .u (.seq .u (.seq (.seq .u (.blk (.loop ⟨[.int .i64, .int .i64, .int .i64, .str, .int .i64, .bool], [(0, .ptr 0 0), (1, .sc (.int .i64)), (5, .sc (.int .i64)), (6, .sc (.int .i64))], [.box [.sc .str, .sc (.int .i64), .sc .bool]]⟩ (fun ((bits1, n, k, o, o1, o2) : Int × Int × Int × Str × Int × Bool) => (bits1 - k).toNat + 1) 0 ⟨[.int .i64, .str, .int .i64, .bool], [(5, .sc (.int .i64))], [.box [.sc .str, .sc (.int .i64), .sc .bool]]⟩ .u))) .u))) sNum.S d = sNum.S.F d := fun _ => by kernel_rfl
theorem sNum.sound : SoundS Tryz.prog C0 278 sNum.S := sound_of_ev tyOk (tab_ok (l := [(254, l1Pow.S), (277, sBit.S)]) ⟨l1Pow.sound, sBit.sound, trivial⟩) Tryz.func278 (by kernel_rfl) (by kernel_rfl) (by kernel_rfl) sNum.ev
def sWhole.S : Spec := ⟨1, [.ptr 0 0], [.box [.sc .str, .sc (.int .i64), .sc .bool]], [.str, .int .i64, .bool], ⟨[.bool, .str, .int .i64, .bool], .sc .bool, [.box [.sc .str, .sc (.int .i64), .sc .bool]]⟩,
  fun ((s, at_, bad) : Str × Int × Bool) => sWhole s at_ bad⟩
theorem sWhole.ev : ∀ d, evFn C0 (hnd (tab [(277, sBit.S)])) Tryz.f270 (.seq .u (.seq .u (.seq (.blk (.loop ⟨[.int .i64, .str, .int .i64, .bool], [(0, .ptr 0 0), (3, .sc (.int .i64))], [.box [.sc .str, .sc (.int .i64), .sc .bool]]⟩ (fun ((n, o, o1, o2) : Int × Str × Int × Bool) => 9) 0 ⟨[.int .i64, .str, .int .i64, .bool], [(3, .sc (.int .i64))], [.box [.sc .str, .sc (.int .i64), .sc .bool]]⟩ .u)) .u))) sWhole.S d = sWhole.S.F d := fun _ => by kernel_rfl
theorem sWhole.sound : SoundS Tryz.prog C0 270 sWhole.S := sound_of_ev tyOk (tab_ok (l := [(277, sBit.S)]) ⟨sBit.sound, trivial⟩) Tryz.func270 (by kernel_rfl) (by kernel_rfl) (by kernel_rfl) sWhole.ev
def l2Step.S : Spec := ⟨0, [.sc (.int .u32), .sc (.int .u8)], [], [.int .u32, .int .u8], ⟨[.int .u32], .sc (.int .u32), []⟩,
  fun ((c, b) : Int × Int) => l2Step c b⟩
theorem l2Step.ev : ∀ d, evFn C0 (hnd (tab [])) Tryz.f223 (.seq .u (.seq .u (.seq (.seq .u (.blk (.loop ⟨[.int .u32, .int .i64], [(0, .sc (.int .u32)), (5, .sc (.int .i64))], []⟩ (fun ((c1, k) : Int × Int) => (8 - k).toNat + 1) 0 ⟨[.int .u32], [(0, .sc (.int .u32))], []⟩ .u))) .u))) l2Step.S d = l2Step.S.F d := fun _ => by kernel_rfl
theorem l2Step.sound : SoundS Tryz.prog C0 223 l2Step.S := sound_of_ev tyOk (tab_ok (l := []) trivial) Tryz.func223 (by kernel_rfl) (by kernel_rfl) (by kernel_rfl) l2Step.ev
def l2More.S : Spec := ⟨0, [.sc (.int .u32), .sc .str], [], [.int .u32, .str], ⟨[.int .u32], .sc (.int .u32), []⟩,
  fun ((crc_, text) : Int × Str) => l2More crc_ text⟩
theorem l2More.ev : ∀ d, evFn C0 (hnd (tab [(223, l2Step.S)])) Tryz.f192 (.seq .u (.seq .u (.seq (.seq .u (.blk (.loop ⟨[.str, .int .u32, .int .i64], [(1, .sc .str), (5, .sc (.int .u32)), (6, .sc (.int .i64))], []⟩ (fun ((text1, c, i) : Str × Int × Int) => ((text1.length : Int) - i).toNat + 1) 0 ⟨[.int .u32], [(5, .sc (.int .u32))], []⟩ .u))) .u))) l2More.S d = l2More.S.F d := fun _ => by kernel_rfl
theorem l2More.sound : SoundS Tryz.prog C0 192 l2More.S := sound_of_ev tyOk (tab_ok (l := [(223, l2Step.S)]) ⟨l2Step.sound, trivial⟩) Tryz.func192 (by kernel_rfl) (by kernel_rfl) (by kernel_rfl) l2More.ev
def specCrc.S : Spec := ⟨0, [.sc .str], [], [.str], ⟨[.int .i64], .sc (.int .i64), []⟩,
  fun (text : Str) => specCrc text⟩
theorem specCrc.ev : ∀ d, evFn C0 (hnd (tab [(192, l2More.S)])) Tryz.f138 .u specCrc.S d = specCrc.S.F d := fun _ => by kernel_rfl
theorem specCrc.sound : SoundS Tryz.prog C0 138 specCrc.S := sound_of_ev tyOk (tab_ok (l := [(192, l2More.S)]) ⟨l2More.sound, trivial⟩) Tryz.func138 (by kernel_rfl) (by kernel_rfl) (by kernel_rfl) specCrc.ev
def l3Used.S : Spec := ⟨0, [.sc (.list [.int .i64])], [], [.list [.int .i64]], ⟨[.int .i64], .sc (.int .i64), []⟩,
  fun (lens : List Int) => l3Used lens⟩
theorem l3Used.ev : ∀ d, evFn C0 (hnd (tab [])) Tryz.f262 (.seq .u (.seq .u (.seq (.seq .u (.blk (.loop ⟨[.list [.int .i64], .int .i64, .int .i64], [(0, .sc (.list [.int .i64])), (3, .sc (.int .i64)), (4, .sc (.int .i64))], []⟩ (fun ((lens1, n, i) : List Int × Int × Int) => ((lens1.length : Int) - i).toNat + 1) 0 ⟨[.int .i64], [(3, .sc (.int .i64))], []⟩ .u))) .u))) l3Used.S d = l3Used.S.F d := fun _ => by kernel_rfl
theorem l3Used.sound : SoundS Tryz.prog C0 262 l3Used.S := sound_of_ev tyOk (tab_ok (l := []) trivial) Tryz.func262 (by kernel_rfl) (by kernel_rfl) (by kernel_rfl) l3Used.ev
def specLensOk.S : Spec := ⟨0, [.sc (.list [.int .i64])], [], [.list [.int .i64]], ⟨[.bool], .sc .bool, []⟩,
  fun (lens : List Int) => specLensOk lens⟩
theorem specLensOk.ev : ∀ d, evFn C0 (hnd (tab [(111, l1In.S), (254, l1Pow.S), (262, l3Used.S)])) Tryz.f285 (.seq .u (.seq .u (.seq (.seq .u (.blk (.loopS ⟨[.list [.int .i64], .int .i64, .int .i64], [(0, .sc (.list [.int .i64])), (3, .sc (.int .i64)), (4, .sc (.int .i64))], []⟩ (fun ((lens1, sum, i) : List Int × Int × Int) => ((lens1.length : Int) - i).toNat + 1) 0 ⟨[.list [.int .i64], .int .i64], [(0, .sc (.list [.int .i64])), (3, .sc (.int .i64))], []⟩ .u))) (.seq (.reg [.bool] [(5, .sc .bool)]) (.seq (.reg [.bool] [(2, .sc .bool)]) .u))))) specLensOk.S d = specLensOk.S.F d := fun _ => by kernel_rfl
theorem specLensOk.sound : SoundS Tryz.prog C0 285 specLensOk.S := sound_of_ev tyOk (tab_ok (l := [(111, l1In.S), (254, l1Pow.S), (262, l3Used.S)]) ⟨l1In.sound, l1Pow.sound, l3Used.sound, trivial⟩) Tryz.func285 (by kernel_rfl) (by kernel_rfl) (by kernel_rfl) specLensOk.ev
def l3Codes.S : Spec := ⟨0, [.sc (.list [.int .i64])], [], [.list [.int .i64]], ⟨[.list [.int .i64]], .full 0, [.arr [.int .i64]]⟩,
  fun (lens : List Int) => l3Codes lens⟩
theorem l3Codes.ev : ∀ d, evFn C0 (hnd (tab [])) Tryz.f255 (.seq .u (.seq .u (.seq .u (.seq (.seq .u (.blk (.loop ⟨[.list [.int .i64], .int .i64, .int .i64, .list [.int .i64]], [(0, .sc (.list [.int .i64])), (3, .full 0), (4, .sc (.int .i64)), (5, .sc (.int .i64))], [.arr [.int .i64]]⟩ (fun ((lens1, code_, n, out) : List Int × Int × Int × List Int) => (15 - n).toNat + 2) 0 ⟨[.list [.int .i64]], [(3, .full 0)], [.arr [.int .i64]]⟩ (.seq .u (.seq (.blk (.seq (.seq .u (.blk (.loop ⟨[.list [.int .i64], .int .i64, .int .i64, .int .i64, .list [.int .i64]], [(0, .sc (.list [.int .i64])), (3, .full 0), (4, .sc (.int .i64)), (5, .sc (.int .i64)), (6, .sc (.int .i64))], [.arr [.int .i64]]⟩ (fun ((lens2, code_1, n1, i, out1) : List Int × Int × Int × Int × List Int) => ((lens2.length : Int) - i).toNat + 1) 2 ⟨[.list [.int .i64], .int .i64, .int .i64, .list [.int .i64]], [(0, .sc (.list [.int .i64])), (3, .full 0), (4, .sc (.int .i64)), (5, .sc (.int .i64))], [.arr [.int .i64]]⟩ .u))) .u)) .u))))) .u)))) l3Codes.S d = l3Codes.S.F d := fun _ => by kernel_rfl
theorem l3Codes.sound : SoundS Tryz.prog C0 255 l3Codes.S := sound_of_ev tyOk (tab_ok (l := []) trivial) Tryz.func255 (by kernel_rfl) (by kernel_rfl) (by kernel_rfl) l3Codes.ev
def sSymbol.S : Spec := ⟨1, [.ptr 0 0, .sc (.list [.int .i64]), .sc (.list [.int .i64])], [.box [.sc .str, .sc (.int .i64), .sc .bool]], [.list [.int .i64], .list [.int .i64], .str, .int .i64, .bool], ⟨[.int .i64, .str, .int .i64, .bool], .sc (.int .i64), [.box [.sc .str, .sc (.int .i64), .sc .bool]]⟩,
  fun ((lens, codes_, s, at_, bad) : List Int × List Int × Str × Int × Bool) => sSymbol lens codes_ s at_ bad⟩
theorem sSymbol.ev : ∀ d, evFn C0 (hnd (tab [(277, sBit.S)])) Tryz.f283 (.seq .u (.seq .u (.seq (.seq .u (.blk (.loopS ⟨[.list [.int .i64], .list [.int .i64], .int .i64, .int .i64, .str, .int .i64, .bool], [(0, .ptr 0 0), (1, .sc (.list [.int .i64])), (2, .sc (.list [.int .i64])), (7, .sc (.int .i64)), (8, .sc (.int .i64))], [.box [.sc .str, .sc (.int .i64), .sc .bool]]⟩ (fun ((lens1, codes_1, code_, n, o, o1, o2) : List Int × List Int × Int × Int × Str × Int × Bool) => (15 - n).toNat + 2) 0 ⟨[.str, .int .i64, .bool], [(0, .ptr 0 0)], [.box [.sc .str, .sc (.int .i64), .sc .bool]]⟩ (.seq (.seq (.reg [.bool] [(18, .sc .bool)]) .u) (.seq (.blk (.seq .u (.seq .u (.blk (.loopS ⟨[.list [.int .i64], .list [.int .i64], .int .i64, .int .i64, .int .i64, .str, .int .i64, .bool], [(0, .ptr 0 0), (1, .sc (.list [.int .i64])), (2, .sc (.list [.int .i64])), (7, .sc (.int .i64)), (8, .sc (.int .i64)), (9, .sc (.int .i64))], [.box [.sc .str, .sc (.int .i64), .sc .bool]]⟩ (fun ((lens2, codes_2, code_1, n1, i, o3, o4, o5) : List Int × List Int × Int × Int × Int × Str × Int × Bool) => ((lens2.length : Int) - i).toNat + 1) 2 ⟨[.list [.int .i64], .list [.int .i64], .int .i64, .int .i64, .str, .int .i64, .bool], [(0, .ptr 0 0), (1, .sc (.list [.int .i64])), (2, .sc (.list [.int .i64])), (7, .sc (.int .i64)), (8, .sc (.int .i64))], [.box [.sc .str, .sc (.int .i64), .sc .bool]]⟩ (.seq .u (.seq (.blk (.seq (.reg [.bool] [(45, .sc .bool)]) .u)) .u))))))) .u))))) .u))) sSymbol.S d = sSymbol.S.F d := fun _ => by kernel_rfl
theorem sSymbol.sound : SoundS Tryz.prog C0 283 sSymbol.S := sound_of_ev tyOk (tab_ok (l := [(277, sBit.S)]) ⟨sBit.sound, trivial⟩) Tryz.func283 (by kernel_rfl) (by kernel_rfl) (by kernel_rfl) sSymbol.ev
def l4Add.S : Spec := ⟨0, [.full 0, .agg [.sc (.int .i64), .sc (.int .i64), .sc (.int .i64)]], [.arr [.int .u8]], [.int .i64, .int .i64, .int .i64, .list [.int .u8]], ⟨[.bool, .list [.int .u8]], .tup [.full 0, .sc .bool], [.arr [.int .u8]]⟩,
  fun ((byte, long, back, text) : Int × Int × Int × List Int) => l4Add byte long back text⟩
theorem l4Add.ev : ∀ d, evFn C0 (hnd (tab [(111, l1In.S)])) Tryz.f287 (.seq .u (.seq .u (.seq (.seq (.reg [.bool] [(45, .sc .bool)]) .u) (.seq (.seq .u (.blk (.loop ⟨[.int .i64, .list [.int .u8], .int .i64, .int .i64, .int .i64], [(0, .full 0), (3, .ptr 1 0), (6, .sc (.int .i64))], [.arr [.int .u8], .box [.sc (.int .i64), .sc (.int .i64), .sc (.int .i64)]]⟩ (fun ((i, text1, o, o1, o2) : Int × List Int × Int × Int × Int) => (o1 - i).toNat + 1) 0 ⟨[.list [.int .u8]], [(0, .full 0)], [.arr [.int .u8]]⟩ .u))) .u)))) l4Add.S d = l4Add.S.F d := fun _ => by kernel_rfl
theorem l4Add.sound : SoundS Tryz.prog C0 287 l4Add.S := sound_of_ev tyOk (tab_ok (l := [(111, l1In.S)]) ⟨l1In.sound, trivial⟩) Tryz.func287 (by kernel_rfl) (by kernel_rfl) (by kernel_rfl) l4Add.ev
def l5Base.S : Spec := ⟨0, [.sc (.list [.int .i64]), .sc (.int .i64)], [], [.list [.int .i64], .int .i64], ⟨[.list [.int .i64]], .full 0, [.arr [.int .i64]]⟩,
  fun ((extra, from_) : List Int × Int) => l5Base extra from_⟩
theorem l5Base.ev : ∀ d, evFn C0 (hnd (tab [(254, l1Pow.S)])) Tryz.f256 (.seq .u (.seq .u (.seq (.seq .u (.blk (.loop ⟨[.list [.int .i64], .int .i64, .int .i64, .list [.int .i64]], [(0, .sc (.list [.int .i64])), (1, .sc (.int .i64)), (5, .full 0), (6, .sc (.int .i64))], [.arr [.int .i64]]⟩ (fun ((extra1, from_1, i, out) : List Int × Int × Int × List Int) => ((extra1.length : Int) - i).toNat + 1) 0 ⟨[.list [.int .i64]], [(5, .full 0)], [.arr [.int .i64]]⟩ .u))) .u))) l5Base.S d = l5Base.S.F d := fun _ => by kernel_rfl
theorem l5Base.sound : SoundS Tryz.prog C0 256 l5Base.S := sound_of_ev tyOk (tab_ok (l := [(254, l1Pow.S)]) ⟨l1Pow.sound, trivial⟩) Tryz.func256 (by kernel_rfl) (by kernel_rfl) (by kernel_rfl) l5Base.ev
def l5LongBits.S : Spec := ⟨0, [], [], [], ⟨[.list [.int .i64]], .full 0, [.arr [.int .i64]]⟩,
  fun (_ : Unit) => l5LongBits⟩
theorem l5LongBits.ev : ∀ d, evFn C0 (hnd (tab [])) Tryz.f257 .u l5LongBits.S d = l5LongBits.S.F d := fun _ => by kernel_rfl
theorem l5LongBits.sound : SoundS Tryz.prog C0 257 l5LongBits.S := sound_of_ev tyOk (tab_ok (l := []) trivial) Tryz.func257 (by kernel_rfl) (by kernel_rfl) (by kernel_rfl) l5LongBits.ev
def l5BackBits.S : Spec := ⟨0, [], [], [], ⟨[.list [.int .i64]], .full 0, [.arr [.int .i64]]⟩,
  fun (_ : Unit) => l5BackBits⟩
theorem l5BackBits.ev : ∀ d, evFn C0 (hnd (tab [])) Tryz.f258 .u l5BackBits.S d = l5BackBits.S.F d := fun _ => by kernel_rfl
theorem l5BackBits.sound : SoundS Tryz.prog C0 258 l5BackBits.S := sound_of_ev tyOk (tab_ok (l := []) trivial) Tryz.func258 (by kernel_rfl) (by kernel_rfl) (by kernel_rfl) l5BackBits.ev
def l5Fixed.S : Spec := ⟨0, [], [], [], ⟨[.list [.int .i64]], .full 0, [.arr [.int .i64]]⟩,
  fun (_ : Unit) => l5Fixed⟩
theorem l5Fixed.ev : ∀ d, evFn C0 (hnd (tab [])) Tryz.f228 (.seq .u (.seq .u (.seq (.seq .u (.blk (.loop ⟨[.int .i64, .list [.int .i64]], [(1, .full 0), (2, .sc (.int .i64))], [.arr [.int .i64]]⟩ (fun ((i, out) : Int × List Int) => (288 - i).toNat + 1) 0 ⟨[.list [.int .i64]], [(1, .full 0)], [.arr [.int .i64]]⟩ .u))) .u))) l5Fixed.S d = l5Fixed.S.F d := fun _ => by kernel_rfl
theorem l5Fixed.sound : SoundS Tryz.prog C0 228 l5Fixed.S := sound_of_ev tyOk (tab_ok (l := []) trivial) Tryz.func228 (by kernel_rfl) (by kernel_rfl) (by kernel_rfl) l5Fixed.ev
def l5Fives.S : Spec := ⟨0, [], [], [], ⟨[.list [.int .i64]], .full 0, [.arr [.int .i64]]⟩,
  fun (_ : Unit) => l5Fives⟩
theorem l5Fives.ev : ∀ d, evFn C0 (hnd (tab [])) Tryz.f229 (.seq .u (.seq .u (.seq (.seq .u (.blk (.loop ⟨[.int .i64, .list [.int .i64]], [(1, .full 0), (2, .sc (.int .i64))], [.arr [.int .i64]]⟩ (fun ((i, out) : Int × List Int) => (32 - i).toNat + 1) 0 ⟨[.list [.int .i64]], [(1, .full 0)], [.arr [.int .i64]]⟩ .u))) .u))) l5Fives.S d = l5Fives.S.F d := fun _ => by kernel_rfl
theorem l5Fives.sound : SoundS Tryz.prog C0 229 l5Fives.S := sound_of_ev tyOk (tab_ok (l := []) trivial) Tryz.func229 (by kernel_rfl) (by kernel_rfl) (by kernel_rfl) l5Fives.ev
def l5Order.S : Spec := ⟨0, [], [], [], ⟨[.list [.int .i64]], .full 0, [.arr [.int .i64]]⟩,
  fun (_ : Unit) => l5Order⟩
theorem l5Order.ev : ∀ d, evFn C0 (hnd (tab [])) Tryz.f265 .u l5Order.S d = l5Order.S.F d := fun _ => by kernel_rfl
theorem l5Order.sound : SoundS Tryz.prog C0 265 l5Order.S := sound_of_ev tyOk (tab_ok (l := []) trivial) Tryz.func265 (by kernel_rfl) (by kernel_rfl) (by kernel_rfl) l5Order.ev
def sStored.S : Spec := ⟨1, [.ptr 0 0, .full 1], [.box [.sc .str, .sc (.int .i64), .sc .bool], .arr [.int .u8]], [.str, .int .i64, .bool, .list [.int .u8]], ⟨[.str, .int .i64, .bool, .list [.int .u8]], .full 1, [.box [.sc .str, .sc (.int .i64), .sc .bool], .arr [.int .u8]]⟩,
  fun ((s, at_, bad, text) : Str × Int × Bool × List Int) => sStored s at_ bad text⟩
theorem sStored.ev : ∀ d, evFn C0 (hnd (tab [(270, sWhole.S), (278, sNum.S)])) Tryz.f279 (.seq .u (.join ⟨[.str, .int .i64, .bool, .list [.int .u8]], [(0, .ptr 0 0), (1, .full 1)], [.box [.sc .str, .sc (.int .i64), .sc .bool], .arr [.int .u8]]⟩ .u (.seq .u (.join ⟨[.int .i64, .str, .int .i64, .bool, .list [.int .u8]], [(0, .ptr 0 0), (1, .full 1), (5, .sc (.int .i64))], [.box [.sc .str, .sc (.int .i64), .sc .bool], .arr [.int .u8]]⟩ .u (.seq (.seq .u (.blk (.loop ⟨[.int .i64, .int .i64, .str, .int .i64, .bool, .list [.int .u8]], [(0, .ptr 0 0), (1, .full 1), (5, .sc (.int .i64)), (6, .sc (.int .i64))], [.box [.sc .str, .sc (.int .i64), .sc .bool], .arr [.int .u8]]⟩ (fun ((n1, i, o6, o7, o8, text3) : Int × Int × Str × Int × Bool × List Int) => (n1 - i).toNat + 1) 0 ⟨[.str, .int .i64, .bool, .list [.int .u8]], [(1, .full 1)], [.box [.sc .str, .sc (.int .i64), .sc .bool], .arr [.int .u8]]⟩ (.seq (.seq (.reg [.bool] [(36, .sc .bool)]) .u) .u)))) .u))))) sStored.S d = sStored.S.F d := fun _ => by kernel_rfl
theorem sStored.sound : SoundS Tryz.prog C0 279 sStored.S := sound_of_ev tyOk (tab_ok (l := [(270, sWhole.S), (278, sNum.S)]) ⟨sWhole.sound, sNum.sound, trivial⟩) Tryz.func279 (by kernel_rfl) (by kernel_rfl) (by kernel_rfl) sStored.ev
def sAgain.S : Spec := ⟨1, [.ptr 0 0, .full 1, .sc (.int .i64), .sc (.list [.int .i64]), .sc (.list [.int .i64])], [.box [.sc .str, .sc (.int .i64), .sc .bool], .arr [.int .u8]], [.int .i64, .list [.int .i64], .list [.int .i64], .str, .int .i64, .bool, .list [.int .u8]], ⟨[.str, .int .i64, .bool, .list [.int .u8]], .full 1, [.box [.sc .str, .sc (.int .i64), .sc .bool], .arr [.int .u8]]⟩,
  fun ((sym, backs, codes_, s, at_, bad, text) : Int × List Int × List Int × Str × Int × Bool × List Int) => sAgain sym backs codes_ s at_ bad text⟩
theorem sAgain.ev : ∀ d, evFn C0 (hnd (tab [(256, l5Base.S), (257, l5LongBits.S), (258, l5BackBits.S), (278, sNum.S), (283, sSymbol.S), (287, l4Add.S)])) Tryz.f284 (.seq .u (.seq .u (.seq .u (.seq (.cm [(2, [0]), (3, [0]), (4, [0])]) (.seq .u (.seq .u (.seq (.cm [(2, [0]), (3, [0]), (4, [0])]) .u))))))) sAgain.S d = sAgain.S.F d := fun _ => by kernel_rfl
theorem sAgain.sound : SoundS Tryz.prog C0 284 sAgain.S := sound_of_ev tyOk (tab_ok (l := [(256, l5Base.S), (257, l5LongBits.S), (258, l5BackBits.S), (278, sNum.S), (283, sSymbol.S), (287, l4Add.S)]) ⟨l5Base.sound, l5LongBits.sound, l5BackBits.sound, sNum.sound, sSymbol.sound, l4Add.sound, trivial⟩) Tryz.func284 (by kernel_rfl) (by kernel_rfl) (by kernel_rfl) sAgain.ev
def sTokens.S : Spec := ⟨1, [.ptr 0 0, .full 1, .sc (.list [.int .i64]), .sc (.list [.int .i64])], [.box [.sc .str, .sc (.int .i64), .sc .bool], .arr [.int .u8]], [.list [.int .i64], .list [.int .i64], .str, .int .i64, .bool, .list [.int .u8]], ⟨[.str, .int .i64, .bool, .list [.int .u8]], .full 1, [.box [.sc .str, .sc (.int .i64), .sc .bool], .arr [.int .u8]]⟩,
  fun ((longs, backs, s, at_, bad, text) : List Int × List Int × Str × Int × Bool × List Int) => sTokens longs backs s at_ bad text⟩
theorem sTokens.ev : ∀ d, evFn C0 (hnd (tab [(255, l3Codes.S), (283, sSymbol.S), (284, sAgain.S)])) Tryz.f280 (.seq .u (.seq .u (.seq .u (.seq (.blk (.loopS ⟨[.list [.int .i64], .list [.int .i64], .str, .int .i64, .bool, .list [.int .u8], .list [.int .i64], .list [.int .i64]], [(0, .ptr 0 0), (1, .full 1), (2, .sc (.list [.int .i64])), (3, .sc (.list [.int .i64])), (9, .full 2), (10, .full 3)], [.box [.sc .str, .sc (.int .i64), .sc .bool], .arr [.int .u8], .arr [.int .i64], .arr [.int .i64]]⟩ (fun ((longs1, backs1, o, o1, o2, text1, a, b) : List Int × List Int × Str × Int × Bool × List Int × List Int × List Int) => 100000) 0 ⟨[.str, .int .i64, .bool, .list [.int .u8]], [(0, .ptr 0 0), (1, .full 1)], [.box [.sc .str, .sc (.int .i64), .sc .bool], .arr [.int .u8]]⟩ (.seq (.seq (.reg [.bool] [(25, .sc .bool)]) .u) (.blk (.seq .u (.blk (.seq (.reg [.bool] [(36, .sc .bool)]) .u))))))) .u)))) sTokens.S d = sTokens.S.F d := fun _ => by kernel_rfl
theorem sTokens.sound : SoundS Tryz.prog C0 280 sTokens.S := sound_of_ev tyOk (tab_ok (l := [(255, l3Codes.S), (283, sSymbol.S), (284, sAgain.S)]) ⟨l3Codes.sound, sSymbol.sound, sAgain.sound, trivial⟩) Tryz.func280 (by kernel_rfl) (by kernel_rfl) (by kernel_rfl) sTokens.ev
def sMany.S : Spec := ⟨1, [.ptr 0 0, .full 1, .sc (.int .i64)], [.box [.sc .str, .sc (.int .i64), .sc .bool], .arr [.int .i64]], [.int .i64, .str, .int .i64, .bool, .list [.int .i64]], ⟨[.str, .int .i64, .bool, .list [.int .i64]], .full 1, [.box [.sc .str, .sc (.int .i64), .sc .bool], .arr [.int .i64]]⟩,
  fun ((sym, s, at_, bad, out) : Int × Str × Int × Bool × List Int) => sMany sym s at_ bad out⟩
theorem sMany.ev : ∀ d, evFn C0 (hnd (tab [(278, sNum.S)])) Tryz.f286 (.seq .u (.seq .u (.seq .u (.join ⟨[.int .i64, .int .i64, .str, .int .i64, .bool, .list [.int .i64]], [(0, .ptr 0 0), (1, .full 1), (7, .sc (.int .i64)), (8, .sc (.int .i64))], [.box [.sc .str, .sc (.int .i64), .sc .bool], .arr [.int .i64]]⟩ (.blk (.seq (.reg [.bool] [(11, .sc .bool)]) .u)) (.seq (.seq .u (.blk (.loop ⟨[.int .i64, .int .i64, .int .i64, .str, .int .i64, .bool, .list [.int .i64]], [(0, .ptr 0 0), (1, .full 1), (7, .sc (.int .i64)), (8, .sc (.int .i64)), (9, .sc (.int .i64))], [.box [.sc .str, .sc (.int .i64), .sc .bool], .arr [.int .i64]]⟩ (fun ((last1, n1, i, o3, o4, o5, out2) : Int × Int × Int × Str × Int × Bool × List Int) => (n1 - i).toNat + 1) 1 ⟨[.str, .int .i64, .bool, .list [.int .i64]], [(1, .full 1)], [.box [.sc .str, .sc (.int .i64), .sc .bool], .arr [.int .i64]]⟩ (.seq (.seq (.reg [.bool] [(55, .sc .bool)]) .u) .u)))) .u))))) sMany.S d = sMany.S.F d := fun _ => by kernel_rfl
theorem sMany.sound : SoundS Tryz.prog C0 286 sMany.S := sound_of_ev tyOk (tab_ok (l := [(278, sNum.S)]) ⟨sNum.sound, trivial⟩) Tryz.func286 (by kernel_rfl) (by kernel_rfl) (by kernel_rfl) sMany.ev
def sLens.S : Spec := ⟨1, [.ptr 0 0], [.box [.sc .str, .sc (.int .i64), .sc .bool]], [.str, .int .i64, .bool], ⟨[.list [.int .i64], .list [.int .i64], .str, .int .i64, .bool], .tup [.sc (.list [.int .i64]), .sc (.list [.int .i64])], [.box [.sc .str, .sc (.int .i64), .sc .bool]]⟩,
  fun ((s, at_, bad) : Str × Int × Bool) => sLens s at_ bad⟩
theorem sLens.ev : ∀ d, evFn C0 (hnd (tab [(255, l3Codes.S), (265, l5Order.S), (278, sNum.S), (283, sSymbol.S), (285, specLensOk.S), (286, sMany.S)])) Tryz.f281 (.seq .u (.seq .u (.seq .u (.seq .u (.seq .u (.seq (.seq .u (.blk (.loop ⟨[.int .i64, .int .i64, .int .i64, .int .i64, .str, .int .i64, .bool, .list [.int .i64]], [(0, .ptr 0 0), (4, .sc (.int .i64)), (5, .sc (.int .i64)), (6, .sc (.int .i64)), (7, .full 1), (8, .sc (.int .i64))], [.box [.sc .str, .sc (.int .i64), .sc .bool], .arr [.int .i64]]⟩ (fun ((long, back, n, i, o, o1, o2, lens) : Int × Int × Int × Int × Str × Int × Bool × List Int) => (n - i).toNat + 1) 0 ⟨[.int .i64, .int .i64, .str, .int .i64, .bool, .list [.int .i64]], [(0, .ptr 0 0), (4, .sc (.int .i64)), (5, .sc (.int .i64)), (7, .full 1)], [.box [.sc .str, .sc (.int .i64), .sc .bool], .arr [.int .i64]]⟩ (.seq .u (.seq (.blk (.cm [(0, [0]), (2, [0]), (3, [0]), (4, [0])])) .u))))) (.seq (.seq (.reg [.bool] [(44, .sc .bool)]) .u) (.seq .u (.seq .u (.seq (.blk (.loop ⟨[.int .i64, .int .i64, .str, .int .i64, .bool, .list [.int .i64], .list [.int .i64], .list [.int .i64]], [(0, .ptr 0 0), (4, .sc (.int .i64)), (5, .sc (.int .i64)), (7, .full 1), (9, .full 2), (10, .full 3)], [.box [.sc .str, .sc (.int .i64), .sc .bool], .arr [.int .i64], .arr [.int .i64], .arr [.int .i64]]⟩ (fun ((long2, back2, o6, o7, o8, lens2, codes_, all) : Int × Int × Str × Int × Bool × List Int × List Int × List Int) => ((w64 (long2 + back2)) - (all.length : Int)).toNat + 1) 2 ⟨[.int .i64, .int .i64, .str, .int .i64, .bool, .list [.int .i64]], [(0, .ptr 0 0), (4, .sc (.int .i64)), (5, .sc (.int .i64)), (10, .full 1)], [.box [.sc .str, .sc (.int .i64), .sc .bool], .arr [.int .i64]]⟩ (.seq (.seq (.reg [.bool] [(65, .sc .bool)]) .u) .u))) (.seq (.seq (.reg [.bool] [(98, .sc .bool)]) .u) .u))))))))))) sLens.S d = sLens.S.F d := fun _ => by kernel_rfl
theorem sLens.sound : SoundS Tryz.prog C0 281 sLens.S := sound_of_ev tyOk (tab_ok (l := [(255, l3Codes.S), (265, l5Order.S), (278, sNum.S), (283, sSymbol.S), (285, specLensOk.S), (286, sMany.S)]) ⟨l3Codes.sound, l5Order.sound, sNum.sound, sSymbol.sound, specLensOk.sound, sMany.sound, trivial⟩) Tryz.func281 (by kernel_rfl) (by kernel_rfl) (by kernel_rfl) sLens.ev
def sPart.S : Spec := ⟨1, [.ptr 0 0, .full 1], [.box [.sc .str, .sc (.int .i64), .sc .bool], .arr [.int .u8]], [.str, .int .i64, .bool, .list [.int .u8]], ⟨[.bool, .str, .int .i64, .bool, .list [.int .u8]], .tup [.full 1, .sc .bool], [.box [.sc .str, .sc (.int .i64), .sc .bool], .arr [.int .u8]]⟩,
  fun ((s, at_, bad, text) : Str × Int × Bool × List Int) => sPart s at_ bad text⟩
theorem sPart.ev : ∀ d, evFn C0 (hnd (tab [(228, l5Fixed.S), (229, l5Fives.S), (277, sBit.S), (278, sNum.S), (279, sStored.S), (280, sTokens.S), (281, sLens.S)])) Tryz.f269 .u sPart.S d = sPart.S.F d := fun _ => by kernel_rfl
theorem sPart.sound : SoundS Tryz.prog C0 269 sPart.S := sound_of_ev tyOk (tab_ok (l := [(228, l5Fixed.S), (229, l5Fives.S), (277, sBit.S), (278, sNum.S), (279, sStored.S), (280, sTokens.S), (281, sLens.S)]) ⟨l5Fixed.sound, l5Fives.sound, sBit.sound, sNum.sound, sStored.sound, sTokens.sound, sLens.sound, trivial⟩) Tryz.func269 (by kernel_rfl) (by kernel_rfl) (by kernel_rfl) sPart.ev
def l5Get.S : Spec := ⟨0, [.sc .str], [], [.str], ⟨[.str, .int .i64, .bool], .tup [.sc .str, .sc (.int .i64), .sc .bool], []⟩,
  fun (text : Str) => l5Get text⟩
theorem l5Get.ev : ∀ d, evFn C0 (hnd (tab [(269, sPart.S), (270, sWhole.S)])) Tryz.f244 (.seq .u (.seq .u (.seq .u (.seq .u (.seq (.blk (.loop ⟨[.bool, .str, .int .i64, .bool, .list [.int .u8]], [(5, .ptr 0 0), (6, .full 1), (7, .sc .bool)], [.box [.sc .str, .sc (.int .i64), .sc .bool], .arr [.int .u8]]⟩ (fun ((last, o, o1, o2, out) : Bool × Str × Int × Bool × List Int) => 100000) 0 ⟨[.str, .int .i64, .bool, .list [.int .u8]], [(5, .ptr 0 0), (6, .full 1)], [.box [.sc .str, .sc (.int .i64), .sc .bool], .arr [.int .u8]]⟩ (.seq (.seq (.reg [.bool] [(23, .sc .bool)]) .u) .u))) (.seq .u (.seq (.seq (.reg [.bool] [(46, .sc .bool)]) .u) .u))))))) l5Get.S d = l5Get.S.F d := fun _ => by kernel_rfl
theorem l5Get.sound : SoundS Tryz.prog C0 244 l5Get.S := sound_of_ev tyOk (tab_ok (l := [(269, sPart.S), (270, sWhole.S)]) ⟨sPart.sound, sWhole.sound, trivial⟩) Tryz.func244 (by kernel_rfl) (by kernel_rfl) (by kernel_rfl) l5Get.ev
def specFlateGet.S : Spec := ⟨0, [.sc .str], [], [.str], ⟨[.str, .int .i64, .bool], .tup [.sc .str, .sc (.int .i64), .sc .bool], []⟩,
  fun (text : Str) => specFlateGet text⟩
theorem specFlateGet.ev : ∀ d, evFn C0 (hnd (tab [(244, l5Get.S)])) Tryz.f210 .u specFlateGet.S d = specFlateGet.S.F d := fun _ => by kernel_rfl
theorem specFlateGet.sound : SoundS Tryz.prog C0 210 specFlateGet.S := sound_of_ev tyOk (tab_ok (l := [(244, l5Get.S)]) ⟨l5Get.sound, trivial⟩) Tryz.func210 (by kernel_rfl) (by kernel_rfl) (by kernel_rfl) specFlateGet.ev
def l6Days.S : Spec := ⟨0, [.sc (.int .i64), .sc (.int .i64)], [], [.int .i64, .int .i64], ⟨[.int .i64], .sc (.int .i64), []⟩,
  fun ((year, month) : Int × Int) => l6Days year month⟩
theorem l6Days.ev : ∀ d, evFn C0 (hnd (tab [])) Tryz.f112 (.seq .u (.seq (.seq .u (.blk (.join ⟨[.int .i64, .int .i64, .bool], [(0, .sc (.int .i64)), (5, .sc (.int .i64)), (6, .sc .bool)], []⟩ .u (.cond .u (.seq .u (.cond (.seq (.seq (.reg [.bool] [(25, .sc .bool)]) .u) .u) .u)))))) .u)) l6Days.S d = l6Days.S.F d := fun _ => by kernel_rfl
theorem l6Days.sound : SoundS Tryz.prog C0 112 l6Days.S := sound_of_ev tyOk (tab_ok (l := []) trivial) Tryz.func112 (by kernel_rfl) (by kernel_rfl) (by kernel_rfl) l6Days.ev
def specStampOk.S : Spec := ⟨0, [.agg [.sc (.int .i64), .sc (.int .i64), .sc (.int .i64), .sc (.int .i64), .sc (.int .i64), .sc (.int .i64)]], [], [.int .i64, .int .i64, .int .i64, .int .i64, .int .i64, .int .i64], ⟨[.bool], .sc .bool, []⟩,
  fun ((y, mo, d, h, mi, sec) : Int × Int × Int × Int × Int × Int) => specStampOk y mo d h mi sec⟩
theorem specStampOk.ev : ∀ d, evFn C0 (hnd (tab [(111, l1In.S), (112, l6Days.S)])) Tryz.f54 (.seq .u (.seq (.reg [.bool] [(3, .sc .bool)]) (.seq (.reg [.bool] [(2, .sc .bool)]) .u))) specStampOk.S d = specStampOk.S.F d := fun _ => by kernel_rfl
theorem specStampOk.sound : SoundS Tryz.prog C0 54 specStampOk.S := sound_of_ev tyOk (tab_ok (l := [(111, l1In.S), (112, l6Days.S)]) ⟨l1In.sound, l6Days.sound, trivial⟩) Tryz.func54 (by kernel_rfl) (by kernel_rfl) (by kernel_rfl) specStampOk.ev
def l6Get.S : Spec := ⟨0, [.sc (.int .i64)], [], [.int .i64], ⟨[.int .i64, .int .i64, .int .i64, .int .i64, .int .i64, .int .i64], .agg [.sc (.int .i64), .sc (.int .i64), .sc (.int .i64), .sc (.int .i64), .sc (.int .i64), .sc (.int .i64)], []⟩,
  fun (n : Int) => l6Get n⟩
theorem l6Get.ev : ∀ d, evFn C0 (hnd (tab [])) Tryz.f153 .u l6Get.S d = l6Get.S.F d := fun _ => by kernel_rfl
theorem l6Get.sound : SoundS Tryz.prog C0 153 l6Get.S := sound_of_ev tyOk (tab_ok (l := []) trivial) Tryz.func153 (by kernel_rfl) (by kernel_rfl) (by kernel_rfl) l6Get.ev
end Ev
end
section
open Go Go.Proofs
set_option maxRecDepth 100000
namespace Ev
set_option maxHeartbeats 1000000
set_option linter.unusedVariables false
def specEntryOk.S : Spec := ⟨0, [.agg [.sc .str, .sc (.int .i64), .sc (.int .i64), .sc (.int .i64), .sc (.int .i64), .sc (.int .i64), .sc (.int .i64), .sc .str]], [], [.str, .int .i64, .int .i64, .int .i64, .int .i64, .int .i64, .int .i64, .str], ⟨[.bool], .sc .bool, []⟩,
  fun ((name, y, mo, d, h, mi, sec, text) : Str × Int × Int × Int × Int × Int × Int × Str) => specEntryOk name y mo d h mi sec text⟩
theorem specEntryOk.ev : ∀ d, evFn C0 (hnd (tab [(53, specNameOk.S), (54, specStampOk.S)])) Tryz.f20 (.seq .u (.seq (.reg [.bool] [(2, .sc .bool)]) .u)) specEntryOk.S d = specEntryOk.S.F d := fun _ => by kernel_rfl
theorem specEntryOk.sound : SoundS Tryz.prog C0 20 specEntryOk.S := sound_of_ev tyOk (tab_ok (l := [(53, specNameOk.S), (54, specStampOk.S)]) ⟨specNameOk.sound, specStampOk.sound, trivial⟩) Tryz.func20 (by kernel_rfl) (by kernel_rfl) (by kernel_rfl) specEntryOk.ev
def l6Bytes.S : Spec := ⟨0, [.sc (.int .i64), .sc (.int .i64)], [], [.int .i64, .int .i64], ⟨[.str], .sc .str, []⟩,
  fun ((n, many) : Int × Int) => l6Bytes n many⟩
theorem l6Bytes.ev : ∀ d, evFn C0 (hnd (tab [])) Tryz.f98 (.seq .u (.seq .u (.seq (.seq .u (.blk (.loop ⟨[.int .i64, .int .i64, .int .i64, .list [.int .u8]], [(0, .sc (.int .i64)), (1, .sc (.int .i64)), (5, .full 0), (6, .sc (.int .i64))], [.arr [.int .u8]]⟩ (fun ((n1, many1, i, out) : Int × Int × Int × List Int) => (many1 - i).toNat + 1) 0 ⟨[.list [.int .u8]], [(5, .full 0)], [.arr [.int .u8]]⟩ .u))) .u))) l6Bytes.S d = l6Bytes.S.F d := fun _ => by kernel_rfl
theorem l6Bytes.sound : SoundS Tryz.prog C0 98 l6Bytes.S := sound_of_ev tyOk (tab_ok (l := []) trivial) Tryz.func98 (by kernel_rfl) (by kernel_rfl) (by kernel_rfl) l6Bytes.ev
def l6Num.S : Spec := ⟨0, [.sc .str, .sc (.int .i64), .sc (.int .i64)], [], [.str, .int .i64, .int .i64], ⟨[.int .i64], .sc (.int .i64), []⟩,
  fun ((s, at_, many) : Str × Int × Int) => l6Num s at_ many⟩
theorem l6Num.ev : ∀ d, evFn C0 (hnd (tab [])) Tryz.f152 (.seq .u (.seq .u (.seq (.seq (.reg [.bool] [(18, .sc .bool)]) .u) (.seq (.seq .u (.blk (.loop ⟨[.str, .int .i64, .int .i64, .int .i64], [(0, .sc .str), (1, .sc (.int .i64)), (7, .sc (.int .i64)), (8, .sc (.int .i64))], []⟩ (fun ((s1, at_1, n, i) : Str × Int × Int × Int) => (i - 0).toNat + 2) 0 ⟨[.int .i64], [(7, .sc (.int .i64))], []⟩ .u))) .u)))) l6Num.S d = l6Num.S.F d := fun _ => by kernel_rfl
theorem l6Num.sound : SoundS Tryz.prog C0 152 l6Num.S := sound_of_ev tyOk (tab_ok (l := []) trivial) Tryz.func152 (by kernel_rfl) (by kernel_rfl) (by kernel_rfl) l6Num.ev
def l6Text.S : Spec := ⟨0, [.sc (.int .i64), .sc .str], [], [.int .i64, .str], ⟨[.str, .bool], .tup [.sc .str, .sc .bool], []⟩,
  fun ((how, packed) : Int × Str) => l6Text how packed⟩
theorem l6Text.ev : ∀ d, evFn C0 (hnd (tab [(210, specFlateGet.S)])) Tryz.f154 (.seq .u (.seq .u (.seq .u (.seq (.reg [.str, .bool] [(4, .sc .str), (5, .sc .bool)]) .u)))) l6Text.S d = l6Text.S.F d := fun _ => by kernel_rfl
theorem l6Text.sound : SoundS Tryz.prog C0 154 l6Text.S := sound_of_ev tyOk (tab_ok (l := [(210, specFlateGet.S)]) ⟨specFlateGet.sound, trivial⟩) Tryz.func154 (by kernel_rfl) (by kernel_rfl) (by kernel_rfl) l6Text.ev
def l6Read.S : Spec := ⟨0, [.sc .str], [], [.str], ⟨[.str, .int .i64, .int .i64, .int .i64, .int .i64, .int .i64, .int .i64, .str, .int .i64, .bool], .tup [.agg [.sc .str, .sc (.int .i64), .sc (.int .i64), .sc (.int .i64), .sc (.int .i64), .sc (.int .i64), .sc (.int .i64), .sc .str], .sc (.int .i64), .sc .bool], []⟩,
  fun (text : Str) => l6Read text⟩
theorem l6Read.ev : ∀ d, evFn C0 (hnd (tab [(20, specEntryOk.S), (138, specCrc.S), (152, l6Num.S), (153, l6Get.S), (154, l6Text.S)])) Tryz.f87 (.seq .u (.seq .u (.seq .u (.seq (.reg [.bool] [(7, .sc .bool)]) (.seq (.seq (.reg [.bool] [(51, .sc .bool)]) .u) (.seq .u (.seq .u (.seq .u (.seq (.reg [.bool] [(10, .sc .bool)]) (.seq (.cm [(1, [0]), (2, [0]), (3, [0]), (4, [0]), (9, [0])]) .u)))))))))) l6Read.S d = l6Read.S.F d := fun _ => by kernel_rfl
theorem l6Read.sound : SoundS Tryz.prog C0 87 l6Read.S := sound_of_ev tyOk (tab_ok (l := [(20, specEntryOk.S), (138, specCrc.S), (152, l6Num.S), (153, l6Get.S), (154, l6Text.S)]) ⟨specEntryOk.sound, specCrc.sound, l6Num.sound, l6Get.sound, l6Text.sound, trivial⟩) Tryz.func87 (by kernel_rfl) (by kernel_rfl) (by kernel_rfl) l6Read.ev
def l7At.S : Spec := ⟨0, [.sc (.list [.str, .int .i64, .int .i64, .int .i64, .int .i64, .int .i64, .int .i64, .str]), .sc .str], [], [.list [.str, .int .i64, .int .i64, .int .i64, .int .i64, .int .i64, .int .i64, .str], .str], ⟨[.int .i64], .sc (.int .i64), []⟩,
  fun ((list, name) : (List (Str × Int × Int × Int × Int × Int × Int × Str)) × Str) => l7At list name⟩
theorem l7At.ev : ∀ d, evFn C0 (hnd (tab [])) Tryz.f151 (.seq .u (.seq (.seq .u (.blk (.loopS ⟨[.list [.str, .int .i64, .int .i64, .int .i64, .int .i64, .int .i64, .int .i64, .str], .str, .int .i64], [(0, .sc (.list [.str, .int .i64, .int .i64, .int .i64, .int .i64, .int .i64, .int .i64, .str])), (1, .sc .str), (5, .sc (.int .i64))], []⟩ (fun ((list1, name1, i) : (List (Str × Int × Int × Int × Int × Int × Int × Str)) × Str × Int) => ((list1.length : Int) - i).toNat + 1) 0 ⟨[], [], []⟩ .u))) .u)) l7At.S d = l7At.S.F d := fun _ => by kernel_rfl
theorem l7At.sound : SoundS Tryz.prog C0 151 l7At.S := sound_of_ev tyOk (tab_ok (l := []) trivial) Tryz.func151 (by kernel_rfl) (by kernel_rfl) (by kernel_rfl) l7At.ev
def specZipOk.S : Spec := ⟨0, [.sc (.list [.str, .int .i64, .int .i64, .int .i64, .int .i64, .int .i64, .int .i64, .str])], [], [.list [.str, .int .i64, .int .i64, .int .i64, .int .i64, .int .i64, .int .i64, .str]], ⟨[.bool], .sc .bool, []⟩,
  fun (list : List (Str × Int × Int × Int × Int × Int × Int × Str)) => specZipOk list⟩
theorem specZipOk.ev : ∀ d, evFn C0 (hnd (tab [(20, specEntryOk.S), (75, l7Under.S), (151, l7At.S)])) Tryz.f86 (.seq .u (.seq (.seq .u (.blk (.loopS ⟨[.list [.str, .int .i64, .int .i64, .int .i64, .int .i64, .int .i64, .int .i64, .str], .int .i64], [(0, .sc (.list [.str, .int .i64, .int .i64, .int .i64, .int .i64, .int .i64, .int .i64, .str])), (3, .sc (.int .i64))], []⟩ (fun ((list1, i) : (List (Str × Int × Int × Int × Int × Int × Int × Str)) × Int) => ((list1.length : Int) - i).toNat + 1) 0 ⟨[.list [.str, .int .i64, .int .i64, .int .i64, .int .i64, .int .i64, .int .i64, .str]], [(0, .sc (.list [.str, .int .i64, .int .i64, .int .i64, .int .i64, .int .i64, .int .i64, .str]))], []⟩ (.seq .u (.seq (.blk (.seq (.seq (.reg [.bool] [(27, .sc .bool)]) .u) (.seq .u (.blk (.loopS ⟨[.list [.str, .int .i64, .int .i64, .int .i64, .int .i64, .int .i64, .int .i64, .str], .int .i64, .int .i64], [(0, .sc (.list [.str, .int .i64, .int .i64, .int .i64, .int .i64, .int .i64, .int .i64, .str])), (3, .sc (.int .i64)), (4, .sc (.int .i64))], []⟩ (fun ((list2, i1, k) : (List (Str × Int × Int × Int × Int × Int × Int × Str)) × Int × Int) => ((list2.length : Int) - k).toNat + 1) 2 ⟨[.list [.str, .int .i64, .int .i64, .int .i64, .int .i64, .int .i64, .int .i64, .str], .int .i64], [(0, .sc (.list [.str, .int .i64, .int .i64, .int .i64, .int .i64, .int .i64, .int .i64, .str])), (3, .sc (.int .i64))], []⟩ .u))))) .u))))) .u)) specZipOk.S d = specZipOk.S.F d := fun _ => by kernel_rfl
theorem specZipOk.sound : SoundS Tryz.prog C0 86 specZipOk.S := sound_of_ev tyOk (tab_ok (l := [(20, specEntryOk.S), (75, l7Under.S), (151, l7At.S)]) ⟨specEntryOk.sound, l7Under.sound, l7At.sound, trivial⟩) Tryz.func86 (by kernel_rfl) (by kernel_rfl) (by kernel_rfl) specZipOk.ev
def l7End.S : Spec := ⟨0, [.sc (.int .i64), .sc (.int .i64), .sc (.int .i64)], [], [.int .i64, .int .i64, .int .i64], ⟨[.str], .sc .str, []⟩,
  fun ((many, long, at_) : Int × Int × Int) => l7End many long at_⟩
theorem l7End.ev : ∀ d, evFn C0 (hnd (tab [(98, l6Bytes.S)])) Tryz.f129 .u l7End.S d = l7End.S.F d := fun _ => by kernel_rfl
theorem l7End.sound : SoundS Tryz.prog C0 129 l7End.S := sound_of_ev tyOk (tab_ok (l := [(98, l6Bytes.S)]) ⟨l6Bytes.sound, trivial⟩) Tryz.func129 (by kernel_rfl) (by kernel_rfl) (by kernel_rfl) l7End.ev
def l7Get.S : Spec := ⟨0, [.sc .str, .sc (.int .i64)], [], [.str, .int .i64], ⟨[.int .i64, .bool, .list [.str, .int .i64, .int .i64, .int .i64, .int .i64, .int .i64, .int .i64, .str]], .tup [.full 0, .sc (.int .i64), .sc .bool], [.arr [.str, .int .i64, .int .i64, .int .i64, .int .i64, .int .i64, .int .i64, .str]]⟩,
  fun ((text, many) : Str × Int) => l7Get text many⟩
theorem l7Get.ev : ∀ d, evFn C0 (hnd (tab [(87, l6Read.S)])) Tryz.f175 (.seq .u (.seq .u (.seq .u (.seq (.seq .u (.blk (.loopS ⟨[.str, .int .i64, .int .i64, .int .i64, .list [.str, .int .i64, .int .i64, .int .i64, .int .i64, .int .i64, .int .i64, .str]], [(0, .sc .str), (1, .sc (.int .i64)), (7, .full 0), (8, .sc (.int .i64)), (9, .sc (.int .i64))], [.arr [.str, .int .i64, .int .i64, .int .i64, .int .i64, .int .i64, .int .i64, .str]]⟩ (fun ((text1, many1, at_, i, out) : Str × Int × Int × Int × List (Str × Int × Int × Int × Int × Int × Int × Str)) => (many1 - i).toNat + 1) 0 ⟨[.int .i64, .list [.str, .int .i64, .int .i64, .int .i64, .int .i64, .int .i64, .int .i64, .str]], [(7, .full 0), (8, .sc (.int .i64))], [.arr [.str, .int .i64, .int .i64, .int .i64, .int .i64, .int .i64, .int .i64, .str]]⟩ .u))) .u)))) l7Get.S d = l7Get.S.F d := fun _ => by kernel_rfl
theorem l7Get.sound : SoundS Tryz.prog C0 175 l7Get.S := sound_of_ev tyOk (tab_ok (l := [(87, l6Read.S)]) ⟨l6Read.sound, trivial⟩) Tryz.func175 (by kernel_rfl) (by kernel_rfl) (by kernel_rfl) l7Get.ev
def l7Head.S : Spec := ⟨0, [.sc .str, .sc (.int .i64), .sc (.int .i64)], [], [.str, .int .i64, .int .i64], ⟨[.int .i64, .bool], .tup [.sc (.int .i64), .sc .bool], []⟩,
  fun ((text, head, at_) : Str × Int × Int) => l7Head text head at_⟩
theorem l7Head.ev : ∀ d, evFn C0 (hnd (tab [(98, l6Bytes.S), (152, l6Num.S)])) Tryz.f176 (.seq .u (.seq .u (.seq .u (.seq (.seq (.reg [.bool] [(36, .sc .bool)]) .u) (.seq (.reg [.bool] [(10, .sc .bool)]) (.seq (.reg [.bool] [(11, .sc .bool)]) (.seq (.reg [.int .i64, .bool] [(6, .sc (.int .i64)), (7, .sc .bool)]) .u))))))) l7Head.S d = l7Head.S.F d := fun _ => by kernel_rfl
theorem l7Head.sound : SoundS Tryz.prog C0 176 l7Head.S := sound_of_ev tyOk (tab_ok (l := [(98, l6Bytes.S), (152, l6Num.S)]) ⟨l6Bytes.sound, l6Num.sound, trivial⟩) Tryz.func176 (by kernel_rfl) (by kernel_rfl) (by kernel_rfl) l7Head.ev
def specZipGet.S : Spec := ⟨0, [.sc .str], [], [.str], ⟨[.bool, .list [.str, .int .i64, .int .i64, .int .i64, .int .i64, .int .i64, .int .i64, .str]], .tup [.full 0, .sc .bool], [.arr [.str, .int .i64, .int .i64, .int .i64, .int .i64, .int .i64, .int .i64, .str]]⟩,
  fun (text : Str) => specZipGet text⟩
theorem specZipGet.ev : ∀ d, evFn C0 (hnd (tab [(86, specZipOk.S), (87, l6Read.S), (111, l1In.S), (129, l7End.S), (152, l6Num.S), (175, l7Get.S), (176, l7Head.S)])) Tryz.f116 (.seq .u (.seq .u (.seq .u (.seq .u (.seq (.seq (.reg [.bool] [(38, .sc .bool)]) .u) (.seq .u (.seq .u (.seq (.seq .u (.blk (.loopS ⟨[.str, .int .i64, .int .i64, .int .i64, .int .i64, .int .i64, .list [.str, .int .i64, .int .i64, .int .i64, .int .i64, .int .i64, .int .i64, .str]], [(0, .sc .str), (4, .sc (.int .i64)), (5, .full 0), (6, .sc (.int .i64)), (8, .sc (.int .i64)), (9, .sc (.int .i64)), (10, .sc (.int .i64))], [.arr [.str, .int .i64, .int .i64, .int .i64, .int .i64, .int .i64, .int .i64, .str]]⟩ (fun ((text1, many, at_, head, own, i, list) : Str × Int × Int × Int × Int × Int × List (Str × Int × Int × Int × Int × Int × Int × Str)) => (many - i).toNat + 1) 0 ⟨[.str, .int .i64, .int .i64, .int .i64, .list [.str, .int .i64, .int .i64, .int .i64, .int .i64, .int .i64, .int .i64, .str]], [(0, .sc .str), (4, .sc (.int .i64)), (5, .full 0), (6, .sc (.int .i64)), (8, .sc (.int .i64))], [.arr [.str, .int .i64, .int .i64, .int .i64, .int .i64, .int .i64, .int .i64, .str]]⟩ .u))) .u)))))))) specZipGet.S d = specZipGet.S.F d := fun _ => by kernel_rfl
theorem specZipGet.sound : SoundS Tryz.prog C0 116 specZipGet.S := sound_of_ev tyOk (tab_ok (l := [(86, specZipOk.S), (87, l6Read.S), (111, l1In.S), (129, l7End.S), (152, l6Num.S), (175, l7Get.S), (176, l7Head.S)]) ⟨specZipOk.sound, l6Read.sound, l1In.sound, l7End.sound, l6Num.sound, l7Get.sound, l7Head.sound, trivial⟩) Tryz.func116 (by kernel_rfl) (by kernel_rfl) (by kernel_rfl) specZipGet.ev
def l9Zip.S : Spec := ⟨0, [.sc .str], [], [.str], ⟨[.bool], .sc .bool, []⟩,
  fun (text : Str) => l9Zip text⟩
theorem l9Zip.ev : ∀ d, evFn C0 (hnd (tab [(116, specZipGet.S)])) Tryz.f58 .u l9Zip.S d = l9Zip.S.F d := fun _ => by kernel_rfl
theorem l9Zip.sound : SoundS Tryz.prog C0 58 l9Zip.S := sound_of_ev tyOk (tab_ok (l := [(116, specZipGet.S)]) ⟨specZipGet.sound, trivial⟩) Tryz.func58 (by kernel_rfl) (by kernel_rfl) (by kernel_rfl) l9Zip.ev
def specDiskOk.S : Spec := ⟨0, [.agg [.sc .str, .sc .str]], [], [.str, .str], ⟨[.bool], .sc .bool, []⟩,
  fun ((text, log) : Str × Str) => specDiskOk text log⟩
theorem specDiskOk.ev : ∀ d, evFn C0 (hnd (tab [(58, l9Zip.S)])) Tryz.f57 (.seq .u (.seq (.reg [.bool] [(2, .sc .bool)]) .u)) specDiskOk.S d = specDiskOk.S.F d := fun _ => by kernel_rfl
theorem specDiskOk.sound : SoundS Tryz.prog C0 57 specDiskOk.S := sound_of_ev tyOk (tab_ok (l := [(58, l9Zip.S)]) ⟨l9Zip.sound, trivial⟩) Tryz.func57 (by kernel_rfl) (by kernel_rfl) (by kernel_rfl) specDiskOk.ev
def l9Log.S : Spec := ⟨0, [.sc .str], [], [.str], ⟨[.str], .sc .str, []⟩,
  fun (text : Str) => l9Log text⟩
theorem l9Log.ev : ∀ d, evFn C0 (hnd (tab [(117, l1Dec.S)])) Tryz.f59 .u l9Log.S d = l9Log.S.F d := fun _ => by kernel_rfl
theorem l9Log.sound : SoundS Tryz.prog C0 59 l9Log.S := sound_of_ev tyOk (tab_ok (l := [(117, l1Dec.S)]) ⟨l1Dec.sound, trivial⟩) Tryz.func59 (by kernel_rfl) (by kernel_rfl) (by kernel_rfl) l9Log.ev
def specDiskTear.S : Spec := ⟨0, [.agg [.sc .str, .sc .str], .sc .str, .sc (.int .i64)], [], [.str, .str, .str, .int .i64], ⟨[.str, .str], .agg [.sc .str, .sc .str], []⟩,
  fun ((dtext, dlog, text, bytes) : Str × Str × Str × Int) => specDiskTear dtext dlog text bytes⟩
theorem specDiskTear.ev : ∀ d, evFn C0 (hnd (tab [(57, specDiskOk.S), (58, l9Zip.S), (59, l9Log.S)])) Tryz.f23 (.seq .u (.seq (.seq (.reg [.bool] [(15, .sc .bool)]) .u) (.seq .u (.join ⟨[.int .i64, .str, .str, .str, .str, .str], [(2, .sc (.int .i64)), (3, .ptr 0 0), (6, .ptr 1 0), (7, .sc .str)], [.box [.sc .str, .sc .str], .box [.sc .str, .sc .str]]⟩ .u .u)))) specDiskTear.S d = specDiskTear.S.F d := fun _ => by kernel_rfl
theorem specDiskTear.sound : SoundS Tryz.prog C0 23 specDiskTear.S := sound_of_ev tyOk (tab_ok (l := [(57, specDiskOk.S), (58, l9Zip.S), (59, l9Log.S)]) ⟨specDiskOk.sound, l9Zip.sound, l9Log.sound, trivial⟩) Tryz.func23 (by kernel_rfl) (by kernel_rfl) (by kernel_rfl) specDiskTear.ev
def specDiskRise.S : Spec := ⟨0, [.agg [.sc .str, .sc .str]], [], [.str, .str], ⟨[.str, .str, .bool], .tup [.agg [.sc .str, .sc .str], .sc .bool], []⟩,
  fun ((text, log) : Str × Str) => specDiskRise text log⟩
theorem specDiskRise.ev : ∀ d, evFn C0 (hnd (tab [(58, l9Zip.S), (70, l1Cut.S), (71, l1Num.S)])) Tryz.f30 (.seq .u (.seq .u (.seq (.seq (.reg [.bool] [(27, .sc .bool)]) .u) .u))) specDiskRise.S d = specDiskRise.S.F d := fun _ => by kernel_rfl
theorem specDiskRise.sound : SoundS Tryz.prog C0 30 specDiskRise.S := sound_of_ev tyOk (tab_ok (l := [(58, l9Zip.S), (70, l1Cut.S), (71, l1Num.S)]) ⟨l9Zip.sound, l1Cut.sound, l1Num.sound, trivial⟩) Tryz.func30 (by kernel_rfl) (by kernel_rfl) (by kernel_rfl) specDiskRise.ev
def szDisk.S : Spec := ⟨0, [.agg [.sc .str, .sc .str], .sc (.int .i64)], [], [.str, .str, .int .i64], ⟨[.int .i64], .sc (.int .i64), []⟩,
  fun ((text, log, n) : Str × Str × Int) => szDisk text log n⟩
theorem szDisk.ev : ∀ d, evFn C0 (hnd (tab [])) Tryz.f22 .u szDisk.S d = szDisk.S.F d := fun _ => by kernel_rfl
theorem szDisk.sound : SoundS Tryz.prog C0 22 szDisk.S := sound_of_ev tyOk (tab_ok (l := []) trivial) Tryz.func22 (by kernel_rfl) (by kernel_rfl) (by kernel_rfl) szDisk.ev
def toDisk.S : Spec := ⟨0, [.agg [.sc .str, .sc .str]], [], [.str, .str], ⟨[.str, .str], .agg [.sc .str, .sc .str], []⟩,
  fun ((text, log) : Str × Str) => toDisk text log⟩
theorem toDisk.ev : ∀ d, evFn C0 (hnd (tab [])) Tryz.f24 .u toDisk.S d = toDisk.S.F d := fun _ => by kernel_rfl
theorem toDisk.sound : SoundS Tryz.prog C0 24 toDisk.S := sound_of_ev tyOk (tab_ok (l := []) trivial) Tryz.func24 (by kernel_rfl) (by kernel_rfl) (by kernel_rfl) toDisk.ev
def eqDisk.S : Spec := ⟨0, [.agg [.sc .str, .sc .str], .agg [.sc .str, .sc .str]], [], [.str, .str, .str, .str], ⟨[.bool], .sc .bool, []⟩,
  fun ((text, log, text1, log1) : Str × Str × Str × Str) => eqDisk text log text1 log1⟩
theorem eqDisk.ev : ∀ d, evFn C0 (hnd (tab [])) Tryz.f26 .u eqDisk.S d = eqDisk.S.F d := fun _ => by kernel_rfl
theorem eqDisk.sound : SoundS Tryz.prog C0 26 eqDisk.S := sound_of_ev tyOk (tab_ok (l := []) trivial) Tryz.func26 (by kernel_rfl) (by kernel_rfl) (by kernel_rfl) eqDisk.ev
def FnExactDiskTear.S : Spec := ⟨0, [.agg [.sc .str, .sc .str], .sc .str, .sc (.int .i64)], [], [.str, .str, .str, .int .i64], ⟨[.bool], .sc .bool, []⟩,
  fun ((dtext, dlog, text, bytes) : Str × Str × Str × Int) => FnExactDiskTear dtext dlog text bytes⟩
theorem FnExactDiskTear.ev : ∀ d, evFn C0 (hnd (tab [(22, szDisk.S), (23, specDiskTear.S), (24, toDisk.S), (25, diskTear.S), (26, eqDisk.S)])) Tryz.f6 .u FnExactDiskTear.S d = FnExactDiskTear.S.F d := fun _ => by kernel_rfl
def FnExactDiskRise.S : Spec := ⟨0, [.agg [.sc .str, .sc .str]], [], [.str, .str], ⟨[.bool], .sc .bool, []⟩,
  fun ((text, log) : Str × Str) => FnExactDiskRise text log⟩
theorem FnExactDiskRise.ev : ∀ d, evFn C0 (hnd (tab [(22, szDisk.S), (24, toDisk.S), (26, eqDisk.S), (30, specDiskRise.S), (31, diskRise.S)])) Tryz.f8 (.seq .u (.seq .u (.seq .u (.seq .u (.seq .u (.seq .u (.seq (.seq (.reg [.bool] [(33, .sc .bool)]) .u) .u))))))) FnExactDiskRise.S d = FnExactDiskRise.S.F d := fun _ => by kernel_rfl
end Ev
end
