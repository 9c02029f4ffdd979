/- That the evaluator says of each function what it computes, and so that the program does. Conditions: none. -/
import Derived.Test.YtckgjeigokngiaaGreatDoorProg
import Derived.KernelRfl
import Derived.Test.YtckgjeigokngiaaGreatDoorGP0
section
open Go Go.Proofs
set_option maxRecDepth 100000
namespace Ev
def tyTab : List (Nat × TI) := [
  (2, ⟨.int .i64, 1, 8, [.int .i64 0], some [.int .i64]⟩),
  (3, ⟨.int .i64, 1, 8, [.int .i64 0], some [.int .i64]⟩),
  (4, ⟨.bool, 1, 1, [.bool false], some [.bool]⟩),
  (5, ⟨.int .u8, 1, 1, [.int .u8 0], some [.int .u8]⟩),
  (6, ⟨.int .u8, 1, 1, [.int .u8 0], some [.int .u8]⟩),
  (7, ⟨.struct [(0, 1, false), (1, 1, false), (2, 1, false), (3, 1, false)], 4, 24, [.int .i64 0, .int .i64 0, .bool false, .int .u8 0], some [.int .i64, .int .i64, .bool, .int .u8]⟩),
  (8, ⟨.struct [(0, 1, false), (1, 1, false), (2, 1, false), (3, 1, false)], 4, 24, [.int .i64 0, .int .i64 0, .bool false, .int .u8 0], some [.int .i64, .int .i64, .bool, .int .u8]⟩),
  (9, ⟨.str, 1, 16, [.str []], some [.str]⟩),
  (10, ⟨.str, 1, 16, [.str []], some [.str]⟩),
  (11, ⟨.str, 1, 16, [.str []], some [.str]⟩),
  (12, ⟨.int .u64, 1, 8, [.int .u64 0], some [.int .u64]⟩),
  (13, ⟨.struct [(0, 1, false), (1, 1, false)], 2, 24, [.str [], .int .u64 0], some [.str, .int .u64]⟩),
  (14, ⟨.struct [(0, 1, false), (1, 1, false)], 2, 24, [.str [], .int .u64 0], some [.str, .int .u64]⟩),
  (15, ⟨.ptr 251, 1, 8, [.nilp], none⟩),
  (16, ⟨.ptr 254, 1, 8, [.nilp], none⟩),
  (17, ⟨.ptr 261, 1, 8, [.nilp], none⟩),
  (18, ⟨.struct [(0, 1, false)], 1, 8, [.nilp], none⟩),
  (19, ⟨.struct [(0, 1, false)], 1, 8, [.nilp], none⟩),
  (21, ⟨.int .i32, 1, 4, [.int .i32 0], some [.int .i32]⟩),
  (22, ⟨.slice 5, 1, 24, [.nilsl], some [.ints .u8]⟩),
  (23, ⟨.struct [(0, 1, false), (1, 1, false), (2, 1, false), (3, 1, false), (4, 1, false), (5, 1, false)], 6, 48, [.int .i64 0, .int .i64 0, .int .i64 0, .int .i64 0, .int .i64 0, .int .i64 0], some [.int .i64, .int .i64, .int .i64, .int .i64, .int .i64, .int .i64]⟩),
  (24, ⟨.struct [(0, 1, false), (1, 1, false), (2, 1, false), (3, 1, false), (4, 1, false), (5, 1, false)], 6, 48, [.int .i64 0, .int .i64 0, .int .i64 0, .int .i64 0, .int .i64 0, .int .i64 0], some [.int .i64, .int .i64, .int .i64, .int .i64, .int .i64, .int .i64]⟩),
  (25, ⟨.struct [(0, 1, false), (1, 6, true), (7, 1, false)], 8, 80, [.str [], .int .i64 0, .int .i64 0, .int .i64 0, .int .i64 0, .int .i64 0, .int .i64 0, .str []], some [.str, .int .i64, .int .i64, .int .i64, .int .i64, .int .i64, .int .i64, .str]⟩),
  (26, ⟨.struct [(0, 1, false), (1, 6, true), (7, 1, false)], 8, 80, [.str [], .int .i64 0, .int .i64 0, .int .i64 0, .int .i64 0, .int .i64 0, .int .i64 0, .str []], some [.str, .int .i64, .int .i64, .int .i64, .int .i64, .int .i64, .int .i64, .str]⟩),
  (30, ⟨.slice 26, 1, 24, [.nilsl], none⟩),
  (35, ⟨.slice 9, 1, 24, [.nilsl], none⟩),
  (38, ⟨.struct [(0, 1, false), (1, 1, false)], 2, 32, [.str [], .str []], some [.str, .str]⟩),
  (39, ⟨.struct [(0, 1, false), (1, 1, false)], 2, 32, [.str [], .str []], some [.str, .str]⟩),
  (42, ⟨.struct [(0, 1, false), (1, 1, false)], 2, 32, [.str [], .str []], some [.str, .str]⟩),
  (51, ⟨.slice 103, 1, 24, [.nilsl], none⟩),
  (52, ⟨.struct [(0, 1, false), (1, 1, false), (2, 1, false), (3, 1, false), (4, 1, false), (5, 1, false)], 6, 48, [.int .i64 0, .int .i64 0, .int .i64 0, .int .i64 0, .int .i64 0, .int .i64 0], some [.int .i64, .int .i64, .int .i64, .int .i64, .int .i64, .int .i64]⟩),
  (55, ⟨.slice 105, 1, 24, [.nilsl], none⟩),
  (60, ⟨.slice 110, 1, 24, [.nilsl], none⟩),
  (70, ⟨.ptr 116, 1, 8, [.nilp], none⟩),
  (88, ⟨.ptr 90, 1, 8, [.nilp], none⟩),
  (89, ⟨.struct [(0, 1, false), (1, 1, false)], 2, 32, [.nilp, .nilsl], none⟩),
  (90, ⟨.struct [(0, 1, false), (1, 1, false)], 2, 32, [.nilp, .nilsl], none⟩),
  (96, ⟨.ptr 9, 1, 8, [.nilp], none⟩),
  (102, ⟨.struct [(0, 1, false), (1, 1, false)], 2, 32, [.str [], .str []], some [.str, .str]⟩),
  (103, ⟨.struct [(0, 1, false), (1, 1, false)], 2, 32, [.str [], .str []], some [.str, .str]⟩),
  (105, ⟨.struct [(0, 1, false), (1, 1, false)], 2, 32, [.str [], .str []], some [.str, .str]⟩),
  (109, ⟨.struct [(0, 1, false), (1, 6, true), (7, 1, false)], 8, 80, [.str [], .int .i64 0, .int .i64 0, .int .i64 0, .int .i64 0, .int .i64 0, .int .i64 0, .str []], some [.str, .int .i64, .int .i64, .int .i64, .int .i64, .int .i64, .int .i64, .str]⟩),
  (110, ⟨.struct [(0, 1, false), (1, 6, true), (7, 1, false)], 8, 80, [.str [], .int .i64 0, .int .i64 0, .int .i64 0, .int .i64 0, .int .i64 0, .int .i64 0, .str []], some [.str, .int .i64, .int .i64, .int .i64, .int .i64, .int .i64, .int .i64, .str]⟩),
  (115, ⟨.struct [(0, 1, false), (1, 1, false)], 2, 32, [.nilsl, .int .i64 0], some [.ints .u8, .int .i64]⟩),
  (116, ⟨.struct [(0, 1, false), (1, 1, false)], 2, 32, [.nilsl, .int .i64 0], some [.ints .u8, .int .i64]⟩),
  (137, ⟨.ptr 5, 1, 8, [.nilp], none⟩),
  (144, ⟨.slice 3, 1, 24, [.nilsl], some [.ints .i64]⟩),
  (147, ⟨.int .u64, 1, 8, [.int .u64 0], some [.int .u64]⟩),
  (148, ⟨.ptr 150, 1, 8, [.nilp], none⟩),
  (149, ⟨.struct [(0, 1, false), (1, 1, false), (2, 1, false)], 3, 32, [.str [], .int .i64 0, .bool false], some [.str, .int .i64, .bool]⟩),
  (150, ⟨.struct [(0, 1, false), (1, 1, false), (2, 1, false)], 3, 32, [.str [], .int .i64 0, .bool false], some [.str, .int .i64, .bool]⟩),
  (162, ⟨.int .u32, 1, 4, [.int .u32 0], some [.int .u32]⟩),
  (171, ⟨.ptr 173, 1, 8, [.nilp], none⟩),
  (172, ⟨.struct [(0, 1, false), (1, 1, false)], 2, 32, [.nilsl, .int .i64 0], some [.ints .u8, .int .i64]⟩),
  (173, ⟨.struct [(0, 1, false), (1, 1, false)], 2, 32, [.nilsl, .int .i64 0], some [.ints .u8, .int .i64]⟩),
  (176, ⟨.slice 179, 1, 24, [.nilsl], none⟩),
  (178, ⟨.struct [(0, 1, false), (1, 1, false), (2, 1, false)], 3, 24, [.int .i64 0, .int .i64 0, .int .i64 0], some [.int .i64, .int .i64, .int .i64]⟩),
  (179, ⟨.struct [(0, 1, false), (1, 1, false), (2, 1, false)], 3, 24, [.int .i64 0, .int .i64 0, .int .i64 0], some [.int .i64, .int .i64, .int .i64]⟩),
  (180, ⟨.struct [(0, 1, false), (1, 1, false)], 2, 48, [.nilsl, .nilsl], some [.ints .i64, .ints .i64]⟩),
  (181, ⟨.struct [(0, 1, false), (1, 1, false)], 2, 48, [.nilsl, .nilsl], some [.ints .i64, .ints .i64]⟩),
  (188, ⟨.map 209 3, 1, 8, [.undef], none⟩),
  (189, ⟨.map 209 3, 1, 8, [.undef], none⟩),
  (198, ⟨.ptr 200, 1, 8, [.nilp], none⟩),
  (199, ⟨.struct [(0, 1, false), (1, 1, false), (2, 1, false)], 3, 40, [.nilsl, .int .i64 0, .int .i64 0], some [.ints .u8, .int .i64, .int .i64]⟩),
  (200, ⟨.struct [(0, 1, false), (1, 1, false), (2, 1, false)], 3, 40, [.nilsl, .int .i64 0, .int .i64 0], some [.ints .u8, .int .i64, .int .i64]⟩),
  (208, ⟨.struct [(0, 1, false), (1, 1, false)], 2, 16, [.int .i64 0, .int .i64 0], some [.int .i64, .int .i64]⟩),
  (209, ⟨.struct [(0, 1, false), (1, 1, false)], 2, 16, [.int .i64 0, .int .i64 0], some [.int .i64, .int .i64]⟩),
  (211, ⟨.int .u64, 1, 8, [.int .u64 0], some [.int .u64]⟩),
  (217, ⟨.slice 219, 1, 24, [.nilsl], none⟩),
  (218, ⟨.struct [(0, 1, false), (1, 1, false)], 2, 32, [.int .i64 0, .nilsl], some [.int .i64, .ints .i64]⟩),
  (219, ⟨.struct [(0, 1, false), (1, 1, false)], 2, 32, [.int .i64 0, .nilsl], some [.int .i64, .ints .i64]⟩),
  (230, ⟨.ptr 232, 1, 8, [.nilp], none⟩),
  (231, ⟨.struct [(0, 1, false), (1, 1, false), (2, 1, false)], 3, 32, [.str [], .int .i64 0, .bool false], some [.str, .int .i64, .bool]⟩),
  (232, ⟨.struct [(0, 1, false), (1, 1, false), (2, 1, false)], 3, 32, [.str [], .int .i64 0, .bool false], some [.str, .int .i64, .bool]⟩),
  (236, ⟨.slice 238, 1, 24, [.nilsl], none⟩),
  (237, ⟨.struct [(0, 1, false), (1, 1, false), (2, 1, false)], 3, 40, [.int .i64 0, .int .i64 0, .nilsl], some [.int .i64, .int .i64, .ints .i64]⟩),
  (238, ⟨.struct [(0, 1, false), (1, 1, false), (2, 1, false)], 3, 40, [.int .i64 0, .int .i64 0, .nilsl], some [.int .i64, .int .i64, .ints .i64]⟩),
  (242, ⟨.struct [(0, 1, false), (1, 1, false)], 2, 2, [.int .u8 0, .int .u8 0], some [.int .u8, .int .u8]⟩),
  (243, ⟨.struct [(0, 1, false), (1, 1, false)], 2, 2, [.int .u8 0, .int .u8 0], some [.int .u8, .int .u8]⟩),
  (250, ⟨.struct [(0, 1, false), (1, 1, false), (2, 1, false), (3, 1, false)], 4, 40, [.nilp, .nilp, .nilp, .str []], none⟩),
  (251, ⟨.struct [(0, 1, false), (1, 1, false), (2, 1, false), (3, 1, false)], 4, 40, [.nilp, .nilp, .nilp, .str []], none⟩),
  (255, ⟨.int .u8, 1, 1, [.int .u8 0], some [.int .u8]⟩),
  (256, ⟨.int .u8, 1, 1, [.int .u8 0], some [.int .u8]⟩),
  (258, ⟨.int .i32, 1, 4, [.int .i32 0], some [.int .i32]⟩),
  (259, ⟨.int .i32, 1, 4, [.int .i32 0], some [.int .i32]⟩),
  (260, ⟨.struct [(0, 1, false), (1, 1, false), (2, 1, false), (3, 1, false), (4, 1, false), (5, 1, false), (6, 1, false), (7, 1, false), (8, 1, false), (9, 1, false), (10, 1, false)], 11, 48, [.int .u64 0, .int .u64 0, .int .u32 0, .int .u8 0, .int .u8 0, .int .u8 0, .int .u8 0, .undef, .nilp, .int .i32 0, .int .i32 0], none⟩),
  (261, ⟨.struct [(0, 1, false), (1, 1, false), (2, 1, false), (3, 1, false), (4, 1, false), (5, 1, false), (6, 1, false), (7, 1, false), (8, 1, false), (9, 1, false), (10, 1, false)], 11, 48, [.int .u64 0, .int .u64 0, .int .u32 0, .int .u8 0, .int .u8 0, .int .u8 0, .int .u8 0, .undef, .nilp, .int .i32 0, .int .i32 0], none⟩)]
theorem tyTab_ok : tisC Tryz.prog tyTab = true := by kernel_rfl
theorem nm : Tryz.prog.follows .mixedOrders = true := by kernel_rfl
def eqTab : List (Nat × FT) := [(209, [.int .i64, .int .i64])]
theorem eqTab_ok : eqsC Tryz.prog eqTab = true := by kernel_rfl
theorem onesTab_ok : onesC Tryz.prog tyTab = true := by kernel_rfl
def globs : List (Nat × List AV) := [(3, [.ro [.int .i64] [16, 17, 18, 0, 8, 7, 9, 6, 10, 5, 11, 4, 12, 3, 13, 2, 14, 1, 15]])]
def C0 : Ctx := ⟨tyOf tyTab, globOf globs, eqOf eqTab⟩
theorem tyOk : TyOk Tryz.prog C0 := tyOk_of rfl tyTab_ok nm rfl eqTab_ok onesTab_ok
end Ev
end
section
open Go Go.Proofs
set_option maxRecDepth 100000
namespace Ev
set_option maxHeartbeats 1000000
set_option linter.unusedVariables false
def within.S : Spec := ⟨0, [.sc (.int .i64), .sc (.int .i64), .sc (.int .i64)], [], [.int .i64, .int .i64, .int .i64], ⟨[.bool], .sc .bool, []⟩,
  fun ((n, low, high) : Int × Int × Int) => within n low high⟩
theorem within.ev : ∀ d, evFn C0 (hnd (tab [])) Tryz.f95 (.seq .u (.seq (.reg [.bool] [(6, .sc .bool)]) .u)) within.S d = within.S.F d := fun _ => by kernel_rfl
theorem within.sound : SoundS Tryz.prog C0 95 within.S := sound_of_ev tyOk (tab_ok (l := []) trivial) Tryz.func95 (by kernel_rfl) (by kernel_rfl) (by kernel_rfl) within.ev
def partOk.S : Spec := ⟨0, [.sc .str], [], [.str], ⟨[.bool], .sc .bool, []⟩,
  fun (s : Str) => partOk s⟩
theorem partOk.ev : ∀ d, evFn C0 (hnd (tab [(95, within.S)])) Tryz.f94 (.seq .u (.seq (.seq .u (.blk (.loopS ⟨[.str, .int .i64, .int .i64], [(0, .sc .str), (6, .sc (.int .i64)), (7, .sc (.int .i64))], []⟩ (fun ((s1, t, t1) : Str × Int × Int) => (t - t1).toNat + 1) 0 ⟨[.str], [(0, .sc .str)], []⟩ (.seq .u (.seq .u (.seq (.blk (.seq .u (.seq .u (.seq (.reg [.bool] [(38, .sc .bool)]) .u)))) .u)))))) (.seq (.reg [.bool] [(2, .sc .bool)]) .u))) partOk.S d = partOk.S.F d := fun _ => by kernel_rfl
theorem partOk.sound : SoundS Tryz.prog C0 94 partOk.S := sound_of_ev tyOk (tab_ok (l := [(95, within.S)]) ⟨within.sound, trivial⟩) Tryz.func94 (by kernel_rfl) (by kernel_rfl) (by kernel_rfl) partOk.ev
def l1In.S : Spec := ⟨0, [.sc (.int .i64), .sc (.int .i64), .sc (.int .i64)], [], [.int .i64, .int .i64, .int .i64], ⟨[.bool], .sc .bool, []⟩,
  fun ((n, low, high) : Int × Int × Int) => l1In n low high⟩
theorem l1In.ev : ∀ d, evFn C0 (hnd (tab [])) Tryz.f105 (.seq .u (.seq (.reg [.bool] [(6, .sc .bool)]) .u)) l1In.S d = l1In.S.F d := fun _ => by kernel_rfl
theorem l1In.sound : SoundS Tryz.prog C0 105 l1In.S := sound_of_ev tyOk (tab_ok (l := []) trivial) Tryz.func105 (by kernel_rfl) (by kernel_rfl) (by kernel_rfl) l1In.ev
def l1Cut.S : Spec := ⟨0, [.sc .str, .sc (.int .u8), .sc (.int .i64)], [], [.str, .int .u8, .int .i64], ⟨[.list [.str]], .full 0, [.arr [.str]]⟩,
  fun ((s, b, most) : Str × Int × Int) => l1Cut s b most⟩
theorem l1Cut.ev : ∀ d, evFn C0 (hnd (tab [])) Tryz.f104 (.seq .u (.seq .u (.seq .u (.seq (.seq .u (.blk (.loop ⟨[.str, .int .u8, .int .i64, .int .i64, .int .i64, .list [.str]], [(0, .sc .str), (1, .sc (.int .u8)), (2, .sc (.int .i64)), (7, .full 0), (8, .sc (.int .i64)), (9, .sc (.int .i64))], [.arr [.str]]⟩ (fun ((s1, b1, most1, from_, i, out) : Str × Int × Int × Int × Int × List Str) => ((s1.length : Int) - i).toNat + 1) 0 ⟨[.str, .int .i64, .list [.str]], [(0, .sc .str), (7, .full 0), (8, .sc (.int .i64))], [.arr [.str]]⟩ (.seq (.seq (.reg [.bool] [(20, .sc .bool)]) .u) .u)))) .u)))) l1Cut.S d = l1Cut.S.F d := fun _ => by kernel_rfl
theorem l1Cut.sound : SoundS Tryz.prog C0 104 l1Cut.S := sound_of_ev tyOk (tab_ok (l := []) trivial) Tryz.func104 (by kernel_rfl) (by kernel_rfl) (by kernel_rfl) l1Cut.ev
def specNameOk.S : Spec := ⟨0, [.sc .str], [], [.str], ⟨[.bool], .sc .bool, []⟩,
  fun (s : Str) => specNameOk s⟩
theorem specNameOk.ev : ∀ d, evFn C0 (hnd (tab [(104, l1Cut.S), (105, l1In.S)])) Tryz.f56 (.seq .u (.seq .u (.seq (.seq .u (.blk (.loopS ⟨[.int .i64, .list [.str]], [(3, .full 0), (4, .sc (.int .i64))], [.arr [.str]]⟩ (fun ((i, list) : Int × List Str) => ((list.length : Int) - i).toNat + 1) 0 ⟨[.list [.str]], [(3, .full 0)], [.arr [.str]]⟩ (.seq .u (.seq (.blk (.seq .u (.seq (.seq .u (.blk (.loopS ⟨[.int .i64, .str, .int .i64, .list [.str]], [(3, .full 0), (4, .sc (.int .i64)), (5, .sc .str), (6, .sc (.int .i64))], [.arr [.str]]⟩ (fun ((i1, w, k, list1) : Int × Str × Int × List Str) => ((w.length : Int) - k).toNat + 1) 2 ⟨[.int .i64, .str, .list [.str]], [(3, .full 0), (4, .sc (.int .i64)), (5, .sc .str)], [.arr [.str]]⟩ (.seq .u (.seq (.blk (.seq (.reg [.bool] [(68, .sc .bool)]) .u)) .u))))) (.seq (.reg [.bool] [(80, .sc .bool)]) .u)))) .u))))) .u))) specNameOk.S d = specNameOk.S.F d := fun _ => by kernel_rfl
theorem specNameOk.sound : SoundS Tryz.prog C0 56 specNameOk.S := sound_of_ev tyOk (tab_ok (l := [(104, l1Cut.S), (105, l1In.S)]) ⟨l1Cut.sound, l1In.sound, trivial⟩) Tryz.func56 (by kernel_rfl) (by kernel_rfl) (by kernel_rfl) specNameOk.ev
def l7Under.S : Spec := ⟨0, [.sc .str, .sc .str], [], [.str, .str], ⟨[.bool], .sc .bool, []⟩,
  fun ((a, b) : Str × Str) => l7Under a b⟩
theorem l7Under.ev : ∀ d, evFn C0 (hnd (tab [])) Tryz.f67 (.seq .u (.seq (.reg [.bool] [(4, .sc .bool)]) .u)) l7Under.S d = l7Under.S.F d := fun _ => by kernel_rfl
theorem l7Under.sound : SoundS Tryz.prog C0 67 l7Under.S := sound_of_ev tyOk (tab_ok (l := []) trivial) Tryz.func67 (by kernel_rfl) (by kernel_rfl) (by kernel_rfl) l7Under.ev
def hasPrefix0.S : Spec := ⟨0, [.sc .str, .sc .str], [], [.str, .str], ⟨[.bool], .sc .bool, []⟩,
  fun ((s, p) : Str × Str) => hasPrefix0 s p⟩
theorem hasPrefix0.ev : ∀ d, evFn C0 (hnd (tab [])) Tryz.f136 (.seq .u (.seq (.reg [.bool] [(4, .sc .bool)]) .u)) hasPrefix0.S d = hasPrefix0.S.F d := fun _ => by kernel_rfl
theorem hasPrefix0.sound : SoundS Tryz.prog C0 136 hasPrefix0.S := sound_of_ev tyOk (tab_ok (l := []) trivial) Tryz.func136 (by kernel_rfl) (by kernel_rfl) (by kernel_rfl) hasPrefix0.ev
def hasPrefix.S : Spec := ⟨0, [.sc .str, .sc .str], [], [.str, .str], ⟨[.bool], .sc .bool, []⟩,
  fun ((s, p) : Str × Str) => hasPrefix s p⟩
theorem hasPrefix.ev : ∀ d, evFn C0 (hnd (tab [(136, hasPrefix0.S)])) Tryz.f84 .u hasPrefix.S d = hasPrefix.S.F d := fun _ => by kernel_rfl
theorem hasPrefix.sound : SoundS Tryz.prog C0 84 hasPrefix.S := sound_of_ev tyOk (tab_ok (l := [(136, hasPrefix0.S)]) ⟨hasPrefix0.sound, trivial⟩) Tryz.func84 (by kernel_rfl) (by kernel_rfl) (by kernel_rfl) hasPrefix.ev
def indexByteString.S : Spec := indexByteSpec
theorem indexByteString.sound : SoundS Tryz.prog C0 244 indexByteString.S := indexByte_sound Tryz.func244 (by kernel_rfl) (by kernel_rfl) (by kernel_rfl) (by kernel_rfl)
def countString.S : Spec := countByteSpec
theorem countString.sound : SoundS Tryz.prog C0 216 countString.S := countByte_sound Tryz.func216 (by kernel_rfl) (by kernel_rfl) (by kernel_rfl) (by kernel_rfl)
def indexByte0.S : Spec := ⟨0, [.sc .str, .sc (.int .u8)], [], [.str, .int .u8], ⟨[.int .i64], .sc (.int .i64), []⟩,
  fun ((s, c) : Str × Int) => indexByte0 s c⟩
theorem indexByte0.ev : ∀ d, evFn C0 (hnd (tab [(244, indexByteString.S)])) Tryz.f220 .u indexByte0.S d = indexByte0.S.F d := fun _ => by kernel_rfl
theorem indexByte0.sound : SoundS Tryz.prog C0 220 indexByte0.S := sound_of_ev tyOk (tab_ok (l := [(244, indexByteString.S)]) ⟨indexByteString.sound, trivial⟩) Tryz.func220 (by kernel_rfl) (by kernel_rfl) (by kernel_rfl) indexByte0.ev
def index0S.S : Spec := ⟨0, [.sc .str, .cstr [47]], [], [.str], ⟨[.int .i64], .sc (.int .i64), []⟩,
  fun (s : Str) => index0S s⟩
theorem index0S.ev : ∀ d, evFn C0 (hnd (tab [(220, indexByte0.S)])) Tryz.f199 (.seq .u (.seq .u (.seq (.blk (.seq (.reg [.bool] [(16, .sc .bool)]) .u)) .u))) index0S.S d = index0S.S.F d := fun _ => by kernel_rfl
theorem index0S.sound : SoundS Tryz.prog C0 199 index0S.S := sound_of_ev tyOk (tab_ok (l := [(220, indexByte0.S)]) ⟨indexByte0.sound, trivial⟩) Tryz.func199 (by kernel_rfl) (by kernel_rfl) (by kernel_rfl) index0S.ev
def indexS.S : Spec := ⟨0, [.sc .str, .cstr [47]], [], [.str], ⟨[.int .i64], .sc (.int .i64), []⟩,
  fun (s : Str) => indexS s⟩
theorem indexS.ev : ∀ d, evFn C0 (hnd (tab [(199, index0S.S)])) Tryz.f180 .u indexS.S d = indexS.S.F d := fun _ => by kernel_rfl
theorem indexS.sound : SoundS Tryz.prog C0 180 indexS.S := sound_of_ev tyOk (tab_ok (l := [(199, index0S.S)]) ⟨index0S.sound, trivial⟩) Tryz.func180 (by kernel_rfl) (by kernel_rfl) (by kernel_rfl) indexS.ev
def countS.S : Spec := ⟨0, [.sc .str, .cstr [47]], [], [.str], ⟨[.int .i64], .sc (.int .i64), []⟩,
  fun (s : Str) => countS s⟩
theorem countS.ev : ∀ d, evFn C0 (hnd (tab [(216, countString.S)])) Tryz.f179 .u countS.S d = countS.S.F d := fun _ => by kernel_rfl
theorem countS.sound : SoundS Tryz.prog C0 179 countS.S := sound_of_ev tyOk (tab_ok (l := [(216, countString.S)]) ⟨countString.sound, trivial⟩) Tryz.func179 (by kernel_rfl) (by kernel_rfl) (by kernel_rfl) countS.ev
def genSplitS.S : Spec := ⟨0, [.sc .str, .cstr [47], .cint .i64 0, .cint .i64 (-1)], [], [.str], ⟨[.list [.str]], .sc (.list [.str]), []⟩,
  fun (s : Str) => genSplitS s⟩
theorem genSplitS.ev : ∀ d, evFn C0 (hnd (tab [(179, countS.S), (180, indexS.S)])) Tryz.f143 (.seq .u (.seq .u (.seq .u (.join ⟨[.str, .int .i64], [(0, .sc .str), (1, .cstr [47]), (2, .cint .i64 0), (3, .sc (.int .i64))], []⟩ .u (.seq .u (.seq .u (.seq .u (.seq .u (.seq (.blk (.loop ⟨[.str, .int .i64, .int .i64, .list [.str]], [(0, .sc .str), (1, .cstr [47]), (2, .cint .i64 0), (3, .sc (.int .i64)), (9, .full 0), (10, .sc (.int .i64))], [.arr [.str]]⟩ (fun ((s2, n1, i, a) : Str × Int × Int × List Str) => (n1 - i).toNat + 1) 0 ⟨[.str, .int .i64, .list [.str]], [(0, .sc .str), (9, .full 0), (10, .sc (.int .i64))], [.arr [.str]]⟩ .u)) .u))))))))) genSplitS.S d = genSplitS.S.F d := fun _ => by kernel_rfl
theorem genSplitS.sound : SoundS Tryz.prog C0 143 genSplitS.S := sound_of_ev tyOk (tab_ok (l := [(179, countS.S), (180, indexS.S)]) ⟨countS.sound, indexS.sound, trivial⟩) Tryz.func143 (by kernel_rfl) (by kernel_rfl) (by kernel_rfl) genSplitS.ev
def splitS.S : Spec := ⟨0, [.sc .str, .cstr [47]], [], [.str], ⟨[.list [.str]], .sc (.list [.str]), []⟩,
  fun (s : Str) => splitS s⟩
theorem splitS.ev : ∀ d, evFn C0 (hnd (tab [(143, genSplitS.S)])) Tryz.f93 .u splitS.S d = splitS.S.F d := fun _ => by kernel_rfl
theorem splitS.sound : SoundS Tryz.prog C0 93 splitS.S := sound_of_ev tyOk (tab_ok (l := [(143, genSplitS.S)]) ⟨genSplitS.sound, trivial⟩) Tryz.func93 (by kernel_rfl) (by kernel_rfl) (by kernel_rfl) splitS.ev
def implNameOk.S : Spec := ⟨0, [.sc .str], [], [.str], ⟨[.bool], .sc .bool, []⟩,
  fun (s : Str) => implNameOk s⟩
theorem implNameOk.ev : ∀ d, evFn C0 (hnd (tab [(93, splitS.S), (94, partOk.S)])) Tryz.f50 (.seq .u (.seq .u (.seq (.seq .u (.blk (.loopS ⟨[.list [.str], .list [.str], .int .i64, .int .i64], [(3, .sc (.list [.str])), (8, .sc (.list [.str])), (9, .sc (.int .i64)), (10, .sc (.int .i64))], []⟩ (fun ((parts, t, t1, t2) : List Str × List Str × Int × Int) => (t1 - t2).toNat + 1) 0 ⟨[.list [.str]], [(3, .sc (.list [.str]))], []⟩ .u))) .u))) implNameOk.S d = implNameOk.S.F d := fun _ => by kernel_rfl
theorem implNameOk.sound : SoundS Tryz.prog C0 50 implNameOk.S := sound_of_ev tyOk (tab_ok (l := [(93, splitS.S), (94, partOk.S)]) ⟨splitS.sound, partOk.sound, trivial⟩) Tryz.func50 (by kernel_rfl) (by kernel_rfl) (by kernel_rfl) implNameOk.ev
def apart.S : Spec := ⟨0, [.sc (.list [.str])], [], [.list [.str]], ⟨[.bool], .sc .bool, []⟩,
  fun (xs : List Str) => apart xs⟩
theorem apart.ev : ∀ d, evFn C0 (hnd (tab [(84, hasPrefix.S)])) Tryz.f65 (.seq .u (.seq (.seq .u (.blk (.loopS ⟨[.list [.str], .list [.str], .int .i64, .int .i64], [(0, .sc (.list [.str])), (7, .sc (.list [.str])), (8, .sc (.int .i64)), (9, .sc (.int .i64))], []⟩ (fun ((names, t, t1, t2) : List Str × List Str × Int × Int) => (t1 - t2).toNat + 1) 0 ⟨[], [], []⟩ (.seq .u (.seq .u (.seq (.blk (.seq .u (.seq .u (.blk (.loopS ⟨[.list [.str], .str, .list [.str], .int .i64, .int .i64, .list [.str], .int .i64, .int .i64], [(0, .sc (.list [.str])), (4, .sc .str), (7, .sc (.list [.str])), (8, .sc (.int .i64)), (9, .sc (.int .i64)), (16, .sc (.list [.str])), (17, .sc (.int .i64)), (18, .sc (.int .i64))], []⟩ (fun ((names1, a, t3, t4, t5, t6, t7, t8) : List Str × Str × List Str × Int × Int × List Str × Int × Int) => (t7 - t8).toNat + 1) 2 ⟨[.list [.str], .list [.str], .int .i64, .int .i64], [(0, .sc (.list [.str])), (7, .sc (.list [.str])), (8, .sc (.int .i64)), (9, .sc (.int .i64))], []⟩ (.seq .u (.seq .u (.seq (.blk (.seq .u (.seq (.reg [.bool] [(36, .sc .bool)]) .u))) .u)))))))) .u)))))) .u)) apart.S d = apart.S.F d := fun _ => by kernel_rfl
theorem apart.sound : SoundS Tryz.prog C0 65 apart.S := sound_of_ev tyOk (tab_ok (l := [(84, hasPrefix.S)]) ⟨hasPrefix.sound, trivial⟩) Tryz.func65 (by kernel_rfl) (by kernel_rfl) (by kernel_rfl) apart.ev
def rBit.S : Spec := ⟨1, [.ptr 0 0], [.box [.sc .str, .sc (.int .i64), .sc .bool]], [.str, .int .i64, .bool], ⟨[.int .i64, .str, .int .i64, .bool], .sc (.int .i64), [.box [.sc .str, .sc (.int .i64), .sc .bool]]⟩,
  fun ((s, at_, bad) : Str × Int × Bool) => rBit s at_ bad⟩
theorem rBit.ev : ∀ d, evFn C0 (hnd (tab [])) Tryz.f149 .u rBit.S d = rBit.S.F d := fun _ => by kernel_rfl
theorem rBit.sound : SoundS Tryz.prog C0 149 rBit.S := sound_of_ev tyOk (tab_ok (l := []) trivial) Tryz.func149 (by kernel_rfl) (by kernel_rfl) (by kernel_rfl) rBit.ev
def rGet.S : Spec := ⟨1, [.ptr 0 0, .sc (.int .i64)], [.box [.sc .str, .sc (.int .i64), .sc .bool]], [.int .i64, .str, .int .i64, .bool], ⟨[.int .i64, .str, .int .i64, .bool], .sc (.int .i64), [.box [.sc .str, .sc (.int .i64), .sc .bool]]⟩,
  fun ((bits, s, at_, bad) : Int × Str × Int × Bool) => rGet bits s at_ bad⟩
theorem rGet.ev : ∀ d, evFn C0 (hnd (tab [(149, rBit.S)])) Tryz.f150 (.seq .u (.seq .u (.seq (.seq .u (.blk (.loop ⟨[.int .i64, .int .i64, .int .i64, .str, .int .i64, .bool], [(0, .ptr 0 0), (5, .sc (.int .i64)), (7, .sc (.int .i64)), (8, .sc (.int .i64))], [.box [.sc .str, .sc (.int .i64), .sc .bool]]⟩ (fun ((n, t, t1, o, o1, o2) : Int × Int × Int × Str × Int × Bool) => (t - t1).toNat + 1) 0 ⟨[.int .i64, .str, .int .i64, .bool], [(5, .sc (.int .i64))], [.box [.sc .str, .sc (.int .i64), .sc .bool]]⟩ .u))) .u))) rGet.S d = rGet.S.F d := fun _ => by kernel_rfl
theorem rGet.sound : SoundS Tryz.prog C0 150 rGet.S := sound_of_ev tyOk (tab_ok (l := [(149, rBit.S)]) ⟨rBit.sound, trivial⟩) Tryz.func150 (by kernel_rfl) (by kernel_rfl) (by kernel_rfl) rGet.ev
def rEven.S : Spec := ⟨1, [.ptr 0 0], [.box [.sc .str, .sc (.int .i64), .sc .bool]], [.str, .int .i64, .bool], ⟨[.str, .int .i64, .bool], .tup [], [.box [.sc .str, .sc (.int .i64), .sc .bool]]⟩,
  fun ((s, at_, bad) : Str × Int × Bool) => rEven s at_ bad⟩
theorem rEven.ev : ∀ d, evFn C0 (hnd (tab [(149, rBit.S)])) Tryz.f155 (.blk (.loop ⟨[.str, .int .i64, .bool], [(0, .ptr 0 0)], [.box [.sc .str, .sc (.int .i64), .sc .bool]]⟩ (fun ((o, o1, o2) : Str × Int × Bool) => 9) 0 ⟨[.str, .int .i64, .bool], [], [.box [.sc .str, .sc (.int .i64), .sc .bool]]⟩ .u)) rEven.S d = rEven.S.F d := fun _ => by kernel_rfl
theorem rEven.sound : SoundS Tryz.prog C0 155 rEven.S := sound_of_ev tyOk (tab_ok (l := [(149, rBit.S)]) ⟨rBit.sound, trivial⟩) Tryz.func155 (by kernel_rfl) (by kernel_rfl) (by kernel_rfl) rEven.ev
def crcUpdate.S : Spec := ⟨0, [.sc (.int .u32), .sc .str], [], [.int .u32, .str], ⟨[.int .u32], .sc (.int .u32), []⟩,
  fun ((crc_, text) : Int × Str) => crcUpdate crc_ text⟩
theorem crcUpdate.ev : ∀ d, evFn C0 (hnd (tab [])) Tryz.f165 (.seq .u (.seq .u (.seq (.seq .u (.blk (.loop ⟨[.int .u32, .str, .int .i64], [(0, .sc (.int .u32)), (1, .sc .str), (5, .sc (.int .i64))], []⟩ (fun ((crc_1, text1, k) : Int × Str × Int) => ((text1.length : Int) - k).toNat + 1) 0 ⟨[.int .u32], [(0, .sc (.int .u32))], []⟩ (.seq .u (.seq (.blk (.seq .u (.seq .u (.blk (.loop ⟨[.int .u32, .str, .int .i64, .int .i64], [(0, .sc (.int .u32)), (1, .sc .str), (5, .sc (.int .i64)), (20, .sc (.int .i64))], []⟩ (fun ((crc_2, text2, k1, t) : Int × Str × Int × Int) => (8 - t).toNat + 1) 2 ⟨[.int .u32, .str, .int .i64], [(0, .sc (.int .u32)), (1, .sc .str), (5, .sc (.int .i64))], []⟩ .u))))) .u))))) .u))) crcUpdate.S d = crcUpdate.S.F d := fun _ => by kernel_rfl
theorem crcUpdate.sound : SoundS Tryz.prog C0 165 crcUpdate.S := sound_of_ev tyOk (tab_ok (l := []) trivial) Tryz.func165 (by kernel_rfl) (by kernel_rfl) (by kernel_rfl) crcUpdate.ev
def crc.S : Spec := ⟨0, [.sc .str], [], [.str], ⟨[.int .i64], .sc (.int .i64), []⟩,
  fun (text : Str) => crc text⟩
theorem crc.ev : ∀ d, evFn C0 (hnd (tab [(165, crcUpdate.S)])) Tryz.f115 .u crc.S d = crc.S.F d := fun _ => by kernel_rfl
theorem crc.sound : SoundS Tryz.prog C0 115 crc.S := sound_of_ev tyOk (tab_ok (l := [(165, crcUpdate.S)]) ⟨crcUpdate.sound, trivial⟩) Tryz.func115 (by kernel_rfl) (by kernel_rfl) (by kernel_rfl) crc.ev
def lensOk.S : Spec := ⟨0, [.sc (.list [.int .i64])], [], [.list [.int .i64]], ⟨[.bool], .sc .bool, []⟩,
  fun (lens : List Int) => lensOk lens⟩
theorem lensOk.ev : ∀ d, evFn C0 (hnd (tab [(95, within.S)])) Tryz.f193 (.seq .u (.seq .u (.seq .u (.seq (.seq .u (.blk (.loopS ⟨[.int .i64, .int .i64, .int .i64, .list [.int .i64], .int .i64, .int .i64], [(3, .sc (.int .i64)), (4, .sc (.int .i64)), (5, .sc (.int .i64)), (11, .sc (.list [.int .i64])), (12, .sc (.int .i64)), (13, .sc (.int .i64))], []⟩ (fun ((sum, many, last, t, t1, t2) : Int × Int × Int × List Int × Int × Int) => (t1 - t2).toNat + 1) 0 ⟨[.int .i64, .int .i64, .int .i64], [(3, .sc (.int .i64)), (4, .sc (.int .i64)), (5, .sc (.int .i64))], []⟩ .u))) (.seq (.reg [.bool] [(2, .sc .bool)]) .u))))) lensOk.S d = lensOk.S.F d := fun _ => by kernel_rfl
theorem lensOk.sound : SoundS Tryz.prog C0 193 lensOk.S := sound_of_ev tyOk (tab_ok (l := [(95, within.S)]) ⟨within.sound, trivial⟩) Tryz.func193 (by kernel_rfl) (by kernel_rfl) (by kernel_rfl) lensOk.ev
def codes.S : Spec := ⟨0, [.sc (.list [.int .i64])], [], [.list [.int .i64]], ⟨[.list [.int .i64]], .full 0, [.arr [.int .i64]]⟩,
  fun (lens : List Int) => codes lens⟩
theorem codes.ev : ∀ d, evFn C0 (hnd (tab [])) Tryz.f190 (.seq .u (.seq .u (.seq .u (.seq (.seq .u (.blk (.loop ⟨[.list [.int .i64], .int .i64, .int .i64, .list [.int .i64]], [(0, .sc (.list [.int .i64])), (3, .full 0), (4, .sc (.int .i64)), (5, .sc (.int .i64))], [.arr [.int .i64]]⟩ (fun ((lens1, next_, l, out) : List Int × Int × Int × List Int) => (15 - l).toNat + 2) 0 ⟨[.list [.int .i64]], [(3, .full 0)], [.arr [.int .i64]]⟩ (.seq .u (.seq (.blk (.seq (.seq .u (.blk (.loop ⟨[.list [.int .i64], .int .i64, .int .i64, .list [.int .i64], .int .i64, .int .i64, .list [.int .i64]], [(0, .sc (.list [.int .i64])), (3, .full 0), (4, .sc (.int .i64)), (5, .sc (.int .i64)), (15, .sc (.list [.int .i64])), (16, .sc (.int .i64)), (17, .sc (.int .i64))], [.arr [.int .i64]]⟩ (fun ((lens2, next_1, l1, t, t1, t2, out1) : List Int × Int × Int × List Int × Int × Int × List Int) => (t1 - t2).toNat + 1) 2 ⟨[.list [.int .i64], .int .i64, .int .i64, .list [.int .i64]], [(0, .sc (.list [.int .i64])), (3, .full 0), (4, .sc (.int .i64)), (5, .sc (.int .i64))], [.arr [.int .i64]]⟩ .u))) .u)) .u))))) .u)))) codes.S d = codes.S.F d := fun _ => by kernel_rfl
theorem codes.sound : SoundS Tryz.prog C0 190 codes.S := sound_of_ev tyOk (tab_ok (l := []) trivial) Tryz.func190 (by kernel_rfl) (by kernel_rfl) (by kernel_rfl) codes.ev
end Ev
end
section
open Go Go.Proofs
set_option maxRecDepth 100000
namespace Ev
set_option maxHeartbeats 1000000
set_option linter.unusedVariables false
def bookOf.S : Spec := ⟨0, [.sc (.list [.int .i64])], [], [.list [.int .i64]], ⟨[.map [.int .i64, .int .i64] [.int .i64]], .map 0, [.map [.int .i64, .int .i64] [.int .i64]]⟩,
  fun (lens : List Int) => bookOf lens⟩
theorem bookOf.ev : ∀ d, evFn C0 (hnd (tab [(190, codes.S)])) Tryz.f194 (.seq .u (.seq .u (.seq (.seq .u (.blk (.loop ⟨[.list [.int .i64], .int .i64, .int .i64, .map [.int .i64, .int .i64] [.int .i64], .list [.int .i64]], [(0, .sc (.list [.int .i64])), (3, .map 0), (8, .full 1), (9, .sc (.int .i64)), (10, .sc (.int .i64))], [.map [.int .i64, .int .i64] [.int .i64], .arr [.int .i64]]⟩ (fun ((lens1, t, t1, o, o1) : List Int × Int × Int × (List ((Int × Int) × Int)) × List Int) => (t - t1).toNat + 1) 0 ⟨[.map [.int .i64, .int .i64] [.int .i64]], [(3, .map 0)], [.map [.int .i64, .int .i64] [.int .i64]]⟩ .u))) .u))) bookOf.S d = bookOf.S.F d := fun _ => by kernel_rfl
theorem bookOf.sound : SoundS Tryz.prog C0 194 bookOf.S := sound_of_ev tyOk (tab_ok (l := [(190, codes.S)]) ⟨codes.sound, trivial⟩) Tryz.func194 (by kernel_rfl) (by kernel_rfl) (by kernel_rfl) bookOf.ev
def rSymbol.S : Spec := ⟨2, [.ptr 0 0, .map 1], [.box [.sc .str, .sc (.int .i64), .sc .bool], .map [.int .i64, .int .i64] [.int .i64]], [.str, .int .i64, .bool, .map [.int .i64, .int .i64] [.int .i64]], ⟨[.int .i64, .str, .int .i64, .bool, .map [.int .i64, .int .i64] [.int .i64]], .sc (.int .i64), [.box [.sc .str, .sc (.int .i64), .sc .bool], .map [.int .i64, .int .i64] [.int .i64]]⟩,
  fun ((s, at_, bad, book) : Str × Int × Bool × List ((Int × Int) × Int)) => rSymbol s at_ bad book⟩
theorem rSymbol.ev : ∀ d, evFn C0 (hnd (tab [(149, rBit.S)])) Tryz.f195 (.seq .u (.seq .u (.seq (.seq .u (.blk (.loopS ⟨[.int .i64, .int .i64, .str, .int .i64, .bool, .map [.int .i64, .int .i64] [.int .i64]], [(0, .ptr 0 0), (1, .map 1), (5, .sc (.int .i64)), (6, .sc (.int .i64))], [.box [.sc .str, .sc (.int .i64), .sc .bool], .map [.int .i64, .int .i64] [.int .i64]]⟩ (fun ((code_, l, o, o1, o2, o3) : Int × Int × Str × Int × Bool × List ((Int × Int) × Int)) => (15 - l).toNat + 2) 0 ⟨[.str, .int .i64, .bool, .map [.int .i64, .int .i64] [.int .i64]], [(0, .ptr 0 0)], [.box [.sc .str, .sc (.int .i64), .sc .bool], .map [.int .i64, .int .i64] [.int .i64]]⟩ (.seq .u (.seq (.blk (.seq .u (.seq .u (.seq (.reg [.bool] [(33, .sc .bool)]) .u)))) .u))))) .u))) rSymbol.S d = rSymbol.S.F d := fun _ => by kernel_rfl
theorem rSymbol.sound : SoundS Tryz.prog C0 195 rSymbol.S := sound_of_ev tyOk (tab_ok (l := [(149, rBit.S)]) ⟨rBit.sound, trivial⟩) Tryz.func195 (by kernel_rfl) (by kernel_rfl) (by kernel_rfl) rSymbol.ev
def add.S : Spec := ⟨0, [.full 0, .agg [.sc (.int .i64), .sc (.int .i64), .sc (.int .i64)]], [.arr [.int .u8]], [.int .i64, .int .i64, .int .i64, .list [.int .u8]], ⟨[.bool, .list [.int .u8]], .tup [.full 0, .sc .bool], [.arr [.int .u8]]⟩,
  fun ((byte, long, back, out) : Int × Int × Int × List Int) => add byte long back out⟩
theorem add.ev : ∀ d, evFn C0 (hnd (tab [(95, within.S)])) Tryz.f196 (.seq .u (.seq (.seq .u (.cond (.seq (.seq (.reg [.bool] [(17, .sc .bool)]) .u) .u) .u)) (.seq (.seq (.reg [.bool] [(41, .sc .bool)]) .u) (.seq (.seq .u (.blk (.loop ⟨[.int .i64, .int .i64, .list [.int .u8], .int .i64, .int .i64, .int .i64], [(0, .full 0), (3, .ptr 1 0), (43, .sc (.int .i64)), (44, .sc (.int .i64))], [.arr [.int .u8], .box [.sc (.int .i64), .sc (.int .i64), .sc (.int .i64)]]⟩ (fun ((t, t1, out1, o, o1, o2) : Int × Int × List Int × Int × Int × Int) => (t - t1).toNat + 1) 0 ⟨[.list [.int .u8]], [(0, .full 0)], [.arr [.int .u8]]⟩ .u))) .u)))) add.S d = add.S.F d := fun _ => by kernel_rfl
theorem add.sound : SoundS Tryz.prog C0 196 add.S := sound_of_ev tyOk (tab_ok (l := [(95, within.S)]) ⟨within.sound, trivial⟩) Tryz.func196 (by kernel_rfl) (by kernel_rfl) (by kernel_rfl) add.ev
def ladderOf.S : Spec := ⟨0, [.sc (.int .i64), .sc (.int .i64), .sc (.int .i64), .sc (.int .i64)], [], [.int .i64, .int .i64, .int .i64, .int .i64], ⟨[.list [.int .i64], .list [.int .i64]], .agg [.sc (.list [.int .i64]), .sc (.list [.int .i64])], []⟩,
  fun ((from_, many, plain, each) : Int × Int × Int × Int) => ladderOf from_ many plain each⟩
theorem ladderOf.ev : ∀ d, evFn C0 (hnd (tab [])) Tryz.f217 (.seq .u (.seq .u (.seq (.seq .u (.blk (.loop ⟨[.int .i64, .int .i64, .int .i64, .int .i64, .int .i64, .list [.int .i64], .list [.int .i64], .list [.int .i64], .list [.int .i64]], [(0, .sc (.int .i64)), (2, .sc (.int .i64)), (3, .sc (.int .i64)), (8, .ptr 0 0), (9, .ptr 1 0), (13, .sc (.int .i64)), (14, .sc (.int .i64))], [.box [.full 2, .full 3], .box [.full 4, .full 5], .arr [.int .i64], .arr [.int .i64], .arr [.int .i64], .arr [.int .i64]]⟩ (fun ((from_1, plain1, each1, t, t1, o, o1, o2, o3) : Int × Int × Int × Int × Int × List Int × List Int × List Int × List Int) => (t - t1).toNat + 1) 0 ⟨[.list [.int .i64], .list [.int .i64], .list [.int .i64], .list [.int .i64]], [(8, .ptr 0 0), (9, .ptr 1 0)], [.box [.full 2, .full 3], .box [.full 4, .full 5], .arr [.int .i64], .arr [.int .i64], .arr [.int .i64], .arr [.int .i64]]⟩ (.seq .u (.seq .u (.seq (.blk (.seq .u (.seq .u (.join ⟨[.int .i64, .int .i64, .int .i64, .int .i64, .int .i64, .int .i64, .list [.int .i64], .list [.int .i64], .list [.int .i64], .list [.int .i64]], [(0, .sc (.int .i64)), (2, .sc (.int .i64)), (3, .sc (.int .i64)), (8, .ptr 0 0), (9, .ptr 1 0), (11, .sc (.int .i64)), (13, .sc (.int .i64)), (14, .sc (.int .i64))], [.box [.full 2, .full 3], .box [.full 4, .full 5], .arr [.int .i64], .arr [.int .i64], .arr [.int .i64], .arr [.int .i64]]⟩ .u .u)))) .u)))))) .u))) ladderOf.S d = ladderOf.S.F d := fun _ => by kernel_rfl
theorem ladderOf.sound : SoundS Tryz.prog C0 217 ladderOf.S := sound_of_ev tyOk (tab_ok (l := []) trivial) Tryz.func217 (by kernel_rfl) (by kernel_rfl) (by kernel_rfl) ladderOf.ev
def longsOf.S : Spec := ⟨0, [], [], [], ⟨[.list [.int .i64], .list [.int .i64]], .agg [.sc (.list [.int .i64]), .sc (.list [.int .i64])], []⟩,
  fun (_ : Unit) => longsOf⟩
theorem longsOf.ev : ∀ d, evFn C0 (hnd (tab [(217, ladderOf.S)])) Tryz.f185 .u longsOf.S d = longsOf.S.F d := fun _ => by kernel_rfl
theorem longsOf.sound : SoundS Tryz.prog C0 185 longsOf.S := sound_of_ev tyOk (tab_ok (l := [(217, ladderOf.S)]) ⟨ladderOf.sound, trivial⟩) Tryz.func185 (by kernel_rfl) (by kernel_rfl) (by kernel_rfl) longsOf.ev
def backsOf.S : Spec := ⟨0, [], [], [], ⟨[.list [.int .i64], .list [.int .i64]], .agg [.sc (.list [.int .i64]), .sc (.list [.int .i64])], []⟩,
  fun (_ : Unit) => backsOf⟩
theorem backsOf.ev : ∀ d, evFn C0 (hnd (tab [(217, ladderOf.S)])) Tryz.f187 .u backsOf.S d = backsOf.S.F d := fun _ => by kernel_rfl
theorem backsOf.sound : SoundS Tryz.prog C0 187 backsOf.S := sound_of_ev tyOk (tab_ok (l := [(217, ladderOf.S)]) ⟨ladderOf.sound, trivial⟩) Tryz.func187 (by kernel_rfl) (by kernel_rfl) (by kernel_rfl) backsOf.ev
def fixedLens.S : Spec := ⟨0, [], [], [], ⟨[.list [.int .i64], .list [.int .i64]], .tup [.full 0, .full 1], [.arr [.int .i64], .arr [.int .i64]]⟩,
  fun (_ : Unit) => fixedLens⟩
theorem fixedLens.ev : ∀ d, evFn C0 (hnd (tab [])) Tryz.f152 (.seq .u (.seq .u (.seq (.seq .u (.blk (.loop ⟨[.int .i64, .int .i64, .list [.int .i64]], [(2, .full 0), (8, .sc (.int .i64)), (9, .sc (.int .i64))], [.arr [.int .i64]]⟩ (fun ((t, t1, lit) : Int × Int × List Int) => (t - t1).toNat + 1) 0 ⟨[.list [.int .i64]], [(2, .full 0)], [.arr [.int .i64]]⟩ (.seq .u (.seq .u (.seq (.blk (.seq .u (.blk (.seq (.reg [.bool] [(15, .sc .bool)]) .u)))) .u)))))) (.seq .u (.seq (.seq .u (.blk (.loop ⟨[.int .i64, .int .i64, .list [.int .i64], .list [.int .i64]], [(2, .full 0), (4, .full 1), (34, .sc (.int .i64)), (35, .sc (.int .i64))], [.arr [.int .i64], .arr [.int .i64]]⟩ (fun ((t2, t3, lit2, dist) : Int × Int × List Int × List Int) => (t2 - t3).toNat + 1) 3 ⟨[.list [.int .i64], .list [.int .i64]], [(2, .full 0), (4, .full 1)], [.arr [.int .i64], .arr [.int .i64]]⟩ .u))) .u))))) fixedLens.S d = fixedLens.S.F d := fun _ => by kernel_rfl
theorem fixedLens.sound : SoundS Tryz.prog C0 152 fixedLens.S := sound_of_ev tyOk (tab_ok (l := []) trivial) Tryz.func152 (by kernel_rfl) (by kernel_rfl) (by kernel_rfl) fixedLens.ev
end Ev
end
section
open Go Go.Proofs
set_option maxRecDepth 100000
namespace Ev
set_option maxHeartbeats 1000000
set_option linter.unusedVariables false
def rStored.S : Spec := ⟨1, [.ptr 0 0, .full 1], [.box [.sc .str, .sc (.int .i64), .sc .bool], .arr [.int .u8]], [.str, .int .i64, .bool, .list [.int .u8]], ⟨[.str, .int .i64, .bool, .list [.int .u8]], .full 1, [.box [.sc .str, .sc (.int .i64), .sc .bool], .arr [.int .u8]]⟩,
  fun ((s, at_, bad, out) : Str × Int × Bool × List Int) => rStored s at_ bad out⟩
theorem rStored.ev : ∀ d, evFn C0 (hnd (tab [(150, rGet.S), (155, rEven.S)])) Tryz.f151 (.seq .u (.seq .u (.seq .u (.join ⟨[.int .i64, .str, .int .i64, .bool, .list [.int .u8]], [(0, .ptr 0 0), (1, .full 1), (5, .sc (.int .i64))], [.box [.sc .str, .sc (.int .i64), .sc .bool], .arr [.int .u8]]⟩ .u (.seq (.seq .u (.blk (.loop ⟨[.int .i64, .int .i64, .str, .int .i64, .bool, .list [.int .u8]], [(0, .ptr 0 0), (1, .full 1), (5, .sc (.int .i64)), (7, .sc (.int .i64))], [.box [.sc .str, .sc (.int .i64), .sc .bool], .arr [.int .u8]]⟩ (fun ((n1, k, o3, o4, o5, out2) : Int × Int × Str × Int × Bool × List Int) => (n1 - k).toNat + 1) 0 ⟨[.str, .int .i64, .bool, .list [.int .u8]], [(1, .full 1)], [.box [.sc .str, .sc (.int .i64), .sc .bool], .arr [.int .u8]]⟩ (.seq (.seq (.reg [.bool] [(35, .sc .bool)]) .u) .u)))) .u))))) rStored.S d = rStored.S.F d := fun _ => by kernel_rfl
theorem rStored.sound : SoundS Tryz.prog C0 151 rStored.S := sound_of_ev tyOk (tab_ok (l := [(150, rGet.S), (155, rEven.S)]) ⟨rGet.sound, rEven.sound, trivial⟩) Tryz.func151 (by kernel_rfl) (by kernel_rfl) (by kernel_rfl) rStored.ev
def rLengths.S : Spec := ⟨1, [.ptr 0 0], [.box [.sc .str, .sc (.int .i64), .sc .bool]], [.str, .int .i64, .bool], ⟨[.list [.int .i64], .list [.int .i64], .str, .int .i64, .bool], .tup [.sc (.list [.int .i64]), .sc (.list [.int .i64])], [.box [.sc .str, .sc (.int .i64), .sc .bool]]⟩,
  fun ((s, at_, bad) : Str × Int × Bool) => rLengths s at_ bad⟩
theorem rLengths.ev : ∀ d, evFn C0 (hnd (tab [(150, rGet.S), (193, lensOk.S), (194, bookOf.S), (195, rSymbol.S)])) Tryz.f154 (.seq .u (.seq .u (.join ⟨[.int .i64, .int .i64, .int .i64, .str, .int .i64, .bool], [(0, .ptr 0 0), (4, .sc (.int .i64)), (5, .sc (.int .i64)), (6, .sc (.int .i64))], [.box [.sc .str, .sc (.int .i64), .sc .bool]]⟩ (.seq (.reg [.bool] [(29, .sc .bool)]) .u) (.seq .u (.seq (.seq .u (.blk (.loop ⟨[.int .i64, .int .i64, .list [.int .i64], .int .i64, .int .i64, .str, .int .i64, .bool, .list [.int .i64]], [(0, .ptr 0 0), (4, .sc (.int .i64)), (5, .sc (.int .i64)), (7, .full 1), (38, .sc (.list [.int .i64])), (39, .sc (.int .i64)), (40, .sc (.int .i64))], [.box [.sc .str, .sc (.int .i64), .sc .bool], .arr [.int .i64]]⟩ (fun ((lit1, dist1, t, t1, t2, o3, o4, o5, meta_) : Int × Int × List Int × Int × Int × Str × Int × Bool × List Int) => (t1 - t2).toNat + 1) 0 ⟨[.int .i64, .int .i64, .str, .int .i64, .bool, .list [.int .i64]], [(0, .ptr 0 0), (4, .sc (.int .i64)), (5, .sc (.int .i64)), (7, .full 1)], [.box [.sc .str, .sc (.int .i64), .sc .bool], .arr [.int .i64]]⟩ .u))) (.seq (.seq (.reg [.bool] [(58, .sc .bool)]) .u) (.seq .u (.seq .u (.seq (.blk (.loop ⟨[.int .i64, .int .i64, .str, .int .i64, .bool, .map [.int .i64, .int .i64] [.int .i64], .list [.int .i64]], [(0, .ptr 0 0), (4, .sc (.int .i64)), (5, .sc (.int .i64)), (10, .map 1), (11, .full 2)], [.box [.sc .str, .sc (.int .i64), .sc .bool], .map [.int .i64, .int .i64] [.int .i64], .arr [.int .i64]]⟩ (fun ((lit3, dist3, o9, o10, o11, o12, all) : Int × Int × Str × Int × Bool × (List ((Int × Int) × Int)) × List Int) => ((w64 (lit3 + dist3)) - (all.length : Int)).toNat + 1) 2 ⟨[.int .i64, .int .i64, .str, .int .i64, .bool, .list [.int .i64]], [(0, .ptr 0 0), (4, .sc (.int .i64)), (5, .sc (.int .i64)), (11, .full 1)], [.box [.sc .str, .sc (.int .i64), .sc .bool], .arr [.int .i64]]⟩ (.seq (.seq (.reg [.bool] [(77, .sc .bool)]) .u) (.blk (.seq .u (.seq .u (.join ⟨[.int .i64, .int .i64, .int .i64, .int .i64, .str, .int .i64, .bool, .map [.int .i64, .int .i64] [.int .i64], .list [.int .i64]], [(0, .ptr 0 0), (4, .sc (.int .i64)), (5, .sc (.int .i64)), (10, .map 1), (11, .full 2), (13, .sc (.int .i64)), (14, .sc (.int .i64))], [.box [.sc .str, .sc (.int .i64), .sc .bool], .map [.int .i64, .int .i64] [.int .i64], .arr [.int .i64]]⟩ .u (.seq .u (.blk (.loop ⟨[.int .i64, .int .i64, .int .i64, .int .i64, .int .i64, .str, .int .i64, .bool, .map [.int .i64, .int .i64] [.int .i64], .list [.int .i64]], [(0, .ptr 0 0), (4, .sc (.int .i64)), (5, .sc (.int .i64)), (10, .map 1), (11, .full 2), (13, .sc (.int .i64)), (112, .sc (.int .i64)), (113, .sc (.int .i64))], [.box [.sc .str, .sc (.int .i64), .sc .bool], .map [.int .i64, .int .i64] [.int .i64], .arr [.int .i64]]⟩ (fun ((lit5, dist5, again_1, t3, t4, o17, o18, o19, o20, all2) : Int × Int × Int × Int × Int × Str × Int × Bool × (List ((Int × Int) × Int)) × List Int) => (t3 - t4).toNat + 1) 5 ⟨[.int .i64, .int .i64, .str, .int .i64, .bool, .map [.int .i64, .int .i64] [.int .i64], .list [.int .i64]], [(0, .ptr 0 0), (4, .sc (.int .i64)), (5, .sc (.int .i64)), (10, .map 1), (11, .full 2)], [.box [.sc .str, .sc (.int .i64), .sc .bool], .map [.int .i64, .int .i64] [.int .i64], .arr [.int .i64]]⟩ .u)))))))))) (.seq (.seq (.reg [.bool] [(131, .sc .bool)]) .u) .u)))))))))) rLengths.S d = rLengths.S.F d := fun _ => by kernel_rfl
theorem rLengths.sound : SoundS Tryz.prog C0 154 rLengths.S := sound_of_ev tyOk (tab_ok (l := [(150, rGet.S), (193, lensOk.S), (194, bookOf.S), (195, rSymbol.S)]) ⟨rGet.sound, lensOk.sound, bookOf.sound, rSymbol.sound, trivial⟩) Tryz.func154 (by kernel_rfl) (by kernel_rfl) (by kernel_rfl) rLengths.ev
def rPacked.S : Spec := ⟨1, [.ptr 0 0, .full 1, .sc (.list [.int .i64]), .sc (.list [.int .i64])], [.box [.sc .str, .sc (.int .i64), .sc .bool], .arr [.int .u8]], [.list [.int .i64], .list [.int .i64], .str, .int .i64, .bool, .list [.int .u8]], ⟨[.str, .int .i64, .bool, .list [.int .u8]], .full 1, [.box [.sc .str, .sc (.int .i64), .sc .bool], .arr [.int .u8]]⟩,
  fun ((lit, dist, s, at_, bad, out) : List Int × List Int × Str × Int × Bool × List Int) => rPacked lit dist s at_ bad out⟩
theorem rPacked.ev : ∀ d, evFn C0 (hnd (tab [(150, rGet.S), (185, longsOf.S), (187, backsOf.S), (193, lensOk.S), (194, bookOf.S), (195, rSymbol.S), (196, add.S)])) Tryz.f153 (.seq .u (.seq (.seq (.reg [.bool] [(29, .sc .bool)]) .u) (.seq .u (.seq (.blk (.loopS ⟨[.str, .int .i64, .bool, .list [.int .u8], .map [.int .i64, .int .i64] [.int .i64], .map [.int .i64, .int .i64] [.int .i64]], [(0, .ptr 0 0), (1, .full 1), (9, .map 2), (10, .map 3)], [.box [.sc .str, .sc (.int .i64), .sc .bool], .arr [.int .u8], .map [.int .i64, .int .i64] [.int .i64], .map [.int .i64, .int .i64] [.int .i64]]⟩ (fun ((o, o1, o2, out1, o3, o4) : Str × Int × Bool × List Int × (List ((Int × Int) × Int)) × List ((Int × Int) × Int)) => 100000) 0 ⟨[.str, .int .i64, .bool, .list [.int .u8]], [(1, .full 1)], [.box [.sc .str, .sc (.int .i64), .sc .bool], .arr [.int .u8]]⟩ (.seq (.seq (.reg [.bool] [(47, .sc .bool)]) .u) (.blk (.seq .u (.seq (.blk (.seq (.reg [.bool] [(51, .sc .bool)]) .u)) (.seq (.cm [(1, [0]), (2, [0]), (3, [0]), (4, [0]), (5, [0])]) (.seq .u (.seq .u (.seq (.cm [(1, [0]), (2, [0]), (3, [0]), (4, [0])]) (.seq .u (.seq (.seq (.reg [.bool] [(129, .sc .bool)]) .u) .u)))))))))))) .u)))) rPacked.S d = rPacked.S.F d := fun _ => by kernel_rfl
theorem rPacked.sound : SoundS Tryz.prog C0 153 rPacked.S := sound_of_ev tyOk (tab_ok (l := [(150, rGet.S), (185, longsOf.S), (187, backsOf.S), (193, lensOk.S), (194, bookOf.S), (195, rSymbol.S), (196, add.S)]) ⟨rGet.sound, longsOf.sound, backsOf.sound, lensOk.sound, bookOf.sound, rSymbol.sound, add.sound, trivial⟩) Tryz.func153 (by kernel_rfl) (by kernel_rfl) (by kernel_rfl) rPacked.ev
def rPackedBad.S : Spec := ⟨1, [.ptr 0 0, .full 1, .sc (.list [.int .i64]), .sc (.list [.int .i64])], [.box [.sc .str, .sc (.int .i64), .sc .bool], .arr [.int .u8]], [.list [.int .i64], .list [.int .i64], .str, .int .i64, .bool, .list [.int .u8]], ⟨[.str, .int .i64, .bool], .undef, [.box [.sc .str, .sc (.int .i64), .sc .bool]]⟩,
  fun ((lit, dist, s, at_, bad, out) : List Int × List Int × Str × Int × Bool × List Int) => rPackedBad lit dist s at_ bad out⟩
theorem rPackedBad.ev : ∀ d, evFn C0 (hnd (tab [(150, rGet.S), (185, longsOf.S), (187, backsOf.S), (193, lensOk.S), (194, bookOf.S), (195, rSymbol.S), (196, add.S)])) Tryz.f153 (.seq .u (.seq (.seq (.reg [.bool] [(29, .sc .bool)]) .u) (.seq .u (.seq (.blk (.loopS ⟨[.str, .int .i64, .bool, .list [.int .u8], .map [.int .i64, .int .i64] [.int .i64], .map [.int .i64, .int .i64] [.int .i64]], [(0, .ptr 0 0), (1, .full 1), (9, .map 2), (10, .map 3)], [.box [.sc .str, .sc (.int .i64), .sc .bool], .arr [.int .u8], .map [.int .i64, .int .i64] [.int .i64], .map [.int .i64, .int .i64] [.int .i64]]⟩ (fun ((o, o1, o2, out1, o3, o4) : Str × Int × Bool × List Int × (List ((Int × Int) × Int)) × List ((Int × Int) × Int)) => 100000) 0 ⟨[.str, .int .i64, .bool, .list [.int .u8]], [(1, .full 1)], [.box [.sc .str, .sc (.int .i64), .sc .bool], .arr [.int .u8]]⟩ (.seq (.seq (.reg [.bool] [(47, .sc .bool)]) .u) (.blk (.seq .u (.seq (.blk (.seq (.reg [.bool] [(51, .sc .bool)]) .u)) (.seq (.cm [(1, [0]), (2, [0]), (3, [0]), (4, [0]), (5, [0])]) (.seq .u (.seq .u (.seq (.cm [(1, [0]), (2, [0]), (3, [0]), (4, [0])]) (.seq .u (.seq (.seq (.reg [.bool] [(129, .sc .bool)]) .u) .u)))))))))))) .u)))) rPackedBad.S d = rPackedBad.S.F d := fun _ => by kernel_rfl
theorem rPackedBad.sound : SoundS Tryz.prog C0 153 rPackedBad.S := sound_of_ev tyOk (tab_ok (l := [(150, rGet.S), (185, longsOf.S), (187, backsOf.S), (193, lensOk.S), (194, bookOf.S), (195, rSymbol.S), (196, add.S)]) ⟨rGet.sound, longsOf.sound, backsOf.sound, lensOk.sound, bookOf.sound, rSymbol.sound, add.sound, trivial⟩) Tryz.func153 (by kernel_rfl) (by kernel_rfl) (by kernel_rfl) rPackedBad.ev
def flateGet.S : Spec := ⟨0, [.sc .str], [], [.str], ⟨[.str, .int .i64, .bool], .tup [.sc .str, .sc (.int .i64), .sc .bool], []⟩,
  fun (text : Str) => flateGet text⟩
theorem flateGet.ev : ∀ d, evFn C0 (hnd (tab [(149, rBit.S), (150, rGet.S), (151, rStored.S), (152, fixedLens.S), (153, rPacked.S), (153, rPackedBad.S), (154, rLengths.S), (155, rEven.S)])) Tryz.f103 (.seq .u (.seq .u (.seq .u (.seq .u (.seq (.seq .u (.blk (.loopS ⟨[.bool, .str, .int .i64, .bool, .list [.int .u8]], [(5, .ptr 0 0), (6, .full 1), (7, .sc .bool)], [.box [.sc .str, .sc (.int .i64), .sc .bool], .arr [.int .u8]]⟩ (fun ((last, o, o1, o2, out) : Bool × Str × Int × Bool × List Int) => 100000) 0 ⟨[.str, .int .i64, .bool, .list [.int .u8]], [(5, .ptr 0 0), (6, .full 1)], [.box [.sc .str, .sc (.int .i64), .sc .bool], .arr [.int .u8]]⟩ .u))) .u))))) flateGet.S d = flateGet.S.F d := fun _ => by kernel_rfl
theorem flateGet.sound : SoundS Tryz.prog C0 103 flateGet.S := sound_of_ev tyOk (tab_ok (l := [(149, rBit.S), (150, rGet.S), (151, rStored.S), (152, fixedLens.S), (153, rPacked.S), (153, rPackedBad.S), (154, rLengths.S), (155, rEven.S)]) ⟨rBit.sound, rGet.sound, rStored.sound, fixedLens.sound, rPacked.sound, rPackedBad.sound, rLengths.sound, rEven.sound, trivial⟩) Tryz.func103 (by kernel_rfl) (by kernel_rfl) (by kernel_rfl) flateGet.ev
def days.S : Spec := ⟨0, [.sc (.int .i64), .sc (.int .i64)], [], [.int .i64, .int .i64], ⟨[.int .i64], .sc (.int .i64), []⟩,
  fun ((year, month) : Int × Int) => days year month⟩
theorem days.ev : ∀ d, evFn C0 (hnd (tab [])) Tryz.f96 (.seq .u (.seq (.seq .u (.blk (.join ⟨[.int .i64, .int .i64, .bool], [(0, .sc (.int .i64)), (5, .sc (.int .i64)), (6, .sc .bool)], []⟩ .u (.cond .u (.seq .u (.cond (.seq (.seq (.reg [.bool] [(25, .sc .bool)]) .u) .u) .u)))))) .u)) days.S d = days.S.F d := fun _ => by kernel_rfl
theorem days.sound : SoundS Tryz.prog C0 96 days.S := sound_of_ev tyOk (tab_ok (l := []) trivial) Tryz.func96 (by kernel_rfl) (by kernel_rfl) (by kernel_rfl) days.ev
def stampOk.S : Spec := ⟨0, [.agg [.sc (.int .i64), .sc (.int .i64), .sc (.int .i64), .sc (.int .i64), .sc (.int .i64), .sc (.int .i64)]], [], [.int .i64, .int .i64, .int .i64, .int .i64, .int .i64, .int .i64], ⟨[.bool], .sc .bool, []⟩,
  fun ((y, mo, d, h, mi, sec) : Int × Int × Int × Int × Int × Int) => stampOk y mo d h mi sec⟩
theorem stampOk.ev : ∀ d, evFn C0 (hnd (tab [(95, within.S), (96, days.S)])) Tryz.f51 (.seq .u (.seq (.reg [.bool] [(2, .sc .bool)]) .u)) stampOk.S d = stampOk.S.F d := fun _ => by kernel_rfl
theorem stampOk.sound : SoundS Tryz.prog C0 51 stampOk.S := sound_of_ev tyOk (tab_ok (l := [(95, within.S), (96, days.S)]) ⟨within.sound, days.sound, trivial⟩) Tryz.func51 (by kernel_rfl) (by kernel_rfl) (by kernel_rfl) stampOk.ev
def stampPut.S : Spec := ⟨0, [.agg [.sc (.int .i64), .sc (.int .i64), .sc (.int .i64), .sc (.int .i64), .sc (.int .i64), .sc (.int .i64)]], [], [.int .i64, .int .i64, .int .i64, .int .i64, .int .i64, .int .i64], ⟨[.int .i64], .sc (.int .i64), []⟩,
  fun ((y, mo, d, h, mi, sec) : Int × Int × Int × Int × Int × Int) => stampPut y mo d h mi sec⟩
theorem stampPut.ev : ∀ d, evFn C0 (hnd (tab [(51, stampOk.S)])) Tryz.f147 .u stampPut.S d = stampPut.S.F d := fun _ => by kernel_rfl
theorem stampPut.sound : SoundS Tryz.prog C0 147 stampPut.S := sound_of_ev tyOk (tab_ok (l := [(51, stampOk.S)]) ⟨stampOk.sound, trivial⟩) Tryz.func147 (by kernel_rfl) (by kernel_rfl) (by kernel_rfl) stampPut.ev
def stampGet.S : Spec := ⟨0, [.sc (.int .i64)], [], [.int .i64], ⟨[.int .i64, .int .i64, .int .i64, .int .i64, .int .i64, .int .i64, .bool], .tup [.agg [.sc (.int .i64), .sc (.int .i64), .sc (.int .i64), .sc (.int .i64), .sc (.int .i64), .sc (.int .i64)], .sc .bool], []⟩,
  fun (n : Int) => stampGet n⟩
theorem stampGet.ev : ∀ d, evFn C0 (hnd (tab [(147, stampPut.S)])) Tryz.f102 .u stampGet.S d = stampGet.S.F d := fun _ => by kernel_rfl
theorem stampGet.sound : SoundS Tryz.prog C0 102 stampGet.S := sound_of_ev tyOk (tab_ok (l := [(147, stampPut.S)]) ⟨stampPut.sound, trivial⟩) Tryz.func102 (by kernel_rfl) (by kernel_rfl) (by kernel_rfl) stampGet.ev
def entryOk.S : Spec := ⟨0, [.agg [.sc .str, .sc (.int .i64), .sc (.int .i64), .sc (.int .i64), .sc (.int .i64), .sc (.int .i64), .sc (.int .i64), .sc .str]], [], [.str, .int .i64, .int .i64, .int .i64, .int .i64, .int .i64, .int .i64, .str], ⟨[.bool], .sc .bool, []⟩,
  fun ((name, y, mo, d, h, mi, sec, text) : Str × Int × Int × Int × Int × Int × Int × Str) => entryOk name y mo d h mi sec text⟩
theorem entryOk.ev : ∀ d, evFn C0 (hnd (tab [(50, implNameOk.S), (51, stampOk.S)])) Tryz.f16 (.seq .u (.seq (.reg [.bool] [(2, .sc .bool)]) .u)) entryOk.S d = entryOk.S.F d := fun _ => by kernel_rfl
theorem entryOk.sound : SoundS Tryz.prog C0 16 entryOk.S := sound_of_ev tyOk (tab_ok (l := [(50, implNameOk.S), (51, stampOk.S)]) ⟨implNameOk.sound, stampOk.sound, trivial⟩) Tryz.func16 (by kernel_rfl) (by kernel_rfl) (by kernel_rfl) entryOk.ev
def number.S : Spec := ⟨0, [.sc (.int .i64), .sc (.int .i64)], [], [.int .i64, .int .i64], ⟨[.str], .sc .str, []⟩,
  fun ((n, bytes) : Int × Int) => number n bytes⟩
theorem number.ev : ∀ d, evFn C0 (hnd (tab [])) Tryz.f101 (.seq .u (.seq .u (.seq (.seq .u (.blk (.loop ⟨[.int .i64, .int .i64, .int .i64, .list [.int .u8]], [(0, .sc (.int .i64)), (5, .full 0), (7, .sc (.int .i64)), (8, .sc (.int .i64))], [.arr [.int .u8]]⟩ (fun ((n1, t, t1, out) : Int × Int × Int × List Int) => (t - t1).toNat + 1) 0 ⟨[.list [.int .u8]], [(5, .full 0)], [.arr [.int .u8]]⟩ .u))) .u))) number.S d = number.S.F d := fun _ => by kernel_rfl
theorem number.sound : SoundS Tryz.prog C0 101 number.S := sound_of_ev tyOk (tab_ok (l := []) trivial) Tryz.func101 (by kernel_rfl) (by kernel_rfl) (by kernel_rfl) number.ev
def numberAt.S : Spec := ⟨0, [.sc .str, .sc (.int .i64), .sc (.int .i64)], [], [.str, .int .i64, .int .i64], ⟨[.int .i64], .sc (.int .i64), []⟩,
  fun ((s, at_, bytes) : Str × Int × Int) => numberAt s at_ bytes⟩
theorem numberAt.ev : ∀ d, evFn C0 (hnd (tab [])) Tryz.f100 (.seq .u (.seq .u (.seq (.seq .u (.blk (.loop ⟨[.str, .int .i64, .int .i64, .int .i64], [(0, .sc .str), (1, .sc (.int .i64)), (7, .sc (.int .i64)), (8, .sc (.int .i64))], []⟩ (fun ((s1, at_1, n, k) : Str × Int × Int × Int) => (k - 0).toNat + 2) 0 ⟨[.int .i64], [(7, .sc (.int .i64))], []⟩ .u))) .u))) numberAt.S d = numberAt.S.F d := fun _ => by kernel_rfl
theorem numberAt.sound : SoundS Tryz.prog C0 100 numberAt.S := sound_of_ev tyOk (tab_ok (l := []) trivial) Tryz.func100 (by kernel_rfl) (by kernel_rfl) (by kernel_rfl) numberAt.ev
def headOf.S : Spec := ⟨0, [.agg [.sc .str, .sc (.int .i64), .sc (.int .i64), .sc (.int .i64), .sc (.int .i64), .sc (.int .i64), .sc (.int .i64), .sc .str], .sc (.int .i64), .sc (.int .i64)], [], [.str, .int .i64, .int .i64, .int .i64, .int .i64, .int .i64, .int .i64, .str, .int .i64, .int .i64], ⟨[.str], .sc .str, []⟩,
  fun ((name, y, mo, d, h, mi, sec, text, method, packed) : Str × Int × Int × Int × Int × Int × Int × Str × Int × Int) => headOf name y mo d h mi sec text method packed⟩
theorem headOf.ev : ∀ d, evFn C0 (hnd (tab [(101, number.S), (115, crc.S), (147, stampPut.S)])) Tryz.f98 .u headOf.S d = headOf.S.F d := fun _ => by kernel_rfl
theorem headOf.sound : SoundS Tryz.prog C0 98 headOf.S := sound_of_ev tyOk (tab_ok (l := [(101, number.S), (115, crc.S), (147, stampPut.S)]) ⟨number.sound, crc.sound, stampPut.sound, trivial⟩) Tryz.func98 (by kernel_rfl) (by kernel_rfl) (by kernel_rfl) headOf.ev
def localGet.S : Spec := ⟨0, [.sc .str], [], [.str], ⟨[.str, .int .i64, .int .i64, .int .i64, .int .i64, .int .i64, .int .i64, .str, .int .i64, .bool], .tup [.agg [.sc .str, .sc (.int .i64), .sc (.int .i64), .sc (.int .i64), .sc (.int .i64), .sc (.int .i64), .sc (.int .i64), .sc .str], .sc (.int .i64), .sc .bool], []⟩,
  fun (text : Str) => localGet text⟩
theorem localGet.ev : ∀ d, evFn C0 (hnd (tab [(16, entryOk.S), (98, headOf.S), (100, numberAt.S), (102, stampGet.S), (103, flateGet.S)])) Tryz.f55 (.seq .u (.seq .u (.seq .u (.seq .u (.seq (.seq (.reg [.bool] [(36, .sc .bool)]) .u) (.seq .u (.seq .u (.joinS ⟨[.str, .int .i64, .int .i64, .int .i64, .str, .int .i64, .int .i64, .int .i64, .int .i64, .int .i64, .int .i64, .str, .str, .int .i64, .int .i64, .int .i64, .int .i64, .int .i64, .int .i64, .str], [(0, .sc .str), (2, .ptr 0 0), (5, .sc (.int .i64)), (6, .sc (.int .i64)), (7, .sc (.int .i64)), (9, .ptr 1 0)], [.box [.sc .str, .sc (.int .i64), .sc (.int .i64), .sc (.int .i64), .sc (.int .i64), .sc (.int .i64), .sc (.int .i64), .sc .str], .box [.sc .str, .sc (.int .i64), .sc (.int .i64), .sc (.int .i64), .sc (.int .i64), .sc (.int .i64), .sc (.int .i64), .sc .str]]⟩ (.seq .u (.blk (.seq .u (.cond .u (.seq .u (.cond (.seq .u (.seq (.seq (.reg [.bool] [(74, .sc .bool)]) .u) .u)) .u)))))) (.seq (.seq (.reg [.bool] [(89, .sc .bool)]) .u) .u))))))))) localGet.S d = localGet.S.F d := fun _ => by kernel_rfl
theorem localGet.sound : SoundS Tryz.prog C0 55 localGet.S := sound_of_ev tyOk (tab_ok (l := [(16, entryOk.S), (98, headOf.S), (100, numberAt.S), (102, stampGet.S), (103, flateGet.S)]) ⟨entryOk.sound, headOf.sound, numberAt.sound, stampGet.sound, flateGet.sound, trivial⟩) Tryz.func55 (by kernel_rfl) (by kernel_rfl) (by kernel_rfl) localGet.ev
def namesOf.S : Spec := ⟨0, [.sc (.list [.str, .int .i64, .int .i64, .int .i64, .int .i64, .int .i64, .int .i64, .str])], [], [.list [.str, .int .i64, .int .i64, .int .i64, .int .i64, .int .i64, .int .i64, .str]], ⟨[.list [.str]], .full 0, [.arr [.str]]⟩,
  fun (list : List (Str × Int × Int × Int × Int × Int × Int × Str)) => namesOf list⟩
theorem namesOf.ev : ∀ d, evFn C0 (hnd (tab [])) Tryz.f61 (.seq .u (.seq .u (.seq (.seq .u (.blk (.loop ⟨[.list [.str, .int .i64, .int .i64, .int .i64, .int .i64, .int .i64, .int .i64, .str], .int .i64, .int .i64, .list [.str]], [(3, .full 0), (7, .sc (.list [.str, .int .i64, .int .i64, .int .i64, .int .i64, .int .i64, .int .i64, .str])), (8, .sc (.int .i64)), (9, .sc (.int .i64))], [.arr [.str]]⟩ (fun ((t, t1, t2, out) : (List (Str × Int × Int × Int × Int × Int × Int × Str)) × Int × Int × List Str) => (t1 - t2).toNat + 1) 0 ⟨[.list [.str]], [(3, .full 0)], [.arr [.str]]⟩ .u))) .u))) namesOf.S d = namesOf.S.F d := fun _ => by kernel_rfl
theorem namesOf.sound : SoundS Tryz.prog C0 61 namesOf.S := sound_of_ev tyOk (tab_ok (l := []) trivial) Tryz.func61 (by kernel_rfl) (by kernel_rfl) (by kernel_rfl) namesOf.ev
def zipOk.S : Spec := ⟨0, [.sc (.list [.str, .int .i64, .int .i64, .int .i64, .int .i64, .int .i64, .int .i64, .str])], [], [.list [.str, .int .i64, .int .i64, .int .i64, .int .i64, .int .i64, .int .i64, .str]], ⟨[.bool], .sc .bool, []⟩,
  fun (list : List (Str × Int × Int × Int × Int × Int × Int × Str)) => zipOk list⟩
theorem zipOk.ev : ∀ d, evFn C0 (hnd (tab [(16, entryOk.S), (61, namesOf.S), (65, apart.S)])) Tryz.f27 (.seq .u (.seq (.seq .u (.blk (.loopS ⟨[.list [.str, .int .i64, .int .i64, .int .i64, .int .i64, .int .i64, .int .i64, .str], .list [.str, .int .i64, .int .i64, .int .i64, .int .i64, .int .i64, .int .i64, .str], .int .i64, .int .i64], [(0, .sc (.list [.str, .int .i64, .int .i64, .int .i64, .int .i64, .int .i64, .int .i64, .str])), (5, .sc (.list [.str, .int .i64, .int .i64, .int .i64, .int .i64, .int .i64, .int .i64, .str])), (6, .sc (.int .i64)), (7, .sc (.int .i64))], []⟩ (fun ((list1, t, t1, t2) : (List (Str × Int × Int × Int × Int × Int × Int × Str)) × (List (Str × Int × Int × Int × Int × Int × Int × Str)) × Int × Int) => (t1 - t2).toNat + 1) 0 ⟨[.list [.str, .int .i64, .int .i64, .int .i64, .int .i64, .int .i64, .int .i64, .str]], [(0, .sc (.list [.str, .int .i64, .int .i64, .int .i64, .int .i64, .int .i64, .int .i64, .str]))], []⟩ .u))) .u)) zipOk.S d = zipOk.S.F d := fun _ => by kernel_rfl
theorem zipOk.sound : SoundS Tryz.prog C0 27 zipOk.S := sound_of_ev tyOk (tab_ok (l := [(16, entryOk.S), (61, namesOf.S), (65, apart.S)]) ⟨entryOk.sound, namesOf.sound, apart.sound, trivial⟩) Tryz.func27 (by kernel_rfl) (by kernel_rfl) (by kernel_rfl) zipOk.ev
def closing.S : Spec := ⟨0, [.sc (.list [.str])], [], [.list [.str]], ⟨[.str], .sc .str, []⟩,
  fun (locals : List Str) => closing locals⟩
theorem closing.ev : ∀ d, evFn C0 (hnd (tab [(100, numberAt.S), (101, number.S)])) Tryz.f54 (.seq .u (.seq .u (.seq .u (.seq (.seq .u (.blk (.loop ⟨[.list [.str], .str, .int .i64, .list [.str], .int .i64, .int .i64], [(0, .sc (.list [.str])), (3, .sc .str), (4, .sc (.int .i64)), (9, .sc (.list [.str])), (10, .sc (.int .i64)), (11, .sc (.int .i64))], []⟩ (fun ((locals1, heads, at_, t, t1, t2) : List Str × Str × Int × List Str × Int × Int) => (t1 - t2).toNat + 1) 0 ⟨[.list [.str], .str, .int .i64], [(0, .sc (.list [.str])), (3, .sc .str), (4, .sc (.int .i64))], []⟩ .u))) .u)))) closing.S d = closing.S.F d := fun _ => by kernel_rfl
theorem closing.sound : SoundS Tryz.prog C0 54 closing.S := sound_of_ev tyOk (tab_ok (l := [(100, numberAt.S), (101, number.S)]) ⟨numberAt.sound, number.sound, trivial⟩) Tryz.func54 (by kernel_rfl) (by kernel_rfl) (by kernel_rfl) closing.ev
def zipGet.S : Spec := ⟨0, [.sc .str], [], [.str], ⟨[.bool, .list [.str, .int .i64, .int .i64, .int .i64, .int .i64, .int .i64, .int .i64, .str]], .tup [.full 0, .sc .bool], [.arr [.str, .int .i64, .int .i64, .int .i64, .int .i64, .int .i64, .int .i64, .str]]⟩,
  fun (text : Str) => zipGet text⟩
theorem zipGet.ev : ∀ d, evFn C0 (hnd (tab [(27, zipOk.S), (54, closing.S), (55, localGet.S)])) Tryz.f18 (.seq .u (.seq .u (.seq .u (.seq .u (.seq (.blk (.loop ⟨[.str, .list [.str, .int .i64, .int .i64, .int .i64, .int .i64, .int .i64, .int .i64, .str], .list [.str]], [(4, .full 0), (5, .full 1), (6, .sc .str)], [.arr [.str, .int .i64, .int .i64, .int .i64, .int .i64, .int .i64, .int .i64, .str], .arr [.str]]⟩ (fun ((rest, out, locals) : Str × (List (Str × Int × Int × Int × Int × Int × Int × Str)) × List Str) => (6 - (out.length : Int)).toNat + 1) 0 ⟨[.str, .list [.str, .int .i64, .int .i64, .int .i64, .int .i64, .int .i64, .int .i64, .str], .list [.str]], [(4, .full 0), (5, .full 1), (6, .sc .str)], [.arr [.str, .int .i64, .int .i64, .int .i64, .int .i64, .int .i64, .int .i64, .str], .arr [.str]]⟩ .u)) (.seq (.seq (.reg [.bool] [(45, .sc .bool)]) .u) .u)))))) zipGet.S d = zipGet.S.F d := fun _ => by kernel_rfl
theorem zipGet.sound : SoundS Tryz.prog C0 18 zipGet.S := sound_of_ev tyOk (tab_ok (l := [(27, zipOk.S), (54, closing.S), (55, localGet.S)]) ⟨zipOk.sound, closing.sound, localGet.sound, trivial⟩) Tryz.func18 (by kernel_rfl) (by kernel_rfl) (by kernel_rfl) zipGet.ev
end Ev
end
section
open Go Go.Proofs
set_option maxRecDepth 100000
namespace Ev
set_option maxHeartbeats 1000000
set_option linter.unusedVariables false
def archive.S : Spec := ⟨0, [.sc .str], [], [.str], ⟨[.bool], .sc .bool, []⟩,
  fun (text : Str) => archive text⟩
theorem archive.ev : ∀ d, evFn C0 (hnd (tab [(18, zipGet.S)])) Tryz.f63 .u archive.S d = archive.S.F d := fun _ => by kernel_rfl
theorem archive.sound : SoundS Tryz.prog C0 63 archive.S := sound_of_ev tyOk (tab_ok (l := [(18, zipGet.S)]) ⟨zipGet.sound, trivial⟩) Tryz.func63 (by kernel_rfl) (by kernel_rfl) (by kernel_rfl) archive.ev
def diskOk.S : Spec := ⟨0, [.agg [.sc .str, .sc .str]], [], [.str, .str], ⟨[.bool], .sc .bool, []⟩,
  fun ((text, log) : Str × Str) => diskOk text log⟩
theorem diskOk.ev : ∀ d, evFn C0 (hnd (tab [(63, archive.S)])) Tryz.f25 (.seq .u (.seq (.reg [.bool] [(2, .sc .bool)]) .u)) diskOk.S d = diskOk.S.F d := fun _ => by kernel_rfl
theorem diskOk.sound : SoundS Tryz.prog C0 25 diskOk.S := sound_of_ev tyOk (tab_ok (l := [(63, archive.S)]) ⟨archive.sound, trivial⟩) Tryz.func25 (by kernel_rfl) (by kernel_rfl) (by kernel_rfl) diskOk.ev
def l1Pow.S : Spec := ⟨0, [.sc (.int .i64)], [], [.int .i64], ⟨[.int .i64], .sc (.int .i64), []⟩,
  fun (n : Int) => l1Pow n⟩
theorem l1Pow.ev : ∀ d, evFn C0 (hnd (tab [])) Tryz.f229 (.seq .u (.seq .u (.seq (.blk (.loop ⟨[.int .i64, .int .i64], [(0, .sc (.int .i64)), (3, .sc (.int .i64))], []⟩ (fun ((n1, out) : Int × Int) => (n1 - 0).toNat + 1) 0 ⟨[.int .i64], [(3, .sc (.int .i64))], []⟩ .u)) .u))) l1Pow.S d = l1Pow.S.F d := fun _ => by kernel_rfl
theorem l1Pow.sound : SoundS Tryz.prog C0 229 l1Pow.S := sound_of_ev tyOk (tab_ok (l := []) trivial) Tryz.func229 (by kernel_rfl) (by kernel_rfl) (by kernel_rfl) l1Pow.ev
end Ev
end
section
open Go Go.Proofs
set_option maxRecDepth 100000
namespace Ev
set_option maxHeartbeats 1000000
set_option linter.unusedVariables false
def sBit.S : Spec := ⟨1, [.ptr 0 0], [.box [.sc .str, .sc (.int .i64), .sc .bool]], [.str, .int .i64, .bool], ⟨[.int .i64, .str, .int .i64, .bool], .sc (.int .i64), [.box [.sc .str, .sc (.int .i64), .sc .bool]]⟩,
  fun ((s, at_, bad) : Str × Int × Bool) => sBit s at_ bad⟩
theorem sBit.ev : ∀ d, evFn C0 (hnd (tab [(229, l1Pow.S)])) Tryz.f258 .u sBit.S d = sBit.S.F d := fun _ => by kernel_rfl
theorem sBit.sound : SoundS Tryz.prog C0 258 sBit.S := sound_of_ev tyOk (tab_ok (l := [(229, l1Pow.S)]) ⟨l1Pow.sound, trivial⟩) Tryz.func258 (by kernel_rfl) (by kernel_rfl) (by kernel_rfl) sBit.ev
def sNum.S : Spec := ⟨1, [.ptr 0 0, .sc (.int .i64)], [.box [.sc .str, .sc (.int .i64), .sc .bool]], [.int .i64, .str, .int .i64, .bool], ⟨[.int .i64, .str, .int .i64, .bool], .sc (.int .i64), [.box [.sc .str, .sc (.int .i64), .sc .bool]]⟩,
  fun ((bits, s, at_, bad) : Int × Str × Int × Bool) => sNum bits s at_ bad⟩
theorem sNum.ev : ∀ d, evFn C0 (hnd (tab [(229, l1Pow.S), (258, sBit.S)])) Tryz.f259 (.seq .u (.seq .u (.seq (.seq .u (.blk (.loop ⟨[.int .i64, .int .i64, .int .i64, .str, .int .i64, .bool], [(0, .ptr 0 0), (1, .sc (.int .i64)), (5, .sc (.int .i64)), (6, .sc (.int .i64))], [.box [.sc .str, .sc (.int .i64), .sc .bool]]⟩ (fun ((bits1, n, k, o, o1, o2) : Int × Int × Int × Str × Int × Bool) => (bits1 - k).toNat + 1) 0 ⟨[.int .i64, .str, .int .i64, .bool], [(5, .sc (.int .i64))], [.box [.sc .str, .sc (.int .i64), .sc .bool]]⟩ .u))) .u))) sNum.S d = sNum.S.F d := fun _ => by kernel_rfl
theorem sNum.sound : SoundS Tryz.prog C0 259 sNum.S := sound_of_ev tyOk (tab_ok (l := [(229, l1Pow.S), (258, sBit.S)]) ⟨l1Pow.sound, sBit.sound, trivial⟩) Tryz.func259 (by kernel_rfl) (by kernel_rfl) (by kernel_rfl) sNum.ev
def sWhole.S : Spec := ⟨1, [.ptr 0 0], [.box [.sc .str, .sc (.int .i64), .sc .bool]], [.str, .int .i64, .bool], ⟨[.bool, .str, .int .i64, .bool], .sc .bool, [.box [.sc .str, .sc (.int .i64), .sc .bool]]⟩,
  fun ((s, at_, bad) : Str × Int × Bool) => sWhole s at_ bad⟩
theorem sWhole.ev : ∀ d, evFn C0 (hnd (tab [(258, sBit.S)])) Tryz.f252 (.seq .u (.seq .u (.seq (.blk (.loop ⟨[.int .i64, .str, .int .i64, .bool], [(0, .ptr 0 0), (3, .sc (.int .i64))], [.box [.sc .str, .sc (.int .i64), .sc .bool]]⟩ (fun ((n, o, o1, o2) : Int × Str × Int × Bool) => 9) 0 ⟨[.int .i64, .str, .int .i64, .bool], [(3, .sc (.int .i64))], [.box [.sc .str, .sc (.int .i64), .sc .bool]]⟩ .u)) .u))) sWhole.S d = sWhole.S.F d := fun _ => by kernel_rfl
theorem sWhole.sound : SoundS Tryz.prog C0 252 sWhole.S := sound_of_ev tyOk (tab_ok (l := [(258, sBit.S)]) ⟨sBit.sound, trivial⟩) Tryz.func252 (by kernel_rfl) (by kernel_rfl) (by kernel_rfl) sWhole.ev
def l2Step.S : Spec := ⟨0, [.sc (.int .u32), .sc (.int .u8)], [], [.int .u32, .int .u8], ⟨[.int .u32], .sc (.int .u32), []⟩,
  fun ((c, b) : Int × Int) => l2Step c b⟩
theorem l2Step.ev : ∀ d, evFn C0 (hnd (tab [])) Tryz.f202 (.seq .u (.seq .u (.seq (.seq .u (.blk (.loop ⟨[.int .u32, .int .i64], [(0, .sc (.int .u32)), (5, .sc (.int .i64))], []⟩ (fun ((c1, k) : Int × Int) => (8 - k).toNat + 1) 0 ⟨[.int .u32], [(0, .sc (.int .u32))], []⟩ .u))) .u))) l2Step.S d = l2Step.S.F d := fun _ => by kernel_rfl
theorem l2Step.sound : SoundS Tryz.prog C0 202 l2Step.S := sound_of_ev tyOk (tab_ok (l := []) trivial) Tryz.func202 (by kernel_rfl) (by kernel_rfl) (by kernel_rfl) l2Step.ev
def l2More.S : Spec := ⟨0, [.sc (.int .u32), .sc .str], [], [.int .u32, .str], ⟨[.int .u32], .sc (.int .u32), []⟩,
  fun ((crc_, text) : Int × Str) => l2More crc_ text⟩
theorem l2More.ev : ∀ d, evFn C0 (hnd (tab [(202, l2Step.S)])) Tryz.f173 (.seq .u (.seq .u (.seq (.seq .u (.blk (.loop ⟨[.str, .int .u32, .int .i64], [(1, .sc .str), (5, .sc (.int .u32)), (6, .sc (.int .i64))], []⟩ (fun ((text1, c, i) : Str × Int × Int) => ((text1.length : Int) - i).toNat + 1) 0 ⟨[.int .u32], [(5, .sc (.int .u32))], []⟩ .u))) .u))) l2More.S d = l2More.S.F d := fun _ => by kernel_rfl
theorem l2More.sound : SoundS Tryz.prog C0 173 l2More.S := sound_of_ev tyOk (tab_ok (l := [(202, l2Step.S)]) ⟨l2Step.sound, trivial⟩) Tryz.func173 (by kernel_rfl) (by kernel_rfl) (by kernel_rfl) l2More.ev
def specCrc.S : Spec := ⟨0, [.sc .str], [], [.str], ⟨[.int .i64], .sc (.int .i64), []⟩,
  fun (text : Str) => specCrc text⟩
theorem specCrc.ev : ∀ d, evFn C0 (hnd (tab [(173, l2More.S)])) Tryz.f130 .u specCrc.S d = specCrc.S.F d := fun _ => by kernel_rfl
theorem specCrc.sound : SoundS Tryz.prog C0 130 specCrc.S := sound_of_ev tyOk (tab_ok (l := [(173, l2More.S)]) ⟨l2More.sound, trivial⟩) Tryz.func130 (by kernel_rfl) (by kernel_rfl) (by kernel_rfl) specCrc.ev
def l3Used.S : Spec := ⟨0, [.sc (.list [.int .i64])], [], [.list [.int .i64]], ⟨[.int .i64], .sc (.int .i64), []⟩,
  fun (lens : List Int) => l3Used lens⟩
theorem l3Used.ev : ∀ d, evFn C0 (hnd (tab [])) Tryz.f237 (.seq .u (.seq .u (.seq (.seq .u (.blk (.loop ⟨[.list [.int .i64], .int .i64, .int .i64], [(0, .sc (.list [.int .i64])), (3, .sc (.int .i64)), (4, .sc (.int .i64))], []⟩ (fun ((lens1, n, i) : List Int × Int × Int) => ((lens1.length : Int) - i).toNat + 1) 0 ⟨[.int .i64], [(3, .sc (.int .i64))], []⟩ .u))) .u))) l3Used.S d = l3Used.S.F d := fun _ => by kernel_rfl
theorem l3Used.sound : SoundS Tryz.prog C0 237 l3Used.S := sound_of_ev tyOk (tab_ok (l := []) trivial) Tryz.func237 (by kernel_rfl) (by kernel_rfl) (by kernel_rfl) l3Used.ev
def specLensOk.S : Spec := ⟨0, [.sc (.list [.int .i64])], [], [.list [.int .i64]], ⟨[.bool], .sc .bool, []⟩,
  fun (lens : List Int) => specLensOk lens⟩
theorem specLensOk.ev : ∀ d, evFn C0 (hnd (tab [(105, l1In.S), (229, l1Pow.S), (237, l3Used.S)])) Tryz.f266 (.seq .u (.seq .u (.seq (.seq .u (.blk (.loopS ⟨[.list [.int .i64], .int .i64, .int .i64], [(0, .sc (.list [.int .i64])), (3, .sc (.int .i64)), (4, .sc (.int .i64))], []⟩ (fun ((lens1, sum, i) : List Int × Int × Int) => ((lens1.length : Int) - i).toNat + 1) 0 ⟨[.list [.int .i64], .int .i64], [(0, .sc (.list [.int .i64])), (3, .sc (.int .i64))], []⟩ .u))) (.seq (.reg [.bool] [(5, .sc .bool)]) (.seq (.reg [.bool] [(2, .sc .bool)]) .u))))) specLensOk.S d = specLensOk.S.F d := fun _ => by kernel_rfl
theorem specLensOk.sound : SoundS Tryz.prog C0 266 specLensOk.S := sound_of_ev tyOk (tab_ok (l := [(105, l1In.S), (229, l1Pow.S), (237, l3Used.S)]) ⟨l1In.sound, l1Pow.sound, l3Used.sound, trivial⟩) Tryz.func266 (by kernel_rfl) (by kernel_rfl) (by kernel_rfl) specLensOk.ev
def l3Codes.S : Spec := ⟨0, [.sc (.list [.int .i64])], [], [.list [.int .i64]], ⟨[.list [.int .i64]], .full 0, [.arr [.int .i64]]⟩,
  fun (lens : List Int) => l3Codes lens⟩
theorem l3Codes.ev : ∀ d, evFn C0 (hnd (tab [])) Tryz.f230 (.seq .u (.seq .u (.seq .u (.seq (.seq .u (.blk (.loop ⟨[.list [.int .i64], .int .i64, .int .i64, .list [.int .i64]], [(0, .sc (.list [.int .i64])), (3, .full 0), (4, .sc (.int .i64)), (5, .sc (.int .i64))], [.arr [.int .i64]]⟩ (fun ((lens1, code_, n, out) : List Int × Int × Int × List Int) => (15 - n).toNat + 2) 0 ⟨[.list [.int .i64]], [(3, .full 0)], [.arr [.int .i64]]⟩ (.seq .u (.seq (.blk (.seq (.seq .u (.blk (.loop ⟨[.list [.int .i64], .int .i64, .int .i64, .int .i64, .list [.int .i64]], [(0, .sc (.list [.int .i64])), (3, .full 0), (4, .sc (.int .i64)), (5, .sc (.int .i64)), (6, .sc (.int .i64))], [.arr [.int .i64]]⟩ (fun ((lens2, code_1, n1, i, out1) : List Int × Int × Int × Int × List Int) => ((lens2.length : Int) - i).toNat + 1) 2 ⟨[.list [.int .i64], .int .i64, .int .i64, .list [.int .i64]], [(0, .sc (.list [.int .i64])), (3, .full 0), (4, .sc (.int .i64)), (5, .sc (.int .i64))], [.arr [.int .i64]]⟩ .u))) .u)) .u))))) .u)))) l3Codes.S d = l3Codes.S.F d := fun _ => by kernel_rfl
theorem l3Codes.sound : SoundS Tryz.prog C0 230 l3Codes.S := sound_of_ev tyOk (tab_ok (l := []) trivial) Tryz.func230 (by kernel_rfl) (by kernel_rfl) (by kernel_rfl) l3Codes.ev
def sSymbol.S : Spec := ⟨1, [.ptr 0 0, .sc (.list [.int .i64]), .sc (.list [.int .i64])], [.box [.sc .str, .sc (.int .i64), .sc .bool]], [.list [.int .i64], .list [.int .i64], .str, .int .i64, .bool], ⟨[.int .i64, .str, .int .i64, .bool], .sc (.int .i64), [.box [.sc .str, .sc (.int .i64), .sc .bool]]⟩,
  fun ((lens, codes_, s, at_, bad) : List Int × List Int × Str × Int × Bool) => sSymbol lens codes_ s at_ bad⟩
theorem sSymbol.ev : ∀ d, evFn C0 (hnd (tab [(258, sBit.S)])) Tryz.f264 (.seq .u (.seq .u (.seq (.seq .u (.blk (.loopS ⟨[.list [.int .i64], .list [.int .i64], .int .i64, .int .i64, .str, .int .i64, .bool], [(0, .ptr 0 0), (1, .sc (.list [.int .i64])), (2, .sc (.list [.int .i64])), (7, .sc (.int .i64)), (8, .sc (.int .i64))], [.box [.sc .str, .sc (.int .i64), .sc .bool]]⟩ (fun ((lens1, codes_1, code_, n, o, o1, o2) : List Int × List Int × Int × Int × Str × Int × Bool) => (15 - n).toNat + 2) 0 ⟨[.str, .int .i64, .bool], [(0, .ptr 0 0)], [.box [.sc .str, .sc (.int .i64), .sc .bool]]⟩ (.seq (.seq (.reg [.bool] [(18, .sc .bool)]) .u) (.seq (.blk (.seq .u (.seq .u (.blk (.loopS ⟨[.list [.int .i64], .list [.int .i64], .int .i64, .int .i64, .int .i64, .str, .int .i64, .bool], [(0, .ptr 0 0), (1, .sc (.list [.int .i64])), (2, .sc (.list [.int .i64])), (7, .sc (.int .i64)), (8, .sc (.int .i64)), (9, .sc (.int .i64))], [.box [.sc .str, .sc (.int .i64), .sc .bool]]⟩ (fun ((lens2, codes_2, code_1, n1, i, o3, o4, o5) : List Int × List Int × Int × Int × Int × Str × Int × Bool) => ((lens2.length : Int) - i).toNat + 1) 2 ⟨[.list [.int .i64], .list [.int .i64], .int .i64, .int .i64, .str, .int .i64, .bool], [(0, .ptr 0 0), (1, .sc (.list [.int .i64])), (2, .sc (.list [.int .i64])), (7, .sc (.int .i64)), (8, .sc (.int .i64))], [.box [.sc .str, .sc (.int .i64), .sc .bool]]⟩ (.seq .u (.seq (.blk (.seq (.reg [.bool] [(45, .sc .bool)]) .u)) .u))))))) .u))))) .u))) sSymbol.S d = sSymbol.S.F d := fun _ => by kernel_rfl
theorem sSymbol.sound : SoundS Tryz.prog C0 264 sSymbol.S := sound_of_ev tyOk (tab_ok (l := [(258, sBit.S)]) ⟨sBit.sound, trivial⟩) Tryz.func264 (by kernel_rfl) (by kernel_rfl) (by kernel_rfl) sSymbol.ev
def l4Add.S : Spec := ⟨0, [.full 0, .agg [.sc (.int .i64), .sc (.int .i64), .sc (.int .i64)]], [.arr [.int .u8]], [.int .i64, .int .i64, .int .i64, .list [.int .u8]], ⟨[.bool, .list [.int .u8]], .tup [.full 0, .sc .bool], [.arr [.int .u8]]⟩,
  fun ((byte, long, back, text) : Int × Int × Int × List Int) => l4Add byte long back text⟩
theorem l4Add.ev : ∀ d, evFn C0 (hnd (tab [(105, l1In.S)])) Tryz.f268 (.seq .u (.seq .u (.seq (.seq (.reg [.bool] [(45, .sc .bool)]) .u) (.seq (.seq .u (.blk (.loop ⟨[.int .i64, .list [.int .u8], .int .i64, .int .i64, .int .i64], [(0, .full 0), (3, .ptr 1 0), (6, .sc (.int .i64))], [.arr [.int .u8], .box [.sc (.int .i64), .sc (.int .i64), .sc (.int .i64)]]⟩ (fun ((i, text1, o, o1, o2) : Int × List Int × Int × Int × Int) => (o1 - i).toNat + 1) 0 ⟨[.list [.int .u8]], [(0, .full 0)], [.arr [.int .u8]]⟩ .u))) .u)))) l4Add.S d = l4Add.S.F d := fun _ => by kernel_rfl
theorem l4Add.sound : SoundS Tryz.prog C0 268 l4Add.S := sound_of_ev tyOk (tab_ok (l := [(105, l1In.S)]) ⟨l1In.sound, trivial⟩) Tryz.func268 (by kernel_rfl) (by kernel_rfl) (by kernel_rfl) l4Add.ev
def l5Base.S : Spec := ⟨0, [.sc (.list [.int .i64]), .sc (.int .i64)], [], [.list [.int .i64], .int .i64], ⟨[.list [.int .i64]], .full 0, [.arr [.int .i64]]⟩,
  fun ((extra, from_) : List Int × Int) => l5Base extra from_⟩
theorem l5Base.ev : ∀ d, evFn C0 (hnd (tab [(229, l1Pow.S)])) Tryz.f231 (.seq .u (.seq .u (.seq (.seq .u (.blk (.loop ⟨[.list [.int .i64], .int .i64, .int .i64, .list [.int .i64]], [(0, .sc (.list [.int .i64])), (1, .sc (.int .i64)), (5, .full 0), (6, .sc (.int .i64))], [.arr [.int .i64]]⟩ (fun ((extra1, from_1, i, out) : List Int × Int × Int × List Int) => ((extra1.length : Int) - i).toNat + 1) 0 ⟨[.list [.int .i64]], [(5, .full 0)], [.arr [.int .i64]]⟩ .u))) .u))) l5Base.S d = l5Base.S.F d := fun _ => by kernel_rfl
theorem l5Base.sound : SoundS Tryz.prog C0 231 l5Base.S := sound_of_ev tyOk (tab_ok (l := [(229, l1Pow.S)]) ⟨l1Pow.sound, trivial⟩) Tryz.func231 (by kernel_rfl) (by kernel_rfl) (by kernel_rfl) l5Base.ev
def l5LongBits.S : Spec := ⟨0, [], [], [], ⟨[.list [.int .i64]], .full 0, [.arr [.int .i64]]⟩,
  fun (_ : Unit) => l5LongBits⟩
theorem l5LongBits.ev : ∀ d, evFn C0 (hnd (tab [])) Tryz.f232 .u l5LongBits.S d = l5LongBits.S.F d := fun _ => by kernel_rfl
theorem l5LongBits.sound : SoundS Tryz.prog C0 232 l5LongBits.S := sound_of_ev tyOk (tab_ok (l := []) trivial) Tryz.func232 (by kernel_rfl) (by kernel_rfl) (by kernel_rfl) l5LongBits.ev
def l5BackBits.S : Spec := ⟨0, [], [], [], ⟨[.list [.int .i64]], .full 0, [.arr [.int .i64]]⟩,
  fun (_ : Unit) => l5BackBits⟩
theorem l5BackBits.ev : ∀ d, evFn C0 (hnd (tab [])) Tryz.f233 .u l5BackBits.S d = l5BackBits.S.F d := fun _ => by kernel_rfl
theorem l5BackBits.sound : SoundS Tryz.prog C0 233 l5BackBits.S := sound_of_ev tyOk (tab_ok (l := []) trivial) Tryz.func233 (by kernel_rfl) (by kernel_rfl) (by kernel_rfl) l5BackBits.ev
def l5Fixed.S : Spec := ⟨0, [], [], [], ⟨[.list [.int .i64]], .full 0, [.arr [.int .i64]]⟩,
  fun (_ : Unit) => l5Fixed⟩
theorem l5Fixed.ev : ∀ d, evFn C0 (hnd (tab [])) Tryz.f208 (.seq .u (.seq .u (.seq (.seq .u (.blk (.loop ⟨[.int .i64, .list [.int .i64]], [(1, .full 0), (2, .sc (.int .i64))], [.arr [.int .i64]]⟩ (fun ((i, out) : Int × List Int) => (288 - i).toNat + 1) 0 ⟨[.list [.int .i64]], [(1, .full 0)], [.arr [.int .i64]]⟩ .u))) .u))) l5Fixed.S d = l5Fixed.S.F d := fun _ => by kernel_rfl
theorem l5Fixed.sound : SoundS Tryz.prog C0 208 l5Fixed.S := sound_of_ev tyOk (tab_ok (l := []) trivial) Tryz.func208 (by kernel_rfl) (by kernel_rfl) (by kernel_rfl) l5Fixed.ev
def l5Fives.S : Spec := ⟨0, [], [], [], ⟨[.list [.int .i64]], .full 0, [.arr [.int .i64]]⟩,
  fun (_ : Unit) => l5Fives⟩
theorem l5Fives.ev : ∀ d, evFn C0 (hnd (tab [])) Tryz.f209 (.seq .u (.seq .u (.seq (.seq .u (.blk (.loop ⟨[.int .i64, .list [.int .i64]], [(1, .full 0), (2, .sc (.int .i64))], [.arr [.int .i64]]⟩ (fun ((i, out) : Int × List Int) => (32 - i).toNat + 1) 0 ⟨[.list [.int .i64]], [(1, .full 0)], [.arr [.int .i64]]⟩ .u))) .u))) l5Fives.S d = l5Fives.S.F d := fun _ => by kernel_rfl
theorem l5Fives.sound : SoundS Tryz.prog C0 209 l5Fives.S := sound_of_ev tyOk (tab_ok (l := []) trivial) Tryz.func209 (by kernel_rfl) (by kernel_rfl) (by kernel_rfl) l5Fives.ev
end Ev
end
section
open Go Go.Proofs
set_option maxRecDepth 100000
namespace Ev
set_option maxHeartbeats 1000000
set_option linter.unusedVariables false
def l5Order.S : Spec := ⟨0, [], [], [], ⟨[.list [.int .i64]], .full 0, [.arr [.int .i64]]⟩,
  fun (_ : Unit) => l5Order⟩
theorem l5Order.ev : ∀ d, evFn C0 (hnd (tab [])) Tryz.f240 .u l5Order.S d = l5Order.S.F d := fun _ => by kernel_rfl
theorem l5Order.sound : SoundS Tryz.prog C0 240 l5Order.S := sound_of_ev tyOk (tab_ok (l := []) trivial) Tryz.func240 (by kernel_rfl) (by kernel_rfl) (by kernel_rfl) l5Order.ev
def sStored.S : Spec := ⟨1, [.ptr 0 0, .full 1], [.box [.sc .str, .sc (.int .i64), .sc .bool], .arr [.int .u8]], [.str, .int .i64, .bool, .list [.int .u8]], ⟨[.str, .int .i64, .bool, .list [.int .u8]], .full 1, [.box [.sc .str, .sc (.int .i64), .sc .bool], .arr [.int .u8]]⟩,
  fun ((s, at_, bad, text) : Str × Int × Bool × List Int) => sStored s at_ bad text⟩
theorem sStored.ev : ∀ d, evFn C0 (hnd (tab [(252, sWhole.S), (259, sNum.S)])) Tryz.f260 (.seq .u (.join ⟨[.str, .int .i64, .bool, .list [.int .u8]], [(0, .ptr 0 0), (1, .full 1)], [.box [.sc .str, .sc (.int .i64), .sc .bool], .arr [.int .u8]]⟩ .u (.seq .u (.join ⟨[.int .i64, .str, .int .i64, .bool, .list [.int .u8]], [(0, .ptr 0 0), (1, .full 1), (5, .sc (.int .i64))], [.box [.sc .str, .sc (.int .i64), .sc .bool], .arr [.int .u8]]⟩ .u (.seq (.seq .u (.blk (.loop ⟨[.int .i64, .int .i64, .str, .int .i64, .bool, .list [.int .u8]], [(0, .ptr 0 0), (1, .full 1), (5, .sc (.int .i64)), (6, .sc (.int .i64))], [.box [.sc .str, .sc (.int .i64), .sc .bool], .arr [.int .u8]]⟩ (fun ((n1, i, o6, o7, o8, text3) : Int × Int × Str × Int × Bool × List Int) => (n1 - i).toNat + 1) 0 ⟨[.str, .int .i64, .bool, .list [.int .u8]], [(1, .full 1)], [.box [.sc .str, .sc (.int .i64), .sc .bool], .arr [.int .u8]]⟩ (.seq (.seq (.reg [.bool] [(36, .sc .bool)]) .u) .u)))) .u))))) sStored.S d = sStored.S.F d := fun _ => by kernel_rfl
theorem sStored.sound : SoundS Tryz.prog C0 260 sStored.S := sound_of_ev tyOk (tab_ok (l := [(252, sWhole.S), (259, sNum.S)]) ⟨sWhole.sound, sNum.sound, trivial⟩) Tryz.func260 (by kernel_rfl) (by kernel_rfl) (by kernel_rfl) sStored.ev
def sAgain.S : Spec := ⟨1, [.ptr 0 0, .full 1, .sc (.int .i64), .sc (.list [.int .i64]), .sc (.list [.int .i64])], [.box [.sc .str, .sc (.int .i64), .sc .bool], .arr [.int .u8]], [.int .i64, .list [.int .i64], .list [.int .i64], .str, .int .i64, .bool, .list [.int .u8]], ⟨[.str, .int .i64, .bool, .list [.int .u8]], .full 1, [.box [.sc .str, .sc (.int .i64), .sc .bool], .arr [.int .u8]]⟩,
  fun ((sym, backs, codes_, s, at_, bad, text) : Int × List Int × List Int × Str × Int × Bool × List Int) => sAgain sym backs codes_ s at_ bad text⟩
theorem sAgain.ev : ∀ d, evFn C0 (hnd (tab [(231, l5Base.S), (232, l5LongBits.S), (233, l5BackBits.S), (259, sNum.S), (264, sSymbol.S), (268, l4Add.S)])) Tryz.f265 (.seq .u (.seq .u (.seq .u (.seq (.cm [(2, [0]), (3, [0]), (4, [0])]) (.seq .u (.seq .u (.seq (.cm [(2, [0]), (3, [0]), (4, [0])]) .u))))))) sAgain.S d = sAgain.S.F d := fun _ => by kernel_rfl
theorem sAgain.sound : SoundS Tryz.prog C0 265 sAgain.S := sound_of_ev tyOk (tab_ok (l := [(231, l5Base.S), (232, l5LongBits.S), (233, l5BackBits.S), (259, sNum.S), (264, sSymbol.S), (268, l4Add.S)]) ⟨l5Base.sound, l5LongBits.sound, l5BackBits.sound, sNum.sound, sSymbol.sound, l4Add.sound, trivial⟩) Tryz.func265 (by kernel_rfl) (by kernel_rfl) (by kernel_rfl) sAgain.ev
def sTokens.S : Spec := ⟨1, [.ptr 0 0, .full 1, .sc (.list [.int .i64]), .sc (.list [.int .i64])], [.box [.sc .str, .sc (.int .i64), .sc .bool], .arr [.int .u8]], [.list [.int .i64], .list [.int .i64], .str, .int .i64, .bool, .list [.int .u8]], ⟨[.str, .int .i64, .bool, .list [.int .u8]], .full 1, [.box [.sc .str, .sc (.int .i64), .sc .bool], .arr [.int .u8]]⟩,
  fun ((longs, backs, s, at_, bad, text) : List Int × List Int × Str × Int × Bool × List Int) => sTokens longs backs s at_ bad text⟩
theorem sTokens.ev : ∀ d, evFn C0 (hnd (tab [(230, l3Codes.S), (264, sSymbol.S), (265, sAgain.S)])) Tryz.f261 (.seq .u (.seq .u (.seq .u (.seq (.blk (.loopS ⟨[.list [.int .i64], .list [.int .i64], .str, .int .i64, .bool, .list [.int .u8], .list [.int .i64], .list [.int .i64]], [(0, .ptr 0 0), (1, .full 1), (2, .sc (.list [.int .i64])), (3, .sc (.list [.int .i64])), (9, .full 2), (10, .full 3)], [.box [.sc .str, .sc (.int .i64), .sc .bool], .arr [.int .u8], .arr [.int .i64], .arr [.int .i64]]⟩ (fun ((longs1, backs1, o, o1, o2, text1, a, b) : List Int × List Int × Str × Int × Bool × List Int × List Int × List Int) => 100000) 0 ⟨[.str, .int .i64, .bool, .list [.int .u8]], [(0, .ptr 0 0), (1, .full 1)], [.box [.sc .str, .sc (.int .i64), .sc .bool], .arr [.int .u8]]⟩ (.seq (.seq (.reg [.bool] [(25, .sc .bool)]) .u) (.blk (.seq .u (.blk (.seq (.reg [.bool] [(36, .sc .bool)]) .u))))))) .u)))) sTokens.S d = sTokens.S.F d := fun _ => by kernel_rfl
theorem sTokens.sound : SoundS Tryz.prog C0 261 sTokens.S := sound_of_ev tyOk (tab_ok (l := [(230, l3Codes.S), (264, sSymbol.S), (265, sAgain.S)]) ⟨l3Codes.sound, sSymbol.sound, sAgain.sound, trivial⟩) Tryz.func261 (by kernel_rfl) (by kernel_rfl) (by kernel_rfl) sTokens.ev
def sMany.S : Spec := ⟨1, [.ptr 0 0, .full 1, .sc (.int .i64)], [.box [.sc .str, .sc (.int .i64), .sc .bool], .arr [.int .i64]], [.int .i64, .str, .int .i64, .bool, .list [.int .i64]], ⟨[.str, .int .i64, .bool, .list [.int .i64]], .full 1, [.box [.sc .str, .sc (.int .i64), .sc .bool], .arr [.int .i64]]⟩,
  fun ((sym, s, at_, bad, out) : Int × Str × Int × Bool × List Int) => sMany sym s at_ bad out⟩
theorem sMany.ev : ∀ d, evFn C0 (hnd (tab [(259, sNum.S)])) Tryz.f267 (.seq .u (.seq .u (.seq .u (.join ⟨[.int .i64, .int .i64, .str, .int .i64, .bool, .list [.int .i64]], [(0, .ptr 0 0), (1, .full 1), (7, .sc (.int .i64)), (8, .sc (.int .i64))], [.box [.sc .str, .sc (.int .i64), .sc .bool], .arr [.int .i64]]⟩ (.blk (.seq (.reg [.bool] [(11, .sc .bool)]) .u)) (.seq (.seq .u (.blk (.loop ⟨[.int .i64, .int .i64, .int .i64, .str, .int .i64, .bool, .list [.int .i64]], [(0, .ptr 0 0), (1, .full 1), (7, .sc (.int .i64)), (8, .sc (.int .i64)), (9, .sc (.int .i64))], [.box [.sc .str, .sc (.int .i64), .sc .bool], .arr [.int .i64]]⟩ (fun ((last1, n1, i, o3, o4, o5, out2) : Int × Int × Int × Str × Int × Bool × List Int) => (n1 - i).toNat + 1) 1 ⟨[.str, .int .i64, .bool, .list [.int .i64]], [(1, .full 1)], [.box [.sc .str, .sc (.int .i64), .sc .bool], .arr [.int .i64]]⟩ (.seq (.seq (.reg [.bool] [(55, .sc .bool)]) .u) .u)))) .u))))) sMany.S d = sMany.S.F d := fun _ => by kernel_rfl
theorem sMany.sound : SoundS Tryz.prog C0 267 sMany.S := sound_of_ev tyOk (tab_ok (l := [(259, sNum.S)]) ⟨sNum.sound, trivial⟩) Tryz.func267 (by kernel_rfl) (by kernel_rfl) (by kernel_rfl) sMany.ev
def sLens.S : Spec := ⟨1, [.ptr 0 0], [.box [.sc .str, .sc (.int .i64), .sc .bool]], [.str, .int .i64, .bool], ⟨[.list [.int .i64], .list [.int .i64], .str, .int .i64, .bool], .tup [.sc (.list [.int .i64]), .sc (.list [.int .i64])], [.box [.sc .str, .sc (.int .i64), .sc .bool]]⟩,
  fun ((s, at_, bad) : Str × Int × Bool) => sLens s at_ bad⟩
theorem sLens.ev : ∀ d, evFn C0 (hnd (tab [(230, l3Codes.S), (240, l5Order.S), (259, sNum.S), (264, sSymbol.S), (266, specLensOk.S), (267, sMany.S)])) Tryz.f262 (.seq .u (.seq .u (.seq .u (.seq .u (.seq .u (.seq (.seq .u (.blk (.loop ⟨[.int .i64, .int .i64, .int .i64, .int .i64, .str, .int .i64, .bool, .list [.int .i64]], [(0, .ptr 0 0), (4, .sc (.int .i64)), (5, .sc (.int .i64)), (6, .sc (.int .i64)), (7, .full 1), (8, .sc (.int .i64))], [.box [.sc .str, .sc (.int .i64), .sc .bool], .arr [.int .i64]]⟩ (fun ((long, back, n, i, o, o1, o2, lens) : Int × Int × Int × Int × Str × Int × Bool × List Int) => (n - i).toNat + 1) 0 ⟨[.int .i64, .int .i64, .str, .int .i64, .bool, .list [.int .i64]], [(0, .ptr 0 0), (4, .sc (.int .i64)), (5, .sc (.int .i64)), (7, .full 1)], [.box [.sc .str, .sc (.int .i64), .sc .bool], .arr [.int .i64]]⟩ (.seq .u (.seq (.blk (.cm [(0, [0]), (2, [0]), (3, [0]), (4, [0])])) .u))))) (.seq (.seq (.reg [.bool] [(44, .sc .bool)]) .u) (.seq .u (.seq .u (.seq (.blk (.loop ⟨[.int .i64, .int .i64, .str, .int .i64, .bool, .list [.int .i64], .list [.int .i64], .list [.int .i64]], [(0, .ptr 0 0), (4, .sc (.int .i64)), (5, .sc (.int .i64)), (7, .full 1), (9, .full 2), (10, .full 3)], [.box [.sc .str, .sc (.int .i64), .sc .bool], .arr [.int .i64], .arr [.int .i64], .arr [.int .i64]]⟩ (fun ((long2, back2, o6, o7, o8, lens2, codes_, all) : Int × Int × Str × Int × Bool × List Int × List Int × List Int) => ((w64 (long2 + back2)) - (all.length : Int)).toNat + 1) 2 ⟨[.int .i64, .int .i64, .str, .int .i64, .bool, .list [.int .i64]], [(0, .ptr 0 0), (4, .sc (.int .i64)), (5, .sc (.int .i64)), (10, .full 1)], [.box [.sc .str, .sc (.int .i64), .sc .bool], .arr [.int .i64]]⟩ (.seq (.seq (.reg [.bool] [(65, .sc .bool)]) .u) .u))) (.seq (.seq (.reg [.bool] [(98, .sc .bool)]) .u) .u))))))))))) sLens.S d = sLens.S.F d := fun _ => by kernel_rfl
theorem sLens.sound : SoundS Tryz.prog C0 262 sLens.S := sound_of_ev tyOk (tab_ok (l := [(230, l3Codes.S), (240, l5Order.S), (259, sNum.S), (264, sSymbol.S), (266, specLensOk.S), (267, sMany.S)]) ⟨l3Codes.sound, l5Order.sound, sNum.sound, sSymbol.sound, specLensOk.sound, sMany.sound, trivial⟩) Tryz.func262 (by kernel_rfl) (by kernel_rfl) (by kernel_rfl) sLens.ev
def sPart.S : Spec := ⟨1, [.ptr 0 0, .full 1], [.box [.sc .str, .sc (.int .i64), .sc .bool], .arr [.int .u8]], [.str, .int .i64, .bool, .list [.int .u8]], ⟨[.bool, .str, .int .i64, .bool, .list [.int .u8]], .tup [.full 1, .sc .bool], [.box [.sc .str, .sc (.int .i64), .sc .bool], .arr [.int .u8]]⟩,
  fun ((s, at_, bad, text) : Str × Int × Bool × List Int) => sPart s at_ bad text⟩
theorem sPart.ev : ∀ d, evFn C0 (hnd (tab [(208, l5Fixed.S), (209, l5Fives.S), (258, sBit.S), (259, sNum.S), (260, sStored.S), (261, sTokens.S), (262, sLens.S)])) Tryz.f251 .u sPart.S d = sPart.S.F d := fun _ => by kernel_rfl
theorem sPart.sound : SoundS Tryz.prog C0 251 sPart.S := sound_of_ev tyOk (tab_ok (l := [(208, l5Fixed.S), (209, l5Fives.S), (258, sBit.S), (259, sNum.S), (260, sStored.S), (261, sTokens.S), (262, sLens.S)]) ⟨l5Fixed.sound, l5Fives.sound, sBit.sound, sNum.sound, sStored.sound, sTokens.sound, sLens.sound, trivial⟩) Tryz.func251 (by kernel_rfl) (by kernel_rfl) (by kernel_rfl) sPart.ev
def l5Get.S : Spec := ⟨0, [.sc .str], [], [.str], ⟨[.str, .int .i64, .bool], .tup [.sc .str, .sc (.int .i64), .sc .bool], []⟩,
  fun (text : Str) => l5Get text⟩
theorem l5Get.ev : ∀ d, evFn C0 (hnd (tab [(251, sPart.S), (252, sWhole.S)])) Tryz.f228 (.seq .u (.seq .u (.seq .u (.seq .u (.seq (.blk (.loop ⟨[.bool, .str, .int .i64, .bool, .list [.int .u8]], [(5, .ptr 0 0), (6, .full 1), (7, .sc .bool)], [.box [.sc .str, .sc (.int .i64), .sc .bool], .arr [.int .u8]]⟩ (fun ((last, o, o1, o2, out) : Bool × Str × Int × Bool × List Int) => 100000) 0 ⟨[.str, .int .i64, .bool, .list [.int .u8]], [(5, .ptr 0 0), (6, .full 1)], [.box [.sc .str, .sc (.int .i64), .sc .bool], .arr [.int .u8]]⟩ (.seq (.seq (.reg [.bool] [(23, .sc .bool)]) .u) .u))) (.seq .u (.seq (.seq (.reg [.bool] [(46, .sc .bool)]) .u) .u))))))) l5Get.S d = l5Get.S.F d := fun _ => by kernel_rfl
theorem l5Get.sound : SoundS Tryz.prog C0 228 l5Get.S := sound_of_ev tyOk (tab_ok (l := [(251, sPart.S), (252, sWhole.S)]) ⟨sPart.sound, sWhole.sound, trivial⟩) Tryz.func228 (by kernel_rfl) (by kernel_rfl) (by kernel_rfl) l5Get.ev
def specFlateGet.S : Spec := ⟨0, [.sc .str], [], [.str], ⟨[.str, .int .i64, .bool], .tup [.sc .str, .sc (.int .i64), .sc .bool], []⟩,
  fun (text : Str) => specFlateGet text⟩
theorem specFlateGet.ev : ∀ d, evFn C0 (hnd (tab [(228, l5Get.S)])) Tryz.f203 .u specFlateGet.S d = specFlateGet.S.F d := fun _ => by kernel_rfl
theorem specFlateGet.sound : SoundS Tryz.prog C0 203 specFlateGet.S := sound_of_ev tyOk (tab_ok (l := [(228, l5Get.S)]) ⟨l5Get.sound, trivial⟩) Tryz.func203 (by kernel_rfl) (by kernel_rfl) (by kernel_rfl) specFlateGet.ev
def l6Days.S : Spec := ⟨0, [.sc (.int .i64), .sc (.int .i64)], [], [.int .i64, .int .i64], ⟨[.int .i64], .sc (.int .i64), []⟩,
  fun ((year, month) : Int × Int) => l6Days year month⟩
theorem l6Days.ev : ∀ d, evFn C0 (hnd (tab [])) Tryz.f106 (.seq .u (.seq (.seq .u (.blk (.join ⟨[.int .i64, .int .i64, .bool], [(0, .sc (.int .i64)), (5, .sc (.int .i64)), (6, .sc .bool)], []⟩ .u (.cond .u (.seq .u (.cond (.seq (.seq (.reg [.bool] [(25, .sc .bool)]) .u) .u) .u)))))) .u)) l6Days.S d = l6Days.S.F d := fun _ => by kernel_rfl
theorem l6Days.sound : SoundS Tryz.prog C0 106 l6Days.S := sound_of_ev tyOk (tab_ok (l := []) trivial) Tryz.func106 (by kernel_rfl) (by kernel_rfl) (by kernel_rfl) l6Days.ev
def specStampOk.S : Spec := ⟨0, [.agg [.sc (.int .i64), .sc (.int .i64), .sc (.int .i64), .sc (.int .i64), .sc (.int .i64), .sc (.int .i64)]], [], [.int .i64, .int .i64, .int .i64, .int .i64, .int .i64, .int .i64], ⟨[.bool], .sc .bool, []⟩,
  fun ((y, mo, d, h, mi, sec) : Int × Int × Int × Int × Int × Int) => specStampOk y mo d h mi sec⟩
theorem specStampOk.ev : ∀ d, evFn C0 (hnd (tab [(105, l1In.S), (106, l6Days.S)])) Tryz.f57 (.seq .u (.seq (.reg [.bool] [(3, .sc .bool)]) (.seq (.reg [.bool] [(2, .sc .bool)]) .u))) specStampOk.S d = specStampOk.S.F d := fun _ => by kernel_rfl
theorem specStampOk.sound : SoundS Tryz.prog C0 57 specStampOk.S := sound_of_ev tyOk (tab_ok (l := [(105, l1In.S), (106, l6Days.S)]) ⟨l1In.sound, l6Days.sound, trivial⟩) Tryz.func57 (by kernel_rfl) (by kernel_rfl) (by kernel_rfl) specStampOk.ev
def l6Get.S : Spec := ⟨0, [.sc (.int .i64)], [], [.int .i64], ⟨[.int .i64, .int .i64, .int .i64, .int .i64, .int .i64, .int .i64], .agg [.sc (.int .i64), .sc (.int .i64), .sc (.int .i64), .sc (.int .i64), .sc (.int .i64), .sc (.int .i64)], []⟩,
  fun (n : Int) => l6Get n⟩
theorem l6Get.ev : ∀ d, evFn C0 (hnd (tab [])) Tryz.f197 .u l6Get.S d = l6Get.S.F d := fun _ => by kernel_rfl
theorem l6Get.sound : SoundS Tryz.prog C0 197 l6Get.S := sound_of_ev tyOk (tab_ok (l := []) trivial) Tryz.func197 (by kernel_rfl) (by kernel_rfl) (by kernel_rfl) l6Get.ev
def specEntryOk.S : Spec := ⟨0, [.agg [.sc .str, .sc (.int .i64), .sc (.int .i64), .sc (.int .i64), .sc (.int .i64), .sc (.int .i64), .sc (.int .i64), .sc .str]], [], [.str, .int .i64, .int .i64, .int .i64, .int .i64, .int .i64, .int .i64, .str], ⟨[.bool], .sc .bool, []⟩,
  fun ((name, y, mo, d, h, mi, sec, text) : Str × Int × Int × Int × Int × Int × Int × Str) => specEntryOk name y mo d h mi sec text⟩
theorem specEntryOk.ev : ∀ d, evFn C0 (hnd (tab [(56, specNameOk.S), (57, specStampOk.S)])) Tryz.f19 (.seq .u (.seq (.reg [.bool] [(2, .sc .bool)]) .u)) specEntryOk.S d = specEntryOk.S.F d := fun _ => by kernel_rfl
theorem specEntryOk.sound : SoundS Tryz.prog C0 19 specEntryOk.S := sound_of_ev tyOk (tab_ok (l := [(56, specNameOk.S), (57, specStampOk.S)]) ⟨specNameOk.sound, specStampOk.sound, trivial⟩) Tryz.func19 (by kernel_rfl) (by kernel_rfl) (by kernel_rfl) specEntryOk.ev
def l6Bytes.S : Spec := ⟨0, [.sc (.int .i64), .sc (.int .i64)], [], [.int .i64, .int .i64], ⟨[.str], .sc .str, []⟩,
  fun ((n, many) : Int × Int) => l6Bytes n many⟩
theorem l6Bytes.ev : ∀ d, evFn C0 (hnd (tab [])) Tryz.f167 (.seq .u (.seq .u (.seq (.seq .u (.blk (.loop ⟨[.int .i64, .int .i64, .int .i64, .list [.int .u8]], [(0, .sc (.int .i64)), (1, .sc (.int .i64)), (5, .full 0), (6, .sc (.int .i64))], [.arr [.int .u8]]⟩ (fun ((n1, many1, i, out) : Int × Int × Int × List Int) => (many1 - i).toNat + 1) 0 ⟨[.list [.int .u8]], [(5, .full 0)], [.arr [.int .u8]]⟩ .u))) .u))) l6Bytes.S d = l6Bytes.S.F d := fun _ => by kernel_rfl
theorem l6Bytes.sound : SoundS Tryz.prog C0 167 l6Bytes.S := sound_of_ev tyOk (tab_ok (l := []) trivial) Tryz.func167 (by kernel_rfl) (by kernel_rfl) (by kernel_rfl) l6Bytes.ev
def l6Num.S : Spec := ⟨0, [.sc .str, .sc (.int .i64), .sc (.int .i64)], [], [.str, .int .i64, .int .i64], ⟨[.int .i64], .sc (.int .i64), []⟩,
  fun ((s, at_, many) : Str × Int × Int) => l6Num s at_ many⟩
theorem l6Num.ev : ∀ d, evFn C0 (hnd (tab [])) Tryz.f156 (.seq .u (.seq .u (.seq (.seq (.reg [.bool] [(18, .sc .bool)]) .u) (.seq (.seq .u (.blk (.loop ⟨[.str, .int .i64, .int .i64, .int .i64], [(0, .sc .str), (1, .sc (.int .i64)), (7, .sc (.int .i64)), (8, .sc (.int .i64))], []⟩ (fun ((s1, at_1, n, i) : Str × Int × Int × Int) => (i - 0).toNat + 2) 0 ⟨[.int .i64], [(7, .sc (.int .i64))], []⟩ .u))) .u)))) l6Num.S d = l6Num.S.F d := fun _ => by kernel_rfl
theorem l6Num.sound : SoundS Tryz.prog C0 156 l6Num.S := sound_of_ev tyOk (tab_ok (l := []) trivial) Tryz.func156 (by kernel_rfl) (by kernel_rfl) (by kernel_rfl) l6Num.ev
end Ev
end
section
open Go Go.Proofs
set_option maxRecDepth 100000
namespace Ev
set_option maxHeartbeats 1000000
set_option linter.unusedVariables false
def l6Text.S : Spec := ⟨0, [.sc (.int .i64), .sc .str], [], [.int .i64, .str], ⟨[.str, .bool], .tup [.sc .str, .sc .bool], []⟩,
  fun ((how, packed) : Int × Str) => l6Text how packed⟩
theorem l6Text.ev : ∀ d, evFn C0 (hnd (tab [(203, specFlateGet.S)])) Tryz.f198 (.seq .u (.seq .u (.seq .u (.seq (.reg [.str, .bool] [(4, .sc .str), (5, .sc .bool)]) .u)))) l6Text.S d = l6Text.S.F d := fun _ => by kernel_rfl
theorem l6Text.sound : SoundS Tryz.prog C0 198 l6Text.S := sound_of_ev tyOk (tab_ok (l := [(203, specFlateGet.S)]) ⟨specFlateGet.sound, trivial⟩) Tryz.func198 (by kernel_rfl) (by kernel_rfl) (by kernel_rfl) l6Text.ev
def l6Read.S : Spec := ⟨0, [.sc .str], [], [.str], ⟨[.str, .int .i64, .int .i64, .int .i64, .int .i64, .int .i64, .int .i64, .str, .int .i64, .bool], .tup [.agg [.sc .str, .sc (.int .i64), .sc (.int .i64), .sc (.int .i64), .sc (.int .i64), .sc (.int .i64), .sc (.int .i64), .sc .str], .sc (.int .i64), .sc .bool], []⟩,
  fun (text : Str) => l6Read text⟩
theorem l6Read.ev : ∀ d, evFn C0 (hnd (tab [(19, specEntryOk.S), (130, specCrc.S), (156, l6Num.S), (197, l6Get.S), (198, l6Text.S)])) Tryz.f159 (.seq .u (.seq .u (.seq .u (.seq (.reg [.bool] [(7, .sc .bool)]) (.seq (.seq (.reg [.bool] [(51, .sc .bool)]) .u) (.seq .u (.seq .u (.seq .u (.seq (.reg [.bool] [(10, .sc .bool)]) (.seq (.cm [(1, [0]), (2, [0]), (3, [0]), (4, [0]), (9, [0])]) .u)))))))))) l6Read.S d = l6Read.S.F d := fun _ => by kernel_rfl
theorem l6Read.sound : SoundS Tryz.prog C0 159 l6Read.S := sound_of_ev tyOk (tab_ok (l := [(19, specEntryOk.S), (130, specCrc.S), (156, l6Num.S), (197, l6Get.S), (198, l6Text.S)]) ⟨specEntryOk.sound, specCrc.sound, l6Num.sound, l6Get.sound, l6Text.sound, trivial⟩) Tryz.func159 (by kernel_rfl) (by kernel_rfl) (by kernel_rfl) l6Read.ev
def l7At.S : Spec := ⟨0, [.sc (.list [.str, .int .i64, .int .i64, .int .i64, .int .i64, .int .i64, .int .i64, .str]), .sc .str], [], [.list [.str, .int .i64, .int .i64, .int .i64, .int .i64, .int .i64, .int .i64, .str], .str], ⟨[.int .i64], .sc (.int .i64), []⟩,
  fun ((list, name) : (List (Str × Int × Int × Int × Int × Int × Int × Str)) × Str) => l7At list name⟩
theorem l7At.ev : ∀ d, evFn C0 (hnd (tab [])) Tryz.f66 (.seq .u (.seq (.seq .u (.blk (.loopS ⟨[.list [.str, .int .i64, .int .i64, .int .i64, .int .i64, .int .i64, .int .i64, .str], .str, .int .i64], [(0, .sc (.list [.str, .int .i64, .int .i64, .int .i64, .int .i64, .int .i64, .int .i64, .str])), (1, .sc .str), (5, .sc (.int .i64))], []⟩ (fun ((list1, name1, i) : (List (Str × Int × Int × Int × Int × Int × Int × Str)) × Str × Int) => ((list1.length : Int) - i).toNat + 1) 0 ⟨[], [], []⟩ .u))) .u)) l7At.S d = l7At.S.F d := fun _ => by kernel_rfl
theorem l7At.sound : SoundS Tryz.prog C0 66 l7At.S := sound_of_ev tyOk (tab_ok (l := []) trivial) Tryz.func66 (by kernel_rfl) (by kernel_rfl) (by kernel_rfl) l7At.ev
def specZipOk.S : Spec := ⟨0, [.sc (.list [.str, .int .i64, .int .i64, .int .i64, .int .i64, .int .i64, .int .i64, .str])], [], [.list [.str, .int .i64, .int .i64, .int .i64, .int .i64, .int .i64, .int .i64, .str]], ⟨[.bool], .sc .bool, []⟩,
  fun (list : List (Str × Int × Int × Int × Int × Int × Int × Str)) => specZipOk list⟩
theorem specZipOk.ev : ∀ d, evFn C0 (hnd (tab [(19, specEntryOk.S), (66, l7At.S), (67, l7Under.S)])) Tryz.f28 (.seq .u (.seq (.seq .u (.blk (.loopS ⟨[.list [.str, .int .i64, .int .i64, .int .i64, .int .i64, .int .i64, .int .i64, .str], .int .i64], [(0, .sc (.list [.str, .int .i64, .int .i64, .int .i64, .int .i64, .int .i64, .int .i64, .str])), (3, .sc (.int .i64))], []⟩ (fun ((list1, i) : (List (Str × Int × Int × Int × Int × Int × Int × Str)) × Int) => ((list1.length : Int) - i).toNat + 1) 0 ⟨[.list [.str, .int .i64, .int .i64, .int .i64, .int .i64, .int .i64, .int .i64, .str]], [(0, .sc (.list [.str, .int .i64, .int .i64, .int .i64, .int .i64, .int .i64, .int .i64, .str]))], []⟩ (.seq .u (.seq (.blk (.seq (.seq (.reg [.bool] [(27, .sc .bool)]) .u) (.seq .u (.blk (.loopS ⟨[.list [.str, .int .i64, .int .i64, .int .i64, .int .i64, .int .i64, .int .i64, .str], .int .i64, .int .i64], [(0, .sc (.list [.str, .int .i64, .int .i64, .int .i64, .int .i64, .int .i64, .int .i64, .str])), (3, .sc (.int .i64)), (4, .sc (.int .i64))], []⟩ (fun ((list2, i1, k) : (List (Str × Int × Int × Int × Int × Int × Int × Str)) × Int × Int) => ((list2.length : Int) - k).toNat + 1) 2 ⟨[.list [.str, .int .i64, .int .i64, .int .i64, .int .i64, .int .i64, .int .i64, .str], .int .i64], [(0, .sc (.list [.str, .int .i64, .int .i64, .int .i64, .int .i64, .int .i64, .int .i64, .str])), (3, .sc (.int .i64))], []⟩ .u))))) .u))))) .u)) specZipOk.S d = specZipOk.S.F d := fun _ => by kernel_rfl
theorem specZipOk.sound : SoundS Tryz.prog C0 28 specZipOk.S := sound_of_ev tyOk (tab_ok (l := [(19, specEntryOk.S), (66, l7At.S), (67, l7Under.S)]) ⟨specEntryOk.sound, l7At.sound, l7Under.sound, trivial⟩) Tryz.func28 (by kernel_rfl) (by kernel_rfl) (by kernel_rfl) specZipOk.ev
def l7End.S : Spec := ⟨0, [.sc (.int .i64), .sc (.int .i64), .sc (.int .i64)], [], [.int .i64, .int .i64, .int .i64], ⟨[.str], .sc .str, []⟩,
  fun ((many, long, at_) : Int × Int × Int) => l7End many long at_⟩
theorem l7End.ev : ∀ d, evFn C0 (hnd (tab [(167, l6Bytes.S)])) Tryz.f120 .u l7End.S d = l7End.S.F d := fun _ => by kernel_rfl
theorem l7End.sound : SoundS Tryz.prog C0 120 l7End.S := sound_of_ev tyOk (tab_ok (l := [(167, l6Bytes.S)]) ⟨l6Bytes.sound, trivial⟩) Tryz.func120 (by kernel_rfl) (by kernel_rfl) (by kernel_rfl) l7End.ev
def l7Get.S : Spec := ⟨0, [.sc .str, .sc (.int .i64)], [], [.str, .int .i64], ⟨[.int .i64, .bool, .list [.str, .int .i64, .int .i64, .int .i64, .int .i64, .int .i64, .int .i64, .str]], .tup [.full 0, .sc (.int .i64), .sc .bool], [.arr [.str, .int .i64, .int .i64, .int .i64, .int .i64, .int .i64, .int .i64, .str]]⟩,
  fun ((text, many) : Str × Int) => l7Get text many⟩
theorem l7Get.ev : ∀ d, evFn C0 (hnd (tab [(159, l6Read.S)])) Tryz.f157 (.seq .u (.seq .u (.seq .u (.seq (.seq .u (.blk (.loopS ⟨[.str, .int .i64, .int .i64, .int .i64, .list [.str, .int .i64, .int .i64, .int .i64, .int .i64, .int .i64, .int .i64, .str]], [(0, .sc .str), (1, .sc (.int .i64)), (7, .full 0), (8, .sc (.int .i64)), (9, .sc (.int .i64))], [.arr [.str, .int .i64, .int .i64, .int .i64, .int .i64, .int .i64, .int .i64, .str]]⟩ (fun ((text1, many1, at_, i, out) : Str × Int × Int × Int × List (Str × Int × Int × Int × Int × Int × Int × Str)) => (many1 - i).toNat + 1) 0 ⟨[.int .i64, .list [.str, .int .i64, .int .i64, .int .i64, .int .i64, .int .i64, .int .i64, .str]], [(7, .full 0), (8, .sc (.int .i64))], [.arr [.str, .int .i64, .int .i64, .int .i64, .int .i64, .int .i64, .int .i64, .str]]⟩ .u))) .u)))) l7Get.S d = l7Get.S.F d := fun _ => by kernel_rfl
theorem l7Get.sound : SoundS Tryz.prog C0 157 l7Get.S := sound_of_ev tyOk (tab_ok (l := [(159, l6Read.S)]) ⟨l6Read.sound, trivial⟩) Tryz.func157 (by kernel_rfl) (by kernel_rfl) (by kernel_rfl) l7Get.ev
def l7Head.S : Spec := ⟨0, [.sc .str, .sc (.int .i64), .sc (.int .i64)], [], [.str, .int .i64, .int .i64], ⟨[.int .i64, .bool], .tup [.sc (.int .i64), .sc .bool], []⟩,
  fun ((text, head, at_) : Str × Int × Int) => l7Head text head at_⟩
theorem l7Head.ev : ∀ d, evFn C0 (hnd (tab [(156, l6Num.S), (167, l6Bytes.S)])) Tryz.f158 (.seq .u (.seq .u (.seq .u (.seq (.seq (.reg [.bool] [(36, .sc .bool)]) .u) (.seq (.reg [.bool] [(10, .sc .bool)]) (.seq (.reg [.bool] [(11, .sc .bool)]) (.seq (.reg [.int .i64, .bool] [(6, .sc (.int .i64)), (7, .sc .bool)]) .u))))))) l7Head.S d = l7Head.S.F d := fun _ => by kernel_rfl
theorem l7Head.sound : SoundS Tryz.prog C0 158 l7Head.S := sound_of_ev tyOk (tab_ok (l := [(156, l6Num.S), (167, l6Bytes.S)]) ⟨l6Num.sound, l6Bytes.sound, trivial⟩) Tryz.func158 (by kernel_rfl) (by kernel_rfl) (by kernel_rfl) l7Head.ev
def specZipGet.S : Spec := ⟨0, [.sc .str], [], [.str], ⟨[.bool, .list [.str, .int .i64, .int .i64, .int .i64, .int .i64, .int .i64, .int .i64, .str]], .tup [.full 0, .sc .bool], [.arr [.str, .int .i64, .int .i64, .int .i64, .int .i64, .int .i64, .int .i64, .str]]⟩,
  fun (text : Str) => specZipGet text⟩
theorem specZipGet.ev : ∀ d, evFn C0 (hnd (tab [(28, specZipOk.S), (105, l1In.S), (120, l7End.S), (156, l6Num.S), (157, l7Get.S), (158, l7Head.S), (159, l6Read.S)])) Tryz.f107 (.seq .u (.seq .u (.seq .u (.seq .u (.seq (.seq (.reg [.bool] [(38, .sc .bool)]) .u) (.seq .u (.seq .u (.seq (.seq .u (.blk (.loopS ⟨[.str, .int .i64, .int .i64, .int .i64, .int .i64, .int .i64, .list [.str, .int .i64, .int .i64, .int .i64, .int .i64, .int .i64, .int .i64, .str]], [(0, .sc .str), (4, .sc (.int .i64)), (5, .full 0), (6, .sc (.int .i64)), (8, .sc (.int .i64)), (9, .sc (.int .i64)), (10, .sc (.int .i64))], [.arr [.str, .int .i64, .int .i64, .int .i64, .int .i64, .int .i64, .int .i64, .str]]⟩ (fun ((text1, many, at_, head, own, i, list) : Str × Int × Int × Int × Int × Int × List (Str × Int × Int × Int × Int × Int × Int × Str)) => (many - i).toNat + 1) 0 ⟨[.str, .int .i64, .int .i64, .int .i64, .list [.str, .int .i64, .int .i64, .int .i64, .int .i64, .int .i64, .int .i64, .str]], [(0, .sc .str), (4, .sc (.int .i64)), (5, .full 0), (6, .sc (.int .i64)), (8, .sc (.int .i64))], [.arr [.str, .int .i64, .int .i64, .int .i64, .int .i64, .int .i64, .int .i64, .str]]⟩ .u))) .u)))))))) specZipGet.S d = specZipGet.S.F d := fun _ => by kernel_rfl
theorem specZipGet.sound : SoundS Tryz.prog C0 107 specZipGet.S := sound_of_ev tyOk (tab_ok (l := [(28, specZipOk.S), (105, l1In.S), (120, l7End.S), (156, l6Num.S), (157, l7Get.S), (158, l7Head.S), (159, l6Read.S)]) ⟨specZipOk.sound, l1In.sound, l7End.sound, l6Num.sound, l7Get.sound, l7Head.sound, l6Read.sound, trivial⟩) Tryz.func107 (by kernel_rfl) (by kernel_rfl) (by kernel_rfl) specZipGet.ev
def l9Zip.S : Spec := ⟨0, [.sc .str], [], [.str], ⟨[.bool], .sc .bool, []⟩,
  fun (text : Str) => l9Zip text⟩
theorem l9Zip.ev : ∀ d, evFn C0 (hnd (tab [(107, specZipGet.S)])) Tryz.f62 .u l9Zip.S d = l9Zip.S.F d := fun _ => by kernel_rfl
theorem l9Zip.sound : SoundS Tryz.prog C0 62 l9Zip.S := sound_of_ev tyOk (tab_ok (l := [(107, specZipGet.S)]) ⟨specZipGet.sound, trivial⟩) Tryz.func62 (by kernel_rfl) (by kernel_rfl) (by kernel_rfl) l9Zip.ev
def specDiskOk.S : Spec := ⟨0, [.agg [.sc .str, .sc .str]], [], [.str, .str], ⟨[.bool], .sc .bool, []⟩,
  fun ((text, log) : Str × Str) => specDiskOk text log⟩
theorem specDiskOk.ev : ∀ d, evFn C0 (hnd (tab [(62, l9Zip.S)])) Tryz.f23 (.seq .u (.seq (.reg [.bool] [(2, .sc .bool)]) .u)) specDiskOk.S d = specDiskOk.S.F d := fun _ => by kernel_rfl
theorem specDiskOk.sound : SoundS Tryz.prog C0 23 specDiskOk.S := sound_of_ev tyOk (tab_ok (l := [(62, l9Zip.S)]) ⟨l9Zip.sound, trivial⟩) Tryz.func23 (by kernel_rfl) (by kernel_rfl) (by kernel_rfl) specDiskOk.ev
end Ev
end
section
open Go Go.Proofs
set_option maxRecDepth 100000
namespace Ev
set_option maxHeartbeats 1000000
set_option linter.unusedVariables false
def szDisk.S : Spec := ⟨0, [.agg [.sc .str, .sc .str], .sc (.int .i64)], [], [.str, .str, .int .i64], ⟨[.int .i64], .sc (.int .i64), []⟩,
  fun ((text, log, n) : Str × Str × Int) => szDisk text log n⟩
theorem szDisk.ev : ∀ d, evFn C0 (hnd (tab [])) Tryz.f22 .u szDisk.S d = szDisk.S.F d := fun _ => by kernel_rfl
theorem szDisk.sound : SoundS Tryz.prog C0 22 szDisk.S := sound_of_ev tyOk (tab_ok (l := []) trivial) Tryz.func22 (by kernel_rfl) (by kernel_rfl) (by kernel_rfl) szDisk.ev
def toDisk.S : Spec := ⟨0, [.agg [.sc .str, .sc .str]], [], [.str, .str], ⟨[.str, .str], .agg [.sc .str, .sc .str], []⟩,
  fun ((text, log) : Str × Str) => toDisk text log⟩
theorem toDisk.ev : ∀ d, evFn C0 (hnd (tab [])) Tryz.f24 .u toDisk.S d = toDisk.S.F d := fun _ => by kernel_rfl
theorem toDisk.sound : SoundS Tryz.prog C0 24 toDisk.S := sound_of_ev tyOk (tab_ok (l := []) trivial) Tryz.func24 (by kernel_rfl) (by kernel_rfl) (by kernel_rfl) toDisk.ev
end Ev
end
section
open Go Go.Proofs
set_option maxRecDepth 100000
namespace Ev
set_option maxHeartbeats 1000000
set_option linter.unusedVariables false
def FnExactDiskOk.S : Spec := ⟨0, [.agg [.sc .str, .sc .str]], [], [.str, .str], ⟨[.bool], .sc .bool, []⟩,
  fun ((text, log) : Str × Str) => FnExactDiskOk text log⟩
theorem FnExactDiskOk.ev : ∀ d, evFn C0 (hnd (tab [(22, szDisk.S), (23, specDiskOk.S), (24, toDisk.S), (25, diskOk.S)])) Tryz.f4 .u FnExactDiskOk.S d = FnExactDiskOk.S.F d := fun _ => by kernel_rfl
end Ev
end
