/- The types of the program as a table, and that it fits. Conditions: none. -/
import Derived.Test.YtbokmcaoggnjhaaDoorProg
import Derived.Test.YtbokmcaoggnjhaaDoorEvLib
import Derived.Test.YtbokmcaoggnjhaaDoorEvTy
import Derived.Test.YtbokmcaoggnjhaaDoorEvEntry2
import Derived.KernelRfl
open Go Go.Proofs
set_option maxRecDepth 100000
namespace Ev
def tyTab : List (Nat × TI) := [
  (2, ⟨.int .i64, 1, 8, [.int .i64 0], some [.int .i64]⟩),
  (3, ⟨.int .i64, 1, 8, [.int .i64 0], some [.int .i64]⟩),
  (4, ⟨.bool, 1, 1, [.bool false], some [.bool]⟩),
  (5, ⟨.int .u8, 1, 1, [.int .u8 0], some [.int .u8]⟩),
  (6, ⟨.int .u8, 1, 1, [.int .u8 0], some [.int .u8]⟩),
  (7, ⟨.struct [(0, 1, false), (1, 1, false), (2, 1, false), (3, 1, false)], 4, 24, [.int .i64 0, .int .i64 0, .bool false, .int .u8 0], some [.int .i64, .int .i64, .bool, .int .u8]⟩),
  (8, ⟨.struct [(0, 1, false), (1, 1, false), (2, 1, false), (3, 1, false)], 4, 24, [.int .i64 0, .int .i64 0, .bool false, .int .u8 0], some [.int .i64, .int .i64, .bool, .int .u8]⟩),
  (9, ⟨.str, 1, 16, [.str []], some [.str]⟩),
  (10, ⟨.str, 1, 16, [.str []], some [.str]⟩),
  (11, ⟨.str, 1, 16, [.str []], some [.str]⟩),
  (12, ⟨.int .u64, 1, 8, [.int .u64 0], some [.int .u64]⟩),
  (13, ⟨.struct [(0, 1, false), (1, 1, false)], 2, 24, [.str [], .int .u64 0], some [.str, .int .u64]⟩),
  (14, ⟨.struct [(0, 1, false), (1, 1, false)], 2, 24, [.str [], .int .u64 0], some [.str, .int .u64]⟩),
  (15, ⟨.ptr 72, 1, 8, [.nilp], none⟩),
  (16, ⟨.ptr 75, 1, 8, [.nilp], none⟩),
  (17, ⟨.ptr 84, 1, 8, [.nilp], none⟩),
  (18, ⟨.struct [(0, 1, false)], 1, 8, [.nilp], none⟩),
  (19, ⟨.struct [(0, 1, false)], 1, 8, [.nilp], none⟩),
  (21, ⟨.int .i32, 1, 4, [.int .i32 0], some [.int .i32]⟩),
  (22, ⟨.slice 34, 1, 24, [.nilsl], none⟩),
  (25, ⟨.slice 36, 1, 24, [.nilsl], none⟩),
  (29, ⟨.slice 5, 1, 24, [.nilsl], some [.ints .u8]⟩),
  (33, ⟨.struct [(0, 1, false), (1, 1, false)], 2, 32, [.str [], .str []], some [.str, .str]⟩),
  (34, ⟨.struct [(0, 1, false), (1, 1, false)], 2, 32, [.str [], .str []], some [.str, .str]⟩),
  (36, ⟨.struct [(0, 1, false), (1, 1, false)], 2, 32, [.str [], .str []], some [.str, .str]⟩),
  (39, ⟨.slice 9, 1, 24, [.nilsl], none⟩),
  (43, ⟨.ptr 51, 1, 8, [.nilp], none⟩),
  (50, ⟨.struct [(0, 1, false), (1, 1, false)], 2, 32, [.nilsl, .int .i64 0], some [.ints .u8, .int .i64]⟩),
  (51, ⟨.struct [(0, 1, false), (1, 1, false)], 2, 32, [.nilsl, .int .i64 0], some [.ints .u8, .int .i64]⟩),
  (62, ⟨.int .u64, 1, 8, [.int .u64 0], some [.int .u64]⟩),
  (64, ⟨.struct [(0, 1, false), (1, 1, false)], 2, 2, [.int .u8 0, .int .u8 0], some [.int .u8, .int .u8]⟩),
  (65, ⟨.struct [(0, 1, false), (1, 1, false)], 2, 2, [.int .u8 0, .int .u8 0], some [.int .u8, .int .u8]⟩),
  (67, ⟨.int .u32, 1, 4, [.int .u32 0], some [.int .u32]⟩),
  (71, ⟨.struct [(0, 1, false), (1, 1, false), (2, 1, false), (3, 1, false)], 4, 40, [.nilp, .nilp, .nilp, .str []], none⟩),
  (72, ⟨.struct [(0, 1, false), (1, 1, false), (2, 1, false), (3, 1, false)], 4, 40, [.nilp, .nilp, .nilp, .str []], none⟩),
  (77, ⟨.int .u8, 1, 1, [.int .u8 0], some [.int .u8]⟩),
  (78, ⟨.int .u8, 1, 1, [.int .u8 0], some [.int .u8]⟩),
  (80, ⟨.ptr 5, 1, 8, [.nilp], none⟩),
  (81, ⟨.int .i32, 1, 4, [.int .i32 0], some [.int .i32]⟩),
  (82, ⟨.int .i32, 1, 4, [.int .i32 0], some [.int .i32]⟩),
  (83, ⟨.struct [(0, 1, false), (1, 1, false), (2, 1, false), (3, 1, false), (4, 1, false), (5, 1, false), (6, 1, false), (7, 1, false), (8, 1, false), (9, 1, false), (10, 1, false)], 11, 48, [.int .u64 0, .int .u64 0, .int .u32 0, .int .u8 0, .int .u8 0, .int .u8 0, .int .u8 0, .undef, .nilp, .int .i32 0, .int .i32 0], none⟩),
  (84, ⟨.struct [(0, 1, false), (1, 1, false), (2, 1, false), (3, 1, false), (4, 1, false), (5, 1, false), (6, 1, false), (7, 1, false), (8, 1, false), (9, 1, false), (10, 1, false)], 11, 48, [.int .u64 0, .int .u64 0, .int .u32 0, .int .u8 0, .int .u8 0, .int .u8 0, .int .u8 0, .undef, .nilp, .int .i32 0, .int .i32 0], none⟩)]
theorem tyTab_ok : tisC Tryd.prog tyTab = true := by kernel_rfl
theorem nm : Tryd.prog.follows .mixedOrders = true := by kernel_rfl
def C0 : Ctx := ⟨tyOf tyTab, fun _ => []⟩
theorem tyOk : TyOk Tryd.prog C0 := tyOk_of rfl tyTab_ok nm
end Ev
