/-
  NARROWER THAN 'FOR EVERY INPUT', by the rows' own cells (each row's printed sentence says how): FnExactTreeTake: laid · FnZipJoinOne: laid · FnZipJoin: laid · FnZipDrop: laid · FnZipMove: laid · FnZipTwice: laid · FnZipSwap: laid · FnZipAdd: laid · FnTreeZip: laid · FnTreeBack: laid · FnTreeTake: laid · FnDiskNone: laid.
  DERIVED. THE GIVEN ROWS OF THIS SEAT. 12 by the template 'for every input the law returns true; each argument reads behind the call as it read before'; 0 by the template 'total and deterministic' (their statements: YtiphcamiidggcaaGreatDoorTotals.lean).
  GIVEN WITH THE SEED: the statements are not yours to turn. If you find one false, say at which input.
  Laid BY PROGRAM, IN A SANDBOX (cutbox-rows.mjs): the forced cells as the released guide's own fill.sh prints them over the translation 2a0396aa2a9a2e21… (all of the seat's roots in one cut). By AI agents, Wed Nov 11 2026. No macro, syntax, notation, axiom, sorry.
-/
import Derived.Test.YtiphcamiidggcaaGreatDoorChecked
import GoSem.PinnedTables
import GoSem.Claim
import GoSem.ClaimJoined
import GoSem.ClaimMapViews
import Derived.JoinedTies
import Derived.KernelRfl
namespace Go.Proofs.YtiphcamiidggcaaGreatDoor
/- THE CELL 'sum', in the pinned program and in every row, IS THE sha256 OF THE DUMP (.gsa) THAT YtiphcamiidggcaaGreatDoorProg.lean LOADS. Nothing in Lean hashes anything: it is a label: what it is worth is what the hold of that sum in a sandbox is worth. -/
noncomputable def Tryz.pinned : Pinned := { name := "ytiphcamiidggcaagreatdoor", sum := "2a0396aa2a9a2e215ae2010f8df3dc70055386bf75e86abcbe787b0efb004125", checked := Tryz.checked }
namespace Rows
def none {H : Type} : Left H := { results := [], args := [] }

/- WHAT THE LISTED PACKAGE-LEVEL VARIABLES READ AS WHEN THE CALL BEGINS. Each datum BY PROGRAM (the guide's laid-datum.mjs) off the statement by which the dump's own 'gosem.cut.vars' lays the variable. In a bare row this is a premise. The card (YtiphcamiidggcaaGreatDoorCards.lean) ties it to the program's text. -/
def laid_unicode_utf8_acceptRanges {H : Type} : DataW H := .agg [.agg [.lit (.int .u8 128), .lit (.int .u8 191)], .agg [.lit (.int .u8 160), .lit (.int .u8 191)], .agg [.lit (.int .u8 128), .lit (.int .u8 159)], .agg [.lit (.int .u8 144), .lit (.int .u8 191)], .agg [.lit (.int .u8 128), .lit (.int .u8 143)], .agg [.lit (.int .u8 0), .lit (.int .u8 0)], .agg [.lit (.int .u8 0), .lit (.int .u8 0)], .agg [.lit (.int .u8 0), .lit (.int .u8 0)], .agg [.lit (.int .u8 0), .lit (.int .u8 0)], .agg [.lit (.int .u8 0), .lit (.int .u8 0)], .agg [.lit (.int .u8 0), .lit (.int .u8 0)], .agg [.lit (.int .u8 0), .lit (.int .u8 0)], .agg [.lit (.int .u8 0), .lit (.int .u8 0)], .agg [.lit (.int .u8 0), .lit (.int .u8 0)], .agg [.lit (.int .u8 0), .lit (.int .u8 0)], .agg [.lit (.int .u8 0), .lit (.int .u8 0)]]
def laid_loop_example_corbel_impl_order {H : Type} : DataW H := .slice [.lit (.int .i64 16), .lit (.int .i64 17), .lit (.int .i64 18), .lit (.int .i64 0), .lit (.int .i64 8), .lit (.int .i64 7), .lit (.int .i64 9), .lit (.int .i64 6), .lit (.int .i64 10), .lit (.int .i64 5), .lit (.int .i64 11), .lit (.int .i64 4), .lit (.int .i64 12), .lit (.int .i64 3), .lit (.int .i64 13), .lit (.int .i64 2), .lit (.int .i64 14), .lit (.int .i64 1), .lit (.int .i64 15)] []
/-- One of Go's own tables, pinned by name: the form's constant. -/
def laid_unicode_utf8_first : DataW Unit := Go.Pinned.utf8First
def laid_math_bits_deBruijn32tab {H : Type} : DataW H := .agg [.lit (.int .u8 0), .lit (.int .u8 1), .lit (.int .u8 28), .lit (.int .u8 2), .lit (.int .u8 29), .lit (.int .u8 14), .lit (.int .u8 24), .lit (.int .u8 3), .lit (.int .u8 30), .lit (.int .u8 22), .lit (.int .u8 20), .lit (.int .u8 15), .lit (.int .u8 25), .lit (.int .u8 17), .lit (.int .u8 4), .lit (.int .u8 8), .lit (.int .u8 31), .lit (.int .u8 27), .lit (.int .u8 13), .lit (.int .u8 23), .lit (.int .u8 21), .lit (.int .u8 19), .lit (.int .u8 16), .lit (.int .u8 7), .lit (.int .u8 26), .lit (.int .u8 12), .lit (.int .u8 18), .lit (.int .u8 6), .lit (.int .u8 11), .lit (.int .u8 5), .lit (.int .u8 10), .lit (.int .u8 9)]
def laid_math_bits_deBruijn64tab {H : Type} : DataW H := .agg [.lit (.int .u8 0), .lit (.int .u8 1), .lit (.int .u8 56), .lit (.int .u8 2), .lit (.int .u8 57), .lit (.int .u8 49), .lit (.int .u8 28), .lit (.int .u8 3), .lit (.int .u8 61), .lit (.int .u8 58), .lit (.int .u8 42), .lit (.int .u8 50), .lit (.int .u8 38), .lit (.int .u8 29), .lit (.int .u8 17), .lit (.int .u8 4), .lit (.int .u8 62), .lit (.int .u8 47), .lit (.int .u8 59), .lit (.int .u8 36), .lit (.int .u8 45), .lit (.int .u8 43), .lit (.int .u8 51), .lit (.int .u8 22), .lit (.int .u8 53), .lit (.int .u8 39), .lit (.int .u8 33), .lit (.int .u8 30), .lit (.int .u8 24), .lit (.int .u8 18), .lit (.int .u8 12), .lit (.int .u8 5), .lit (.int .u8 63), .lit (.int .u8 55), .lit (.int .u8 48), .lit (.int .u8 27), .lit (.int .u8 60), .lit (.int .u8 41), .lit (.int .u8 37), .lit (.int .u8 16), .lit (.int .u8 46), .lit (.int .u8 35), .lit (.int .u8 44), .lit (.int .u8 21), .lit (.int .u8 52), .lit (.int .u8 32), .lit (.int .u8 23), .lit (.int .u8 11), .lit (.int .u8 54), .lit (.int .u8 26), .lit (.int .u8 40), .lit (.int .u8 15), .lit (.int .u8 34), .lit (.int .u8 20), .lit (.int .u8 31), .lit (.int .u8 10), .lit (.int .u8 25), .lit (.int .u8 14), .lit (.int .u8 19), .lit (.int .u8 9), .lit (.int .u8 13), .lit (.int .u8 8), .lit (.int .u8 7), .lit (.int .u8 6)]
def laid_internal_strconv_uint64pow10 {H : Type} : DataW H := .agg [.lit (.int .u64 1), .lit (.int .u64 10), .lit (.int .u64 100), .lit (.int .u64 1000), .lit (.int .u64 10000), .lit (.int .u64 100000), .lit (.int .u64 1000000), .lit (.int .u64 10000000), .lit (.int .u64 100000000), .lit (.int .u64 1000000000), .lit (.int .u64 10000000000), .lit (.int .u64 100000000000), .lit (.int .u64 1000000000000), .lit (.int .u64 10000000000000), .lit (.int .u64 100000000000000), .lit (.int .u64 1000000000000000), .lit (.int .u64 10000000000000000), .lit (.int .u64 100000000000000000), .lit (.int .u64 1000000000000000000), .lit (.int .u64 10000000000000000000)]

/-- 'laws.FnExactTreeTake': WHATEVER THE INPUT: true; the input reads as it did. -/
def fnExactTreeTakeSpec : ChangeSpec := { name := "fnExactTreeTake", vars := ["loop.example/corbel/impl.order"], fn := fun _ => fun
  | [d1, d2, g1] => { results := [.lit (.bool true)], args := [d1, d2], vars := [g1] }
  | _ => none }
def fnExactTreeTakeRow : OpenClaim := { program := "ytiphcamiidggcaagreatdoor", sum := "2a0396aa2a9a2e215ae2010f8df3dc70055386bf75e86abcbe787b0efb004125", func := "loop.example/corbel/laws.FnExactTreeTake", spec := "fnExactTreeTake", inPlace := ["internal/bytealg.CountString", "internal/bytealg.IndexByteString", "internal/bytealg.IndexString"], unfollowed := true, recurses := true, named := ["loop.example/corbel/impl.order", "unicode/utf8.first", "unicode/utf8.acceptRanges", "internal/bytealg.MaxLen"], plainKeys := false, apart := false, laid := [("unicode/utf8.acceptRanges", laid_unicode_utf8_acceptRanges), ("loop.example/corbel/impl.order", laid_loop_example_corbel_impl_order), ("unicode/utf8.first", laid_unicode_utf8_first)] }
def FnExactTreeTakeSaid : Prop := fnExactTreeTakeRow.holds Tryz.pinned (OpenSpec.ofChange fnExactTreeTakeSpec)

/-- ITS FALSE NEIGHBOUR: 'it returns false'. Refute it at one input. -/
def fnExactTreeTakeWrong : ChangeSpec := { name := "fnExactTreeTake", vars := ["loop.example/corbel/impl.order"], fn := fun _ => fun
  | [d1, d2, g1] => { results := [.lit (.bool false)], args := [d1, d2], vars := [g1] }
  | _ => none }
def FnExactTreeTakeWrongFalsely : Prop := fnExactTreeTakeRow.holds Tryz.pinned (OpenSpec.ofChange fnExactTreeTakeWrong)

/-- 'laws.FnZipJoinOne': WHATEVER THE INPUT: true; the input reads as it did. -/
def fnZipJoinOneSpec : ChangeSpec := { name := "fnZipJoinOne", vars := ["loop.example/corbel/impl.order"], fn := fun _ => fun
  | [d, g1] => { results := [.lit (.bool true)], args := [d], vars := [g1] }
  | _ => none }
def fnZipJoinOneRow : OpenClaim := { program := "ytiphcamiidggcaagreatdoor", sum := "2a0396aa2a9a2e215ae2010f8df3dc70055386bf75e86abcbe787b0efb004125", func := "loop.example/corbel/laws.FnZipJoinOne", spec := "fnZipJoinOne", inPlace := ["internal/bytealg.CountString", "internal/bytealg.IndexByteString", "internal/bytealg.IndexString", "internal/abi.NoEscape", "internal/bytealg.MakeNoZero"], unfollowed := true, recurses := true, named := ["loop.example/corbel/impl.order", "unicode/utf8.first", "unicode/utf8.acceptRanges", "internal/bytealg.MaxLen"], plainKeys := false, apart := false, laid := [("unicode/utf8.acceptRanges", laid_unicode_utf8_acceptRanges), ("loop.example/corbel/impl.order", laid_loop_example_corbel_impl_order), ("unicode/utf8.first", laid_unicode_utf8_first)] }
def FnZipJoinOneSaid : Prop := fnZipJoinOneRow.holds Tryz.pinned (OpenSpec.ofChange fnZipJoinOneSpec)

/-- ITS FALSE NEIGHBOUR: 'it returns false'. Refute it at one input. -/
def fnZipJoinOneWrong : ChangeSpec := { name := "fnZipJoinOne", vars := ["loop.example/corbel/impl.order"], fn := fun _ => fun
  | [d, g1] => { results := [.lit (.bool false)], args := [d], vars := [g1] }
  | _ => none }
def FnZipJoinOneWrongFalsely : Prop := fnZipJoinOneRow.holds Tryz.pinned (OpenSpec.ofChange fnZipJoinOneWrong)

/-- 'laws.FnZipJoin': WHATEVER THE INPUT: true; the input reads as it did. -/
def fnZipJoinSpec : ChangeSpec := { name := "fnZipJoin", vars := ["loop.example/corbel/impl.order"], fn := fun _ => fun
  | [d, g1] => { results := [.lit (.bool true)], args := [d], vars := [g1] }
  | _ => none }
def fnZipJoinRow : OpenClaim := { program := "ytiphcamiidggcaagreatdoor", sum := "2a0396aa2a9a2e215ae2010f8df3dc70055386bf75e86abcbe787b0efb004125", func := "loop.example/corbel/laws.FnZipJoin", spec := "fnZipJoin", inPlace := ["internal/bytealg.CountString", "internal/bytealg.IndexByteString", "internal/bytealg.IndexString", "internal/abi.NoEscape", "internal/bytealg.MakeNoZero"], unfollowed := true, recurses := true, named := ["loop.example/corbel/impl.order", "unicode/utf8.first", "unicode/utf8.acceptRanges", "internal/bytealg.MaxLen"], plainKeys := false, apart := false, laid := [("unicode/utf8.acceptRanges", laid_unicode_utf8_acceptRanges), ("loop.example/corbel/impl.order", laid_loop_example_corbel_impl_order), ("unicode/utf8.first", laid_unicode_utf8_first)] }
def FnZipJoinSaid : Prop := fnZipJoinRow.holds Tryz.pinned (OpenSpec.ofChange fnZipJoinSpec)

/-- ITS FALSE NEIGHBOUR: 'it returns false'. Refute it at one input. -/
def fnZipJoinWrong : ChangeSpec := { name := "fnZipJoin", vars := ["loop.example/corbel/impl.order"], fn := fun _ => fun
  | [d, g1] => { results := [.lit (.bool false)], args := [d], vars := [g1] }
  | _ => none }
def FnZipJoinWrongFalsely : Prop := fnZipJoinRow.holds Tryz.pinned (OpenSpec.ofChange fnZipJoinWrong)

/-- 'laws.FnZipDrop': WHATEVER THE INPUT: true; the input reads as it did. -/
def fnZipDropSpec : ChangeSpec := { name := "fnZipDrop", vars := ["loop.example/corbel/impl.order"], fn := fun _ => fun
  | [d, g1] => { results := [.lit (.bool true)], args := [d], vars := [g1] }
  | _ => none }
def fnZipDropRow : OpenClaim := { program := "ytiphcamiidggcaagreatdoor", sum := "2a0396aa2a9a2e215ae2010f8df3dc70055386bf75e86abcbe787b0efb004125", func := "loop.example/corbel/laws.FnZipDrop", spec := "fnZipDrop", inPlace := ["internal/bytealg.CountString", "internal/bytealg.IndexByteString", "internal/bytealg.IndexString", "internal/abi.NoEscape", "internal/bytealg.MakeNoZero"], unfollowed := true, recurses := true, named := ["loop.example/corbel/impl.order", "unicode/utf8.first", "unicode/utf8.acceptRanges", "internal/bytealg.MaxLen"], plainKeys := false, apart := false, laid := [("unicode/utf8.acceptRanges", laid_unicode_utf8_acceptRanges), ("loop.example/corbel/impl.order", laid_loop_example_corbel_impl_order), ("unicode/utf8.first", laid_unicode_utf8_first)] }
def FnZipDropSaid : Prop := fnZipDropRow.holds Tryz.pinned (OpenSpec.ofChange fnZipDropSpec)

/-- ITS FALSE NEIGHBOUR: 'it returns false'. Refute it at one input. -/
def fnZipDropWrong : ChangeSpec := { name := "fnZipDrop", vars := ["loop.example/corbel/impl.order"], fn := fun _ => fun
  | [d, g1] => { results := [.lit (.bool false)], args := [d], vars := [g1] }
  | _ => none }
def FnZipDropWrongFalsely : Prop := fnZipDropRow.holds Tryz.pinned (OpenSpec.ofChange fnZipDropWrong)

/-- 'laws.FnZipMove': WHATEVER THE INPUT: true; the input reads as it did. -/
def fnZipMoveSpec : ChangeSpec := { name := "fnZipMove", vars := ["loop.example/corbel/impl.order"], fn := fun _ => fun
  | [d, g1] => { results := [.lit (.bool true)], args := [d], vars := [g1] }
  | _ => none }
def fnZipMoveRow : OpenClaim := { program := "ytiphcamiidggcaagreatdoor", sum := "2a0396aa2a9a2e215ae2010f8df3dc70055386bf75e86abcbe787b0efb004125", func := "loop.example/corbel/laws.FnZipMove", spec := "fnZipMove", inPlace := ["internal/bytealg.CountString", "internal/bytealg.IndexByteString", "internal/bytealg.IndexString", "internal/abi.NoEscape", "internal/bytealg.MakeNoZero"], unfollowed := true, recurses := true, named := ["unicode/utf8.first", "unicode/utf8.acceptRanges", "internal/bytealg.MaxLen", "loop.example/corbel/impl.order"], plainKeys := false, apart := false, laid := [("unicode/utf8.acceptRanges", laid_unicode_utf8_acceptRanges), ("loop.example/corbel/impl.order", laid_loop_example_corbel_impl_order), ("unicode/utf8.first", laid_unicode_utf8_first)] }
def FnZipMoveSaid : Prop := fnZipMoveRow.holds Tryz.pinned (OpenSpec.ofChange fnZipMoveSpec)

/-- ITS FALSE NEIGHBOUR: 'it returns false'. Refute it at one input. -/
def fnZipMoveWrong : ChangeSpec := { name := "fnZipMove", vars := ["loop.example/corbel/impl.order"], fn := fun _ => fun
  | [d, g1] => { results := [.lit (.bool false)], args := [d], vars := [g1] }
  | _ => none }
def FnZipMoveWrongFalsely : Prop := fnZipMoveRow.holds Tryz.pinned (OpenSpec.ofChange fnZipMoveWrong)

/-- 'laws.FnZipTwice': WHATEVER THE INPUT: true; the input reads as it did. -/
def fnZipTwiceSpec : ChangeSpec := { name := "fnZipTwice", vars := ["loop.example/corbel/impl.order"], fn := fun _ => fun
  | [d1, d2, g1] => { results := [.lit (.bool true)], args := [d1, d2], vars := [g1] }
  | _ => none }
def fnZipTwiceRow : OpenClaim := { program := "ytiphcamiidggcaagreatdoor", sum := "2a0396aa2a9a2e215ae2010f8df3dc70055386bf75e86abcbe787b0efb004125", func := "loop.example/corbel/laws.FnZipTwice", spec := "fnZipTwice", inPlace := ["internal/bytealg.CountString", "internal/bytealg.IndexByteString", "internal/bytealg.IndexString", "internal/abi.NoEscape", "internal/bytealg.MakeNoZero"], unfollowed := true, recurses := true, named := ["unicode/utf8.first", "unicode/utf8.acceptRanges", "internal/bytealg.MaxLen", "loop.example/corbel/impl.order"], plainKeys := false, apart := false, laid := [("unicode/utf8.acceptRanges", laid_unicode_utf8_acceptRanges), ("loop.example/corbel/impl.order", laid_loop_example_corbel_impl_order), ("unicode/utf8.first", laid_unicode_utf8_first)] }
def FnZipTwiceSaid : Prop := fnZipTwiceRow.holds Tryz.pinned (OpenSpec.ofChange fnZipTwiceSpec)

/-- ITS FALSE NEIGHBOUR: 'it returns false'. Refute it at one input. -/
def fnZipTwiceWrong : ChangeSpec := { name := "fnZipTwice", vars := ["loop.example/corbel/impl.order"], fn := fun _ => fun
  | [d1, d2, g1] => { results := [.lit (.bool false)], args := [d1, d2], vars := [g1] }
  | _ => none }
def FnZipTwiceWrongFalsely : Prop := fnZipTwiceRow.holds Tryz.pinned (OpenSpec.ofChange fnZipTwiceWrong)

/-- 'laws.FnZipSwap': WHATEVER THE INPUT: true; the input reads as it did. -/
def fnZipSwapSpec : ChangeSpec := { name := "fnZipSwap", vars := ["loop.example/corbel/impl.order"], fn := fun _ => fun
  | [d, g1] => { results := [.lit (.bool true)], args := [d], vars := [g1] }
  | _ => none }
def fnZipSwapRow : OpenClaim := { program := "ytiphcamiidggcaagreatdoor", sum := "2a0396aa2a9a2e215ae2010f8df3dc70055386bf75e86abcbe787b0efb004125", func := "loop.example/corbel/laws.FnZipSwap", spec := "fnZipSwap", inPlace := ["internal/bytealg.CountString", "internal/bytealg.IndexByteString", "internal/bytealg.IndexString", "internal/abi.NoEscape", "internal/bytealg.MakeNoZero"], unfollowed := true, recurses := true, named := ["unicode/utf8.first", "unicode/utf8.acceptRanges", "internal/bytealg.MaxLen", "loop.example/corbel/impl.order"], plainKeys := false, apart := false, laid := [("unicode/utf8.acceptRanges", laid_unicode_utf8_acceptRanges), ("loop.example/corbel/impl.order", laid_loop_example_corbel_impl_order), ("unicode/utf8.first", laid_unicode_utf8_first)] }
def FnZipSwapSaid : Prop := fnZipSwapRow.holds Tryz.pinned (OpenSpec.ofChange fnZipSwapSpec)

/-- ITS FALSE NEIGHBOUR: 'it returns false'. Refute it at one input. -/
def fnZipSwapWrong : ChangeSpec := { name := "fnZipSwap", vars := ["loop.example/corbel/impl.order"], fn := fun _ => fun
  | [d, g1] => { results := [.lit (.bool false)], args := [d], vars := [g1] }
  | _ => none }
def FnZipSwapWrongFalsely : Prop := fnZipSwapRow.holds Tryz.pinned (OpenSpec.ofChange fnZipSwapWrong)

/-- 'laws.FnZipAdd': WHATEVER THE INPUT: true; the input reads as it did. -/
def fnZipAddSpec : ChangeSpec := { name := "fnZipAdd", vars := ["loop.example/corbel/impl.order"], fn := fun _ => fun
  | [d, g1] => { results := [.lit (.bool true)], args := [d], vars := [g1] }
  | _ => none }
def fnZipAddRow : OpenClaim := { program := "ytiphcamiidggcaagreatdoor", sum := "2a0396aa2a9a2e215ae2010f8df3dc70055386bf75e86abcbe787b0efb004125", func := "loop.example/corbel/laws.FnZipAdd", spec := "fnZipAdd", inPlace := ["internal/bytealg.CountString", "internal/bytealg.IndexByteString", "internal/bytealg.IndexString", "internal/abi.NoEscape", "internal/bytealg.MakeNoZero"], unfollowed := true, recurses := true, named := ["unicode/utf8.first", "unicode/utf8.acceptRanges", "internal/bytealg.MaxLen", "loop.example/corbel/impl.order"], plainKeys := false, apart := false, laid := [("unicode/utf8.acceptRanges", laid_unicode_utf8_acceptRanges), ("loop.example/corbel/impl.order", laid_loop_example_corbel_impl_order), ("unicode/utf8.first", laid_unicode_utf8_first)] }
def FnZipAddSaid : Prop := fnZipAddRow.holds Tryz.pinned (OpenSpec.ofChange fnZipAddSpec)

/-- ITS FALSE NEIGHBOUR: 'it returns false'. Refute it at one input. -/
def fnZipAddWrong : ChangeSpec := { name := "fnZipAdd", vars := ["loop.example/corbel/impl.order"], fn := fun _ => fun
  | [d, g1] => { results := [.lit (.bool false)], args := [d], vars := [g1] }
  | _ => none }
def FnZipAddWrongFalsely : Prop := fnZipAddRow.holds Tryz.pinned (OpenSpec.ofChange fnZipAddWrong)

/-- 'laws.FnTreeZip': WHATEVER THE INPUT: true; the input reads as it did. -/
def fnTreeZipSpec : ChangeSpec := { name := "fnTreeZip", vars := ["loop.example/corbel/impl.order"], fn := fun _ => fun
  | [d, g1] => { results := [.lit (.bool true)], args := [d], vars := [g1] }
  | _ => none }
def fnTreeZipRow : OpenClaim := { program := "ytiphcamiidggcaagreatdoor", sum := "2a0396aa2a9a2e215ae2010f8df3dc70055386bf75e86abcbe787b0efb004125", func := "loop.example/corbel/laws.FnTreeZip", spec := "fnTreeZip", inPlace := ["internal/bytealg.CountString", "internal/bytealg.IndexByteString", "internal/bytealg.IndexString", "internal/abi.NoEscape", "internal/bytealg.MakeNoZero"], unfollowed := true, recurses := true, named := ["unicode/utf8.first", "unicode/utf8.acceptRanges", "internal/bytealg.MaxLen", "loop.example/corbel/impl.order"], plainKeys := false, apart := false, laid := [("unicode/utf8.acceptRanges", laid_unicode_utf8_acceptRanges), ("loop.example/corbel/impl.order", laid_loop_example_corbel_impl_order), ("unicode/utf8.first", laid_unicode_utf8_first)] }
def FnTreeZipSaid : Prop := fnTreeZipRow.holds Tryz.pinned (OpenSpec.ofChange fnTreeZipSpec)

/-- ITS FALSE NEIGHBOUR: 'it returns false'. Refute it at one input. -/
def fnTreeZipWrong : ChangeSpec := { name := "fnTreeZip", vars := ["loop.example/corbel/impl.order"], fn := fun _ => fun
  | [d, g1] => { results := [.lit (.bool false)], args := [d], vars := [g1] }
  | _ => none }
def FnTreeZipWrongFalsely : Prop := fnTreeZipRow.holds Tryz.pinned (OpenSpec.ofChange fnTreeZipWrong)

/-- 'laws.FnTreeBack': WHATEVER THE INPUT: true; the input reads as it did. -/
def fnTreeBackSpec : ChangeSpec := { name := "fnTreeBack", vars := ["loop.example/corbel/impl.order"], fn := fun _ => fun
  | [d, g1] => { results := [.lit (.bool true)], args := [d], vars := [g1] }
  | _ => none }
def fnTreeBackRow : OpenClaim := { program := "ytiphcamiidggcaagreatdoor", sum := "2a0396aa2a9a2e215ae2010f8df3dc70055386bf75e86abcbe787b0efb004125", func := "loop.example/corbel/laws.FnTreeBack", spec := "fnTreeBack", inPlace := ["internal/bytealg.CountString", "internal/bytealg.IndexByteString", "internal/bytealg.IndexString", "internal/abi.NoEscape", "internal/bytealg.MakeNoZero"], unfollowed := true, recurses := true, named := ["unicode/utf8.first", "unicode/utf8.acceptRanges", "internal/bytealg.MaxLen", "loop.example/corbel/impl.order"], plainKeys := false, apart := false, laid := [("unicode/utf8.acceptRanges", laid_unicode_utf8_acceptRanges), ("loop.example/corbel/impl.order", laid_loop_example_corbel_impl_order), ("unicode/utf8.first", laid_unicode_utf8_first)] }
def FnTreeBackSaid : Prop := fnTreeBackRow.holds Tryz.pinned (OpenSpec.ofChange fnTreeBackSpec)

/-- ITS FALSE NEIGHBOUR: 'it returns false'. Refute it at one input. -/
def fnTreeBackWrong : ChangeSpec := { name := "fnTreeBack", vars := ["loop.example/corbel/impl.order"], fn := fun _ => fun
  | [d, g1] => { results := [.lit (.bool false)], args := [d], vars := [g1] }
  | _ => none }
def FnTreeBackWrongFalsely : Prop := fnTreeBackRow.holds Tryz.pinned (OpenSpec.ofChange fnTreeBackWrong)

/-- 'laws.FnTreeTake': WHATEVER THE INPUT: true; the input reads as it did. -/
def fnTreeTakeSpec : ChangeSpec := { name := "fnTreeTake", vars := ["loop.example/corbel/impl.order"], fn := fun _ => fun
  | [d, g1] => { results := [.lit (.bool true)], args := [d], vars := [g1] }
  | _ => none }
def fnTreeTakeRow : OpenClaim := { program := "ytiphcamiidggcaagreatdoor", sum := "2a0396aa2a9a2e215ae2010f8df3dc70055386bf75e86abcbe787b0efb004125", func := "loop.example/corbel/laws.FnTreeTake", spec := "fnTreeTake", inPlace := ["internal/bytealg.CountString", "internal/bytealg.IndexByteString", "internal/bytealg.IndexString"], unfollowed := true, recurses := true, named := ["loop.example/corbel/impl.order", "unicode/utf8.first", "unicode/utf8.acceptRanges", "internal/bytealg.MaxLen"], plainKeys := false, apart := false, laid := [("unicode/utf8.acceptRanges", laid_unicode_utf8_acceptRanges), ("loop.example/corbel/impl.order", laid_loop_example_corbel_impl_order), ("unicode/utf8.first", laid_unicode_utf8_first)] }
def FnTreeTakeSaid : Prop := fnTreeTakeRow.holds Tryz.pinned (OpenSpec.ofChange fnTreeTakeSpec)

/-- ITS FALSE NEIGHBOUR: 'it returns false'. Refute it at one input. -/
def fnTreeTakeWrong : ChangeSpec := { name := "fnTreeTake", vars := ["loop.example/corbel/impl.order"], fn := fun _ => fun
  | [d, g1] => { results := [.lit (.bool false)], args := [d], vars := [g1] }
  | _ => none }
def FnTreeTakeWrongFalsely : Prop := fnTreeTakeRow.holds Tryz.pinned (OpenSpec.ofChange fnTreeTakeWrong)

/-- 'laws.FnDiskNone': WHATEVER THE INPUT: true; the input reads as it did. -/
def fnDiskNoneSpec : ChangeSpec := { name := "fnDiskNone", vars := ["loop.example/corbel/impl.order"], fn := fun _ => fun
  | [d, g1] => { results := [.lit (.bool true)], args := [d], vars := [g1] }
  | _ => none }
def fnDiskNoneRow : OpenClaim := { program := "ytiphcamiidggcaagreatdoor", sum := "2a0396aa2a9a2e215ae2010f8df3dc70055386bf75e86abcbe787b0efb004125", func := "loop.example/corbel/laws.FnDiskNone", spec := "fnDiskNone", inPlace := ["internal/bytealg.CountString", "internal/bytealg.IndexByteString", "internal/bytealg.IndexString", "internal/abi.NoEscape", "internal/bytealg.MakeNoZero"], recurses := true, named := ["loop.example/corbel/impl.order", "unicode/utf8.first", "unicode/utf8.acceptRanges", "internal/bytealg.MaxLen", "internal/strconv.uint64pow10", "math/bits.deBruijn32tab", "math/bits.deBruijn64tab"], plainKeys := false, apart := false, laid := [("math/bits.deBruijn32tab", laid_math_bits_deBruijn32tab), ("math/bits.deBruijn64tab", laid_math_bits_deBruijn64tab), ("internal/strconv.uint64pow10", laid_internal_strconv_uint64pow10), ("unicode/utf8.acceptRanges", laid_unicode_utf8_acceptRanges), ("loop.example/corbel/impl.order", laid_loop_example_corbel_impl_order), ("unicode/utf8.first", laid_unicode_utf8_first)] }
def FnDiskNoneSaid : Prop := fnDiskNoneRow.holds Tryz.pinned (OpenSpec.ofChange fnDiskNoneSpec)

/-- ITS FALSE NEIGHBOUR: 'it returns false'. Refute it at one input. -/
def fnDiskNoneWrong : ChangeSpec := { name := "fnDiskNone", vars := ["loop.example/corbel/impl.order"], fn := fun _ => fun
  | [d, g1] => { results := [.lit (.bool false)], args := [d], vars := [g1] }
  | _ => none }
def FnDiskNoneWrongFalsely : Prop := fnDiskNoneRow.holds Tryz.pinned (OpenSpec.ofChange fnDiskNoneWrong)

/- THE SECOND FORM. 'bulk': how many values and letters a reading holds, each counted each time it is reached (what is shared counts as often as it is met; a slice's spare places count too). A statement '..UptoSaid' is the law's where the arguments, and the package variables that the reading takes, are together of bulk at most 1048576: NARROWER than '..Said'. Prove '..Said' where nothing that the law and all that it calls make is longer than what came in: it says more and counts as full. Else prove '..UptoSaid'. A law counts once. -/
mutual
def uptoBulk {H : Type} : DataW H → Nat
  | .lit (.string bytes) => bytes.length + 1
  | .lit _ => 1
  | .nil => 1
  | .ptr d => uptoBulk d + 1
  | .slice elems spare => uptoBulkAll elems + uptoBulkAll spare + 1
  | .agg parts => uptoBulkAll parts + 1
  | .iface _ d => uptoBulk d + 1
  | .map entries => uptoBulkEntries entries + 1
  | .held _ => 1
def uptoBulkAll {H : Type} : List (DataW H) → Nat
  | [] => 0
  | d :: r => uptoBulk d + uptoBulkAll r
def uptoBulkEntries {H : Type} : List (Lit × DataW H) → Nat
  | [] => 0
  | x :: r => uptoBulkEntry x + uptoBulkEntries r
def uptoBulkEntry {H : Type} : Lit × DataW H → Nat
  | (.string bytes, d) => bytes.length + uptoBulk d + 1
  | (_, d) => uptoBulk d + 1
 end
def uptoSmall : (H : Type) → List (DataW H) → Bool := fun _ ds => decide (uptoBulkAll ds ≤ 1048576)
def OpenSpec.upto (s : _root_.Go.ChangeSpec) : _root_.Go.OpenSpec := { _root_.Go.OpenSpec.ofChange s with cond := some uptoSmall }

/-- 'laws.FnExactTreeTake', WHERE WHAT IT READS IS OF BULK AT MOST 1048576: true; the input reads as it did. -/
def fnExactTreeTakeUptoRow : OpenClaim := { program := "ytiphcamiidggcaagreatdoor", sum := "2a0396aa2a9a2e215ae2010f8df3dc70055386bf75e86abcbe787b0efb004125", func := "loop.example/corbel/laws.FnExactTreeTake", spec := "fnExactTreeTake", inPlace := ["internal/bytealg.CountString", "internal/bytealg.IndexByteString", "internal/bytealg.IndexString"], unfollowed := true, recurses := true, named := ["loop.example/corbel/impl.order", "unicode/utf8.first", "unicode/utf8.acceptRanges", "internal/bytealg.MaxLen"], plainKeys := false, apart := false, laid := [("unicode/utf8.acceptRanges", laid_unicode_utf8_acceptRanges), ("loop.example/corbel/impl.order", laid_loop_example_corbel_impl_order), ("unicode/utf8.first", laid_unicode_utf8_first)], narrowed := true }
def FnExactTreeTakeUptoSaid : Prop := fnExactTreeTakeUptoRow.holds Tryz.pinned (OpenSpec.upto fnExactTreeTakeSpec)

/-- 'laws.FnZipJoinOne', WHERE WHAT IT READS IS OF BULK AT MOST 1048576: true; the input reads as it did. -/
def fnZipJoinOneUptoRow : OpenClaim := { program := "ytiphcamiidggcaagreatdoor", sum := "2a0396aa2a9a2e215ae2010f8df3dc70055386bf75e86abcbe787b0efb004125", func := "loop.example/corbel/laws.FnZipJoinOne", spec := "fnZipJoinOne", inPlace := ["internal/bytealg.CountString", "internal/bytealg.IndexByteString", "internal/bytealg.IndexString", "internal/abi.NoEscape", "internal/bytealg.MakeNoZero"], unfollowed := true, recurses := true, named := ["loop.example/corbel/impl.order", "unicode/utf8.first", "unicode/utf8.acceptRanges", "internal/bytealg.MaxLen"], plainKeys := false, apart := false, laid := [("unicode/utf8.acceptRanges", laid_unicode_utf8_acceptRanges), ("loop.example/corbel/impl.order", laid_loop_example_corbel_impl_order), ("unicode/utf8.first", laid_unicode_utf8_first)], narrowed := true }
def FnZipJoinOneUptoSaid : Prop := fnZipJoinOneUptoRow.holds Tryz.pinned (OpenSpec.upto fnZipJoinOneSpec)

/-- 'laws.FnZipJoin', WHERE WHAT IT READS IS OF BULK AT MOST 1048576: true; the input reads as it did. -/
def fnZipJoinUptoRow : OpenClaim := { program := "ytiphcamiidggcaagreatdoor", sum := "2a0396aa2a9a2e215ae2010f8df3dc70055386bf75e86abcbe787b0efb004125", func := "loop.example/corbel/laws.FnZipJoin", spec := "fnZipJoin", inPlace := ["internal/bytealg.CountString", "internal/bytealg.IndexByteString", "internal/bytealg.IndexString", "internal/abi.NoEscape", "internal/bytealg.MakeNoZero"], unfollowed := true, recurses := true, named := ["loop.example/corbel/impl.order", "unicode/utf8.first", "unicode/utf8.acceptRanges", "internal/bytealg.MaxLen"], plainKeys := false, apart := false, laid := [("unicode/utf8.acceptRanges", laid_unicode_utf8_acceptRanges), ("loop.example/corbel/impl.order", laid_loop_example_corbel_impl_order), ("unicode/utf8.first", laid_unicode_utf8_first)], narrowed := true }
def FnZipJoinUptoSaid : Prop := fnZipJoinUptoRow.holds Tryz.pinned (OpenSpec.upto fnZipJoinSpec)

/-- 'laws.FnZipDrop', WHERE WHAT IT READS IS OF BULK AT MOST 1048576: true; the input reads as it did. -/
def fnZipDropUptoRow : OpenClaim := { program := "ytiphcamiidggcaagreatdoor", sum := "2a0396aa2a9a2e215ae2010f8df3dc70055386bf75e86abcbe787b0efb004125", func := "loop.example/corbel/laws.FnZipDrop", spec := "fnZipDrop", inPlace := ["internal/bytealg.CountString", "internal/bytealg.IndexByteString", "internal/bytealg.IndexString", "internal/abi.NoEscape", "internal/bytealg.MakeNoZero"], unfollowed := true, recurses := true, named := ["loop.example/corbel/impl.order", "unicode/utf8.first", "unicode/utf8.acceptRanges", "internal/bytealg.MaxLen"], plainKeys := false, apart := false, laid := [("unicode/utf8.acceptRanges", laid_unicode_utf8_acceptRanges), ("loop.example/corbel/impl.order", laid_loop_example_corbel_impl_order), ("unicode/utf8.first", laid_unicode_utf8_first)], narrowed := true }
def FnZipDropUptoSaid : Prop := fnZipDropUptoRow.holds Tryz.pinned (OpenSpec.upto fnZipDropSpec)

/-- 'laws.FnZipMove', WHERE WHAT IT READS IS OF BULK AT MOST 1048576: true; the input reads as it did. -/
def fnZipMoveUptoRow : OpenClaim := { program := "ytiphcamiidggcaagreatdoor", sum := "2a0396aa2a9a2e215ae2010f8df3dc70055386bf75e86abcbe787b0efb004125", func := "loop.example/corbel/laws.FnZipMove", spec := "fnZipMove", inPlace := ["internal/bytealg.CountString", "internal/bytealg.IndexByteString", "internal/bytealg.IndexString", "internal/abi.NoEscape", "internal/bytealg.MakeNoZero"], unfollowed := true, recurses := true, named := ["unicode/utf8.first", "unicode/utf8.acceptRanges", "internal/bytealg.MaxLen", "loop.example/corbel/impl.order"], plainKeys := false, apart := false, laid := [("unicode/utf8.acceptRanges", laid_unicode_utf8_acceptRanges), ("loop.example/corbel/impl.order", laid_loop_example_corbel_impl_order), ("unicode/utf8.first", laid_unicode_utf8_first)], narrowed := true }
def FnZipMoveUptoSaid : Prop := fnZipMoveUptoRow.holds Tryz.pinned (OpenSpec.upto fnZipMoveSpec)

/-- 'laws.FnZipTwice', WHERE WHAT IT READS IS OF BULK AT MOST 1048576: true; the input reads as it did. -/
def fnZipTwiceUptoRow : OpenClaim := { program := "ytiphcamiidggcaagreatdoor", sum := "2a0396aa2a9a2e215ae2010f8df3dc70055386bf75e86abcbe787b0efb004125", func := "loop.example/corbel/laws.FnZipTwice", spec := "fnZipTwice", inPlace := ["internal/bytealg.CountString", "internal/bytealg.IndexByteString", "internal/bytealg.IndexString", "internal/abi.NoEscape", "internal/bytealg.MakeNoZero"], unfollowed := true, recurses := true, named := ["unicode/utf8.first", "unicode/utf8.acceptRanges", "internal/bytealg.MaxLen", "loop.example/corbel/impl.order"], plainKeys := false, apart := false, laid := [("unicode/utf8.acceptRanges", laid_unicode_utf8_acceptRanges), ("loop.example/corbel/impl.order", laid_loop_example_corbel_impl_order), ("unicode/utf8.first", laid_unicode_utf8_first)], narrowed := true }
def FnZipTwiceUptoSaid : Prop := fnZipTwiceUptoRow.holds Tryz.pinned (OpenSpec.upto fnZipTwiceSpec)

/-- 'laws.FnZipSwap', WHERE WHAT IT READS IS OF BULK AT MOST 1048576: true; the input reads as it did. -/
def fnZipSwapUptoRow : OpenClaim := { program := "ytiphcamiidggcaagreatdoor", sum := "2a0396aa2a9a2e215ae2010f8df3dc70055386bf75e86abcbe787b0efb004125", func := "loop.example/corbel/laws.FnZipSwap", spec := "fnZipSwap", inPlace := ["internal/bytealg.CountString", "internal/bytealg.IndexByteString", "internal/bytealg.IndexString", "internal/abi.NoEscape", "internal/bytealg.MakeNoZero"], unfollowed := true, recurses := true, named := ["unicode/utf8.first", "unicode/utf8.acceptRanges", "internal/bytealg.MaxLen", "loop.example/corbel/impl.order"], plainKeys := false, apart := false, laid := [("unicode/utf8.acceptRanges", laid_unicode_utf8_acceptRanges), ("loop.example/corbel/impl.order", laid_loop_example_corbel_impl_order), ("unicode/utf8.first", laid_unicode_utf8_first)], narrowed := true }
def FnZipSwapUptoSaid : Prop := fnZipSwapUptoRow.holds Tryz.pinned (OpenSpec.upto fnZipSwapSpec)

/-- 'laws.FnZipAdd', WHERE WHAT IT READS IS OF BULK AT MOST 1048576: true; the input reads as it did. -/
def fnZipAddUptoRow : OpenClaim := { program := "ytiphcamiidggcaagreatdoor", sum := "2a0396aa2a9a2e215ae2010f8df3dc70055386bf75e86abcbe787b0efb004125", func := "loop.example/corbel/laws.FnZipAdd", spec := "fnZipAdd", inPlace := ["internal/bytealg.CountString", "internal/bytealg.IndexByteString", "internal/bytealg.IndexString", "internal/abi.NoEscape", "internal/bytealg.MakeNoZero"], unfollowed := true, recurses := true, named := ["unicode/utf8.first", "unicode/utf8.acceptRanges", "internal/bytealg.MaxLen", "loop.example/corbel/impl.order"], plainKeys := false, apart := false, laid := [("unicode/utf8.acceptRanges", laid_unicode_utf8_acceptRanges), ("loop.example/corbel/impl.order", laid_loop_example_corbel_impl_order), ("unicode/utf8.first", laid_unicode_utf8_first)], narrowed := true }
def FnZipAddUptoSaid : Prop := fnZipAddUptoRow.holds Tryz.pinned (OpenSpec.upto fnZipAddSpec)

/-- 'laws.FnTreeZip', WHERE WHAT IT READS IS OF BULK AT MOST 1048576: true; the input reads as it did. -/
def fnTreeZipUptoRow : OpenClaim := { program := "ytiphcamiidggcaagreatdoor", sum := "2a0396aa2a9a2e215ae2010f8df3dc70055386bf75e86abcbe787b0efb004125", func := "loop.example/corbel/laws.FnTreeZip", spec := "fnTreeZip", inPlace := ["internal/bytealg.CountString", "internal/bytealg.IndexByteString", "internal/bytealg.IndexString", "internal/abi.NoEscape", "internal/bytealg.MakeNoZero"], unfollowed := true, recurses := true, named := ["unicode/utf8.first", "unicode/utf8.acceptRanges", "internal/bytealg.MaxLen", "loop.example/corbel/impl.order"], plainKeys := false, apart := false, laid := [("unicode/utf8.acceptRanges", laid_unicode_utf8_acceptRanges), ("loop.example/corbel/impl.order", laid_loop_example_corbel_impl_order), ("unicode/utf8.first", laid_unicode_utf8_first)], narrowed := true }
def FnTreeZipUptoSaid : Prop := fnTreeZipUptoRow.holds Tryz.pinned (OpenSpec.upto fnTreeZipSpec)

/-- 'laws.FnTreeBack', WHERE WHAT IT READS IS OF BULK AT MOST 1048576: true; the input reads as it did. -/
def fnTreeBackUptoRow : OpenClaim := { program := "ytiphcamiidggcaagreatdoor", sum := "2a0396aa2a9a2e215ae2010f8df3dc70055386bf75e86abcbe787b0efb004125", func := "loop.example/corbel/laws.FnTreeBack", spec := "fnTreeBack", inPlace := ["internal/bytealg.CountString", "internal/bytealg.IndexByteString", "internal/bytealg.IndexString", "internal/abi.NoEscape", "internal/bytealg.MakeNoZero"], unfollowed := true, recurses := true, named := ["unicode/utf8.first", "unicode/utf8.acceptRanges", "internal/bytealg.MaxLen", "loop.example/corbel/impl.order"], plainKeys := false, apart := false, laid := [("unicode/utf8.acceptRanges", laid_unicode_utf8_acceptRanges), ("loop.example/corbel/impl.order", laid_loop_example_corbel_impl_order), ("unicode/utf8.first", laid_unicode_utf8_first)], narrowed := true }
def FnTreeBackUptoSaid : Prop := fnTreeBackUptoRow.holds Tryz.pinned (OpenSpec.upto fnTreeBackSpec)

/-- 'laws.FnTreeTake', WHERE WHAT IT READS IS OF BULK AT MOST 1048576: true; the input reads as it did. -/
def fnTreeTakeUptoRow : OpenClaim := { program := "ytiphcamiidggcaagreatdoor", sum := "2a0396aa2a9a2e215ae2010f8df3dc70055386bf75e86abcbe787b0efb004125", func := "loop.example/corbel/laws.FnTreeTake", spec := "fnTreeTake", inPlace := ["internal/bytealg.CountString", "internal/bytealg.IndexByteString", "internal/bytealg.IndexString"], unfollowed := true, recurses := true, named := ["loop.example/corbel/impl.order", "unicode/utf8.first", "unicode/utf8.acceptRanges", "internal/bytealg.MaxLen"], plainKeys := false, apart := false, laid := [("unicode/utf8.acceptRanges", laid_unicode_utf8_acceptRanges), ("loop.example/corbel/impl.order", laid_loop_example_corbel_impl_order), ("unicode/utf8.first", laid_unicode_utf8_first)], narrowed := true }
def FnTreeTakeUptoSaid : Prop := fnTreeTakeUptoRow.holds Tryz.pinned (OpenSpec.upto fnTreeTakeSpec)

/-- 'laws.FnDiskNone', WHERE WHAT IT READS IS OF BULK AT MOST 1048576: true; the input reads as it did. -/
def fnDiskNoneUptoRow : OpenClaim := { program := "ytiphcamiidggcaagreatdoor", sum := "2a0396aa2a9a2e215ae2010f8df3dc70055386bf75e86abcbe787b0efb004125", func := "loop.example/corbel/laws.FnDiskNone", spec := "fnDiskNone", inPlace := ["internal/bytealg.CountString", "internal/bytealg.IndexByteString", "internal/bytealg.IndexString", "internal/abi.NoEscape", "internal/bytealg.MakeNoZero"], recurses := true, named := ["loop.example/corbel/impl.order", "unicode/utf8.first", "unicode/utf8.acceptRanges", "internal/bytealg.MaxLen", "internal/strconv.uint64pow10", "math/bits.deBruijn32tab", "math/bits.deBruijn64tab"], plainKeys := false, apart := false, laid := [("math/bits.deBruijn32tab", laid_math_bits_deBruijn32tab), ("math/bits.deBruijn64tab", laid_math_bits_deBruijn64tab), ("internal/strconv.uint64pow10", laid_internal_strconv_uint64pow10), ("unicode/utf8.acceptRanges", laid_unicode_utf8_acceptRanges), ("loop.example/corbel/impl.order", laid_loop_example_corbel_impl_order), ("unicode/utf8.first", laid_unicode_utf8_first)], narrowed := true }
def FnDiskNoneUptoSaid : Prop := fnDiskNoneUptoRow.holds Tryz.pinned (OpenSpec.upto fnDiskNoneSpec)

end Rows
end Go.Proofs.YtiphcamiidggcaaGreatDoor
