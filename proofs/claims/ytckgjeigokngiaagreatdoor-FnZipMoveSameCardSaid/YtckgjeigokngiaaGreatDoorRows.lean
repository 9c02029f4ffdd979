/-
  NARROWER THAN 'FOR EVERY INPUT', by the rows' own cells (each row's printed sentence says how): FnZipNone: laid · FnExactDiskOk: laid · FnZipUnder: laid · FnZipFull: laid · FnSessionLong: laid · FnZipJoinSelf: laid · FnZipMoveSame: laid · FnZipDropAll: laid · FnExactTreeZip: laid · FnExactZipPut: laid · FnSessionLook: laid · FnExactDiskNew: laid.
  DERIVED. THE GIVEN ROWS OF THIS SEAT. 12 by the template 'for every input the law returns true; each argument reads behind the call as it read before'; 0 by the template 'total and deterministic' (their statements: YtckgjeigokngiaaGreatDoorTotals.lean).
  GIVEN WITH THE SEED: the statements are not yours to turn. If you find one false, say at which input.
  Laid BY PROGRAM, IN A SANDBOX (cutbox-rows.mjs): the forced cells as the released guide's own fill.sh prints them over the translation aa567d2e9953d004… (all of the seat's roots in one cut). By AI agents, Wed Nov 11 2026. No macro, syntax, notation, axiom, sorry.
-/
import Derived.Test.YtckgjeigokngiaaGreatDoorChecked
import GoSem.PinnedTables
import GoSem.Claim
import GoSem.ClaimJoined
import GoSem.ClaimMapViews
import Derived.JoinedTies
import Derived.KernelRfl
namespace Go.Proofs.YtckgjeigokngiaaGreatDoor
/- THE CELL 'sum', in the pinned program and in every row, IS THE sha256 OF THE DUMP (.gsa) THAT YtckgjeigokngiaaGreatDoorProg.lean LOADS. Nothing in Lean hashes anything: it is a label: what it is worth is what the hold of that sum in a sandbox is worth. -/
noncomputable def Tryz.pinned : Pinned := { name := "ytckgjeigokngiaagreatdoor", sum := "aa567d2e9953d0042d43aba00be85927f50a446da730224ec7ae348ad025c033", checked := Tryz.checked }
namespace Rows
def none {H : Type} : Left H := { results := [], args := [] }

/- WHAT THE LISTED PACKAGE-LEVEL VARIABLES READ AS WHEN THE CALL BEGINS. Each datum BY PROGRAM (the guide's laid-datum.mjs) off the statement by which the dump's own 'gosem.cut.vars' lays the variable. In a bare row this is a premise. The card (YtckgjeigokngiaaGreatDoorCards.lean) ties it to the program's text. -/
def laid_unicode_utf8_acceptRanges {H : Type} : DataW H := .agg [.agg [.lit (.int .u8 128), .lit (.int .u8 191)], .agg [.lit (.int .u8 160), .lit (.int .u8 191)], .agg [.lit (.int .u8 128), .lit (.int .u8 159)], .agg [.lit (.int .u8 144), .lit (.int .u8 191)], .agg [.lit (.int .u8 128), .lit (.int .u8 143)], .agg [.lit (.int .u8 0), .lit (.int .u8 0)], .agg [.lit (.int .u8 0), .lit (.int .u8 0)], .agg [.lit (.int .u8 0), .lit (.int .u8 0)], .agg [.lit (.int .u8 0), .lit (.int .u8 0)], .agg [.lit (.int .u8 0), .lit (.int .u8 0)], .agg [.lit (.int .u8 0), .lit (.int .u8 0)], .agg [.lit (.int .u8 0), .lit (.int .u8 0)], .agg [.lit (.int .u8 0), .lit (.int .u8 0)], .agg [.lit (.int .u8 0), .lit (.int .u8 0)], .agg [.lit (.int .u8 0), .lit (.int .u8 0)], .agg [.lit (.int .u8 0), .lit (.int .u8 0)]]
def laid_loop_example_corbel_impl_order {H : Type} : DataW H := .slice [.lit (.int .i64 16), .lit (.int .i64 17), .lit (.int .i64 18), .lit (.int .i64 0), .lit (.int .i64 8), .lit (.int .i64 7), .lit (.int .i64 9), .lit (.int .i64 6), .lit (.int .i64 10), .lit (.int .i64 5), .lit (.int .i64 11), .lit (.int .i64 4), .lit (.int .i64 12), .lit (.int .i64 3), .lit (.int .i64 13), .lit (.int .i64 2), .lit (.int .i64 14), .lit (.int .i64 1), .lit (.int .i64 15)] []
/-- One of Go's own tables, pinned by name: the form's constant. -/
def laid_unicode_utf8_first : DataW Unit := Go.Pinned.utf8First
def laid_math_bits_deBruijn32tab {H : Type} : DataW H := .agg [.lit (.int .u8 0), .lit (.int .u8 1), .lit (.int .u8 28), .lit (.int .u8 2), .lit (.int .u8 29), .lit (.int .u8 14), .lit (.int .u8 24), .lit (.int .u8 3), .lit (.int .u8 30), .lit (.int .u8 22), .lit (.int .u8 20), .lit (.int .u8 15), .lit (.int .u8 25), .lit (.int .u8 17), .lit (.int .u8 4), .lit (.int .u8 8), .lit (.int .u8 31), .lit (.int .u8 27), .lit (.int .u8 13), .lit (.int .u8 23), .lit (.int .u8 21), .lit (.int .u8 19), .lit (.int .u8 16), .lit (.int .u8 7), .lit (.int .u8 26), .lit (.int .u8 12), .lit (.int .u8 18), .lit (.int .u8 6), .lit (.int .u8 11), .lit (.int .u8 5), .lit (.int .u8 10), .lit (.int .u8 9)]
def laid_math_bits_deBruijn64tab {H : Type} : DataW H := .agg [.lit (.int .u8 0), .lit (.int .u8 1), .lit (.int .u8 56), .lit (.int .u8 2), .lit (.int .u8 57), .lit (.int .u8 49), .lit (.int .u8 28), .lit (.int .u8 3), .lit (.int .u8 61), .lit (.int .u8 58), .lit (.int .u8 42), .lit (.int .u8 50), .lit (.int .u8 38), .lit (.int .u8 29), .lit (.int .u8 17), .lit (.int .u8 4), .lit (.int .u8 62), .lit (.int .u8 47), .lit (.int .u8 59), .lit (.int .u8 36), .lit (.int .u8 45), .lit (.int .u8 43), .lit (.int .u8 51), .lit (.int .u8 22), .lit (.int .u8 53), .lit (.int .u8 39), .lit (.int .u8 33), .lit (.int .u8 30), .lit (.int .u8 24), .lit (.int .u8 18), .lit (.int .u8 12), .lit (.int .u8 5), .lit (.int .u8 63), .lit (.int .u8 55), .lit (.int .u8 48), .lit (.int .u8 27), .lit (.int .u8 60), .lit (.int .u8 41), .lit (.int .u8 37), .lit (.int .u8 16), .lit (.int .u8 46), .lit (.int .u8 35), .lit (.int .u8 44), .lit (.int .u8 21), .lit (.int .u8 52), .lit (.int .u8 32), .lit (.int .u8 23), .lit (.int .u8 11), .lit (.int .u8 54), .lit (.int .u8 26), .lit (.int .u8 40), .lit (.int .u8 15), .lit (.int .u8 34), .lit (.int .u8 20), .lit (.int .u8 31), .lit (.int .u8 10), .lit (.int .u8 25), .lit (.int .u8 14), .lit (.int .u8 19), .lit (.int .u8 9), .lit (.int .u8 13), .lit (.int .u8 8), .lit (.int .u8 7), .lit (.int .u8 6)]
def laid_internal_strconv_uint64pow10 {H : Type} : DataW H := .agg [.lit (.int .u64 1), .lit (.int .u64 10), .lit (.int .u64 100), .lit (.int .u64 1000), .lit (.int .u64 10000), .lit (.int .u64 100000), .lit (.int .u64 1000000), .lit (.int .u64 10000000), .lit (.int .u64 100000000), .lit (.int .u64 1000000000), .lit (.int .u64 10000000000), .lit (.int .u64 100000000000), .lit (.int .u64 1000000000000), .lit (.int .u64 10000000000000), .lit (.int .u64 100000000000000), .lit (.int .u64 1000000000000000), .lit (.int .u64 10000000000000000), .lit (.int .u64 100000000000000000), .lit (.int .u64 1000000000000000000), .lit (.int .u64 10000000000000000000)]
def laid_loop_example_corbel_impl_editWords {H : Type} : DataW H := .slice [.lit (.string [102, 105, 110, 101]), .lit (.string [102, 111, 114, 109]), .lit (.string [110, 111, 110, 101]), .lit (.string [116, 119, 105, 99, 101]), .lit (.string [102, 117, 108, 108])] []
def laid_loop_example_corbel_impl_kindWords {H : Type} : DataW H := .slice [.lit (.string [115, 116, 111, 114, 101]), .lit (.string [102, 105, 120, 101, 100]), .lit (.string [111, 119, 110])] []
def laid_loop_example_corbel_impl_first {H : Type} : DataW H := .agg [.lit (.int .i64 2000), .lit (.int .i64 1), .lit (.int .i64 1), .lit (.int .i64 0), .lit (.int .i64 0), .lit (.int .i64 0)]

/-- 'laws.FnZipNone': WHATEVER THE INPUT: true; the input reads as it did. -/
def fnZipNoneSpec : ChangeSpec := { name := "fnZipNone", vars := ["loop.example/corbel/impl.order"], fn := fun _ => fun
  | [d, g1] => { results := [.lit (.bool true)], args := [d], vars := [g1] }
  | _ => none }
def fnZipNoneRow : OpenClaim := { program := "ytckgjeigokngiaagreatdoor", sum := "aa567d2e9953d0042d43aba00be85927f50a446da730224ec7ae348ad025c033", func := "loop.example/corbel/laws.FnZipNone", spec := "fnZipNone", inPlace := ["internal/bytealg.CountString", "internal/bytealg.IndexByteString", "internal/bytealg.IndexString", "internal/abi.NoEscape", "internal/bytealg.MakeNoZero"], unfollowed := true, recurses := true, named := ["unicode/utf8.first", "unicode/utf8.acceptRanges", "internal/bytealg.MaxLen", "loop.example/corbel/impl.order"], plainKeys := false, apart := false, laid := [("unicode/utf8.acceptRanges", laid_unicode_utf8_acceptRanges), ("loop.example/corbel/impl.order", laid_loop_example_corbel_impl_order), ("unicode/utf8.first", laid_unicode_utf8_first)] }
def FnZipNoneSaid : Prop := fnZipNoneRow.holds Tryz.pinned (OpenSpec.ofChange fnZipNoneSpec)

/-- ITS FALSE NEIGHBOUR: 'it returns false'. Refute it at one input. -/
def fnZipNoneWrong : ChangeSpec := { name := "fnZipNone", vars := ["loop.example/corbel/impl.order"], fn := fun _ => fun
  | [d, g1] => { results := [.lit (.bool false)], args := [d], vars := [g1] }
  | _ => none }
def FnZipNoneWrongFalsely : Prop := fnZipNoneRow.holds Tryz.pinned (OpenSpec.ofChange fnZipNoneWrong)

/-- 'laws.FnExactDiskOk': WHATEVER THE INPUT: true; the input reads as it did. -/
def fnExactDiskOkSpec : ChangeSpec := { name := "fnExactDiskOk", vars := ["loop.example/corbel/impl.order"], fn := fun _ => fun
  | [d, g1] => { results := [.lit (.bool true)], args := [d], vars := [g1] }
  | _ => none }
def fnExactDiskOkRow : OpenClaim := { program := "ytckgjeigokngiaagreatdoor", sum := "aa567d2e9953d0042d43aba00be85927f50a446da730224ec7ae348ad025c033", func := "loop.example/corbel/laws.FnExactDiskOk", spec := "fnExactDiskOk", inPlace := ["internal/bytealg.CountString", "internal/bytealg.IndexByteString", "internal/bytealg.IndexString"], named := ["loop.example/corbel/impl.order", "unicode/utf8.first", "unicode/utf8.acceptRanges", "internal/bytealg.MaxLen"], plainKeys := false, apart := false, laid := [("unicode/utf8.acceptRanges", laid_unicode_utf8_acceptRanges), ("loop.example/corbel/impl.order", laid_loop_example_corbel_impl_order), ("unicode/utf8.first", laid_unicode_utf8_first)] }
def FnExactDiskOkSaid : Prop := fnExactDiskOkRow.holds Tryz.pinned (OpenSpec.ofChange fnExactDiskOkSpec)

/-- ITS FALSE NEIGHBOUR: 'it returns false'. Refute it at one input. -/
def fnExactDiskOkWrong : ChangeSpec := { name := "fnExactDiskOk", vars := ["loop.example/corbel/impl.order"], fn := fun _ => fun
  | [d, g1] => { results := [.lit (.bool false)], args := [d], vars := [g1] }
  | _ => none }
def FnExactDiskOkWrongFalsely : Prop := fnExactDiskOkRow.holds Tryz.pinned (OpenSpec.ofChange fnExactDiskOkWrong)

/-- 'laws.FnZipUnder': WHATEVER THE INPUT: true; the input reads as it did. -/
def fnZipUnderSpec : ChangeSpec := { name := "fnZipUnder", vars := ["loop.example/corbel/impl.order"], fn := fun _ => fun
  | [d, g1] => { results := [.lit (.bool true)], args := [d], vars := [g1] }
  | _ => none }
def fnZipUnderRow : OpenClaim := { program := "ytckgjeigokngiaagreatdoor", sum := "aa567d2e9953d0042d43aba00be85927f50a446da730224ec7ae348ad025c033", func := "loop.example/corbel/laws.FnZipUnder", spec := "fnZipUnder", inPlace := ["internal/bytealg.CountString", "internal/bytealg.IndexByteString", "internal/bytealg.IndexString", "internal/abi.NoEscape", "internal/bytealg.MakeNoZero"], unfollowed := true, recurses := true, named := ["unicode/utf8.first", "unicode/utf8.acceptRanges", "internal/bytealg.MaxLen", "loop.example/corbel/impl.order"], plainKeys := false, apart := false, laid := [("unicode/utf8.acceptRanges", laid_unicode_utf8_acceptRanges), ("loop.example/corbel/impl.order", laid_loop_example_corbel_impl_order), ("unicode/utf8.first", laid_unicode_utf8_first)] }
def FnZipUnderSaid : Prop := fnZipUnderRow.holds Tryz.pinned (OpenSpec.ofChange fnZipUnderSpec)

/-- ITS FALSE NEIGHBOUR: 'it returns false'. Refute it at one input. -/
def fnZipUnderWrong : ChangeSpec := { name := "fnZipUnder", vars := ["loop.example/corbel/impl.order"], fn := fun _ => fun
  | [d, g1] => { results := [.lit (.bool false)], args := [d], vars := [g1] }
  | _ => none }
def FnZipUnderWrongFalsely : Prop := fnZipUnderRow.holds Tryz.pinned (OpenSpec.ofChange fnZipUnderWrong)

/-- 'laws.FnZipFull': WHATEVER THE INPUT: true; the input reads as it did. -/
def fnZipFullSpec : ChangeSpec := { name := "fnZipFull", vars := ["loop.example/corbel/impl.order"], fn := fun _ => fun
  | [d, g1] => { results := [.lit (.bool true)], args := [d], vars := [g1] }
  | _ => none }
def fnZipFullRow : OpenClaim := { program := "ytckgjeigokngiaagreatdoor", sum := "aa567d2e9953d0042d43aba00be85927f50a446da730224ec7ae348ad025c033", func := "loop.example/corbel/laws.FnZipFull", spec := "fnZipFull", inPlace := ["internal/bytealg.CountString", "internal/bytealg.IndexByteString", "internal/bytealg.IndexString", "internal/abi.NoEscape", "internal/bytealg.MakeNoZero"], unfollowed := true, recurses := true, named := ["unicode/utf8.first", "unicode/utf8.acceptRanges", "internal/bytealg.MaxLen", "loop.example/corbel/impl.order"], plainKeys := false, apart := false, laid := [("unicode/utf8.acceptRanges", laid_unicode_utf8_acceptRanges), ("loop.example/corbel/impl.order", laid_loop_example_corbel_impl_order), ("unicode/utf8.first", laid_unicode_utf8_first)] }
def FnZipFullSaid : Prop := fnZipFullRow.holds Tryz.pinned (OpenSpec.ofChange fnZipFullSpec)

/-- ITS FALSE NEIGHBOUR: 'it returns false'. Refute it at one input. -/
def fnZipFullWrong : ChangeSpec := { name := "fnZipFull", vars := ["loop.example/corbel/impl.order"], fn := fun _ => fun
  | [d, g1] => { results := [.lit (.bool false)], args := [d], vars := [g1] }
  | _ => none }
def FnZipFullWrongFalsely : Prop := fnZipFullRow.holds Tryz.pinned (OpenSpec.ofChange fnZipFullWrong)

/-- 'laws.FnSessionLong': WHATEVER THE INPUT: true; the input reads as it did. -/
def fnSessionLongSpec : ChangeSpec := { name := "fnSessionLong", vars := ["loop.example/corbel/impl.order", "loop.example/corbel/impl.first", "loop.example/corbel/impl.kindWords", "loop.example/corbel/impl.editWords"], fn := fun _ => fun
  | [d, g1, g2, g3, g4] => { results := [.lit (.bool true)], args := [d], vars := [g1, g2, g3, g4] }
  | _ => none }
def fnSessionLongRow : OpenClaim := { program := "ytckgjeigokngiaagreatdoor", sum := "aa567d2e9953d0042d43aba00be85927f50a446da730224ec7ae348ad025c033", func := "loop.example/corbel/laws.FnSessionLong", spec := "fnSessionLong", inPlace := ["internal/bytealg.CountString", "internal/bytealg.IndexByteString", "internal/bytealg.IndexString", "internal/abi.NoEscape", "internal/bytealg.MakeNoZero"], unfollowed := true, recurses := true, named := ["unicode/utf8.first", "unicode/utf8.acceptRanges", "internal/bytealg.MaxLen", "loop.example/corbel/impl.order", "loop.example/corbel/impl.first", "loop.example/corbel/impl.kindWords", "loop.example/corbel/impl.editWords", "internal/strconv.uint64pow10", "math/bits.deBruijn32tab", "math/bits.deBruijn64tab"], plainKeys := false, apart := false, laid := [("math/bits.deBruijn32tab", laid_math_bits_deBruijn32tab), ("math/bits.deBruijn64tab", laid_math_bits_deBruijn64tab), ("internal/strconv.uint64pow10", laid_internal_strconv_uint64pow10), ("unicode/utf8.acceptRanges", laid_unicode_utf8_acceptRanges), ("loop.example/corbel/impl.editWords", laid_loop_example_corbel_impl_editWords), ("loop.example/corbel/impl.kindWords", laid_loop_example_corbel_impl_kindWords), ("loop.example/corbel/impl.first", laid_loop_example_corbel_impl_first), ("loop.example/corbel/impl.order", laid_loop_example_corbel_impl_order), ("unicode/utf8.first", laid_unicode_utf8_first)] }
def FnSessionLongSaid : Prop := fnSessionLongRow.holds Tryz.pinned (OpenSpec.ofChange fnSessionLongSpec)

/-- ITS FALSE NEIGHBOUR: 'it returns false'. Refute it at one input. -/
def fnSessionLongWrong : ChangeSpec := { name := "fnSessionLong", vars := ["loop.example/corbel/impl.order", "loop.example/corbel/impl.first", "loop.example/corbel/impl.kindWords", "loop.example/corbel/impl.editWords"], fn := fun _ => fun
  | [d, g1, g2, g3, g4] => { results := [.lit (.bool false)], args := [d], vars := [g1, g2, g3, g4] }
  | _ => none }
def FnSessionLongWrongFalsely : Prop := fnSessionLongRow.holds Tryz.pinned (OpenSpec.ofChange fnSessionLongWrong)

/-- 'laws.FnZipJoinSelf': WHATEVER THE INPUT: true; the input reads as it did. -/
def fnZipJoinSelfSpec : ChangeSpec := { name := "fnZipJoinSelf", vars := ["loop.example/corbel/impl.order"], fn := fun _ => fun
  | [d, g1] => { results := [.lit (.bool true)], args := [d], vars := [g1] }
  | _ => none }
def fnZipJoinSelfRow : OpenClaim := { program := "ytckgjeigokngiaagreatdoor", sum := "aa567d2e9953d0042d43aba00be85927f50a446da730224ec7ae348ad025c033", func := "loop.example/corbel/laws.FnZipJoinSelf", spec := "fnZipJoinSelf", inPlace := ["internal/bytealg.CountString", "internal/bytealg.IndexByteString", "internal/bytealg.IndexString", "internal/abi.NoEscape", "internal/bytealg.MakeNoZero"], unfollowed := true, recurses := true, named := ["unicode/utf8.first", "unicode/utf8.acceptRanges", "internal/bytealg.MaxLen", "loop.example/corbel/impl.order"], plainKeys := false, apart := false, laid := [("unicode/utf8.acceptRanges", laid_unicode_utf8_acceptRanges), ("loop.example/corbel/impl.order", laid_loop_example_corbel_impl_order), ("unicode/utf8.first", laid_unicode_utf8_first)] }
def FnZipJoinSelfSaid : Prop := fnZipJoinSelfRow.holds Tryz.pinned (OpenSpec.ofChange fnZipJoinSelfSpec)

/-- ITS FALSE NEIGHBOUR: 'it returns false'. Refute it at one input. -/
def fnZipJoinSelfWrong : ChangeSpec := { name := "fnZipJoinSelf", vars := ["loop.example/corbel/impl.order"], fn := fun _ => fun
  | [d, g1] => { results := [.lit (.bool false)], args := [d], vars := [g1] }
  | _ => none }
def FnZipJoinSelfWrongFalsely : Prop := fnZipJoinSelfRow.holds Tryz.pinned (OpenSpec.ofChange fnZipJoinSelfWrong)

/-- 'laws.FnZipMoveSame': WHATEVER THE INPUT: true; the input reads as it did. -/
def fnZipMoveSameSpec : ChangeSpec := { name := "fnZipMoveSame", vars := ["loop.example/corbel/impl.order"], fn := fun _ => fun
  | [d, g1] => { results := [.lit (.bool true)], args := [d], vars := [g1] }
  | _ => none }
def fnZipMoveSameRow : OpenClaim := { program := "ytckgjeigokngiaagreatdoor", sum := "aa567d2e9953d0042d43aba00be85927f50a446da730224ec7ae348ad025c033", func := "loop.example/corbel/laws.FnZipMoveSame", spec := "fnZipMoveSame", inPlace := ["internal/bytealg.CountString", "internal/bytealg.IndexByteString", "internal/bytealg.IndexString", "internal/abi.NoEscape", "internal/bytealg.MakeNoZero"], unfollowed := true, recurses := true, named := ["unicode/utf8.first", "unicode/utf8.acceptRanges", "internal/bytealg.MaxLen", "loop.example/corbel/impl.order"], plainKeys := false, apart := false, laid := [("unicode/utf8.acceptRanges", laid_unicode_utf8_acceptRanges), ("loop.example/corbel/impl.order", laid_loop_example_corbel_impl_order), ("unicode/utf8.first", laid_unicode_utf8_first)] }
def FnZipMoveSameSaid : Prop := fnZipMoveSameRow.holds Tryz.pinned (OpenSpec.ofChange fnZipMoveSameSpec)

/-- ITS FALSE NEIGHBOUR: 'it returns false'. Refute it at one input. -/
def fnZipMoveSameWrong : ChangeSpec := { name := "fnZipMoveSame", vars := ["loop.example/corbel/impl.order"], fn := fun _ => fun
  | [d, g1] => { results := [.lit (.bool false)], args := [d], vars := [g1] }
  | _ => none }
def FnZipMoveSameWrongFalsely : Prop := fnZipMoveSameRow.holds Tryz.pinned (OpenSpec.ofChange fnZipMoveSameWrong)

/-- 'laws.FnZipDropAll': WHATEVER THE INPUT: true; the input reads as it did. -/
def fnZipDropAllSpec : ChangeSpec := { name := "fnZipDropAll", vars := ["loop.example/corbel/impl.order"], fn := fun _ => fun
  | [d, g1] => { results := [.lit (.bool true)], args := [d], vars := [g1] }
  | _ => none }
def fnZipDropAllRow : OpenClaim := { program := "ytckgjeigokngiaagreatdoor", sum := "aa567d2e9953d0042d43aba00be85927f50a446da730224ec7ae348ad025c033", func := "loop.example/corbel/laws.FnZipDropAll", spec := "fnZipDropAll", inPlace := ["internal/bytealg.CountString", "internal/bytealg.IndexByteString", "internal/bytealg.IndexString", "internal/abi.NoEscape", "internal/bytealg.MakeNoZero"], unfollowed := true, recurses := true, named := ["unicode/utf8.first", "unicode/utf8.acceptRanges", "internal/bytealg.MaxLen", "loop.example/corbel/impl.order"], plainKeys := false, apart := false, laid := [("unicode/utf8.acceptRanges", laid_unicode_utf8_acceptRanges), ("loop.example/corbel/impl.order", laid_loop_example_corbel_impl_order), ("unicode/utf8.first", laid_unicode_utf8_first)] }
def FnZipDropAllSaid : Prop := fnZipDropAllRow.holds Tryz.pinned (OpenSpec.ofChange fnZipDropAllSpec)

/-- ITS FALSE NEIGHBOUR: 'it returns false'. Refute it at one input. -/
def fnZipDropAllWrong : ChangeSpec := { name := "fnZipDropAll", vars := ["loop.example/corbel/impl.order"], fn := fun _ => fun
  | [d, g1] => { results := [.lit (.bool false)], args := [d], vars := [g1] }
  | _ => none }
def FnZipDropAllWrongFalsely : Prop := fnZipDropAllRow.holds Tryz.pinned (OpenSpec.ofChange fnZipDropAllWrong)

/-- 'laws.FnExactTreeZip': WHATEVER THE INPUT: true; the input reads as it did. -/
def fnExactTreeZipSpec : ChangeSpec := { name := "fnExactTreeZip", vars := ["loop.example/corbel/impl.order"], fn := fun _ => fun
  | [d1, d2, d3, g1] => { results := [.lit (.bool true)], args := [d1, d2, d3], vars := [g1] }
  | _ => none }
def fnExactTreeZipRow : OpenClaim := { program := "ytckgjeigokngiaagreatdoor", sum := "aa567d2e9953d0042d43aba00be85927f50a446da730224ec7ae348ad025c033", func := "loop.example/corbel/laws.FnExactTreeZip", spec := "fnExactTreeZip", inPlace := ["internal/bytealg.CountString", "internal/bytealg.IndexByteString", "internal/bytealg.IndexString", "internal/abi.NoEscape", "internal/bytealg.MakeNoZero"], named := ["unicode/utf8.first", "unicode/utf8.acceptRanges", "internal/bytealg.MaxLen", "loop.example/corbel/impl.order"], plainKeys := false, apart := false, laid := [("unicode/utf8.acceptRanges", laid_unicode_utf8_acceptRanges), ("loop.example/corbel/impl.order", laid_loop_example_corbel_impl_order), ("unicode/utf8.first", laid_unicode_utf8_first)] }
def FnExactTreeZipSaid : Prop := fnExactTreeZipRow.holds Tryz.pinned (OpenSpec.ofChange fnExactTreeZipSpec)

/-- ITS FALSE NEIGHBOUR: 'it returns false'. Refute it at one input. -/
def fnExactTreeZipWrong : ChangeSpec := { name := "fnExactTreeZip", vars := ["loop.example/corbel/impl.order"], fn := fun _ => fun
  | [d1, d2, d3, g1] => { results := [.lit (.bool false)], args := [d1, d2, d3], vars := [g1] }
  | _ => none }
def FnExactTreeZipWrongFalsely : Prop := fnExactTreeZipRow.holds Tryz.pinned (OpenSpec.ofChange fnExactTreeZipWrong)

/-- 'laws.FnExactZipPut': WHATEVER THE INPUT: true; the input reads as it did. -/
def fnExactZipPutSpec : ChangeSpec := { name := "fnExactZipPut", vars := ["loop.example/corbel/impl.order"], fn := fun _ => fun
  | [d, g1] => { results := [.lit (.bool true)], args := [d], vars := [g1] }
  | _ => none }
def fnExactZipPutRow : OpenClaim := { program := "ytckgjeigokngiaagreatdoor", sum := "aa567d2e9953d0042d43aba00be85927f50a446da730224ec7ae348ad025c033", func := "loop.example/corbel/laws.FnExactZipPut", spec := "fnExactZipPut", inPlace := ["internal/bytealg.CountString", "internal/bytealg.IndexByteString", "internal/bytealg.IndexString", "internal/abi.NoEscape", "internal/bytealg.MakeNoZero"], named := ["unicode/utf8.first", "unicode/utf8.acceptRanges", "internal/bytealg.MaxLen", "loop.example/corbel/impl.order"], plainKeys := false, apart := false, laid := [("unicode/utf8.acceptRanges", laid_unicode_utf8_acceptRanges), ("loop.example/corbel/impl.order", laid_loop_example_corbel_impl_order), ("unicode/utf8.first", laid_unicode_utf8_first)] }
def FnExactZipPutSaid : Prop := fnExactZipPutRow.holds Tryz.pinned (OpenSpec.ofChange fnExactZipPutSpec)

/-- ITS FALSE NEIGHBOUR: 'it returns false'. Refute it at one input. -/
def fnExactZipPutWrong : ChangeSpec := { name := "fnExactZipPut", vars := ["loop.example/corbel/impl.order"], fn := fun _ => fun
  | [d, g1] => { results := [.lit (.bool false)], args := [d], vars := [g1] }
  | _ => none }
def FnExactZipPutWrongFalsely : Prop := fnExactZipPutRow.holds Tryz.pinned (OpenSpec.ofChange fnExactZipPutWrong)

/-- 'laws.FnSessionLook': WHATEVER THE INPUT: true; the input reads as it did. -/
def fnSessionLookSpec : ChangeSpec := { name := "fnSessionLook", vars := ["loop.example/corbel/impl.order", "loop.example/corbel/impl.first", "loop.example/corbel/impl.kindWords", "loop.example/corbel/impl.editWords"], fn := fun _ => fun
  | [d1, d2, g1, g2, g3, g4] => { results := [.lit (.bool true)], args := [d1, d2], vars := [g1, g2, g3, g4] }
  | _ => none }
def fnSessionLookRow : OpenClaim := { program := "ytckgjeigokngiaagreatdoor", sum := "aa567d2e9953d0042d43aba00be85927f50a446da730224ec7ae348ad025c033", func := "loop.example/corbel/laws.FnSessionLook", spec := "fnSessionLook", inPlace := ["internal/bytealg.CountString", "internal/bytealg.IndexByteString", "internal/bytealg.IndexString", "internal/abi.NoEscape", "internal/bytealg.MakeNoZero"], unfollowed := true, recurses := true, named := ["unicode/utf8.first", "unicode/utf8.acceptRanges", "internal/bytealg.MaxLen", "loop.example/corbel/impl.order", "loop.example/corbel/impl.first", "loop.example/corbel/impl.kindWords", "loop.example/corbel/impl.editWords", "internal/strconv.uint64pow10", "math/bits.deBruijn32tab", "math/bits.deBruijn64tab"], plainKeys := false, apart := false, laid := [("math/bits.deBruijn32tab", laid_math_bits_deBruijn32tab), ("math/bits.deBruijn64tab", laid_math_bits_deBruijn64tab), ("internal/strconv.uint64pow10", laid_internal_strconv_uint64pow10), ("unicode/utf8.acceptRanges", laid_unicode_utf8_acceptRanges), ("loop.example/corbel/impl.editWords", laid_loop_example_corbel_impl_editWords), ("loop.example/corbel/impl.kindWords", laid_loop_example_corbel_impl_kindWords), ("loop.example/corbel/impl.first", laid_loop_example_corbel_impl_first), ("loop.example/corbel/impl.order", laid_loop_example_corbel_impl_order), ("unicode/utf8.first", laid_unicode_utf8_first)] }
def FnSessionLookSaid : Prop := fnSessionLookRow.holds Tryz.pinned (OpenSpec.ofChange fnSessionLookSpec)

/-- ITS FALSE NEIGHBOUR: 'it returns false'. Refute it at one input. -/
def fnSessionLookWrong : ChangeSpec := { name := "fnSessionLook", vars := ["loop.example/corbel/impl.order", "loop.example/corbel/impl.first", "loop.example/corbel/impl.kindWords", "loop.example/corbel/impl.editWords"], fn := fun _ => fun
  | [d1, d2, g1, g2, g3, g4] => { results := [.lit (.bool false)], args := [d1, d2], vars := [g1, g2, g3, g4] }
  | _ => none }
def FnSessionLookWrongFalsely : Prop := fnSessionLookRow.holds Tryz.pinned (OpenSpec.ofChange fnSessionLookWrong)

/-- 'laws.FnExactDiskNew': WHATEVER THE INPUT: true; the input reads as it did. -/
def fnExactDiskNewSpec : ChangeSpec := { name := "fnExactDiskNew", vars := ["loop.example/corbel/impl.order"], fn := fun _ => fun
  | [d, g1] => { results := [.lit (.bool true)], args := [d], vars := [g1] }
  | _ => none }
def fnExactDiskNewRow : OpenClaim := { program := "ytckgjeigokngiaagreatdoor", sum := "aa567d2e9953d0042d43aba00be85927f50a446da730224ec7ae348ad025c033", func := "loop.example/corbel/laws.FnExactDiskNew", spec := "fnExactDiskNew", inPlace := ["internal/bytealg.CountString", "internal/bytealg.IndexByteString", "internal/bytealg.IndexString", "internal/abi.NoEscape", "internal/bytealg.MakeNoZero"], named := ["unicode/utf8.first", "unicode/utf8.acceptRanges", "internal/bytealg.MaxLen", "loop.example/corbel/impl.order"], plainKeys := false, apart := false, laid := [("unicode/utf8.acceptRanges", laid_unicode_utf8_acceptRanges), ("loop.example/corbel/impl.order", laid_loop_example_corbel_impl_order), ("unicode/utf8.first", laid_unicode_utf8_first)] }
def FnExactDiskNewSaid : Prop := fnExactDiskNewRow.holds Tryz.pinned (OpenSpec.ofChange fnExactDiskNewSpec)

/-- ITS FALSE NEIGHBOUR: 'it returns false'. Refute it at one input. -/
def fnExactDiskNewWrong : ChangeSpec := { name := "fnExactDiskNew", vars := ["loop.example/corbel/impl.order"], fn := fun _ => fun
  | [d, g1] => { results := [.lit (.bool false)], args := [d], vars := [g1] }
  | _ => none }
def FnExactDiskNewWrongFalsely : Prop := fnExactDiskNewRow.holds Tryz.pinned (OpenSpec.ofChange fnExactDiskNewWrong)

/- THE SECOND FORM. 'bulk': how many values and letters a reading holds, each counted each time it is reached (what is shared counts as often as it is met; a slice's spare places count too). A statement '..UptoSaid' is the law's where the arguments, and the package variables that the reading takes, are together of bulk at most 1048576: NARROWER than '..Said'. Prove '..Said' where nothing that the law and all that it calls make is longer than what came in: it says more and counts as full. Else prove '..UptoSaid'. A law counts once. -/
mutual
def uptoBulk {H : Type} : DataW H → Nat
  | .lit (.string bytes) => bytes.length + 1
  | .lit _ => 1
  | .nil => 1
  | .ptr d => uptoBulk d + 1
  | .slice elems spare => uptoBulkAll elems + uptoBulkAll spare + 1
  | .agg parts => uptoBulkAll parts + 1
  | .iface _ d => uptoBulk d + 1
  | .map entries => uptoBulkEntries entries + 1
  | .held _ => 1
def uptoBulkAll {H : Type} : List (DataW H) → Nat
  | [] => 0
  | d :: r => uptoBulk d + uptoBulkAll r
def uptoBulkEntries {H : Type} : List (Lit × DataW H) → Nat
  | [] => 0
  | x :: r => uptoBulkEntry x + uptoBulkEntries r
def uptoBulkEntry {H : Type} : Lit × DataW H → Nat
  | (.string bytes, d) => bytes.length + uptoBulk d + 1
  | (_, d) => uptoBulk d + 1
 end
def uptoSmall : (H : Type) → List (DataW H) → Bool := fun _ ds => decide (uptoBulkAll ds ≤ 1048576)
def OpenSpec.upto (s : _root_.Go.ChangeSpec) : _root_.Go.OpenSpec := { _root_.Go.OpenSpec.ofChange s with cond := some uptoSmall }

/-- 'laws.FnZipNone', WHERE WHAT IT READS IS OF BULK AT MOST 1048576: true; the input reads as it did. -/
def fnZipNoneUptoRow : OpenClaim := { program := "ytckgjeigokngiaagreatdoor", sum := "aa567d2e9953d0042d43aba00be85927f50a446da730224ec7ae348ad025c033", func := "loop.example/corbel/laws.FnZipNone", spec := "fnZipNone", inPlace := ["internal/bytealg.CountString", "internal/bytealg.IndexByteString", "internal/bytealg.IndexString", "internal/abi.NoEscape", "internal/bytealg.MakeNoZero"], unfollowed := true, recurses := true, named := ["unicode/utf8.first", "unicode/utf8.acceptRanges", "internal/bytealg.MaxLen", "loop.example/corbel/impl.order"], plainKeys := false, apart := false, laid := [("unicode/utf8.acceptRanges", laid_unicode_utf8_acceptRanges), ("loop.example/corbel/impl.order", laid_loop_example_corbel_impl_order), ("unicode/utf8.first", laid_unicode_utf8_first)], narrowed := true }
def FnZipNoneUptoSaid : Prop := fnZipNoneUptoRow.holds Tryz.pinned (OpenSpec.upto fnZipNoneSpec)

/-- 'laws.FnExactDiskOk', WHERE WHAT IT READS IS OF BULK AT MOST 1048576: true; the input reads as it did. -/
def fnExactDiskOkUptoRow : OpenClaim := { program := "ytckgjeigokngiaagreatdoor", sum := "aa567d2e9953d0042d43aba00be85927f50a446da730224ec7ae348ad025c033", func := "loop.example/corbel/laws.FnExactDiskOk", spec := "fnExactDiskOk", inPlace := ["internal/bytealg.CountString", "internal/bytealg.IndexByteString", "internal/bytealg.IndexString"], named := ["loop.example/corbel/impl.order", "unicode/utf8.first", "unicode/utf8.acceptRanges", "internal/bytealg.MaxLen"], plainKeys := false, apart := false, laid := [("unicode/utf8.acceptRanges", laid_unicode_utf8_acceptRanges), ("loop.example/corbel/impl.order", laid_loop_example_corbel_impl_order), ("unicode/utf8.first", laid_unicode_utf8_first)], narrowed := true }
def FnExactDiskOkUptoSaid : Prop := fnExactDiskOkUptoRow.holds Tryz.pinned (OpenSpec.upto fnExactDiskOkSpec)

/-- 'laws.FnZipUnder', WHERE WHAT IT READS IS OF BULK AT MOST 1048576: true; the input reads as it did. -/
def fnZipUnderUptoRow : OpenClaim := { program := "ytckgjeigokngiaagreatdoor", sum := "aa567d2e9953d0042d43aba00be85927f50a446da730224ec7ae348ad025c033", func := "loop.example/corbel/laws.FnZipUnder", spec := "fnZipUnder", inPlace := ["internal/bytealg.CountString", "internal/bytealg.IndexByteString", "internal/bytealg.IndexString", "internal/abi.NoEscape", "internal/bytealg.MakeNoZero"], unfollowed := true, recurses := true, named := ["unicode/utf8.first", "unicode/utf8.acceptRanges", "internal/bytealg.MaxLen", "loop.example/corbel/impl.order"], plainKeys := false, apart := false, laid := [("unicode/utf8.acceptRanges", laid_unicode_utf8_acceptRanges), ("loop.example/corbel/impl.order", laid_loop_example_corbel_impl_order), ("unicode/utf8.first", laid_unicode_utf8_first)], narrowed := true }
def FnZipUnderUptoSaid : Prop := fnZipUnderUptoRow.holds Tryz.pinned (OpenSpec.upto fnZipUnderSpec)

/-- 'laws.FnZipFull', WHERE WHAT IT READS IS OF BULK AT MOST 1048576: true; the input reads as it did. -/
def fnZipFullUptoRow : OpenClaim := { program := "ytckgjeigokngiaagreatdoor", sum := "aa567d2e9953d0042d43aba00be85927f50a446da730224ec7ae348ad025c033", func := "loop.example/corbel/laws.FnZipFull", spec := "fnZipFull", inPlace := ["internal/bytealg.CountString", "internal/bytealg.IndexByteString", "internal/bytealg.IndexString", "internal/abi.NoEscape", "internal/bytealg.MakeNoZero"], unfollowed := true, recurses := true, named := ["unicode/utf8.first", "unicode/utf8.acceptRanges", "internal/bytealg.MaxLen", "loop.example/corbel/impl.order"], plainKeys := false, apart := false, laid := [("unicode/utf8.acceptRanges", laid_unicode_utf8_acceptRanges), ("loop.example/corbel/impl.order", laid_loop_example_corbel_impl_order), ("unicode/utf8.first", laid_unicode_utf8_first)], narrowed := true }
def FnZipFullUptoSaid : Prop := fnZipFullUptoRow.holds Tryz.pinned (OpenSpec.upto fnZipFullSpec)

/-- 'laws.FnSessionLong', WHERE WHAT IT READS IS OF BULK AT MOST 1048576: true; the input reads as it did. -/
def fnSessionLongUptoRow : OpenClaim := { program := "ytckgjeigokngiaagreatdoor", sum := "aa567d2e9953d0042d43aba00be85927f50a446da730224ec7ae348ad025c033", func := "loop.example/corbel/laws.FnSessionLong", spec := "fnSessionLong", inPlace := ["internal/bytealg.CountString", "internal/bytealg.IndexByteString", "internal/bytealg.IndexString", "internal/abi.NoEscape", "internal/bytealg.MakeNoZero"], unfollowed := true, recurses := true, named := ["unicode/utf8.first", "unicode/utf8.acceptRanges", "internal/bytealg.MaxLen", "loop.example/corbel/impl.order", "loop.example/corbel/impl.first", "loop.example/corbel/impl.kindWords", "loop.example/corbel/impl.editWords", "internal/strconv.uint64pow10", "math/bits.deBruijn32tab", "math/bits.deBruijn64tab"], plainKeys := false, apart := false, laid := [("math/bits.deBruijn32tab", laid_math_bits_deBruijn32tab), ("math/bits.deBruijn64tab", laid_math_bits_deBruijn64tab), ("internal/strconv.uint64pow10", laid_internal_strconv_uint64pow10), ("unicode/utf8.acceptRanges", laid_unicode_utf8_acceptRanges), ("loop.example/corbel/impl.editWords", laid_loop_example_corbel_impl_editWords), ("loop.example/corbel/impl.kindWords", laid_loop_example_corbel_impl_kindWords), ("loop.example/corbel/impl.first", laid_loop_example_corbel_impl_first), ("loop.example/corbel/impl.order", laid_loop_example_corbel_impl_order), ("unicode/utf8.first", laid_unicode_utf8_first)], narrowed := true }
def FnSessionLongUptoSaid : Prop := fnSessionLongUptoRow.holds Tryz.pinned (OpenSpec.upto fnSessionLongSpec)

/-- 'laws.FnZipJoinSelf', WHERE WHAT IT READS IS OF BULK AT MOST 1048576: true; the input reads as it did. -/
def fnZipJoinSelfUptoRow : OpenClaim := { program := "ytckgjeigokngiaagreatdoor", sum := "aa567d2e9953d0042d43aba00be85927f50a446da730224ec7ae348ad025c033", func := "loop.example/corbel/laws.FnZipJoinSelf", spec := "fnZipJoinSelf", inPlace := ["internal/bytealg.CountString", "internal/bytealg.IndexByteString", "internal/bytealg.IndexString", "internal/abi.NoEscape", "internal/bytealg.MakeNoZero"], unfollowed := true, recurses := true, named := ["unicode/utf8.first", "unicode/utf8.acceptRanges", "internal/bytealg.MaxLen", "loop.example/corbel/impl.order"], plainKeys := false, apart := false, laid := [("unicode/utf8.acceptRanges", laid_unicode_utf8_acceptRanges), ("loop.example/corbel/impl.order", laid_loop_example_corbel_impl_order), ("unicode/utf8.first", laid_unicode_utf8_first)], narrowed := true }
def FnZipJoinSelfUptoSaid : Prop := fnZipJoinSelfUptoRow.holds Tryz.pinned (OpenSpec.upto fnZipJoinSelfSpec)

/-- 'laws.FnZipMoveSame', WHERE WHAT IT READS IS OF BULK AT MOST 1048576: true; the input reads as it did. -/
def fnZipMoveSameUptoRow : OpenClaim := { program := "ytckgjeigokngiaagreatdoor", sum := "aa567d2e9953d0042d43aba00be85927f50a446da730224ec7ae348ad025c033", func := "loop.example/corbel/laws.FnZipMoveSame", spec := "fnZipMoveSame", inPlace := ["internal/bytealg.CountString", "internal/bytealg.IndexByteString", "internal/bytealg.IndexString", "internal/abi.NoEscape", "internal/bytealg.MakeNoZero"], unfollowed := true, recurses := true, named := ["unicode/utf8.first", "unicode/utf8.acceptRanges", "internal/bytealg.MaxLen", "loop.example/corbel/impl.order"], plainKeys := false, apart := false, laid := [("unicode/utf8.acceptRanges", laid_unicode_utf8_acceptRanges), ("loop.example/corbel/impl.order", laid_loop_example_corbel_impl_order), ("unicode/utf8.first", laid_unicode_utf8_first)], narrowed := true }
def FnZipMoveSameUptoSaid : Prop := fnZipMoveSameUptoRow.holds Tryz.pinned (OpenSpec.upto fnZipMoveSameSpec)

/-- 'laws.FnZipDropAll', WHERE WHAT IT READS IS OF BULK AT MOST 1048576: true; the input reads as it did. -/
def fnZipDropAllUptoRow : OpenClaim := { program := "ytckgjeigokngiaagreatdoor", sum := "aa567d2e9953d0042d43aba00be85927f50a446da730224ec7ae348ad025c033", func := "loop.example/corbel/laws.FnZipDropAll", spec := "fnZipDropAll", inPlace := ["internal/bytealg.CountString", "internal/bytealg.IndexByteString", "internal/bytealg.IndexString", "internal/abi.NoEscape", "internal/bytealg.MakeNoZero"], unfollowed := true, recurses := true, named := ["unicode/utf8.first", "unicode/utf8.acceptRanges", "internal/bytealg.MaxLen", "loop.example/corbel/impl.order"], plainKeys := false, apart := false, laid := [("unicode/utf8.acceptRanges", laid_unicode_utf8_acceptRanges), ("loop.example/corbel/impl.order", laid_loop_example_corbel_impl_order), ("unicode/utf8.first", laid_unicode_utf8_first)], narrowed := true }
def FnZipDropAllUptoSaid : Prop := fnZipDropAllUptoRow.holds Tryz.pinned (OpenSpec.upto fnZipDropAllSpec)

/-- 'laws.FnExactTreeZip', WHERE WHAT IT READS IS OF BULK AT MOST 1048576: true; the input reads as it did. -/
def fnExactTreeZipUptoRow : OpenClaim := { program := "ytckgjeigokngiaagreatdoor", sum := "aa567d2e9953d0042d43aba00be85927f50a446da730224ec7ae348ad025c033", func := "loop.example/corbel/laws.FnExactTreeZip", spec := "fnExactTreeZip", inPlace := ["internal/bytealg.CountString", "internal/bytealg.IndexByteString", "internal/bytealg.IndexString", "internal/abi.NoEscape", "internal/bytealg.MakeNoZero"], named := ["unicode/utf8.first", "unicode/utf8.acceptRanges", "internal/bytealg.MaxLen", "loop.example/corbel/impl.order"], plainKeys := false, apart := false, laid := [("unicode/utf8.acceptRanges", laid_unicode_utf8_acceptRanges), ("loop.example/corbel/impl.order", laid_loop_example_corbel_impl_order), ("unicode/utf8.first", laid_unicode_utf8_first)], narrowed := true }
def FnExactTreeZipUptoSaid : Prop := fnExactTreeZipUptoRow.holds Tryz.pinned (OpenSpec.upto fnExactTreeZipSpec)

/-- 'laws.FnExactZipPut', WHERE WHAT IT READS IS OF BULK AT MOST 1048576: true; the input reads as it did. -/
def fnExactZipPutUptoRow : OpenClaim := { program := "ytckgjeigokngiaagreatdoor", sum := "aa567d2e9953d0042d43aba00be85927f50a446da730224ec7ae348ad025c033", func := "loop.example/corbel/laws.FnExactZipPut", spec := "fnExactZipPut", inPlace := ["internal/bytealg.CountString", "internal/bytealg.IndexByteString", "internal/bytealg.IndexString", "internal/abi.NoEscape", "internal/bytealg.MakeNoZero"], named := ["unicode/utf8.first", "unicode/utf8.acceptRanges", "internal/bytealg.MaxLen", "loop.example/corbel/impl.order"], plainKeys := false, apart := false, laid := [("unicode/utf8.acceptRanges", laid_unicode_utf8_acceptRanges), ("loop.example/corbel/impl.order", laid_loop_example_corbel_impl_order), ("unicode/utf8.first", laid_unicode_utf8_first)], narrowed := true }
def FnExactZipPutUptoSaid : Prop := fnExactZipPutUptoRow.holds Tryz.pinned (OpenSpec.upto fnExactZipPutSpec)

/-- 'laws.FnSessionLook', WHERE WHAT IT READS IS OF BULK AT MOST 1048576: true; the input reads as it did. -/
def fnSessionLookUptoRow : OpenClaim := { program := "ytckgjeigokngiaagreatdoor", sum := "aa567d2e9953d0042d43aba00be85927f50a446da730224ec7ae348ad025c033", func := "loop.example/corbel/laws.FnSessionLook", spec := "fnSessionLook", inPlace := ["internal/bytealg.CountString", "internal/bytealg.IndexByteString", "internal/bytealg.IndexString", "internal/abi.NoEscape", "internal/bytealg.MakeNoZero"], unfollowed := true, recurses := true, named := ["unicode/utf8.first", "unicode/utf8.acceptRanges", "internal/bytealg.MaxLen", "loop.example/corbel/impl.order", "loop.example/corbel/impl.first", "loop.example/corbel/impl.kindWords", "loop.example/corbel/impl.editWords", "internal/strconv.uint64pow10", "math/bits.deBruijn32tab", "math/bits.deBruijn64tab"], plainKeys := false, apart := false, laid := [("math/bits.deBruijn32tab", laid_math_bits_deBruijn32tab), ("math/bits.deBruijn64tab", laid_math_bits_deBruijn64tab), ("internal/strconv.uint64pow10", laid_internal_strconv_uint64pow10), ("unicode/utf8.acceptRanges", laid_unicode_utf8_acceptRanges), ("loop.example/corbel/impl.editWords", laid_loop_example_corbel_impl_editWords), ("loop.example/corbel/impl.kindWords", laid_loop_example_corbel_impl_kindWords), ("loop.example/corbel/impl.first", laid_loop_example_corbel_impl_first), ("loop.example/corbel/impl.order", laid_loop_example_corbel_impl_order), ("unicode/utf8.first", laid_unicode_utf8_first)], narrowed := true }
def FnSessionLookUptoSaid : Prop := fnSessionLookUptoRow.holds Tryz.pinned (OpenSpec.upto fnSessionLookSpec)

/-- 'laws.FnExactDiskNew', WHERE WHAT IT READS IS OF BULK AT MOST 1048576: true; the input reads as it did. -/
def fnExactDiskNewUptoRow : OpenClaim := { program := "ytckgjeigokngiaagreatdoor", sum := "aa567d2e9953d0042d43aba00be85927f50a446da730224ec7ae348ad025c033", func := "loop.example/corbel/laws.FnExactDiskNew", spec := "fnExactDiskNew", inPlace := ["internal/bytealg.CountString", "internal/bytealg.IndexByteString", "internal/bytealg.IndexString", "internal/abi.NoEscape", "internal/bytealg.MakeNoZero"], named := ["unicode/utf8.first", "unicode/utf8.acceptRanges", "internal/bytealg.MaxLen", "loop.example/corbel/impl.order"], plainKeys := false, apart := false, laid := [("unicode/utf8.acceptRanges", laid_unicode_utf8_acceptRanges), ("loop.example/corbel/impl.order", laid_loop_example_corbel_impl_order), ("unicode/utf8.first", laid_unicode_utf8_first)], narrowed := true }
def FnExactDiskNewUptoSaid : Prop := fnExactDiskNewUptoRow.holds Tryz.pinned (OpenSpec.upto fnExactDiskNewSpec)

end Rows
end Go.Proofs.YtckgjeigokngiaaGreatDoor
