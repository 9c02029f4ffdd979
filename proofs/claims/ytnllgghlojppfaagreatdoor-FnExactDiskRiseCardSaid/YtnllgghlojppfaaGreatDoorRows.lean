/-
  NARROWER THAN 'FOR EVERY INPUT', by the rows' own cells (each row's printed sentence says how): FnLocalBent: laid · FnLocalTwo: laid · FnLocal: laid · FnExactDiskTear: laid · FnSessionZip: laid · FnExactDiskRise: laid · FnTreeUnder: laid · FnTreeNone: laid · FnZipOrder: laid · FnLocalGet: laid · FnZipCut: laid · FnZipHeads: laid.
  DERIVED. THE GIVEN ROWS OF THIS SEAT. 12 by the template 'for every input the law returns true; each argument reads behind the call as it read before'; 0 by the template 'total and deterministic' (their statements: YtnllgghlojppfaaGreatDoorTotals.lean).
  GIVEN WITH THE SEED: the statements are not yours to turn. If you find one false, say at which input.
  Laid BY PROGRAM, IN A SANDBOX (cutbox-rows.mjs): the forced cells as the released guide's own fill.sh prints them over the translation d7e5df8693f90fc0… (all of the seat's roots in one cut). By AI agents, Wed Nov 11 2026. No macro, syntax, notation, axiom, sorry.
-/
import Derived.Test.YtnllgghlojppfaaGreatDoorChecked
import GoSem.PinnedTables
import GoSem.Claim
import GoSem.ClaimJoined
import GoSem.ClaimMapViews
import Derived.JoinedTies
import Derived.KernelRfl
namespace Go.Proofs.YtnllgghlojppfaaGreatDoor
/- THE CELL 'sum', in the pinned program and in every row, IS THE sha256 OF THE DUMP (.gsa) THAT YtnllgghlojppfaaGreatDoorProg.lean LOADS. Nothing in Lean hashes anything: it is a label: what it is worth is what the hold of that sum in a sandbox is worth. -/
noncomputable def Tryz.pinned : Pinned := { name := "ytnllgghlojppfaagreatdoor", sum := "d7e5df8693f90fc048c104a5dc4158e6d7a8ede7a828bfb6bcf369d9776eb3cc", checked := Tryz.checked }
namespace Rows
def none {H : Type} : Left H := { results := [], args := [] }

/- WHAT THE LISTED PACKAGE-LEVEL VARIABLES READ AS WHEN THE CALL BEGINS. Each datum BY PROGRAM (the guide's laid-datum.mjs) off the statement by which the dump's own 'gosem.cut.vars' lays the variable. In a bare row this is a premise. The card (YtnllgghlojppfaaGreatDoorCards.lean) ties it to the program's text. -/
def laid_unicode_utf8_acceptRanges {H : Type} : DataW H := .agg [.agg [.lit (.int .u8 128), .lit (.int .u8 191)], .agg [.lit (.int .u8 160), .lit (.int .u8 191)], .agg [.lit (.int .u8 128), .lit (.int .u8 159)], .agg [.lit (.int .u8 144), .lit (.int .u8 191)], .agg [.lit (.int .u8 128), .lit (.int .u8 143)], .agg [.lit (.int .u8 0), .lit (.int .u8 0)], .agg [.lit (.int .u8 0), .lit (.int .u8 0)], .agg [.lit (.int .u8 0), .lit (.int .u8 0)], .agg [.lit (.int .u8 0), .lit (.int .u8 0)], .agg [.lit (.int .u8 0), .lit (.int .u8 0)], .agg [.lit (.int .u8 0), .lit (.int .u8 0)], .agg [.lit (.int .u8 0), .lit (.int .u8 0)], .agg [.lit (.int .u8 0), .lit (.int .u8 0)], .agg [.lit (.int .u8 0), .lit (.int .u8 0)], .agg [.lit (.int .u8 0), .lit (.int .u8 0)], .agg [.lit (.int .u8 0), .lit (.int .u8 0)]]
def laid_loop_example_corbel_impl_order {H : Type} : DataW H := .slice [.lit (.int .i64 16), .lit (.int .i64 17), .lit (.int .i64 18), .lit (.int .i64 0), .lit (.int .i64 8), .lit (.int .i64 7), .lit (.int .i64 9), .lit (.int .i64 6), .lit (.int .i64 10), .lit (.int .i64 5), .lit (.int .i64 11), .lit (.int .i64 4), .lit (.int .i64 12), .lit (.int .i64 3), .lit (.int .i64 13), .lit (.int .i64 2), .lit (.int .i64 14), .lit (.int .i64 1), .lit (.int .i64 15)] []
/-- One of Go's own tables, pinned by name: the form's constant. -/
def laid_unicode_utf8_first : DataW Unit := Go.Pinned.utf8First
def laid_math_bits_deBruijn32tab {H : Type} : DataW H := .agg [.lit (.int .u8 0), .lit (.int .u8 1), .lit (.int .u8 28), .lit (.int .u8 2), .lit (.int .u8 29), .lit (.int .u8 14), .lit (.int .u8 24), .lit (.int .u8 3), .lit (.int .u8 30), .lit (.int .u8 22), .lit (.int .u8 20), .lit (.int .u8 15), .lit (.int .u8 25), .lit (.int .u8 17), .lit (.int .u8 4), .lit (.int .u8 8), .lit (.int .u8 31), .lit (.int .u8 27), .lit (.int .u8 13), .lit (.int .u8 23), .lit (.int .u8 21), .lit (.int .u8 19), .lit (.int .u8 16), .lit (.int .u8 7), .lit (.int .u8 26), .lit (.int .u8 12), .lit (.int .u8 18), .lit (.int .u8 6), .lit (.int .u8 11), .lit (.int .u8 5), .lit (.int .u8 10), .lit (.int .u8 9)]
def laid_math_bits_deBruijn64tab {H : Type} : DataW H := .agg [.lit (.int .u8 0), .lit (.int .u8 1), .lit (.int .u8 56), .lit (.int .u8 2), .lit (.int .u8 57), .lit (.int .u8 49), .lit (.int .u8 28), .lit (.int .u8 3), .lit (.int .u8 61), .lit (.int .u8 58), .lit (.int .u8 42), .lit (.int .u8 50), .lit (.int .u8 38), .lit (.int .u8 29), .lit (.int .u8 17), .lit (.int .u8 4), .lit (.int .u8 62), .lit (.int .u8 47), .lit (.int .u8 59), .lit (.int .u8 36), .lit (.int .u8 45), .lit (.int .u8 43), .lit (.int .u8 51), .lit (.int .u8 22), .lit (.int .u8 53), .lit (.int .u8 39), .lit (.int .u8 33), .lit (.int .u8 30), .lit (.int .u8 24), .lit (.int .u8 18), .lit (.int .u8 12), .lit (.int .u8 5), .lit (.int .u8 63), .lit (.int .u8 55), .lit (.int .u8 48), .lit (.int .u8 27), .lit (.int .u8 60), .lit (.int .u8 41), .lit (.int .u8 37), .lit (.int .u8 16), .lit (.int .u8 46), .lit (.int .u8 35), .lit (.int .u8 44), .lit (.int .u8 21), .lit (.int .u8 52), .lit (.int .u8 32), .lit (.int .u8 23), .lit (.int .u8 11), .lit (.int .u8 54), .lit (.int .u8 26), .lit (.int .u8 40), .lit (.int .u8 15), .lit (.int .u8 34), .lit (.int .u8 20), .lit (.int .u8 31), .lit (.int .u8 10), .lit (.int .u8 25), .lit (.int .u8 14), .lit (.int .u8 19), .lit (.int .u8 9), .lit (.int .u8 13), .lit (.int .u8 8), .lit (.int .u8 7), .lit (.int .u8 6)]
def laid_internal_strconv_uint64pow10 {H : Type} : DataW H := .agg [.lit (.int .u64 1), .lit (.int .u64 10), .lit (.int .u64 100), .lit (.int .u64 1000), .lit (.int .u64 10000), .lit (.int .u64 100000), .lit (.int .u64 1000000), .lit (.int .u64 10000000), .lit (.int .u64 100000000), .lit (.int .u64 1000000000), .lit (.int .u64 10000000000), .lit (.int .u64 100000000000), .lit (.int .u64 1000000000000), .lit (.int .u64 10000000000000), .lit (.int .u64 100000000000000), .lit (.int .u64 1000000000000000), .lit (.int .u64 10000000000000000), .lit (.int .u64 100000000000000000), .lit (.int .u64 1000000000000000000), .lit (.int .u64 10000000000000000000)]
def laid_loop_example_corbel_impl_editWords {H : Type} : DataW H := .slice [.lit (.string [102, 105, 110, 101]), .lit (.string [102, 111, 114, 109]), .lit (.string [110, 111, 110, 101]), .lit (.string [116, 119, 105, 99, 101]), .lit (.string [102, 117, 108, 108])] []
def laid_loop_example_corbel_impl_kindWords {H : Type} : DataW H := .slice [.lit (.string [115, 116, 111, 114, 101]), .lit (.string [102, 105, 120, 101, 100]), .lit (.string [111, 119, 110])] []
def laid_loop_example_corbel_impl_first {H : Type} : DataW H := .agg [.lit (.int .i64 2000), .lit (.int .i64 1), .lit (.int .i64 1), .lit (.int .i64 0), .lit (.int .i64 0), .lit (.int .i64 0)]

/-- 'laws.FnLocalBent': WHATEVER THE INPUT: true; the input reads as it did. -/
def fnLocalBentSpec : ChangeSpec := { name := "fnLocalBent", vars := ["loop.example/corbel/impl.order"], fn := fun _ => fun
  | [d1, d2, g1] => { results := [.lit (.bool true)], args := [d1, d2], vars := [g1] }
  | _ => none }
def fnLocalBentRow : OpenClaim := { program := "ytnllgghlojppfaagreatdoor", sum := "d7e5df8693f90fc048c104a5dc4158e6d7a8ede7a828bfb6bcf369d9776eb3cc", func := "loop.example/corbel/laws.FnLocalBent", spec := "fnLocalBent", inPlace := ["internal/bytealg.CountString", "internal/bytealg.IndexByteString", "internal/bytealg.IndexString"], named := ["unicode/utf8.first", "unicode/utf8.acceptRanges", "internal/bytealg.MaxLen", "loop.example/corbel/impl.order"], plainKeys := false, apart := false, laid := [("unicode/utf8.acceptRanges", laid_unicode_utf8_acceptRanges), ("loop.example/corbel/impl.order", laid_loop_example_corbel_impl_order), ("unicode/utf8.first", laid_unicode_utf8_first)] }
def FnLocalBentSaid : Prop := fnLocalBentRow.holds Tryz.pinned (OpenSpec.ofChange fnLocalBentSpec)

/-- ITS FALSE NEIGHBOUR: 'it returns false'. Refute it at one input. -/
def fnLocalBentWrong : ChangeSpec := { name := "fnLocalBent", vars := ["loop.example/corbel/impl.order"], fn := fun _ => fun
  | [d1, d2, g1] => { results := [.lit (.bool false)], args := [d1, d2], vars := [g1] }
  | _ => none }
def FnLocalBentWrongFalsely : Prop := fnLocalBentRow.holds Tryz.pinned (OpenSpec.ofChange fnLocalBentWrong)

/-- 'laws.FnLocalTwo': WHATEVER THE INPUT: true; the input reads as it did. -/
def fnLocalTwoSpec : ChangeSpec := { name := "fnLocalTwo", vars := ["loop.example/corbel/impl.order"], fn := fun _ => fun
  | [d1, d2, g1] => { results := [.lit (.bool true)], args := [d1, d2], vars := [g1] }
  | _ => none }
def fnLocalTwoRow : OpenClaim := { program := "ytnllgghlojppfaagreatdoor", sum := "d7e5df8693f90fc048c104a5dc4158e6d7a8ede7a828bfb6bcf369d9776eb3cc", func := "loop.example/corbel/laws.FnLocalTwo", spec := "fnLocalTwo", inPlace := ["internal/bytealg.CountString", "internal/bytealg.IndexByteString", "internal/bytealg.IndexString"], named := ["unicode/utf8.first", "unicode/utf8.acceptRanges", "internal/bytealg.MaxLen", "loop.example/corbel/impl.order"], plainKeys := false, apart := false, laid := [("unicode/utf8.acceptRanges", laid_unicode_utf8_acceptRanges), ("loop.example/corbel/impl.order", laid_loop_example_corbel_impl_order), ("unicode/utf8.first", laid_unicode_utf8_first)] }
def FnLocalTwoSaid : Prop := fnLocalTwoRow.holds Tryz.pinned (OpenSpec.ofChange fnLocalTwoSpec)

/-- ITS FALSE NEIGHBOUR: 'it returns false'. Refute it at one input. -/
def fnLocalTwoWrong : ChangeSpec := { name := "fnLocalTwo", vars := ["loop.example/corbel/impl.order"], fn := fun _ => fun
  | [d1, d2, g1] => { results := [.lit (.bool false)], args := [d1, d2], vars := [g1] }
  | _ => none }
def FnLocalTwoWrongFalsely : Prop := fnLocalTwoRow.holds Tryz.pinned (OpenSpec.ofChange fnLocalTwoWrong)

/-- 'laws.FnLocal': WHATEVER THE INPUT: true; the input reads as it did. -/
def fnLocalSpec : ChangeSpec := { name := "fnLocal", vars := ["loop.example/corbel/impl.order"], fn := fun _ => fun
  | [d1, d2, g1] => { results := [.lit (.bool true)], args := [d1, d2], vars := [g1] }
  | _ => none }
def fnLocalRow : OpenClaim := { program := "ytnllgghlojppfaagreatdoor", sum := "d7e5df8693f90fc048c104a5dc4158e6d7a8ede7a828bfb6bcf369d9776eb3cc", func := "loop.example/corbel/laws.FnLocal", spec := "fnLocal", inPlace := ["internal/bytealg.CountString", "internal/bytealg.IndexByteString", "internal/bytealg.IndexString"], named := ["unicode/utf8.first", "unicode/utf8.acceptRanges", "internal/bytealg.MaxLen", "loop.example/corbel/impl.order"], plainKeys := false, apart := false, laid := [("unicode/utf8.acceptRanges", laid_unicode_utf8_acceptRanges), ("loop.example/corbel/impl.order", laid_loop_example_corbel_impl_order), ("unicode/utf8.first", laid_unicode_utf8_first)] }
def FnLocalSaid : Prop := fnLocalRow.holds Tryz.pinned (OpenSpec.ofChange fnLocalSpec)

/-- ITS FALSE NEIGHBOUR: 'it returns false'. Refute it at one input. -/
def fnLocalWrong : ChangeSpec := { name := "fnLocal", vars := ["loop.example/corbel/impl.order"], fn := fun _ => fun
  | [d1, d2, g1] => { results := [.lit (.bool false)], args := [d1, d2], vars := [g1] }
  | _ => none }
def FnLocalWrongFalsely : Prop := fnLocalRow.holds Tryz.pinned (OpenSpec.ofChange fnLocalWrong)

/-- 'laws.FnExactDiskTear': WHATEVER THE INPUT: true; the input reads as it did. -/
def fnExactDiskTearSpec : ChangeSpec := { name := "fnExactDiskTear", vars := ["loop.example/corbel/impl.order"], fn := fun _ => fun
  | [d1, d2, d3, g1] => { results := [.lit (.bool true)], args := [d1, d2, d3], vars := [g1] }
  | _ => none }
def fnExactDiskTearRow : OpenClaim := { program := "ytnllgghlojppfaagreatdoor", sum := "d7e5df8693f90fc048c104a5dc4158e6d7a8ede7a828bfb6bcf369d9776eb3cc", func := "loop.example/corbel/laws.FnExactDiskTear", spec := "fnExactDiskTear", inPlace := ["internal/bytealg.CountString", "internal/bytealg.IndexByteString", "internal/bytealg.IndexString"], recurses := true, named := ["loop.example/corbel/impl.order", "unicode/utf8.first", "unicode/utf8.acceptRanges", "internal/bytealg.MaxLen", "internal/strconv.uint64pow10", "math/bits.deBruijn32tab", "math/bits.deBruijn64tab"], plainKeys := false, apart := false, laid := [("math/bits.deBruijn32tab", laid_math_bits_deBruijn32tab), ("math/bits.deBruijn64tab", laid_math_bits_deBruijn64tab), ("internal/strconv.uint64pow10", laid_internal_strconv_uint64pow10), ("unicode/utf8.acceptRanges", laid_unicode_utf8_acceptRanges), ("loop.example/corbel/impl.order", laid_loop_example_corbel_impl_order), ("unicode/utf8.first", laid_unicode_utf8_first)] }
def FnExactDiskTearSaid : Prop := fnExactDiskTearRow.holds Tryz.pinned (OpenSpec.ofChange fnExactDiskTearSpec)

/-- ITS FALSE NEIGHBOUR: 'it returns false'. Refute it at one input. -/
def fnExactDiskTearWrong : ChangeSpec := { name := "fnExactDiskTear", vars := ["loop.example/corbel/impl.order"], fn := fun _ => fun
  | [d1, d2, d3, g1] => { results := [.lit (.bool false)], args := [d1, d2, d3], vars := [g1] }
  | _ => none }
def FnExactDiskTearWrongFalsely : Prop := fnExactDiskTearRow.holds Tryz.pinned (OpenSpec.ofChange fnExactDiskTearWrong)

/-- 'laws.FnSessionZip': WHATEVER THE INPUT: true; the input reads as it did. -/
def fnSessionZipSpec : ChangeSpec := { name := "fnSessionZip", vars := ["loop.example/corbel/impl.order", "loop.example/corbel/impl.first", "loop.example/corbel/impl.kindWords", "loop.example/corbel/impl.editWords"], fn := fun _ => fun
  | [d, g1, g2, g3, g4] => { results := [.lit (.bool true)], args := [d], vars := [g1, g2, g3, g4] }
  | _ => none }
def fnSessionZipRow : OpenClaim := { program := "ytnllgghlojppfaagreatdoor", sum := "d7e5df8693f90fc048c104a5dc4158e6d7a8ede7a828bfb6bcf369d9776eb3cc", func := "loop.example/corbel/laws.FnSessionZip", spec := "fnSessionZip", inPlace := ["internal/bytealg.CountString", "internal/bytealg.IndexByteString", "internal/bytealg.IndexString", "internal/abi.NoEscape", "internal/bytealg.MakeNoZero"], unfollowed := true, recurses := true, named := ["unicode/utf8.first", "unicode/utf8.acceptRanges", "internal/bytealg.MaxLen", "loop.example/corbel/impl.order", "loop.example/corbel/impl.first", "loop.example/corbel/impl.kindWords", "loop.example/corbel/impl.editWords", "internal/strconv.uint64pow10", "math/bits.deBruijn32tab", "math/bits.deBruijn64tab"], plainKeys := false, apart := false, laid := [("math/bits.deBruijn32tab", laid_math_bits_deBruijn32tab), ("math/bits.deBruijn64tab", laid_math_bits_deBruijn64tab), ("internal/strconv.uint64pow10", laid_internal_strconv_uint64pow10), ("unicode/utf8.acceptRanges", laid_unicode_utf8_acceptRanges), ("loop.example/corbel/impl.editWords", laid_loop_example_corbel_impl_editWords), ("loop.example/corbel/impl.kindWords", laid_loop_example_corbel_impl_kindWords), ("loop.example/corbel/impl.first", laid_loop_example_corbel_impl_first), ("loop.example/corbel/impl.order", laid_loop_example_corbel_impl_order), ("unicode/utf8.first", laid_unicode_utf8_first)] }
def FnSessionZipSaid : Prop := fnSessionZipRow.holds Tryz.pinned (OpenSpec.ofChange fnSessionZipSpec)

/-- ITS FALSE NEIGHBOUR: 'it returns false'. Refute it at one input. -/
def fnSessionZipWrong : ChangeSpec := { name := "fnSessionZip", vars := ["loop.example/corbel/impl.order", "loop.example/corbel/impl.first", "loop.example/corbel/impl.kindWords", "loop.example/corbel/impl.editWords"], fn := fun _ => fun
  | [d, g1, g2, g3, g4] => { results := [.lit (.bool false)], args := [d], vars := [g1, g2, g3, g4] }
  | _ => none }
def FnSessionZipWrongFalsely : Prop := fnSessionZipRow.holds Tryz.pinned (OpenSpec.ofChange fnSessionZipWrong)

/-- 'laws.FnExactDiskRise': WHATEVER THE INPUT: true; the input reads as it did. -/
def fnExactDiskRiseSpec : ChangeSpec := { name := "fnExactDiskRise", vars := ["loop.example/corbel/impl.order"], fn := fun _ => fun
  | [d, g1] => { results := [.lit (.bool true)], args := [d], vars := [g1] }
  | _ => none }
def fnExactDiskRiseRow : OpenClaim := { program := "ytnllgghlojppfaagreatdoor", sum := "d7e5df8693f90fc048c104a5dc4158e6d7a8ede7a828bfb6bcf369d9776eb3cc", func := "loop.example/corbel/laws.FnExactDiskRise", spec := "fnExactDiskRise", inPlace := ["internal/bytealg.IndexByteString", "internal/bytealg.IndexString", "internal/bytealg.CountString"], named := ["internal/bytealg.MaxLen", "internal/strconv.uint64pow10", "math/bits.deBruijn32tab", "math/bits.deBruijn64tab", "loop.example/corbel/impl.order", "unicode/utf8.first", "unicode/utf8.acceptRanges"], plainKeys := false, apart := false, laid := [("math/bits.deBruijn32tab", laid_math_bits_deBruijn32tab), ("math/bits.deBruijn64tab", laid_math_bits_deBruijn64tab), ("internal/strconv.uint64pow10", laid_internal_strconv_uint64pow10), ("unicode/utf8.acceptRanges", laid_unicode_utf8_acceptRanges), ("loop.example/corbel/impl.order", laid_loop_example_corbel_impl_order), ("unicode/utf8.first", laid_unicode_utf8_first)] }
def FnExactDiskRiseSaid : Prop := fnExactDiskRiseRow.holds Tryz.pinned (OpenSpec.ofChange fnExactDiskRiseSpec)

/-- ITS FALSE NEIGHBOUR: 'it returns false'. Refute it at one input. -/
def fnExactDiskRiseWrong : ChangeSpec := { name := "fnExactDiskRise", vars := ["loop.example/corbel/impl.order"], fn := fun _ => fun
  | [d, g1] => { results := [.lit (.bool false)], args := [d], vars := [g1] }
  | _ => none }
def FnExactDiskRiseWrongFalsely : Prop := fnExactDiskRiseRow.holds Tryz.pinned (OpenSpec.ofChange fnExactDiskRiseWrong)

/-- 'laws.FnTreeUnder': WHATEVER THE INPUT: true; the input reads as it did. -/
def fnTreeUnderSpec : ChangeSpec := { name := "fnTreeUnder", vars := ["loop.example/corbel/impl.order"], fn := fun _ => fun
  | [d, g1] => { results := [.lit (.bool true)], args := [d], vars := [g1] }
  | _ => none }
def fnTreeUnderRow : OpenClaim := { program := "ytnllgghlojppfaagreatdoor", sum := "d7e5df8693f90fc048c104a5dc4158e6d7a8ede7a828bfb6bcf369d9776eb3cc", func := "loop.example/corbel/laws.FnTreeUnder", spec := "fnTreeUnder", inPlace := ["internal/bytealg.CountString", "internal/bytealg.IndexByteString", "internal/bytealg.IndexString", "internal/abi.NoEscape", "internal/bytealg.MakeNoZero"], unfollowed := true, recurses := true, named := ["unicode/utf8.first", "unicode/utf8.acceptRanges", "internal/bytealg.MaxLen", "loop.example/corbel/impl.order"], plainKeys := false, apart := false, laid := [("unicode/utf8.acceptRanges", laid_unicode_utf8_acceptRanges), ("loop.example/corbel/impl.order", laid_loop_example_corbel_impl_order), ("unicode/utf8.first", laid_unicode_utf8_first)] }
def FnTreeUnderSaid : Prop := fnTreeUnderRow.holds Tryz.pinned (OpenSpec.ofChange fnTreeUnderSpec)

/-- ITS FALSE NEIGHBOUR: 'it returns false'. Refute it at one input. -/
def fnTreeUnderWrong : ChangeSpec := { name := "fnTreeUnder", vars := ["loop.example/corbel/impl.order"], fn := fun _ => fun
  | [d, g1] => { results := [.lit (.bool false)], args := [d], vars := [g1] }
  | _ => none }
def FnTreeUnderWrongFalsely : Prop := fnTreeUnderRow.holds Tryz.pinned (OpenSpec.ofChange fnTreeUnderWrong)

/-- 'laws.FnTreeNone': WHATEVER THE INPUT: true; the input reads as it did. -/
def fnTreeNoneSpec : ChangeSpec := { name := "fnTreeNone", vars := ["loop.example/corbel/impl.order"], fn := fun _ => fun
  | [d, g1] => { results := [.lit (.bool true)], args := [d], vars := [g1] }
  | _ => none }
def fnTreeNoneRow : OpenClaim := { program := "ytnllgghlojppfaagreatdoor", sum := "d7e5df8693f90fc048c104a5dc4158e6d7a8ede7a828bfb6bcf369d9776eb3cc", func := "loop.example/corbel/laws.FnTreeNone", spec := "fnTreeNone", inPlace := ["internal/bytealg.CountString", "internal/bytealg.IndexByteString", "internal/bytealg.IndexString", "internal/abi.NoEscape", "internal/bytealg.MakeNoZero"], unfollowed := true, recurses := true, named := ["unicode/utf8.first", "unicode/utf8.acceptRanges", "internal/bytealg.MaxLen", "loop.example/corbel/impl.order"], plainKeys := false, apart := false, laid := [("unicode/utf8.acceptRanges", laid_unicode_utf8_acceptRanges), ("loop.example/corbel/impl.order", laid_loop_example_corbel_impl_order), ("unicode/utf8.first", laid_unicode_utf8_first)] }
def FnTreeNoneSaid : Prop := fnTreeNoneRow.holds Tryz.pinned (OpenSpec.ofChange fnTreeNoneSpec)

/-- ITS FALSE NEIGHBOUR: 'it returns false'. Refute it at one input. -/
def fnTreeNoneWrong : ChangeSpec := { name := "fnTreeNone", vars := ["loop.example/corbel/impl.order"], fn := fun _ => fun
  | [d, g1] => { results := [.lit (.bool false)], args := [d], vars := [g1] }
  | _ => none }
def FnTreeNoneWrongFalsely : Prop := fnTreeNoneRow.holds Tryz.pinned (OpenSpec.ofChange fnTreeNoneWrong)

/-- 'laws.FnZipOrder': WHATEVER THE INPUT: true; the input reads as it did. -/
def fnZipOrderSpec : ChangeSpec := { name := "fnZipOrder", vars := ["loop.example/corbel/impl.order"], fn := fun _ => fun
  | [d, g1] => { results := [.lit (.bool true)], args := [d], vars := [g1] }
  | _ => none }
def fnZipOrderRow : OpenClaim := { program := "ytnllgghlojppfaagreatdoor", sum := "d7e5df8693f90fc048c104a5dc4158e6d7a8ede7a828bfb6bcf369d9776eb3cc", func := "loop.example/corbel/laws.FnZipOrder", spec := "fnZipOrder", inPlace := ["internal/bytealg.CountString", "internal/bytealg.IndexByteString", "internal/bytealg.IndexString", "internal/abi.NoEscape", "internal/bytealg.MakeNoZero"], recurses := true, named := ["unicode/utf8.first", "unicode/utf8.acceptRanges", "internal/bytealg.MaxLen", "loop.example/corbel/impl.order"], plainKeys := false, apart := false, laid := [("unicode/utf8.acceptRanges", laid_unicode_utf8_acceptRanges), ("loop.example/corbel/impl.order", laid_loop_example_corbel_impl_order), ("unicode/utf8.first", laid_unicode_utf8_first)] }
def FnZipOrderSaid : Prop := fnZipOrderRow.holds Tryz.pinned (OpenSpec.ofChange fnZipOrderSpec)

/-- ITS FALSE NEIGHBOUR: 'it returns false'. Refute it at one input. -/
def fnZipOrderWrong : ChangeSpec := { name := "fnZipOrder", vars := ["loop.example/corbel/impl.order"], fn := fun _ => fun
  | [d, g1] => { results := [.lit (.bool false)], args := [d], vars := [g1] }
  | _ => none }
def FnZipOrderWrongFalsely : Prop := fnZipOrderRow.holds Tryz.pinned (OpenSpec.ofChange fnZipOrderWrong)

/-- 'laws.FnLocalGet': WHATEVER THE INPUT: true; the input reads as it did. -/
def fnLocalGetSpec : ChangeSpec := { name := "fnLocalGet", vars := ["loop.example/corbel/impl.order"], fn := fun _ => fun
  | [d, g1] => { results := [.lit (.bool true)], args := [d], vars := [g1] }
  | _ => none }
def fnLocalGetRow : OpenClaim := { program := "ytnllgghlojppfaagreatdoor", sum := "d7e5df8693f90fc048c104a5dc4158e6d7a8ede7a828bfb6bcf369d9776eb3cc", func := "loop.example/corbel/laws.FnLocalGet", spec := "fnLocalGet", inPlace := ["internal/bytealg.CountString", "internal/bytealg.IndexByteString", "internal/bytealg.IndexString"], named := ["loop.example/corbel/impl.order", "unicode/utf8.first", "unicode/utf8.acceptRanges", "internal/bytealg.MaxLen"], plainKeys := false, apart := false, laid := [("unicode/utf8.acceptRanges", laid_unicode_utf8_acceptRanges), ("loop.example/corbel/impl.order", laid_loop_example_corbel_impl_order), ("unicode/utf8.first", laid_unicode_utf8_first)] }
def FnLocalGetSaid : Prop := fnLocalGetRow.holds Tryz.pinned (OpenSpec.ofChange fnLocalGetSpec)

/-- ITS FALSE NEIGHBOUR: 'it returns false'. Refute it at one input. -/
def fnLocalGetWrong : ChangeSpec := { name := "fnLocalGet", vars := ["loop.example/corbel/impl.order"], fn := fun _ => fun
  | [d, g1] => { results := [.lit (.bool false)], args := [d], vars := [g1] }
  | _ => none }
def FnLocalGetWrongFalsely : Prop := fnLocalGetRow.holds Tryz.pinned (OpenSpec.ofChange fnLocalGetWrong)

/-- 'laws.FnZipCut': WHATEVER THE INPUT: true; the input reads as it did. -/
def fnZipCutSpec : ChangeSpec := { name := "fnZipCut", vars := ["loop.example/corbel/impl.order"], fn := fun _ => fun
  | [d, g1] => { results := [.lit (.bool true)], args := [d], vars := [g1] }
  | _ => none }
def fnZipCutRow : OpenClaim := { program := "ytnllgghlojppfaagreatdoor", sum := "d7e5df8693f90fc048c104a5dc4158e6d7a8ede7a828bfb6bcf369d9776eb3cc", func := "loop.example/corbel/laws.FnZipCut", spec := "fnZipCut", inPlace := ["internal/bytealg.CountString", "internal/bytealg.IndexByteString", "internal/bytealg.IndexString", "internal/abi.NoEscape", "internal/bytealg.MakeNoZero"], recurses := true, named := ["unicode/utf8.first", "unicode/utf8.acceptRanges", "internal/bytealg.MaxLen", "loop.example/corbel/impl.order"], plainKeys := false, apart := false, laid := [("unicode/utf8.acceptRanges", laid_unicode_utf8_acceptRanges), ("loop.example/corbel/impl.order", laid_loop_example_corbel_impl_order), ("unicode/utf8.first", laid_unicode_utf8_first)] }
def FnZipCutSaid : Prop := fnZipCutRow.holds Tryz.pinned (OpenSpec.ofChange fnZipCutSpec)

/-- ITS FALSE NEIGHBOUR: 'it returns false'. Refute it at one input. -/
def fnZipCutWrong : ChangeSpec := { name := "fnZipCut", vars := ["loop.example/corbel/impl.order"], fn := fun _ => fun
  | [d, g1] => { results := [.lit (.bool false)], args := [d], vars := [g1] }
  | _ => none }
def FnZipCutWrongFalsely : Prop := fnZipCutRow.holds Tryz.pinned (OpenSpec.ofChange fnZipCutWrong)

/-- 'laws.FnZipHeads': WHATEVER THE INPUT: true; the input reads as it did. -/
def fnZipHeadsSpec : ChangeSpec := { name := "fnZipHeads", vars := ["loop.example/corbel/impl.order"], fn := fun _ => fun
  | [d1, d2, g1] => { results := [.lit (.bool true)], args := [d1, d2], vars := [g1] }
  | _ => none }
def fnZipHeadsRow : OpenClaim := { program := "ytnllgghlojppfaagreatdoor", sum := "d7e5df8693f90fc048c104a5dc4158e6d7a8ede7a828bfb6bcf369d9776eb3cc", func := "loop.example/corbel/laws.FnZipHeads", spec := "fnZipHeads", inPlace := ["internal/bytealg.CountString", "internal/bytealg.IndexByteString", "internal/bytealg.IndexString", "internal/abi.NoEscape", "internal/bytealg.MakeNoZero"], recurses := true, named := ["unicode/utf8.first", "unicode/utf8.acceptRanges", "internal/bytealg.MaxLen", "loop.example/corbel/impl.order"], plainKeys := false, apart := false, laid := [("unicode/utf8.acceptRanges", laid_unicode_utf8_acceptRanges), ("loop.example/corbel/impl.order", laid_loop_example_corbel_impl_order), ("unicode/utf8.first", laid_unicode_utf8_first)] }
def FnZipHeadsSaid : Prop := fnZipHeadsRow.holds Tryz.pinned (OpenSpec.ofChange fnZipHeadsSpec)

/-- ITS FALSE NEIGHBOUR: 'it returns false'. Refute it at one input. -/
def fnZipHeadsWrong : ChangeSpec := { name := "fnZipHeads", vars := ["loop.example/corbel/impl.order"], fn := fun _ => fun
  | [d1, d2, g1] => { results := [.lit (.bool false)], args := [d1, d2], vars := [g1] }
  | _ => none }
def FnZipHeadsWrongFalsely : Prop := fnZipHeadsRow.holds Tryz.pinned (OpenSpec.ofChange fnZipHeadsWrong)

/- THE SECOND FORM. 'bulk': how many values and letters a reading holds, each counted each time it is reached (what is shared counts as often as it is met; a slice's spare places count too). A statement '..UptoSaid' is the law's where the arguments, and the package variables that the reading takes, are together of bulk at most 1048576: NARROWER than '..Said'. Prove '..Said' where nothing that the law and all that it calls make is longer than what came in: it says more and counts as full. Else prove '..UptoSaid'. A law counts once. -/
mutual
def uptoBulk {H : Type} : DataW H → Nat
  | .lit (.string bytes) => bytes.length + 1
  | .lit _ => 1
  | .nil => 1
  | .ptr d => uptoBulk d + 1
  | .slice elems spare => uptoBulkAll elems + uptoBulkAll spare + 1
  | .agg parts => uptoBulkAll parts + 1
  | .iface _ d => uptoBulk d + 1
  | .map entries => uptoBulkEntries entries + 1
  | .held _ => 1
def uptoBulkAll {H : Type} : List (DataW H) → Nat
  | [] => 0
  | d :: r => uptoBulk d + uptoBulkAll r
def uptoBulkEntries {H : Type} : List (Lit × DataW H) → Nat
  | [] => 0
  | x :: r => uptoBulkEntry x + uptoBulkEntries r
def uptoBulkEntry {H : Type} : Lit × DataW H → Nat
  | (.string bytes, d) => bytes.length + uptoBulk d + 1
  | (_, d) => uptoBulk d + 1
 end
def uptoSmall : (H : Type) → List (DataW H) → Bool := fun _ ds => decide (uptoBulkAll ds ≤ 1048576)
def OpenSpec.upto (s : _root_.Go.ChangeSpec) : _root_.Go.OpenSpec := { _root_.Go.OpenSpec.ofChange s with cond := some uptoSmall }

/-- 'laws.FnLocalBent', WHERE WHAT IT READS IS OF BULK AT MOST 1048576: true; the input reads as it did. -/
def fnLocalBentUptoRow : OpenClaim := { program := "ytnllgghlojppfaagreatdoor", sum := "d7e5df8693f90fc048c104a5dc4158e6d7a8ede7a828bfb6bcf369d9776eb3cc", func := "loop.example/corbel/laws.FnLocalBent", spec := "fnLocalBent", inPlace := ["internal/bytealg.CountString", "internal/bytealg.IndexByteString", "internal/bytealg.IndexString"], named := ["unicode/utf8.first", "unicode/utf8.acceptRanges", "internal/bytealg.MaxLen", "loop.example/corbel/impl.order"], plainKeys := false, apart := false, laid := [("unicode/utf8.acceptRanges", laid_unicode_utf8_acceptRanges), ("loop.example/corbel/impl.order", laid_loop_example_corbel_impl_order), ("unicode/utf8.first", laid_unicode_utf8_first)], narrowed := true }
def FnLocalBentUptoSaid : Prop := fnLocalBentUptoRow.holds Tryz.pinned (OpenSpec.upto fnLocalBentSpec)

/-- 'laws.FnLocalTwo', WHERE WHAT IT READS IS OF BULK AT MOST 1048576: true; the input reads as it did. -/
def fnLocalTwoUptoRow : OpenClaim := { program := "ytnllgghlojppfaagreatdoor", sum := "d7e5df8693f90fc048c104a5dc4158e6d7a8ede7a828bfb6bcf369d9776eb3cc", func := "loop.example/corbel/laws.FnLocalTwo", spec := "fnLocalTwo", inPlace := ["internal/bytealg.CountString", "internal/bytealg.IndexByteString", "internal/bytealg.IndexString"], named := ["unicode/utf8.first", "unicode/utf8.acceptRanges", "internal/bytealg.MaxLen", "loop.example/corbel/impl.order"], plainKeys := false, apart := false, laid := [("unicode/utf8.acceptRanges", laid_unicode_utf8_acceptRanges), ("loop.example/corbel/impl.order", laid_loop_example_corbel_impl_order), ("unicode/utf8.first", laid_unicode_utf8_first)], narrowed := true }
def FnLocalTwoUptoSaid : Prop := fnLocalTwoUptoRow.holds Tryz.pinned (OpenSpec.upto fnLocalTwoSpec)

/-- 'laws.FnLocal', WHERE WHAT IT READS IS OF BULK AT MOST 1048576: true; the input reads as it did. -/
def fnLocalUptoRow : OpenClaim := { program := "ytnllgghlojppfaagreatdoor", sum := "d7e5df8693f90fc048c104a5dc4158e6d7a8ede7a828bfb6bcf369d9776eb3cc", func := "loop.example/corbel/laws.FnLocal", spec := "fnLocal", inPlace := ["internal/bytealg.CountString", "internal/bytealg.IndexByteString", "internal/bytealg.IndexString"], named := ["unicode/utf8.first", "unicode/utf8.acceptRanges", "internal/bytealg.MaxLen", "loop.example/corbel/impl.order"], plainKeys := false, apart := false, laid := [("unicode/utf8.acceptRanges", laid_unicode_utf8_acceptRanges), ("loop.example/corbel/impl.order", laid_loop_example_corbel_impl_order), ("unicode/utf8.first", laid_unicode_utf8_first)], narrowed := true }
def FnLocalUptoSaid : Prop := fnLocalUptoRow.holds Tryz.pinned (OpenSpec.upto fnLocalSpec)

/-- 'laws.FnExactDiskTear', WHERE WHAT IT READS IS OF BULK AT MOST 1048576: true; the input reads as it did. -/
def fnExactDiskTearUptoRow : OpenClaim := { program := "ytnllgghlojppfaagreatdoor", sum := "d7e5df8693f90fc048c104a5dc4158e6d7a8ede7a828bfb6bcf369d9776eb3cc", func := "loop.example/corbel/laws.FnExactDiskTear", spec := "fnExactDiskTear", inPlace := ["internal/bytealg.CountString", "internal/bytealg.IndexByteString", "internal/bytealg.IndexString"], recurses := true, named := ["loop.example/corbel/impl.order", "unicode/utf8.first", "unicode/utf8.acceptRanges", "internal/bytealg.MaxLen", "internal/strconv.uint64pow10", "math/bits.deBruijn32tab", "math/bits.deBruijn64tab"], plainKeys := false, apart := false, laid := [("math/bits.deBruijn32tab", laid_math_bits_deBruijn32tab), ("math/bits.deBruijn64tab", laid_math_bits_deBruijn64tab), ("internal/strconv.uint64pow10", laid_internal_strconv_uint64pow10), ("unicode/utf8.acceptRanges", laid_unicode_utf8_acceptRanges), ("loop.example/corbel/impl.order", laid_loop_example_corbel_impl_order), ("unicode/utf8.first", laid_unicode_utf8_first)], narrowed := true }
def FnExactDiskTearUptoSaid : Prop := fnExactDiskTearUptoRow.holds Tryz.pinned (OpenSpec.upto fnExactDiskTearSpec)

/-- 'laws.FnSessionZip', WHERE WHAT IT READS IS OF BULK AT MOST 1048576: true; the input reads as it did. -/
def fnSessionZipUptoRow : OpenClaim := { program := "ytnllgghlojppfaagreatdoor", sum := "d7e5df8693f90fc048c104a5dc4158e6d7a8ede7a828bfb6bcf369d9776eb3cc", func := "loop.example/corbel/laws.FnSessionZip", spec := "fnSessionZip", inPlace := ["internal/bytealg.CountString", "internal/bytealg.IndexByteString", "internal/bytealg.IndexString", "internal/abi.NoEscape", "internal/bytealg.MakeNoZero"], unfollowed := true, recurses := true, named := ["unicode/utf8.first", "unicode/utf8.acceptRanges", "internal/bytealg.MaxLen", "loop.example/corbel/impl.order", "loop.example/corbel/impl.first", "loop.example/corbel/impl.kindWords", "loop.example/corbel/impl.editWords", "internal/strconv.uint64pow10", "math/bits.deBruijn32tab", "math/bits.deBruijn64tab"], plainKeys := false, apart := false, laid := [("math/bits.deBruijn32tab", laid_math_bits_deBruijn32tab), ("math/bits.deBruijn64tab", laid_math_bits_deBruijn64tab), ("internal/strconv.uint64pow10", laid_internal_strconv_uint64pow10), ("unicode/utf8.acceptRanges", laid_unicode_utf8_acceptRanges), ("loop.example/corbel/impl.editWords", laid_loop_example_corbel_impl_editWords), ("loop.example/corbel/impl.kindWords", laid_loop_example_corbel_impl_kindWords), ("loop.example/corbel/impl.first", laid_loop_example_corbel_impl_first), ("loop.example/corbel/impl.order", laid_loop_example_corbel_impl_order), ("unicode/utf8.first", laid_unicode_utf8_first)], narrowed := true }
def FnSessionZipUptoSaid : Prop := fnSessionZipUptoRow.holds Tryz.pinned (OpenSpec.upto fnSessionZipSpec)

/-- 'laws.FnExactDiskRise', WHERE WHAT IT READS IS OF BULK AT MOST 1048576: true; the input reads as it did. -/
def fnExactDiskRiseUptoRow : OpenClaim := { program := "ytnllgghlojppfaagreatdoor", sum := "d7e5df8693f90fc048c104a5dc4158e6d7a8ede7a828bfb6bcf369d9776eb3cc", func := "loop.example/corbel/laws.FnExactDiskRise", spec := "fnExactDiskRise", inPlace := ["internal/bytealg.IndexByteString", "internal/bytealg.IndexString", "internal/bytealg.CountString"], named := ["internal/bytealg.MaxLen", "internal/strconv.uint64pow10", "math/bits.deBruijn32tab", "math/bits.deBruijn64tab", "loop.example/corbel/impl.order", "unicode/utf8.first", "unicode/utf8.acceptRanges"], plainKeys := false, apart := false, laid := [("math/bits.deBruijn32tab", laid_math_bits_deBruijn32tab), ("math/bits.deBruijn64tab", laid_math_bits_deBruijn64tab), ("internal/strconv.uint64pow10", laid_internal_strconv_uint64pow10), ("unicode/utf8.acceptRanges", laid_unicode_utf8_acceptRanges), ("loop.example/corbel/impl.order", laid_loop_example_corbel_impl_order), ("unicode/utf8.first", laid_unicode_utf8_first)], narrowed := true }
def FnExactDiskRiseUptoSaid : Prop := fnExactDiskRiseUptoRow.holds Tryz.pinned (OpenSpec.upto fnExactDiskRiseSpec)

/-- 'laws.FnTreeUnder', WHERE WHAT IT READS IS OF BULK AT MOST 1048576: true; the input reads as it did. -/
def fnTreeUnderUptoRow : OpenClaim := { program := "ytnllgghlojppfaagreatdoor", sum := "d7e5df8693f90fc048c104a5dc4158e6d7a8ede7a828bfb6bcf369d9776eb3cc", func := "loop.example/corbel/laws.FnTreeUnder", spec := "fnTreeUnder", inPlace := ["internal/bytealg.CountString", "internal/bytealg.IndexByteString", "internal/bytealg.IndexString", "internal/abi.NoEscape", "internal/bytealg.MakeNoZero"], unfollowed := true, recurses := true, named := ["unicode/utf8.first", "unicode/utf8.acceptRanges", "internal/bytealg.MaxLen", "loop.example/corbel/impl.order"], plainKeys := false, apart := false, laid := [("unicode/utf8.acceptRanges", laid_unicode_utf8_acceptRanges), ("loop.example/corbel/impl.order", laid_loop_example_corbel_impl_order), ("unicode/utf8.first", laid_unicode_utf8_first)], narrowed := true }
def FnTreeUnderUptoSaid : Prop := fnTreeUnderUptoRow.holds Tryz.pinned (OpenSpec.upto fnTreeUnderSpec)

/-- 'laws.FnTreeNone', WHERE WHAT IT READS IS OF BULK AT MOST 1048576: true; the input reads as it did. -/
def fnTreeNoneUptoRow : OpenClaim := { program := "ytnllgghlojppfaagreatdoor", sum := "d7e5df8693f90fc048c104a5dc4158e6d7a8ede7a828bfb6bcf369d9776eb3cc", func := "loop.example/corbel/laws.FnTreeNone", spec := "fnTreeNone", inPlace := ["internal/bytealg.CountString", "internal/bytealg.IndexByteString", "internal/bytealg.IndexString", "internal/abi.NoEscape", "internal/bytealg.MakeNoZero"], unfollowed := true, recurses := true, named := ["unicode/utf8.first", "unicode/utf8.acceptRanges", "internal/bytealg.MaxLen", "loop.example/corbel/impl.order"], plainKeys := false, apart := false, laid := [("unicode/utf8.acceptRanges", laid_unicode_utf8_acceptRanges), ("loop.example/corbel/impl.order", laid_loop_example_corbel_impl_order), ("unicode/utf8.first", laid_unicode_utf8_first)], narrowed := true }
def FnTreeNoneUptoSaid : Prop := fnTreeNoneUptoRow.holds Tryz.pinned (OpenSpec.upto fnTreeNoneSpec)

/-- 'laws.FnZipOrder', WHERE WHAT IT READS IS OF BULK AT MOST 1048576: true; the input reads as it did. -/
def fnZipOrderUptoRow : OpenClaim := { program := "ytnllgghlojppfaagreatdoor", sum := "d7e5df8693f90fc048c104a5dc4158e6d7a8ede7a828bfb6bcf369d9776eb3cc", func := "loop.example/corbel/laws.FnZipOrder", spec := "fnZipOrder", inPlace := ["internal/bytealg.CountString", "internal/bytealg.IndexByteString", "internal/bytealg.IndexString", "internal/abi.NoEscape", "internal/bytealg.MakeNoZero"], recurses := true, named := ["unicode/utf8.first", "unicode/utf8.acceptRanges", "internal/bytealg.MaxLen", "loop.example/corbel/impl.order"], plainKeys := false, apart := false, laid := [("unicode/utf8.acceptRanges", laid_unicode_utf8_acceptRanges), ("loop.example/corbel/impl.order", laid_loop_example_corbel_impl_order), ("unicode/utf8.first", laid_unicode_utf8_first)], narrowed := true }
def FnZipOrderUptoSaid : Prop := fnZipOrderUptoRow.holds Tryz.pinned (OpenSpec.upto fnZipOrderSpec)

/-- 'laws.FnLocalGet', WHERE WHAT IT READS IS OF BULK AT MOST 1048576: true; the input reads as it did. -/
def fnLocalGetUptoRow : OpenClaim := { program := "ytnllgghlojppfaagreatdoor", sum := "d7e5df8693f90fc048c104a5dc4158e6d7a8ede7a828bfb6bcf369d9776eb3cc", func := "loop.example/corbel/laws.FnLocalGet", spec := "fnLocalGet", inPlace := ["internal/bytealg.CountString", "internal/bytealg.IndexByteString", "internal/bytealg.IndexString"], named := ["loop.example/corbel/impl.order", "unicode/utf8.first", "unicode/utf8.acceptRanges", "internal/bytealg.MaxLen"], plainKeys := false, apart := false, laid := [("unicode/utf8.acceptRanges", laid_unicode_utf8_acceptRanges), ("loop.example/corbel/impl.order", laid_loop_example_corbel_impl_order), ("unicode/utf8.first", laid_unicode_utf8_first)], narrowed := true }
def FnLocalGetUptoSaid : Prop := fnLocalGetUptoRow.holds Tryz.pinned (OpenSpec.upto fnLocalGetSpec)

/-- 'laws.FnZipCut', WHERE WHAT IT READS IS OF BULK AT MOST 1048576: true; the input reads as it did. -/
def fnZipCutUptoRow : OpenClaim := { program := "ytnllgghlojppfaagreatdoor", sum := "d7e5df8693f90fc048c104a5dc4158e6d7a8ede7a828bfb6bcf369d9776eb3cc", func := "loop.example/corbel/laws.FnZipCut", spec := "fnZipCut", inPlace := ["internal/bytealg.CountString", "internal/bytealg.IndexByteString", "internal/bytealg.IndexString", "internal/abi.NoEscape", "internal/bytealg.MakeNoZero"], recurses := true, named := ["unicode/utf8.first", "unicode/utf8.acceptRanges", "internal/bytealg.MaxLen", "loop.example/corbel/impl.order"], plainKeys := false, apart := false, laid := [("unicode/utf8.acceptRanges", laid_unicode_utf8_acceptRanges), ("loop.example/corbel/impl.order", laid_loop_example_corbel_impl_order), ("unicode/utf8.first", laid_unicode_utf8_first)], narrowed := true }
def FnZipCutUptoSaid : Prop := fnZipCutUptoRow.holds Tryz.pinned (OpenSpec.upto fnZipCutSpec)

/-- 'laws.FnZipHeads', WHERE WHAT IT READS IS OF BULK AT MOST 1048576: true; the input reads as it did. -/
def fnZipHeadsUptoRow : OpenClaim := { program := "ytnllgghlojppfaagreatdoor", sum := "d7e5df8693f90fc048c104a5dc4158e6d7a8ede7a828bfb6bcf369d9776eb3cc", func := "loop.example/corbel/laws.FnZipHeads", spec := "fnZipHeads", inPlace := ["internal/bytealg.CountString", "internal/bytealg.IndexByteString", "internal/bytealg.IndexString", "internal/abi.NoEscape", "internal/bytealg.MakeNoZero"], recurses := true, named := ["unicode/utf8.first", "unicode/utf8.acceptRanges", "internal/bytealg.MaxLen", "loop.example/corbel/impl.order"], plainKeys := false, apart := false, laid := [("unicode/utf8.acceptRanges", laid_unicode_utf8_acceptRanges), ("loop.example/corbel/impl.order", laid_loop_example_corbel_impl_order), ("unicode/utf8.first", laid_unicode_utf8_first)], narrowed := true }
def FnZipHeadsUptoSaid : Prop := fnZipHeadsUptoRow.holds Tryz.pinned (OpenSpec.upto fnZipHeadsSpec)

end Rows
end Go.Proofs.YtnllgghlojppfaaGreatDoor
