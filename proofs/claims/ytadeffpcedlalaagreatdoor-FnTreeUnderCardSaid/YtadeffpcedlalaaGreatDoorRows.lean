/-
  NARROWER THAN 'FOR EVERY INPUT', by the rows' own cells (each row's printed sentence says how): FnTreeUnder: laid · FnTreeNone: laid · FnZipOrder: laid · FnLocalGet: laid · FnZipCut: laid · FnZipHeads: laid · FnZip: laid · FnDiskOver: laid · FnDiskTear: laid · FnDiskRise: laid · FnDiskNew: laid · FnZipGet: laid.
  DERIVED. THE GIVEN ROWS OF THIS SEAT. 12 by the template 'for every input the law returns true; each argument reads behind the call as it read before'; 0 by the template 'total and deterministic' (their statements: YtadeffpcedlalaaGreatDoorTotals.lean).
  GIVEN WITH THE SEED: the statements are not yours to turn. If you find one false, say at which input.
  Laid BY PROGRAM, IN A SANDBOX (cutbox-rows.mjs): the forced cells as the released guide's own fill.sh prints them over the translation 2e195bc5f0b04f35… (all of the seat's roots in one cut). By AI agents, Wed Nov 11 2026. No macro, syntax, notation, axiom, sorry.
-/
import Derived.Test.YtadeffpcedlalaaGreatDoorChecked
import GoSem.PinnedTables
import GoSem.Claim
import GoSem.ClaimJoined
import GoSem.ClaimMapViews
import Derived.JoinedTies
import Derived.KernelRfl
namespace Go.Proofs.YtadeffpcedlalaaGreatDoor
/- THE CELL 'sum', in the pinned program and in every row, IS THE sha256 OF THE DUMP (.gsa) THAT YtadeffpcedlalaaGreatDoorProg.lean LOADS. Nothing in Lean hashes anything: it is a label: what it is worth is what the hold of that sum in a sandbox is worth. -/
noncomputable def Tryz.pinned : Pinned := { name := "ytadeffpcedlalaagreatdoor", sum := "2e195bc5f0b04f35cb37043fdca2be5522340e2d85c4232661fbc2610d370cdb", checked := Tryz.checked }
namespace Rows
def none {H : Type} : Left H := { results := [], args := [] }

/- WHAT THE LISTED PACKAGE-LEVEL VARIABLES READ AS WHEN THE CALL BEGINS. Each datum BY PROGRAM (the guide's laid-datum.mjs) off the statement by which the dump's own 'gosem.cut.vars' lays the variable. In a bare row this is a premise. The card (YtadeffpcedlalaaGreatDoorCards.lean) ties it to the program's text. -/
def laid_unicode_utf8_acceptRanges {H : Type} : DataW H := .agg [.agg [.lit (.int .u8 128), .lit (.int .u8 191)], .agg [.lit (.int .u8 160), .lit (.int .u8 191)], .agg [.lit (.int .u8 128), .lit (.int .u8 159)], .agg [.lit (.int .u8 144), .lit (.int .u8 191)], .agg [.lit (.int .u8 128), .lit (.int .u8 143)], .agg [.lit (.int .u8 0), .lit (.int .u8 0)], .agg [.lit (.int .u8 0), .lit (.int .u8 0)], .agg [.lit (.int .u8 0), .lit (.int .u8 0)], .agg [.lit (.int .u8 0), .lit (.int .u8 0)], .agg [.lit (.int .u8 0), .lit (.int .u8 0)], .agg [.lit (.int .u8 0), .lit (.int .u8 0)], .agg [.lit (.int .u8 0), .lit (.int .u8 0)], .agg [.lit (.int .u8 0), .lit (.int .u8 0)], .agg [.lit (.int .u8 0), .lit (.int .u8 0)], .agg [.lit (.int .u8 0), .lit (.int .u8 0)], .agg [.lit (.int .u8 0), .lit (.int .u8 0)]]
def laid_loop_example_corbel_impl_order {H : Type} : DataW H := .slice [.lit (.int .i64 16), .lit (.int .i64 17), .lit (.int .i64 18), .lit (.int .i64 0), .lit (.int .i64 8), .lit (.int .i64 7), .lit (.int .i64 9), .lit (.int .i64 6), .lit (.int .i64 10), .lit (.int .i64 5), .lit (.int .i64 11), .lit (.int .i64 4), .lit (.int .i64 12), .lit (.int .i64 3), .lit (.int .i64 13), .lit (.int .i64 2), .lit (.int .i64 14), .lit (.int .i64 1), .lit (.int .i64 15)] []
/-- One of Go's own tables, pinned by name: the form's constant. -/
def laid_unicode_utf8_first : DataW Unit := Go.Pinned.utf8First
def laid_math_bits_deBruijn32tab {H : Type} : DataW H := .agg [.lit (.int .u8 0), .lit (.int .u8 1), .lit (.int .u8 28), .lit (.int .u8 2), .lit (.int .u8 29), .lit (.int .u8 14), .lit (.int .u8 24), .lit (.int .u8 3), .lit (.int .u8 30), .lit (.int .u8 22), .lit (.int .u8 20), .lit (.int .u8 15), .lit (.int .u8 25), .lit (.int .u8 17), .lit (.int .u8 4), .lit (.int .u8 8), .lit (.int .u8 31), .lit (.int .u8 27), .lit (.int .u8 13), .lit (.int .u8 23), .lit (.int .u8 21), .lit (.int .u8 19), .lit (.int .u8 16), .lit (.int .u8 7), .lit (.int .u8 26), .lit (.int .u8 12), .lit (.int .u8 18), .lit (.int .u8 6), .lit (.int .u8 11), .lit (.int .u8 5), .lit (.int .u8 10), .lit (.int .u8 9)]
def laid_math_bits_deBruijn64tab {H : Type} : DataW H := .agg [.lit (.int .u8 0), .lit (.int .u8 1), .lit (.int .u8 56), .lit (.int .u8 2), .lit (.int .u8 57), .lit (.int .u8 49), .lit (.int .u8 28), .lit (.int .u8 3), .lit (.int .u8 61), .lit (.int .u8 58), .lit (.int .u8 42), .lit (.int .u8 50), .lit (.int .u8 38), .lit (.int .u8 29), .lit (.int .u8 17), .lit (.int .u8 4), .lit (.int .u8 62), .lit (.int .u8 47), .lit (.int .u8 59), .lit (.int .u8 36), .lit (.int .u8 45), .lit (.int .u8 43), .lit (.int .u8 51), .lit (.int .u8 22), .lit (.int .u8 53), .lit (.int .u8 39), .lit (.int .u8 33), .lit (.int .u8 30), .lit (.int .u8 24), .lit (.int .u8 18), .lit (.int .u8 12), .lit (.int .u8 5), .lit (.int .u8 63), .lit (.int .u8 55), .lit (.int .u8 48), .lit (.int .u8 27), .lit (.int .u8 60), .lit (.int .u8 41), .lit (.int .u8 37), .lit (.int .u8 16), .lit (.int .u8 46), .lit (.int .u8 35), .lit (.int .u8 44), .lit (.int .u8 21), .lit (.int .u8 52), .lit (.int .u8 32), .lit (.int .u8 23), .lit (.int .u8 11), .lit (.int .u8 54), .lit (.int .u8 26), .lit (.int .u8 40), .lit (.int .u8 15), .lit (.int .u8 34), .lit (.int .u8 20), .lit (.int .u8 31), .lit (.int .u8 10), .lit (.int .u8 25), .lit (.int .u8 14), .lit (.int .u8 19), .lit (.int .u8 9), .lit (.int .u8 13), .lit (.int .u8 8), .lit (.int .u8 7), .lit (.int .u8 6)]
def laid_internal_strconv_uint64pow10 {H : Type} : DataW H := .agg [.lit (.int .u64 1), .lit (.int .u64 10), .lit (.int .u64 100), .lit (.int .u64 1000), .lit (.int .u64 10000), .lit (.int .u64 100000), .lit (.int .u64 1000000), .lit (.int .u64 10000000), .lit (.int .u64 100000000), .lit (.int .u64 1000000000), .lit (.int .u64 10000000000), .lit (.int .u64 100000000000), .lit (.int .u64 1000000000000), .lit (.int .u64 10000000000000), .lit (.int .u64 100000000000000), .lit (.int .u64 1000000000000000), .lit (.int .u64 10000000000000000), .lit (.int .u64 100000000000000000), .lit (.int .u64 1000000000000000000), .lit (.int .u64 10000000000000000000)]

/-- 'laws.FnTreeUnder': WHATEVER THE INPUT: true; the input reads as it did. -/
def fnTreeUnderSpec : ChangeSpec := { name := "fnTreeUnder", vars := ["loop.example/corbel/impl.order"], fn := fun _ => fun
  | [d, g1] => { results := [.lit (.bool true)], args := [d], vars := [g1] }
  | _ => none }
def fnTreeUnderRow : OpenClaim := { program := "ytadeffpcedlalaagreatdoor", sum := "2e195bc5f0b04f35cb37043fdca2be5522340e2d85c4232661fbc2610d370cdb", func := "loop.example/corbel/laws.FnTreeUnder", spec := "fnTreeUnder", inPlace := ["internal/bytealg.CountString", "internal/bytealg.IndexByteString", "internal/bytealg.IndexString", "internal/abi.NoEscape", "internal/bytealg.MakeNoZero"], unfollowed := true, recurses := true, named := ["unicode/utf8.first", "unicode/utf8.acceptRanges", "internal/bytealg.MaxLen", "loop.example/corbel/impl.order"], plainKeys := false, apart := false, laid := [("unicode/utf8.acceptRanges", laid_unicode_utf8_acceptRanges), ("loop.example/corbel/impl.order", laid_loop_example_corbel_impl_order), ("unicode/utf8.first", laid_unicode_utf8_first)] }
def FnTreeUnderSaid : Prop := fnTreeUnderRow.holds Tryz.pinned (OpenSpec.ofChange fnTreeUnderSpec)

/-- ITS FALSE NEIGHBOUR: 'it returns false'. Refute it at one input. -/
def fnTreeUnderWrong : ChangeSpec := { name := "fnTreeUnder", vars := ["loop.example/corbel/impl.order"], fn := fun _ => fun
  | [d, g1] => { results := [.lit (.bool false)], args := [d], vars := [g1] }
  | _ => none }
def FnTreeUnderWrongFalsely : Prop := fnTreeUnderRow.holds Tryz.pinned (OpenSpec.ofChange fnTreeUnderWrong)

/-- 'laws.FnTreeNone': WHATEVER THE INPUT: true; the input reads as it did. -/
def fnTreeNoneSpec : ChangeSpec := { name := "fnTreeNone", vars := ["loop.example/corbel/impl.order"], fn := fun _ => fun
  | [d, g1] => { results := [.lit (.bool true)], args := [d], vars := [g1] }
  | _ => none }
def fnTreeNoneRow : OpenClaim := { program := "ytadeffpcedlalaagreatdoor", sum := "2e195bc5f0b04f35cb37043fdca2be5522340e2d85c4232661fbc2610d370cdb", func := "loop.example/corbel/laws.FnTreeNone", spec := "fnTreeNone", inPlace := ["internal/bytealg.CountString", "internal/bytealg.IndexByteString", "internal/bytealg.IndexString", "internal/abi.NoEscape", "internal/bytealg.MakeNoZero"], unfollowed := true, recurses := true, named := ["unicode/utf8.first", "unicode/utf8.acceptRanges", "internal/bytealg.MaxLen", "loop.example/corbel/impl.order"], plainKeys := false, apart := false, laid := [("unicode/utf8.acceptRanges", laid_unicode_utf8_acceptRanges), ("loop.example/corbel/impl.order", laid_loop_example_corbel_impl_order), ("unicode/utf8.first", laid_unicode_utf8_first)] }
def FnTreeNoneSaid : Prop := fnTreeNoneRow.holds Tryz.pinned (OpenSpec.ofChange fnTreeNoneSpec)

/-- ITS FALSE NEIGHBOUR: 'it returns false'. Refute it at one input. -/
def fnTreeNoneWrong : ChangeSpec := { name := "fnTreeNone", vars := ["loop.example/corbel/impl.order"], fn := fun _ => fun
  | [d, g1] => { results := [.lit (.bool false)], args := [d], vars := [g1] }
  | _ => none }
def FnTreeNoneWrongFalsely : Prop := fnTreeNoneRow.holds Tryz.pinned (OpenSpec.ofChange fnTreeNoneWrong)

/-- 'laws.FnZipOrder': WHATEVER THE INPUT: true; the input reads as it did. -/
def fnZipOrderSpec : ChangeSpec := { name := "fnZipOrder", vars := ["loop.example/corbel/impl.order"], fn := fun _ => fun
  | [d, g1] => { results := [.lit (.bool true)], args := [d], vars := [g1] }
  | _ => none }
def fnZipOrderRow : OpenClaim := { program := "ytadeffpcedlalaagreatdoor", sum := "2e195bc5f0b04f35cb37043fdca2be5522340e2d85c4232661fbc2610d370cdb", func := "loop.example/corbel/laws.FnZipOrder", spec := "fnZipOrder", inPlace := ["internal/bytealg.CountString", "internal/bytealg.IndexByteString", "internal/bytealg.IndexString", "internal/abi.NoEscape", "internal/bytealg.MakeNoZero"], recurses := true, named := ["unicode/utf8.first", "unicode/utf8.acceptRanges", "internal/bytealg.MaxLen", "loop.example/corbel/impl.order"], plainKeys := false, apart := false, laid := [("unicode/utf8.acceptRanges", laid_unicode_utf8_acceptRanges), ("loop.example/corbel/impl.order", laid_loop_example_corbel_impl_order), ("unicode/utf8.first", laid_unicode_utf8_first)] }
def FnZipOrderSaid : Prop := fnZipOrderRow.holds Tryz.pinned (OpenSpec.ofChange fnZipOrderSpec)

/-- ITS FALSE NEIGHBOUR: 'it returns false'. Refute it at one input. -/
def fnZipOrderWrong : ChangeSpec := { name := "fnZipOrder", vars := ["loop.example/corbel/impl.order"], fn := fun _ => fun
  | [d, g1] => { results := [.lit (.bool false)], args := [d], vars := [g1] }
  | _ => none }
def FnZipOrderWrongFalsely : Prop := fnZipOrderRow.holds Tryz.pinned (OpenSpec.ofChange fnZipOrderWrong)

/-- 'laws.FnLocalGet': WHATEVER THE INPUT: true; the input reads as it did. -/
def fnLocalGetSpec : ChangeSpec := { name := "fnLocalGet", vars := ["loop.example/corbel/impl.order"], fn := fun _ => fun
  | [d, g1] => { results := [.lit (.bool true)], args := [d], vars := [g1] }
  | _ => none }
def fnLocalGetRow : OpenClaim := { program := "ytadeffpcedlalaagreatdoor", sum := "2e195bc5f0b04f35cb37043fdca2be5522340e2d85c4232661fbc2610d370cdb", func := "loop.example/corbel/laws.FnLocalGet", spec := "fnLocalGet", inPlace := ["internal/bytealg.CountString", "internal/bytealg.IndexByteString", "internal/bytealg.IndexString"], named := ["loop.example/corbel/impl.order", "unicode/utf8.first", "unicode/utf8.acceptRanges", "internal/bytealg.MaxLen"], plainKeys := false, apart := false, laid := [("unicode/utf8.acceptRanges", laid_unicode_utf8_acceptRanges), ("loop.example/corbel/impl.order", laid_loop_example_corbel_impl_order), ("unicode/utf8.first", laid_unicode_utf8_first)] }
def FnLocalGetSaid : Prop := fnLocalGetRow.holds Tryz.pinned (OpenSpec.ofChange fnLocalGetSpec)

/-- ITS FALSE NEIGHBOUR: 'it returns false'. Refute it at one input. -/
def fnLocalGetWrong : ChangeSpec := { name := "fnLocalGet", vars := ["loop.example/corbel/impl.order"], fn := fun _ => fun
  | [d, g1] => { results := [.lit (.bool false)], args := [d], vars := [g1] }
  | _ => none }
def FnLocalGetWrongFalsely : Prop := fnLocalGetRow.holds Tryz.pinned (OpenSpec.ofChange fnLocalGetWrong)

/-- 'laws.FnZipCut': WHATEVER THE INPUT: true; the input reads as it did. -/
def fnZipCutSpec : ChangeSpec := { name := "fnZipCut", vars := ["loop.example/corbel/impl.order"], fn := fun _ => fun
  | [d, g1] => { results := [.lit (.bool true)], args := [d], vars := [g1] }
  | _ => none }
def fnZipCutRow : OpenClaim := { program := "ytadeffpcedlalaagreatdoor", sum := "2e195bc5f0b04f35cb37043fdca2be5522340e2d85c4232661fbc2610d370cdb", func := "loop.example/corbel/laws.FnZipCut", spec := "fnZipCut", inPlace := ["internal/bytealg.CountString", "internal/bytealg.IndexByteString", "internal/bytealg.IndexString", "internal/abi.NoEscape", "internal/bytealg.MakeNoZero"], recurses := true, named := ["unicode/utf8.first", "unicode/utf8.acceptRanges", "internal/bytealg.MaxLen", "loop.example/corbel/impl.order"], plainKeys := false, apart := false, laid := [("unicode/utf8.acceptRanges", laid_unicode_utf8_acceptRanges), ("loop.example/corbel/impl.order", laid_loop_example_corbel_impl_order), ("unicode/utf8.first", laid_unicode_utf8_first)] }
def FnZipCutSaid : Prop := fnZipCutRow.holds Tryz.pinned (OpenSpec.ofChange fnZipCutSpec)

/-- ITS FALSE NEIGHBOUR: 'it returns false'. Refute it at one input. -/
def fnZipCutWrong : ChangeSpec := { name := "fnZipCut", vars := ["loop.example/corbel/impl.order"], fn := fun _ => fun
  | [d, g1] => { results := [.lit (.bool false)], args := [d], vars := [g1] }
  | _ => none }
def FnZipCutWrongFalsely : Prop := fnZipCutRow.holds Tryz.pinned (OpenSpec.ofChange fnZipCutWrong)

/-- 'laws.FnZipHeads': WHATEVER THE INPUT: true; the input reads as it did. -/
def fnZipHeadsSpec : ChangeSpec := { name := "fnZipHeads", vars := ["loop.example/corbel/impl.order"], fn := fun _ => fun
  | [d1, d2, g1] => { results := [.lit (.bool true)], args := [d1, d2], vars := [g1] }
  | _ => none }
def fnZipHeadsRow : OpenClaim := { program := "ytadeffpcedlalaagreatdoor", sum := "2e195bc5f0b04f35cb37043fdca2be5522340e2d85c4232661fbc2610d370cdb", func := "loop.example/corbel/laws.FnZipHeads", spec := "fnZipHeads", inPlace := ["internal/bytealg.CountString", "internal/bytealg.IndexByteString", "internal/bytealg.IndexString", "internal/abi.NoEscape", "internal/bytealg.MakeNoZero"], recurses := true, named := ["unicode/utf8.first", "unicode/utf8.acceptRanges", "internal/bytealg.MaxLen", "loop.example/corbel/impl.order"], plainKeys := false, apart := false, laid := [("unicode/utf8.acceptRanges", laid_unicode_utf8_acceptRanges), ("loop.example/corbel/impl.order", laid_loop_example_corbel_impl_order), ("unicode/utf8.first", laid_unicode_utf8_first)] }
def FnZipHeadsSaid : Prop := fnZipHeadsRow.holds Tryz.pinned (OpenSpec.ofChange fnZipHeadsSpec)

/-- ITS FALSE NEIGHBOUR: 'it returns false'. Refute it at one input. -/
def fnZipHeadsWrong : ChangeSpec := { name := "fnZipHeads", vars := ["loop.example/corbel/impl.order"], fn := fun _ => fun
  | [d1, d2, g1] => { results := [.lit (.bool false)], args := [d1, d2], vars := [g1] }
  | _ => none }
def FnZipHeadsWrongFalsely : Prop := fnZipHeadsRow.holds Tryz.pinned (OpenSpec.ofChange fnZipHeadsWrong)

/-- 'laws.FnZip': WHATEVER THE INPUT: true; the input reads as it did. -/
def fnZipSpec : ChangeSpec := { name := "fnZip", vars := ["loop.example/corbel/impl.order"], fn := fun _ => fun
  | [d, g1] => { results := [.lit (.bool true)], args := [d], vars := [g1] }
  | _ => none }
def fnZipRow : OpenClaim := { program := "ytadeffpcedlalaagreatdoor", sum := "2e195bc5f0b04f35cb37043fdca2be5522340e2d85c4232661fbc2610d370cdb", func := "loop.example/corbel/laws.FnZip", spec := "fnZip", inPlace := ["internal/bytealg.CountString", "internal/bytealg.IndexByteString", "internal/bytealg.IndexString", "internal/abi.NoEscape", "internal/bytealg.MakeNoZero"], recurses := true, named := ["unicode/utf8.first", "unicode/utf8.acceptRanges", "internal/bytealg.MaxLen", "loop.example/corbel/impl.order"], plainKeys := false, apart := false, laid := [("unicode/utf8.acceptRanges", laid_unicode_utf8_acceptRanges), ("loop.example/corbel/impl.order", laid_loop_example_corbel_impl_order), ("unicode/utf8.first", laid_unicode_utf8_first)] }
def FnZipSaid : Prop := fnZipRow.holds Tryz.pinned (OpenSpec.ofChange fnZipSpec)

/-- ITS FALSE NEIGHBOUR: 'it returns false'. Refute it at one input. -/
def fnZipWrong : ChangeSpec := { name := "fnZip", vars := ["loop.example/corbel/impl.order"], fn := fun _ => fun
  | [d, g1] => { results := [.lit (.bool false)], args := [d], vars := [g1] }
  | _ => none }
def FnZipWrongFalsely : Prop := fnZipRow.holds Tryz.pinned (OpenSpec.ofChange fnZipWrong)

/-- 'laws.FnDiskOver': WHATEVER THE INPUT: true; the input reads as it did. -/
def fnDiskOverSpec : ChangeSpec := { name := "fnDiskOver", vars := ["loop.example/corbel/impl.order"], fn := fun _ => fun
  | [d, g1] => { results := [.lit (.bool true)], args := [d], vars := [g1] }
  | _ => none }
def fnDiskOverRow : OpenClaim := { program := "ytadeffpcedlalaagreatdoor", sum := "2e195bc5f0b04f35cb37043fdca2be5522340e2d85c4232661fbc2610d370cdb", func := "loop.example/corbel/laws.FnDiskOver", spec := "fnDiskOver", inPlace := ["internal/bytealg.CountString", "internal/bytealg.IndexByteString", "internal/bytealg.IndexString"], recurses := true, named := ["loop.example/corbel/impl.order", "unicode/utf8.first", "unicode/utf8.acceptRanges", "internal/bytealg.MaxLen", "internal/strconv.uint64pow10", "math/bits.deBruijn32tab", "math/bits.deBruijn64tab"], plainKeys := false, apart := false, laid := [("math/bits.deBruijn32tab", laid_math_bits_deBruijn32tab), ("math/bits.deBruijn64tab", laid_math_bits_deBruijn64tab), ("internal/strconv.uint64pow10", laid_internal_strconv_uint64pow10), ("unicode/utf8.acceptRanges", laid_unicode_utf8_acceptRanges), ("loop.example/corbel/impl.order", laid_loop_example_corbel_impl_order), ("unicode/utf8.first", laid_unicode_utf8_first)] }
def FnDiskOverSaid : Prop := fnDiskOverRow.holds Tryz.pinned (OpenSpec.ofChange fnDiskOverSpec)

/-- ITS FALSE NEIGHBOUR: 'it returns false'. Refute it at one input. -/
def fnDiskOverWrong : ChangeSpec := { name := "fnDiskOver", vars := ["loop.example/corbel/impl.order"], fn := fun _ => fun
  | [d, g1] => { results := [.lit (.bool false)], args := [d], vars := [g1] }
  | _ => none }
def FnDiskOverWrongFalsely : Prop := fnDiskOverRow.holds Tryz.pinned (OpenSpec.ofChange fnDiskOverWrong)

/-- 'laws.FnDiskTear': WHATEVER THE INPUT: true; the input reads as it did. -/
def fnDiskTearSpec : ChangeSpec := { name := "fnDiskTear", vars := ["loop.example/corbel/impl.order"], fn := fun _ => fun
  | [d, g1] => { results := [.lit (.bool true)], args := [d], vars := [g1] }
  | _ => none }
def fnDiskTearRow : OpenClaim := { program := "ytadeffpcedlalaagreatdoor", sum := "2e195bc5f0b04f35cb37043fdca2be5522340e2d85c4232661fbc2610d370cdb", func := "loop.example/corbel/laws.FnDiskTear", spec := "fnDiskTear", inPlace := ["internal/bytealg.CountString", "internal/bytealg.IndexByteString", "internal/bytealg.IndexString"], recurses := true, named := ["loop.example/corbel/impl.order", "unicode/utf8.first", "unicode/utf8.acceptRanges", "internal/bytealg.MaxLen", "internal/strconv.uint64pow10", "math/bits.deBruijn32tab", "math/bits.deBruijn64tab"], plainKeys := false, apart := false, laid := [("math/bits.deBruijn32tab", laid_math_bits_deBruijn32tab), ("math/bits.deBruijn64tab", laid_math_bits_deBruijn64tab), ("internal/strconv.uint64pow10", laid_internal_strconv_uint64pow10), ("unicode/utf8.acceptRanges", laid_unicode_utf8_acceptRanges), ("loop.example/corbel/impl.order", laid_loop_example_corbel_impl_order), ("unicode/utf8.first", laid_unicode_utf8_first)] }
def FnDiskTearSaid : Prop := fnDiskTearRow.holds Tryz.pinned (OpenSpec.ofChange fnDiskTearSpec)

/-- ITS FALSE NEIGHBOUR: 'it returns false'. Refute it at one input. -/
def fnDiskTearWrong : ChangeSpec := { name := "fnDiskTear", vars := ["loop.example/corbel/impl.order"], fn := fun _ => fun
  | [d, g1] => { results := [.lit (.bool false)], args := [d], vars := [g1] }
  | _ => none }
def FnDiskTearWrongFalsely : Prop := fnDiskTearRow.holds Tryz.pinned (OpenSpec.ofChange fnDiskTearWrong)

/-- 'laws.FnDiskRise': WHATEVER THE INPUT: true; the input reads as it did. -/
def fnDiskRiseSpec : ChangeSpec := { name := "fnDiskRise", vars := ["loop.example/corbel/impl.order"], fn := fun _ => fun
  | [d, g1] => { results := [.lit (.bool true)], args := [d], vars := [g1] }
  | _ => none }
def fnDiskRiseRow : OpenClaim := { program := "ytadeffpcedlalaagreatdoor", sum := "2e195bc5f0b04f35cb37043fdca2be5522340e2d85c4232661fbc2610d370cdb", func := "loop.example/corbel/laws.FnDiskRise", spec := "fnDiskRise", inPlace := ["internal/bytealg.IndexByteString", "internal/bytealg.IndexString", "internal/bytealg.CountString"], recurses := true, named := ["internal/bytealg.MaxLen", "internal/strconv.uint64pow10", "math/bits.deBruijn32tab", "math/bits.deBruijn64tab", "loop.example/corbel/impl.order", "unicode/utf8.first", "unicode/utf8.acceptRanges"], plainKeys := false, apart := false, laid := [("math/bits.deBruijn32tab", laid_math_bits_deBruijn32tab), ("math/bits.deBruijn64tab", laid_math_bits_deBruijn64tab), ("internal/strconv.uint64pow10", laid_internal_strconv_uint64pow10), ("unicode/utf8.acceptRanges", laid_unicode_utf8_acceptRanges), ("loop.example/corbel/impl.order", laid_loop_example_corbel_impl_order), ("unicode/utf8.first", laid_unicode_utf8_first)] }
def FnDiskRiseSaid : Prop := fnDiskRiseRow.holds Tryz.pinned (OpenSpec.ofChange fnDiskRiseSpec)

/-- ITS FALSE NEIGHBOUR: 'it returns false'. Refute it at one input. -/
def fnDiskRiseWrong : ChangeSpec := { name := "fnDiskRise", vars := ["loop.example/corbel/impl.order"], fn := fun _ => fun
  | [d, g1] => { results := [.lit (.bool false)], args := [d], vars := [g1] }
  | _ => none }
def FnDiskRiseWrongFalsely : Prop := fnDiskRiseRow.holds Tryz.pinned (OpenSpec.ofChange fnDiskRiseWrong)

/-- 'laws.FnDiskNew': WHATEVER THE INPUT: true; the input reads as it did. -/
def fnDiskNewSpec : ChangeSpec := { name := "fnDiskNew", vars := ["loop.example/corbel/impl.order"], fn := fun _ => fun
  | [d, g1] => { results := [.lit (.bool true)], args := [d], vars := [g1] }
  | _ => none }
def fnDiskNewRow : OpenClaim := { program := "ytadeffpcedlalaagreatdoor", sum := "2e195bc5f0b04f35cb37043fdca2be5522340e2d85c4232661fbc2610d370cdb", func := "loop.example/corbel/laws.FnDiskNew", spec := "fnDiskNew", inPlace := ["internal/bytealg.CountString", "internal/bytealg.IndexByteString", "internal/bytealg.IndexString", "internal/abi.NoEscape", "internal/bytealg.MakeNoZero"], recurses := true, named := ["unicode/utf8.first", "unicode/utf8.acceptRanges", "internal/bytealg.MaxLen", "loop.example/corbel/impl.order", "internal/strconv.uint64pow10", "math/bits.deBruijn32tab", "math/bits.deBruijn64tab"], plainKeys := false, apart := false, laid := [("math/bits.deBruijn32tab", laid_math_bits_deBruijn32tab), ("math/bits.deBruijn64tab", laid_math_bits_deBruijn64tab), ("internal/strconv.uint64pow10", laid_internal_strconv_uint64pow10), ("unicode/utf8.acceptRanges", laid_unicode_utf8_acceptRanges), ("loop.example/corbel/impl.order", laid_loop_example_corbel_impl_order), ("unicode/utf8.first", laid_unicode_utf8_first)] }
def FnDiskNewSaid : Prop := fnDiskNewRow.holds Tryz.pinned (OpenSpec.ofChange fnDiskNewSpec)

/-- ITS FALSE NEIGHBOUR: 'it returns false'. Refute it at one input. -/
def fnDiskNewWrong : ChangeSpec := { name := "fnDiskNew", vars := ["loop.example/corbel/impl.order"], fn := fun _ => fun
  | [d, g1] => { results := [.lit (.bool false)], args := [d], vars := [g1] }
  | _ => none }
def FnDiskNewWrongFalsely : Prop := fnDiskNewRow.holds Tryz.pinned (OpenSpec.ofChange fnDiskNewWrong)

/-- 'laws.FnZipGet': WHATEVER THE INPUT: true; the input reads as it did. -/
def fnZipGetSpec : ChangeSpec := { name := "fnZipGet", vars := ["loop.example/corbel/impl.order"], fn := fun _ => fun
  | [d, g1] => { results := [.lit (.bool true)], args := [d], vars := [g1] }
  | _ => none }
def fnZipGetRow : OpenClaim := { program := "ytadeffpcedlalaagreatdoor", sum := "2e195bc5f0b04f35cb37043fdca2be5522340e2d85c4232661fbc2610d370cdb", func := "loop.example/corbel/laws.FnZipGet", spec := "fnZipGet", inPlace := ["internal/bytealg.CountString", "internal/bytealg.IndexByteString", "internal/bytealg.IndexString", "internal/abi.NoEscape", "internal/bytealg.MakeNoZero"], recurses := true, named := ["loop.example/corbel/impl.order", "unicode/utf8.first", "unicode/utf8.acceptRanges", "internal/bytealg.MaxLen"], plainKeys := false, apart := false, laid := [("unicode/utf8.acceptRanges", laid_unicode_utf8_acceptRanges), ("loop.example/corbel/impl.order", laid_loop_example_corbel_impl_order), ("unicode/utf8.first", laid_unicode_utf8_first)] }
def FnZipGetSaid : Prop := fnZipGetRow.holds Tryz.pinned (OpenSpec.ofChange fnZipGetSpec)

/-- ITS FALSE NEIGHBOUR: 'it returns false'. Refute it at one input. -/
def fnZipGetWrong : ChangeSpec := { name := "fnZipGet", vars := ["loop.example/corbel/impl.order"], fn := fun _ => fun
  | [d, g1] => { results := [.lit (.bool false)], args := [d], vars := [g1] }
  | _ => none }
def FnZipGetWrongFalsely : Prop := fnZipGetRow.holds Tryz.pinned (OpenSpec.ofChange fnZipGetWrong)

/- THE SECOND FORM. 'bulk': how many values and letters a reading holds, each counted each time it is reached (what is shared counts as often as it is met; a slice's spare places count too). A statement '..UptoSaid' is the law's where the arguments, and the package variables that the reading takes, are together of bulk at most 1048576: NARROWER than '..Said'. Prove '..Said' where nothing that the law and all that it calls make is longer than what came in: it says more and counts as full. Else prove '..UptoSaid'. A law counts once. -/
mutual
def uptoBulk {H : Type} : DataW H → Nat
  | .lit (.string bytes) => bytes.length + 1
  | .lit _ => 1
  | .nil => 1
  | .ptr d => uptoBulk d + 1
  | .slice elems spare => uptoBulkAll elems + uptoBulkAll spare + 1
  | .agg parts => uptoBulkAll parts + 1
  | .iface _ d => uptoBulk d + 1
  | .map entries => uptoBulkEntries entries + 1
  | .held _ => 1
def uptoBulkAll {H : Type} : List (DataW H) → Nat
  | [] => 0
  | d :: r => uptoBulk d + uptoBulkAll r
def uptoBulkEntries {H : Type} : List (Lit × DataW H) → Nat
  | [] => 0
  | x :: r => uptoBulkEntry x + uptoBulkEntries r
def uptoBulkEntry {H : Type} : Lit × DataW H → Nat
  | (.string bytes, d) => bytes.length + uptoBulk d + 1
  | (_, d) => uptoBulk d + 1
 end
def uptoSmall : (H : Type) → List (DataW H) → Bool := fun _ ds => decide (uptoBulkAll ds ≤ 1048576)
def OpenSpec.upto (s : _root_.Go.ChangeSpec) : _root_.Go.OpenSpec := { _root_.Go.OpenSpec.ofChange s with cond := some uptoSmall }

/-- 'laws.FnTreeUnder', WHERE WHAT IT READS IS OF BULK AT MOST 1048576: true; the input reads as it did. -/
def fnTreeUnderUptoRow : OpenClaim := { program := "ytadeffpcedlalaagreatdoor", sum := "2e195bc5f0b04f35cb37043fdca2be5522340e2d85c4232661fbc2610d370cdb", func := "loop.example/corbel/laws.FnTreeUnder", spec := "fnTreeUnder", inPlace := ["internal/bytealg.CountString", "internal/bytealg.IndexByteString", "internal/bytealg.IndexString", "internal/abi.NoEscape", "internal/bytealg.MakeNoZero"], unfollowed := true, recurses := true, named := ["unicode/utf8.first", "unicode/utf8.acceptRanges", "internal/bytealg.MaxLen", "loop.example/corbel/impl.order"], plainKeys := false, apart := false, laid := [("unicode/utf8.acceptRanges", laid_unicode_utf8_acceptRanges), ("loop.example/corbel/impl.order", laid_loop_example_corbel_impl_order), ("unicode/utf8.first", laid_unicode_utf8_first)], narrowed := true }
def FnTreeUnderUptoSaid : Prop := fnTreeUnderUptoRow.holds Tryz.pinned (OpenSpec.upto fnTreeUnderSpec)

/-- 'laws.FnTreeNone', WHERE WHAT IT READS IS OF BULK AT MOST 1048576: true; the input reads as it did. -/
def fnTreeNoneUptoRow : OpenClaim := { program := "ytadeffpcedlalaagreatdoor", sum := "2e195bc5f0b04f35cb37043fdca2be5522340e2d85c4232661fbc2610d370cdb", func := "loop.example/corbel/laws.FnTreeNone", spec := "fnTreeNone", inPlace := ["internal/bytealg.CountString", "internal/bytealg.IndexByteString", "internal/bytealg.IndexString", "internal/abi.NoEscape", "internal/bytealg.MakeNoZero"], unfollowed := true, recurses := true, named := ["unicode/utf8.first", "unicode/utf8.acceptRanges", "internal/bytealg.MaxLen", "loop.example/corbel/impl.order"], plainKeys := false, apart := false, laid := [("unicode/utf8.acceptRanges", laid_unicode_utf8_acceptRanges), ("loop.example/corbel/impl.order", laid_loop_example_corbel_impl_order), ("unicode/utf8.first", laid_unicode_utf8_first)], narrowed := true }
def FnTreeNoneUptoSaid : Prop := fnTreeNoneUptoRow.holds Tryz.pinned (OpenSpec.upto fnTreeNoneSpec)

/-- 'laws.FnZipOrder', WHERE WHAT IT READS IS OF BULK AT MOST 1048576: true; the input reads as it did. -/
def fnZipOrderUptoRow : OpenClaim := { program := "ytadeffpcedlalaagreatdoor", sum := "2e195bc5f0b04f35cb37043fdca2be5522340e2d85c4232661fbc2610d370cdb", func := "loop.example/corbel/laws.FnZipOrder", spec := "fnZipOrder", inPlace := ["internal/bytealg.CountString", "internal/bytealg.IndexByteString", "internal/bytealg.IndexString", "internal/abi.NoEscape", "internal/bytealg.MakeNoZero"], recurses := true, named := ["unicode/utf8.first", "unicode/utf8.acceptRanges", "internal/bytealg.MaxLen", "loop.example/corbel/impl.order"], plainKeys := false, apart := false, laid := [("unicode/utf8.acceptRanges", laid_unicode_utf8_acceptRanges), ("loop.example/corbel/impl.order", laid_loop_example_corbel_impl_order), ("unicode/utf8.first", laid_unicode_utf8_first)], narrowed := true }
def FnZipOrderUptoSaid : Prop := fnZipOrderUptoRow.holds Tryz.pinned (OpenSpec.upto fnZipOrderSpec)

/-- 'laws.FnLocalGet', WHERE WHAT IT READS IS OF BULK AT MOST 1048576: true; the input reads as it did. -/
def fnLocalGetUptoRow : OpenClaim := { program := "ytadeffpcedlalaagreatdoor", sum := "2e195bc5f0b04f35cb37043fdca2be5522340e2d85c4232661fbc2610d370cdb", func := "loop.example/corbel/laws.FnLocalGet", spec := "fnLocalGet", inPlace := ["internal/bytealg.CountString", "internal/bytealg.IndexByteString", "internal/bytealg.IndexString"], named := ["loop.example/corbel/impl.order", "unicode/utf8.first", "unicode/utf8.acceptRanges", "internal/bytealg.MaxLen"], plainKeys := false, apart := false, laid := [("unicode/utf8.acceptRanges", laid_unicode_utf8_acceptRanges), ("loop.example/corbel/impl.order", laid_loop_example_corbel_impl_order), ("unicode/utf8.first", laid_unicode_utf8_first)], narrowed := true }
def FnLocalGetUptoSaid : Prop := fnLocalGetUptoRow.holds Tryz.pinned (OpenSpec.upto fnLocalGetSpec)

/-- 'laws.FnZipCut', WHERE WHAT IT READS IS OF BULK AT MOST 1048576: true; the input reads as it did. -/
def fnZipCutUptoRow : OpenClaim := { program := "ytadeffpcedlalaagreatdoor", sum := "2e195bc5f0b04f35cb37043fdca2be5522340e2d85c4232661fbc2610d370cdb", func := "loop.example/corbel/laws.FnZipCut", spec := "fnZipCut", inPlace := ["internal/bytealg.CountString", "internal/bytealg.IndexByteString", "internal/bytealg.IndexString", "internal/abi.NoEscape", "internal/bytealg.MakeNoZero"], recurses := true, named := ["unicode/utf8.first", "unicode/utf8.acceptRanges", "internal/bytealg.MaxLen", "loop.example/corbel/impl.order"], plainKeys := false, apart := false, laid := [("unicode/utf8.acceptRanges", laid_unicode_utf8_acceptRanges), ("loop.example/corbel/impl.order", laid_loop_example_corbel_impl_order), ("unicode/utf8.first", laid_unicode_utf8_first)], narrowed := true }
def FnZipCutUptoSaid : Prop := fnZipCutUptoRow.holds Tryz.pinned (OpenSpec.upto fnZipCutSpec)

/-- 'laws.FnZipHeads', WHERE WHAT IT READS IS OF BULK AT MOST 1048576: true; the input reads as it did. -/
def fnZipHeadsUptoRow : OpenClaim := { program := "ytadeffpcedlalaagreatdoor", sum := "2e195bc5f0b04f35cb37043fdca2be5522340e2d85c4232661fbc2610d370cdb", func := "loop.example/corbel/laws.FnZipHeads", spec := "fnZipHeads", inPlace := ["internal/bytealg.CountString", "internal/bytealg.IndexByteString", "internal/bytealg.IndexString", "internal/abi.NoEscape", "internal/bytealg.MakeNoZero"], recurses := true, named := ["unicode/utf8.first", "unicode/utf8.acceptRanges", "internal/bytealg.MaxLen", "loop.example/corbel/impl.order"], plainKeys := false, apart := false, laid := [("unicode/utf8.acceptRanges", laid_unicode_utf8_acceptRanges), ("loop.example/corbel/impl.order", laid_loop_example_corbel_impl_order), ("unicode/utf8.first", laid_unicode_utf8_first)], narrowed := true }
def FnZipHeadsUptoSaid : Prop := fnZipHeadsUptoRow.holds Tryz.pinned (OpenSpec.upto fnZipHeadsSpec)

/-- 'laws.FnZip', WHERE WHAT IT READS IS OF BULK AT MOST 1048576: true; the input reads as it did. -/
def fnZipUptoRow : OpenClaim := { program := "ytadeffpcedlalaagreatdoor", sum := "2e195bc5f0b04f35cb37043fdca2be5522340e2d85c4232661fbc2610d370cdb", func := "loop.example/corbel/laws.FnZip", spec := "fnZip", inPlace := ["internal/bytealg.CountString", "internal/bytealg.IndexByteString", "internal/bytealg.IndexString", "internal/abi.NoEscape", "internal/bytealg.MakeNoZero"], recurses := true, named := ["unicode/utf8.first", "unicode/utf8.acceptRanges", "internal/bytealg.MaxLen", "loop.example/corbel/impl.order"], plainKeys := false, apart := false, laid := [("unicode/utf8.acceptRanges", laid_unicode_utf8_acceptRanges), ("loop.example/corbel/impl.order", laid_loop_example_corbel_impl_order), ("unicode/utf8.first", laid_unicode_utf8_first)], narrowed := true }
def FnZipUptoSaid : Prop := fnZipUptoRow.holds Tryz.pinned (OpenSpec.upto fnZipSpec)

/-- 'laws.FnDiskOver', WHERE WHAT IT READS IS OF BULK AT MOST 1048576: true; the input reads as it did. -/
def fnDiskOverUptoRow : OpenClaim := { program := "ytadeffpcedlalaagreatdoor", sum := "2e195bc5f0b04f35cb37043fdca2be5522340e2d85c4232661fbc2610d370cdb", func := "loop.example/corbel/laws.FnDiskOver", spec := "fnDiskOver", inPlace := ["internal/bytealg.CountString", "internal/bytealg.IndexByteString", "internal/bytealg.IndexString"], recurses := true, named := ["loop.example/corbel/impl.order", "unicode/utf8.first", "unicode/utf8.acceptRanges", "internal/bytealg.MaxLen", "internal/strconv.uint64pow10", "math/bits.deBruijn32tab", "math/bits.deBruijn64tab"], plainKeys := false, apart := false, laid := [("math/bits.deBruijn32tab", laid_math_bits_deBruijn32tab), ("math/bits.deBruijn64tab", laid_math_bits_deBruijn64tab), ("internal/strconv.uint64pow10", laid_internal_strconv_uint64pow10), ("unicode/utf8.acceptRanges", laid_unicode_utf8_acceptRanges), ("loop.example/corbel/impl.order", laid_loop_example_corbel_impl_order), ("unicode/utf8.first", laid_unicode_utf8_first)], narrowed := true }
def FnDiskOverUptoSaid : Prop := fnDiskOverUptoRow.holds Tryz.pinned (OpenSpec.upto fnDiskOverSpec)

/-- 'laws.FnDiskTear', WHERE WHAT IT READS IS OF BULK AT MOST 1048576: true; the input reads as it did. -/
def fnDiskTearUptoRow : OpenClaim := { program := "ytadeffpcedlalaagreatdoor", sum := "2e195bc5f0b04f35cb37043fdca2be5522340e2d85c4232661fbc2610d370cdb", func := "loop.example/corbel/laws.FnDiskTear", spec := "fnDiskTear", inPlace := ["internal/bytealg.CountString", "internal/bytealg.IndexByteString", "internal/bytealg.IndexString"], recurses := true, named := ["loop.example/corbel/impl.order", "unicode/utf8.first", "unicode/utf8.acceptRanges", "internal/bytealg.MaxLen", "internal/strconv.uint64pow10", "math/bits.deBruijn32tab", "math/bits.deBruijn64tab"], plainKeys := false, apart := false, laid := [("math/bits.deBruijn32tab", laid_math_bits_deBruijn32tab), ("math/bits.deBruijn64tab", laid_math_bits_deBruijn64tab), ("internal/strconv.uint64pow10", laid_internal_strconv_uint64pow10), ("unicode/utf8.acceptRanges", laid_unicode_utf8_acceptRanges), ("loop.example/corbel/impl.order", laid_loop_example_corbel_impl_order), ("unicode/utf8.first", laid_unicode_utf8_first)], narrowed := true }
def FnDiskTearUptoSaid : Prop := fnDiskTearUptoRow.holds Tryz.pinned (OpenSpec.upto fnDiskTearSpec)

/-- 'laws.FnDiskRise', WHERE WHAT IT READS IS OF BULK AT MOST 1048576: true; the input reads as it did. -/
def fnDiskRiseUptoRow : OpenClaim := { program := "ytadeffpcedlalaagreatdoor", sum := "2e195bc5f0b04f35cb37043fdca2be5522340e2d85c4232661fbc2610d370cdb", func := "loop.example/corbel/laws.FnDiskRise", spec := "fnDiskRise", inPlace := ["internal/bytealg.IndexByteString", "internal/bytealg.IndexString", "internal/bytealg.CountString"], recurses := true, named := ["internal/bytealg.MaxLen", "internal/strconv.uint64pow10", "math/bits.deBruijn32tab", "math/bits.deBruijn64tab", "loop.example/corbel/impl.order", "unicode/utf8.first", "unicode/utf8.acceptRanges"], plainKeys := false, apart := false, laid := [("math/bits.deBruijn32tab", laid_math_bits_deBruijn32tab), ("math/bits.deBruijn64tab", laid_math_bits_deBruijn64tab), ("internal/strconv.uint64pow10", laid_internal_strconv_uint64pow10), ("unicode/utf8.acceptRanges", laid_unicode_utf8_acceptRanges), ("loop.example/corbel/impl.order", laid_loop_example_corbel_impl_order), ("unicode/utf8.first", laid_unicode_utf8_first)], narrowed := true }
def FnDiskRiseUptoSaid : Prop := fnDiskRiseUptoRow.holds Tryz.pinned (OpenSpec.upto fnDiskRiseSpec)

/-- 'laws.FnDiskNew', WHERE WHAT IT READS IS OF BULK AT MOST 1048576: true; the input reads as it did. -/
def fnDiskNewUptoRow : OpenClaim := { program := "ytadeffpcedlalaagreatdoor", sum := "2e195bc5f0b04f35cb37043fdca2be5522340e2d85c4232661fbc2610d370cdb", func := "loop.example/corbel/laws.FnDiskNew", spec := "fnDiskNew", inPlace := ["internal/bytealg.CountString", "internal/bytealg.IndexByteString", "internal/bytealg.IndexString", "internal/abi.NoEscape", "internal/bytealg.MakeNoZero"], recurses := true, named := ["unicode/utf8.first", "unicode/utf8.acceptRanges", "internal/bytealg.MaxLen", "loop.example/corbel/impl.order", "internal/strconv.uint64pow10", "math/bits.deBruijn32tab", "math/bits.deBruijn64tab"], plainKeys := false, apart := false, laid := [("math/bits.deBruijn32tab", laid_math_bits_deBruijn32tab), ("math/bits.deBruijn64tab", laid_math_bits_deBruijn64tab), ("internal/strconv.uint64pow10", laid_internal_strconv_uint64pow10), ("unicode/utf8.acceptRanges", laid_unicode_utf8_acceptRanges), ("loop.example/corbel/impl.order", laid_loop_example_corbel_impl_order), ("unicode/utf8.first", laid_unicode_utf8_first)], narrowed := true }
def FnDiskNewUptoSaid : Prop := fnDiskNewUptoRow.holds Tryz.pinned (OpenSpec.upto fnDiskNewSpec)

/-- 'laws.FnZipGet', WHERE WHAT IT READS IS OF BULK AT MOST 1048576: true; the input reads as it did. -/
def fnZipGetUptoRow : OpenClaim := { program := "ytadeffpcedlalaagreatdoor", sum := "2e195bc5f0b04f35cb37043fdca2be5522340e2d85c4232661fbc2610d370cdb", func := "loop.example/corbel/laws.FnZipGet", spec := "fnZipGet", inPlace := ["internal/bytealg.CountString", "internal/bytealg.IndexByteString", "internal/bytealg.IndexString", "internal/abi.NoEscape", "internal/bytealg.MakeNoZero"], recurses := true, named := ["loop.example/corbel/impl.order", "unicode/utf8.first", "unicode/utf8.acceptRanges", "internal/bytealg.MaxLen"], plainKeys := false, apart := false, laid := [("unicode/utf8.acceptRanges", laid_unicode_utf8_acceptRanges), ("loop.example/corbel/impl.order", laid_loop_example_corbel_impl_order), ("unicode/utf8.first", laid_unicode_utf8_first)], narrowed := true }
def FnZipGetUptoSaid : Prop := fnZipGetUptoRow.holds Tryz.pinned (OpenSpec.upto fnZipGetSpec)

end Rows
end Go.Proofs.YtadeffpcedlalaaGreatDoor
