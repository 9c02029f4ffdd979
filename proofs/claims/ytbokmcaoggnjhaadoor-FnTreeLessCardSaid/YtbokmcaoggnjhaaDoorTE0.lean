/- That the evaluator says of each function what it computes, and so that the program does. Conditions: none. -/
import Derived.Test.YtbokmcaoggnjhaaDoorT0
import Derived.Test.YtbokmcaoggnjhaaDoorTP
open Go Go.Proofs
set_option maxRecDepth 100000
namespace Ev
set_option maxHeartbeats 1000000
set_option linter.unusedVariables false
def within.S : Spec := ⟨0, [.sc (.int .i64), .sc (.int .i64), .sc (.int .i64)], [], [.int .i64, .int .i64, .int .i64], ⟨[.bool], .sc .bool, []⟩,
  fun ((n, low, high) : Int × Int × Int) => within n low high⟩

theorem within.ev : ∀ d, evFn C0 (hnd (tab [])) Tryd.f30 (.seq .u (.seq (.reg [.bool] [(6, .sc .bool)]) .u)) within.S d = within.S.F d := fun _ => by kernel_rfl

theorem within.sound : SoundS Tryd.prog C0 30 within.S := sound_of_ev tyOk (tab_ok (l := []) trivial) Tryd.func30 (by kernel_rfl) (by kernel_rfl) (by kernel_rfl) within.ev

def partOk.S : Spec := ⟨0, [.sc .str], [], [.str], ⟨[.bool], .sc .bool, []⟩,
  fun (s : Str) => partOk s⟩

theorem partOk.ev : ∀ d, evFn C0 (hnd (tab [(30, within.S)])) Tryd.f23 (.seq .u (.seq (.seq .u (.blk (.loopS ⟨[.str, .int .i64, .int .i64], [(0, .sc .str), (6, .sc (.int .i64)), (7, .sc (.int .i64))], []⟩ (fun ((s1, t, t1) : Str × Int × Int) => (t - t1).toNat + 1) 0 ⟨[.str], [(0, .sc .str)], []⟩ (.seq .u (.seq .u (.seq (.blk (.seq .u (.seq .u (.seq (.reg [.bool] [(38, .sc .bool)]) .u)))) .u)))))) (.seq (.reg [.bool] [(2, .sc .bool)]) .u))) partOk.S d = partOk.S.F d := fun _ => by kernel_rfl

theorem partOk.sound : SoundS Tryd.prog C0 23 partOk.S := sound_of_ev tyOk (tab_ok (l := [(30, within.S)]) ⟨within.sound, trivial⟩) Tryd.func23 (by kernel_rfl) (by kernel_rfl) (by kernel_rfl) partOk.ev

def l1In.S : Spec := ⟨0, [.sc (.int .i64), .sc (.int .i64), .sc (.int .i64)], [], [.int .i64, .int .i64, .int .i64], ⟨[.bool], .sc .bool, []⟩,
  fun ((n, low, high) : Int × Int × Int) => l1In n low high⟩

theorem l1In.ev : ∀ d, evFn C0 (hnd (tab [])) Tryd.f21 (.seq .u (.seq (.reg [.bool] [(6, .sc .bool)]) .u)) l1In.S d = l1In.S.F d := fun _ => by kernel_rfl

theorem l1In.sound : SoundS Tryd.prog C0 21 l1In.S := sound_of_ev tyOk (tab_ok (l := []) trivial) Tryd.func21 (by kernel_rfl) (by kernel_rfl) (by kernel_rfl) l1In.ev

def l1Cut.S : Spec := ⟨0, [.sc .str, .sc (.int .u8), .sc (.int .i64)], [], [.str, .int .u8, .int .i64], ⟨[.list [.str]], .full 0, [.arr [.str]]⟩,
  fun ((s, b, most) : Str × Int × Int) => l1Cut s b most⟩

theorem l1Cut.ev : ∀ d, evFn C0 (hnd (tab [])) Tryd.f20 (.seq .u (.seq .u (.seq .u (.seq (.seq .u (.blk (.loop ⟨[.str, .int .u8, .int .i64, .int .i64, .int .i64, .list [.str]], [(0, .sc .str), (1, .sc (.int .u8)), (2, .sc (.int .i64)), (7, .full 0), (8, .sc (.int .i64)), (9, .sc (.int .i64))], [.arr [.str]]⟩ (fun ((s1, b1, most1, from_, i, out) : Str × Int × Int × Int × Int × List Str) => ((s1.length : Int) - i).toNat + 1) 0 ⟨[.str, .int .i64, .list [.str]], [(0, .sc .str), (7, .full 0), (8, .sc (.int .i64))], [.arr [.str]]⟩ (.seq (.seq (.reg [.bool] [(20, .sc .bool)]) .u) .u)))) .u)))) l1Cut.S d = l1Cut.S.F d := fun _ => by kernel_rfl

theorem l1Cut.sound : SoundS Tryd.prog C0 20 l1Cut.S := sound_of_ev tyOk (tab_ok (l := []) trivial) Tryd.func20 (by kernel_rfl) (by kernel_rfl) (by kernel_rfl) l1Cut.ev

def szFile.S : Spec := ⟨0, [.agg [.sc .str, .sc .str], .sc (.int .i64)], [], [.str, .str, .int .i64], ⟨[.int .i64], .sc (.int .i64), []⟩,
  fun ((path, text, n) : Str × Str × Int) => szFile path text n⟩

theorem szFile.ev : ∀ d, evFn C0 (hnd (tab [])) Tryd.f11 .u szFile.S d = szFile.S.F d := fun _ => by kernel_rfl

theorem szFile.sound : SoundS Tryd.prog C0 11 szFile.S := sound_of_ev tyOk (tab_ok (l := []) trivial) Tryd.func11 (by kernel_rfl) (by kernel_rfl) (by kernel_rfl) szFile.ev

def szFileS.S : Spec := ⟨0, [.sc (.list [.str, .str]), .sc (.int .i64)], [], [.list [.str, .str], .int .i64], ⟨[.int .i64], .sc (.int .i64), []⟩,
  fun ((xs, n) : (List (Str × Str)) × Int) => szFileS xs n⟩

theorem szFileS.ev : ∀ d, evFn C0 (hnd (tab [(11, szFile.S)])) Tryd.f5 (.seq .u (.seq .u (.seq .u (.seq (.seq .u (.blk (.loopS ⟨[.list [.str, .str], .int .i64, .int .i64], [(0, .sc (.list [.str, .str])), (1, .sc (.int .i64)), (5, .sc (.int .i64))], []⟩ (fun ((a, left, i) : (List (Str × Str)) × Int × Int) => ((a.length : Int) - i).toNat + 1) 0 ⟨[.int .i64], [(1, .sc (.int .i64))], []⟩ .u))) .u)))) szFileS.S d = szFileS.S.F d := fun _ => by kernel_rfl

theorem szFileS.sound : SoundS Tryd.prog C0 5 szFileS.S := sound_of_ev tyOk (tab_ok (l := [(11, szFile.S)]) ⟨szFile.sound, trivial⟩) Tryd.func5 (by kernel_rfl) (by kernel_rfl) (by kernel_rfl) szFileS.ev

def toFile.S : Spec := ⟨0, [.agg [.sc .str, .sc .str]], [], [.str, .str], ⟨[.str, .str], .agg [.sc .str, .sc .str], []⟩,
  fun ((path, text) : Str × Str) => toFile path text⟩

theorem toFile.ev : ∀ d, evFn C0 (hnd (tab [])) Tryd.f14 .u toFile.S d = toFile.S.F d := fun _ => by kernel_rfl

theorem toFile.sound : SoundS Tryd.prog C0 14 toFile.S := sound_of_ev tyOk (tab_ok (l := []) trivial) Tryd.func14 (by kernel_rfl) (by kernel_rfl) (by kernel_rfl) toFile.ev

def toFileS.S : Spec := ⟨0, [.sc (.list [.str, .str])], [], [.list [.str, .str]], ⟨[.list [.str, .str]], .full 0, [.arr [.str, .str]]⟩,
  fun (xs : List (Str × Str)) => toFileS xs⟩

theorem toFileS.ev : ∀ d, evFn C0 (hnd (tab [(14, toFile.S)])) Tryd.f7 (.seq .u (.seq .u (.seq (.seq .u (.blk (.loop ⟨[.list [.str, .str], .int .i64, .list [.str, .str]], [(0, .sc (.list [.str, .str])), (3, .full 0), (4, .sc (.int .i64))], [.arr [.str, .str]]⟩ (fun ((a, i, out) : (List (Str × Str)) × Int × List (Str × Str)) => ((a.length : Int) - i).toNat + 1) 0 ⟨[.list [.str, .str]], [(3, .full 0)], [.arr [.str, .str]]⟩ .u))) .u))) toFileS.S d = toFileS.S.F d := fun _ => by kernel_rfl

theorem toFileS.sound : SoundS Tryd.prog C0 7 toFileS.S := sound_of_ev tyOk (tab_ok (l := [(14, toFile.S)]) ⟨toFile.sound, trivial⟩) Tryd.func7 (by kernel_rfl) (by kernel_rfl) (by kernel_rfl) toFileS.ev

def eqFile.S : Spec := ⟨0, [.agg [.sc .str, .sc .str], .agg [.sc .str, .sc .str]], [], [.str, .str, .str, .str], ⟨[.bool], .sc .bool, []⟩,
  fun ((p, t, q, u) : Str × Str × Str × Str) => eqFile p t q u⟩

theorem eqFile.ev : ∀ d, evFn C0 (hnd (tab [])) Tryd.f17 .u eqFile.S d = eqFile.S.F d := fun _ => by kernel_rfl

theorem eqFile.sound : SoundS Tryd.prog C0 17 eqFile.S := sound_of_ev tyOk (tab_ok (l := []) trivial) Tryd.func17 (by kernel_rfl) (by kernel_rfl) (by kernel_rfl) eqFile.ev

def eqFileS.S : Spec := ⟨0, [.sc (.list [.str, .str]), .sc (.list [.str, .str])], [], [.list [.str, .str], .list [.str, .str]], ⟨[.bool], .sc .bool, []⟩,
  fun ((xs, ys) : (List (Str × Str)) × List (Str × Str)) => eqFileS xs ys⟩

theorem eqFileS.ev : ∀ d, evFn C0 (hnd (tab [(17, eqFile.S)])) Tryd.f9 (.seq .u (.seq .u (.seq (.seq .u (.blk (.loopS ⟨[.list [.str, .str], .list [.str, .str], .int .i64], [(0, .sc (.list [.str, .str])), (1, .sc (.list [.str, .str])), (5, .sc (.int .i64))], []⟩ (fun ((a, b, i) : (List (Str × Str)) × (List (Str × Str)) × Int) => ((a.length : Int) - i).toNat + 1) 0 ⟨[], [], []⟩ .u))) .u))) eqFileS.S d = eqFileS.S.F d := fun _ => by kernel_rfl

theorem eqFileS.sound : SoundS Tryd.prog C0 9 eqFileS.S := sound_of_ev tyOk (tab_ok (l := [(17, eqFile.S)]) ⟨eqFile.sound, trivial⟩) Tryd.func9 (by kernel_rfl) (by kernel_rfl) (by kernel_rfl) eqFileS.ev

def specNameOk.S : Spec := ⟨0, [.sc .str], [], [.str], ⟨[.bool], .sc .bool, []⟩,
  fun (s : Str) => specNameOk s⟩

theorem specNameOk.ev : ∀ d, evFn C0 (hnd (tab [(20, l1Cut.S), (21, l1In.S)])) Tryd.f12 (.seq .u (.seq .u (.seq (.seq .u (.blk (.loopS ⟨[.int .i64, .list [.str]], [(3, .full 0), (4, .sc (.int .i64))], [.arr [.str]]⟩ (fun ((i, list) : Int × List Str) => ((list.length : Int) - i).toNat + 1) 0 ⟨[.list [.str]], [(3, .full 0)], [.arr [.str]]⟩ (.seq .u (.seq (.blk (.seq .u (.seq (.seq .u (.blk (.loopS ⟨[.int .i64, .str, .int .i64, .list [.str]], [(3, .full 0), (4, .sc (.int .i64)), (5, .sc .str), (6, .sc (.int .i64))], [.arr [.str]]⟩ (fun ((i1, w, k, list1) : Int × Str × Int × List Str) => ((w.length : Int) - k).toNat + 1) 2 ⟨[.int .i64, .str, .list [.str]], [(3, .full 0), (4, .sc (.int .i64)), (5, .sc .str)], [.arr [.str]]⟩ (.seq .u (.seq (.blk (.seq (.reg [.bool] [(68, .sc .bool)]) .u)) .u))))) (.seq (.reg [.bool] [(80, .sc .bool)]) .u)))) .u))))) .u))) specNameOk.S d = specNameOk.S.F d := fun _ => by kernel_rfl

theorem specNameOk.sound : SoundS Tryd.prog C0 12 specNameOk.S := sound_of_ev tyOk (tab_ok (l := [(20, l1Cut.S), (21, l1In.S)]) ⟨l1Cut.sound, l1In.sound, trivial⟩) Tryd.func12 (by kernel_rfl) (by kernel_rfl) (by kernel_rfl) specNameOk.ev

def l7Under.S : Spec := ⟨0, [.sc .str, .sc .str], [], [.str, .str], ⟨[.bool], .sc .bool, []⟩,
  fun ((a, b) : Str × Str) => l7Under a b⟩

theorem l7Under.ev : ∀ d, evFn C0 (hnd (tab [])) Tryd.f13 (.seq .u (.seq (.reg [.bool] [(4, .sc .bool)]) .u)) l7Under.S d = l7Under.S.F d := fun _ => by kernel_rfl

theorem l7Under.sound : SoundS Tryd.prog C0 13 l7Under.S := sound_of_ev tyOk (tab_ok (l := []) trivial) Tryd.func13 (by kernel_rfl) (by kernel_rfl) (by kernel_rfl) l7Under.ev

def specTreeOk.S : Spec := ⟨0, [.sc (.list [.str, .str])], [], [.list [.str, .str]], ⟨[.bool], .sc .bool, []⟩,
  fun (xs : List (Str × Str)) => specTreeOk xs⟩

theorem specTreeOk.ev : ∀ d, evFn C0 (hnd (tab [(12, specNameOk.S), (13, l7Under.S)])) Tryd.f6 (.seq .u (.seq (.seq .u (.blk (.loopS ⟨[.list [.str, .str], .int .i64], [(0, .sc (.list [.str, .str])), (3, .sc (.int .i64))], []⟩ (fun ((t, i) : (List (Str × Str)) × Int) => ((t.length : Int) - i).toNat + 1) 0 ⟨[.list [.str, .str]], [(0, .sc (.list [.str, .str]))], []⟩ (.seq .u (.seq (.blk (.seq (.seq (.reg [.bool] [(44, .sc .bool)]) .u) (.seq .u (.blk (.loopS ⟨[.list [.str, .str], .int .i64, .int .i64], [(0, .sc (.list [.str, .str])), (3, .sc (.int .i64)), (4, .sc (.int .i64))], []⟩ (fun ((t1, i1, k) : (List (Str × Str)) × Int × Int) => ((t1.length : Int) - k).toNat + 1) 2 ⟨[.list [.str, .str], .int .i64], [(0, .sc (.list [.str, .str])), (3, .sc (.int .i64))], []⟩ .u))))) .u))))) .u)) specTreeOk.S d = specTreeOk.S.F d := fun _ => by kernel_rfl

theorem specTreeOk.sound : SoundS Tryd.prog C0 6 specTreeOk.S := sound_of_ev tyOk (tab_ok (l := [(12, specNameOk.S), (13, l7Under.S)]) ⟨specNameOk.sound, l7Under.sound, trivial⟩) Tryd.func6 (by kernel_rfl) (by kernel_rfl) (by kernel_rfl) specTreeOk.ev

def hasPrefix0.S : Spec := ⟨0, [.sc .str, .sc .str], [], [.str, .str], ⟨[.bool], .sc .bool, []⟩,
  fun ((s, p) : Str × Str) => hasPrefix0 s p⟩

theorem hasPrefix0.ev : ∀ d, evFn C0 (hnd (tab [])) Tryd.f31 (.seq .u (.seq (.reg [.bool] [(4, .sc .bool)]) .u)) hasPrefix0.S d = hasPrefix0.S.F d := fun _ => by kernel_rfl

theorem hasPrefix0.sound : SoundS Tryd.prog C0 31 hasPrefix0.S := sound_of_ev tyOk (tab_ok (l := []) trivial) Tryd.func31 (by kernel_rfl) (by kernel_rfl) (by kernel_rfl) hasPrefix0.ev

def hasPrefix.S : Spec := ⟨0, [.sc .str, .sc .str], [], [.str, .str], ⟨[.bool], .sc .bool, []⟩,
  fun ((s, p) : Str × Str) => hasPrefix s p⟩

theorem hasPrefix.ev : ∀ d, evFn C0 (hnd (tab [(31, hasPrefix0.S)])) Tryd.f24 .u hasPrefix.S d = hasPrefix.S.F d := fun _ => by kernel_rfl

theorem hasPrefix.sound : SoundS Tryd.prog C0 24 hasPrefix.S := sound_of_ev tyOk (tab_ok (l := [(31, hasPrefix0.S)]) ⟨hasPrefix0.sound, trivial⟩) Tryd.func24 (by kernel_rfl) (by kernel_rfl) (by kernel_rfl) hasPrefix.ev

def indexByteString.S : Spec := indexByteSpec
theorem indexByteString.sound : SoundS Tryd.prog C0 49 indexByteString.S := indexByte_sound Tryd.func49 (by kernel_rfl) (by kernel_rfl) (by kernel_rfl) (by kernel_rfl)

def countString.S : Spec := countByteSpec
theorem countString.sound : SoundS Tryd.prog C0 42 countString.S := countByte_sound Tryd.func42 (by kernel_rfl) (by kernel_rfl) (by kernel_rfl) (by kernel_rfl)

def indexByte0.S : Spec := ⟨0, [.sc .str, .sc (.int .u8)], [], [.str, .int .u8], ⟨[.int .i64], .sc (.int .i64), []⟩,
  fun ((s, c) : Str × Int) => indexByte0 s c⟩

theorem indexByte0.ev : ∀ d, evFn C0 (hnd (tab [(49, indexByteString.S)])) Tryd.f45 .u indexByte0.S d = indexByte0.S.F d := fun _ => by kernel_rfl

theorem indexByte0.sound : SoundS Tryd.prog C0 45 indexByte0.S := sound_of_ev tyOk (tab_ok (l := [(49, indexByteString.S)]) ⟨indexByteString.sound, trivial⟩) Tryd.func45 (by kernel_rfl) (by kernel_rfl) (by kernel_rfl) indexByte0.ev

def index0S.S : Spec := ⟨0, [.sc .str, .cstr [47]], [], [.str], ⟨[.int .i64], .sc (.int .i64), []⟩,
  fun (s : Str) => index0S s⟩

theorem index0S.ev : ∀ d, evFn C0 (hnd (tab [(45, indexByte0.S)])) Tryd.f43 (.seq .u (.seq .u (.seq (.blk (.seq (.reg [.bool] [(16, .sc .bool)]) .u)) .u))) index0S.S d = index0S.S.F d := fun _ => by kernel_rfl

theorem index0S.sound : SoundS Tryd.prog C0 43 index0S.S := sound_of_ev tyOk (tab_ok (l := [(45, indexByte0.S)]) ⟨indexByte0.sound, trivial⟩) Tryd.func43 (by kernel_rfl) (by kernel_rfl) (by kernel_rfl) index0S.ev

def indexS.S : Spec := ⟨0, [.sc .str, .cstr [47]], [], [.str], ⟨[.int .i64], .sc (.int .i64), []⟩,
  fun (s : Str) => indexS s⟩

theorem indexS.ev : ∀ d, evFn C0 (hnd (tab [(43, index0S.S)])) Tryd.f39 .u indexS.S d = indexS.S.F d := fun _ => by kernel_rfl

theorem indexS.sound : SoundS Tryd.prog C0 39 indexS.S := sound_of_ev tyOk (tab_ok (l := [(43, index0S.S)]) ⟨index0S.sound, trivial⟩) Tryd.func39 (by kernel_rfl) (by kernel_rfl) (by kernel_rfl) indexS.ev

def countS.S : Spec := ⟨0, [.sc .str, .cstr [47]], [], [.str], ⟨[.int .i64], .sc (.int .i64), []⟩,
  fun (s : Str) => countS s⟩

theorem countS.ev : ∀ d, evFn C0 (hnd (tab [(42, countString.S)])) Tryd.f38 .u countS.S d = countS.S.F d := fun _ => by kernel_rfl

theorem countS.sound : SoundS Tryd.prog C0 38 countS.S := sound_of_ev tyOk (tab_ok (l := [(42, countString.S)]) ⟨countString.sound, trivial⟩) Tryd.func38 (by kernel_rfl) (by kernel_rfl) (by kernel_rfl) countS.ev

def genSplitS.S : Spec := ⟨0, [.sc .str, .cstr [47], .cint .i64 0, .cint .i64 (-1)], [], [.str], ⟨[.list [.str]], .sc (.list [.str]), []⟩,
  fun (s : Str) => genSplitS s⟩

theorem genSplitS.ev : ∀ d, evFn C0 (hnd (tab [(38, countS.S), (39, indexS.S)])) Tryd.f29 (.seq .u (.seq .u (.seq .u (.join ⟨[.str, .int .i64], [(0, .sc .str), (1, .cstr [47]), (2, .cint .i64 0), (3, .sc (.int .i64))], []⟩ .u (.seq .u (.seq .u (.seq .u (.seq .u (.seq (.blk (.loop ⟨[.str, .int .i64, .int .i64, .list [.str]], [(0, .sc .str), (1, .cstr [47]), (2, .cint .i64 0), (3, .sc (.int .i64)), (9, .full 0), (10, .sc (.int .i64))], [.arr [.str]]⟩ (fun ((s2, n1, i, a) : Str × Int × Int × List Str) => (n1 - i).toNat + 1) 0 ⟨[.str, .int .i64, .list [.str]], [(0, .sc .str), (9, .full 0), (10, .sc (.int .i64))], [.arr [.str]]⟩ .u)) .u))))))))) genSplitS.S d = genSplitS.S.F d := fun _ => by kernel_rfl

theorem genSplitS.sound : SoundS Tryd.prog C0 29 genSplitS.S := sound_of_ev tyOk (tab_ok (l := [(38, countS.S), (39, indexS.S)]) ⟨countS.sound, indexS.sound, trivial⟩) Tryd.func29 (by kernel_rfl) (by kernel_rfl) (by kernel_rfl) genSplitS.ev

def splitS.S : Spec := ⟨0, [.sc .str, .cstr [47]], [], [.str], ⟨[.list [.str]], .sc (.list [.str]), []⟩,
  fun (s : Str) => splitS s⟩

theorem splitS.ev : ∀ d, evFn C0 (hnd (tab [(29, genSplitS.S)])) Tryd.f22 .u splitS.S d = splitS.S.F d := fun _ => by kernel_rfl

theorem splitS.sound : SoundS Tryd.prog C0 22 splitS.S := sound_of_ev tyOk (tab_ok (l := [(29, genSplitS.S)]) ⟨genSplitS.sound, trivial⟩) Tryd.func22 (by kernel_rfl) (by kernel_rfl) (by kernel_rfl) splitS.ev

def implNameOk.S : Spec := ⟨0, [.sc .str], [], [.str], ⟨[.bool], .sc .bool, []⟩,
  fun (s : Str) => implNameOk s⟩

theorem implNameOk.ev : ∀ d, evFn C0 (hnd (tab [(22, splitS.S), (23, partOk.S)])) Tryd.f15 (.seq .u (.seq .u (.seq (.seq .u (.blk (.loopS ⟨[.list [.str], .list [.str], .int .i64, .int .i64], [(3, .sc (.list [.str])), (8, .sc (.list [.str])), (9, .sc (.int .i64)), (10, .sc (.int .i64))], []⟩ (fun ((parts, t, t1, t2) : List Str × List Str × Int × Int) => (t1 - t2).toNat + 1) 0 ⟨[.list [.str]], [(3, .sc (.list [.str]))], []⟩ .u))) .u))) implNameOk.S d = implNameOk.S.F d := fun _ => by kernel_rfl

theorem implNameOk.sound : SoundS Tryd.prog C0 15 implNameOk.S := sound_of_ev tyOk (tab_ok (l := [(22, splitS.S), (23, partOk.S)]) ⟨splitS.sound, partOk.sound, trivial⟩) Tryd.func15 (by kernel_rfl) (by kernel_rfl) (by kernel_rfl) implNameOk.ev

def apart.S : Spec := ⟨0, [.sc (.list [.str])], [], [.list [.str]], ⟨[.bool], .sc .bool, []⟩,
  fun (xs : List Str) => apart xs⟩

theorem apart.ev : ∀ d, evFn C0 (hnd (tab [(24, hasPrefix.S)])) Tryd.f16 (.seq .u (.seq (.seq .u (.blk (.loopS ⟨[.list [.str], .list [.str], .int .i64, .int .i64], [(0, .sc (.list [.str])), (7, .sc (.list [.str])), (8, .sc (.int .i64)), (9, .sc (.int .i64))], []⟩ (fun ((names, t, t1, t2) : List Str × List Str × Int × Int) => (t1 - t2).toNat + 1) 0 ⟨[], [], []⟩ (.seq .u (.seq .u (.seq (.blk (.seq .u (.seq .u (.blk (.loopS ⟨[.list [.str], .str, .list [.str], .int .i64, .int .i64, .list [.str], .int .i64, .int .i64], [(0, .sc (.list [.str])), (4, .sc .str), (7, .sc (.list [.str])), (8, .sc (.int .i64)), (9, .sc (.int .i64)), (16, .sc (.list [.str])), (17, .sc (.int .i64)), (18, .sc (.int .i64))], []⟩ (fun ((names1, a, t3, t4, t5, t6, t7, t8) : List Str × Str × List Str × Int × Int × List Str × Int × Int) => (t7 - t8).toNat + 1) 2 ⟨[.list [.str], .list [.str], .int .i64, .int .i64], [(0, .sc (.list [.str])), (7, .sc (.list [.str])), (8, .sc (.int .i64)), (9, .sc (.int .i64))], []⟩ (.seq .u (.seq .u (.seq (.blk (.seq .u (.seq (.reg [.bool] [(36, .sc .bool)]) .u))) .u)))))))) .u)))))) .u)) apart.S d = apart.S.F d := fun _ => by kernel_rfl

theorem apart.sound : SoundS Tryd.prog C0 16 apart.S := sound_of_ev tyOk (tab_ok (l := [(24, hasPrefix.S)]) ⟨hasPrefix.sound, trivial⟩) Tryd.func16 (by kernel_rfl) (by kernel_rfl) (by kernel_rfl) apart.ev

def implTreeOk.S : Spec := ⟨0, [.sc (.list [.str, .str])], [], [.list [.str, .str]], ⟨[.bool], .sc .bool, []⟩,
  fun (xs : List (Str × Str)) => implTreeOk xs⟩

theorem implTreeOk.ev : ∀ d, evFn C0 (hnd (tab [(15, implNameOk.S), (16, apart.S)])) Tryd.f8 (.seq .u (.seq .u (.seq (.seq .u (.blk (.loopS ⟨[.list [.str, .str], .list [.str, .str], .int .i64, .int .i64, .list [.str]], [(0, .sc (.list [.str, .str])), (3, .full 0), (7, .sc (.list [.str, .str])), (8, .sc (.int .i64)), (9, .sc (.int .i64))], [.arr [.str]]⟩ (fun ((t, t1, t2, t3, paths) : (List (Str × Str)) × (List (Str × Str)) × Int × Int × List Str) => (t2 - t3).toNat + 1) 0 ⟨[.list [.str, .str], .list [.str]], [(0, .sc (.list [.str, .str])), (3, .full 0)], [.arr [.str]]⟩ (.seq .u (.seq .u (.seq (.blk (.seq .u (.seq (.seq (.reg [.bool] [(38, .sc .bool)]) .u) .u))) .u)))))) (.seq (.reg [.bool] [(2, .sc .bool)]) .u)))) implTreeOk.S d = implTreeOk.S.F d := fun _ => by kernel_rfl

theorem implTreeOk.sound : SoundS Tryd.prog C0 8 implTreeOk.S := sound_of_ev tyOk (tab_ok (l := [(15, implNameOk.S), (16, apart.S)]) ⟨implNameOk.sound, apart.sound, trivial⟩) Tryd.func8 (by kernel_rfl) (by kernel_rfl) (by kernel_rfl) implTreeOk.ev

def FnExactTreeOk.S : Spec := ⟨0, [.sc (.list [.str, .str])], [], [.list [.str, .str]], ⟨[.bool], .sc .bool, []⟩,
  fun (xs : List (Str × Str)) => FnExactTreeOk xs⟩

theorem FnExactTreeOk.ev : ∀ d, evFn C0 (hnd (tab [(5, szFileS.S), (6, specTreeOk.S), (7, toFileS.S), (8, implTreeOk.S), (9, eqFileS.S)])) Tryd.f3 .u FnExactTreeOk.S d = FnExactTreeOk.S.F d := fun _ => by kernel_rfl

theorem FnExactTreeOk.sound : SoundS Tryd.prog C0 3 FnExactTreeOk.S := sound_of_ev tyOk (tab_ok (l := [(5, szFileS.S), (6, specTreeOk.S), (7, toFileS.S), (8, implTreeOk.S), (9, eqFileS.S)]) ⟨szFileS.sound, specTreeOk.sound, toFileS.sound, implTreeOk.sound, eqFileS.sound, trivial⟩) Tryd.func3 (by kernel_rfl) (by kernel_rfl) (by kernel_rfl) FnExactTreeOk.ev

def l1Open.S : Spec := ⟨0, [.sc (.list [.int .u8])], [], [.list [.int .u8]], ⟨[.list [.int .u8], .int .i64], .ptr 0 0, [.box [.sc (.list [.int .u8]), .sc (.int .i64)]]⟩,
  fun (code_ : List Int) => l1Open code_⟩

theorem l1Open.ev : ∀ d, evFn C0 (hnd (tab [])) Tryd.f19 .u l1Open.S d = l1Open.S.F d := fun _ => by kernel_rfl

theorem l1Open.sound : SoundS Tryd.prog C0 19 l1Open.S := sound_of_ev tyOk (tab_ok (l := []) trivial) Tryd.func19 (by kernel_rfl) (by kernel_rfl) (by kernel_rfl) l1Open.ev

def pick.S : Spec := ⟨1, [.ptr 0 0, .sc (.int .i64)], [.box [.sc (.list [.int .u8]), .sc (.int .i64)]], [.int .i64, .list [.int .u8], .int .i64], ⟨[.int .i64, .list [.int .u8], .int .i64], .sc (.int .i64), [.box [.sc (.list [.int .u8]), .sc (.int .i64)]]⟩,
  fun ((n, b, p) : Int × List Int × Int) => pick n b p⟩

theorem pick.ev : ∀ d, evFn C0 (hnd (tab [])) Tryd.f26 (.seq .u (.seq .u (.seq (.seq (.reg [.bool] [(24, .sc .bool)]) .u) .u))) pick.S d = pick.S.F d := fun _ => by kernel_rfl

theorem pick.sound : SoundS Tryd.prog C0 26 pick.S := sound_of_ev tyOk (tab_ok (l := []) trivial) Tryd.func26 (by kernel_rfl) (by kernel_rfl) (by kernel_rfl) pick.ev

def rdOf.S : Spec := ⟨1, [.ptr 0 0, .sc (.list [.str])], [.box [.sc (.list [.int .u8]), .sc (.int .i64)]], [.list [.str], .list [.int .u8], .int .i64], ⟨[.str, .list [.int .u8], .int .i64], .sc .str, [.box [.sc (.list [.int .u8]), .sc (.int .i64)]]⟩,
  fun ((xs, b, p) : List Str × List Int × Int) => rdOf xs b p⟩

theorem rdOf.ev : ∀ d, evFn C0 (hnd (tab [(26, pick.S)])) Tryd.f35 .u rdOf.S d = rdOf.S.F d := fun _ => by kernel_rfl

theorem rdOf.sound : SoundS Tryd.prog C0 35 rdOf.S := sound_of_ev tyOk (tab_ok (l := [(26, pick.S)]) ⟨pick.sound, trivial⟩) Tryd.func35 (by kernel_rfl) (by kernel_rfl) (by kernel_rfl) rdOf.ev

def l1Many.S : Spec := ⟨0, [.sc .str, .sc (.int .i64)], [], [.str, .int .i64], ⟨[.str], .sc .str, []⟩,
  fun ((s, n) : Str × Int) => l1Many s n⟩

theorem l1Many.ev : ∀ d, evFn C0 (hnd (tab [])) Tryd.f36 (.seq .u (.seq .u (.seq (.blk (.loop ⟨[.str, .int .i64, .str], [(0, .sc .str), (1, .sc (.int .i64)), (5, .sc .str)], []⟩ (fun ((s1, n1, out) : Str × Int × Str) => n1.toNat + 1) 0 ⟨[.str], [(5, .sc .str)], []⟩ .u)) .u))) l1Many.S d = l1Many.S.F d := fun _ => by kernel_rfl

theorem l1Many.sound : SoundS Tryd.prog C0 36 l1Many.S := sound_of_ev tyOk (tab_ok (l := []) trivial) Tryd.func36 (by kernel_rfl) (by kernel_rfl) (by kernel_rfl) l1Many.ev

def l11Text.S : Spec := ⟨1, [.ptr 0 0], [.box [.sc (.list [.int .u8]), .sc (.int .i64)]], [.list [.int .u8], .int .i64], ⟨[.str, .list [.int .u8], .int .i64], .sc .str, [.box [.sc (.list [.int .u8]), .sc (.int .i64)]]⟩,
  fun ((b, p) : List Int × Int) => l11Text b p⟩

theorem l11Text.ev : ∀ d, evFn C0 (hnd (tab [(26, pick.S), (35, rdOf.S), (36, l1Many.S)])) Tryd.f34 (.seq .u (.seq (.seq .u (.blk (.seq .u (.cond .u (.seq .u (.cond .u (.seq .u (.cond (.seq .u (.seq (.seq .u (.blk (.loop ⟨[.int .i64, .list [.int .u8], .int .i64, .list [.int .u8]], [(0, .ptr 0 0), (3, .full 1), (4, .sc (.int .i64))], [.box [.sc (.list [.int .u8]), .sc (.int .i64)], .arr [.int .u8]]⟩ (fun ((n, o, o1, out) : Int × List Int × Int × List Int) => (n - 0).toNat + 1) 1 ⟨[.list [.int .u8], .int .i64, .list [.int .u8]], [(3, .full 1)], [.box [.sc (.list [.int .u8]), .sc (.int .i64)], .arr [.int .u8]]⟩ .u))) .u)) .u)))))))) (.seq .u (.seq (.seq .u (.blk (.loop ⟨[.str, .int .i64, .list [.int .u8], .int .i64], [(0, .ptr 0 0), (5, .sc .str), (6, .sc (.int .i64))], [.box [.sc (.list [.int .u8]), .sc (.int .i64)]]⟩ (fun ((out2, n1, o4, o5) : Str × Int × List Int × Int) => (n1 - 0).toNat + 1) 3 ⟨[.str, .list [.int .u8], .int .i64], [(5, .sc .str)], [.box [.sc (.list [.int .u8]), .sc (.int .i64)]]⟩ .u))) .u)))) l11Text.S d = l11Text.S.F d := fun _ => by kernel_rfl

theorem l11Text.sound : SoundS Tryd.prog C0 34 l11Text.S := sound_of_ev tyOk (tab_ok (l := [(26, pick.S), (35, rdOf.S), (36, l1Many.S)]) ⟨pick.sound, rdOf.sound, l1Many.sound, trivial⟩) Tryd.func34 (by kernel_rfl) (by kernel_rfl) (by kernel_rfl) l11Text.ev

def l11AnyText.S : Spec := ⟨1, [.ptr 0 0], [.box [.sc (.list [.int .u8]), .sc (.int .i64)]], [.list [.int .u8], .int .i64], ⟨[.str, .list [.int .u8], .int .i64], .sc .str, [.box [.sc (.list [.int .u8]), .sc (.int .i64)]]⟩,
  fun ((b, p) : List Int × Int) => l11AnyText b p⟩

theorem l11AnyText.ev : ∀ d, evFn C0 (hnd (tab [(26, pick.S), (34, l11Text.S), (36, l1Many.S)])) Tryd.f28 .u l11AnyText.S d = l11AnyText.S.F d := fun _ => by kernel_rfl

theorem l11AnyText.sound : SoundS Tryd.prog C0 28 l11AnyText.S := sound_of_ev tyOk (tab_ok (l := [(26, pick.S), (34, l11Text.S), (36, l1Many.S)]) ⟨pick.sound, l11Text.sound, l1Many.sound, trivial⟩) Tryd.func28 (by kernel_rfl) (by kernel_rfl) (by kernel_rfl) l11AnyText.ev

def l11Name.S : Spec := ⟨1, [.ptr 0 0], [.box [.sc (.list [.int .u8]), .sc (.int .i64)]], [.list [.int .u8], .int .i64], ⟨[.str, .list [.int .u8], .int .i64], .sc .str, [.box [.sc (.list [.int .u8]), .sc (.int .i64)]]⟩,
  fun ((b, p) : List Int × Int) => l11Name b p⟩

theorem l11Name.ev : ∀ d, evFn C0 (hnd (tab [(35, rdOf.S)])) Tryd.f33 .u l11Name.S d = l11Name.S.F d := fun _ => by kernel_rfl

theorem l11Name.sound : SoundS Tryd.prog C0 33 l11Name.S := sound_of_ev tyOk (tab_ok (l := [(35, rdOf.S)]) ⟨rdOf.sound, trivial⟩) Tryd.func33 (by kernel_rfl) (by kernel_rfl) (by kernel_rfl) l11Name.ev

def l11AnyName.S : Spec := ⟨1, [.ptr 0 0], [.box [.sc (.list [.int .u8]), .sc (.int .i64)]], [.list [.int .u8], .int .i64], ⟨[.str, .list [.int .u8], .int .i64], .sc .str, [.box [.sc (.list [.int .u8]), .sc (.int .i64)]]⟩,
  fun ((b, p) : List Int × Int) => l11AnyName b p⟩

theorem l11AnyName.ev : ∀ d, evFn C0 (hnd (tab [(26, pick.S), (33, l11Name.S), (35, rdOf.S)])) Tryd.f27 .u l11AnyName.S d = l11AnyName.S.F d := fun _ => by kernel_rfl

theorem l11AnyName.sound : SoundS Tryd.prog C0 27 l11AnyName.S := sound_of_ev tyOk (tab_ok (l := [(26, pick.S), (33, l11Name.S), (35, rdOf.S)]) ⟨pick.sound, l11Name.sound, rdOf.sound, trivial⟩) Tryd.func27 (by kernel_rfl) (by kernel_rfl) (by kernel_rfl) l11AnyName.ev

def l10Put.S : Spec := ⟨0, [.sc (.list [.str, .str]), .agg [.sc .str, .sc .str]], [], [.list [.str, .str], .str, .str], ⟨[.list [.str, .str]], .full 0, [.arr [.str, .str]]⟩,
  fun ((xs, path, text) : (List (Str × Str)) × Str × Str) => l10Put xs path text⟩

theorem l10Put.ev : ∀ d, evFn C0 (hnd (tab [])) Tryd.f32 (.seq .u (.seq .u (.seq (.blk (.loop ⟨[.list [.str, .str], .int .i64, .str, .str], [(0, .sc (.list [.str, .str])), (3, .ptr 0 0), (5, .sc (.int .i64))], [.box [.sc .str, .sc .str]]⟩ (fun ((t, k, o, o1) : (List (Str × Str)) × Int × Str × Str) => ((t.length : Int) - k).toNat + 1) 0 ⟨[.list [.str, .str], .int .i64, .str, .str], [(0, .sc (.list [.str, .str])), (3, .ptr 0 0), (5, .sc (.int .i64))], [.box [.sc .str, .sc .str]]⟩ (.seq (.seq (.reg [.bool] [(19, .sc .bool)]) .u) .u))) (.seq (.seq (.reg [.bool] [(35, .sc .bool)]) .u) .u)))) l10Put.S d = l10Put.S.F d := fun _ => by kernel_rfl

theorem l10Put.sound : SoundS Tryd.prog C0 32 l10Put.S := sound_of_ev tyOk (tab_ok (l := []) trivial) Tryd.func32 (by kernel_rfl) (by kernel_rfl) (by kernel_rfl) l10Put.ev

def l11Tree.S : Spec := ⟨1, [.ptr 0 0], [.box [.sc (.list [.int .u8]), .sc (.int .i64)]], [.list [.int .u8], .int .i64], ⟨[.list [.int .u8], .int .i64, .list [.str, .str]], .full 1, [.box [.sc (.list [.int .u8]), .sc (.int .i64)], .arr [.str, .str]]⟩,
  fun ((b, p) : List Int × Int) => l11Tree b p⟩

theorem l11Tree.ev : ∀ d, evFn C0 (hnd (tab [(6, specTreeOk.S), (26, pick.S), (32, l10Put.S), (33, l11Name.S), (34, l11Text.S)])) Tryd.f25 (.seq .u (.seq .u (.seq (.seq .u (.blk (.loop ⟨[.int .i64, .list [.int .u8], .int .i64, .list [.str, .str]], [(0, .ptr 0 0), (3, .full 1), (4, .sc (.int .i64))], [.box [.sc (.list [.int .u8]), .sc (.int .i64)], .arr [.str, .str]]⟩ (fun ((n, o, o1, out) : Int × List Int × Int × List (Str × Str)) => (n - 0).toNat + 1) 0 ⟨[.list [.int .u8], .int .i64, .list [.str, .str]], [(3, .full 1)], [.box [.sc (.list [.int .u8]), .sc (.int .i64)], .arr [.str, .str]]⟩ .u))) .u))) l11Tree.S d = l11Tree.S.F d := fun _ => by kernel_rfl

theorem l11Tree.sound : SoundS Tryd.prog C0 25 l11Tree.S := sound_of_ev tyOk (tab_ok (l := [(6, specTreeOk.S), (26, pick.S), (32, l10Put.S), (33, l11Name.S), (34, l11Text.S)]) ⟨specTreeOk.sound, pick.sound, l10Put.sound, l11Name.sound, l11Text.sound, trivial⟩) Tryd.func25 (by kernel_rfl) (by kernel_rfl) (by kernel_rfl) l11Tree.ev

def l11AnyTree.S : Spec := ⟨1, [.ptr 0 0], [.box [.sc (.list [.int .u8]), .sc (.int .i64)]], [.list [.int .u8], .int .i64], ⟨[.list [.int .u8], .int .i64, .list [.str, .str]], .full 1, [.box [.sc (.list [.int .u8]), .sc (.int .i64)], .arr [.str, .str]]⟩,
  fun ((b, p) : List Int × Int) => l11AnyTree b p⟩

theorem l11AnyTree.ev : ∀ d, evFn C0 (hnd (tab [(25, l11Tree.S), (26, pick.S), (27, l11AnyName.S), (28, l11AnyText.S)])) Tryd.f18 .u l11AnyTree.S d = l11AnyTree.S.F d := fun _ => by kernel_rfl

theorem l11AnyTree.sound : SoundS Tryd.prog C0 18 l11AnyTree.S := sound_of_ev tyOk (tab_ok (l := [(25, l11Tree.S), (26, pick.S), (27, l11AnyName.S), (28, l11AnyText.S)]) ⟨l11Tree.sound, pick.sound, l11AnyName.sound, l11AnyText.sound, trivial⟩) Tryd.func18 (by kernel_rfl) (by kernel_rfl) (by kernel_rfl) l11AnyTree.ev

def drawTreeOk.S : Spec := ⟨0, [.sc (.list [.int .u8])], [], [.list [.int .u8]], ⟨[.list [.str, .str]], .full 0, [.arr [.str, .str]]⟩,
  fun (code_ : List Int) => drawTreeOk code_⟩

theorem drawTreeOk.ev : ∀ d, evFn C0 (hnd (tab [(18, l11AnyTree.S), (19, l1Open.S)])) Tryd.f10 .u drawTreeOk.S d = drawTreeOk.S.F d := fun _ => by kernel_rfl

theorem drawTreeOk.sound : SoundS Tryd.prog C0 10 drawTreeOk.S := sound_of_ev tyOk (tab_ok (l := [(18, l11AnyTree.S), (19, l1Open.S)]) ⟨l11AnyTree.sound, l1Open.sound, trivial⟩) Tryd.func10 (by kernel_rfl) (by kernel_rfl) (by kernel_rfl) drawTreeOk.ev

def FnTreeLess.S : Spec := ⟨0, [.sc (.list [.int .u8])], [], [.list [.int .u8]], ⟨[.bool], .sc .bool, []⟩,
  fun (code_ : List Int) => FnTreeLess code_⟩

theorem FnTreeLess.ev : ∀ d, evFn C0 (hnd (tab [(6, specTreeOk.S), (8, implTreeOk.S), (10, drawTreeOk.S)])) Tryd.f4 (.seq .u (.seq .u (.seq .u (.seq .u (.seq (.seq (.reg [.bool] [(20, .sc .bool)]) .u) (.seq (.seq .u (.blk (.loopS ⟨[.int .i64, .list [.str, .str]], [(3, .full 0), (5, .sc (.int .i64))], [.arr [.str, .str]]⟩ (fun ((i, t) : Int × List (Str × Str)) => ((t.length : Int) - i).toNat + 1) 0 ⟨[], [], []⟩ .u))) .u)))))) FnTreeLess.S d = FnTreeLess.S.F d := fun _ => by kernel_rfl

theorem FnTreeLess.sound : SoundS Tryd.prog C0 4 FnTreeLess.S := sound_of_ev tyOk (tab_ok (l := [(6, specTreeOk.S), (8, implTreeOk.S), (10, drawTreeOk.S)]) ⟨specTreeOk.sound, implTreeOk.sound, drawTreeOk.sound, trivial⟩) Tryd.func4 (by kernel_rfl) (by kernel_rfl) (by kernel_rfl) FnTreeLess.ev

end Ev
