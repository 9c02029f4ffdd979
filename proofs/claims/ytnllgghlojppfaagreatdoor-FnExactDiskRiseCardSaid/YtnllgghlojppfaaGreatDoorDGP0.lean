/- What each function of the program computes, as a plain function (printed by a program of this work out of the form of the program). Conditions: none. -/
import Derived.Test.YtnllgghlojppfaaGreatDoorDGS0
section
open Go
set_option maxRecDepth 100000
namespace Ev
set_option maxHeartbeats 1000000
set_option linter.unusedVariables false
def within (n : Int) (low : Int) (high : Int) : Option (Bool) :=
 ((bif (decide (n ≥ low)) then (some (decide (n ≤ high))) else
 (some false)).bind fun c =>
 (some c))
def partOk.l0.step (again : (Str × Int × Int) → Option ((Str) ⊕ (Bool))) : (Str × Int × Int) → Option ((Str) ⊕ (Bool)) := fun (s1, t, t1) =>
 (bif (decide (t1 < t)) then (need (decide (0 ≤ t1) && decide (t1 < s1.length)) ((bif (decide (((s1.getD t1.toNat 0).toNat : Int) < 97)) then (bif (decide (((s1.getD t1.toNat 0).toNat : Int) < 48)) then (bif (((s1.getD t1.toNat 0).toNat : Int) != 46) then (bif (((s1.getD t1.toNat 0).toNat : Int) != 45) then (some (((s1.getD t1.toNat 0).toNat : Int) != 95)) else
 (some false)) else
 (some false)) else
 (bif (decide (((s1.getD t1.toNat 0).toNat : Int) > 57)) then (bif (((s1.getD t1.toNat 0).toNat : Int) != 46) then (bif (((s1.getD t1.toNat 0).toNat : Int) != 45) then (some (((s1.getD t1.toNat 0).toNat : Int) != 95)) else
 (some false)) else
 (some false)) else
 (some false))) else
 (bif (decide (((s1.getD t1.toNat 0).toNat : Int) > 122)) then (bif (decide (((s1.getD t1.toNat 0).toNat : Int) < 48)) then (bif (((s1.getD t1.toNat 0).toNat : Int) != 46) then (bif (((s1.getD t1.toNat 0).toNat : Int) != 45) then (some (((s1.getD t1.toNat 0).toNat : Int) != 95)) else
 (some false)) else
 (some false)) else
 (bif (decide (((s1.getD t1.toNat 0).toNat : Int) > 57)) then (bif (((s1.getD t1.toNat 0).toNat : Int) != 46) then (bif (((s1.getD t1.toNat 0).toNat : Int) != 45) then (some (((s1.getD t1.toNat 0).toNat : Int) != 95)) else
 (some false)) else
 (some false)) else
 (some false))) else
 (some false))).bind fun c =>
 (bif c then ((some false).map Sum.inr) else
 (again (s1, t, (w64 (t1 + 1))))))) else
 (some (.inl s1)))
def partOk.l0 : Nat → (Str × Int × Int) → Option ((Str) ⊕ (Bool)) := loopN (partOk.l0.step)
theorem partOk.l0.succ (n : Nat) (t : (Str × Int × Int)) : partOk.l0 (n + 1) t = partOk.l0.step (partOk.l0 n) t := rfl
def partOk (s : Str) : Option (Bool) :=
 ((partOk.l0 (((s.length : Int) - (0 : Int)).toNat + 1) (s, (s.length : Int), 0)).bind fun r => match r with
 | .inl s2 => (((within (s2.length : Int) 1 10).bind fun within_ =>
 (bif within_ then (bif (!(s2 == [46])) then (some (!(s2 == [46, 46]))) else
 (some false)) else
 (some false))).bind fun c1 =>
 (some c1))
 | .inr r => some r)
def l1In (n : Int) (low : Int) (high : Int) : Option (Bool) :=
 ((bif (decide (n ≥ low)) then (some (decide (n ≤ high))) else
 (some false)).bind fun c =>
 (some c))
def l1Cut.l0.step (again : (Str × Int × Int × Int × Int × List Str) → Option (Str × Int × List Str)) : (Str × Int × Int × Int × Int × List Str) → Option (Str × Int × List Str) := fun (s1, b1, most1, from_, i, out) =>
 ((bif (decide (i < (s1.length : Int))) then (some (decide ((out.length : Int) < most1))) else
 (some false)).bind fun c =>
 (bif c then (need (decide (0 ≤ i) && decide (i < s1.length)) (bif (((s1.getD i.toNat 0).toNat : Int) == b1) then (need (decide (0 ≤ i) && decide (i ≤ s1.length)) (need (decide (0 ≤ from_) && decide (from_ ≤ i)) (need (fits (out.length + ([((s1.take i.toNat).drop from_.toNat)] : List (Str)).length)) (again (s1, b1, most1, (w64 (i + 1)), (w64 (i + 1)), (out ++ [((s1.take i.toNat).drop from_.toNat)])))))) else
 (again (s1, b1, most1, from_, (w64 (i + 1)), out)))) else
 (some (s1, from_, out))))
def l1Cut.l0 : Nat → (Str × Int × Int × Int × Int × List Str) → Option (Str × Int × List Str) := loopN (l1Cut.l0.step)
theorem l1Cut.l0.succ (n : Nat) (t : (Str × Int × Int × Int × Int × List Str)) : l1Cut.l0 (n + 1) t = l1Cut.l0.step (l1Cut.l0 n) t := rfl
def l1Cut (s : Str) (b : Int) (most : Int) : Option (List Str) :=
 ((l1Cut.l0 (((s.length : Int) - (0 : Int)).toNat + 1) (s, b, most, 0, 0, [])).bind fun (s2, from_1, out1) =>
 (need (decide (0 ≤ from_1) && decide (from_1 ≤ s2.length)) (need (fits (out1.length + ([(s2.drop from_1.toNat)] : List (Str)).length)) (some (out1 ++ [(s2.drop from_1.toNat)])))))
def szFile (path : Str) (text : Str) (n : Int) : Option (Int) :=
 (bif (decide ((w64 (n - (path.length : Int))) < 0)) then (some (-1)) else
 (bif (decide ((w64 ((w64 (n - (path.length : Int))) - (text.length : Int))) < 0)) then (some (-1)) else
 (some (w64 ((w64 (n - (path.length : Int))) - (text.length : Int))))))
def specNameOk.l0.step (again : (Int × Str × Int × List Str) → Option ((Int × Str × List Str) ⊕ ((List Str) ⊕ (Bool)))) : (Int × Str × Int × List Str) → Option ((Int × Str × List Str) ⊕ ((List Str) ⊕ (Bool))) := fun (i1, w, k, list1) =>
 (bif (decide (k < (w.length : Int))) then ((need (decide (0 ≤ k) && decide (k < w.length)) (bif (decide (((w.getD k.toNat 0).toNat : Int) ≥ 97)) then (need (decide (0 ≤ k) && decide (k < w.length)) (bif (decide (((w.getD k.toNat 0).toNat : Int) ≤ 122)) then (some (!true)) else
 (need (decide (0 ≤ k) && decide (k < w.length)) (bif (decide (((w.getD k.toNat 0).toNat : Int) ≥ 48)) then (need (decide (0 ≤ k) && decide (k < w.length)) (bif (decide (((w.getD k.toNat 0).toNat : Int) ≤ 57)) then (some (!true)) else
 (need (decide (0 ≤ k) && decide (k < w.length)) (bif (((w.getD k.toNat 0).toNat : Int) == 46) then (some (!true)) else
 (need (decide (0 ≤ k) && decide (k < w.length)) (bif (((w.getD k.toNat 0).toNat : Int) == 45) then (some (!true)) else
 (need (decide (0 ≤ k) && decide (k < w.length)) (some (!(((w.getD k.toNat 0).toNat : Int) == 95)))))))))) else
 (need (decide (0 ≤ k) && decide (k < w.length)) (bif (((w.getD k.toNat 0).toNat : Int) == 46) then (some (!true)) else
 (need (decide (0 ≤ k) && decide (k < w.length)) (bif (((w.getD k.toNat 0).toNat : Int) == 45) then (some (!true)) else
 (need (decide (0 ≤ k) && decide (k < w.length)) (some (!(((w.getD k.toNat 0).toNat : Int) == 95)))))))))))) else
 (need (decide (0 ≤ k) && decide (k < w.length)) (bif (decide (((w.getD k.toNat 0).toNat : Int) ≥ 48)) then (need (decide (0 ≤ k) && decide (k < w.length)) (bif (decide (((w.getD k.toNat 0).toNat : Int) ≤ 57)) then (some (!true)) else
 (need (decide (0 ≤ k) && decide (k < w.length)) (bif (((w.getD k.toNat 0).toNat : Int) == 46) then (some (!true)) else
 (need (decide (0 ≤ k) && decide (k < w.length)) (bif (((w.getD k.toNat 0).toNat : Int) == 45) then (some (!true)) else
 (need (decide (0 ≤ k) && decide (k < w.length)) (some (!(((w.getD k.toNat 0).toNat : Int) == 95)))))))))) else
 (need (decide (0 ≤ k) && decide (k < w.length)) (bif (((w.getD k.toNat 0).toNat : Int) == 46) then (some (!true)) else
 (need (decide (0 ≤ k) && decide (k < w.length)) (bif (((w.getD k.toNat 0).toNat : Int) == 45) then (some (!true)) else
 (need (decide (0 ≤ k) && decide (k < w.length)) (some (!(((w.getD k.toNat 0).toNat : Int) == 95)))))))))))).bind fun c =>
 (bif c then (((some false).map Sum.inr).map Sum.inr) else
 (again (i1, w, (w64 (k + 1)), list1)))) else
 (some (.inl (i1, w, list1))))
def specNameOk.l0 : Nat → (Int × Str × Int × List Str) → Option ((Int × Str × List Str) ⊕ ((List Str) ⊕ (Bool))) := loopN (specNameOk.l0.step)
theorem specNameOk.l0.succ (n : Nat) (t : (Int × Str × Int × List Str)) : specNameOk.l0 (n + 1) t = specNameOk.l0.step (specNameOk.l0 n) t := rfl
def specNameOk.l1.step (again : (Int × List Str) → Option ((List Str) ⊕ (Bool))) : (Int × List Str) → Option ((List Str) ⊕ (Bool)) := fun (i, list) =>
 (bif (decide (i < (list.length : Int))) then (need (decide (0 ≤ i) && decide (i < list.length)) ((specNameOk.l0 ((((list.getD i.toNat []).length : Int) - (0 : Int)).toNat + 1) (i, (list.getD i.toNat []), 0, list)).bind fun r => match r with
 | .inl (i2, w1, list2) => (((l1In (w1.length : Int) 1 10).bind fun l1In_ =>
 (bif (!l1In_) then (some true) else
 (bif (w1 == [46]) then (some true) else
 (some (w1 == [46, 46]))))).bind fun c1 =>
 (bif c1 then ((some false).map Sum.inr) else
 (again ((w64 (i2 + 1)), list2))))
 | .inr r => some r)) else
 (some (.inl list)))
def specNameOk.l1 : Nat → (Int × List Str) → Option ((List Str) ⊕ (Bool)) := loopN (specNameOk.l1.step)
theorem specNameOk.l1.succ (n : Nat) (t : (Int × List Str)) : specNameOk.l1 (n + 1) t = specNameOk.l1.step (specNameOk.l1 n) t := rfl
def specNameOk (s : Str) : Option (Bool) :=
 ((l1Cut s 47 (w64 ((s.length : Int) + 1))).bind fun l1Cut_ =>
 ((specNameOk.l1 (((l1Cut_.length : Int) - (0 : Int)).toNat + 1) (0, l1Cut_)).bind fun r => match r with
 | .inl list3 => (some (decide ((list3.length : Int) ≤ 4)))
 | .inr r => some r))
def l7Under (a : Str) (b : Str) : Option (Bool) :=
 ((bif (decide ((b.length : Int) > (a.length : Int))) then (need (decide (0 ≤ (a.length : Int)) && decide ((a.length : Int) ≤ b.length)) (bif ((b.take (a.length : Int).toNat) == a) then (need (decide (0 ≤ (a.length : Int)) && decide ((a.length : Int) < b.length)) (some (((b.getD (a.length : Int).toNat 0).toNat : Int) == 47))) else
 (some false))) else
 (some false)).bind fun c =>
 (some c))
def hasPrefix0 (s : Str) (p : Str) : Option (Bool) :=
 ((bif (decide ((s.length : Int) ≥ (p.length : Int))) then (need (decide (0 ≤ (p.length : Int)) && decide ((p.length : Int) ≤ s.length)) (some ((s.take (p.length : Int).toNat) == p))) else
 (some false)).bind fun c =>
 (some c))
def hasPrefix (s : Str) (p : Str) : Option (Bool) :=
 ((hasPrefix0 s p).bind fun HasPrefi =>
 (some HasPrefi))
def indexByteString (s : Str) (c : Int) : Option (Int) := some (idxB s c)
def countString (s : Str) (c : Int) : Option (Int) := some (cntB s c)
def indexByte0 (s : Str) (c : Int) : Option (Int) :=
 ((indexByteString s c).bind fun IndexByt =>
 (some IndexByt))
def index0S (s : Str) : Option (Int) :=
 ((some (([47] : Str) == s)).bind fun c =>
 (bif c then (some 0) else
 ((indexByte0 s 47).bind fun IndexByt =>
 (some IndexByt))))
def indexS (s : Str) : Option (Int) :=
 ((index0S s).bind fun Index =>
 (some Index))
def countS (s : Str) : Option (Int) :=
 ((countString s 47).bind fun CountStr =>
 (some CountStr))
def genSplitS.l0.step (again : (Str × Int × Int × List Str) → Option (Str × Int × List Str)) : (Str × Int × Int × List Str) → Option (Str × Int × List Str) := fun (s2, n1, i, a) =>
 (bif (decide (i < n1)) then ((indexS s2).bind fun Index =>
 (bif (decide (Index < 0)) then (some (s2, i, a)) else
 (need (decide (0 ≤ (w64 (Index + 0))) && decide ((w64 (Index + 0)) ≤ s2.length)) (need (decide (0 ≤ i) && decide (i < a.length)) (need (decide (0 ≤ (w64 (Index + 1))) && decide ((w64 (Index + 1)) ≤ s2.length)) (again ((s2.drop (w64 (Index + 1)).toNat), n1, (w64 (i + 1)), (a.set i.toNat (s2.take (w64 (Index + 0)).toNat))))))))) else
 (some (s2, i, a)))
def genSplitS.l0 : Nat → (Str × Int × Int × List Str) → Option (Str × Int × List Str) := loopN (genSplitS.l0.step)
theorem genSplitS.l0.succ (n : Nat) (t : (Str × Int × Int × List Str)) : genSplitS.l0 (n + 1) t = genSplitS.l0.step (genSplitS.l0 n) t := rfl
def genSplitS (s : Str) : Option (List Str) :=
 ((((countS s).bind fun Count =>
 (some (s, (w64 (Count + 1))))) : Option (Str × Int)).bind fun (s1, n) =>
 (need (decide (0 ≤ (minA n (w64 ((s1.length : Int) + 1)))) && fits (minA n (w64 ((s1.length : Int) + 1))).toNat) ((genSplitS.l0 (((w64 ((minA n (w64 ((s1.length : Int) + 1))) - 1)) - (0 : Int)).toNat + 1) (s1, (w64 ((minA n (w64 ((s1.length : Int) + 1))) - 1)), 0, (List.replicate (minA n (w64 ((s1.length : Int) + 1))).toNat ([] : Str)))).bind fun (s3, i1, a1) =>
 (need (decide (0 ≤ i1) && decide (i1 < a1.length)) (need (decide (0 ≤ (w64 (i1 + 1))) && decide ((w64 (i1 + 1)) ≤ (a1.set i1.toNat s3).length)) (some (((a1.set i1.toNat s3).drop 0).take ((w64 (i1 + 1)).toNat))))))))
def splitS (s : Str) : Option (List Str) :=
 ((genSplitS s).bind fun genSplit =>
 (some genSplit))
def implNameOk.l0.step (again : (List Str × List Str × Int × Int) → Option ((List Str) ⊕ (Bool))) : (List Str × List Str × Int × Int) → Option ((List Str) ⊕ (Bool)) := fun (parts, t, t1, t2) =>
 (bif (decide (t2 < t1)) then (need (decide (0 ≤ t2) && decide (t2 < t.length)) ((partOk (t.getD t2.toNat [])).bind fun partOk_ =>
 (bif (!partOk_) then ((some false).map Sum.inr) else
 (again (parts, t, t1, (w64 (t2 + 1))))))) else
 (some (.inl parts)))
def implNameOk.l0 : Nat → (List Str × List Str × Int × Int) → Option ((List Str) ⊕ (Bool)) := loopN (implNameOk.l0.step)
theorem implNameOk.l0.succ (n : Nat) (t : (List Str × List Str × Int × Int)) : implNameOk.l0 (n + 1) t = implNameOk.l0.step (implNameOk.l0 n) t := rfl
def implNameOk (s : Str) : Option (Bool) :=
 ((splitS s).bind fun Split =>
 ((implNameOk.l0 (((Split.length : Int) - (0 : Int)).toNat + 1) (Split, Split, (Split.length : Int), 0)).bind fun r => match r with
 | .inl parts1 => (some (decide ((parts1.length : Int) ≤ 4)))
 | .inr r => some r))
def apart.l0.step (again : (List Str × Str × List Str × Int × Int × List Str × Int × Int) → Option ((List Str × List Str × Int × Int) ⊕ ((Unit) ⊕ (Bool)))) : (List Str × Str × List Str × Int × Int × List Str × Int × Int) → Option ((List Str × List Str × Int × Int) ⊕ ((Unit) ⊕ (Bool))) := fun (names1, a, t3, t4, t5, t6, t7, t8) =>
 (bif (decide (t8 < t7)) then (need (decide (0 ≤ t8) && decide (t8 < t6.length)) ((bif (a == (t6.getD t8.toNat [])) then (some true) else
 (need (fits ((t6.getD t8.toNat []).length + ([47] : Str).length)) ((hasPrefix a ((t6.getD t8.toNat []) ++ [47])).bind fun HasPrefi =>
 (bif HasPrefi then (some true) else
 (need (fits (a.length + ([47] : Str).length)) ((hasPrefix (t6.getD t8.toNat []) (a ++ [47])).bind fun HasPrefi1 =>
 (some HasPrefi1))))))).bind fun c =>
 (bif c then (((some false).map Sum.inr).map Sum.inr) else
 (again (names1, a, t3, t4, t5, t6, t7, (w64 (t8 + 1))))))) else
 (some (.inl (names1, t3, t4, t5))))
def apart.l0 : Nat → (List Str × Str × List Str × Int × Int × List Str × Int × Int) → Option ((List Str × List Str × Int × Int) ⊕ ((Unit) ⊕ (Bool))) := loopN (apart.l0.step)
theorem apart.l0.succ (n : Nat) (t : (List Str × Str × List Str × Int × Int × List Str × Int × Int)) : apart.l0 (n + 1) t = apart.l0.step (apart.l0 n) t := rfl
def apart.l1.step (again : (List Str × List Str × Int × Int) → Option ((Unit) ⊕ (Bool))) : (List Str × List Str × Int × Int) → Option ((Unit) ⊕ (Bool)) := fun (names, t, t1, t2) =>
 (bif (decide (t2 < t1)) then (need (decide (0 ≤ t2) && decide (t2 < t.length)) (need (decide (0 ≤ t2) && decide (t2 ≤ names.length)) ((apart.l0 ((((names.take t2.toNat).length : Int) - (0 : Int)).toNat + 1) (names, (t.getD t2.toNat []), t, t1, t2, (names.take t2.toNat), ((names.take t2.toNat).length : Int), 0)).bind fun r => match r with
 | .inl (names2, t9, t10, t11) => (again (names2, t9, t10, (w64 (t11 + 1))))
 | .inr r => some r))) else
 (some (.inl ())))
def apart.l1 : Nat → (List Str × List Str × Int × Int) → Option ((Unit) ⊕ (Bool)) := loopN (apart.l1.step)
theorem apart.l1.succ (n : Nat) (t : (List Str × List Str × Int × Int)) : apart.l1 (n + 1) t = apart.l1.step (apart.l1 n) t := rfl
def apart (xs : List Str) : Option (Bool) :=
 ((apart.l1 (((xs.length : Int) - (0 : Int)).toNat + 1) (xs, xs, (xs.length : Int), 0)).bind fun r => match r with
 | .inl _ => (some true)
 | .inr r => some r)
def rBit (s : Str) (at_ : Int) (bad : Bool) : Option (Int × Str × Int × Bool) :=
 (bif (decide (at_ ≥ (w64 (8 * (s.length : Int))))) then (some (0, s, at_, true)) else
 (need (decide (0 ≤ (w64 (at_.tdiv 8))) && decide ((w64 (at_.tdiv 8)) < s.length)) (need (decide (0 ≤ (at_.tmod 8))) (some ((iand .i64 (ishr .i64 (w64 ((s.getD (w64 (at_.tdiv 8)).toNat 0).toNat : Int)) (at_.tmod 8)) 1), s, (w64 (at_ + 1)), bad)))))
def rGet.l0.step (again : (Int × Int × Int × Str × Int × Bool) → Option (Int × Str × Int × Bool)) : (Int × Int × Int × Str × Int × Bool) → Option (Int × Str × Int × Bool) := fun (n, t, t1, o, o1, o2) =>
 (bif (decide (t1 < t)) then ((rBit o o1 o2).bind fun (r, r1, r2, r3) =>
 (need (decide (0 ≤ t1)) (again ((ior .i64 n (ishl .i64 r t1)), t, (w64 (t1 + 1)), r1, r2, r3)))) else
 (some (n, o, o1, o2)))
def rGet.l0 : Nat → (Int × Int × Int × Str × Int × Bool) → Option (Int × Str × Int × Bool) := loopN (rGet.l0.step)
theorem rGet.l0.succ (n : Nat) (t : (Int × Int × Int × Str × Int × Bool)) : rGet.l0 (n + 1) t = rGet.l0.step (rGet.l0 n) t := rfl
def rGet (bits : Int) (s : Str) (at_ : Int) (bad : Bool) : Option (Int × Str × Int × Bool) :=
 ((rGet.l0 ((bits - (0 : Int)).toNat + 1) (0, bits, 0, s, at_, bad)).bind fun (n1, o3, o4, o5) =>
 (some (n1, o3, o4, o5)))
def rEven.l0.step (again : (Str × Int × Bool) → Option (Str × Int × Bool)) : (Str × Int × Bool) → Option (Str × Int × Bool) := fun (o, o1, o2) =>
 (bif ((o1.tmod 8) != 0) then ((rBit o o1 o2).bind fun (r, r1, r2, r3) =>
 (bif (r != 0) then (again (r1, r2, true)) else
 (again (r1, r2, r3)))) else
 (some (o, o1, o2)))
def rEven.l0 : Nat → (Str × Int × Bool) → Option (Str × Int × Bool) := loopN (rEven.l0.step)
theorem rEven.l0.succ (n : Nat) (t : (Str × Int × Bool)) : rEven.l0 (n + 1) t = rEven.l0.step (rEven.l0 n) t := rfl
def rEven (s : Str) (at_ : Int) (bad : Bool) : Option (Str × Int × Bool) :=
 ((rEven.l0 (9) (s, at_, bad)).bind fun (o3, o4, o5) =>
 (some (o3, o4, o5)))
def crcUpdate.l0.step (again : (Int × Str × Int × Int) → Option (Int × Str × Int)) : (Int × Str × Int × Int) → Option (Int × Str × Int) := fun (crc_2, text2, k1, t) =>
 (bif (decide (t < 8)) then (again ((ixor .u32 (ishr .u32 crc_2 1) (IntKind.wrap .u32 (3988292384 * (iand .u32 crc_2 1)))), text2, k1, (w64 (t + 1)))) else
 (some (crc_2, text2, k1)))
def crcUpdate.l0 : Nat → (Int × Str × Int × Int) → Option (Int × Str × Int) := loopN (crcUpdate.l0.step)
theorem crcUpdate.l0.succ (n : Nat) (t : (Int × Str × Int × Int)) : crcUpdate.l0 (n + 1) t = crcUpdate.l0.step (crcUpdate.l0 n) t := rfl
def crcUpdate.l1.step (again : (Int × Str × Int) → Option (Int)) : (Int × Str × Int) → Option (Int) := fun (crc_1, text1, k) =>
 (bif (decide (k < (text1.length : Int))) then (need (decide (0 ≤ k) && decide (k < text1.length)) ((crcUpdate.l0 ((8 - (0 : Int)).toNat + 1) ((ixor .u32 crc_1 (IntKind.wrap .u32 ((text1.getD k.toNat 0).toNat : Int))), text1, k, 0)).bind fun (crc_3, text3, k2) =>
 (again (crc_3, text3, (w64 (k2 + 1)))))) else
 (some crc_1))
def crcUpdate.l1 : Nat → (Int × Str × Int) → Option (Int) := loopN (crcUpdate.l1.step)
theorem crcUpdate.l1.succ (n : Nat) (t : (Int × Str × Int)) : crcUpdate.l1 (n + 1) t = crcUpdate.l1.step (crcUpdate.l1 n) t := rfl
def crcUpdate (crc_ : Int) (text : Str) : Option (Int) :=
 ((crcUpdate.l1 (((text.length : Int) - (0 : Int)).toNat + 1) ((ixor .u32 (IntKind.max .u32) crc_), text, 0)).bind fun crc_4 =>
 (some (ixor .u32 (IntKind.max .u32) crc_4)))
def crc (text : Str) : Option (Int) :=
 ((crcUpdate 0 text).bind fun crcUpdat =>
 (some (w64 crcUpdat)))
def lensOk.l0.step (again : (Int × Int × Int × List Int × Int × Int) → Option ((Int × Int × Int) ⊕ (Bool))) : (Int × Int × Int × List Int × Int × Int) → Option ((Int × Int × Int) ⊕ (Bool)) := fun (sum, many, last, t, t1, t2) =>
 (bif (decide (t2 < t1)) then (need (decide (0 ≤ t2) && decide (t2 < t.length)) ((within (t.getD t2.toNat 0) 0 15).bind fun within_ =>
 (bif (!within_) then ((some false).map Sum.inr) else
 (bif (decide ((t.getD t2.toNat 0) > 0)) then (need (decide (0 ≤ (w64 (15 - (t.getD t2.toNat 0))))) (again ((w64 (sum + (ishl .i64 1 (w64 (15 - (t.getD t2.toNat 0)))))), (w64 (many + 1)), (t.getD t2.toNat 0), t, t1, (w64 (t2 + 1))))) else
 (again (sum, many, last, t, t1, (w64 (t2 + 1)))))))) else
 (some (.inl (sum, many, last))))
def lensOk.l0 : Nat → (Int × Int × Int × List Int × Int × Int) → Option ((Int × Int × Int) ⊕ (Bool)) := loopN (lensOk.l0.step)
theorem lensOk.l0.succ (n : Nat) (t : (Int × Int × Int × List Int × Int × Int)) : lensOk.l0 (n + 1) t = lensOk.l0.step (lensOk.l0 n) t := rfl
def lensOk (lens : List Int) : Option (Bool) :=
 (bif (decide ((lens.length : Int) > 300)) then (some false) else
 ((lensOk.l0 (((lens.length : Int) - (0 : Int)).toNat + 1) (0, 0, 0, lens, (lens.length : Int), 0)).bind fun r => match r with
 | .inl (sum1, many1, last1) => ((bif (sum1 == 32768) then (some true) else
 (bif (many1 == 1) then (some (last1 == 1)) else
 (some false))).bind fun c =>
 (some c))
 | .inr r => some r))
def codes.l0.step (again : (List Int × Int × Int × List Int × Int × Int × List Int) → Option (List Int × Int × Int × List Int)) : (List Int × Int × Int × List Int × Int × Int × List Int) → Option (List Int × Int × Int × List Int) := fun (lens2, next_1, l1, t, t1, t2, out1) =>
 (bif (decide (t2 < t1)) then (need (decide (0 ≤ t2) && decide (t2 < t.length)) (bif ((t.getD t2.toNat 0) == l1) then (need (decide (0 ≤ t2) && decide (t2 < out1.length)) (again (lens2, (w64 (next_1 + 1)), l1, t, t1, (w64 (t2 + 1)), (out1.set t2.toNat next_1)))) else
 (again (lens2, next_1, l1, t, t1, (w64 (t2 + 1)), out1)))) else
 (some (lens2, next_1, l1, out1)))
def codes.l0 : Nat → (List Int × Int × Int × List Int × Int × Int × List Int) → Option (List Int × Int × Int × List Int) := loopN (codes.l0.step)
theorem codes.l0.succ (n : Nat) (t : (List Int × Int × Int × List Int × Int × Int × List Int)) : codes.l0 (n + 1) t = codes.l0.step (codes.l0 n) t := rfl
def codes.l1.step (again : (List Int × Int × Int × List Int) → Option (List Int)) : (List Int × Int × Int × List Int) → Option (List Int) := fun (lens1, next_, l, out) =>
 (bif (decide (l ≤ 15)) then ((codes.l0 (((lens1.length : Int) - (0 : Int)).toNat + 1) (lens1, next_, l, lens1, (lens1.length : Int), 0, out)).bind fun (lens3, next_2, l2, out2) =>
 (again (lens3, (w64 (next_2 * 2)), (w64 (l2 + 1)), out2))) else
 (some out))
def codes.l1 : Nat → (List Int × Int × Int × List Int) → Option (List Int) := loopN (codes.l1.step)
theorem codes.l1.succ (n : Nat) (t : (List Int × Int × Int × List Int)) : codes.l1 (n + 1) t = codes.l1.step (codes.l1 n) t := rfl
def codes (lens : List Int) : Option (List Int) :=
 (need (decide (0 ≤ (lens.length : Int)) && fits (lens.length : Int).toNat) ((codes.l1 ((15 - (1 : Int)).toNat + 2) (lens, 0, 1, (List.replicate (lens.length : Int).toNat (0 : Int)))).bind fun out3 =>
 (some out3)))
def bookOf.l0.step (again : (List Int × Int × Int × (List ((Int × Int) × Int)) × List Int) → Option (List ((Int × Int) × Int))) : (List Int × Int × Int × (List ((Int × Int) × Int)) × List Int) → Option (List ((Int × Int) × Int)) := fun (lens1, t, t1, o, o1) =>
 (bif (decide (t1 < t)) then (need (decide (0 ≤ t1) && decide (t1 < o1.length)) (need (decide (0 ≤ t1) && decide (t1 < lens1.length)) (bif (decide ((lens1.getD t1.toNat 0) > 0)) then (need (decide (0 ≤ t1) && decide (t1 < lens1.length)) (again (lens1, t, (w64 (t1 + 1)), (mapSet [.int .i64, .int .i64] [.int .i64] o ((o1.getD t1.toNat 0), (lens1.getD t1.toNat 0)) t1), o1))) else
 (again (lens1, t, (w64 (t1 + 1)), o, o1))))) else
 (some o))
def bookOf.l0 : Nat → (List Int × Int × Int × (List ((Int × Int) × Int)) × List Int) → Option (List ((Int × Int) × Int)) := loopN (bookOf.l0.step)
theorem bookOf.l0.succ (n : Nat) (t : (List Int × Int × Int × (List ((Int × Int) × Int)) × List Int)) : bookOf.l0 (n + 1) t = bookOf.l0.step (bookOf.l0 n) t := rfl
def bookOf (lens : List Int) : Option (List ((Int × Int) × Int)) :=
 ((codes lens).bind fun codes_ =>
 ((bookOf.l0 (((codes_.length : Int) - (0 : Int)).toNat + 1) (lens, (codes_.length : Int), 0, [], codes_)).bind fun o2 =>
 (some o2)))
def rSymbol.l0.step (again : (Int × Int × Str × Int × Bool × List ((Int × Int) × Int)) → Option ((Str × Int × Bool × List ((Int × Int) × Int)) ⊕ (Int × Str × Int × Bool × List ((Int × Int) × Int)))) : (Int × Int × Str × Int × Bool × List ((Int × Int) × Int)) → Option ((Str × Int × Bool × List ((Int × Int) × Int)) ⊕ (Int × Str × Int × Bool × List ((Int × Int) × Int))) := fun (code_, l, o, o1, o2, o3) =>
 (bif (decide (l ≤ 15)) then ((rBit o o1 o2).bind fun (r, r1, r2, r3) =>
 ((bif (mapGet [.int .i64, .int .i64] [.int .i64] o3 ((w64 ((w64 (2 * code_)) + r)), l)).isSome then (some (!r3)) else
 (some false)).bind fun c =>
 (bif c then ((some (((mapGet [.int .i64, .int .i64] [.int .i64] o3 ((w64 ((w64 (2 * code_)) + r)), l)).getD 0), r1, r2, r3, o3)).map Sum.inr) else
 (again ((w64 ((w64 (2 * code_)) + r)), (w64 (l + 1)), r1, r2, r3, o3))))) else
 (some (.inl (o, o1, o2, o3))))
def rSymbol.l0 : Nat → (Int × Int × Str × Int × Bool × List ((Int × Int) × Int)) → Option ((Str × Int × Bool × List ((Int × Int) × Int)) ⊕ (Int × Str × Int × Bool × List ((Int × Int) × Int))) := loopN (rSymbol.l0.step)
theorem rSymbol.l0.succ (n : Nat) (t : (Int × Int × Str × Int × Bool × List ((Int × Int) × Int))) : rSymbol.l0 (n + 1) t = rSymbol.l0.step (rSymbol.l0 n) t := rfl
def rSymbol (s : Str) (at_ : Int) (bad : Bool) (book : List ((Int × Int) × Int)) : Option (Int × Str × Int × Bool × List ((Int × Int) × Int)) :=
 ((rSymbol.l0 ((15 - (1 : Int)).toNat + 2) (0, 1, s, at_, bad, book)).bind fun r => match r with
 | .inl (o4, o5, o6, o7) => (some (0, o4, o5, true, o7))
 | .inr r => some r)
def add.l0.step (again : (Int × Int × List Int × Int × Int × Int) → Option (List Int)) : (Int × Int × List Int × Int × Int × Int) → Option (List Int) := fun (t, t1, out1, o, o1, o2) =>
 (bif (decide (t1 < t)) then (need (decide (0 ≤ (w64 ((out1.length : Int) - o2))) && decide ((w64 ((out1.length : Int) - o2)) < out1.length)) (need (fits (out1.length + ([(out1.getD ((w64 ((out1.length : Int) - o2)).toNat) 0)] : List (Int)).length)) (again (t, (w64 (t1 + 1)), (out1 ++ [(out1.getD ((w64 ((out1.length : Int) - o2)).toNat) 0)]), o, o1, o2)))) else
 (some out1))
def add.l0 : Nat → (Int × Int × List Int × Int × Int × Int) → Option (List Int) := loopN (add.l0.step)
theorem add.l0.succ (n : Nat) (t : (Int × Int × List Int × Int × Int × Int)) : add.l0 (n + 1) t = add.l0.step (add.l0 n) t := rfl
def add (byte : Int) (long : Int) (back : Int) (out : List Int) : Option (Bool × List Int) :=
 (bif (long == 0) then ((bif (back != 0) then (some true) else
 ((within byte 0 255).bind fun within_ =>
 (some (!within_)))).bind fun c =>
 (bif c then (some (false, [])) else
 (need (fits (out.length + ([(IntKind.wrap .u8 byte)] : List (Int)).length)) (some (true, (out ++ [(IntKind.wrap .u8 byte)])))))) else
 ((bif (byte != 0) then (some true) else
 ((within long 3 60).bind fun within_1 =>
 (bif (!within_1) then (some true) else
 ((within back 1 (minA 250 (out.length : Int))).bind fun within_2 =>
 (some (!within_2)))))).bind fun c1 =>
 (bif c1 then (some (false, [])) else
 ((add.l0 ((long - (0 : Int)).toNat + 1) (long, 0, out, byte, long, back)).bind fun out2 =>
 (some (true, out2))))))
def ladderOf.l0.step (again : (Int × Int × Int × Int × Int × List Int × List Int × List Int × List Int) → Option (List Int × List Int × List Int × List Int)) : (Int × Int × Int × Int × Int × List Int × List Int × List Int × List Int) → Option (List Int × List Int × List Int × List Int) := fun (from_1, plain1, each1, t, t1, o, o1, o2, o3) =>
 (bif (decide (t1 < t)) then (((bif (decide (t1 ≥ plain1)) then (need (each1 != 0) (some (from_1, plain1, each1, (w64 ((w64 ((w64 (t1 - plain1)).tdiv each1)) + 1)), t, t1, o, o1, o2, o3))) else
 (some (from_1, plain1, each1, 0, t, t1, o, o1, o2, o3))) : Option (Int × Int × Int × Int × Int × Int × List Int × List Int × List Int × List Int)).bind fun (from_2, plain2, each2, bits, t2, t3, o4, o5, o6, o7) =>
 (need (fits (o6.length + ([from_2] : List (Int)).length)) (need (fits (o7.length + ([bits] : List (Int)).length)) (need (decide (0 ≤ bits)) (again ((w64 (from_2 + (ishl .i64 1 bits))), plain2, each2, t2, (w64 (t3 + 1)), o4, o5, (o6 ++ [from_2]), (o7 ++ [bits]))))))) else
 (some (o, o1, o2, o3)))
def ladderOf.l0 : Nat → (Int × Int × Int × Int × Int × List Int × List Int × List Int × List Int) → Option (List Int × List Int × List Int × List Int) := loopN (ladderOf.l0.step)
def ladderOf (from_ : Int) (many : Int) (plain : Int) (each : Int) : Option (List Int × List Int) :=
 ((ladderOf.l0 ((many - (0 : Int)).toNat + 1) (from_, plain, each, many, 0, [], [], [], [])).bind fun (o8, o9, o10, o11) =>
 (some (o10, o11)))
def longsOf : Option (List Int × List Int) :=
 ((ladderOf 3 28 8 4).bind fun (r, r1) =>
 (some (r, r1)))
def backsOf : Option (List Int × List Int) :=
 ((ladderOf 1 30 4 2).bind fun (r, r1) =>
 (some (r, r1)))
def fixedLens.l1.step (again : (Int × Int × List Int × List Int) → Option (List Int × List Int)) : (Int × Int × List Int × List Int) → Option (List Int × List Int) := fun (t2, t3, lit2, dist) =>
 (bif (decide (t3 < t2)) then (need (decide (0 ≤ t3) && decide (t3 < dist.length)) (again (t2, (w64 (t3 + 1)), lit2, (dist.set t3.toNat 5)))) else
 (some (lit2, dist)))
def fixedLens.l1 : Nat → (Int × Int × List Int × List Int) → Option (List Int × List Int) := loopN (fixedLens.l1.step)
def fixedLens.l0.step (again : (Int × Int × List Int) → Option (List Int)) : (Int × Int × List Int) → Option (List Int) := fun (t, t1, lit) =>
 (bif (decide (t1 < t)) then ((bif (decide (t1 < 144)) then (some true) else
 (some (decide (t1 ≥ 280)))).bind fun c =>
 (bif c then (need (decide (0 ≤ t1) && decide (t1 < lit.length)) (again (t, (w64 (t1 + 1)), (lit.set t1.toNat 8)))) else
 (bif (decide (t1 < 256)) then (need (decide (0 ≤ t1) && decide (t1 < lit.length)) (again (t, (w64 (t1 + 1)), (lit.set t1.toNat 9)))) else
 (need (decide (0 ≤ t1) && decide (t1 < lit.length)) (again (t, (w64 (t1 + 1)), (lit.set t1.toNat 7))))))) else
 (some lit))
def fixedLens.l0 : Nat → (Int × Int × List Int) → Option (List Int) := loopN (fixedLens.l0.step)
def fixedLens : Option (List Int × List Int) :=
 (need (decide (0 ≤ 288) && fits 288) ((fixedLens.l0 ((((List.replicate 288 (0 : Int)).length : Int) - (0 : Int)).toNat + 1) (((List.replicate 288 (0 : Int)).length : Int), 0, (List.replicate 288 (0 : Int)))).bind fun lit1 =>
 (need (decide (0 ≤ 32) && fits 32) ((fixedLens.l1 ((((List.replicate 32 (0 : Int)).length : Int) - (0 : Int)).toNat + 1) (((List.replicate 32 (0 : Int)).length : Int), 0, lit1, (List.replicate 32 (0 : Int)))).bind fun (lit3, dist1) =>
 (some (lit3, dist1))))))
def rStored.l0.step (again : (Int × Int × Str × Int × Bool × List Int) → Option (Str × Int × Bool × List Int)) : (Int × Int × Str × Int × Bool × List Int) → Option (Str × Int × Bool × List Int) := fun (n1, k, o3, o4, o5, out2) =>
 ((bif (decide (k < n1)) then (bif (!o5) then (some (decide ((out2.length : Int) ≤ 300))) else
 (some false)) else
 (some false)).bind fun c =>
 (bif c then ((rGet 8 o3 o4 o5).bind fun (r11, r12, r13, r14) =>
 (need (fits (out2.length + ([(IntKind.wrap .u8 r11)] : List (Int)).length)) (again (n1, (w64 (k + 1)), r12, r13, r14, (out2 ++ [(IntKind.wrap .u8 r11)]))))) else
 (some (o3, o4, o5, out2))))
def rStored.l0 : Nat → (Int × Int × Str × Int × Bool × List Int) → Option (Str × Int × Bool × List Int) := loopN (rStored.l0.step)
theorem rStored.l0.succ (n : Nat) (t : (Int × Int × Str × Int × Bool × List Int)) : rStored.l0 (n + 1) t = rStored.l0.step (rStored.l0 n) t := rfl
def rStored (s : Str) (at_ : Int) (bad : Bool) (out : List Int) : Option (Str × Int × Bool × List Int) :=
 ((rEven s at_ bad).bind fun (r, r1, r2) =>
 ((rGet 16 r r1 r2).bind fun (r3, r4, r5, r6) =>
 ((rGet 16 r4 r5 r6).bind fun (r7, r8, r9, r10) =>
 (((bif (r3 != (w64 (65535 - r7))) then (some (r3, r8, r9, true, out)) else
 (some (r3, r8, r9, r10, out))) : Option (Int × Str × Int × Bool × List Int)).bind fun (n, o, o1, o2, out1) =>
 ((rStored.l0 ((n - (0 : Int)).toNat + 1) (n, 0, o, o1, o2, out1)).bind fun (o6, o7, o8, out3) =>
 (some (o6, o7, o8, out3)))))))
def rLengths.l1.step (again : (Int × Int × Int × Int × Int × Str × Int × Bool × (List ((Int × Int) × Int)) × List Int) → Option (Int × Int × Str × Int × Bool × (List ((Int × Int) × Int)) × List Int)) : (Int × Int × Int × Int × Int × Str × Int × Bool × (List ((Int × Int) × Int)) × List Int) → Option (Int × Int × Str × Int × Bool × (List ((Int × Int) × Int)) × List Int) := fun (lit5, dist5, again_1, t3, t4, o17, o18, o19, o20, all2) =>
 (bif (decide (t4 < t3)) then (need (fits (all2.length + ([again_1] : List (Int)).length)) (again (lit5, dist5, again_1, t3, (w64 (t4 + 1)), o17, o18, o19, o20, (all2 ++ [again_1])))) else
 (some (lit5, dist5, o17, o18, o19, o20, all2)))
def rLengths.l1 : Nat → (Int × Int × Int × Int × Int × Str × Int × Bool × (List ((Int × Int) × Int)) × List Int) → Option (Int × Int × Str × Int × Bool × (List ((Int × Int) × Int)) × List Int) := loopN (rLengths.l1.step)
theorem rLengths.l1.succ (n : Nat) (t : (Int × Int × Int × Int × Int × Str × Int × Bool × (List ((Int × Int) × Int)) × List Int)) : rLengths.l1 (n + 1) t = rLengths.l1.step (rLengths.l1 n) t := rfl
def rLengths.l2.step (again : (Int × Int × Str × Int × Bool × (List ((Int × Int) × Int)) × List Int) → Option (Int × Int × Str × Int × Bool × List Int)) : (Int × Int × Str × Int × Bool × (List ((Int × Int) × Int)) × List Int) → Option (Int × Int × Str × Int × Bool × List Int) := fun (lit3, dist3, o9, o10, o11, o12, all) =>
 ((bif (decide ((all.length : Int) < (w64 (lit3 + dist3)))) then (some (!o11)) else
 (some false)).bind fun c2 =>
 (bif c2 then ((rSymbol o9 o10 o11 o12).bind fun (r16, r17, r18, r19, r20) =>
 (((bif (decide (r16 < 16)) then (some (lit3, dist3, r16, 1, r17, r18, r19, r20, all)) else
 (bif (r16 == 16) then ((rGet 2 r17 r18 r19).bind fun (r21, r22, r23, r24) =>
 (bif ((all.length : Int) == 0) then (some (lit3, dist3, 0, (w64 (3 + r21)), r22, r23, true, r20, all)) else
 (need (decide (0 ≤ (w64 ((all.length : Int) - 1))) && decide ((w64 ((all.length : Int) - 1)) < all.length)) (some (lit3, dist3, (all.getD ((w64 ((all.length : Int) - 1)).toNat) 0), (w64 (3 + r21)), r22, r23, r24, r20, all))))) else
 (bif (r16 == 17) then ((rGet 3 r17 r18 r19).bind fun (r25, r26, r27, r28) =>
 (some (lit3, dist3, 0, (w64 (3 + r25)), r26, r27, r28, r20, all))) else
 ((rGet 7 r17 r18 r19).bind fun (r29, r30, r31, r32) =>
 (some (lit3, dist3, 0, (w64 (11 + r29)), r30, r31, r32, r20, all)))))) : Option (Int × Int × Int × Int × Str × Int × Bool × (List ((Int × Int) × Int)) × List Int)).bind fun (lit4, dist4, again_, times, o13, o14, o15, o16, all1) =>
 ((rLengths.l1 ((times - (0 : Int)).toNat + 1) (lit4, dist4, again_, times, 0, o13, o14, o15, o16, all1)).bind fun (lit6, dist6, o21, o22, o23, o24, all3) =>
 (again (lit6, dist6, o21, o22, o23, o24, all3))))) else
 (some (lit3, dist3, o9, o10, o11, all))))
def rLengths.l2 : Nat → (Int × Int × Str × Int × Bool × (List ((Int × Int) × Int)) × List Int) → Option (Int × Int × Str × Int × Bool × List Int) := loopN (rLengths.l2.step)
theorem rLengths.l2.succ (n : Nat) (t : (Int × Int × Str × Int × Bool × (List ((Int × Int) × Int)) × List Int)) : rLengths.l2 (n + 1) t = rLengths.l2.step (rLengths.l2 n) t := rfl
def rLengths.l0.step (again : (Int × Int × List Int × Int × Int × Str × Int × Bool × List Int) → Option (Int × Int × Str × Int × Bool × List Int)) : (Int × Int × List Int × Int × Int × Str × Int × Bool × List Int) → Option (Int × Int × Str × Int × Bool × List Int) := fun (lit1, dist1, t, t1, t2, o3, o4, o5, meta_) =>
 (bif (decide (t2 < t1)) then (need (decide (0 ≤ t2) && decide (t2 < t.length)) ((rGet 3 o3 o4 o5).bind fun (r12, r13, r14, r15) =>
 (need (decide (0 ≤ (t.getD t2.toNat 0)) && decide ((t.getD t2.toNat 0) < meta_.length)) (again (lit1, dist1, t, t1, (w64 (t2 + 1)), r13, r14, r15, (meta_.set ((t.getD t2.toNat 0).toNat) r12)))))) else
 (some (lit1, dist1, o3, o4, o5, meta_)))
def rLengths.l0 : Nat → (Int × Int × List Int × Int × Int × Str × Int × Bool × List Int) → Option (Int × Int × Str × Int × Bool × List Int) := loopN (rLengths.l0.step)
theorem rLengths.l0.succ (n : Nat) (t : (Int × Int × List Int × Int × Int × Str × Int × Bool × List Int)) : rLengths.l0 (n + 1) t = rLengths.l0.step (rLengths.l0 n) t := rfl
def rLengths (s : Str) (at_ : Int) (bad : Bool) : Option (List Int × List Int × Str × Int × Bool) :=
 ((rGet 5 s at_ bad).bind fun (r, r1, r2, r3) =>
 ((rGet 5 r1 r2 r3).bind fun (r4, r5, r6, r7) =>
 ((rGet 4 r5 r6 r7).bind fun (r8, r9, r10, r11) =>
 ((((bif (decide ((w64 (r + 257)) > 286)) then (some true) else
 (some (decide ((w64 (r4 + 1)) > 30)))).bind fun c =>
 (bif c then (some ((w64 (r + 257)), (w64 (r4 + 1)), (w64 (r8 + 4)), r9, r10, true)) else
 (some ((w64 (r + 257)), (w64 (r4 + 1)), (w64 (r8 + 4)), r9, r10, r11)))) : Option (Int × Int × Int × Str × Int × Bool)).bind fun (lit, dist, many, o, o1, o2) =>
 (need (decide (0 ≤ (([16, 17, 18, 0, 8, 7, 9, 6, 10, 5, 11, 4, 12, 3, 13, 2, 14, 1, 15] : List (Int)).length : Int)) && fits (([16, 17, 18, 0, 8, 7, 9, 6, 10, 5, 11, 4, 12, 3, 13, 2, 14, 1, 15] : List (Int)).length : Int).toNat) (need (decide (0 ≤ many) && decide (many ≤ ([16, 17, 18, 0, 8, 7, 9, 6, 10, 5, 11, 4, 12, 3, 13, 2, 14, 1, 15] : List (Int)).length)) ((rLengths.l0 ((((([16, 17, 18, 0, 8, 7, 9, 6, 10, 5, 11, 4, 12, 3, 13, 2, 14, 1, 15] : List (Int)).take many.toNat).length : Int) - (0 : Int)).toNat + 1) (lit, dist, (([16, 17, 18, 0, 8, 7, 9, 6, 10, 5, 11, 4, 12, 3, 13, 2, 14, 1, 15] : List (Int)).take many.toNat), ((([16, 17, 18, 0, 8, 7, 9, 6, 10, 5, 11, 4, 12, 3, 13, 2, 14, 1, 15] : List (Int)).take many.toNat).length : Int), 0, o, o1, o2, (List.replicate (([16, 17, 18, 0, 8, 7, 9, 6, 10, 5, 11, 4, 12, 3, 13, 2, 14, 1, 15] : List (Int)).length : Int).toNat (0 : Int)))).bind fun (lit2, dist2, o6, o7, o8, meta_1) =>
 ((bif o8 then (some true) else
 ((lensOk meta_1).bind fun LensOk =>
 (some (!LensOk)))).bind fun c1 =>
 (bif c1 then (some ([], [], o6, o7, true)) else
 ((bookOf meta_1).bind fun bookOf_ =>
 ((rLengths.l2 (((w64 (lit2 + dist2)) - (([] : List Int).length : Int)).toNat + 1) (lit2, dist2, o6, o7, o8, bookOf_, [])).bind fun (lit7, dist7, o25, o26, o27, all4) =>
 ((bif ((all4.length : Int) != (w64 (lit7 + dist7))) then (some true) else
 (some o27)).bind fun c3 =>
 (bif c3 then (some ([], [], o25, o26, true)) else
 (need (decide (0 ≤ lit7) && decide (lit7 ≤ all4.length)) (need (decide (0 ≤ lit7) && decide (lit7 ≤ all4.length)) (some (((all4.drop 0).take lit7.toNat), ((all4.drop lit7.toNat).take (all4.length - lit7.toNat)), o25, o26, o27)))))))))))))))))
def rPacked.l0.step (again : (Str × Int × Bool × List Int × (List ((Int × Int) × Int)) × List ((Int × Int) × Int)) → Option ((Str × Int × Bool × List Int) ⊕ (Str × Int × Bool × List Int))) : (Str × Int × Bool × List Int × (List ((Int × Int) × Int)) × List ((Int × Int) × Int)) → Option ((Str × Int × Bool × List Int) ⊕ (Str × Int × Bool × List Int)) := fun (o, o1, o2, out1, o3, o4) =>
 ((bif (!o2) then (some (decide ((out1.length : Int) ≤ 300))) else
 (some false)).bind fun c1 =>
 (bif c1 then ((rSymbol o o1 o2 o3).bind fun (r, r1, r2, r3, r4) =>
 ((bif r3 then (some true) else
 (some (r == 256))).bind fun c2 =>
 (bif c2 then ((some (r1, r2, r3, out1)).map Sum.inr) else
 (bif (decide (r < 256)) then (need (fits (out1.length + ([(IntKind.wrap .u8 r)] : List (Int)).length)) (again (r1, r2, r3, (out1 ++ [(IntKind.wrap .u8 r)]), r4, o4))) else
 (bif (decide ((w64 (r - 257)) ≥ 28)) then ((some (r1, r2, true, out1)).map Sum.inr) else
 ((longsOf).bind fun (r5, r6) =>
 (need (decide (0 ≤ (w64 (r - 257))) && decide ((w64 (r - 257)) < r5.length)) ((longsOf).bind fun (r7, r8) =>
 (need (decide (0 ≤ (w64 (r - 257))) && decide ((w64 (r - 257)) < r8.length)) ((rGet (r8.getD (w64 (r - 257)).toNat 0) r1 r2 r3).bind fun (r9, r10, r11, r12) =>
 ((rSymbol r10 r11 r12 o4).bind fun (r13, r14, r15, r16, r17) =>
 (bif (decide (r13 ≥ 30)) then ((some (r14, r15, true, out1)).map Sum.inr) else
 ((backsOf).bind fun (r18, r19) =>
 (need (decide (0 ≤ r13) && decide (r13 < r18.length)) ((backsOf).bind fun (r20, r21) =>
 (need (decide (0 ≤ r13) && decide (r13 < r21.length)) ((rGet (r21.getD r13.toNat 0) r14 r15 r16).bind fun (r22, r23, r24, r25) =>
 ((add 0 (w64 ((r5.getD (w64 (r - 257)).toNat 0) + r9)) (w64 ((r18.getD r13.toNat 0) + r22)) out1).bind fun (r26, r27) =>
 ((bif (!r26) then (some true) else
 (some r25)).bind fun c3 =>
 (bif c3 then (none.map Sum.inr) else
 (again (r23, r24, r25, r27, r4, r17)))))))))))))))))))))) else
 (some (.inl (o, o1, o2, out1)))))
def rPacked.l0 : Nat → (Str × Int × Bool × List Int × (List ((Int × Int) × Int)) × List ((Int × Int) × Int)) → Option ((Str × Int × Bool × List Int) ⊕ (Str × Int × Bool × List Int)) := loopN (rPacked.l0.step)
theorem rPacked.l0.succ (n : Nat) (t : (Str × Int × Bool × List Int × (List ((Int × Int) × Int)) × List ((Int × Int) × Int))) : rPacked.l0 (n + 1) t = rPacked.l0.step (rPacked.l0 n) t := rfl
def rPacked (lit : List Int) (dist : List Int) (s : Str) (at_ : Int) (bad : Bool) (out : List Int) : Option (Str × Int × Bool × List Int) :=
 ((bif bad then (some true) else
 ((lensOk lit).bind fun LensOk =>
 (bif (!LensOk) then (some true) else
 ((lensOk dist).bind fun LensOk1 =>
 (some (!LensOk1)))))).bind fun c =>
 (bif c then (some (s, at_, true, out)) else
 ((bookOf lit).bind fun bookOf_ =>
 ((bookOf dist).bind fun bookOf_1 =>
 ((rPacked.l0 (100000) (s, at_, bad, out, bookOf_, bookOf_1)).bind fun r => match r with
 | .inl (o5, o6, o7, out2) => (some (o5, o6, o7, out2))
 | .inr r => some r)))))
def rPackedBad.l0.step (again : (Str × Int × Bool × List Int × (List ((Int × Int) × Int)) × List ((Int × Int) × Int)) → Option ((Str × Int × Bool × List Int) ⊕ (Str × Int × Bool))) : (Str × Int × Bool × List Int × (List ((Int × Int) × Int)) × List ((Int × Int) × Int)) → Option ((Str × Int × Bool × List Int) ⊕ (Str × Int × Bool)) := fun (o, o1, o2, out1, o3, o4) =>
 ((bif (!o2) then (some (decide ((out1.length : Int) ≤ 300))) else
 (some false)).bind fun c1 =>
 (bif c1 then ((rSymbol o o1 o2 o3).bind fun (r, r1, r2, r3, r4) =>
 ((bif r3 then (some true) else
 (some (r == 256))).bind fun c2 =>
 (bif c2 then ((some (r1, r2, r3)).map Sum.inr) else
 (bif (decide (r < 256)) then (need (fits (out1.length + ([(IntKind.wrap .u8 r)] : List (Int)).length)) (again (r1, r2, r3, (out1 ++ [(IntKind.wrap .u8 r)]), r4, o4))) else
 (bif (decide ((w64 (r - 257)) ≥ 28)) then ((some (r1, r2, true)).map Sum.inr) else
 ((longsOf).bind fun (r5, r6) =>
 (need (decide (0 ≤ (w64 (r - 257))) && decide ((w64 (r - 257)) < r5.length)) ((longsOf).bind fun (r7, r8) =>
 (need (decide (0 ≤ (w64 (r - 257))) && decide ((w64 (r - 257)) < r8.length)) ((rGet (r8.getD (w64 (r - 257)).toNat 0) r1 r2 r3).bind fun (r9, r10, r11, r12) =>
 ((rSymbol r10 r11 r12 o4).bind fun (r13, r14, r15, r16, r17) =>
 (bif (decide (r13 ≥ 30)) then ((some (r14, r15, true)).map Sum.inr) else
 ((backsOf).bind fun (r18, r19) =>
 (need (decide (0 ≤ r13) && decide (r13 < r18.length)) ((backsOf).bind fun (r20, r21) =>
 (need (decide (0 ≤ r13) && decide (r13 < r21.length)) ((rGet (r21.getD r13.toNat 0) r14 r15 r16).bind fun (r22, r23, r24, r25) =>
 ((add 0 (w64 ((r5.getD (w64 (r - 257)).toNat 0) + r9)) (w64 ((r18.getD r13.toNat 0) + r22)) out1).bind fun (r26, r27) =>
 ((bif (!r26) then (some true) else
 (some r25)).bind fun c3 =>
 (bif c3 then ((some (r23, r24, true)).map Sum.inr) else
 (again (r23, r24, r25, r27, r4, r17)))))))))))))))))))))) else
 (some (.inl (o, o1, o2, out1)))))
def rPackedBad.l0 : Nat → (Str × Int × Bool × List Int × (List ((Int × Int) × Int)) × List ((Int × Int) × Int)) → Option ((Str × Int × Bool × List Int) ⊕ (Str × Int × Bool)) := loopN (rPackedBad.l0.step)
theorem rPackedBad.l0.succ (n : Nat) (t : (Str × Int × Bool × List Int × (List ((Int × Int) × Int)) × List ((Int × Int) × Int))) : rPackedBad.l0 (n + 1) t = rPackedBad.l0.step (rPackedBad.l0 n) t := rfl
def rPackedBad (lit : List Int) (dist : List Int) (s : Str) (at_ : Int) (bad : Bool) (out : List Int) : Option (Str × Int × Bool) :=
 ((bif bad then (some true) else
 ((lensOk lit).bind fun LensOk =>
 (bif (!LensOk) then (some true) else
 ((lensOk dist).bind fun LensOk1 =>
 (some (!LensOk1)))))).bind fun c =>
 (bif c then (some (s, at_, true)) else
 ((bookOf lit).bind fun bookOf_ =>
 ((bookOf dist).bind fun bookOf_1 =>
 ((rPackedBad.l0 (100000) (s, at_, bad, out, bookOf_, bookOf_1)).bind fun r => match r with
 | .inl (o5, o6, o7, out2) => (some (o5, o6, o7))
 | .inr r => some r)))))
def flateGet.l0.step (again : (Bool × Str × Int × Bool × List Int) → Option ((Str × Int × Bool × List Int) ⊕ (Str × Int × Bool))) : (Bool × Str × Int × Bool × List Int) → Option ((Str × Int × Bool × List Int) ⊕ (Str × Int × Bool)) := fun (last, o, o1, o2, out) =>
 (bif (!last) then ((rBit o o1 o2).bind fun (r, r1, r2, r3) =>
 ((rGet 2 r1 r2 r3).bind fun (r4, r5, r6, r7) =>
 (bif (r4 == 0) then ((rStored r5 r6 r7 out).bind fun (r8, r9, r10, r11) =>
 (bif r10 then ((some ([], 0, false)).map Sum.inr) else
 (bif (decide ((r11.length : Int) > 300)) then ((some ([], 0, false)).map Sum.inr) else
 (again ((r == 1), r8, r9, r10, r11))))) else
 (bif (r4 == 1) then ((fixedLens).bind fun (r12, r13) =>
 (orElse (rPacked r12 r13 r5 r6 r7 out) (fun (r14, r15, r16, r17) =>
 (bif r16 then ((some ([], 0, false)).map Sum.inr) else
 (bif (decide ((r17.length : Int) > 300)) then ((some ([], 0, false)).map Sum.inr) else
 (again ((r == 1), r14, r15, r16, r17))))) ((rPackedBad r12 r13 r5 r6 r7 out).bind fun (r18, r19, r20) =>
 (bif r20 then ((some ([], 0, false)).map Sum.inr) else
 none)))) else
 (bif (r4 == 2) then ((rLengths r5 r6 r7).bind fun (r21, r22, r23, r24, r25) =>
 (orElse (rPacked r21 r22 r23 r24 r25 out) (fun (r26, r27, r28, r29) =>
 (bif r28 then ((some ([], 0, false)).map Sum.inr) else
 (bif (decide ((r29.length : Int) > 300)) then ((some ([], 0, false)).map Sum.inr) else
 (again ((r == 1), r26, r27, r28, r29))))) ((rPackedBad r21 r22 r23 r24 r25 out).bind fun (r30, r31, r32) =>
 (bif r32 then ((some ([], 0, false)).map Sum.inr) else
 none)))) else
 ((some ([], 0, false)).map Sum.inr)))))) else
 (some (.inl (o, o1, o2, out))))
def flateGet.l0 : Nat → (Bool × Str × Int × Bool × List Int) → Option ((Str × Int × Bool × List Int) ⊕ (Str × Int × Bool)) := loopN (flateGet.l0.step)
theorem flateGet.l0.succ (n : Nat) (t : (Bool × Str × Int × Bool × List Int)) : flateGet.l0 (n + 1) t = flateGet.l0.step (flateGet.l0 n) t := rfl
def flateGet (text : Str) : Option (Str × Int × Bool) :=
 (bif (decide ((text.length : Int) > 700)) then (some ([], 0, false)) else
 ((flateGet.l0 (100000) (false, text, 0, false, [])).bind fun r => match r with
 | .inl (o3, o4, o5, out1) => ((rEven o3 o4 o5).bind fun (r33, r34, r35) =>
 (bif r35 then (some ([], 0, false)) else
 (some ((toBytes out1), (w64 (r34.tdiv 8)), true))))
 | .inr r => some r))
def days (year : Int) (month : Int) : Option (Int) :=
 (((bif (month == 4) then (some (year, month, (month == 4))) else
 (bif (month == 6) then (some (year, month, (month == 6))) else
 (bif (month == 9) then (some (year, month, (month == 9))) else
 (some (year, month, (month == 11)))))) : Option (Int × Int × Bool)).bind fun (year1, t, t1) =>
 (bif t1 then (some 30) else
 (bif (t == 2) then ((bif ((year1.tmod 4) == 0) then (bif ((year1.tmod 100) != 0) then (some true) else
 (some ((year1.tmod 400) == 0))) else
 (some false)).bind fun c =>
 (bif c then (some 29) else
 (some 28))) else
 (some 31))))
def stampOk (y : Int) (mo : Int) (d : Int) (h : Int) (mi : Int) (sec : Int) : Option (Bool) :=
 (((within y 1980 2107).bind fun within_ =>
 (bif within_ then ((within mo 1 12).bind fun within_1 =>
 (bif within_1 then ((days y mo).bind fun days_ =>
 ((within d 1 days_).bind fun within_2 =>
 (bif within_2 then ((within h 0 23).bind fun within_3 =>
 (bif within_3 then ((within mi 0 59).bind fun within_4 =>
 (bif within_4 then ((within sec 0 58).bind fun within_5 =>
 (bif within_5 then (some ((sec.tmod 2) == 0)) else
 (some false))) else
 (some false))) else
 (some false))) else
 (some false)))) else
 (some false))) else
 (some false))).bind fun c =>
 (some c))
def stampPut (y : Int) (mo : Int) (d : Int) (h : Int) (mi : Int) (sec : Int) : Option (Int) :=
 ((stampOk y mo d h mi sec).bind fun StampOk =>
 (bif (!StampOk) then (some (-1)) else
 (some (ior .i64 (ior .i64 (ior .i64 (ior .i64 (ior .i64 (w64 (sec.tdiv 2)) (ishl .i64 mi 5)) (ishl .i64 h 11)) (ishl .i64 d 16)) (ishl .i64 mo 21)) (ishl .i64 (w64 (y - 1980)) 25)))))
def stampGet (n : Int) : Option (Int × Int × Int × Int × Int × Int × Bool) :=
 (bif (decide (n < 0)) then (some (0, 0, 0, 0, 0, 0, false)) else
 ((stampPut (w64 (1980 + (iand .i64 (ishr .i64 n 25) 127))) (iand .i64 (ishr .i64 n 21) 15) (iand .i64 (ishr .i64 n 16) 31) (iand .i64 (ishr .i64 n 11) 31) (iand .i64 (ishr .i64 n 5) 63) (w64 ((iand .i64 n 31) * 2))).bind fun StampPut =>
 (bif (StampPut != n) then (some (0, 0, 0, 0, 0, 0, false)) else
 (some ((w64 (1980 + (iand .i64 (ishr .i64 n 25) 127))), (iand .i64 (ishr .i64 n 21) 15), (iand .i64 (ishr .i64 n 16) 31), (iand .i64 (ishr .i64 n 11) 31), (iand .i64 (ishr .i64 n 5) 63), (w64 ((iand .i64 n 31) * 2)), true)))))
def entryOk (name : Str) (y : Int) (mo : Int) (d : Int) (h : Int) (mi : Int) (sec : Int) (text : Str) : Option (Bool) :=
 (((implNameOk name).bind fun NameOk =>
 (bif NameOk then ((stampOk y mo d h mi sec).bind fun StampOk =>
 (bif StampOk then (some (decide ((text.length : Int) ≤ 300))) else
 (some false))) else
 (some false))).bind fun c =>
 (some c))
def number.l0.step (again : (Int × Int × Int × List Int) → Option (List Int)) : (Int × Int × Int × List Int) → Option (List Int) := fun (n1, t, t1, out) =>
 (bif (decide (t1 < t)) then (need (fits (out.length + ([(IntKind.wrap .u8 (n1.tmod 256))] : List (Int)).length)) (again ((w64 (n1.tdiv 256)), t, (w64 (t1 + 1)), (out ++ [(IntKind.wrap .u8 (n1.tmod 256))])))) else
 (some out))
def number.l0 : Nat → (Int × Int × Int × List Int) → Option (List Int) := loopN (number.l0.step)
theorem number.l0.succ (n : Nat) (t : (Int × Int × Int × List Int)) : number.l0 (n + 1) t = number.l0.step (number.l0 n) t := rfl
def number (n : Int) (bytes : Int) : Option (Str) :=
 ((number.l0 ((bytes - (0 : Int)).toNat + 1) (n, bytes, 0, [])).bind fun out1 =>
 (some (toBytes out1)))
def numberAt.l0.step (again : (Str × Int × Int × Int) → Option (Int)) : (Str × Int × Int × Int) → Option (Int) := fun (s1, at_1, n, k) =>
 (bif (decide (k ≥ 0)) then (need (decide (0 ≤ (w64 (at_1 + k))) && decide ((w64 (at_1 + k)) < s1.length)) (again (s1, at_1, (w64 ((w64 (256 * n)) + (w64 ((s1.getD (w64 (at_1 + k)).toNat 0).toNat : Int)))), (w64 (k - 1))))) else
 (some n))
def numberAt.l0 : Nat → (Str × Int × Int × Int) → Option (Int) := loopN (numberAt.l0.step)
theorem numberAt.l0.succ (n : Nat) (t : (Str × Int × Int × Int)) : numberAt.l0 (n + 1) t = numberAt.l0.step (numberAt.l0 n) t := rfl
def numberAt (s : Str) (at_ : Int) (bytes : Int) : Option (Int) :=
 ((numberAt.l0 (((w64 (bytes - 1)) - 0).toNat + 2) (s, at_, 0, (w64 (bytes - 1)))).bind fun n1 =>
 (some n1))
def headOf (name : Str) (y : Int) (mo : Int) (d : Int) (h : Int) (mi : Int) (sec : Int) (text : Str) (method : Int) (packed : Int) : Option (Str) :=
 ((number 20 2).bind fun number_ =>
 (need (fits (([80, 75, 3, 4] : Str).length + number_.length)) ((number 0 2).bind fun number_1 =>
 (need (fits (([80, 75, 3, 4] ++ number_).length + number_1.length)) ((number method 2).bind fun number_2 =>
 (need (fits ((([80, 75, 3, 4] ++ number_) ++ number_1).length + number_2.length)) ((stampPut y mo d h mi sec).bind fun StampPut =>
 ((number StampPut 4).bind fun number_3 =>
 (need (fits (((([80, 75, 3, 4] ++ number_) ++ number_1) ++ number_2).length + number_3.length)) ((crc text).bind fun Crc =>
 ((number Crc 4).bind fun number_4 =>
 (need (fits ((((([80, 75, 3, 4] ++ number_) ++ number_1) ++ number_2) ++ number_3).length + number_4.length)) ((number packed 4).bind fun number_5 =>
 (need (fits (((((([80, 75, 3, 4] ++ number_) ++ number_1) ++ number_2) ++ number_3) ++ number_4).length + number_5.length)) ((number (text.length : Int) 4).bind fun number_6 =>
 (need (fits ((((((([80, 75, 3, 4] ++ number_) ++ number_1) ++ number_2) ++ number_3) ++ number_4) ++ number_5).length + number_6.length)) ((number (name.length : Int) 2).bind fun number_7 =>
 (need (fits (((((((([80, 75, 3, 4] ++ number_) ++ number_1) ++ number_2) ++ number_3) ++ number_4) ++ number_5) ++ number_6).length + number_7.length)) ((number 0 2).bind fun number_8 =>
 (need (fits ((((((((([80, 75, 3, 4] ++ number_) ++ number_1) ++ number_2) ++ number_3) ++ number_4) ++ number_5) ++ number_6) ++ number_7).length + number_8.length)) (some ((((((((([80, 75, 3, 4] ++ number_) ++ number_1) ++ number_2) ++ number_3) ++ number_4) ++ number_5) ++ number_6) ++ number_7) ++ number_8))))))))))))))))))))))
def localGet (text : Str) : Option (Str × Int × Int × Int × Int × Int × Int × Str × Int × Bool) :=
 (bif (decide ((text.length : Int) < 30)) then (some ([], 0, 0, 0, 0, 0, 0, [], 0, false)) else
 ((numberAt text 8 2).bind fun numberAt_ =>
 ((numberAt text 18 4).bind fun numberAt_1 =>
 ((numberAt text 26 2).bind fun numberAt_2 =>
 (need (decide (0 ≤ (30 : Int)) && decide ((30 : Int) ≤ text.length)) ((bif (decide (((text.drop 30).length : Int) < numberAt_2)) then (some true) else
 (some (decide ((w64 (((text.drop 30).length : Int) - numberAt_2)) < numberAt_1)))).bind fun c =>
 (bif c then (some ([], 0, 0, 0, 0, 0, 0, [], 0, false)) else
 (need (decide (0 ≤ numberAt_2) && decide (numberAt_2 ≤ (text.drop 30).length)) (need (decide (0 ≤ (w64 (numberAt_2 + numberAt_1))) && decide ((w64 (numberAt_2 + numberAt_1)) ≤ (text.drop 30).length)) (need (decide (0 ≤ numberAt_2) && decide (numberAt_2 ≤ (w64 (numberAt_2 + numberAt_1)))) ((numberAt text 10 4).bind fun numberAt_3 =>
 ((stampGet numberAt_3).bind fun (r, r1, r2, r3, r4, r5, r6) =>
 (((bif (numberAt_ == 0) then (some (.inl (text, numberAt_, numberAt_1, numberAt_2, [], 0, 0, 0, 0, 0, 0, [], ((text.drop 30).take numberAt_2.toNat), r, r1, r2, r3, r4, r5, (((text.drop 30).take (w64 (numberAt_2 + numberAt_1)).toNat).drop numberAt_2.toNat)))) else
 (bif (numberAt_ == 8) then ((flateGet (((text.drop 30).take (w64 (numberAt_2 + numberAt_1)).toNat).drop numberAt_2.toNat)).bind fun (r7, r8, r9) =>
 ((bif (!r9) then (some true) else
 (some (r8 != numberAt_1))).bind fun c1 =>
 (bif c1 then ((some ([], 0, 0, 0, 0, 0, 0, [], 0, false)).map Sum.inr) else
 (some (.inl (text, numberAt_, numberAt_1, numberAt_2, [], 0, 0, 0, 0, 0, 0, [], ((text.drop 30).take numberAt_2.toNat), r, r1, r2, r3, r4, r5, r7)))))) else
 ((some ([], 0, 0, 0, 0, 0, 0, [], 0, false)).map Sum.inr))) : Option ((Str × Int × Int × Int × Str × Int × Int × Int × Int × Int × Int × Str × Str × Int × Int × Int × Int × Int × Int × Str) ⊕ (Str × Int × Int × Int × Int × Int × Int × Str × Int × Bool))).bind fun r => match r with
 | .inl (text1, method, packed, name, o, o1, o2, o3, o4, o5, o6, o7, o8, o9, o10, o11, o12, o13, o14, o15) => (((entryOk o8 o9 o10 o11 o12 o13 o14 o15).bind fun EntryOk =>
 (bif (!EntryOk) then (some true) else
 ((headOf o8 o9 o10 o11 o12 o13 o14 o15 method packed).bind fun headOf_ =>
 (need (decide (0 ≤ (30 : Int)) && decide ((30 : Int) ≤ text1.length)) (some (!(headOf_ == (text1.take 30)))))))).bind fun c2 =>
 (bif c2 then (some ([], 0, 0, 0, 0, 0, 0, [], 0, false)) else
 (some (o8, o9, o10, o11, o12, o13, o14, o15, (w64 ((w64 (30 + name)) + packed)), true))))
 | .inr r => some r)))))))))))))
def joinS (xs : List Str) (sep : Str) : Option (Str) := need (fits xs.length && fits (joinL xs sep).length) (some (joinL xs sep))
def namesOf.l0.step (again : ((List (Str × Int × Int × Int × Int × Int × Int × Str)) × Int × Int × List Str) → Option (List Str)) : ((List (Str × Int × Int × Int × Int × Int × Int × Str)) × Int × Int × List Str) → Option (List Str) := fun (t, t1, t2, out) =>
 (bif (decide (t2 < t1)) then (need (decide (0 ≤ t2) && decide (t2 < t.length)) (need (fits (out.length + ([(t.getD t2.toNat ([], 0, 0, 0, 0, 0, 0, [])).1] : List (Str)).length)) (again (t, t1, (w64 (t2 + 1)), (out ++ [(t.getD t2.toNat ([], 0, 0, 0, 0, 0, 0, [])).1]))))) else
 (some out))
def namesOf.l0 : Nat → ((List (Str × Int × Int × Int × Int × Int × Int × Str)) × Int × Int × List Str) → Option (List Str) := loopN (namesOf.l0.step)
theorem namesOf.l0.succ (n : Nat) (t : ((List (Str × Int × Int × Int × Int × Int × Int × Str)) × Int × Int × List Str)) : namesOf.l0 (n + 1) t = namesOf.l0.step (namesOf.l0 n) t := rfl
def namesOf (list : List (Str × Int × Int × Int × Int × Int × Int × Str)) : Option (List Str) :=
 ((namesOf.l0 (((list.length : Int) - (0 : Int)).toNat + 1) (list, (list.length : Int), 0, [])).bind fun out1 =>
 (some out1))
def zipOk.l0.step (again : ((List (Str × Int × Int × Int × Int × Int × Int × Str)) × (List (Str × Int × Int × Int × Int × Int × Int × Str)) × Int × Int) → Option ((List (Str × Int × Int × Int × Int × Int × Int × Str)) ⊕ (Bool))) : ((List (Str × Int × Int × Int × Int × Int × Int × Str)) × (List (Str × Int × Int × Int × Int × Int × Int × Str)) × Int × Int) → Option ((List (Str × Int × Int × Int × Int × Int × Int × Str)) ⊕ (Bool)) := fun (list1, t, t1, t2) =>
 (bif (decide (t2 < t1)) then (need (decide (0 ≤ t2) && decide (t2 < t.length)) ((entryOk ((t.getD t2.toNat ([], 0, 0, 0, 0, 0, 0, [])).1) ((t.getD t2.toNat ([], 0, 0, 0, 0, 0, 0, [])).2.1) ((t.getD t2.toNat ([], 0, 0, 0, 0, 0, 0, [])).2.2.1) ((t.getD t2.toNat ([], 0, 0, 0, 0, 0, 0, [])).2.2.2.1) ((t.getD t2.toNat ([], 0, 0, 0, 0, 0, 0, [])).2.2.2.2.1) ((t.getD t2.toNat ([], 0, 0, 0, 0, 0, 0, [])).2.2.2.2.2.1) ((t.getD t2.toNat ([], 0, 0, 0, 0, 0, 0, [])).2.2.2.2.2.2.1) ((t.getD t2.toNat ([], 0, 0, 0, 0, 0, 0, [])).2.2.2.2.2.2.2)).bind fun EntryOk =>
 (bif (!EntryOk) then ((some false).map Sum.inr) else
 (again (list1, t, t1, (w64 (t2 + 1))))))) else
 (some (.inl list1)))
def zipOk.l0 : Nat → ((List (Str × Int × Int × Int × Int × Int × Int × Str)) × (List (Str × Int × Int × Int × Int × Int × Int × Str)) × Int × Int) → Option ((List (Str × Int × Int × Int × Int × Int × Int × Str)) ⊕ (Bool)) := loopN (zipOk.l0.step)
theorem zipOk.l0.succ (n : Nat) (t : ((List (Str × Int × Int × Int × Int × Int × Int × Str)) × (List (Str × Int × Int × Int × Int × Int × Int × Str)) × Int × Int)) : zipOk.l0 (n + 1) t = zipOk.l0.step (zipOk.l0 n) t := rfl
def zipOk (list : List (Str × Int × Int × Int × Int × Int × Int × Str)) : Option (Bool) :=
 ((zipOk.l0 (((list.length : Int) - (0 : Int)).toNat + 1) (list, list, (list.length : Int), 0)).bind fun r => match r with
 | .inl list2 => (bif (decide ((list2.length : Int) ≤ 6)) then ((namesOf list2).bind fun namesOf_ =>
 ((apart namesOf_).bind fun apart_ =>
 (some apart_))) else
 (some false))
 | .inr r => some r)
def closing.l0.step (again : (List Str × Str × Int × List Str × Int × Int) → Option (List Str × Str × Int)) : (List Str × Str × Int × List Str × Int × Int) → Option (List Str × Str × Int) := fun (locals1, heads, at_, t, t1, t2) =>
 (bif (decide (t2 < t1)) then (need (decide (0 ≤ t2) && decide (t2 < t.length)) ((numberAt (t.getD t2.toNat []) 26 2).bind fun numberAt_ =>
 ((number 20 2).bind fun number_ =>
 (need (fits (([80, 75, 1, 2] : Str).length + number_.length)) (need (decide (0 ≤ (30 : Int)) && decide ((30 : Int) ≤ (t.getD t2.toNat []).length)) (need (decide (0 ≤ (4 : Int)) && decide ((4 : Int) ≤ (30 : Int))) (need (fits (([80, 75, 1, 2] ++ number_).length + (((t.getD t2.toNat []).take 30).drop 4).length)) ((number 0 10).bind fun number_1 =>
 (need (fits ((([80, 75, 1, 2] ++ number_) ++ (((t.getD t2.toNat []).take 30).drop 4)).length + number_1.length)) ((number at_ 4).bind fun number_2 =>
 (need (fits (((([80, 75, 1, 2] ++ number_) ++ (((t.getD t2.toNat []).take 30).drop 4)) ++ number_1).length + number_2.length)) (need (decide (0 ≤ (w64 (30 + numberAt_))) && decide ((w64 (30 + numberAt_)) ≤ (t.getD t2.toNat []).length)) (need (decide (0 ≤ (30 : Int)) && decide ((30 : Int) ≤ (w64 (30 + numberAt_)))) (need (fits ((((([80, 75, 1, 2] ++ number_) ++ (((t.getD t2.toNat []).take 30).drop 4)) ++ number_1) ++ number_2).length + (((t.getD t2.toNat []).take (w64 (30 + numberAt_)).toNat).drop 30).length)) (need (fits (heads.length + ((((([80, 75, 1, 2] ++ number_) ++ (((t.getD t2.toNat []).take 30).drop 4)) ++ number_1) ++ number_2) ++ (((t.getD t2.toNat []).take (w64 (30 + numberAt_)).toNat).drop 30)).length)) (again (locals1, (heads ++ ((((([80, 75, 1, 2] ++ number_) ++ (((t.getD t2.toNat []).take 30).drop 4)) ++ number_1) ++ number_2) ++ (((t.getD t2.toNat []).take (w64 (30 + numberAt_)).toNat).drop 30))), (w64 (at_ + ((t.getD t2.toNat []).length : Int))), t, t1, (w64 (t2 + 1))))))))))))))))))) else
 (some (locals1, heads, at_)))
def closing.l0 : Nat → (List Str × Str × Int × List Str × Int × Int) → Option (List Str × Str × Int) := loopN (closing.l0.step)
theorem closing.l0.succ (n : Nat) (t : (List Str × Str × Int × List Str × Int × Int)) : closing.l0 (n + 1) t = closing.l0.step (closing.l0 n) t := rfl
def closing (locals : List Str) : Option (Str) :=
 ((closing.l0 (((locals.length : Int) - (0 : Int)).toNat + 1) (locals, [], 0, locals, (locals.length : Int), 0)).bind fun (locals2, heads1, at_1) =>
 ((number (locals2.length : Int) 2).bind fun number_3 =>
 (need (fits (heads1.length + ([80, 75, 5, 6] : Str).length)) ((number 0 4).bind fun number_4 =>
 (need (fits ((heads1 ++ [80, 75, 5, 6]).length + number_4.length)) (need (fits (((heads1 ++ [80, 75, 5, 6]) ++ number_4).length + number_3.length)) (need (fits ((((heads1 ++ [80, 75, 5, 6]) ++ number_4) ++ number_3).length + number_3.length)) ((number (heads1.length : Int) 4).bind fun number_5 =>
 (need (fits (((((heads1 ++ [80, 75, 5, 6]) ++ number_4) ++ number_3) ++ number_3).length + number_5.length)) ((number at_1 4).bind fun number_6 =>
 (need (fits ((((((heads1 ++ [80, 75, 5, 6]) ++ number_4) ++ number_3) ++ number_3) ++ number_5).length + number_6.length)) ((number 0 2).bind fun number_7 =>
 (need (fits (((((((heads1 ++ [80, 75, 5, 6]) ++ number_4) ++ number_3) ++ number_3) ++ number_5) ++ number_6).length + number_7.length)) (some (((((((heads1 ++ [80, 75, 5, 6]) ++ number_4) ++ number_3) ++ number_3) ++ number_5) ++ number_6) ++ number_7)))))))))))))))
def zipGet.l0.step (again : (Str × (List (Str × Int × Int × Int × Int × Int × Int × Str)) × List Str) → Option (Str × (List (Str × Int × Int × Int × Int × Int × Int × Str)) × List Str)) : (Str × (List (Str × Int × Int × Int × Int × Int × Int × Str)) × List Str) → Option (Str × (List (Str × Int × Int × Int × Int × Int × Int × Str)) × List Str) := fun (rest, out, locals) =>
 (bif (decide ((out.length : Int) < 6)) then ((localGet rest).bind fun (r, r1, r2, r3, r4, r5, r6, r7, r8, r9) =>
 (bif (!r9) then (some (rest, out, locals)) else
 (need (fits (out.length + ([(r, r1, r2, r3, r4, r5, r6, r7)] : List (Str × Int × Int × Int × Int × Int × Int × Str)).length)) (need (decide (0 ≤ r8) && decide (r8 ≤ rest.length)) (need (fits (locals.length + ([(rest.take r8.toNat)] : List (Str)).length)) (need (decide (0 ≤ r8) && decide (r8 ≤ rest.length)) (again ((rest.drop r8.toNat), (out ++ [(r, r1, r2, r3, r4, r5, r6, r7)]), (locals ++ [(rest.take r8.toNat)]))))))))) else
 (some (rest, out, locals)))
def zipGet.l0 : Nat → (Str × (List (Str × Int × Int × Int × Int × Int × Int × Str)) × List Str) → Option (Str × (List (Str × Int × Int × Int × Int × Int × Int × Str)) × List Str) := loopN (zipGet.l0.step)
theorem zipGet.l0.succ (n : Nat) (t : (Str × (List (Str × Int × Int × Int × Int × Int × Int × Str)) × List Str)) : zipGet.l0 (n + 1) t = zipGet.l0.step (zipGet.l0 n) t := rfl
def zipGet (text : Str) : Option (Bool × List (Str × Int × Int × Int × Int × Int × Int × Str)) :=
 ((zipGet.l0 ((6 - (([] : List (Str × Int × Int × Int × Int × Int × Int × Str)).length : Int)).toNat + 1) (text, [], [])).bind fun (rest1, out1, locals1) =>
 (((zipOk out1).bind fun ZipOk =>
 (bif (!ZipOk) then (some true) else
 ((closing locals1).bind fun closing_ =>
 (some (!(rest1 == closing_)))))).bind fun c =>
 (bif c then (some (false, [])) else
 (some (true, out1)))))
def find1 (ename : Str) (ey : Int) (emo : Int) (ed : Int) (eh : Int) (emi : Int) (esec : Int) (etext : Str) (name : Str) : Option (Bool × Str) :=
 (some ((ename == name), name))
def indexFuncE.l0.step (again : ((List (Str × Int × Int × Int × Int × Int × Int × Str)) × Int × Int × Str) → Option ((Str) ⊕ (Int × Str))) : ((List (Str × Int × Int × Int × Int × Int × Int × Str)) × Int × Int × Str) → Option ((Str) ⊕ (Int × Str)) := fun (s, t, t1, o) =>
 (bif (decide (t1 < t)) then (need (decide (0 ≤ t1) && decide (t1 < s.length)) ((find1 ((s.getD t1.toNat ([], 0, 0, 0, 0, 0, 0, [])).1) ((s.getD t1.toNat ([], 0, 0, 0, 0, 0, 0, [])).2.1) ((s.getD t1.toNat ([], 0, 0, 0, 0, 0, 0, [])).2.2.1) ((s.getD t1.toNat ([], 0, 0, 0, 0, 0, 0, [])).2.2.2.1) ((s.getD t1.toNat ([], 0, 0, 0, 0, 0, 0, [])).2.2.2.2.1) ((s.getD t1.toNat ([], 0, 0, 0, 0, 0, 0, [])).2.2.2.2.2.1) ((s.getD t1.toNat ([], 0, 0, 0, 0, 0, 0, [])).2.2.2.2.2.2.1) ((s.getD t1.toNat ([], 0, 0, 0, 0, 0, 0, [])).2.2.2.2.2.2.2) o).bind fun (r, r1) =>
 (bif r then ((some (t1, r1)).map Sum.inr) else
 (again (s, t, (w64 (t1 + 1)), r1))))) else
 (some (.inl o)))
def indexFuncE.l0 : Nat → ((List (Str × Int × Int × Int × Int × Int × Int × Str)) × Int × Int × Str) → Option ((Str) ⊕ (Int × Str)) := loopN (indexFuncE.l0.step)
def indexFuncE (list : List (Str × Int × Int × Int × Int × Int × Int × Str)) (name : Str) : Option (Int × Str) :=
 ((indexFuncE.l0 (((list.length : Int) - (0 : Int)).toNat + 1) (list, (list.length : Int), 0, name)).bind fun r => match r with
 | .inl o1 => (some ((-1), o1))
 | .inr r => some r)
def find (list : List (Str × Int × Int × Int × Int × Int × Int × Str)) (name : Str) : Option (Int) :=
 ((indexFuncE list name).bind fun (r, r1) =>
 (some r))
def itoa (n : Int) : Option (Str) := itoaF n
def index0N (s : Str) : Option (Int) :=
 ((some (([10] : Str) == s)).bind fun c =>
 (bif c then (some 0) else
 ((indexByte0 s 10).bind fun IndexByt =>
 (some IndexByt))))
def index0B (s : Str) : Option (Int) :=
 ((some (([32] : Str) == s)).bind fun c =>
 (bif c then (some 0) else
 ((indexByte0 s 32).bind fun IndexByt =>
 (some IndexByt))))
def cutNl0 (s : Str) : Option (Str × Str × Bool) :=
 (orElse (index0N s) (fun Index =>
 (bif (decide (Index ≥ 0)) then (need (decide (0 ≤ Index) && decide (Index ≤ s.length)) (need (decide (0 ≤ (w64 (Index + 1))) && decide ((w64 (Index + 1)) ≤ s.length)) (some ((s.take Index.toNat), (s.drop (w64 (Index + 1)).toNat), true)))) else
 (some (s, [], false)))) none)
def cutBl0 (s : Str) : Option (Str × Str × Bool) :=
 ((index0B s).bind fun Index =>
 (bif (decide (Index ≥ 0)) then (need (decide (0 ≤ Index) && decide (Index ≤ s.length)) (need (decide (0 ≤ (w64 (Index + 1))) && decide ((w64 (Index + 1)) ≤ s.length)) (some ((s.take Index.toNat), (s.drop (w64 (Index + 1)).toNat), true)))) else
 (some (s, [], false))))
def cutNl (s : Str) : Option (Str × Str × Bool) :=
 (orElse (cutNl0 s) (fun (r, r1, r2) =>
 (some (r, r1, r2))) none)
def cutBl (s : Str) : Option (Str × Str × Bool) :=
 ((cutBl0 s).bind fun (r, r1, r2) =>
 (some (r, r1, r2)))
def archive (text : Str) : Option (Bool) :=
 ((zipGet text).bind fun (r, r1) =>
 (some r))
def diskOk (text : Str) (log : Str) : Option (Bool) :=
 (((archive text).bind fun archive_ =>
 (bif archive_ then (some (log == [])) else
 (some false))).bind fun c =>
 (some c))
def l1DecF : Nat → Int → Option (Str)
 | 0, _ => none
 | k_ + 1, n =>
 (bif (decide (n < (-9223372036854775807))) then (some [45, 57, 50, 50, 51, 51, 55, 50, 48, 51, 54, 56, 53, 52, 55, 55, 53, 56, 48, 56]) else
 (bif (decide (n < 0)) then ((l1DecF k_ (w64 (0 - n))).bind fun l1Dec_ =>
 (need (fits (([45] : Str).length + l1Dec_.length)) (some ([45] ++ l1Dec_)))) else
 (bif (decide (n < 10)) then (some (toBytes [(IntKind.wrap .u8 (w64 (48 + n)))])) else
 ((l1DecF k_ (w64 (n.tdiv 10))).bind fun l1Dec_1 =>
 (need (fits (l1Dec_1.length + (toBytes [(IntKind.wrap .u8 (w64 (48 + (n.tmod 10))))]).length)) (some (l1Dec_1 ++ (toBytes [(IntKind.wrap .u8 (w64 (48 + (n.tmod 10))))]))))))))
def l1Dec (n : Int) : Option (Str) := l1DecF 30 n
def l1Pow.l0.step (again : (Int × Int) → Option (Int)) : (Int × Int) → Option (Int) := fun (n1, out) =>
 (bif (decide (n1 > 0)) then (again ((w64 (n1 - 1)), (w64 (2 * out)))) else
 (some out))
def l1Pow.l0 : Nat → (Int × Int) → Option (Int) := loopN (l1Pow.l0.step)
theorem l1Pow.l0.succ (n : Nat) (t : (Int × Int)) : l1Pow.l0 (n + 1) t = l1Pow.l0.step (l1Pow.l0 n) t := rfl
def l1Pow (n : Int) : Option (Int) :=
 ((l1Pow.l0 ((n - 0).toNat + 1) (n, 1)).bind fun out1 =>
 (some out1))
def sBit (s : Str) (at_ : Int) (bad : Bool) : Option (Int × Str × Int × Bool) :=
 (bif (decide (at_ ≥ (w64 (8 * (s.length : Int))))) then (some (0, s, at_, true)) else
 (need (decide (0 ≤ (w64 (at_.tdiv 8))) && decide ((w64 (at_.tdiv 8)) < s.length)) ((l1Pow (at_.tmod 8)).bind fun l1Pow_ =>
 (need (l1Pow_ != 0) (some (((w64 ((w64 ((s.getD (w64 (at_.tdiv 8)).toNat 0).toNat : Int)).tdiv l1Pow_)).tmod 2), s, (w64 (at_ + 1)), bad))))))
def sNum.l0.step (again : (Int × Int × Int × Str × Int × Bool) → Option (Int × Str × Int × Bool)) : (Int × Int × Int × Str × Int × Bool) → Option (Int × Str × Int × Bool) := fun (bits1, n, k, o, o1, o2) =>
 (bif (decide (k < bits1)) then ((sBit o o1 o2).bind fun (r, r1, r2, r3) =>
 ((l1Pow k).bind fun l1Pow_ =>
 (again (bits1, (w64 (n + (w64 (r * l1Pow_)))), (w64 (k + 1)), r1, r2, r3)))) else
 (some (n, o, o1, o2)))
def sNum.l0 : Nat → (Int × Int × Int × Str × Int × Bool) → Option (Int × Str × Int × Bool) := loopN (sNum.l0.step)
theorem sNum.l0.succ (n : Nat) (t : (Int × Int × Int × Str × Int × Bool)) : sNum.l0 (n + 1) t = sNum.l0.step (sNum.l0 n) t := rfl
def sNum (bits : Int) (s : Str) (at_ : Int) (bad : Bool) : Option (Int × Str × Int × Bool) :=
 ((sNum.l0 ((bits - (0 : Int)).toNat + 1) (bits, 0, 0, s, at_, bad)).bind fun (n1, o3, o4, o5) =>
 (some (n1, o3, o4, o5)))
def sWhole.l0.step (again : (Int × Str × Int × Bool) → Option (Int × Str × Int × Bool)) : (Int × Str × Int × Bool) → Option (Int × Str × Int × Bool) := fun (n, o, o1, o2) =>
 (bif ((o1.tmod 8) != 0) then ((sBit o o1 o2).bind fun (r, r1, r2, r3) =>
 (again ((w64 (n + r)), r1, r2, r3))) else
 (some (n, o, o1, o2)))
def sWhole.l0 : Nat → (Int × Str × Int × Bool) → Option (Int × Str × Int × Bool) := loopN (sWhole.l0.step)
theorem sWhole.l0.succ (n : Nat) (t : (Int × Str × Int × Bool)) : sWhole.l0 (n + 1) t = sWhole.l0.step (sWhole.l0 n) t := rfl
def sWhole (s : Str) (at_ : Int) (bad : Bool) : Option (Bool × Str × Int × Bool) :=
 ((sWhole.l0 (9) (0, s, at_, bad)).bind fun (n1, o3, o4, o5) =>
 (some ((n1 == 0), o3, o4, o5)))
def l2Step.l0.step (again : (Int × Int) → Option (Int)) : (Int × Int) → Option (Int) := fun (c1, k) =>
 (bif (decide (k < 8)) then (bif ((c1.tmod 2) == 1) then (again ((ixor .u32 (IntKind.wrap .u32 (c1.tdiv 2)) 3988292384), (w64 (k + 1)))) else
 (again ((IntKind.wrap .u32 (c1.tdiv 2)), (w64 (k + 1))))) else
 (some c1))
def l2Step.l0 : Nat → (Int × Int) → Option (Int) := loopN (l2Step.l0.step)
theorem l2Step.l0.succ (n : Nat) (t : (Int × Int)) : l2Step.l0 (n + 1) t = l2Step.l0.step (l2Step.l0 n) t := rfl
def l2Step (c : Int) (b : Int) : Option (Int) :=
 ((l2Step.l0 ((8 - (0 : Int)).toNat + 1) ((ixor .u32 c (IntKind.wrap .u32 b)), 0)).bind fun c2 =>
 (some c2))
def l2More.l0.step (again : (Str × Int × Int) → Option (Int)) : (Str × Int × Int) → Option (Int) := fun (text1, c, i) =>
 (bif (decide (i < (text1.length : Int))) then (need (decide (0 ≤ i) && decide (i < text1.length)) ((l2Step c ((text1.getD i.toNat 0).toNat : Int)).bind fun l2Step_ =>
 (again (text1, l2Step_, (w64 (i + 1)))))) else
 (some c))
def l2More.l0 : Nat → (Str × Int × Int) → Option (Int) := loopN (l2More.l0.step)
theorem l2More.l0.succ (n : Nat) (t : (Str × Int × Int)) : l2More.l0 (n + 1) t = l2More.l0.step (l2More.l0 n) t := rfl
def l2More (crc_ : Int) (text : Str) : Option (Int) :=
 ((l2More.l0 (((text.length : Int) - (0 : Int)).toNat + 1) (text, (ixor .u32 crc_ 4294967295), 0)).bind fun c1 =>
 (some (ixor .u32 c1 4294967295)))
def specCrc (text : Str) : Option (Int) :=
 ((l2More 0 text).bind fun l2More_ =>
 (some (w64 l2More_)))
def l3Used.l0.step (again : (List Int × Int × Int) → Option (Int)) : (List Int × Int × Int) → Option (Int) := fun (lens1, n, i) =>
 (bif (decide (i < (lens1.length : Int))) then (need (decide (0 ≤ i) && decide (i < lens1.length)) (bif (decide ((lens1.getD i.toNat 0) > 0)) then (again (lens1, (w64 (n + 1)), (w64 (i + 1)))) else
 (again (lens1, n, (w64 (i + 1)))))) else
 (some n))
def l3Used.l0 : Nat → (List Int × Int × Int) → Option (Int) := loopN (l3Used.l0.step)
theorem l3Used.l0.succ (n : Nat) (t : (List Int × Int × Int)) : l3Used.l0 (n + 1) t = l3Used.l0.step (l3Used.l0 n) t := rfl
def l3Used (lens : List Int) : Option (Int) :=
 ((l3Used.l0 (((lens.length : Int) - (0 : Int)).toNat + 1) (lens, 0, 0)).bind fun n1 =>
 (some n1))
def specLensOk.l0.step (again : (List Int × Int × Int) → Option ((List Int × Int) ⊕ (Bool))) : (List Int × Int × Int) → Option ((List Int × Int) ⊕ (Bool)) := fun (lens1, sum, i) =>
 (bif (decide (i < (lens1.length : Int))) then (need (decide (0 ≤ i) && decide (i < lens1.length)) ((l1In (lens1.getD i.toNat 0) 0 15).bind fun l1In_ =>
 (bif (!l1In_) then ((some false).map Sum.inr) else
 (need (decide (0 ≤ i) && decide (i < lens1.length)) (bif (decide ((lens1.getD i.toNat 0) > 0)) then (need (decide (0 ≤ i) && decide (i < lens1.length)) ((l1Pow (w64 (15 - (lens1.getD i.toNat 0)))).bind fun l1Pow_ =>
 (again (lens1, (w64 (sum + l1Pow_)), (w64 (i + 1)))))) else
 (again (lens1, sum, (w64 (i + 1))))))))) else
 (some (.inl (lens1, sum))))
def specLensOk.l0 : Nat → (List Int × Int × Int) → Option ((List Int × Int) ⊕ (Bool)) := loopN (specLensOk.l0.step)
theorem specLensOk.l0.succ (n : Nat) (t : (List Int × Int × Int)) : specLensOk.l0 (n + 1) t = specLensOk.l0.step (specLensOk.l0 n) t := rfl
def specLensOk (lens : List Int) : Option (Bool) :=
 ((specLensOk.l0 (((lens.length : Int) - (0 : Int)).toNat + 1) (lens, 0, 0)).bind fun r => match r with
 | .inl (lens2, sum1) => (((l3Used lens2).bind fun l3Used_ =>
 (bif (l3Used_ == 1) then ((l1Pow 14).bind fun l1Pow_1 =>
 (some (sum1 == l1Pow_1))) else
 (some false))).bind fun one =>
 ((bif (decide ((lens2.length : Int) ≤ 300)) then ((l1Pow 15).bind fun l1Pow_2 =>
 (bif (sum1 == l1Pow_2) then (some true) else
 (some one))) else
 (some false)).bind fun c =>
 (some c)))
 | .inr r => some r)
def l3Codes.l0.step (again : (List Int × Int × Int × Int × List Int) → Option (List Int × Int × Int × List Int)) : (List Int × Int × Int × Int × List Int) → Option (List Int × Int × Int × List Int) := fun (lens2, code_1, n1, i, out1) =>
 (bif (decide (i < (lens2.length : Int))) then (need (decide (0 ≤ i) && decide (i < lens2.length)) (bif ((lens2.getD i.toNat 0) == n1) then (need (decide (0 ≤ i) && decide (i < out1.length)) (again (lens2, (w64 (code_1 + 1)), n1, (w64 (i + 1)), (out1.set i.toNat code_1)))) else
 (again (lens2, code_1, n1, (w64 (i + 1)), out1)))) else
 (some (lens2, code_1, n1, out1)))
def l3Codes.l0 : Nat → (List Int × Int × Int × Int × List Int) → Option (List Int × Int × Int × List Int) := loopN (l3Codes.l0.step)
theorem l3Codes.l0.succ (n : Nat) (t : (List Int × Int × Int × Int × List Int)) : l3Codes.l0 (n + 1) t = l3Codes.l0.step (l3Codes.l0 n) t := rfl
def l3Codes.l1.step (again : (List Int × Int × Int × List Int) → Option (List Int)) : (List Int × Int × Int × List Int) → Option (List Int) := fun (lens1, code_, n, out) =>
 (bif (decide (n ≤ 15)) then ((l3Codes.l0 (((lens1.length : Int) - (0 : Int)).toNat + 1) (lens1, code_, n, 0, out)).bind fun (lens3, code_2, n2, out2) =>
 (again (lens3, (w64 (2 * code_2)), (w64 (n2 + 1)), out2))) else
 (some out))
def l3Codes.l1 : Nat → (List Int × Int × Int × List Int) → Option (List Int) := loopN (l3Codes.l1.step)
theorem l3Codes.l1.succ (n : Nat) (t : (List Int × Int × Int × List Int)) : l3Codes.l1 (n + 1) t = l3Codes.l1.step (l3Codes.l1 n) t := rfl
def l3Codes (lens : List Int) : Option (List Int) :=
 (need (decide (0 ≤ (lens.length : Int)) && fits (lens.length : Int).toNat) ((l3Codes.l1 ((15 - (1 : Int)).toNat + 2) (lens, 0, 1, (List.replicate (lens.length : Int).toNat (0 : Int)))).bind fun out3 =>
 (some out3)))
def sSymbol.l0.step (again : (List Int × List Int × Int × Int × Int × Str × Int × Bool) → Option ((List Int × List Int × Int × Int × Str × Int × Bool) ⊕ ((Str × Int × Bool) ⊕ (Int × Str × Int × Bool)))) : (List Int × List Int × Int × Int × Int × Str × Int × Bool) → Option ((List Int × List Int × Int × Int × Str × Int × Bool) ⊕ ((Str × Int × Bool) ⊕ (Int × Str × Int × Bool))) := fun (lens2, codes_2, code_1, n1, i, o3, o4, o5) =>
 (bif (decide (i < (lens2.length : Int))) then ((need (decide (0 ≤ i) && decide (i < lens2.length)) (bif ((lens2.getD i.toNat 0) == n1) then (need (decide (0 ≤ i) && decide (i < codes_2.length)) (some ((codes_2.getD i.toNat 0) == code_1))) else
 (some false))).bind fun c1 =>
 (bif c1 then (((some (i, o3, o4, o5)).map Sum.inr).map Sum.inr) else
 (again (lens2, codes_2, code_1, n1, (w64 (i + 1)), o3, o4, o5)))) else
 (some (.inl (lens2, codes_2, code_1, n1, o3, o4, o5))))
def sSymbol.l0 : Nat → (List Int × List Int × Int × Int × Int × Str × Int × Bool) → Option ((List Int × List Int × Int × Int × Str × Int × Bool) ⊕ ((Str × Int × Bool) ⊕ (Int × Str × Int × Bool))) := loopN (sSymbol.l0.step)
theorem sSymbol.l0.succ (n : Nat) (t : (List Int × List Int × Int × Int × Int × Str × Int × Bool)) : sSymbol.l0 (n + 1) t = sSymbol.l0.step (sSymbol.l0 n) t := rfl
def sSymbol.l1.step (again : (List Int × List Int × Int × Int × Str × Int × Bool) → Option ((Str × Int × Bool) ⊕ (Int × Str × Int × Bool))) : (List Int × List Int × Int × Int × Str × Int × Bool) → Option ((Str × Int × Bool) ⊕ (Int × Str × Int × Bool)) := fun (lens1, codes_1, code_, n, o, o1, o2) =>
 ((bif (decide (n ≤ 15)) then (some (!o2)) else
 (some false)).bind fun c =>
 (bif c then ((sBit o o1 o2).bind fun (r, r1, r2, r3) =>
 ((sSymbol.l0 (((lens1.length : Int) - (0 : Int)).toNat + 1) (lens1, codes_1, (w64 ((w64 (2 * code_)) + r)), n, 0, r1, r2, r3)).bind fun r => match r with
 | .inl (lens3, codes_3, code_2, n2, o6, o7, o8) => (again (lens3, codes_3, code_2, (w64 (n2 + 1)), o6, o7, o8))
 | .inr r => some r)) else
 (some (.inl (o, o1, o2)))))
def sSymbol.l1 : Nat → (List Int × List Int × Int × Int × Str × Int × Bool) → Option ((Str × Int × Bool) ⊕ (Int × Str × Int × Bool)) := loopN (sSymbol.l1.step)
theorem sSymbol.l1.succ (n : Nat) (t : (List Int × List Int × Int × Int × Str × Int × Bool)) : sSymbol.l1 (n + 1) t = sSymbol.l1.step (sSymbol.l1 n) t := rfl
def sSymbol (lens : List Int) (codes_ : List Int) (s : Str) (at_ : Int) (bad : Bool) : Option (Int × Str × Int × Bool) :=
 ((sSymbol.l1 ((15 - (1 : Int)).toNat + 2) (lens, codes_, 0, 1, s, at_, bad)).bind fun r => match r with
 | .inl (o9, o10, o11) => (some ((-1), o9, o10, true))
 | .inr r => some r)
def l4Add.l0.step (again : (Int × List Int × Int × Int × Int) → Option (List Int)) : (Int × List Int × Int × Int × Int) → Option (List Int) := fun (i, text1, o, o1, o2) =>
 (bif (decide (i < o1)) then (need (decide (0 ≤ (w64 ((text1.length : Int) - o2))) && decide ((w64 ((text1.length : Int) - o2)) < text1.length)) (need (fits (text1.length + ([(text1.getD ((w64 ((text1.length : Int) - o2)).toNat) 0)] : List (Int)).length)) (again ((w64 (i + 1)), (text1 ++ [(text1.getD ((w64 ((text1.length : Int) - o2)).toNat) 0)]), o, o1, o2)))) else
 (some text1))
def l4Add.l0 : Nat → (Int × List Int × Int × Int × Int) → Option (List Int) := loopN (l4Add.l0.step)
theorem l4Add.l0.succ (n : Nat) (t : (Int × List Int × Int × Int × Int)) : l4Add.l0 (n + 1) t = l4Add.l0.step (l4Add.l0 n) t := rfl
def l4Add (byte : Int) (long : Int) (back : Int) (text : List Int) : Option (Bool × List Int) :=
 (bif (long == 0) then (need (fits (text.length + ([(IntKind.wrap .u8 byte)] : List (Int)).length)) ((l1In byte 0 255).bind fun l1In_ =>
 (bif l1In_ then (some ((back == 0), (text ++ [(IntKind.wrap .u8 byte)]))) else
 (some (false, (text ++ [(IntKind.wrap .u8 byte)])))))) else
 ((bif (byte != 0) then (some true) else
 ((l1In long 3 60).bind fun l1In_1 =>
 (bif (!l1In_1) then (some true) else
 ((l1In back 1 250).bind fun l1In_2 =>
 (bif (!l1In_2) then (some true) else
 (some (decide (back > (text.length : Int))))))))).bind fun c =>
 (bif c then (some (false, text)) else
 ((l4Add.l0 ((long - (0 : Int)).toNat + 1) (0, text, byte, long, back)).bind fun text2 =>
 (some (true, text2))))))
def l5Base.l0.step (again : (List Int × Int × Int × List Int) → Option (List Int)) : (List Int × Int × Int × List Int) → Option (List Int) := fun (extra1, from_1, i, out) =>
 (bif (decide (i < (extra1.length : Int))) then (need (fits (out.length + ([from_1] : List (Int)).length)) (need (decide (0 ≤ i) && decide (i < extra1.length)) ((l1Pow (extra1.getD i.toNat 0)).bind fun l1Pow_ =>
 (again (extra1, (w64 (from_1 + l1Pow_)), (w64 (i + 1)), (out ++ [from_1])))))) else
 (some out))
def l5Base.l0 : Nat → (List Int × Int × Int × List Int) → Option (List Int) := loopN (l5Base.l0.step)
def l5Base (extra : List Int) (from_ : Int) : Option (List Int) :=
 ((l5Base.l0 (((extra.length : Int) - (0 : Int)).toNat + 1) (extra, from_, 0, [])).bind fun out1 =>
 (some out1))
def l5LongBits : Option (List Int) :=
 (some [0, 0, 0, 0, 0, 0, 0, 0, 1, 1, 1, 1, 2, 2, 2, 2, 3, 3, 3, 3, 4, 4, 4, 4, 5, 5, 5, 5])
def l5BackBits : Option (List Int) :=
 (some [0, 0, 0, 0, 1, 1, 2, 2, 3, 3, 4, 4, 5, 5, 6, 6, 7, 7, 8, 8, 9, 9, 10, 10, 11, 11, 12, 12, 13, 13])
def l5Fixed.l0.step (again : (Int × List Int) → Option (List Int)) : (Int × List Int) → Option (List Int) := fun (i, out) =>
 (bif (decide (i < 288)) then (bif (decide (i < 144)) then (need (fits (out.length + ([8] : List (Int)).length)) (again ((w64 (i + 1)), (out ++ [8])))) else
 (bif (decide (i < 256)) then (need (fits (out.length + ([9] : List (Int)).length)) (again ((w64 (i + 1)), (out ++ [9])))) else
 (bif (decide (i < 280)) then (need (fits (out.length + ([7] : List (Int)).length)) (again ((w64 (i + 1)), (out ++ [7])))) else
 (need (fits (out.length + ([8] : List (Int)).length)) (again ((w64 (i + 1)), (out ++ [8]))))))) else
 (some out))
def l5Fixed.l0 : Nat → (Int × List Int) → Option (List Int) := loopN (l5Fixed.l0.step)
def l5Fixed : Option (List Int) :=
 ((l5Fixed.l0 ((288 - (0 : Int)).toNat + 1) (0, [])).bind fun out1 =>
 (some out1))
def l5Fives.l0.step (again : (Int × List Int) → Option (List Int)) : (Int × List Int) → Option (List Int) := fun (i, out) =>
 (bif (decide (i < 32)) then (need (fits (out.length + ([5] : List (Int)).length)) (again ((w64 (i + 1)), (out ++ [5])))) else
 (some out))
def l5Fives.l0 : Nat → (Int × List Int) → Option (List Int) := loopN (l5Fives.l0.step)
def l5Fives : Option (List Int) :=
 ((l5Fives.l0 ((32 - (0 : Int)).toNat + 1) (0, [])).bind fun out1 =>
 (some out1))
def l5Order : Option (List Int) :=
 (some [16, 17, 18, 0, 8, 7, 9, 6, 10, 5, 11, 4, 12, 3, 13, 2, 14, 1, 15])
def sStored.l0.step (again : (Int × Int × Str × Int × Bool × List Int) → Option (Str × Int × Bool × List Int)) : (Int × Int × Str × Int × Bool × List Int) → Option (Str × Int × Bool × List Int) := fun (n1, i, o6, o7, o8, text3) =>
 ((bif (decide (i < n1)) then (some (!o8)) else
 (some false)).bind fun c =>
 (bif c then ((sNum 8 o6 o7 o8).bind fun (r12, r13, r14, r15) =>
 (need (fits (text3.length + ([(IntKind.wrap .u8 r12)] : List (Int)).length)) (again (n1, (w64 (i + 1)), r13, r14, r15, (text3 ++ [(IntKind.wrap .u8 r12)]))))) else
 (some (o6, o7, o8, text3))))
def sStored.l0 : Nat → (Int × Int × Str × Int × Bool × List Int) → Option (Str × Int × Bool × List Int) := loopN (sStored.l0.step)
theorem sStored.l0.succ (n : Nat) (t : (Int × Int × Str × Int × Bool × List Int)) : sStored.l0 (n + 1) t = sStored.l0.step (sStored.l0 n) t := rfl
def sStored (s : Str) (at_ : Int) (bad : Bool) (text : List Int) : Option (Str × Int × Bool × List Int) :=
 ((((sWhole s at_ bad).bind fun (r, r1, r2, r3) =>
 (bif (!r) then (some (r1, r2, true, text)) else
 (some (r1, r2, r3, text)))) : Option (Str × Int × Bool × List Int)).bind fun (o, o1, o2, text1) =>
 ((sNum 16 o o1 o2).bind fun (r4, r5, r6, r7) =>
 ((((sNum 16 r5 r6 r7).bind fun (r8, r9, r10, r11) =>
 (bif (r8 != (w64 (65535 - r4))) then (some (r4, r9, r10, true, text1)) else
 (bif (decide (r4 > 300)) then (some (r4, r9, r10, true, text1)) else
 (some (r4, r9, r10, r11, text1))))) : Option (Int × Str × Int × Bool × List Int)).bind fun (n, o3, o4, o5, text2) =>
 ((sStored.l0 ((n - (0 : Int)).toNat + 1) (n, 0, o3, o4, o5, text2)).bind fun (o9, o10, o11, text4) =>
 (some (o9, o10, o11, text4))))))
def sAgain (sym : Int) (backs : List Int) (codes_ : List Int) (s : Str) (at_ : Int) (bad : Bool) (text : List Int) : Option (Str × Int × Bool × List Int) :=
 ((l5LongBits).bind fun l5LongBi =>
 (bif (decide ((w64 (sym - 257)) ≥ (l5LongBi.length : Int))) then (some (s, at_, true, text)) else
 ((l5LongBits).bind fun l5LongBi1 =>
 ((l5Base l5LongBi1 3).bind fun l5Base_ =>
 (need (decide (0 ≤ (w64 (sym - 257))) && decide ((w64 (sym - 257)) < l5Base_.length)) ((l5LongBits).bind fun l5LongBi2 =>
 (need (decide (0 ≤ (w64 (sym - 257))) && decide ((w64 (sym - 257)) < l5LongBi2.length)) ((sNum (l5LongBi2.getD ((w64 (sym - 257)).toNat) 0) s at_ bad).bind fun (r, r1, r2, r3) =>
 ((sSymbol backs codes_ r1 r2 r3).bind fun (r4, r5, r6, r7) =>
 (bif r7 then (some (r5, r6, true, text)) else
 ((l5BackBits).bind fun l5BackBi =>
 (bif (decide (r4 ≥ (l5BackBi.length : Int))) then (some (r5, r6, true, text)) else
 ((l5BackBits).bind fun l5BackBi1 =>
 ((l5Base l5BackBi1 1).bind fun l5Base_1 =>
 (need (decide (0 ≤ r4) && decide (r4 < l5Base_1.length)) ((l5BackBits).bind fun l5BackBi2 =>
 (need (decide (0 ≤ r4) && decide (r4 < l5BackBi2.length)) ((sNum (l5BackBi2.getD r4.toNat 0) r5 r6 r7).bind fun (r8, r9, r10, r11) =>
 ((l4Add 0 (w64 ((l5Base_.getD ((w64 (sym - 257)).toNat) 0) + r)) (w64 ((l5Base_1.getD r4.toNat 0) + r8)) text).bind fun (r12, r13) =>
 (bif (!r12) then (some (r9, r10, true, r13)) else
 (some (r9, r10, r11, r13))))))))))))))))))))))
def sTokens.l0.step (again : (List Int × List Int × Str × Int × Bool × List Int × List Int × List Int) → Option ((Str × Int × Bool × List Int) ⊕ (Str × Int × Bool × List Int))) : (List Int × List Int × Str × Int × Bool × List Int × List Int × List Int) → Option ((Str × Int × Bool × List Int) ⊕ (Str × Int × Bool × List Int)) := fun (longs1, backs1, o, o1, o2, text1, a, b) =>
 ((bif (!o2) then (some (decide ((text1.length : Int) ≤ 300))) else
 (some false)).bind fun c =>
 (bif c then ((sSymbol longs1 a o o1 o2).bind fun (r, r1, r2, r3) =>
 ((bif r3 then (some true) else
 (some (r == 256))).bind fun c1 =>
 (bif c1 then ((some (r1, r2, r3, text1)).map Sum.inr) else
 (bif (decide (r < 256)) then (need (fits (text1.length + ([(IntKind.wrap .u8 r)] : List (Int)).length)) (again (longs1, backs1, r1, r2, r3, (text1 ++ [(IntKind.wrap .u8 r)]), a, b))) else
 ((sAgain r backs1 b r1 r2 r3 text1).bind fun (r4, r5, r6, r7) =>
 (again (longs1, backs1, r4, r5, r6, r7, a, b))))))) else
 (some (.inl (o, o1, o2, text1)))))
def sTokens.l0 : Nat → (List Int × List Int × Str × Int × Bool × List Int × List Int × List Int) → Option ((Str × Int × Bool × List Int) ⊕ (Str × Int × Bool × List Int)) := loopN (sTokens.l0.step)
theorem sTokens.l0.succ (n : Nat) (t : (List Int × List Int × Str × Int × Bool × List Int × List Int × List Int)) : sTokens.l0 (n + 1) t = sTokens.l0.step (sTokens.l0 n) t := rfl
def sTokens (longs : List Int) (backs : List Int) (s : Str) (at_ : Int) (bad : Bool) (text : List Int) : Option (Str × Int × Bool × List Int) :=
 ((l3Codes longs).bind fun l3Codes_ =>
 ((l3Codes backs).bind fun l3Codes_1 =>
 ((sTokens.l0 (100000) (longs, backs, s, at_, bad, text, l3Codes_, l3Codes_1)).bind fun r => match r with
 | .inl (o3, o4, o5, text2) => (some (o3, o4, true, text2))
 | .inr r => some r)))
def sMany.l0.step (again : (Int × Int × Int × Str × Int × Bool × List Int) → Option (Str × Int × Bool × List Int)) : (Int × Int × Int × Str × Int × Bool × List Int) → Option (Str × Int × Bool × List Int) := fun (last1, n1, i, o3, o4, o5, out2) =>
 ((bif (decide (i < n1)) then (some (!o5)) else
 (some false)).bind fun c1 =>
 (bif c1 then (need (fits (out2.length + ([last1] : List (Int)).length)) (again (last1, n1, (w64 (i + 1)), o3, o4, o5, (out2 ++ [last1])))) else
 (some (o3, o4, o5, out2))))
def sMany.l0 : Nat → (Int × Int × Int × Str × Int × Bool × List Int) → Option (Str × Int × Bool × List Int) := loopN (sMany.l0.step)
theorem sMany.l0.succ (n : Nat) (t : (Int × Int × Int × Str × Int × Bool × List Int)) : sMany.l0 (n + 1) t = sMany.l0.step (sMany.l0 n) t := rfl
def sMany (sym : Int) (s : Str) (at_ : Int) (bad : Bool) (out : List Int) : Option (Str × Int × Bool × List Int) :=
 ((((bif (sym == 16) then (some ((out.length : Int) == 0)) else
 (some false)).bind fun c =>
 (bif c then (some (0, 0, s, at_, true, out)) else
 (bif (sym == 16) then (need (decide (0 ≤ (w64 ((out.length : Int) - 1))) && decide ((w64 ((out.length : Int) - 1)) < out.length)) ((sNum 2 s at_ bad).bind fun (r, r1, r2, r3) =>
 (some ((out.getD ((w64 ((out.length : Int) - 1)).toNat) 0), (w64 (3 + r)), r1, r2, r3, out)))) else
 (bif (sym == 17) then ((sNum 3 s at_ bad).bind fun (r4, r5, r6, r7) =>
 (some (0, (w64 (3 + r4)), r5, r6, r7, out))) else
 (bif (sym == 18) then ((sNum 7 s at_ bad).bind fun (r8, r9, r10, r11) =>
 (some (0, (w64 (11 + r8)), r9, r10, r11, out))) else
 (some (sym, 1, s, at_, bad, out))))))) : Option (Int × Int × Str × Int × Bool × List Int)).bind fun (last, n, o, o1, o2, out1) =>
 ((sMany.l0 ((n - (0 : Int)).toNat + 1) (last, n, 0, o, o1, o2, out1)).bind fun (o6, o7, o8, out3) =>
 (some (o6, o7, o8, out3))))
def sLens.l1.step (again : (Int × Int × Str × Int × Bool × List Int × List Int × List Int) → Option (Int × Int × Str × Int × Bool × List Int)) : (Int × Int × Str × Int × Bool × List Int × List Int × List Int) → Option (Int × Int × Str × Int × Bool × List Int) := fun (long2, back2, o6, o7, o8, lens2, codes_, all) =>
 ((bif (decide ((all.length : Int) < (w64 (long2 + back2)))) then (some (!o8)) else
 (some false)).bind fun c1 =>
 (bif c1 then ((sSymbol lens2 codes_ o6 o7 o8).bind fun (r16, r17, r18, r19) =>
 ((sMany r16 r17 r18 r19 all).bind fun (r20, r21, r22, r23) =>
 (again (long2, back2, r20, r21, r22, lens2, codes_, r23)))) else
 (some (long2, back2, o6, o7, o8, all))))
def sLens.l1 : Nat → (Int × Int × Str × Int × Bool × List Int × List Int × List Int) → Option (Int × Int × Str × Int × Bool × List Int) := loopN (sLens.l1.step)
theorem sLens.l1.succ (n : Nat) (t : (Int × Int × Str × Int × Bool × List Int × List Int × List Int)) : sLens.l1 (n + 1) t = sLens.l1.step (sLens.l1 n) t := rfl
def sLens.l0.step (again : (Int × Int × Int × Int × Str × Int × Bool × List Int) → Option (Int × Int × Str × Int × Bool × List Int)) : (Int × Int × Int × Int × Str × Int × Bool × List Int) → Option (Int × Int × Str × Int × Bool × List Int) := fun (long, back, n, i, o, o1, o2, lens) =>
 (bif (decide (i < n)) then ((l5Order).bind fun l5Order_ =>
 (need (decide (0 ≤ i) && decide (i < l5Order_.length)) ((sNum 3 o o1 o2).bind fun (r12, r13, r14, r15) =>
 (need (decide (0 ≤ (l5Order_.getD i.toNat 0)) && decide ((l5Order_.getD i.toNat 0) < lens.length)) (again (long, back, n, (w64 (i + 1)), r13, r14, r15, (lens.set ((l5Order_.getD i.toNat 0).toNat) r12))))))) else
 (some (long, back, o, o1, o2, lens)))
def sLens.l0 : Nat → (Int × Int × Int × Int × Str × Int × Bool × List Int) → Option (Int × Int × Str × Int × Bool × List Int) := loopN (sLens.l0.step)
theorem sLens.l0.succ (n : Nat) (t : (Int × Int × Int × Int × Str × Int × Bool × List Int)) : sLens.l0 (n + 1) t = sLens.l0.step (sLens.l0 n) t := rfl
def sLens (s : Str) (at_ : Int) (bad : Bool) : Option (List Int × List Int × Str × Int × Bool) :=
 ((sNum 5 s at_ bad).bind fun (r, r1, r2, r3) =>
 ((sNum 5 r1 r2 r3).bind fun (r4, r5, r6, r7) =>
 ((sNum 4 r5 r6 r7).bind fun (r8, r9, r10, r11) =>
 (need (decide (0 ≤ 19) && fits 19) ((sLens.l0 (((w64 (4 + r8)) - (0 : Int)).toNat + 1) ((w64 (257 + r)), (w64 (1 + r4)), (w64 (4 + r8)), 0, r9, r10, r11, (List.replicate 19 (0 : Int)))).bind fun (long1, back1, o3, o4, o5, lens1) =>
 (((specLensOk lens1).bind fun LensOk =>
 (bif (!LensOk) then (some true) else
 (bif (decide (long1 > 286)) then (some true) else
 (some (decide (back1 > 30)))))).bind fun c =>
 (bif c then (some ([], [], o3, o4, true)) else
 ((l3Codes lens1).bind fun l3Codes_ =>
 ((sLens.l1 (((w64 (long1 + back1)) - (([] : List Int).length : Int)).toNat + 1) (long1, back1, o3, o4, o5, lens1, l3Codes_, [])).bind fun (long3, back3, o9, o10, o11, all1) =>
 ((bif o11 then (some true) else
 (bif ((all1.length : Int) != (w64 (long3 + back3))) then (some true) else
 (need (decide (0 ≤ long3) && decide (long3 ≤ all1.length)) ((specLensOk ((all1.drop 0).take long3.toNat)).bind fun LensOk1 =>
 (bif (!LensOk1) then (some true) else
 (need (decide (0 ≤ long3) && decide (long3 ≤ all1.length)) ((specLensOk ((all1.drop long3.toNat).take (all1.length - long3.toNat))).bind fun LensOk2 =>
 (some (!LensOk2))))))))).bind fun c2 =>
 (bif c2 then (some ([], [], o9, o10, true)) else
 (need (decide (0 ≤ long3) && decide (long3 ≤ all1.length)) (need (decide (0 ≤ long3) && decide (long3 ≤ all1.length)) (some (((all1.drop 0).take long3.toNat), ((all1.drop long3.toNat).take (all1.length - long3.toNat)), o9, o10, o11)))))))))))))))
def sPart (s : Str) (at_ : Int) (bad : Bool) (text : List Int) : Option (Bool × Str × Int × Bool × List Int) :=
 ((sBit s at_ bad).bind fun (r, r1, r2, r3) =>
 ((sNum 2 r1 r2 r3).bind fun (r4, r5, r6, r7) =>
 (bif (r4 == 0) then ((sStored r5 r6 r7 text).bind fun (r8, r9, r10, r11) =>
 (some ((r == 1), r8, r9, r10, r11))) else
 (bif (r4 == 1) then ((l5Fixed).bind fun l5Fixed_ =>
 ((l5Fives).bind fun l5Fives_ =>
 ((sTokens l5Fixed_ l5Fives_ r5 r6 r7 text).bind fun (r12, r13, r14, r15) =>
 (some ((r == 1), r12, r13, r14, r15))))) else
 (bif (r4 == 2) then ((sLens r5 r6 r7).bind fun (r16, r17, r18, r19, r20) =>
 (bif (!r20) then ((sTokens r16 r17 r18 r19 r20 text).bind fun (r21, r22, r23, r24) =>
 (some ((r == 1), r21, r22, r23, r24))) else
 (some ((r == 1), r18, r19, r20, text)))) else
 (some ((r == 1), r5, r6, true, text)))))))
def l5Get.l0.step (again : (Bool × Str × Int × Bool × List Int) → Option (Str × Int × Bool × List Int)) : (Bool × Str × Int × Bool × List Int) → Option (Str × Int × Bool × List Int) := fun (last, o, o1, o2, out) =>
 ((bif (!last) then (some (!o2)) else
 (some false)).bind fun c =>
 (bif c then ((sPart o o1 o2 out).bind fun (r, r1, r2, r3, r4) =>
 (again (r, r1, r2, r3, r4))) else
 (some (o, o1, o2, out))))
def l5Get.l0 : Nat → (Bool × Str × Int × Bool × List Int) → Option (Str × Int × Bool × List Int) := loopN (l5Get.l0.step)
theorem l5Get.l0.succ (n : Nat) (t : (Bool × Str × Int × Bool × List Int)) : l5Get.l0 (n + 1) t = l5Get.l0.step (l5Get.l0 n) t := rfl
def l5Get (text : Str) : Option (Str × Int × Bool) :=
 ((l5Get.l0 (100000) (false, text, 0, false, [])).bind fun (o3, o4, o5, out1) =>
 ((sWhole o3 o4 o5).bind fun (r5, r6, r7, r8) =>
 ((bif r8 then (some true) else
 (bif (!r5) then (some true) else
 (some (decide ((out1.length : Int) > 300))))).bind fun c1 =>
 (bif c1 then (some ([], 0, false)) else
 (some ((toBytes out1), (w64 (r7.tdiv 8)), true))))))
def specFlateGet (text : Str) : Option (Str × Int × Bool) :=
 (bif (decide ((text.length : Int) > 700)) then (some ([], 0, false)) else
 ((l5Get text).bind fun (r, r1, r2) =>
 (some (r, r1, r2))))
def l6Days (year : Int) (month : Int) : Option (Int) :=
 (((bif (month == 4) then (some (year, month, (month == 4))) else
 (bif (month == 6) then (some (year, month, (month == 6))) else
 (bif (month == 9) then (some (year, month, (month == 9))) else
 (some (year, month, (month == 11)))))) : Option (Int × Int × Bool)).bind fun (year1, t, t1) =>
 (bif t1 then (some 30) else
 (bif (t == 2) then ((bif ((year1.tmod 4) == 0) then (bif ((year1.tmod 100) != 0) then (some true) else
 (some ((year1.tmod 400) == 0))) else
 (some false)).bind fun c =>
 (bif c then (some 29) else
 (some 28))) else
 (some 31))))
def specStampOk (y : Int) (mo : Int) (d : Int) (h : Int) (mi : Int) (sec : Int) : Option (Bool) :=
 (((l1In y 1980 2107).bind fun l1In_ =>
 (bif l1In_ then ((l1In mo 1 12).bind fun l1In_1 =>
 (bif l1In_1 then ((l6Days y mo).bind fun l6Days_ =>
 ((l1In d 1 l6Days_).bind fun l1In_2 =>
 (some l1In_2))) else
 (some false))) else
 (some false))).bind fun day =>
 ((bif day then ((l1In h 0 23).bind fun l1In_3 =>
 (bif l1In_3 then ((l1In mi 0 59).bind fun l1In_4 =>
 (bif l1In_4 then ((l1In sec 0 58).bind fun l1In_5 =>
 (bif l1In_5 then (some ((sec.tmod 2) == 0)) else
 (some false))) else
 (some false))) else
 (some false))) else
 (some false)).bind fun c =>
 (some c)))
def l6Get (n : Int) : Option (Int × Int × Int × Int × Int × Int) :=
 (some ((w64 ((w64 ((w64 ((w64 ((w64 ((w64 (n.tdiv 32)).tdiv 64)).tdiv 32)).tdiv 32)).tdiv 16)) + 1980)), ((w64 ((w64 ((w64 ((w64 (n.tdiv 32)).tdiv 64)).tdiv 32)).tdiv 32)).tmod 16), ((w64 ((w64 ((w64 (n.tdiv 32)).tdiv 64)).tdiv 32)).tmod 32), ((w64 ((w64 (n.tdiv 32)).tdiv 64)).tmod 32), ((w64 (n.tdiv 32)).tmod 64), (w64 (2 * (n.tmod 32)))))
def specEntryOk (name : Str) (y : Int) (mo : Int) (d : Int) (h : Int) (mi : Int) (sec : Int) (text : Str) : Option (Bool) :=
 (((specNameOk name).bind fun NameOk =>
 (bif NameOk then ((specStampOk y mo d h mi sec).bind fun StampOk =>
 (bif StampOk then (some (decide ((text.length : Int) ≤ 300))) else
 (some false))) else
 (some false))).bind fun c =>
 (some c))
def l6Bytes.l0.step (again : (Int × Int × Int × List Int) → Option (List Int)) : (Int × Int × Int × List Int) → Option (List Int) := fun (n1, many1, i, out) =>
 (bif (decide (i < many1)) then (need (fits (out.length + ([(IntKind.wrap .u8 (n1.tmod 256))] : List (Int)).length)) (again ((w64 (n1.tdiv 256)), many1, (w64 (i + 1)), (out ++ [(IntKind.wrap .u8 (n1.tmod 256))])))) else
 (some out))
def l6Bytes.l0 : Nat → (Int × Int × Int × List Int) → Option (List Int) := loopN (l6Bytes.l0.step)
theorem l6Bytes.l0.succ (n : Nat) (t : (Int × Int × Int × List Int)) : l6Bytes.l0 (n + 1) t = l6Bytes.l0.step (l6Bytes.l0 n) t := rfl
def l6Bytes (n : Int) (many : Int) : Option (Str) :=
 ((l6Bytes.l0 ((many - (0 : Int)).toNat + 1) (n, many, 0, [])).bind fun out1 =>
 (some (toBytes out1)))
def l6Num.l0.step (again : (Str × Int × Int × Int) → Option (Int)) : (Str × Int × Int × Int) → Option (Int) := fun (s1, at_1, n, i) =>
 (bif (decide (i ≥ 0)) then (need (decide (0 ≤ (w64 (at_1 + i))) && decide ((w64 (at_1 + i)) < s1.length)) (again (s1, at_1, (w64 ((w64 (256 * n)) + (w64 ((s1.getD (w64 (at_1 + i)).toNat 0).toNat : Int)))), (w64 (i - 1))))) else
 (some n))
def l6Num.l0 : Nat → (Str × Int × Int × Int) → Option (Int) := loopN (l6Num.l0.step)
theorem l6Num.l0.succ (n : Nat) (t : (Str × Int × Int × Int)) : l6Num.l0 (n + 1) t = l6Num.l0.step (l6Num.l0 n) t := rfl
def l6Num (s : Str) (at_ : Int) (many : Int) : Option (Int) :=
 ((bif (decide (at_ < 0)) then (some true) else
 (some (decide ((w64 (at_ + many)) > (s.length : Int))))).bind fun c =>
 (bif c then (some (-1)) else
 ((l6Num.l0 (((w64 (many - 1)) - 0).toNat + 2) (s, at_, 0, (w64 (many - 1)))).bind fun n1 =>
 (some n1))))
def l6Text (how : Int) (packed : Str) : Option (Str × Bool) :=
 (bif (how == 0) then (some (packed, true)) else
 ((specFlateGet packed).bind fun (r, r1, r2) =>
 ((bif r2 then (bif (how == 8) then (some (r, (r1 == (packed.length : Int)))) else
 (some (r, false))) else
 (some (r, false))).bind fun (c, c1) =>
 (some (c, c1)))))
def l6Read (text : Str) : Option (Str × Int × Int × Int × Int × Int × Int × Str × Int × Bool) :=
 ((l6Num text 26 2).bind fun l6Num_ =>
 ((l6Num text 18 4).bind fun l6Num_1 =>
 (((l6Num text 0 4).bind fun l6Num_2 =>
 (bif (l6Num_2 == 67324752) then ((l6Num text 4 2).bind fun l6Num_3 =>
 (bif (l6Num_3 == 20) then ((l6Num text 6 2).bind fun l6Num_4 =>
 (bif (l6Num_4 == 0) then ((l6Num text 28 2).bind fun l6Num_5 =>
 (some (l6Num_5 == 0))) else
 (some false))) else
 (some false))) else
 (some false))).bind fun head =>
 ((bif (!head) then (some true) else
 (bif (decide (l6Num_ < 0)) then (some true) else
 (bif (decide (l6Num_1 < 0)) then (some true) else
 (some (decide ((w64 ((w64 (30 + l6Num_)) + l6Num_1)) > (text.length : Int))))))).bind fun c =>
 (bif c then (some ([], 0, 0, 0, 0, 0, 0, [], 0, false)) else
 (need (decide (0 ≤ (w64 (30 + l6Num_))) && decide ((w64 (30 + l6Num_)) ≤ text.length)) (need (decide (0 ≤ (30 : Int)) && decide ((30 : Int) ≤ (w64 (30 + l6Num_)))) ((l6Num text 10 4).bind fun l6Num_6 =>
 ((l6Get l6Num_6).bind fun (r, r1, r2, r3, r4, r5) =>
 ((l6Num text 8 2).bind fun l6Num_7 =>
 (need (decide (0 ≤ (w64 ((w64 (30 + l6Num_)) + l6Num_1))) && decide ((w64 ((w64 (30 + l6Num_)) + l6Num_1)) ≤ text.length)) (need (decide (0 ≤ (w64 (30 + l6Num_))) && decide ((w64 (30 + l6Num_)) ≤ (w64 ((w64 (30 + l6Num_)) + l6Num_1)))) ((l6Text l6Num_7 ((text.take (w64 ((w64 (30 + l6Num_)) + l6Num_1)).toNat).drop (w64 (30 + l6Num_)).toNat)).bind fun (r6, r7) =>
 ((bif r7 then ((l6Num text 14 4).bind fun l6Num_8 =>
 ((specCrc r6).bind fun Crc =>
 (bif (l6Num_8 == Crc) then ((l6Num text 22 4).bind fun l6Num_9 =>
 (some (l6Num_9 == (r6.length : Int)))) else
 (some false)))) else
 (some false)).bind fun ok =>
 (bif ok then ((specEntryOk ((text.take (w64 (30 + l6Num_)).toNat).drop 30) r r1 r2 r3 r4 r5 r6).bind fun EntryOk =>
 (some (((text.take (w64 (30 + l6Num_)).toNat).drop 30), r, r1, r2, r3, r4, r5, r6, (w64 ((w64 (30 + l6Num_)) + l6Num_1)), EntryOk))) else
 (some (((text.take (w64 (30 + l6Num_)).toNat).drop 30), r, r1, r2, r3, r4, r5, r6, (w64 ((w64 (30 + l6Num_)) + l6Num_1)), false)))))))))))))))))
def l7At.l0.step (again : ((List (Str × Int × Int × Int × Int × Int × Int × Str)) × Str × Int) → Option ((Unit) ⊕ (Int))) : ((List (Str × Int × Int × Int × Int × Int × Int × Str)) × Str × Int) → Option ((Unit) ⊕ (Int)) := fun (list1, name1, i) =>
 (bif (decide (i < (list1.length : Int))) then (need (decide (0 ≤ i) && decide (i < list1.length)) (bif ((list1.getD i.toNat ([], 0, 0, 0, 0, 0, 0, [])).1 == name1) then ((some i).map Sum.inr) else
 (again (list1, name1, (w64 (i + 1)))))) else
 (some (.inl ())))
def l7At.l0 : Nat → ((List (Str × Int × Int × Int × Int × Int × Int × Str)) × Str × Int) → Option ((Unit) ⊕ (Int)) := loopN (l7At.l0.step)
theorem l7At.l0.succ (n : Nat) (t : ((List (Str × Int × Int × Int × Int × Int × Int × Str)) × Str × Int)) : l7At.l0 (n + 1) t = l7At.l0.step (l7At.l0 n) t := rfl
def l7At (list : List (Str × Int × Int × Int × Int × Int × Int × Str)) (name : Str) : Option (Int) :=
 ((l7At.l0 (((list.length : Int) - (0 : Int)).toNat + 1) (list, name, 0)).bind fun r => match r with
 | .inl _ => (some (-1))
 | .inr r => some r)
def specZipOk.l0.step (again : ((List (Str × Int × Int × Int × Int × Int × Int × Str)) × Int × Int) → Option (((List (Str × Int × Int × Int × Int × Int × Int × Str)) × Int) ⊕ ((List (Str × Int × Int × Int × Int × Int × Int × Str)) ⊕ (Bool)))) : ((List (Str × Int × Int × Int × Int × Int × Int × Str)) × Int × Int) → Option (((List (Str × Int × Int × Int × Int × Int × Int × Str)) × Int) ⊕ ((List (Str × Int × Int × Int × Int × Int × Int × Str)) ⊕ (Bool))) := fun (list2, i1, k) =>
 (bif (decide (k < (list2.length : Int))) then (need (decide (0 ≤ i1) && decide (i1 < list2.length)) (need (decide (0 ≤ k) && decide (k < list2.length)) ((l7Under ((list2.getD i1.toNat ([], 0, 0, 0, 0, 0, 0, [])).1) ((list2.getD k.toNat ([], 0, 0, 0, 0, 0, 0, [])).1)).bind fun l7Under_ =>
 (bif l7Under_ then (((some false).map Sum.inr).map Sum.inr) else
 (again (list2, i1, (w64 (k + 1)))))))) else
 (some (.inl (list2, i1))))
def specZipOk.l0 : Nat → ((List (Str × Int × Int × Int × Int × Int × Int × Str)) × Int × Int) → Option (((List (Str × Int × Int × Int × Int × Int × Int × Str)) × Int) ⊕ ((List (Str × Int × Int × Int × Int × Int × Int × Str)) ⊕ (Bool))) := loopN (specZipOk.l0.step)
theorem specZipOk.l0.succ (n : Nat) (t : ((List (Str × Int × Int × Int × Int × Int × Int × Str)) × Int × Int)) : specZipOk.l0 (n + 1) t = specZipOk.l0.step (specZipOk.l0 n) t := rfl
def specZipOk.l1.step (again : ((List (Str × Int × Int × Int × Int × Int × Int × Str)) × Int) → Option ((List (Str × Int × Int × Int × Int × Int × Int × Str)) ⊕ (Bool))) : ((List (Str × Int × Int × Int × Int × Int × Int × Str)) × Int) → Option ((List (Str × Int × Int × Int × Int × Int × Int × Str)) ⊕ (Bool)) := fun (list1, i) =>
 (bif (decide (i < (list1.length : Int))) then ((need (decide (0 ≤ i) && decide (i < list1.length)) ((specEntryOk ((list1.getD i.toNat ([], 0, 0, 0, 0, 0, 0, [])).1) ((list1.getD i.toNat ([], 0, 0, 0, 0, 0, 0, [])).2.1) ((list1.getD i.toNat ([], 0, 0, 0, 0, 0, 0, [])).2.2.1) ((list1.getD i.toNat ([], 0, 0, 0, 0, 0, 0, [])).2.2.2.1) ((list1.getD i.toNat ([], 0, 0, 0, 0, 0, 0, [])).2.2.2.2.1) ((list1.getD i.toNat ([], 0, 0, 0, 0, 0, 0, [])).2.2.2.2.2.1) ((list1.getD i.toNat ([], 0, 0, 0, 0, 0, 0, [])).2.2.2.2.2.2.1) ((list1.getD i.toNat ([], 0, 0, 0, 0, 0, 0, [])).2.2.2.2.2.2.2)).bind fun EntryOk =>
 (bif (!EntryOk) then (some true) else
 (need (decide (0 ≤ i) && decide (i < list1.length)) ((l7At list1 ((list1.getD i.toNat ([], 0, 0, 0, 0, 0, 0, [])).1)).bind fun l7At_ =>
 (some (l7At_ != i))))))).bind fun c =>
 (bif c then ((some false).map Sum.inr) else
 ((specZipOk.l0 (((list1.length : Int) - (0 : Int)).toNat + 1) (list1, i, 0)).bind fun r => match r with
 | .inl (list3, i2) => (again (list3, (w64 (i2 + 1))))
 | .inr r => some r))) else
 (some (.inl list1)))
def specZipOk.l1 : Nat → ((List (Str × Int × Int × Int × Int × Int × Int × Str)) × Int) → Option ((List (Str × Int × Int × Int × Int × Int × Int × Str)) ⊕ (Bool)) := loopN (specZipOk.l1.step)
theorem specZipOk.l1.succ (n : Nat) (t : ((List (Str × Int × Int × Int × Int × Int × Int × Str)) × Int)) : specZipOk.l1 (n + 1) t = specZipOk.l1.step (specZipOk.l1 n) t := rfl
def specZipOk (list : List (Str × Int × Int × Int × Int × Int × Int × Str)) : Option (Bool) :=
 ((specZipOk.l1 (((list.length : Int) - (0 : Int)).toNat + 1) (list, 0)).bind fun r => match r with
 | .inl list4 => (some (decide ((list4.length : Int) ≤ 6)))
 | .inr r => some r)
def l7End (many : Int) (long : Int) (at_ : Int) : Option (Str) :=
 ((l6Bytes 101010256 4).bind fun l6Bytes_ =>
 ((l6Bytes 0 2).bind fun l6Bytes_1 =>
 (need (fits (l6Bytes_.length + l6Bytes_1.length)) ((l6Bytes 0 2).bind fun l6Bytes_2 =>
 (need (fits ((l6Bytes_ ++ l6Bytes_1).length + l6Bytes_2.length)) ((l6Bytes many 2).bind fun l6Bytes_3 =>
 (need (fits (((l6Bytes_ ++ l6Bytes_1) ++ l6Bytes_2).length + l6Bytes_3.length)) ((l6Bytes many 2).bind fun l6Bytes_4 =>
 (need (fits ((((l6Bytes_ ++ l6Bytes_1) ++ l6Bytes_2) ++ l6Bytes_3).length + l6Bytes_4.length)) ((l6Bytes long 4).bind fun l6Bytes_5 =>
 (need (fits (((((l6Bytes_ ++ l6Bytes_1) ++ l6Bytes_2) ++ l6Bytes_3) ++ l6Bytes_4).length + l6Bytes_5.length)) ((l6Bytes at_ 4).bind fun l6Bytes_6 =>
 (need (fits ((((((l6Bytes_ ++ l6Bytes_1) ++ l6Bytes_2) ++ l6Bytes_3) ++ l6Bytes_4) ++ l6Bytes_5).length + l6Bytes_6.length)) ((l6Bytes 0 2).bind fun l6Bytes_7 =>
 (need (fits (((((((l6Bytes_ ++ l6Bytes_1) ++ l6Bytes_2) ++ l6Bytes_3) ++ l6Bytes_4) ++ l6Bytes_5) ++ l6Bytes_6).length + l6Bytes_7.length)) (some (((((((l6Bytes_ ++ l6Bytes_1) ++ l6Bytes_2) ++ l6Bytes_3) ++ l6Bytes_4) ++ l6Bytes_5) ++ l6Bytes_6) ++ l6Bytes_7)))))))))))))))))
def l7Get.l0.step (again : (Str × Int × Int × Int × List (Str × Int × Int × Int × Int × Int × Int × Str)) → Option ((Int × List (Str × Int × Int × Int × Int × Int × Int × Str)) ⊕ (Int × Bool × List (Str × Int × Int × Int × Int × Int × Int × Str)))) : (Str × Int × Int × Int × List (Str × Int × Int × Int × Int × Int × Int × Str)) → Option ((Int × List (Str × Int × Int × Int × Int × Int × Int × Str)) ⊕ (Int × Bool × List (Str × Int × Int × Int × Int × Int × Int × Str))) := fun (text1, many1, at_, i, out) =>
 (bif (decide (i < many1)) then (need (decide (0 ≤ at_) && decide (at_ ≤ text1.length)) ((l6Read (text1.drop at_.toNat)).bind fun (r, r1, r2, r3, r4, r5, r6, r7, r8, r9) =>
 (bif (!r9) then ((some (at_, false, out)).map Sum.inr) else
 (need (fits (out.length + ([(r, r1, r2, r3, r4, r5, r6, r7)] : List (Str × Int × Int × Int × Int × Int × Int × Str)).length)) (again (text1, many1, (w64 (at_ + r8)), (w64 (i + 1)), (out ++ [(r, r1, r2, r3, r4, r5, r6, r7)]))))))) else
 (some (.inl (at_, out))))
def l7Get.l0 : Nat → (Str × Int × Int × Int × List (Str × Int × Int × Int × Int × Int × Int × Str)) → Option ((Int × List (Str × Int × Int × Int × Int × Int × Int × Str)) ⊕ (Int × Bool × List (Str × Int × Int × Int × Int × Int × Int × Str))) := loopN (l7Get.l0.step)
theorem l7Get.l0.succ (n : Nat) (t : (Str × Int × Int × Int × List (Str × Int × Int × Int × Int × Int × Int × Str))) : l7Get.l0 (n + 1) t = l7Get.l0.step (l7Get.l0 n) t := rfl
def l7Get (text : Str) (many : Int) : Option (Int × Bool × List (Str × Int × Int × Int × Int × Int × Int × Str)) :=
 ((l7Get.l0 ((many - (0 : Int)).toNat + 1) (text, many, 0, 0, [])).bind fun r => match r with
 | .inl (at_1, out1) => (some (at_1, true, out1))
 | .inr r => some r)
def l7Head (text : Str) (head : Int) (at_ : Int) : Option (Int × Bool) :=
 ((l6Num text (w64 (head + 28)) 2).bind fun l6Num_ =>
 ((bif (decide (l6Num_ < 0)) then (some true) else
 (bif (decide ((w64 (head + (w64 (46 + l6Num_)))) > (text.length : Int))) then (some true) else
 (some (decide ((w64 ((w64 (at_ + 30)) + l6Num_)) > (text.length : Int)))))).bind fun c =>
 (bif c then (some (0, false)) else
 ((need (decide (0 ≤ (w64 (head + 32))) && decide ((w64 (head + 32)) ≤ text.length)) (need (decide (0 ≤ (w64 (head + 6))) && decide ((w64 (head + 6)) ≤ (w64 (head + 32)))) (need (decide (0 ≤ (w64 (at_ + 30))) && decide ((w64 (at_ + 30)) ≤ text.length)) (need (decide (0 ≤ (w64 (at_ + 4))) && decide ((w64 (at_ + 4)) ≤ (w64 (at_ + 30)))) (bif (((text.take (w64 (head + 32)).toNat).drop (w64 (head + 6)).toNat) == ((text.take (w64 (at_ + 30)).toNat).drop (w64 (at_ + 4)).toNat)) then (need (decide (0 ≤ (w64 (head + (w64 (46 + l6Num_))))) && decide ((w64 (head + (w64 (46 + l6Num_)))) ≤ text.length)) (need (decide (0 ≤ (w64 (head + 46))) && decide ((w64 (head + 46)) ≤ (w64 (head + (w64 (46 + l6Num_)))))) (need (decide (0 ≤ (w64 ((w64 (at_ + 30)) + l6Num_))) && decide ((w64 ((w64 (at_ + 30)) + l6Num_)) ≤ text.length)) (need (decide (0 ≤ (w64 (at_ + 30))) && decide ((w64 (at_ + 30)) ≤ (w64 ((w64 (at_ + 30)) + l6Num_)))) (some (((text.take (w64 (head + (w64 (46 + l6Num_)))).toNat).drop (w64 (head + 46)).toNat) == ((text.take (w64 ((w64 (at_ + 30)) + l6Num_)).toNat).drop (w64 (at_ + 30)).toNat))))))) else
 (some false)))))).bind fun same =>
 ((need (decide (0 ≤ (w64 (head + 6))) && decide ((w64 (head + 6)) ≤ text.length)) (need (decide (0 ≤ head) && decide (head ≤ (w64 (head + 6)))) ((l6Bytes 33639248 4).bind fun l6Bytes_ =>
 ((l6Bytes 20 2).bind fun l6Bytes_1 =>
 (need (fits (l6Bytes_.length + l6Bytes_1.length)) (bif (((text.take (w64 (head + 6)).toNat).drop head.toNat) == (l6Bytes_ ++ l6Bytes_1)) then (need (decide (0 ≤ (w64 (head + 46))) && decide ((w64 (head + 46)) ≤ text.length)) (need (decide (0 ≤ (w64 (head + 32))) && decide ((w64 (head + 32)) ≤ (w64 (head + 46)))) ((l6Bytes 0 10).bind fun l6Bytes_2 =>
 ((l6Bytes at_ 4).bind fun l6Bytes_3 =>
 (need (fits (l6Bytes_2.length + l6Bytes_3.length)) (some (((text.take (w64 (head + 46)).toNat).drop (w64 (head + 32)).toNat) == (l6Bytes_2 ++ l6Bytes_3)))))))) else
 (some false))))))).bind fun rest =>
 ((bif same then (some ((w64 (46 + l6Num_)), rest)) else
 (some ((w64 (46 + l6Num_)), false))).bind fun (c1, c2) =>
 (some (c1, c2))))))))
def specZipGet.l0.step (again : (Str × Int × Int × Int × Int × Int × List (Str × Int × Int × Int × Int × Int × Int × Str)) → Option ((Str × Int × Int × Int × List (Str × Int × Int × Int × Int × Int × Int × Str)) ⊕ (Bool × List (Str × Int × Int × Int × Int × Int × Int × Str)))) : (Str × Int × Int × Int × Int × Int × List (Str × Int × Int × Int × Int × Int × Int × Str)) → Option ((Str × Int × Int × Int × List (Str × Int × Int × Int × Int × Int × Int × Str)) ⊕ (Bool × List (Str × Int × Int × Int × Int × Int × Int × Str))) := fun (text1, many, at_, head, own, i, list) =>
 (bif (decide (i < many)) then ((l7Head text1 head own).bind fun (r3, r4) =>
 (bif (!r4) then ((some (false, [])).map Sum.inr) else
 (need (decide (0 ≤ own) && decide (own ≤ text1.length)) ((l6Read (text1.drop own.toNat)).bind fun (r5, r6, r7, r8, r9, r10, r11, r12, r13, r14) =>
 (again (text1, many, at_, (w64 (head + r3)), (w64 (own + r13)), (w64 (i + 1)), list)))))) else
 (some (.inl (text1, many, at_, head, list))))
def specZipGet.l0 : Nat → (Str × Int × Int × Int × Int × Int × List (Str × Int × Int × Int × Int × Int × Int × Str)) → Option ((Str × Int × Int × Int × List (Str × Int × Int × Int × Int × Int × Int × Str)) ⊕ (Bool × List (Str × Int × Int × Int × Int × Int × Int × Str))) := loopN (specZipGet.l0.step)
theorem specZipGet.l0.succ (n : Nat) (t : (Str × Int × Int × Int × Int × Int × List (Str × Int × Int × Int × Int × Int × Int × Str))) : specZipGet.l0 (n + 1) t = specZipGet.l0.step (specZipGet.l0 n) t := rfl
def specZipGet (text : Str) : Option (Bool × List (Str × Int × Int × Int × Int × Int × Int × Str)) :=
 ((l6Num text (w64 ((text.length : Int) - 12)) 2).bind fun l6Num_ =>
 ((l1In l6Num_ 0 6).bind fun l1In_ =>
 (bif (!l1In_) then (some (false, [])) else
 ((l7Get text l6Num_).bind fun (r, r1, r2) =>
 ((bif (!r1) then (some true) else
 ((specZipOk r2).bind fun ZipOk =>
 (some (!ZipOk)))).bind fun c =>
 (bif c then (some (false, [])) else
 ((specZipGet.l0 ((l6Num_ - (0 : Int)).toNat + 1) (text, l6Num_, r, r, 0, 0, r2)).bind fun r => match r with
 | .inl (text2, many1, at_1, head1, list1) => (need (decide (0 ≤ head1) && decide (head1 ≤ text2.length)) ((l7End many1 (w64 (head1 - at_1)) at_1).bind fun l7End_ =>
 (bif (!((text2.drop head1.toNat) == l7End_)) then (some (false, [])) else
 (some (true, list1)))))
 | .inr r => some r)))))))
def l9Zip (text : Str) : Option (Bool) :=
 ((specZipGet text).bind fun (r, r1) =>
 (some r))
def specDiskOk (text : Str) (log : Str) : Option (Bool) :=
 (((l9Zip text).bind fun l9Zip_ =>
 (bif l9Zip_ then (some (log == [])) else
 (some false))).bind fun c =>
 (some c))
def pick (n : Int) (b : List Int) (p : Int) : Option (Int × List Int × Int) :=
 ((bif (decide (n < 1)) then (some true) else
 (some ((b.length : Int) == 0))).bind fun c =>
 (bif c then (some (0, b, (w64 (p + 1)))) else
 (bif (decide ((w64 ((w64 (p + 1)) - 1)) < (b.length : Int))) then (need (decide (0 ≤ (w64 ((w64 (p + 1)) - 1))) && decide ((w64 ((w64 (p + 1)) - 1)) < b.length)) (need (n != 0) (some (((w64 (b.getD (w64 ((w64 (p + 1)) - 1)).toNat 0)).tmod n), b, (w64 (p + 1)))))) else
 (need ((b.length : Int) != 0) (need (decide (0 ≤ ((w64 ((w64 (p + 1)) - 1)).tmod (b.length : Int))) && decide (((w64 ((w64 (p + 1)) - 1)).tmod (b.length : Int)) < b.length)) (need ((b.length : Int) != 0) (need (decide (0 ≤ ((w64 ((w64 ((w64 ((w64 (p + 1)) - 1)) * 7)) + 3)).tmod (b.length : Int))) && decide (((w64 ((w64 ((w64 ((w64 (p + 1)) - 1)) * 7)) + 3)).tmod (b.length : Int)) < b.length)) (need ((b.length : Int) != 0) (need (n != 0) (some (((ixor .i64 (w64 ((w64 ((w64 ((w64 ((w64 (b.getD ((w64 ((w64 (p + 1)) - 1)).tmod (b.length : Int)).toNat 0)) * 131)) + (w64 ((w64 (b.getD ((w64 ((w64 ((w64 ((w64 (p + 1)) - 1)) * 7)) + 3)).tmod (b.length : Int)).toNat 0)) * 1117)))) + (w64 ((w64 ((w64 (p + 1)) - 1)) * 29)))) + (w64 ((w64 ((w64 ((w64 (p + 1)) - 1)).tdiv (b.length : Int))) * 53)))) (w64 ((w64 ((w64 ((w64 ((w64 ((w64 (b.getD ((w64 ((w64 (p + 1)) - 1)).tmod (b.length : Int)).toNat 0)) * 131)) + (w64 ((w64 (b.getD ((w64 ((w64 ((w64 ((w64 (p + 1)) - 1)) * 7)) + 3)).tmod (b.length : Int)).toNat 0)) * 1117)))) + (w64 ((w64 ((w64 (p + 1)) - 1)) * 29)))) + (w64 ((w64 ((w64 ((w64 (p + 1)) - 1)).tdiv (b.length : Int))) * 53)))).tdiv 64))).tmod n), b, (w64 (p + 1)))))))))))))
def szDisk (text : Str) (log : Str) (n : Int) : Option (Int) :=
 (bif (decide ((w64 (n - (text.length : Int))) < 0)) then (some (-1)) else
 (bif (decide ((w64 ((w64 (n - (text.length : Int))) - (log.length : Int))) < 0)) then (some (-1)) else
 (some (w64 ((w64 (n - (text.length : Int))) - (log.length : Int))))))
def toDisk (text : Str) (log : Str) : Option (Str × Str) :=
 (some (text, log))
def eqDisk (text : Str) (log : Str) (text1 : Str) (log1 : Str) : Option (Bool) :=
 (bif (!(text == text1)) then (some false) else
 (bif (!(log == log1)) then (some false) else
 (some true)))
def diskTear (dtext : Str) (dlog : Str) (text : Str) (bytes : Int) : Option (Str × Str) :=
 (((diskOk dtext dlog).bind fun DiskOk =>
 (bif (!DiskOk) then (some true) else
 ((archive text).bind fun archive_ =>
 (some (!archive_))))).bind fun c =>
 (bif c then (some ([], [])) else
 ((itoa (text.length : Int)).bind fun Itoa =>
 (need (fits (Itoa.length + ([10] : Str).length)) (need (fits ((Itoa ++ [10]).length + text.length)) (need (decide (0 ≤ (minA (maxA bytes 0) (((Itoa ++ [10]) ++ text).length : Int))) && decide ((minA (maxA bytes 0) (((Itoa ++ [10]) ++ text).length : Int)) ≤ ((Itoa ++ [10]) ++ text).length)) (some (dtext, (((Itoa ++ [10]) ++ text).take (minA (maxA bytes 0) (((Itoa ++ [10]) ++ text).length : Int)).toNat)))))))))
def diskRise (text : Str) (log : Str) : Option (Str × Str × Bool) :=
 (orElse (cutNl log) (fun (r, r1, r2) =>
 (((itoa (r1.length : Int)).bind fun Itoa =>
 (bif (r == Itoa) then ((archive r1).bind fun archive_ =>
 (some archive_)) else
 (some false))).bind fun c =>
 (bif c then (some (r1, [], true)) else
 ((archive text).bind fun archive_1 =>
 (bif archive_1 then (some (text, [], true)) else
 (some ([], [], false))))))) none)
def l1Num.l0.step (again : (Str × Int × Int) → Option ((Str × Int) ⊕ (Int))) : (Str × Int × Int) → Option ((Str × Int) ⊕ (Int)) := fun (s1, n, i) =>
 (bif (decide (i < (s1.length : Int))) then ((need (decide (0 ≤ i) && decide (i < s1.length)) (bif (decide (((s1.getD i.toNat 0).toNat : Int) < 48)) then (some true) else
 (need (decide (0 ≤ i) && decide (i < s1.length)) (bif (decide (((s1.getD i.toNat 0).toNat : Int) > 57)) then (some true) else
 (some (decide (i ≥ 6))))))).bind fun c =>
 (bif c then ((some (-1)).map Sum.inr) else
 (need (decide (0 ≤ i) && decide (i < s1.length)) (again (s1, (w64 ((w64 (n * 10)) + (w64 (IntKind.wrap .u8 (((s1.getD i.toNat 0).toNat : Int) - 48))))), (w64 (i + 1))))))) else
 (some (.inl (s1, n))))
def l1Num.l0 : Nat → (Str × Int × Int) → Option ((Str × Int) ⊕ (Int)) := loopN (l1Num.l0.step)
theorem l1Num.l0.succ (n : Nat) (t : (Str × Int × Int)) : l1Num.l0 (n + 1) t = l1Num.l0.step (l1Num.l0 n) t := rfl
def l1Num (s : Str) : Option (Int) :=
 ((l1Num.l0 (((s.length : Int) - (0 : Int)).toNat + 1) (s, 0, 0)).bind fun r => match r with
 | .inl (s2, n1) => ((bif ((s2.length : Int) == 0) then (some true) else
 (bif (decide ((s2.length : Int) > 1)) then (need (decide (0 ≤ (0 : Int)) && decide ((0 : Int) < s2.length)) (some (((s2.getD 0 0).toNat : Int) == 48))) else
 (some false))).bind fun c1 =>
 (bif c1 then (some (-1)) else
 (some n1)))
 | .inr r => some r)
def l9Log (text : Str) : Option (Str) :=
 ((l1Dec (text.length : Int)).bind fun l1Dec_ =>
 (need (fits (l1Dec_.length + ([10] : Str).length)) (need (fits ((l1Dec_ ++ [10]).length + text.length)) (some ((l1Dec_ ++ [10]) ++ text)))))
def specDiskTear (dtext : Str) (dlog : Str) (text : Str) (bytes : Int) : Option (Str × Str) :=
 (((specDiskOk dtext dlog).bind fun DiskOk =>
 (bif (!DiskOk) then (some true) else
 ((l9Zip text).bind fun l9Zip_ =>
 (some (!l9Zip_))))).bind fun c =>
 (bif c then (some ([], [])) else
 ((l9Log text).bind fun l9Log_ =>
 (((bif (decide (bytes < 0)) then (some (0, l9Log_, dtext, dlog, [], [])) else
 (some (bytes, l9Log_, dtext, dlog, [], []))) : Option (Int × Str × Str × Str × Str × Str)).bind fun (bytes1, s, o, o1, o2, o3) =>
 (bif (decide (bytes1 > (s.length : Int))) then (need (decide (0 ≤ (s.length : Int)) && decide ((s.length : Int) ≤ s.length)) (some (o, (s.take (s.length : Int).toNat)))) else
 (need (decide (0 ≤ bytes1) && decide (bytes1 ≤ s.length)) (some (o, (s.take bytes1.toNat)))))))))
def specDiskRise (text : Str) (log : Str) : Option (Str × Str × Bool) :=
 ((l1Cut log 10 1).bind fun l1Cut_ =>
 ((bif (decide ((l1Cut_.length : Int) > 1)) then (need (decide (0 ≤ (0 : Int)) && decide ((0 : Int) < l1Cut_.length)) ((l1Num (l1Cut_.getD 0 [])).bind fun l1Num_ =>
 (need (decide (0 ≤ (1 : Int)) && decide ((1 : Int) < l1Cut_.length)) (bif (l1Num_ == ((l1Cut_.getD 1 []).length : Int)) then (need (decide (0 ≤ (1 : Int)) && decide ((1 : Int) < l1Cut_.length)) ((l9Zip (l1Cut_.getD 1 [])).bind fun l9Zip_ =>
 (some l9Zip_))) else
 (some false))))) else
 (some false)).bind fun c =>
 (bif c then (need (decide (0 ≤ (1 : Int)) && decide ((1 : Int) < l1Cut_.length)) (some ((l1Cut_.getD 1 []), [], true))) else
 ((l9Zip text).bind fun l9Zip_1 =>
 (bif (!l9Zip_1) then (some ([], [], false)) else
 (some (text, [], true)))))))
def FnExactDiskTear (dtext : Str) (dlog : Str) (text : Str) (bytes : Int) : Option (Bool) :=
 (bif (decide ((text.length : Int) > 1048576)) then (some true) else
 ((szDisk dtext dlog 1048576).bind fun szDisk_ =>
 (bif (decide (szDisk_ < 0)) then (some true) else
 ((toDisk dtext dlog).bind fun (r, r1) =>
 ((specDiskTear r r1 text bytes).bind fun (r2, r3) =>
 ((toDisk dtext dlog).bind fun (r4, r5) =>
 ((diskTear r4 r5 text bytes).bind fun (r6, r7) =>
 ((eqDisk r6 r7 r2 r3).bind fun eqDisk_ =>
 (bif (!eqDisk_) then (some false) else
 (some true))))))))))
def FnExactDiskRise (text : Str) (log : Str) : Option (Bool) :=
 ((szDisk text log 1048576).bind fun szDisk_ =>
 (bif (decide (szDisk_ < 0)) then (some true) else
 ((toDisk text log).bind fun (r, r1) =>
 ((specDiskRise r r1).bind fun (r2, r3, r4) =>
 ((toDisk text log).bind fun (r5, r6) =>
 ((diskRise r5 r6).bind fun (r7, r8, r9) =>
 (((eqDisk r7 r8 r2 r3).bind fun eqDisk_ =>
 (bif (!eqDisk_) then (some true) else
 (some (!(r9 == r4))))).bind fun c =>
 (bif c then (some false) else
 (some true)))))))))
end Ev
end
