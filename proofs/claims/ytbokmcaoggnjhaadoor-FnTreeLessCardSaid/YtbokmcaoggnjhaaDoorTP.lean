/- What each function of the program computes, as a plain function (printed by a program of this work out of the program's form). Conditions: none. -/
import Derived.Test.YtbokmcaoggnjhaaDoorEvLib
open Go
set_option maxRecDepth 100000
namespace Ev
set_option maxHeartbeats 1000000
set_option linter.unusedVariables false
def within (n : Int) (low : Int) (high : Int) : Option (Bool) :=
 ((bif (decide (n ≥ low)) then (some (decide (n ≤ high))) else
 (some false)).bind fun c =>
 (some c))


def partOk.l0.step (again : (Str × Int × Int) → Option ((Str) ⊕ (Bool))) : (Str × Int × Int) → Option ((Str) ⊕ (Bool)) := fun (s1, t, t1) =>
 (bif (decide (t1 < t)) then (need (decide (0 ≤ t1) && decide (t1 < s1.length)) ((bif (decide (((s1.getD t1.toNat 0).toNat : Int) < 97)) then (bif (decide (((s1.getD t1.toNat 0).toNat : Int) < 48)) then (bif (((s1.getD t1.toNat 0).toNat : Int) != 46) then (bif (((s1.getD t1.toNat 0).toNat : Int) != 45) then (some (((s1.getD t1.toNat 0).toNat : Int) != 95)) else
 (some false)) else
 (some false)) else
 (bif (decide (((s1.getD t1.toNat 0).toNat : Int) > 57)) then (bif (((s1.getD t1.toNat 0).toNat : Int) != 46) then (bif (((s1.getD t1.toNat 0).toNat : Int) != 45) then (some (((s1.getD t1.toNat 0).toNat : Int) != 95)) else
 (some false)) else
 (some false)) else
 (some false))) else
 (bif (decide (((s1.getD t1.toNat 0).toNat : Int) > 122)) then (bif (decide (((s1.getD t1.toNat 0).toNat : Int) < 48)) then (bif (((s1.getD t1.toNat 0).toNat : Int) != 46) then (bif (((s1.getD t1.toNat 0).toNat : Int) != 45) then (some (((s1.getD t1.toNat 0).toNat : Int) != 95)) else
 (some false)) else
 (some false)) else
 (bif (decide (((s1.getD t1.toNat 0).toNat : Int) > 57)) then (bif (((s1.getD t1.toNat 0).toNat : Int) != 46) then (bif (((s1.getD t1.toNat 0).toNat : Int) != 45) then (some (((s1.getD t1.toNat 0).toNat : Int) != 95)) else
 (some false)) else
 (some false)) else
 (some false))) else
 (some false))).bind fun c =>
 (bif c then ((some false).map Sum.inr) else
 (again (s1, t, (w64 (t1 + 1))))))) else
 (some (.inl s1)))
def partOk.l0 : Nat → (Str × Int × Int) → Option ((Str) ⊕ (Bool)) := loopN (partOk.l0.step)
theorem partOk.l0.succ (n : Nat) (t : (Str × Int × Int)) : partOk.l0 (n + 1) t = partOk.l0.step (partOk.l0 n) t := rfl

def partOk (s : Str) : Option (Bool) :=
 ((partOk.l0 (((s.length : Int) - (0 : Int)).toNat + 1) (s, (s.length : Int), 0)).bind fun r => match r with
 | .inl s2 => (((within (s2.length : Int) 1 10).bind fun within_ =>
 (bif within_ then (bif (!(s2 == [46])) then (some (!(s2 == [46, 46]))) else
 (some false)) else
 (some false))).bind fun c1 =>
 (some c1))
 | .inr r => some r)


def l1In (n : Int) (low : Int) (high : Int) : Option (Bool) :=
 ((bif (decide (n ≥ low)) then (some (decide (n ≤ high))) else
 (some false)).bind fun c =>
 (some c))


def l1Cut.l0.step (again : (Str × Int × Int × Int × Int × List Str) → Option (Str × Int × List Str)) : (Str × Int × Int × Int × Int × List Str) → Option (Str × Int × List Str) := fun (s1, b1, most1, from_, i, out) =>
 ((bif (decide (i < (s1.length : Int))) then (some (decide ((out.length : Int) < most1))) else
 (some false)).bind fun c =>
 (bif c then (need (decide (0 ≤ i) && decide (i < s1.length)) (bif (((s1.getD i.toNat 0).toNat : Int) == b1) then (need (decide (0 ≤ i) && decide (i ≤ s1.length)) (need (decide (0 ≤ from_) && decide (from_ ≤ i)) (need (fits (out.length + ([((s1.take i.toNat).drop from_.toNat)] : List (Str)).length)) (again (s1, b1, most1, (w64 (i + 1)), (w64 (i + 1)), (out ++ [((s1.take i.toNat).drop from_.toNat)])))))) else
 (again (s1, b1, most1, from_, (w64 (i + 1)), out)))) else
 (some (s1, from_, out))))
def l1Cut.l0 : Nat → (Str × Int × Int × Int × Int × List Str) → Option (Str × Int × List Str) := loopN (l1Cut.l0.step)
theorem l1Cut.l0.succ (n : Nat) (t : (Str × Int × Int × Int × Int × List Str)) : l1Cut.l0 (n + 1) t = l1Cut.l0.step (l1Cut.l0 n) t := rfl

def l1Cut (s : Str) (b : Int) (most : Int) : Option (List Str) :=
 ((l1Cut.l0 (((s.length : Int) - (0 : Int)).toNat + 1) (s, b, most, 0, 0, [])).bind fun (s2, from_1, out1) =>
 (need (decide (0 ≤ from_1) && decide (from_1 ≤ s2.length)) (need (fits (out1.length + ([(s2.drop from_1.toNat)] : List (Str)).length)) (some (out1 ++ [(s2.drop from_1.toNat)])))))


def szFile (path : Str) (text : Str) (n : Int) : Option (Int) :=
 (bif (decide ((w64 (n - (path.length : Int))) < 0)) then (some (-1)) else
 (bif (decide ((w64 ((w64 (n - (path.length : Int))) - (text.length : Int))) < 0)) then (some (-1)) else
 (some (w64 ((w64 (n - (path.length : Int))) - (text.length : Int))))))


def szFileS.l0.step (again : ((List (Str × Str)) × Int × Int) → Option ((Int) ⊕ (Int))) : ((List (Str × Str)) × Int × Int) → Option ((Int) ⊕ (Int)) := fun (a, left, i) =>
 (bif (decide (i < (a.length : Int))) then (need (decide (0 ≤ i) && decide (i < a.length)) ((szFile ((a.getD i.toNat ([], [])).1) ((a.getD i.toNat ([], [])).2) left).bind fun szFile_ =>
 (bif (decide (szFile_ < 0)) then ((some (-1)).map Sum.inr) else
 (again (a, szFile_, (w64 (i + 1))))))) else
 (some (.inl left)))
def szFileS.l0 : Nat → ((List (Str × Str)) × Int × Int) → Option ((Int) ⊕ (Int)) := loopN (szFileS.l0.step)
theorem szFileS.l0.succ (n : Nat) (t : ((List (Str × Str)) × Int × Int)) : szFileS.l0 (n + 1) t = szFileS.l0.step (szFileS.l0 n) t := rfl

def szFileS (xs : List (Str × Str)) (n : Int) : Option (Int) :=
 (bif (decide ((w64 (n - (xs.length : Int))) < 0)) then (some (-1)) else
 ((szFileS.l0 (((xs.length : Int) - (0 : Int)).toNat + 1) (xs, (w64 (n - (xs.length : Int))), 0)).bind fun r => match r with
 | .inl left1 => (some left1)
 | .inr r => some r))


def toFile (path : Str) (text : Str) : Option (Str × Str) :=
 (some (path, text))


def toFileS.l0.step (again : ((List (Str × Str)) × Int × List (Str × Str)) → Option (List (Str × Str))) : ((List (Str × Str)) × Int × List (Str × Str)) → Option (List (Str × Str)) := fun (a, i, out) =>
 (bif (decide (i < (a.length : Int))) then (need (decide (0 ≤ i) && decide (i < a.length)) ((toFile ((a.getD i.toNat ([], [])).1) ((a.getD i.toNat ([], [])).2)).bind fun (r, r1) =>
 (need (decide (0 ≤ i) && decide (i < out.length)) (again (a, (w64 (i + 1)), (out.set i.toNat (r, r1))))))) else
 (some out))
def toFileS.l0 : Nat → ((List (Str × Str)) × Int × List (Str × Str)) → Option (List (Str × Str)) := loopN (toFileS.l0.step)
theorem toFileS.l0.succ (n : Nat) (t : ((List (Str × Str)) × Int × List (Str × Str))) : toFileS.l0 (n + 1) t = toFileS.l0.step (toFileS.l0 n) t := rfl

def toFileS (xs : List (Str × Str)) : Option (List (Str × Str)) :=
 (need (decide (0 ≤ (xs.length : Int)) && fits (xs.length : Int).toNat) ((toFileS.l0 (((xs.length : Int) - (0 : Int)).toNat + 1) (xs, 0, (List.replicate (xs.length : Int).toNat (([], []) : Str × Str)))).bind fun out1 =>
 (some out1)))


def eqFile (p : Str) (t : Str) (q : Str) (u : Str) : Option (Bool) :=
 (bif (!(p == q)) then (some false) else
 (bif (!(t == u)) then (some false) else
 (some true)))


def eqFileS.l0.step (again : ((List (Str × Str)) × (List (Str × Str)) × Int) → Option ((Unit) ⊕ (Bool))) : ((List (Str × Str)) × (List (Str × Str)) × Int) → Option ((Unit) ⊕ (Bool)) := fun (a, b, i) =>
 (bif (decide (i < (a.length : Int))) then (need (decide (0 ≤ i) && decide (i < a.length)) (need (decide (0 ≤ i) && decide (i < b.length)) ((eqFile ((a.getD i.toNat ([], [])).1) ((a.getD i.toNat ([], [])).2) ((b.getD i.toNat ([], [])).1) ((b.getD i.toNat ([], [])).2)).bind fun eqFile_ =>
 (bif (!eqFile_) then ((some false).map Sum.inr) else
 (again (a, b, (w64 (i + 1)))))))) else
 (some (.inl ())))
def eqFileS.l0 : Nat → ((List (Str × Str)) × (List (Str × Str)) × Int) → Option ((Unit) ⊕ (Bool)) := loopN (eqFileS.l0.step)
theorem eqFileS.l0.succ (n : Nat) (t : ((List (Str × Str)) × (List (Str × Str)) × Int)) : eqFileS.l0 (n + 1) t = eqFileS.l0.step (eqFileS.l0 n) t := rfl

def eqFileS (xs : List (Str × Str)) (ys : List (Str × Str)) : Option (Bool) :=
 (bif ((xs.length : Int) != (ys.length : Int)) then (some false) else
 ((eqFileS.l0 (((xs.length : Int) - (0 : Int)).toNat + 1) (xs, ys, 0)).bind fun r => match r with
 | .inl _ => (some true)
 | .inr r => some r))


def specNameOk.l0.step (again : (Int × Str × Int × List Str) → Option ((Int × Str × List Str) ⊕ ((List Str) ⊕ (Bool)))) : (Int × Str × Int × List Str) → Option ((Int × Str × List Str) ⊕ ((List Str) ⊕ (Bool))) := fun (i1, w, k, list1) =>
 (bif (decide (k < (w.length : Int))) then ((need (decide (0 ≤ k) && decide (k < w.length)) (bif (decide (((w.getD k.toNat 0).toNat : Int) ≥ 97)) then (need (decide (0 ≤ k) && decide (k < w.length)) (bif (decide (((w.getD k.toNat 0).toNat : Int) ≤ 122)) then (some (!true)) else
 (need (decide (0 ≤ k) && decide (k < w.length)) (bif (decide (((w.getD k.toNat 0).toNat : Int) ≥ 48)) then (need (decide (0 ≤ k) && decide (k < w.length)) (bif (decide (((w.getD k.toNat 0).toNat : Int) ≤ 57)) then (some (!true)) else
 (need (decide (0 ≤ k) && decide (k < w.length)) (bif (((w.getD k.toNat 0).toNat : Int) == 46) then (some (!true)) else
 (need (decide (0 ≤ k) && decide (k < w.length)) (bif (((w.getD k.toNat 0).toNat : Int) == 45) then (some (!true)) else
 (need (decide (0 ≤ k) && decide (k < w.length)) (some (!(((w.getD k.toNat 0).toNat : Int) == 95)))))))))) else
 (need (decide (0 ≤ k) && decide (k < w.length)) (bif (((w.getD k.toNat 0).toNat : Int) == 46) then (some (!true)) else
 (need (decide (0 ≤ k) && decide (k < w.length)) (bif (((w.getD k.toNat 0).toNat : Int) == 45) then (some (!true)) else
 (need (decide (0 ≤ k) && decide (k < w.length)) (some (!(((w.getD k.toNat 0).toNat : Int) == 95)))))))))))) else
 (need (decide (0 ≤ k) && decide (k < w.length)) (bif (decide (((w.getD k.toNat 0).toNat : Int) ≥ 48)) then (need (decide (0 ≤ k) && decide (k < w.length)) (bif (decide (((w.getD k.toNat 0).toNat : Int) ≤ 57)) then (some (!true)) else
 (need (decide (0 ≤ k) && decide (k < w.length)) (bif (((w.getD k.toNat 0).toNat : Int) == 46) then (some (!true)) else
 (need (decide (0 ≤ k) && decide (k < w.length)) (bif (((w.getD k.toNat 0).toNat : Int) == 45) then (some (!true)) else
 (need (decide (0 ≤ k) && decide (k < w.length)) (some (!(((w.getD k.toNat 0).toNat : Int) == 95)))))))))) else
 (need (decide (0 ≤ k) && decide (k < w.length)) (bif (((w.getD k.toNat 0).toNat : Int) == 46) then (some (!true)) else
 (need (decide (0 ≤ k) && decide (k < w.length)) (bif (((w.getD k.toNat 0).toNat : Int) == 45) then (some (!true)) else
 (need (decide (0 ≤ k) && decide (k < w.length)) (some (!(((w.getD k.toNat 0).toNat : Int) == 95)))))))))))).bind fun c =>
 (bif c then (((some false).map Sum.inr).map Sum.inr) else
 (again (i1, w, (w64 (k + 1)), list1)))) else
 (some (.inl (i1, w, list1))))
def specNameOk.l0 : Nat → (Int × Str × Int × List Str) → Option ((Int × Str × List Str) ⊕ ((List Str) ⊕ (Bool))) := loopN (specNameOk.l0.step)
theorem specNameOk.l0.succ (n : Nat) (t : (Int × Str × Int × List Str)) : specNameOk.l0 (n + 1) t = specNameOk.l0.step (specNameOk.l0 n) t := rfl

def specNameOk.l1.step (again : (Int × List Str) → Option ((List Str) ⊕ (Bool))) : (Int × List Str) → Option ((List Str) ⊕ (Bool)) := fun (i, list) =>
 (bif (decide (i < (list.length : Int))) then (need (decide (0 ≤ i) && decide (i < list.length)) ((specNameOk.l0 ((((list.getD i.toNat []).length : Int) - (0 : Int)).toNat + 1) (i, (list.getD i.toNat []), 0, list)).bind fun r => match r with
 | .inl (i2, w1, list2) => (((l1In (w1.length : Int) 1 10).bind fun l1In_ =>
 (bif (!l1In_) then (some true) else
 (bif (w1 == [46]) then (some true) else
 (some (w1 == [46, 46]))))).bind fun c1 =>
 (bif c1 then ((some false).map Sum.inr) else
 (again ((w64 (i2 + 1)), list2))))
 | .inr r => some r)) else
 (some (.inl list)))
def specNameOk.l1 : Nat → (Int × List Str) → Option ((List Str) ⊕ (Bool)) := loopN (specNameOk.l1.step)
theorem specNameOk.l1.succ (n : Nat) (t : (Int × List Str)) : specNameOk.l1 (n + 1) t = specNameOk.l1.step (specNameOk.l1 n) t := rfl

def specNameOk (s : Str) : Option (Bool) :=
 ((l1Cut s 47 (w64 ((s.length : Int) + 1))).bind fun l1Cut_ =>
 ((specNameOk.l1 (((l1Cut_.length : Int) - (0 : Int)).toNat + 1) (0, l1Cut_)).bind fun r => match r with
 | .inl list3 => (some (decide ((list3.length : Int) ≤ 4)))
 | .inr r => some r))


def l7Under (a : Str) (b : Str) : Option (Bool) :=
 ((bif (decide ((b.length : Int) > (a.length : Int))) then (need (decide (0 ≤ (a.length : Int)) && decide ((a.length : Int) ≤ b.length)) (bif ((b.take (a.length : Int).toNat) == a) then (need (decide (0 ≤ (a.length : Int)) && decide ((a.length : Int) < b.length)) (some (((b.getD (a.length : Int).toNat 0).toNat : Int) == 47))) else
 (some false))) else
 (some false)).bind fun c =>
 (some c))


def specTreeOk.l0.step (again : ((List (Str × Str)) × Int × Int) → Option (((List (Str × Str)) × Int) ⊕ ((List (Str × Str)) ⊕ (Bool)))) : ((List (Str × Str)) × Int × Int) → Option (((List (Str × Str)) × Int) ⊕ ((List (Str × Str)) ⊕ (Bool))) := fun (t1, i1, k) =>
 (bif (decide (k < (t1.length : Int))) then (need (decide (0 ≤ i1) && decide (i1 < t1.length)) (need (decide (0 ≤ k) && decide (k < t1.length)) ((l7Under ((t1.getD i1.toNat ([], [])).1) ((t1.getD k.toNat ([], [])).1)).bind fun l7Under_ =>
 (bif l7Under_ then (((some false).map Sum.inr).map Sum.inr) else
 (again (t1, i1, (w64 (k + 1)))))))) else
 (some (.inl (t1, i1))))
def specTreeOk.l0 : Nat → ((List (Str × Str)) × Int × Int) → Option (((List (Str × Str)) × Int) ⊕ ((List (Str × Str)) ⊕ (Bool))) := loopN (specTreeOk.l0.step)
theorem specTreeOk.l0.succ (n : Nat) (t : ((List (Str × Str)) × Int × Int)) : specTreeOk.l0 (n + 1) t = specTreeOk.l0.step (specTreeOk.l0 n) t := rfl

def specTreeOk.l1.step (again : ((List (Str × Str)) × Int) → Option ((List (Str × Str)) ⊕ (Bool))) : ((List (Str × Str)) × Int) → Option ((List (Str × Str)) ⊕ (Bool)) := fun (t, i) =>
 (bif (decide (i < (t.length : Int))) then ((need (decide (0 ≤ i) && decide (i < t.length)) ((specNameOk ((t.getD i.toNat ([], [])).1)).bind fun NameOk =>
 (bif (!NameOk) then (some true) else
 (need (decide (0 ≤ i) && decide (i < t.length)) (bif (decide ((((t.getD i.toNat ([], [])).2).length : Int) > 300)) then (some true) else
 (bif (decide (i > 0)) then (need (decide (0 ≤ (w64 (i - 1))) && decide ((w64 (i - 1)) < t.length)) (need (decide (0 ≤ i) && decide (i < t.length)) (some (!(Op.bytesLess ((t.getD (w64 (i - 1)).toNat ([], [])).1) ((t.getD i.toNat ([], [])).1)))))) else
 (some false))))))).bind fun c =>
 (bif c then ((some false).map Sum.inr) else
 ((specTreeOk.l0 (((t.length : Int) - (0 : Int)).toNat + 1) (t, i, 0)).bind fun r => match r with
 | .inl (t2, i2) => (again (t2, (w64 (i2 + 1))))
 | .inr r => some r))) else
 (some (.inl t)))
def specTreeOk.l1 : Nat → ((List (Str × Str)) × Int) → Option ((List (Str × Str)) ⊕ (Bool)) := loopN (specTreeOk.l1.step)
theorem specTreeOk.l1.succ (n : Nat) (t : ((List (Str × Str)) × Int)) : specTreeOk.l1 (n + 1) t = specTreeOk.l1.step (specTreeOk.l1 n) t := rfl

def specTreeOk (xs : List (Str × Str)) : Option (Bool) :=
 ((specTreeOk.l1 (((xs.length : Int) - (0 : Int)).toNat + 1) (xs, 0)).bind fun r => match r with
 | .inl t3 => (some (decide ((t3.length : Int) ≤ 8)))
 | .inr r => some r)


def hasPrefix0 (s : Str) (p : Str) : Option (Bool) :=
 ((bif (decide ((s.length : Int) ≥ (p.length : Int))) then (need (decide (0 ≤ (p.length : Int)) && decide ((p.length : Int) ≤ s.length)) (some ((s.take (p.length : Int).toNat) == p))) else
 (some false)).bind fun c =>
 (some c))


def hasPrefix (s : Str) (p : Str) : Option (Bool) :=
 ((hasPrefix0 s p).bind fun HasPrefi =>
 (some HasPrefi))


def indexByteString (s : Str) (c : Int) : Option (Int) := some (idxB s c)

def countString (s : Str) (c : Int) : Option (Int) := some (cntB s c)

def indexByte0 (s : Str) (c : Int) : Option (Int) :=
 ((indexByteString s c).bind fun IndexByt =>
 (some IndexByt))


def index0S (s : Str) : Option (Int) :=
 ((some (([47] : Str) == s)).bind fun c =>
 (bif c then (some 0) else
 ((indexByte0 s 47).bind fun IndexByt =>
 (some IndexByt))))


def indexS (s : Str) : Option (Int) :=
 ((index0S s).bind fun Index =>
 (some Index))


def countS (s : Str) : Option (Int) :=
 ((countString s 47).bind fun CountStr =>
 (some CountStr))


def genSplitS.l0.step (again : (Str × Int × Int × List Str) → Option (Str × Int × List Str)) : (Str × Int × Int × List Str) → Option (Str × Int × List Str) := fun (s2, n1, i, a) =>
 (bif (decide (i < n1)) then ((indexS s2).bind fun Index =>
 (bif (decide (Index < 0)) then (some (s2, i, a)) else
 (need (decide (0 ≤ (w64 (Index + 0))) && decide ((w64 (Index + 0)) ≤ s2.length)) (need (decide (0 ≤ i) && decide (i < a.length)) (need (decide (0 ≤ (w64 (Index + 1))) && decide ((w64 (Index + 1)) ≤ s2.length)) (again ((s2.drop (w64 (Index + 1)).toNat), n1, (w64 (i + 1)), (a.set i.toNat (s2.take (w64 (Index + 0)).toNat))))))))) else
 (some (s2, i, a)))
def genSplitS.l0 : Nat → (Str × Int × Int × List Str) → Option (Str × Int × List Str) := loopN (genSplitS.l0.step)
theorem genSplitS.l0.succ (n : Nat) (t : (Str × Int × Int × List Str)) : genSplitS.l0 (n + 1) t = genSplitS.l0.step (genSplitS.l0 n) t := rfl

def genSplitS (s : Str) : Option (List Str) :=
 (((countS s).bind fun Count =>
 (some (s, (w64 (Count + 1))))).bind fun (s1, n) =>
 (need (decide (0 ≤ (minA n (w64 ((s1.length : Int) + 1)))) && fits (minA n (w64 ((s1.length : Int) + 1))).toNat) ((genSplitS.l0 (((w64 ((minA n (w64 ((s1.length : Int) + 1))) - 1)) - (0 : Int)).toNat + 1) (s1, (w64 ((minA n (w64 ((s1.length : Int) + 1))) - 1)), 0, (List.replicate (minA n (w64 ((s1.length : Int) + 1))).toNat ([] : Str)))).bind fun (s3, i1, a1) =>
 (need (decide (0 ≤ i1) && decide (i1 < a1.length)) (need (decide (0 ≤ (w64 (i1 + 1))) && decide ((w64 (i1 + 1)) ≤ (a1.set i1.toNat s3).length)) (some (((a1.set i1.toNat s3).drop 0).take ((w64 (i1 + 1)).toNat))))))))


def splitS (s : Str) : Option (List Str) :=
 ((genSplitS s).bind fun genSplit =>
 (some genSplit))


def implNameOk.l0.step (again : (List Str × List Str × Int × Int) → Option ((List Str) ⊕ (Bool))) : (List Str × List Str × Int × Int) → Option ((List Str) ⊕ (Bool)) := fun (parts, t, t1, t2) =>
 (bif (decide (t2 < t1)) then (need (decide (0 ≤ t2) && decide (t2 < t.length)) ((partOk (t.getD t2.toNat [])).bind fun partOk_ =>
 (bif (!partOk_) then ((some false).map Sum.inr) else
 (again (parts, t, t1, (w64 (t2 + 1))))))) else
 (some (.inl parts)))
def implNameOk.l0 : Nat → (List Str × List Str × Int × Int) → Option ((List Str) ⊕ (Bool)) := loopN (implNameOk.l0.step)
theorem implNameOk.l0.succ (n : Nat) (t : (List Str × List Str × Int × Int)) : implNameOk.l0 (n + 1) t = implNameOk.l0.step (implNameOk.l0 n) t := rfl

def implNameOk (s : Str) : Option (Bool) :=
 ((splitS s).bind fun Split =>
 ((implNameOk.l0 (((Split.length : Int) - (0 : Int)).toNat + 1) (Split, Split, (Split.length : Int), 0)).bind fun r => match r with
 | .inl parts1 => (some (decide ((parts1.length : Int) ≤ 4)))
 | .inr r => some r))


def apart.l0.step (again : (List Str × Str × List Str × Int × Int × List Str × Int × Int) → Option ((List Str × List Str × Int × Int) ⊕ ((Unit) ⊕ (Bool)))) : (List Str × Str × List Str × Int × Int × List Str × Int × Int) → Option ((List Str × List Str × Int × Int) ⊕ ((Unit) ⊕ (Bool))) := fun (names1, a, t3, t4, t5, t6, t7, t8) =>
 (bif (decide (t8 < t7)) then (need (decide (0 ≤ t8) && decide (t8 < t6.length)) ((bif (a == (t6.getD t8.toNat [])) then (some true) else
 (need (fits ((t6.getD t8.toNat []).length + ([47] : Str).length)) ((hasPrefix a ((t6.getD t8.toNat []) ++ [47])).bind fun HasPrefi =>
 (bif HasPrefi then (some true) else
 (need (fits (a.length + ([47] : Str).length)) ((hasPrefix (t6.getD t8.toNat []) (a ++ [47])).bind fun HasPrefi1 =>
 (some HasPrefi1))))))).bind fun c =>
 (bif c then (((some false).map Sum.inr).map Sum.inr) else
 (again (names1, a, t3, t4, t5, t6, t7, (w64 (t8 + 1))))))) else
 (some (.inl (names1, t3, t4, t5))))
def apart.l0 : Nat → (List Str × Str × List Str × Int × Int × List Str × Int × Int) → Option ((List Str × List Str × Int × Int) ⊕ ((Unit) ⊕ (Bool))) := loopN (apart.l0.step)
theorem apart.l0.succ (n : Nat) (t : (List Str × Str × List Str × Int × Int × List Str × Int × Int)) : apart.l0 (n + 1) t = apart.l0.step (apart.l0 n) t := rfl

def apart.l1.step (again : (List Str × List Str × Int × Int) → Option ((Unit) ⊕ (Bool))) : (List Str × List Str × Int × Int) → Option ((Unit) ⊕ (Bool)) := fun (names, t, t1, t2) =>
 (bif (decide (t2 < t1)) then (need (decide (0 ≤ t2) && decide (t2 < t.length)) (need (decide (0 ≤ t2) && decide (t2 ≤ names.length)) ((apart.l0 ((((names.take t2.toNat).length : Int) - (0 : Int)).toNat + 1) (names, (t.getD t2.toNat []), t, t1, t2, (names.take t2.toNat), ((names.take t2.toNat).length : Int), 0)).bind fun r => match r with
 | .inl (names2, t9, t10, t11) => (again (names2, t9, t10, (w64 (t11 + 1))))
 | .inr r => some r))) else
 (some (.inl ())))
def apart.l1 : Nat → (List Str × List Str × Int × Int) → Option ((Unit) ⊕ (Bool)) := loopN (apart.l1.step)
theorem apart.l1.succ (n : Nat) (t : (List Str × List Str × Int × Int)) : apart.l1 (n + 1) t = apart.l1.step (apart.l1 n) t := rfl

def apart (xs : List Str) : Option (Bool) :=
 ((apart.l1 (((xs.length : Int) - (0 : Int)).toNat + 1) (xs, xs, (xs.length : Int), 0)).bind fun r => match r with
 | .inl _ => (some true)
 | .inr r => some r)


def implTreeOk.l0.step (again : ((List (Str × Str)) × (List (Str × Str)) × Int × Int × List Str) → Option (((List (Str × Str)) × List Str) ⊕ (Bool))) : ((List (Str × Str)) × (List (Str × Str)) × Int × Int × List Str) → Option (((List (Str × Str)) × List Str) ⊕ (Bool)) := fun (t, t1, t2, t3, paths) =>
 (bif (decide (t3 < t2)) then (need (decide (0 ≤ t3) && decide (t3 < t1.length)) (((implNameOk ((t1.getD t3.toNat ([], [])).1)).bind fun NameOk =>
 (bif (!NameOk) then (some true) else
 (bif (decide ((((t1.getD t3.toNat ([], [])).2).length : Int) > 300)) then (some true) else
 (bif (decide (t3 > 0)) then (need (decide (0 ≤ (w64 (t3 - 1))) && decide ((w64 (t3 - 1)) < t.length)) (some (!(Op.bytesLess ((t.getD (w64 (t3 - 1)).toNat ([], [])).1) ((t1.getD t3.toNat ([], [])).1))))) else
 (some false))))).bind fun c =>
 (bif c then ((some false).map Sum.inr) else
 (need (fits (paths.length + ([(t1.getD t3.toNat ([], [])).1] : List (Str)).length)) (again (t, t1, t2, (w64 (t3 + 1)), (paths ++ [(t1.getD t3.toNat ([], [])).1]))))))) else
 (some (.inl (t, paths))))
def implTreeOk.l0 : Nat → ((List (Str × Str)) × (List (Str × Str)) × Int × Int × List Str) → Option (((List (Str × Str)) × List Str) ⊕ (Bool)) := loopN (implTreeOk.l0.step)
theorem implTreeOk.l0.succ (n : Nat) (t : ((List (Str × Str)) × (List (Str × Str)) × Int × Int × List Str)) : implTreeOk.l0 (n + 1) t = implTreeOk.l0.step (implTreeOk.l0 n) t := rfl

def implTreeOk (xs : List (Str × Str)) : Option (Bool) :=
 ((implTreeOk.l0 (((xs.length : Int) - (0 : Int)).toNat + 1) (xs, xs, (xs.length : Int), 0, [])).bind fun r => match r with
 | .inl (t4, paths1) => ((bif (decide ((t4.length : Int) ≤ 8)) then ((apart paths1).bind fun apart_ =>
 (some apart_)) else
 (some false)).bind fun c1 =>
 (some c1))
 | .inr r => some r)


def FnExactTreeOk (xs : List (Str × Str)) : Option (Bool) :=
 ((szFileS xs 1048576).bind fun szFileS_ =>
 (bif (decide (szFileS_ < 0)) then (some true) else
 ((toFileS xs).bind fun toFileS_ =>
 ((specTreeOk toFileS_).bind fun TreeOk =>
 ((toFileS xs).bind fun toFileS_1 =>
 ((implTreeOk toFileS_1).bind fun TreeOk1 =>
 (bif (!(TreeOk1 == TreeOk)) then (some false) else
 ((toFileS xs).bind fun toFileS_2 =>
 ((eqFileS toFileS_1 toFileS_2).bind fun eqFileS_ =>
 (bif (!eqFileS_) then (some false) else
 (some true)))))))))))


def l1Open (code_ : List Int) : Option (List Int × Int) :=
 (bif (decide ((code_.length : Int) > 2000)) then (need (decide (0 ≤ (2000 : Int)) && decide ((2000 : Int) ≤ code_.length)) (some ((code_.take 2000), 0))) else
 (some (code_, 0)))


def pick (n : Int) (b : List Int) (p : Int) : Option (Int × List Int × Int) :=
 ((bif (decide (n < 1)) then (some true) else
 (some ((b.length : Int) == 0))).bind fun c =>
 (bif c then (some (0, b, (w64 (p + 1)))) else
 (bif (decide ((w64 ((w64 (p + 1)) - 1)) < (b.length : Int))) then (need (decide (0 ≤ (w64 ((w64 (p + 1)) - 1))) && decide ((w64 ((w64 (p + 1)) - 1)) < b.length)) (need (n != 0) (some (((w64 (b.getD (w64 ((w64 (p + 1)) - 1)).toNat 0)).tmod n), b, (w64 (p + 1)))))) else
 (need ((b.length : Int) != 0) (need (decide (0 ≤ ((w64 ((w64 (p + 1)) - 1)).tmod (b.length : Int))) && decide (((w64 ((w64 (p + 1)) - 1)).tmod (b.length : Int)) < b.length)) (need ((b.length : Int) != 0) (need (decide (0 ≤ ((w64 ((w64 ((w64 ((w64 (p + 1)) - 1)) * 7)) + 3)).tmod (b.length : Int))) && decide (((w64 ((w64 ((w64 ((w64 (p + 1)) - 1)) * 7)) + 3)).tmod (b.length : Int)) < b.length)) (need ((b.length : Int) != 0) (need (n != 0) (some (((ixor .i64 (w64 ((w64 ((w64 ((w64 ((w64 (b.getD ((w64 ((w64 (p + 1)) - 1)).tmod (b.length : Int)).toNat 0)) * 131)) + (w64 ((w64 (b.getD ((w64 ((w64 ((w64 ((w64 (p + 1)) - 1)) * 7)) + 3)).tmod (b.length : Int)).toNat 0)) * 1117)))) + (w64 ((w64 ((w64 (p + 1)) - 1)) * 29)))) + (w64 ((w64 ((w64 ((w64 (p + 1)) - 1)).tdiv (b.length : Int))) * 53)))) (w64 ((w64 ((w64 ((w64 ((w64 ((w64 (b.getD ((w64 ((w64 (p + 1)) - 1)).tmod (b.length : Int)).toNat 0)) * 131)) + (w64 ((w64 (b.getD ((w64 ((w64 ((w64 ((w64 (p + 1)) - 1)) * 7)) + 3)).tmod (b.length : Int)).toNat 0)) * 1117)))) + (w64 ((w64 ((w64 (p + 1)) - 1)) * 29)))) + (w64 ((w64 ((w64 ((w64 (p + 1)) - 1)).tdiv (b.length : Int))) * 53)))).tdiv 64))).tmod n), b, (w64 (p + 1)))))))))))))


def rdOf (xs : List Str) (b : List Int) (p : Int) : Option (Str × List Int × Int) :=
 ((pick (xs.length : Int) b p).bind fun (r, r1, r2) =>
 (need (decide (0 ≤ r) && decide (r < xs.length)) (some ((xs.getD r.toNat []), r1, r2))))


def l1Many.l0.step (again : (Str × Int × Str) → Option (Str)) : (Str × Int × Str) → Option (Str) := fun (s1, n1, out) =>
 (bif (decide (n1 > 0)) then (bif ((n1.tmod 2) == 1) then (need (fits (out.length + s1.length)) (need (fits (s1.length + s1.length)) (again ((s1 ++ s1), (w64 (n1.tdiv 2)), (out ++ s1))))) else
 (need (fits (s1.length + s1.length)) (again ((s1 ++ s1), (w64 (n1.tdiv 2)), out)))) else
 (some out))
def l1Many.l0 : Nat → (Str × Int × Str) → Option (Str) := loopN (l1Many.l0.step)
theorem l1Many.l0.succ (n : Nat) (t : (Str × Int × Str)) : l1Many.l0 (n + 1) t = l1Many.l0.step (l1Many.l0 n) t := rfl

def l1Many (s : Str) (n : Int) : Option (Str) :=
 ((l1Many.l0 (n.toNat + 1) (s, n, [])).bind fun out1 =>
 (some out1))


def l11Text.l0.step (again : (Int × List Int × Int × List Int) → Option (List Int × Int × List Int)) : (Int × List Int × Int × List Int) → Option (List Int × Int × List Int) := fun (n, o, o1, out) =>
 (bif (decide (n > 0)) then ((pick 256 o o1).bind fun (r12, r13, r14) =>
 (need (fits (out.length + ([(IntKind.wrap .u8 r12)] : List (Int)).length)) (again ((w64 (n - 1)), r13, r14, (out ++ [(IntKind.wrap .u8 r12)]))))) else
 (some (o, o1, out)))
def l11Text.l0 : Nat → (Int × List Int × Int × List Int) → Option (List Int × Int × List Int) := loopN (l11Text.l0.step)
theorem l11Text.l0.succ (n : Nat) (t : (Int × List Int × Int × List Int)) : l11Text.l0 (n + 1) t = l11Text.l0.step (l11Text.l0 n) t := rfl

def l11Text.l1.step (again : (Str × Int × List Int × Int) → Option (Str × List Int × Int)) : (Str × Int × List Int × Int) → Option (Str × List Int × Int) := fun (out2, n1, o4, o5) =>
 (bif (decide (n1 > 0)) then ((rdOf [[116, 104, 101, 32], [115, 116, 111, 110, 101, 32], [116, 104, 97, 116, 32], [98, 101, 97, 114, 115, 32], [97, 32], [98, 101, 97, 109], [46, 32]] o4 o5).bind fun (r18, r19, r20) =>
 (need (fits (out2.length + r18.length)) (again ((out2 ++ r18), (w64 (n1 - 1)), r19, r20)))) else
 (some (out2, o4, o5)))
def l11Text.l1 : Nat → (Str × Int × List Int × Int) → Option (Str × List Int × Int) := loopN (l11Text.l1.step)
theorem l11Text.l1.succ (n : Nat) (t : (Str × Int × List Int × Int)) : l11Text.l1 (n + 1) t = l11Text.l1.step (l11Text.l1 n) t := rfl

def l11Text (b : List Int) (p : Int) : Option (Str × List Int × Int) :=
 ((pick 8 b p).bind fun (r, r1, r2) =>
 (bif (r == 0) then (some ([], r1, r2)) else
 (bif (r == 1) then ((rdOf [[97], [97, 98], [97, 98, 99], [120, 121, 122, 122, 121, 32]] r1 r2).bind fun (r3, r4, r5) =>
 ((pick 40 r4 r5).bind fun (r6, r7, r8) =>
 ((l1Many r3 (w64 (1 + r6))).bind fun l1Many_ =>
 (some (l1Many_, r7, r8))))) else
 (bif (r == 2) then ((pick 40 r1 r2).bind fun (r9, r10, r11) =>
 ((l11Text.l0 ((r9 - 0).toNat + 1) (r9, r10, r11, [])).bind fun (o2, o3, out1) =>
 (some ((toBytes out1), o2, o3)))) else
 (bif (r == 3) then ((l1Many [113] 300).bind fun l1Many_1 =>
 (some (l1Many_1, r1, r2))) else
 ((pick 12 r1 r2).bind fun (r15, r16, r17) =>
 ((l11Text.l1 ((r15 - 0).toNat + 1) ([], r15, r16, r17)).bind fun (out3, o6, o7) =>
 (some (out3, o6, o7)))))))))


def l11AnyText (b : List Int) (p : Int) : Option (Str × List Int × Int) :=
 ((pick 16 b p).bind fun (r, r1, r2) =>
 (bif (r == 0) then ((l1Many [113] 301).bind fun l1Many_ =>
 (some (l1Many_, r1, r2))) else
 ((l11Text r1 r2).bind fun (r3, r4, r5) =>
 (some (r3, r4, r5)))))


def l11Name (b : List Int) (p : Int) : Option (Str × List Int × Int) :=
 ((rdOf [[97], [98, 46, 116, 120, 116], [100, 105, 114, 47, 97], [100, 105, 114, 47, 98], [120, 45, 121, 95, 122], [97, 47, 98, 47, 99, 47, 100], [114, 101, 97, 100, 109, 101]] b p).bind fun (r, r1, r2) =>
 (some (r, r1, r2)))


def l11AnyName (b : List Int) (p : Int) : Option (Str × List Int × Int) :=
 ((pick 6 b p).bind fun (r, r1, r2) =>
 (bif (r == 0) then ((rdOf [[], [47], [97, 47], [46, 46], [97, 47, 46, 46, 47, 98], [65], [97, 32, 98], [101, 108, 101, 118, 101, 110, 108, 101, 116, 116, 101], [97, 47, 98, 47, 99, 47, 100, 47, 101]] r1 r2).bind fun (r3, r4, r5) =>
 (some (r3, r4, r5))) else
 ((l11Name r1 r2).bind fun (r6, r7, r8) =>
 (some (r6, r7, r8)))))


def l10Put.l0.step (again : ((List (Str × Str)) × Int × Str × Str) → Option ((List (Str × Str)) × Int × Str × Str)) : ((List (Str × Str)) × Int × Str × Str) → Option ((List (Str × Str)) × Int × Str × Str) := fun (t, k, o, o1) =>
 ((bif (decide (k < (t.length : Int))) then (need (decide (0 ≤ k) && decide (k < t.length)) (some (Op.bytesLess ((t.getD k.toNat ([], [])).1) o))) else
 (some false)).bind fun c =>
 (bif c then (again (t, (w64 (k + 1)), o, o1)) else
 (some (t, k, o, o1))))
def l10Put.l0 : Nat → ((List (Str × Str)) × Int × Str × Str) → Option ((List (Str × Str)) × Int × Str × Str) := loopN (l10Put.l0.step)
theorem l10Put.l0.succ (n : Nat) (t : ((List (Str × Str)) × Int × Str × Str)) : l10Put.l0 (n + 1) t = l10Put.l0.step (l10Put.l0 n) t := rfl

def l10Put (xs : List (Str × Str)) (path : Str) (text : Str) : Option (List (Str × Str)) :=
 ((l10Put.l0 (((xs.length : Int) - (0 : Int)).toNat + 1) (xs, 0, path, text)).bind fun (t1, k1, o2, o3) =>
 ((bif (decide (k1 < (t1.length : Int))) then (need (decide (0 ≤ k1) && decide (k1 < t1.length)) (some ((t1.getD k1.toNat ([], [])).1 == o2))) else
 (some false)).bind fun c1 =>
 (bif c1 then (need (decide (0 ≤ k1) && decide (k1 ≤ t1.length)) (need (fits (([] : List (Str × Str)).length + (t1.take k1.toNat).length)) (need (fits (([] ++ (t1.take k1.toNat)).length + ([(o2, o3)] : List (Str × Str)).length)) (need (decide (0 ≤ (w64 (k1 + 1))) && decide ((w64 (k1 + 1)) ≤ t1.length)) (need (fits ((([] ++ (t1.take k1.toNat)) ++ [(o2, o3)]).length + (t1.drop (w64 (k1 + 1)).toNat).length)) (some ((([] ++ (t1.take k1.toNat)) ++ [(o2, o3)]) ++ (t1.drop (w64 (k1 + 1)).toNat)))))))) else
 (need (decide (0 ≤ k1) && decide (k1 ≤ t1.length)) (need (fits (([] : List (Str × Str)).length + (t1.take k1.toNat).length)) (need (fits (([] ++ (t1.take k1.toNat)).length + ([(o2, o3)] : List (Str × Str)).length)) (need (decide (0 ≤ k1) && decide (k1 ≤ t1.length)) (need (fits ((([] ++ (t1.take k1.toNat)) ++ [(o2, o3)]).length + (t1.drop k1.toNat).length)) (some ((([] ++ (t1.take k1.toNat)) ++ [(o2, o3)]) ++ (t1.drop k1.toNat)))))))))))


def l11Tree.l0.step (again : (Int × List Int × Int × List (Str × Str)) → Option (List Int × Int × List (Str × Str))) : (Int × List Int × Int × List (Str × Str)) → Option (List Int × Int × List (Str × Str)) := fun (n, o, o1, out) =>
 (bif (decide (n > 0)) then ((l11Name o o1).bind fun (r3, r4, r5) =>
 ((l11Text r4 r5).bind fun (r6, r7, r8) =>
 ((l10Put out r3 r6).bind fun l10Put_ =>
 ((specTreeOk l10Put_).bind fun TreeOk =>
 (bif TreeOk then (again ((w64 (n - 1)), r7, r8, l10Put_)) else
 (again ((w64 (n - 1)), r7, r8, out))))))) else
 (some (o, o1, out)))
def l11Tree.l0 : Nat → (Int × List Int × Int × List (Str × Str)) → Option (List Int × Int × List (Str × Str)) := loopN (l11Tree.l0.step)
theorem l11Tree.l0.succ (n : Nat) (t : (Int × List Int × Int × List (Str × Str))) : l11Tree.l0 (n + 1) t = l11Tree.l0.step (l11Tree.l0 n) t := rfl

def l11Tree (b : List Int) (p : Int) : Option (List Int × Int × List (Str × Str)) :=
 ((pick 5 b p).bind fun (r, r1, r2) =>
 ((l11Tree.l0 ((r - 0).toNat + 1) (r, r1, r2, [])).bind fun (o2, o3, out1) =>
 (some (o2, o3, out1))))


def l11AnyTree (b : List Int) (p : Int) : Option (List Int × Int × List (Str × Str)) :=
 ((l11Tree b p).bind fun (r, r1, r2) =>
 (need (fits (([] : List (Str × Str)).length + r2.length)) ((pick 8 r r1).bind fun (r3, r4, r5) =>
 (bif (r3 == 0) then ((l11AnyName r4 r5).bind fun (r6, r7, r8) =>
 ((l11AnyText r7 r8).bind fun (r9, r10, r11) =>
 (need (fits (([] ++ r2).length + ([(r6, r9)] : List (Str × Str)).length)) (some (r10, r11, (([] ++ r2) ++ [(r6, r9)])))))) else
 (some (r4, r5, ([] ++ r2)))))))


def drawTreeOk (code_ : List Int) : Option (List (Str × Str)) :=
 ((l1Open code_).bind fun (r, r1) =>
 ((l11AnyTree r r1).bind fun (r2, r3, r4) =>
 (some r4)))


def FnTreeLess.l0.step (again : (Int × List (Str × Str)) → Option ((Unit) ⊕ (Bool))) : (Int × List (Str × Str)) → Option ((Unit) ⊕ (Bool)) := fun (i, t) =>
 (bif (decide (i < (t.length : Int))) then (need (decide (0 ≤ i) && decide (i ≤ t.length)) (need (fits (([] : List (Str × Str)).length + ((t.drop 0).take i.toNat).length)) (need (decide (0 ≤ (w64 (i + 1))) && decide ((w64 (i + 1)) ≤ t.length)) (need (fits (([] ++ ((t.drop 0).take i.toNat)).length + ((t.drop ((w64 (i + 1)).toNat)).take (t.length - (w64 (i + 1)).toNat)).length)) ((implTreeOk (([] ++ ((t.drop 0).take i.toNat)) ++ ((t.drop ((w64 (i + 1)).toNat)).take (t.length - (w64 (i + 1)).toNat)))).bind fun TreeOk3 =>
 (bif (!TreeOk3) then ((some false).map Sum.inr) else
 (again ((w64 (i + 1)), t)))))))) else
 (some (.inl ())))
def FnTreeLess.l0 : Nat → (Int × List (Str × Str)) → Option ((Unit) ⊕ (Bool)) := loopN (FnTreeLess.l0.step)
theorem FnTreeLess.l0.succ (n : Nat) (t : (Int × List (Str × Str))) : FnTreeLess.l0 (n + 1) t = FnTreeLess.l0.step (FnTreeLess.l0 n) t := rfl

def FnTreeLess (code_ : List Int) : Option (Bool) :=
 (bif (decide ((code_.length : Int) > 1048576)) then (some true) else
 ((drawTreeOk code_).bind fun DrawTree =>
 ((implTreeOk DrawTree).bind fun TreeOk =>
 (((specTreeOk DrawTree).bind fun TreeOk1 =>
 (bif (!(TreeOk == TreeOk1)) then (some true) else
 (some (!TreeOk)))).bind fun c =>
 (bif c then ((specTreeOk DrawTree).bind fun TreeOk2 =>
 (some (TreeOk == TreeOk2))) else
 ((FnTreeLess.l0 (((DrawTree.length : Int) - (0 : Int)).toNat + 1) (0, DrawTree)).bind fun r => match r with
 | .inl _ => ((implTreeOk []).bind fun TreeOk4 =>
 (some TreeOk4))
 | .inr r => some r))))))


end Ev
