/- What each function of the program computes, as a plain function (printed by a program of this work out of the form of the program). Conditions: none. -/
import Derived.Test.YtadeffpcedlalaaGreatDoorTGS0
set_option linter.unusedVariables false
set_option linter.unusedSimpArgs false
section
open Go
set_option maxRecDepth 100000
namespace Ev
set_option maxHeartbeats 1000000
def Za1 (n:Int) (low:Int) (high:Int):Option (Bool):=
 ((bif (decide (n≥low)) then (some (decide (n≤high))) else
 (some false)).bind fun c=>
 (some c))
def Zb4.l0.step (again:(Str×Int×Int)→Option ((Str)⊕(Bool))):(Str×Int×Int)→Option ((Str)⊕(Bool)):=fun (s1,t,t1)=>
 (bif (decide (t1<t)) then (need (decide (0≤t1)&&decide (t1<s1.length)) ((bif (decide (((s1.getD t1.toNat 0).toNat:Int)<97)) then (bif (decide (((s1.getD t1.toNat 0).toNat:Int)<48)) then (bif (((s1.getD t1.toNat 0).toNat:Int) != 46) then (bif (((s1.getD t1.toNat 0).toNat:Int) != 45) then (some (((s1.getD t1.toNat 0).toNat:Int) != 95)) else
 (some false)) else
 (some false)) else
 (bif (decide (((s1.getD t1.toNat 0).toNat:Int)>57)) then (bif (((s1.getD t1.toNat 0).toNat:Int) != 46) then (bif (((s1.getD t1.toNat 0).toNat:Int) != 45) then (some (((s1.getD t1.toNat 0).toNat:Int) != 95)) else
 (some false)) else
 (some false)) else
 (some false))) else
 (bif (decide (((s1.getD t1.toNat 0).toNat:Int)>122)) then (bif (decide (((s1.getD t1.toNat 0).toNat:Int)<48)) then (bif (((s1.getD t1.toNat 0).toNat:Int) != 46) then (bif (((s1.getD t1.toNat 0).toNat:Int) != 45) then (some (((s1.getD t1.toNat 0).toNat:Int) != 95)) else
 (some false)) else
 (some false)) else
 (bif (decide (((s1.getD t1.toNat 0).toNat:Int)>57)) then (bif (((s1.getD t1.toNat 0).toNat:Int) != 46) then (bif (((s1.getD t1.toNat 0).toNat:Int) != 45) then (some (((s1.getD t1.toNat 0).toNat:Int) != 95)) else
 (some false)) else
 (some false)) else
 (some false))) else
 (some false))).bind fun c=>
 (bif c then ((some false).map Sum.inr) else
 (again (s1,t,(w64 (t1+1))))))) else
 (some (.inl s1)))
def Zb4.l0:=ZaO Zb4.l0.step
theorem Zb4.l0.succ (n:Nat) t:Zb4.l0 (n+1) t=Zb4.l0.step (Zb4.l0 n) t:=rfl
def Zb4 (s:Str):Option (Bool):=
 ((Zb4.l0 (((s.length:Int)-(0:Int)).toNat+1) (s,(s.length:Int),0)).bind fun r=>match r with
 | .inl s2=>(((Za1 (s2.length:Int) 1 10).bind fun within_=>
 (bif within_ then (bif (!(s2==[46])) then (some (!(s2==[46,46]))) else
 (some false)) else
 (some false))).bind fun c1=>
 (some c1))
 | .inr r=>some r)
def Zpx (n:Int) (low:Int) (high:Int):Option (Bool):=
 ((bif (decide (n≥low)) then (some (decide (n≤high))) else
 (some false)).bind fun c=>
 (some c))
def Zc9.l0.step (again:(Str×Int×Int×Int×Int×List Str)→Option (Str×Int×List Str)):(Str×Int×Int×Int×Int×List Str)→Option (Str×Int×List Str):=fun (s1,b1,most1,from_,i,out)=>
 ((bif (decide (i<(s1.length:Int))) then (some (decide ((out.length:Int)<most1))) else
 (some false)).bind fun c=>
 (bif c then (need (decide (0≤i)&&decide (i<s1.length)) (bif (((s1.getD i.toNat 0).toNat:Int)==b1) then (need (decide (0≤i)&&decide (i≤s1.length)) (need (decide (0≤from_)&&decide (from_≤i)) (need (fits (out.length+([((s1.take i.toNat).drop from_.toNat)]:List (Str)).length)) (again (s1,b1,most1,(w64 (i+1)),(w64 (i+1)),(out++[((s1.take i.toNat).drop from_.toNat)])))))) else
 (again (s1,b1,most1,from_,(w64 (i+1)),out)))) else
 (some (s1,from_,out))))
def Zc9.l0:=ZaO Zc9.l0.step
theorem Zc9.l0.succ (n:Nat) t:Zc9.l0 (n+1) t=Zc9.l0.step (Zc9.l0 n) t:=rfl
def Zc9 (s:Str) (b:Int) (most:Int):Option (List Str):=
 ((Zc9.l0 (((s.length:Int)-(0:Int)).toNat+1) (s,b,most,0,0,[])).bind fun (s2,from_1,out1)=>
 (need (decide (0≤from_1)&&decide (from_1≤s2.length)) (need (fits (out1.length+([(s2.drop from_1.toNat)]:List (Str)).length)) (some (out1++[(s2.drop from_1.toNat)])))))
def Zaq.l0.step (again:(Int×Str×Int×List Str)→Option ((Int×Str×List Str)⊕((List Str)⊕(Bool)))):(Int×Str×Int×List Str)→Option ((Int×Str×List Str)⊕((List Str)⊕(Bool))):=fun (i1,w,k,list1)=>
 (bif (decide (k<(w.length:Int))) then ((need (decide (0≤k)&&decide (k<w.length)) (bif (decide (((w.getD k.toNat 0).toNat:Int)≥97)) then (need (decide (0≤k)&&decide (k<w.length)) (bif (decide (((w.getD k.toNat 0).toNat:Int)≤122)) then (some (!true)) else
 (need (decide (0≤k)&&decide (k<w.length)) (bif (decide (((w.getD k.toNat 0).toNat:Int)≥48)) then (need (decide (0≤k)&&decide (k<w.length)) (bif (decide (((w.getD k.toNat 0).toNat:Int)≤57)) then (some (!true)) else
 (need (decide (0≤k)&&decide (k<w.length)) (bif (((w.getD k.toNat 0).toNat:Int)==46) then (some (!true)) else
 (need (decide (0≤k)&&decide (k<w.length)) (bif (((w.getD k.toNat 0).toNat:Int)==45) then (some (!true)) else
 (need (decide (0≤k)&&decide (k<w.length)) (some (!(((w.getD k.toNat 0).toNat:Int)==95)))))))))) else
 (need (decide (0≤k)&&decide (k<w.length)) (bif (((w.getD k.toNat 0).toNat:Int)==46) then (some (!true)) else
 (need (decide (0≤k)&&decide (k<w.length)) (bif (((w.getD k.toNat 0).toNat:Int)==45) then (some (!true)) else
 (need (decide (0≤k)&&decide (k<w.length)) (some (!(((w.getD k.toNat 0).toNat:Int)==95)))))))))))) else
 (need (decide (0≤k)&&decide (k<w.length)) (bif (decide (((w.getD k.toNat 0).toNat:Int)≥48)) then (need (decide (0≤k)&&decide (k<w.length)) (bif (decide (((w.getD k.toNat 0).toNat:Int)≤57)) then (some (!true)) else
 (need (decide (0≤k)&&decide (k<w.length)) (bif (((w.getD k.toNat 0).toNat:Int)==46) then (some (!true)) else
 (need (decide (0≤k)&&decide (k<w.length)) (bif (((w.getD k.toNat 0).toNat:Int)==45) then (some (!true)) else
 (need (decide (0≤k)&&decide (k<w.length)) (some (!(((w.getD k.toNat 0).toNat:Int)==95)))))))))) else
 (need (decide (0≤k)&&decide (k<w.length)) (bif (((w.getD k.toNat 0).toNat:Int)==46) then (some (!true)) else
 (need (decide (0≤k)&&decide (k<w.length)) (bif (((w.getD k.toNat 0).toNat:Int)==45) then (some (!true)) else
 (need (decide (0≤k)&&decide (k<w.length)) (some (!(((w.getD k.toNat 0).toNat:Int)==95)))))))))))).bind fun c=>
 (bif c then (((some false).map Sum.inr).map Sum.inr) else
 (again (i1,w,(w64 (k+1)),list1)))) else
 (some (.inl (i1,w,list1))))
def Zaq.l0:=ZaO Zaq.l0.step
theorem Zaq.l0.succ (n:Nat) t:Zaq.l0 (n+1) t=Zaq.l0.step (Zaq.l0 n) t:=rfl
def Zaq.l1.step (again:(Int×List Str)→Option ((List Str)⊕(Bool))):(Int×List Str)→Option ((List Str)⊕(Bool)):=fun (i,list)=>
 (bif (decide (i<(list.length:Int))) then (need (decide (0≤i)&&decide (i<list.length)) ((Zaq.l0 ((((list.getD i.toNat []).length:Int)-(0:Int)).toNat+1) (i,(list.getD i.toNat []),0,list)).bind fun r=>match r with
 | .inl (i2,w1,list2)=>(((Zpx (w1.length:Int) 1 10).bind fun l1In_=>
 (bif (!l1In_) then (some true) else
 (bif (w1==[46]) then (some true) else
 (some (w1==[46,46]))))).bind fun c1=>
 (bif c1 then ((some false).map Sum.inr) else
 (again ((w64 (i2+1)),list2))))
 | .inr r=>some r)) else
 (some (.inl list)))
def Zaq.l1:=ZaO Zaq.l1.step
theorem Zaq.l1.succ (n:Nat) t:Zaq.l1 (n+1) t=Zaq.l1.step (Zaq.l1 n) t:=rfl
def Zaq (s:Str):Option (Bool):=
 ((Zc9 s 47 (w64 ((s.length:Int)+1))).bind fun l1Cut_=>
 ((Zaq.l1 (((l1Cut_.length:Int)-(0:Int)).toNat+1) (0,l1Cut_)).bind fun r=>match r with
 | .inl list3=>(some (decide ((list3.length:Int)≤4)))
 | .inr r=>some r))
def ZcX (a:Str) (b:Str):Option (Bool):=
 ((bif (decide ((b.length:Int)>(a.length:Int))) then (need (decide (0≤(a.length:Int))&&decide ((a.length:Int)≤b.length)) (bif ((b.take (a.length:Int).toNat)==a) then (need (decide (0≤(a.length:Int))&&decide ((a.length:Int)<b.length)) (some (((b.getD (a.length:Int).toNat 0).toNat:Int)==47))) else
 (some false))) else
 (some false)).bind fun c=>
 (some c))
def Zag.l0.step (again:((List (Str×Str))×Int×Int)→Option (((List (Str×Str))×Int)⊕((List (Str×Str))⊕(Bool)))):((List (Str×Str))×Int×Int)→Option (((List (Str×Str))×Int)⊕((List (Str×Str))⊕(Bool))):=fun (t1,i1,k)=>
 (bif (decide (k<(t1.length:Int))) then (need (decide (0≤i1)&&decide (i1<t1.length)) (need (decide (0≤k)&&decide (k<t1.length)) ((ZcX ((t1.getD i1.toNat ([],[])).1) ((t1.getD k.toNat ([],[])).1)).bind fun l7Under_=>
 (bif l7Under_ then (((some false).map Sum.inr).map Sum.inr) else
 (again (t1,i1,(w64 (k+1)))))))) else
 (some (.inl (t1,i1))))
def Zag.l0:=ZaO Zag.l0.step
theorem Zag.l0.succ (n:Nat) t:Zag.l0 (n+1) t=Zag.l0.step (Zag.l0 n) t:=rfl
def Zag.l1.step (again:((List (Str×Str))×Int)→Option ((List (Str×Str))⊕(Bool))):((List (Str×Str))×Int)→Option ((List (Str×Str))⊕(Bool)):=fun (t,i)=>
 (bif (decide (i<(t.length:Int))) then ((need (decide (0≤i)&&decide (i<t.length)) ((Zaq ((t.getD i.toNat ([],[])).1)).bind fun NameOk=>
 (bif (!NameOk) then (some true) else
 (need (decide (0≤i)&&decide (i<t.length)) (bif (decide ((((t.getD i.toNat ([],[])).2).length:Int)>300)) then (some true) else
 (bif (decide (i>0)) then (need (decide (0≤(w64 (i-1)))&&decide ((w64 (i-1))<t.length)) (need (decide (0≤i)&&decide (i<t.length)) (some (!(Op.bytesLess ((t.getD (w64 (i-1)).toNat ([],[])).1) ((t.getD i.toNat ([],[])).1)))))) else
 (some false))))))).bind fun c=>
 (bif c then ((some false).map Sum.inr) else
 ((Zag.l0 (((t.length:Int)-(0:Int)).toNat+1) (t,i,0)).bind fun r=>match r with
 | .inl (t2,i2)=>(again (t2,(w64 (i2+1))))
 | .inr r=>some r))) else
 (some (.inl t)))
def Zag.l1:=ZaO Zag.l1.step
theorem Zag.l1.succ (n:Nat) t:Zag.l1 (n+1) t=Zag.l1.step (Zag.l1 n) t:=rfl
def Zag (xs:List (Str×Str)):Option (Bool):=
 ((Zag.l1 (((xs.length:Int)-(0:Int)).toNat+1) (xs,0)).bind fun r=>match r with
 | .inl t3=>(some (decide ((t3.length:Int)≤8)))
 | .inr r=>some r)
def ZbM (s:Str) (p:Str):Option (Bool):=
 ((bif (decide ((s.length:Int)≥(p.length:Int))) then (need (decide (0≤(p.length:Int))&&decide ((p.length:Int)≤s.length)) (some ((s.take (p.length:Int).toNat)==p))) else
 (some false)).bind fun c=>
 (some c))
def Zbe (s:Str) (p:Str):Option (Bool):=
 ((ZbM s p).bind fun HasPrefi=>
 (some HasPrefi))
def Zbw (s:Str) (c:Int):Option (Int):=some (idxB s c)
def Zcw (s:Str) (c:Int):Option (Int):=some (cntB s c)
def ZbL (s:Str) (c:Int):Option (Int):=
 ((Zbw s c).bind fun IndexByt=>
 (some IndexByt))
def Zda (s:Str):Option (Int):=
 ((some (([47]:Str)==s)).bind fun c=>
 (bif c then (some 0) else
 ((ZbL s 47).bind fun IndexByt=>
 (some IndexByt))))
def ZdR (s:Str):Option (Int):=
 ((Zda s).bind fun Index=>
 (some Index))
def Zed (s:Str):Option (Int):=
 ((Zcw s 47).bind fun CountStr=>
 (some CountStr))
def ZaN.l0.step (again:(Str×Int×Int×List Str)→Option (Str×Int×List Str)):(Str×Int×Int×List Str)→Option (Str×Int×List Str):=fun (s2,n1,i,a)=>
 (bif (decide (i<n1)) then ((ZdR s2).bind fun Index=>
 (bif (decide (Index<0)) then (some (s2,i,a)) else
 (need (decide (0≤(w64 (Index+0)))&&decide ((w64 (Index+0))≤s2.length)) (need (decide (0≤i)&&decide (i<a.length)) (need (decide (0≤(w64 (Index+1)))&&decide ((w64 (Index+1))≤s2.length)) (again ((s2.drop (w64 (Index+1)).toNat),n1,(w64 (i+1)),(a.set i.toNat (s2.take (w64 (Index+0)).toNat))))))))) else
 (some (s2,i,a)))
def ZaN.l0:=ZaO ZaN.l0.step
theorem ZaN.l0.succ (n:Nat) t:ZaN.l0 (n+1) t=ZaN.l0.step (ZaN.l0 n) t:=rfl
def ZaN (s:Str):Option (List Str):=
 ((((Zed s).bind fun Count=>
 (some (s,(w64 (Count+1))))):Option (Str×Int)).bind fun (s1,n)=>
 (need (decide (0≤(Zlq n (w64 ((s1.length:Int)+1))))&&fits (Zlq n (w64 ((s1.length:Int)+1))).toNat) ((ZaN.l0 (((w64 ((Zlq n (w64 ((s1.length:Int)+1)))-1))-(0:Int)).toNat+1) (s1,(w64 ((Zlq n (w64 ((s1.length:Int)+1)))-1)),0,(List.replicate (Zlq n (w64 ((s1.length:Int)+1))).toNat ([]:Str)))).bind fun (s3,i1,a1)=>
 (need (decide (0≤i1)&&decide (i1<a1.length)) (need (decide (0≤(w64 (i1+1)))&&decide ((w64 (i1+1))≤(a1.set i1.toNat s3).length)) (some (((a1.set i1.toNat s3).drop 0).take ((w64 (i1+1)).toNat))))))))
def ZdL (s:Str):Option (List Str):=
 ((ZaN s).bind fun genSplit=>
 (some genSplit))
def Zat.l0.step (again:(List Str×List Str×Int×Int)→Option ((List Str)⊕(Bool))):(List Str×List Str×Int×Int)→Option ((List Str)⊕(Bool)):=fun (parts,t,t1,t2)=>
 (bif (decide (t2<t1)) then (need (decide (0≤t2)&&decide (t2<t.length)) ((Zb4 (t.getD t2.toNat [])).bind fun partOk_=>
 (bif (!partOk_) then ((some false).map Sum.inr) else
 (again (parts,t,t1,(w64 (t2+1))))))) else
 (some (.inl parts)))
def Zat.l0:=ZaO Zat.l0.step
theorem Zat.l0.succ (n:Nat) t:Zat.l0 (n+1) t=Zat.l0.step (Zat.l0 n) t:=rfl
def Zat (s:Str):Option (Bool):=
 ((ZdL s).bind fun Split=>
 ((Zat.l0 (((Split.length:Int)-(0:Int)).toNat+1) (Split,Split,(Split.length:Int),0)).bind fun r=>match r with
 | .inl parts1=>(some (decide ((parts1.length:Int)≤4)))
 | .inr r=>some r))
def ZbX.l0.step (again:(List Str×Str×List Str×Int×Int×List Str×Int×Int)→Option ((List Str×List Str×Int×Int)⊕((Unit)⊕(Bool)))):(List Str×Str×List Str×Int×Int×List Str×Int×Int)→Option ((List Str×List Str×Int×Int)⊕((Unit)⊕(Bool))):=fun (names1,a,t3,t4,t5,t6,t7,t8)=>
 (bif (decide (t8<t7)) then (need (decide (0≤t8)&&decide (t8<t6.length)) ((bif (a==(t6.getD t8.toNat [])) then (some true) else
 (need (fits ((t6.getD t8.toNat []).length+([47]:Str).length)) ((Zbe a ((t6.getD t8.toNat [])++[47])).bind fun HasPrefi=>
 (bif HasPrefi then (some true) else
 (need (fits (a.length+([47]:Str).length)) ((Zbe (t6.getD t8.toNat []) (a++[47])).bind fun HasPrefi1=>
 (some HasPrefi1))))))).bind fun c=>
 (bif c then (((some false).map Sum.inr).map Sum.inr) else
 (again (names1,a,t3,t4,t5,t6,t7,(w64 (t8+1))))))) else
 (some (.inl (names1,t3,t4,t5))))
def ZbX.l0:=ZaO ZbX.l0.step
theorem ZbX.l0.succ (n:Nat) t:ZbX.l0 (n+1) t=ZbX.l0.step (ZbX.l0 n) t:=rfl
def ZbX.l1.step (again:(List Str×List Str×Int×Int)→Option ((Unit)⊕(Bool))):(List Str×List Str×Int×Int)→Option ((Unit)⊕(Bool)):=fun (names,t,t1,t2)=>
 (bif (decide (t2<t1)) then (need (decide (0≤t2)&&decide (t2<t.length)) (need (decide (0≤t2)&&decide (t2≤names.length)) ((ZbX.l0 ((((names.take t2.toNat).length:Int)-(0:Int)).toNat+1) (names,(t.getD t2.toNat []),t,t1,t2,(names.take t2.toNat),((names.take t2.toNat).length:Int),0)).bind fun r=>match r with
 | .inl (names2,t9,t10,t11)=>(again (names2,t9,t10,(w64 (t11+1))))
 | .inr r=>some r))) else
 (some (.inl ())))
def ZbX.l1:=ZaO ZbX.l1.step
theorem ZbX.l1.succ (n:Nat) t:ZbX.l1 (n+1) t=ZbX.l1.step (ZbX.l1 n) t:=rfl
def ZbX (xs:List Str):Option (Bool):=
 ((ZbX.l1 (((xs.length:Int)-(0:Int)).toNat+1) (xs,xs,(xs.length:Int),0)).bind fun r=>match r with
 | .inl _=>(some true)
 | .inr r=>some r)
def Zal.l0.step (again:((List (Str×Str))×(List (Str×Str))×Int×Int×List Str)→Option (((List (Str×Str))×List Str)⊕(Bool))):((List (Str×Str))×(List (Str×Str))×Int×Int×List Str)→Option (((List (Str×Str))×List Str)⊕(Bool)):=fun (t,t1,t2,t3,paths)=>
 (bif (decide (t3<t2)) then (need (decide (0≤t3)&&decide (t3<t1.length)) (((Zat ((t1.getD t3.toNat ([],[])).1)).bind fun NameOk=>
 (bif (!NameOk) then (some true) else
 (bif (decide ((((t1.getD t3.toNat ([],[])).2).length:Int)>300)) then (some true) else
 (bif (decide (t3>0)) then (need (decide (0≤(w64 (t3-1)))&&decide ((w64 (t3-1))<t.length)) (some (!(Op.bytesLess ((t.getD (w64 (t3-1)).toNat ([],[])).1) ((t1.getD t3.toNat ([],[])).1))))) else
 (some false))))).bind fun c=>
 (bif c then ((some false).map Sum.inr) else
 (need (fits (paths.length+([(t1.getD t3.toNat ([],[])).1]:List (Str)).length)) (again (t,t1,t2,(w64 (t3+1)),(paths++[(t1.getD t3.toNat ([],[])).1]))))))) else
 (some (.inl (t,paths))))
def Zal.l0:=ZaO Zal.l0.step
theorem Zal.l0.succ (n:Nat) t:Zal.l0 (n+1) t=Zal.l0.step (Zal.l0 n) t:=rfl
def Zal (xs:List (Str×Str)):Option (Bool):=
 ((Zal.l0 (((xs.length:Int)-(0:Int)).toNat+1) (xs,xs,(xs.length:Int),0,[])).bind fun r=>match r with
 | .inl (t4,paths1)=>((bif (decide ((t4.length:Int)≤8)) then ((ZbX paths1).bind fun apart_=>
 (some apart_)) else
 (some false)).bind fun c1=>
 (some c1))
 | .inr r=>some r)
def ZcU (num:Int) (bits:Int):Option (Bool):=
 (((Za1 bits 0 16).bind fun within_=>
 (bif within_ then (need (decide (0≤bits)) ((Za1 num 0 (w64 ((ZmY .i64 1 bits)-1))).bind fun within_1=>
 (some within_1))) else
 (some false))).bind fun c=>
 (some c))
def Zdf.l0.step (again:(Int×Int×Int×Int×List Int)→Option (Int×List Int)):(Int×Int×Int×Int×List Int)→Option (Int×List Int):=fun (num1,t,t1,o,o1)=>
 (bif (decide (t1<t)) then (((bif ((o.tmod 8)==0) then (need (fits (o1.length+([0]:List (Int)).length)) (some (num1,t1,t,t1,o,(o1++[0])))) else
 (some (num1,t1,t,t1,o,o1))):Option (Int×Int×Int×Int×Int×List Int)).bind fun (num2,k,t2,t3,o2,o3)=>
 (need (decide (0≤(w64 (o2.tdiv 8)))&&decide ((w64 (o2.tdiv 8))<o3.length)) (need (decide (0≤k)) (need (decide (0≤(o2.tmod 8))) (need (decide (0≤(w64 (o2.tdiv 8)))&&decide ((w64 (o2.tdiv 8))<o3.length)) (again (num2,t2,(w64 (t3+1)),(w64 (o2+1)),(o3.set ((w64 (o2.tdiv 8)).toNat) (ior .u8 (o3.getD ((w64 (o2.tdiv 8)).toNat) 0) (IntKind.wrap .u8 (ZmY .i64 (Zhu .i64 (Zju .i64 num2 k) 1) (o2.tmod 8)))))))))))) else
 (some (o,o1)))
def Zdf.l0:=ZaO Zdf.l0.step
theorem Zdf.l0.succ (n:Nat) t:Zdf.l0 (n+1) t=Zdf.l0.step (Zdf.l0 n) t:=rfl
def Zdf (num:Int) (bits:Int) (many:Int) (b:List Int):Option (Int×List Int):=
 ((Zdf.l0 ((bits-(0:Int)).toNat+1) (num,bits,0,many,b)).bind fun (o4,o5)=>
 (some (o4,o5)))
def Zgp (many:Int) (b:List Int):Option (Int×List Int):=
 (some ((w64 (8*(b.length:Int))),b))
def ZfR (s:Str) (at_:Int) (bad:Bool):Option (Int×Str×Int×Bool):=
 (bif (decide (at_≥(w64 (8*(s.length:Int))))) then (some (0,s,at_,true)) else
 (need (decide (0≤(w64 (at_.tdiv 8)))&&decide ((w64 (at_.tdiv 8))<s.length)) (need (decide (0≤(at_.tmod 8))) (some ((Zhu .i64 (Zju .i64 (w64 ((s.getD (w64 (at_.tdiv 8)).toNat 0).toNat:Int)) (at_.tmod 8)) 1),s,(w64 (at_+1)),bad)))))
def Zdh.l0.step (again:(Int×Int×Int×Str×Int×Bool)→Option (Int×Str×Int×Bool)):(Int×Int×Int×Str×Int×Bool)→Option (Int×Str×Int×Bool):=fun (n,t,t1,o,o1,o2)=>
 (bif (decide (t1<t)) then ((ZfR o o1 o2).bind fun (r,r1,r2,r3)=>
 (need (decide (0≤t1)) (again ((ior .i64 n (ZmY .i64 r t1)),t,(w64 (t1+1)),r1,r2,r3)))) else
 (some (n,o,o1,o2)))
def Zdh.l0:=ZaO Zdh.l0.step
theorem Zdh.l0.succ (n:Nat) t:Zdh.l0 (n+1) t=Zdh.l0.step (Zdh.l0 n) t:=rfl
def Zdh (bits:Int) (s:Str) (at_:Int) (bad:Bool):Option (Int×Str×Int×Bool):=
 ((Zdh.l0 ((bits-(0:Int)).toNat+1) (0,bits,0,s,at_,bad)).bind fun (n1,o3,o4,o5)=>
 (some (n1,o3,o4,o5)))
def ZcQ.l0.step (again:(Str×Int×Bool)→Option (Str×Int×Bool)):(Str×Int×Bool)→Option (Str×Int×Bool):=fun (o,o1,o2)=>
 (bif ((o1.tmod 8) != 0) then ((ZfR o o1 o2).bind fun (r,r1,r2,r3)=>
 (bif (r != 0) then (again (r1,r2,true)) else
 (again (r1,r2,r3)))) else
 (some (o,o1,o2)))
def ZcQ.l0:=ZaO ZcQ.l0.step
theorem ZcQ.l0.succ (n:Nat) t:ZcQ.l0 (n+1) t=ZcQ.l0.step (ZcQ.l0 n) t:=rfl
def ZcQ (s:Str) (at_:Int) (bad:Bool):Option (Str×Int×Bool):=
 ((ZcQ.l0 (9) (s,at_,bad)).bind fun (o3,o4,o5)=>
 (some (o3,o4,o5)))
def Za4.l0.step (again:(Int×Int×Int×Int)→Option (Int)):(Int×Int×Int×Int)→Option (Int):=fun (num1,out,t,t1)=>
 (bif (decide (t1<t)) then (need (decide (0≤t1)) (again (num1,(w64 ((w64 (2*out))+(Zhu .i64 (Zju .i64 num1 t1) 1))),t,(w64 (t1+1))))) else
 (some out))
def Za4.l0:=ZaO Za4.l0.step
theorem Za4.l0.succ (n:Nat) t:Za4.l0 (n+1) t=Za4.l0.step (Za4.l0 n) t:=rfl
def Za4 (num:Int) (bits:Int):Option (Int):=
 ((ZcU num bits).bind fun pieceOk_=>
 (bif (!pieceOk_) then (some (-1)) else
 ((Za4.l0 ((bits-(0:Int)).toNat+1) (num,0,bits,0)).bind fun out1=>
 (some out1))))
def Zau.l0.step (again:(Int×Str×Int×Int)→Option (Int×Str×Int)):(Int×Str×Int×Int)→Option (Int×Str×Int):=fun (crc_2,text2,k1,t)=>
 (bif (decide (t<8)) then (again ((Zlr .u32 (Zju .u32 crc_2 1) (IntKind.wrap .u32 (3988292384*(Zhu .u32 crc_2 1)))),text2,k1,(w64 (t+1)))) else
 (some (crc_2,text2,k1)))
def Zau.l0:=ZaO Zau.l0.step
theorem Zau.l0.succ (n:Nat) t:Zau.l0 (n+1) t=Zau.l0.step (Zau.l0 n) t:=rfl
def Zau.l1.step (again:(Int×Str×Int)→Option (Int)):(Int×Str×Int)→Option (Int):=fun (crc_1,text1,k)=>
 (bif (decide (k<(text1.length:Int))) then (need (decide (0≤k)&&decide (k<text1.length)) ((Zau.l0 ((8-(0:Int)).toNat+1) ((Zlr .u32 crc_1 (IntKind.wrap .u32 ((text1.getD k.toNat 0).toNat:Int))),text1,k,0)).bind fun (crc_3,text3,k2)=>
 (again (crc_3,text3,(w64 (k2+1)))))) else
 (some crc_1))
def Zau.l1:=ZaO Zau.l1.step
theorem Zau.l1.succ (n:Nat) t:Zau.l1 (n+1) t=Zau.l1.step (Zau.l1 n) t:=rfl
def Zau (crc_:Int) (text:Str):Option (Int):=
 ((Zau.l1 (((text.length:Int)-(0:Int)).toNat+1) ((Zlr .u32 (IntKind.max .u32) crc_),text,0)).bind fun crc_4=>
 (some (Zlr .u32 (IntKind.max .u32) crc_4)))
def crc (text:Str):Option (Int):=
 ((Zau 0 text).bind fun crcUpdat=>
 (some (w64 crcUpdat)))
def Zbp.l0.step (again:(Int×Int×Int×List Int×Int×Int)→Option ((Int×Int×Int)⊕(Bool))):(Int×Int×Int×List Int×Int×Int)→Option ((Int×Int×Int)⊕(Bool)):=fun (sum,many,last,t,t1,t2)=>
 (bif (decide (t2<t1)) then (need (decide (0≤t2)&&decide (t2<t.length)) ((Za1 (t.getD t2.toNat 0) 0 15).bind fun within_=>
 (bif (!within_) then ((some false).map Sum.inr) else
 (bif (decide ((t.getD t2.toNat 0)>0)) then (need (decide (0≤(w64 (15-(t.getD t2.toNat 0))))) (again ((w64 (sum+(ZmY .i64 1 (w64 (15-(t.getD t2.toNat 0)))))),(w64 (many+1)),(t.getD t2.toNat 0),t,t1,(w64 (t2+1))))) else
 (again (sum,many,last,t,t1,(w64 (t2+1)))))))) else
 (some (.inl (sum,many,last))))
def Zbp.l0:=ZaO Zbp.l0.step
theorem Zbp.l0.succ (n:Nat) t:Zbp.l0 (n+1) t=Zbp.l0.step (Zbp.l0 n) t:=rfl
def Zbp (lens:List Int):Option (Bool):=
 (bif (decide ((lens.length:Int)>300)) then (some false) else
 ((Zbp.l0 (((lens.length:Int)-(0:Int)).toNat+1) (0,0,0,lens,(lens.length:Int),0)).bind fun r=>match r with
 | .inl (sum1,many1,last1)=>((bif (sum1==32768) then (some true) else
 (bif (many1==1) then (some (last1==1)) else
 (some false))).bind fun c=>
 (some c))
 | .inr r=>some r))
def ZbK.l0.step (again:(List Int×Int×Int×List Int×Int×Int×List Int)→Option (List Int×Int×Int×List Int)):(List Int×Int×Int×List Int×Int×Int×List Int)→Option (List Int×Int×Int×List Int):=fun (lens2,next_1,l1,t,t1,t2,out1)=>
 (bif (decide (t2<t1)) then (need (decide (0≤t2)&&decide (t2<t.length)) (bif ((t.getD t2.toNat 0)==l1) then (need (decide (0≤t2)&&decide (t2<out1.length)) (again (lens2,(w64 (next_1+1)),l1,t,t1,(w64 (t2+1)),(out1.set t2.toNat next_1)))) else
 (again (lens2,next_1,l1,t,t1,(w64 (t2+1)),out1)))) else
 (some (lens2,next_1,l1,out1)))
def ZbK.l0:=ZaO ZbK.l0.step
theorem ZbK.l0.succ (n:Nat) t:ZbK.l0 (n+1) t=ZbK.l0.step (ZbK.l0 n) t:=rfl
def ZbK.l1.step (again:(List Int×Int×Int×List Int)→Option (List Int)):(List Int×Int×Int×List Int)→Option (List Int):=fun (lens1,next_,l,out)=>
 (bif (decide (l≤15)) then ((ZbK.l0 (((lens1.length:Int)-(0:Int)).toNat+1) (lens1,next_,l,lens1,(lens1.length:Int),0,out)).bind fun (lens3,next_2,l2,out2)=>
 (again (lens3,(w64 (next_2*2)),(w64 (l2+1)),out2))) else
 (some out))
def ZbK.l1:=ZaO ZbK.l1.step
theorem ZbK.l1.succ (n:Nat) t:ZbK.l1 (n+1) t=ZbK.l1.step (ZbK.l1 n) t:=rfl
def ZbK (lens:List Int):Option (List Int):=
 (need (decide (0≤(lens.length:Int))&&fits (lens.length:Int).toNat) ((ZbK.l1 ((15-(1:Int)).toNat+2) (lens,0,1,(List.replicate (lens.length:Int).toNat (0:Int)))).bind fun out3=>
 (some out3)))
def ZaP.l0.step (again:((List (Int×List Int))×Int×(List (Int×List Int))×Int×Int×Int×List Int)→Option ((List (Int×List Int))×Int×Int×List Int)):((List (Int×List Int))×Int×(List (Int×List Int))×Int×Int×Int×List Int)→Option ((List (Int×List Int))×Int×Int×List Int):=fun (list1,at_,t,t1,t2,o,o1)=>
 (bif (decide (t2<t1)) then (need (decide (0≤t2)&&decide (t2<t.length)) ((need (decide (0≤at_)&&decide (at_<list1.length)) (bif (decide ((t.getD t2.toNat (0,[])).1<(list1.getD at_.toNat (0,[])).1)) then (some true) else
 (need (decide (0≤at_)&&decide (at_<list1.length)) (bif ((t.getD t2.toNat (0,[])).1==(list1.getD at_.toNat (0,[])).1) then (need (decide (0≤(0:Int))&&decide ((0:Int)<((t.getD t2.toNat (0,[])).2).length)) (need (decide (0≤at_)&&decide (at_<list1.length)) (need (decide (0≤(0:Int))&&decide ((0:Int)<((list1.getD at_.toNat (0,[])).2).length)) (some (decide ((((t.getD t2.toNat (0,[])).2).getD 0 0)<(((list1.getD at_.toNat (0,[])).2).getD 0 0))))))) else
 (some false))))).bind fun c=>
 (bif c then (again (list1,t2,t,t1,(w64 (t2+1)),o,o1)) else
 (again (list1,at_,t,t1,(w64 (t2+1)),o,o1))))) else
 (some (list1,at_,o,o1)))
def ZaP.l0:=ZaO ZaP.l0.step
theorem ZaP.l0.succ (n:Nat) t:ZaP.l0 (n+1) t=ZaP.l0.step (ZaP.l0 n) t:=rfl
def ZaP (list:List (Int×List Int)):Option (Int×List Int×List (Int×List Int)):=
 ((ZaP.l0 (((list.length:Int)-(0:Int)).toNat+1) (list,0,list,(list.length:Int),0,0,[])).bind fun (list2,at_1,o2,o3)=>
 (need (decide (0≤at_1)&&decide (at_1<list2.length)) (need (decide (0≤at_1)&&decide (at_1≤list2.length)) (need (fits (([]:List (Int×List Int)).length+(list2.take at_1.toNat).length)) (need (decide (0≤(w64 (at_1+1)))&&decide ((w64 (at_1+1))≤list2.length)) (need (fits (([]++(list2.take at_1.toNat)).length+(list2.drop (w64 (at_1+1)).toNat).length)) (some ((list2.getD at_1.toNat (0,[])).1,(list2.getD at_1.toNat (0,[])).2,(([]++(list2.take at_1.toNat))++(list2.drop (w64 (at_1+1)).toNat))))))))))
def ZaQ.l1.step (again:(Int×Int×List Int×Int×List Int×Int×List Int×(List (Int×List Int))×List Int)→Option (List Int×Int×List Int×Int×List Int×(List (Int×List Int))×List Int)):(Int×Int×List Int×Int×List Int×Int×List Int×(List (Int×List Int))×List Int)→Option (List Int×Int×List Int×Int×List Int×(List (Int×List Int))×List Int):=fun (t3,t4,out3,o,o1,o2,o3,left,o4)=>
 (bif (decide (t4<t3)) then (need (decide (0≤t4)&&decide (t4<o4.length)) (need (decide (0≤(o4.getD t4.toNat 0))&&decide ((o4.getD t4.toNat 0)<out3.length)) (need (decide (0≤(o4.getD t4.toNat 0))&&decide ((o4.getD t4.toNat 0)<out3.length)) (need (decide (0≤(0:Int))&&decide ((0:Int)<o4.length)) (bif (decide ((o4.getD t4.toNat 0)<(o4.getD 0 0))) then (need (decide (0≤(0:Int))&&decide ((0:Int)<o4.length)) (need (decide (0≤(0:Int))&&decide ((0:Int)<o4.length)) (need (decide (0≤t4)&&decide (t4<(o4.set 0 (o4.getD t4.toNat 0)).length)) (again (t3,(w64 (t4+1)),(out3.set ((o4.getD t4.toNat 0).toNat) (w64 ((out3.getD ((o4.getD t4.toNat 0).toNat) 0)+1))),o,o1,o2,o3,left,((o4.set 0 (o4.getD t4.toNat 0)).set t4.toNat (o4.getD 0 0))))))) else
 (again (t3,(w64 (t4+1)),(out3.set ((o4.getD t4.toNat 0).toNat) (w64 ((out3.getD ((o4.getD t4.toNat 0).toNat) 0)+1))),o,o1,o2,o3,left,o4))))))) else
 (some (out3,o,o1,o2,o3,left,o4)))
def ZaQ.l1:=ZaO ZaQ.l1.step
theorem ZaQ.l1.succ (n:Nat) t:ZaQ.l1 (n+1) t=ZaQ.l1.step (ZaQ.l1 n) t:=rfl
def ZaQ.l2.step (again:(List Int×List (Int×List Int))→Option (List Int)):(List Int×List (Int×List Int))→Option (List Int):=fun (out2,list2)=>
 (bif (decide ((list2.length:Int)>1)) then ((ZaP list2).bind fun (r,r1,r2)=>
 ((ZaP r2).bind fun (r3,r4,r5)=>
 (need (fits (([]:List (Int)).length+r1.length)) (need (fits (([]++r1).length+r4.length)) ((ZaQ.l1 ((((([]++r1)++r4).length:Int)-(0:Int)).toNat+1) (((([]++r1)++r4).length:Int),0,out2,r,r1,r3,r4,r5,(([]++r1)++r4))).bind fun (out4,o5,o6,o7,o8,left1,syms)=>
 (need (fits (left1.length+([((w64 (o5+o7)),syms)]:List (Int×List Int)).length)) (again (out4,(left1++[((w64 (o5+o7)),syms)]))))))))) else
 (some out2))
def ZaQ.l2:=ZaO ZaQ.l2.step
theorem ZaQ.l2.succ (n:Nat) t:ZaQ.l2 (n+1) t=ZaQ.l2.step (ZaQ.l2 n) t:=rfl
def ZaQ.l0.step (again:(List Int×Int×Int×List Int×List (Int×List Int))→Option (List Int×List (Int×List Int))):(List Int×Int×Int×List Int×List (Int×List Int))→Option (List Int×List (Int×List Int)):=fun (t,t1,t2,out,list)=>
 (bif (decide (t2<t1)) then (need (decide (0≤t2)&&decide (t2<t.length)) (bif (decide ((t.getD t2.toNat 0)>0)) then (need (fits (list.length+([((t.getD t2.toNat 0),[t2])]:List (Int×List Int)).length)) (again (t,t1,(w64 (t2+1)),out,(list++[((t.getD t2.toNat 0),[t2])])))) else
 (again (t,t1,(w64 (t2+1)),out,list)))) else
 (some (out,list)))
def ZaQ.l0:=ZaO ZaQ.l0.step
theorem ZaQ.l0.succ (n:Nat) t:ZaQ.l0 (n+1) t=ZaQ.l0.step (ZaQ.l0 n) t:=rfl
def ZaQ (counts:List Int):Option (List Int):=
 (need (decide (0≤(counts.length:Int))&&fits (counts.length:Int).toNat) ((ZaQ.l0 (((counts.length:Int)-(0:Int)).toNat+1) (counts,(counts.length:Int),0,(List.replicate (counts.length:Int).toNat (0:Int)),[])).bind fun (out1,list1)=>
 (bif ((list1.length:Int)==1) then (need (decide (0≤(0:Int))&&decide ((0:Int)<list1.length)) (need (decide (0≤(0:Int))&&decide ((0:Int)<((list1.getD 0 (0,[])).2).length)) (need (decide (0≤(((list1.getD 0 (0,[])).2).getD 0 0))&&decide ((((list1.getD 0 (0,[])).2).getD 0 0)<out1.length)) (some (out1.set ((((list1.getD 0 (0,[])).2).getD 0 0).toNat) 1))))) else
 ((ZaQ.l2 (((list1.length:Int)-1).toNat+1) (out1,list1)).bind fun out5=>
 (some out5)))))
def Zaz.l2.step (again:(Int×Int×Int×List Int)→Option (Int×List Int)):(Int×Int×Int×List Int)→Option (Int×List Int):=fun (most6,t5,t6,now5)=>
 (bif (decide (t6<t5)) then (need (decide (0≤t6)&&decide (t6<now5.length)) (need (decide (0≤t6)&&decide (t6<now5.length)) (again (most6,t5,(w64 (t6+1)),(now5.set t6.toNat (w64 ((w64 ((now5.getD t6.toNat 0)+1)).tdiv 2))))))) else
 (some (most6,now5)))
def Zaz.l2:=ZaO Zaz.l2.step
theorem Zaz.l2.succ (n:Nat) t:Zaz.l2 (n+1) t=Zaz.l2.step (Zaz.l2 n) t:=rfl
def Zaz.l1.step (again:(Int×Int×Int×Int×List Int×List Int)→Option (Int×Int×List Int×List Int)):(Int×Int×Int×Int×List Int×List Int)→Option (Int×Int×List Int×List Int):=fun (most4,long,t3,t4,now3,o)=>
 (bif (decide (t4<t3)) then (need (decide (0≤t4)&&decide (t4<o.length)) (again (most4,(Zp4 long (o.getD t4.toNat 0)),t3,(w64 (t4+1)),now3,o))) else
 (some (most4,long,now3,o)))
def Zaz.l1:=ZaO Zaz.l1.step
theorem Zaz.l1.succ (n:Nat) t:Zaz.l1 (n+1) t=Zaz.l1.step (Zaz.l1 n) t:=rfl
def Zaz.l3.step (again:(Int×List Int)→Option ((Unit)⊕(List Int))):(Int×List Int)→Option ((Unit)⊕(List Int)):=fun (most3,now2)=>
 ((ZaQ now2).bind fun depths_=>
 ((Zaz.l1 (((depths_.length:Int)-(0:Int)).toNat+1) (most3,0,(depths_.length:Int),0,now2,depths_)).bind fun (most5,long1,now4,out)=>
 (bif (decide (long1≤most5)) then ((some out).map Sum.inr) else
 ((Zaz.l2 (((now4.length:Int)-(0:Int)).toNat+1) (most5,(now4.length:Int),0,now4)).bind fun (most7,now6)=>
 (again (most7,now6))))))
def Zaz.l3:=ZaO Zaz.l3.step
theorem Zaz.l3.succ (n:Nat) t:Zaz.l3 (n+1) t=Zaz.l3.step (Zaz.l3 n) t:=rfl
def Zaz.l0.step (again:(Int×Int×List Int×Int×Int×List Int)→Option ((Int×Int×List Int)⊕(List Int))):(Int×Int×List Int×Int×Int×List Int)→Option ((Int×Int×List Int)⊕(List Int)):=fun (most1,many,t,t1,t2,now)=>
 (bif (decide (t2<t1)) then (need (decide (0≤t2)&&decide (t2<t.length)) ((Za1 (t.getD t2.toNat 0) 0 100000).bind fun within_1=>
 (bif (!within_1) then ((some []).map Sum.inr) else
 (bif (decide ((t.getD t2.toNat 0)>0)) then (need (fits (now.length+([(t.getD t2.toNat 0)]:List (Int)).length)) (again (most1,(w64 (many+1)),t,t1,(w64 (t2+1)),(now++[(t.getD t2.toNat 0)])))) else
 (need (fits (now.length+([(t.getD t2.toNat 0)]:List (Int)).length)) (again (most1,many,t,t1,(w64 (t2+1)),(now++[(t.getD t2.toNat 0)])))))))) else
 (some (.inl (most1,many,now))))
def Zaz.l0:=ZaO Zaz.l0.step
theorem Zaz.l0.succ (n:Nat) t:Zaz.l0 (n+1) t=Zaz.l0.step (Zaz.l0 n) t:=rfl
def Zaz (counts:List Int) (most:Int):Option (List Int):=
 ((bif (decide ((counts.length:Int)>300)) then (some true) else
 ((Za1 most 1 15).bind fun within_=>
 (some (!within_)))).bind fun c=>
 (bif c then (some []) else
 ((Zaz.l0 (((counts.length:Int)-(0:Int)).toNat+1) (most,0,counts,(counts.length:Int),0,[])).bind fun r=>match r with
 | .inl (most2,many1,now1)=>(need (decide (0≤(w64 (most2-1)))) ((Za1 many1 1 (ZmY .i64 1 (w64 (most2-1)))).bind fun within_2=>
 (bif (!within_2) then (some []) else
 ((Zaz.l3 (100000) (most2,now1)).bind fun r=>match r with
 | .inl _=>none
 | .inr r=>some r))))
 | .inr r=>some r)))
def Zbq.l0.step (again:(List Int×Int×Int×(List ((Int×Int)×Int))×List Int)→Option (List ((Int×Int)×Int))):(List Int×Int×Int×(List ((Int×Int)×Int))×List Int)→Option (List ((Int×Int)×Int)):=fun (lens1,t,t1,o,o1)=>
 (bif (decide (t1<t)) then (need (decide (0≤t1)&&decide (t1<o1.length)) (need (decide (0≤t1)&&decide (t1<lens1.length)) (bif (decide ((lens1.getD t1.toNat 0)>0)) then (need (decide (0≤t1)&&decide (t1<lens1.length)) (again (lens1,t,(w64 (t1+1)),(Zdn [.int .i64,.int .i64] [.int .i64] o ((o1.getD t1.toNat 0),(lens1.getD t1.toNat 0)) t1),o1))) else
 (again (lens1,t,(w64 (t1+1)),o,o1))))) else
 (some o))
def Zbq.l0:=ZaO Zbq.l0.step
theorem Zbq.l0.succ (n:Nat) t:Zbq.l0 (n+1) t=Zbq.l0.step (Zbq.l0 n) t:=rfl
def Zbq (lens:List Int):Option (List ((Int×Int)×Int)):=
 ((ZbK lens).bind fun codes_=>
 ((Zbq.l0 (((codes_.length:Int)-(0:Int)).toNat+1) (lens,(codes_.length:Int),0,[],codes_)).bind fun o2=>
 (some o2)))
def ZaS.l0.step (again:(Int×Int×Str×Int×Bool×List ((Int×Int)×Int))→Option ((Str×Int×Bool×List ((Int×Int)×Int))⊕(Int×Str×Int×Bool×List ((Int×Int)×Int)))):(Int×Int×Str×Int×Bool×List ((Int×Int)×Int))→Option ((Str×Int×Bool×List ((Int×Int)×Int))⊕(Int×Str×Int×Bool×List ((Int×Int)×Int))):=fun (code_,l,o,o1,o2,o3)=>
 (bif (decide (l≤15)) then ((ZfR o o1 o2).bind fun (r,r1,r2,r3)=>
 ((bif (ZcV [.int .i64,.int .i64] [.int .i64] o3 ((w64 ((w64 (2*code_))+r)),l)).isSome then (some (!r3)) else
 (some false)).bind fun c=>
 (bif c then ((some (((ZcV [.int .i64,.int .i64] [.int .i64] o3 ((w64 ((w64 (2*code_))+r)),l)).getD 0),r1,r2,r3,o3)).map Sum.inr) else
 (again ((w64 ((w64 (2*code_))+r)),(w64 (l+1)),r1,r2,r3,o3))))) else
 (some (.inl (o,o1,o2,o3))))
def ZaS.l0:=ZaO ZaS.l0.step
theorem ZaS.l0.succ (n:Nat) t:ZaS.l0 (n+1) t=ZaS.l0.step (ZaS.l0 n) t:=rfl
def ZaS (s:Str) (at_:Int) (bad:Bool) (book:List ((Int×Int)×Int)):Option (Int×Str×Int×Bool×List ((Int×Int)×Int)):=
 ((ZaS.l0 ((15-(1:Int)).toNat+2) (0,1,s,at_,bad,book)).bind fun r=>match r with
 | .inl (o4,o5,o6,o7)=>(some (0,o4,o5,true,o7))
 | .inr r=>some r)
def add.l0.step (again:(Int×Int×List Int×Int×Int×Int)→Option (List Int)):(Int×Int×List Int×Int×Int×Int)→Option (List Int):=fun (t,t1,out1,o,o1,o2)=>
 (bif (decide (t1<t)) then (need (decide (0≤(w64 ((out1.length:Int)-o2)))&&decide ((w64 ((out1.length:Int)-o2))<out1.length)) (need (fits (out1.length+([(out1.getD ((w64 ((out1.length:Int)-o2)).toNat) 0)]:List (Int)).length)) (again (t,(w64 (t1+1)),(out1++[(out1.getD ((w64 ((out1.length:Int)-o2)).toNat) 0)]),o,o1,o2)))) else
 (some out1))
def add.l0:=ZaO add.l0.step
theorem add.l0.succ (n:Nat) t:add.l0 (n+1) t=add.l0.step (add.l0 n) t:=rfl
def add (byte:Int) (long:Int) (back:Int) (out:List Int):Option (Bool×List Int):=
 (bif (long==0) then ((bif (back != 0) then (some true) else
 ((Za1 byte 0 255).bind fun within_=>
 (some (!within_)))).bind fun c=>
 (bif c then (some (false,[])) else
 (need (fits (out.length+([(IntKind.wrap .u8 byte)]:List (Int)).length)) (some (true,(out++[(IntKind.wrap .u8 byte)])))))) else
 ((bif (byte != 0) then (some true) else
 ((Za1 long 3 60).bind fun within_1=>
 (bif (!within_1) then (some true) else
 ((Za1 back 1 (Zlq 250 (out.length:Int))).bind fun within_2=>
 (some (!within_2)))))).bind fun c1=>
 (bif c1 then (some (false,[])) else
 ((add.l0 ((long-(0:Int)).toNat+1) (long,0,out,byte,long,back)).bind fun out2=>
 (some (true,out2))))))
def Zan.l0.step (again:(Str×Int×Int×Int×(List (Int×Int×Int))×Int×Int×Int)→Option (Str×Int×Int×Int×(List (Int×Int×Int))×Int×Int×Int)):(Str×Int×Int×Int×(List (Int×Int×Int))×Int×Int×Int)→Option (Str×Int×Int×Int×(List (Int×Int×Int))×Int×Int×Int):=fun (text3,at_2,back1,n,out2,o3,o4,o5)=>
 ((bif (decide (n<60)) then (bif (decide ((w64 (at_2+n))<(text3.length:Int))) then (need (decide (0≤(w64 (at_2+n)))&&decide ((w64 (at_2+n))<text3.length)) (need (decide (0≤(w64 ((w64 (at_2+n))-back1)))&&decide ((w64 ((w64 (at_2+n))-back1))<text3.length)) (some (((text3.getD (w64 (at_2+n)).toNat 0).toNat:Int)==((text3.getD (w64 ((w64 (at_2+n))-back1)).toNat 0).toNat:Int))))) else
 (some false)) else
 (some false)).bind fun c=>
 (bif c then (again (text3,at_2,back1,(w64 (n+1)),out2,o3,o4,o5)) else
 (some (text3,at_2,back1,n,out2,o3,o4,o5))))
def Zan.l0:=ZaO Zan.l0.step
theorem Zan.l0.succ (n:Nat) t:Zan.l0 (n+1) t=Zan.l0.step (Zan.l0 n) t:=rfl
def Zan.l1.step (again:(Str×Int×Int×(List (Int×Int×Int))×Int×Int×Int)→Option (Str×Int×(List (Int×Int×Int))×Int×Int×Int)):(Str×Int×Int×(List (Int×Int×Int))×Int×Int×Int)→Option (Str×Int×(List (Int×Int×Int))×Int×Int×Int):=fun (text2,at_1,back,out1,o,o1,o2)=>
 (bif (decide (back≤(Zlq 250 at_1))) then ((Zan.l0 ((60-(0:Int)).toNat+1) (text2,at_1,back,0,out1,o,o1,o2)).bind fun (text4,at_3,back2,n1,out3,o6,o7,o8)=>
 ((bif (decide (n1≥3)) then (some (decide (n1>o7))) else
 (some false)).bind fun c1=>
 (bif c1 then (again (text4,at_3,(w64 (back2+1)),out3,0,n1,back2)) else
 (again (text4,at_3,(w64 (back2+1)),out3,o6,o7,o8))))) else
 (some (text2,at_1,out1,o,o1,o2)))
def Zan.l1:=ZaO Zan.l1.step
theorem Zan.l1.succ (n:Nat) t:Zan.l1 (n+1) t=Zan.l1.step (Zan.l1 n) t:=rfl
def Zan.l2.step (again:(Str×Int×List (Int×Int×Int))→Option (List (Int×Int×Int))):(Str×Int×List (Int×Int×Int))→Option (List (Int×Int×Int)):=fun (text1,at_,out)=>
 (bif (decide (at_<(text1.length:Int))) then (need (decide (0≤at_)&&decide (at_<text1.length)) ((Zan.l1 (((Zlq 250 at_)-(1:Int)).toNat+2) (text1,at_,1,out,(w64 ((text1.getD at_.toNat 0).toNat:Int)),0,0)).bind fun (text5,at_4,out4,o9,o10,o11)=>
 (need (fits (out4.length+([(o9,o10,o11)]:List (Int×Int×Int)).length)) (again (text5,(w64 (at_4+(Zp4 o10 1))),(out4++[(o9,o10,o11)])))))) else
 (some out))
def Zan.l2:=ZaO Zan.l2.step
theorem Zan.l2.succ (n:Nat) t:Zan.l2 (n+1) t=Zan.l2.step (Zan.l2 n) t:=rfl
def Zan (text:Str):Option (List (Int×Int×Int)):=
 (bif (decide ((text.length:Int)>300)) then (some []) else
 ((Zan.l2 (((text.length:Int)-(0:Int)).toNat+1) (text,0,[])).bind fun out5=>
 (some out5)))
def Zby.l0.step (again:(Int×Int×Int×Int×Int×List Int×List Int×List Int×List Int)→Option (List Int×List Int×List Int×List Int)):(Int×Int×Int×Int×Int×List Int×List Int×List Int×List Int)→Option (List Int×List Int×List Int×List Int):=fun (from_1,plain1,each1,t,t1,o,o1,o2,o3)=>
 (bif (decide (t1<t)) then (((bif (decide (t1≥plain1)) then (need (each1 != 0) (some (from_1,plain1,each1,(w64 ((w64 ((w64 (t1-plain1)).tdiv each1))+1)),t,t1,o,o1,o2,o3))) else
 (some (from_1,plain1,each1,0,t,t1,o,o1,o2,o3))):Option (Int×Int×Int×Int×Int×Int×List Int×List Int×List Int×List Int)).bind fun (from_2,plain2,each2,bits,t2,t3,o4,o5,o6,o7)=>
 (need (fits (o6.length+([from_2]:List (Int)).length)) (need (fits (o7.length+([bits]:List (Int)).length)) (need (decide (0≤bits)) (again ((w64 (from_2+(ZmY .i64 1 bits))),plain2,each2,t2,(w64 (t3+1)),o4,o5,(o6++[from_2]),(o7++[bits]))))))) else
 (some (o,o1,o2,o3)))
def Zby.l0:=ZaO Zby.l0.step
def Zby (from_:Int) (many:Int) (plain:Int) (each:Int):Option (List Int×List Int):=
 ((Zby.l0 ((many-(0:Int)).toNat+1) (from_,plain,each,many,0,[],[],[],[])).bind fun (o8,o9,o10,o11)=>
 (some (o10,o11)))
def Zbk:Option (List Int×List Int):=
 ((Zby 3 28 8 4).bind fun (r,r1)=>
 (some (r,r1)))
def Zbl:Option (List Int×List Int):=
 ((Zby 1 30 4 2).bind fun (r,r1)=>
 (some (r,r1)))
def Zbv.l0.step (again:(Int×Int×List Int×List Int)→Option (Int)):(Int×Int×List Int×List Int)→Option (Int):=fun (n1,k,o,o1)=>
 (need (decide (0≤k)&&decide (k<o.length)) (bif (decide ((o.getD k.toNat 0)>n1)) then (again (n1,(w64 (k-1)),o,o1)) else
 (some k)))
def Zbv.l0:=ZaO Zbv.l0.step
def Zbv (first:List Int) (bits:List Int) (n:Int):Option (Int):=
 ((Zbv.l0 ((w64 ((first.length:Int)-1)).toNat+1) (n,(w64 ((first.length:Int)-1)),first,bits)).bind fun k1=>
 (some k1))
def ZaV.l1.step (again:(Int×Int×List Int×List Int)→Option (List Int×List Int)):(Int×Int×List Int×List Int)→Option (List Int×List Int):=fun (t2,t3,lit2,dist)=>
 (bif (decide (t3<t2)) then (need (decide (0≤t3)&&decide (t3<dist.length)) (again (t2,(w64 (t3+1)),lit2,(dist.set t3.toNat 5)))) else
 (some (lit2,dist)))
def ZaV.l1:=ZaO ZaV.l1.step
def ZaV.l0.step (again:(Int×Int×List Int)→Option (List Int)):(Int×Int×List Int)→Option (List Int):=fun (t,t1,lit)=>
 (bif (decide (t1<t)) then ((bif (decide (t1<144)) then (some true) else
 (some (decide (t1≥280)))).bind fun c=>
 (bif c then (need (decide (0≤t1)&&decide (t1<lit.length)) (again (t,(w64 (t1+1)),(lit.set t1.toNat 8)))) else
 (bif (decide (t1<256)) then (need (decide (0≤t1)&&decide (t1<lit.length)) (again (t,(w64 (t1+1)),(lit.set t1.toNat 9)))) else
 (need (decide (0≤t1)&&decide (t1<lit.length)) (again (t,(w64 (t1+1)),(lit.set t1.toNat 7))))))) else
 (some lit))
def ZaV.l0:=ZaO ZaV.l0.step
def ZaV:Option (List Int×List Int):=
 (need (decide (0≤288)&&fits 288) ((ZaV.l0 ((((List.replicate 288 (0:Int)).length:Int)-(0:Int)).toNat+1) (((List.replicate 288 (0:Int)).length:Int),0,(List.replicate 288 (0:Int)))).bind fun lit1=>
 (need (decide (0≤32)&&fits 32) ((ZaV.l1 ((((List.replicate 32 (0:Int)).length:Int)-(0:Int)).toNat+1) (((List.replicate 32 (0:Int)).length:Int),0,lit1,(List.replicate 32 (0:Int)))).bind fun (lit3,dist1)=>
 (some (lit3,dist1))))))
def Zcl (text:Str):Option (Str):=
 (bif (decide ((text.length:Int)>300)) then (some []) else
 ((Zdf 1 3 0 []).bind fun (r,r1)=>
 ((Zgp r r1).bind fun (r2,r3)=>
 ((Zdf (text.length:Int) 16 r2 r3).bind fun (r4,r5)=>
 ((Zdf (w64 (65535-(text.length:Int))) 16 r4 r5).bind fun (r6,r7)=>
 (need (fits ((Zck r7).length+text.length)) (some ((Zck r7)++text))))))))
def ZdX (lens:List Int) (all:List Int) (s:Int) (many:Int) (b:List Int):Option (Int×List Int):=
 (need (decide (0≤s)&&decide (s<all.length)) (need (decide (0≤s)&&decide (s<lens.length)) ((Za4 (all.getD s.toNat 0) (lens.getD s.toNat 0)).bind fun BitsTurn=>
 (need (decide (0≤s)&&decide (s<lens.length)) ((Zdf BitsTurn (lens.getD s.toNat 0) many b).bind fun (r,r1)=>
 (some (r,r1)))))))
def Zba.l0.step (again:(List Int×List Int×(List (Int×Int×Int))×Int×Int×Int×List Int×List Int×List Int)→Option (List Int×Int×List Int×List Int)):(List Int×List Int×(List (Int×Int×Int))×Int×Int×Int×List Int×List Int×List Int)→Option (List Int×Int×List Int×List Int):=fun (lit1,dist1,t,t1,t2,o,a,b1,o1)=>
 (bif (decide (t2<t1)) then (need (decide (0≤t2)&&decide (t2<t.length)) (bif ((t.getD t2.toNat (0,0,0)).2.1==0) then ((ZdX lit1 a ((t.getD t2.toNat (0,0,0)).1) o o1).bind fun (r,r1)=>
 (again (lit1,dist1,t,t1,(w64 (t2+1)),r,a,b1,r1))) else
 ((Zbk).bind fun (r2,r3)=>
 ((Zbv r2 r3 ((t.getD t2.toNat (0,0,0)).2.1)).bind fun find_=>
 ((ZdX lit1 a (w64 (257+find_)) o o1).bind fun (r4,r5)=>
 ((Zbk).bind fun (r6,r7)=>
 (need (decide (0≤find_)&&decide (find_<r6.length)) ((Zbk).bind fun (r8,r9)=>
 (need (decide (0≤find_)&&decide (find_<r9.length)) ((Zdf (w64 ((t.getD t2.toNat (0,0,0)).2.1-(r6.getD find_.toNat 0))) (r9.getD find_.toNat 0) r4 r5).bind fun (r10,r11)=>
 ((Zbl).bind fun (r12,r13)=>
 ((Zbv r12 r13 ((t.getD t2.toNat (0,0,0)).2.2)).bind fun find_1=>
 ((ZdX dist1 b1 find_1 r10 r11).bind fun (r14,r15)=>
 ((Zbl).bind fun (r16,r17)=>
 (need (decide (0≤find_1)&&decide (find_1<r16.length)) ((Zbl).bind fun (r18,r19)=>
 (need (decide (0≤find_1)&&decide (find_1<r19.length)) ((Zdf (w64 ((t.getD t2.toNat (0,0,0)).2.2-(r16.getD find_1.toNat 0))) (r19.getD find_1.toNat 0) r14 r15).bind fun (r20,r21)=>
 (again (lit1,dist1,t,t1,(w64 (t2+1)),r20,a,b1,r21)))))))))))))))))))) else
 (some (lit1,o,a,o1)))
def Zba.l0:=ZaO Zba.l0.step
theorem Zba.l0.succ (n:Nat) t:Zba.l0 (n+1) t=Zba.l0.step (Zba.l0 n) t:=rfl
def Zba (list:List (Int×Int×Int)) (lit:List Int) (dist:List Int) (many:Int) (b:List Int):Option (Int×List Int):=
 ((ZbK lit).bind fun codes_=>
 ((ZbK dist).bind fun codes_1=>
 ((Zba.l0 (((list.length:Int)-(0:Int)).toNat+1) (lit,dist,list,(list.length:Int),0,many,codes_,codes_1,b)).bind fun (lit2,o2,a1,o3)=>
 ((ZdX lit2 a1 256 o2 o3).bind fun (r22,r23)=>
 (some (r22,r23))))))
def Zcq (text:Str):Option (Str):=
 (bif (decide ((text.length:Int)>300)) then (some []) else
 ((Zdf 1 1 0 []).bind fun (r,r1)=>
 ((Zdf 1 2 r r1).bind fun (r2,r3)=>
 ((ZaV).bind fun (r4,r5)=>
 ((Zan text).bind fun TokensOf=>
 ((Zba TokensOf r4 r5 r2 r3).bind fun (r6,r7)=>
 (some (Zck r7))))))))
def Za6.l0.step (again:(List Int×Int×Int)→Option (List Int×Int)):(List Int×Int×Int)→Option (List Int×Int):=fun (lens1,least_1,n)=>
 ((bif (decide (n>least_1)) then (need (decide (0≤(w64 (n-1)))&&decide ((w64 (n-1))<lens1.length)) (some ((lens1.getD (w64 (n-1)).toNat 0)==0))) else
 (some false)).bind fun c=>
 (bif c then (again (lens1,least_1,(w64 (n-1)))) else
 (some (lens1,n))))
def Za6.l0:=ZaO Za6.l0.step
theorem Za6.l0.succ (n:Nat) t:Za6.l0 (n+1) t=Za6.l0.step (Za6.l0 n) t:=rfl
def Za6 (lens:List Int) (least_:Int):Option (List Int):=
 ((Za6.l0 (((lens.length:Int)-least_).toNat+1) (lens,least_,(lens.length:Int))).bind fun (lens2,n1)=>
 (need (decide (0≤n1)&&decide (n1≤lens2.length)) (some (lens2.take n1.toNat))))
def ZaA.l3.step (again:(List Int×List Int×Int×Int×(List (Int×Int×Int))×List Int×Int×List Int×List Int×List Int)→Option (List Int×List Int×(List (Int×Int×Int))×Int×List Int)):(List Int×List Int×Int×Int×(List (Int×Int×Int))×List Int×Int×List Int×List Int×List Int)→Option (List Int×List Int×(List (Int×Int×Int))×Int×List Int):=fun (lit4,dist4,t7,t8,list6,meta_2,o6,m,o7,o8)=>
 (bif (decide (t8<t7)) then (need (decide (0≤t8)&&decide (t8<o7.length)) ((ZdX meta_2 m (o7.getD t8.toNat 0) o6 o8).bind fun (r16,r17)=>
 (again (lit4,dist4,t7,(w64 (t8+1)),list6,meta_2,r16,m,o7,r17)))) else
 (some (lit4,dist4,list6,o6,o8)))
def ZaA.l3:=ZaO ZaA.l3.step
theorem ZaA.l3.succ (n:Nat) t:ZaA.l3 (n+1) t=ZaA.l3.step (ZaA.l3 n) t:=rfl
def ZaA.l2.step (again:(List Int×List Int×List Int×Int×Int×(List (Int×Int×Int))×List Int×List Int×Int×List Int)→Option (List Int×List Int×(List (Int×Int×Int))×List Int×List Int×Int×List Int)):(List Int×List Int×List Int×Int×Int×(List (Int×Int×Int))×List Int×List Int×Int×List Int)→Option (List Int×List Int×(List (Int×Int×Int))×List Int×List Int×Int×List Int):=fun (lit2,dist2,t4,t5,t6,list4,all1,meta_,o2,o3)=>
 (bif (decide (t6<t5)) then (need (decide (0≤t6)&&decide (t6<t4.length)) (need (decide (0≤(t4.getD t6.toNat 0))&&decide ((t4.getD t6.toNat 0)<meta_.length)) ((Zdf (meta_.getD ((t4.getD t6.toNat 0).toNat) 0) 3 o2 o3).bind fun (r14,r15)=>
 (again (lit2,dist2,t4,t5,(w64 (t6+1)),list4,all1,meta_,r14,r15))))) else
 (some (lit2,dist2,list4,all1,meta_,o2,o3)))
def ZaA.l2:=ZaO ZaA.l2.step
theorem ZaA.l2.succ (n:Nat) t:ZaA.l2 (n+1) t=ZaA.l2.step (ZaA.l2 n) t:=rfl
def ZaA.l1.step (again:(List Int×List Int×Int×Int×(List (Int×Int×Int))×List Int×List Int)→Option (List Int×List Int×(List (Int×Int×Int))×List Int×List Int)):(List Int×List Int×Int×Int×(List (Int×Int×Int))×List Int×List Int)→Option (List Int×List Int×(List (Int×Int×Int))×List Int×List Int):=fun (lit,dist,t2,t3,list2,o1,c)=>
 (bif (decide (t3<t2)) then (need (decide (0≤t3)&&decide (t3<o1.length)) (need (decide (0≤(o1.getD t3.toNat 0))&&decide ((o1.getD t3.toNat 0)<c.length)) (need (decide (0≤(o1.getD t3.toNat 0))&&decide ((o1.getD t3.toNat 0)<c.length)) (again (lit,dist,t2,(w64 (t3+1)),list2,o1,(c.set ((o1.getD t3.toNat 0).toNat) (w64 ((c.getD ((o1.getD t3.toNat 0).toNat) 0)+1)))))))) else
 (some (lit,dist,list2,o1,c)))
def ZaA.l1:=ZaO ZaA.l1.step
theorem ZaA.l1.succ (n:Nat) t:ZaA.l1 (n+1) t=ZaA.l1.step (ZaA.l1 n) t:=rfl
def ZaA.l0.step (again:(Bool×Int×Int×(List (Int×Int×Int))×List Int×List Int)→Option (Bool×(List (Int×Int×Int))×List Int×List Int)):(Bool×Int×Int×(List (Int×Int×Int))×List Int×List Int)→Option (Bool×(List (Int×Int×Int))×List Int×List Int):=fun (none_,t,t1,o,a,b)=>
 (bif (decide (t1<t)) then (need (decide (0≤t1)&&decide (t1<o.length)) (bif ((o.getD t1.toNat (0,0,0)).2.1==0) then (need (decide (0≤(o.getD t1.toNat (0,0,0)).1)&&decide ((o.getD t1.toNat (0,0,0)).1<a.length)) (need (decide (0≤(o.getD t1.toNat (0,0,0)).1)&&decide ((o.getD t1.toNat (0,0,0)).1<a.length)) (again (none_,t,(w64 (t1+1)),o,(a.set (((o.getD t1.toNat (0,0,0)).1).toNat) (w64 ((a.getD (((o.getD t1.toNat (0,0,0)).1).toNat) 0)+1))),b)))) else
 ((Zbk).bind fun (r,r1)=>
 ((Zbv r r1 ((o.getD t1.toNat (0,0,0)).2.1)).bind fun find_=>
 (need (decide (0≤(w64 (257+find_)))&&decide ((w64 (257+find_))<a.length)) (need (decide (0≤(w64 (257+find_)))&&decide ((w64 (257+find_))<a.length)) ((Zbl).bind fun (r2,r3)=>
 ((Zbv r2 r3 ((o.getD t1.toNat (0,0,0)).2.2)).bind fun find_1=>
 (need (decide (0≤find_1)&&decide (find_1<b.length)) (need (decide (0≤find_1)&&decide (find_1<b.length)) (again (false,t,(w64 (t1+1)),o,(a.set ((w64 (257+find_)).toNat) (w64 ((a.getD ((w64 (257+find_)).toNat) 0)+1))),(b.set find_1.toNat (w64 ((b.getD find_1.toNat 0)+1))))))))))))))) else
 (some (none_,o,a,b)))
def ZaA.l0:=ZaO ZaA.l0.step
theorem ZaA.l0.succ (n:Nat) t:ZaA.l0 (n+1) t=ZaA.l0.step (ZaA.l0 n) t:=rfl
def ZaA (text:Str):Option (Str):=
 (bif (decide ((text.length:Int)>300)) then (some []) else
 ((Zan text).bind fun TokensOf=>
 (need (decide (0≤286)&&fits 286) (need (decide (0≤30)&&fits 30) (need (decide (0≤(256:Int))&&decide ((256:Int)<(List.replicate 286 (0:Int)).length)) ((ZaA.l0 (((TokensOf.length:Int)-(0:Int)).toNat+1) (true,(TokensOf.length:Int),0,TokensOf,((List.replicate 286 (0:Int)).set 256 1),(List.replicate 30 (0:Int)))).bind fun (none_1,list,a1,b1)=>
 (((bif none_1 then (need (decide (0≤(0:Int))&&decide ((0:Int)<b1.length)) (some (list,a1,(b1.set 0 1)))) else
 (some (list,a1,b1))):Option ((List (Int×Int×Int))×List Int×List Int)).bind fun (list1,a2,b2)=>
 ((Zaz a2 15).bind fun LensOf=>
 ((Za6 LensOf 257).bind fun trimmed_=>
 ((Zaz b2 15).bind fun LensOf1=>
 ((Za6 LensOf1 1).bind fun trimmed_1=>
 (need (fits (([]:List (Int)).length+trimmed_.length)) (need (fits (([]++trimmed_).length+trimmed_1.length)) (need (decide (0≤(([16,17,18,0,8,7,9,6,10,5,11,4,12,3,13,2,14,1,15]:List (Int)).length:Int))&&fits (([16,17,18,0,8,7,9,6,10,5,11,4,12,3,13,2,14,1,15]:List (Int)).length:Int).toNat) ((ZaA.l1 ((((([]++trimmed_)++trimmed_1).length:Int)-(0:Int)).toNat+1) (trimmed_,trimmed_1,((([]++trimmed_)++trimmed_1).length:Int),0,list1,(([]++trimmed_)++trimmed_1),(List.replicate (([16,17,18,0,8,7,9,6,10,5,11,4,12,3,13,2,14,1,15]:List (Int)).length:Int).toNat (0:Int)))).bind fun (lit1,dist1,list3,all,c1)=>
 ((Zaz c1 7).bind fun LensOf2=>
 ((Zdf 1 1 0 []).bind fun (r4,r5)=>
 ((Zdf 2 2 r4 r5).bind fun (r6,r7)=>
 ((Zdf (w64 ((lit1.length:Int)-257)) 5 r6 r7).bind fun (r8,r9)=>
 ((Zdf (w64 ((dist1.length:Int)-1)) 5 r8 r9).bind fun (r10,r11)=>
 ((Zdf (w64 ((([16,17,18,0,8,7,9,6,10,5,11,4,12,3,13,2,14,1,15]:List (Int)).length:Int)-4)) 4 r10 r11).bind fun (r12,r13)=>
 ((ZaA.l2 (((([16,17,18,0,8,7,9,6,10,5,11,4,12,3,13,2,14,1,15]:List (Int)).length:Int)-(0:Int)).toNat+1) (lit1,dist1,[16,17,18,0,8,7,9,6,10,5,11,4,12,3,13,2,14,1,15],(([16,17,18,0,8,7,9,6,10,5,11,4,12,3,13,2,14,1,15]:List (Int)).length:Int),0,list3,all,LensOf2,r12,r13)).bind fun (lit3,dist3,list5,all2,meta_1,o4,o5)=>
 ((ZbK meta_1).bind fun codes_=>
 ((ZaA.l3 (((all2.length:Int)-(0:Int)).toNat+1) (lit3,dist3,(all2.length:Int),0,list5,meta_1,o4,codes_,all2,o5)).bind fun (lit5,dist5,list7,o9,o10)=>
 ((Zba list7 lit5 dist5 o9 o10).bind fun (r18,r19)=>
 (some (Zck r19)))))))))))))))))))))))))))
def ZaH.l0.step (again:(Str×Int×Int×List Str)→Option (Str)):(Str×Int×Int×List Str)→Option (Str):=fun (best,t,t1,o)=>
 (bif (decide (t1<t)) then (need (decide (0≤t1)&&decide (t1<o.length)) (bif (decide (((o.getD t1.toNat []).length:Int)<(best.length:Int))) then (again ((o.getD t1.toNat []),t,(w64 (t1+1)),o)) else
 (again (best,t,(w64 (t1+1)),o)))) else
 (some best))
def ZaH.l0:=ZaO ZaH.l0.step
theorem ZaH.l0.succ (n:Nat) t:ZaH.l0 (n+1) t=ZaH.l0.step (ZaH.l0 n) t:=rfl
def ZaH (text:Str):Option (Str):=
 ((Zcl text).bind fun StorePut=>
 ((Zcq text).bind fun FixedPut=>
 ((ZaA text).bind fun OwnPut=>
 ((ZaH.l0 (((([FixedPut,OwnPut]:List (Str)).length:Int)-(0:Int)).toNat+1) (StorePut,(([FixedPut,OwnPut]:List (Str)).length:Int),0,[FixedPut,OwnPut])).bind fun best1=>
 (some best1)))))
def Zbg.l0.step (again:(Int×Int×Str×Int×Bool×List Int)→Option (Str×Int×Bool×List Int)):(Int×Int×Str×Int×Bool×List Int)→Option (Str×Int×Bool×List Int):=fun (n1,k,o3,o4,o5,out2)=>
 ((bif (decide (k<n1)) then (bif (!o5) then (some (decide ((out2.length:Int)≤300))) else
 (some false)) else
 (some false)).bind fun c=>
 (bif c then ((Zdh 8 o3 o4 o5).bind fun (r11,r12,r13,r14)=>
 (need (fits (out2.length+([(IntKind.wrap .u8 r11)]:List (Int)).length)) (again (n1,(w64 (k+1)),r12,r13,r14,(out2++[(IntKind.wrap .u8 r11)]))))) else
 (some (o3,o4,o5,out2))))
def Zbg.l0:=ZaO Zbg.l0.step
theorem Zbg.l0.succ (n:Nat) t:Zbg.l0 (n+1) t=Zbg.l0.step (Zbg.l0 n) t:=rfl
def Zbg (s:Str) (at_:Int) (bad:Bool) (out:List Int):Option (Str×Int×Bool×List Int):=
 ((ZcQ s at_ bad).bind fun (r,r1,r2)=>
 ((Zdh 16 r r1 r2).bind fun (r3,r4,r5,r6)=>
 ((Zdh 16 r4 r5 r6).bind fun (r7,r8,r9,r10)=>
 (((bif (r3 != (w64 (65535-r7))) then (some (r3,r8,r9,true,out)) else
 (some (r3,r8,r9,r10,out))):Option (Int×Str×Int×Bool×List Int)).bind fun (n,o,o1,o2,out1)=>
 ((Zbg.l0 ((n-(0:Int)).toNat+1) (n,0,o,o1,o2,out1)).bind fun (o6,o7,o8,out3)=>
 (some (o6,o7,o8,out3)))))))
def Zao.l1.step (again:(Int×Int×Int×Int×Int×Str×Int×Bool×(List ((Int×Int)×Int))×List Int)→Option (Int×Int×Str×Int×Bool×(List ((Int×Int)×Int))×List Int)):(Int×Int×Int×Int×Int×Str×Int×Bool×(List ((Int×Int)×Int))×List Int)→Option (Int×Int×Str×Int×Bool×(List ((Int×Int)×Int))×List Int):=fun (lit5,dist5,again_1,t3,t4,o17,o18,o19,o20,all2)=>
 (bif (decide (t4<t3)) then (need (fits (all2.length+([again_1]:List (Int)).length)) (again (lit5,dist5,again_1,t3,(w64 (t4+1)),o17,o18,o19,o20,(all2++[again_1])))) else
 (some (lit5,dist5,o17,o18,o19,o20,all2)))
def Zao.l1:=ZaO Zao.l1.step
theorem Zao.l1.succ (n:Nat) t:Zao.l1 (n+1) t=Zao.l1.step (Zao.l1 n) t:=rfl
def Zao.l2.step (again:(Int×Int×Str×Int×Bool×(List ((Int×Int)×Int))×List Int)→Option (Int×Int×Str×Int×Bool×List Int)):(Int×Int×Str×Int×Bool×(List ((Int×Int)×Int))×List Int)→Option (Int×Int×Str×Int×Bool×List Int):=fun (lit3,dist3,o9,o10,o11,o12,all)=>
 ((bif (decide ((all.length:Int)<(w64 (lit3+dist3)))) then (some (!o11)) else
 (some false)).bind fun c2=>
 (bif c2 then ((ZaS o9 o10 o11 o12).bind fun (r16,r17,r18,r19,r20)=>
 (((bif (decide (r16<16)) then (some (lit3,dist3,r16,1,r17,r18,r19,r20,all)) else
 (bif (r16==16) then ((Zdh 2 r17 r18 r19).bind fun (r21,r22,r23,r24)=>
 (bif ((all.length:Int)==0) then (some (lit3,dist3,0,(w64 (3+r21)),r22,r23,true,r20,all)) else
 (need (decide (0≤(w64 ((all.length:Int)-1)))&&decide ((w64 ((all.length:Int)-1))<all.length)) (some (lit3,dist3,(all.getD ((w64 ((all.length:Int)-1)).toNat) 0),(w64 (3+r21)),r22,r23,r24,r20,all))))) else
 (bif (r16==17) then ((Zdh 3 r17 r18 r19).bind fun (r25,r26,r27,r28)=>
 (some (lit3,dist3,0,(w64 (3+r25)),r26,r27,r28,r20,all))) else
 ((Zdh 7 r17 r18 r19).bind fun (r29,r30,r31,r32)=>
 (some (lit3,dist3,0,(w64 (11+r29)),r30,r31,r32,r20,all)))))):Option (Int×Int×Int×Int×Str×Int×Bool×(List ((Int×Int)×Int))×List Int)).bind fun (lit4,dist4,again_,times,o13,o14,o15,o16,all1)=>
 ((Zao.l1 ((times-(0:Int)).toNat+1) (lit4,dist4,again_,times,0,o13,o14,o15,o16,all1)).bind fun (lit6,dist6,o21,o22,o23,o24,all3)=>
 (again (lit6,dist6,o21,o22,o23,o24,all3))))) else
 (some (lit3,dist3,o9,o10,o11,all))))
def Zao.l2:=ZaO Zao.l2.step
theorem Zao.l2.succ (n:Nat) t:Zao.l2 (n+1) t=Zao.l2.step (Zao.l2 n) t:=rfl
def Zao.l0.step (again:(Int×Int×List Int×Int×Int×Str×Int×Bool×List Int)→Option (Int×Int×Str×Int×Bool×List Int)):(Int×Int×List Int×Int×Int×Str×Int×Bool×List Int)→Option (Int×Int×Str×Int×Bool×List Int):=fun (lit1,dist1,t,t1,t2,o3,o4,o5,meta_)=>
 (bif (decide (t2<t1)) then (need (decide (0≤t2)&&decide (t2<t.length)) ((Zdh 3 o3 o4 o5).bind fun (r12,r13,r14,r15)=>
 (need (decide (0≤(t.getD t2.toNat 0))&&decide ((t.getD t2.toNat 0)<meta_.length)) (again (lit1,dist1,t,t1,(w64 (t2+1)),r13,r14,r15,(meta_.set ((t.getD t2.toNat 0).toNat) r12)))))) else
 (some (lit1,dist1,o3,o4,o5,meta_)))
def Zao.l0:=ZaO Zao.l0.step
theorem Zao.l0.succ (n:Nat) t:Zao.l0 (n+1) t=Zao.l0.step (Zao.l0 n) t:=rfl
def Zao (s:Str) (at_:Int) (bad:Bool):Option (List Int×List Int×Str×Int×Bool):=
 ((Zdh 5 s at_ bad).bind fun (r,r1,r2,r3)=>
 ((Zdh 5 r1 r2 r3).bind fun (r4,r5,r6,r7)=>
 ((Zdh 4 r5 r6 r7).bind fun (r8,r9,r10,r11)=>
 ((((bif (decide ((w64 (r+257))>286)) then (some true) else
 (some (decide ((w64 (r4+1))>30)))).bind fun c=>
 (bif c then (some ((w64 (r+257)),(w64 (r4+1)),(w64 (r8+4)),r9,r10,true)) else
 (some ((w64 (r+257)),(w64 (r4+1)),(w64 (r8+4)),r9,r10,r11)))):Option (Int×Int×Int×Str×Int×Bool)).bind fun (lit,dist,many,o,o1,o2)=>
 (need (decide (0≤(([16,17,18,0,8,7,9,6,10,5,11,4,12,3,13,2,14,1,15]:List (Int)).length:Int))&&fits (([16,17,18,0,8,7,9,6,10,5,11,4,12,3,13,2,14,1,15]:List (Int)).length:Int).toNat) (need (decide (0≤many)&&decide (many≤([16,17,18,0,8,7,9,6,10,5,11,4,12,3,13,2,14,1,15]:List (Int)).length)) ((Zao.l0 ((((([16,17,18,0,8,7,9,6,10,5,11,4,12,3,13,2,14,1,15]:List (Int)).take many.toNat).length:Int)-(0:Int)).toNat+1) (lit,dist,(([16,17,18,0,8,7,9,6,10,5,11,4,12,3,13,2,14,1,15]:List (Int)).take many.toNat),((([16,17,18,0,8,7,9,6,10,5,11,4,12,3,13,2,14,1,15]:List (Int)).take many.toNat).length:Int),0,o,o1,o2,(List.replicate (([16,17,18,0,8,7,9,6,10,5,11,4,12,3,13,2,14,1,15]:List (Int)).length:Int).toNat (0:Int)))).bind fun (lit2,dist2,o6,o7,o8,meta_1)=>
 ((bif o8 then (some true) else
 ((Zbp meta_1).bind fun LensOk=>
 (some (!LensOk)))).bind fun c1=>
 (bif c1 then (some ([],[],o6,o7,true)) else
 ((Zbq meta_1).bind fun bookOf_=>
 ((Zao.l2 (((w64 (lit2+dist2))-(([]:List Int).length:Int)).toNat+1) (lit2,dist2,o6,o7,o8,bookOf_,[])).bind fun (lit7,dist7,o25,o26,o27,all4)=>
 ((bif ((all4.length:Int) != (w64 (lit7+dist7))) then (some true) else
 (some o27)).bind fun c3=>
 (bif c3 then (some ([],[],o25,o26,true)) else
 (need (decide (0≤lit7)&&decide (lit7≤all4.length)) (need (decide (0≤lit7)&&decide (lit7≤all4.length)) (some (((all4.drop 0).take lit7.toNat),((all4.drop lit7.toNat).take (all4.length-lit7.toNat)),o25,o26,o27)))))))))))))))))
def Zbu.l0.step (again:(Str×Int×Bool×List Int×(List ((Int×Int)×Int))×List ((Int×Int)×Int))→Option ((Str×Int×Bool×List Int)⊕(Str×Int×Bool×List Int))):(Str×Int×Bool×List Int×(List ((Int×Int)×Int))×List ((Int×Int)×Int))→Option ((Str×Int×Bool×List Int)⊕(Str×Int×Bool×List Int)):=fun (o,o1,o2,out1,o3,o4)=>
 ((bif (!o2) then (some (decide ((out1.length:Int)≤300))) else
 (some false)).bind fun c1=>
 (bif c1 then ((ZaS o o1 o2 o3).bind fun (r,r1,r2,r3,r4)=>
 ((bif r3 then (some true) else
 (some (r==256))).bind fun c2=>
 (bif c2 then ((some (r1,r2,r3,out1)).map Sum.inr) else
 (bif (decide (r<256)) then (need (fits (out1.length+([(IntKind.wrap .u8 r)]:List (Int)).length)) (again (r1,r2,r3,(out1++[(IntKind.wrap .u8 r)]),r4,o4))) else
 (bif (decide ((w64 (r-257))≥28)) then ((some (r1,r2,true,out1)).map Sum.inr) else
 ((Zbk).bind fun (r5,r6)=>
 (need (decide (0≤(w64 (r-257)))&&decide ((w64 (r-257))<r5.length)) ((Zbk).bind fun (r7,r8)=>
 (need (decide (0≤(w64 (r-257)))&&decide ((w64 (r-257))<r8.length)) ((Zdh (r8.getD (w64 (r-257)).toNat 0) r1 r2 r3).bind fun (r9,r10,r11,r12)=>
 ((ZaS r10 r11 r12 o4).bind fun (r13,r14,r15,r16,r17)=>
 (bif (decide (r13≥30)) then ((some (r14,r15,true,out1)).map Sum.inr) else
 ((Zbl).bind fun (r18,r19)=>
 (need (decide (0≤r13)&&decide (r13<r18.length)) ((Zbl).bind fun (r20,r21)=>
 (need (decide (0≤r13)&&decide (r13<r21.length)) ((Zdh (r21.getD r13.toNat 0) r14 r15 r16).bind fun (r22,r23,r24,r25)=>
 ((add 0 (w64 ((r5.getD (w64 (r-257)).toNat 0)+r9)) (w64 ((r18.getD r13.toNat 0)+r22)) out1).bind fun (r26,r27)=>
 ((bif (!r26) then (some true) else
 (some r25)).bind fun c3=>
 (bif c3 then (none.map Sum.inr) else
 (again (r23,r24,r25,r27,r4,r17)))))))))))))))))))))) else
 (some (.inl (o,o1,o2,out1)))))
def Zbu.l0:=ZaO Zbu.l0.step
theorem Zbu.l0.succ (n:Nat) t:Zbu.l0 (n+1) t=Zbu.l0.step (Zbu.l0 n) t:=rfl
def Zbu (lit:List Int) (dist:List Int) (s:Str) (at_:Int) (bad:Bool) (out:List Int):Option (Str×Int×Bool×List Int):=
 ((bif bad then (some true) else
 ((Zbp lit).bind fun LensOk=>
 (bif (!LensOk) then (some true) else
 ((Zbp dist).bind fun LensOk1=>
 (some (!LensOk1)))))).bind fun c=>
 (bif c then (some (s,at_,true,out)) else
 ((Zbq lit).bind fun bookOf_=>
 ((Zbq dist).bind fun bookOf_1=>
 ((Zbu.l0 (100000) (s,at_,bad,out,bookOf_,bookOf_1)).bind fun r=>match r with
 | .inl (o5,o6,o7,out2)=>(some (o5,o6,o7,out2))
 | .inr r=>some r)))))
def ZaE.l0.step (again:(Str×Int×Bool×List Int×(List ((Int×Int)×Int))×List ((Int×Int)×Int))→Option ((Str×Int×Bool×List Int)⊕(Str×Int×Bool))):(Str×Int×Bool×List Int×(List ((Int×Int)×Int))×List ((Int×Int)×Int))→Option ((Str×Int×Bool×List Int)⊕(Str×Int×Bool)):=fun (o,o1,o2,out1,o3,o4)=>
 ((bif (!o2) then (some (decide ((out1.length:Int)≤300))) else
 (some false)).bind fun c1=>
 (bif c1 then ((ZaS o o1 o2 o3).bind fun (r,r1,r2,r3,r4)=>
 ((bif r3 then (some true) else
 (some (r==256))).bind fun c2=>
 (bif c2 then ((some (r1,r2,r3)).map Sum.inr) else
 (bif (decide (r<256)) then (need (fits (out1.length+([(IntKind.wrap .u8 r)]:List (Int)).length)) (again (r1,r2,r3,(out1++[(IntKind.wrap .u8 r)]),r4,o4))) else
 (bif (decide ((w64 (r-257))≥28)) then ((some (r1,r2,true)).map Sum.inr) else
 ((Zbk).bind fun (r5,r6)=>
 (need (decide (0≤(w64 (r-257)))&&decide ((w64 (r-257))<r5.length)) ((Zbk).bind fun (r7,r8)=>
 (need (decide (0≤(w64 (r-257)))&&decide ((w64 (r-257))<r8.length)) ((Zdh (r8.getD (w64 (r-257)).toNat 0) r1 r2 r3).bind fun (r9,r10,r11,r12)=>
 ((ZaS r10 r11 r12 o4).bind fun (r13,r14,r15,r16,r17)=>
 (bif (decide (r13≥30)) then ((some (r14,r15,true)).map Sum.inr) else
 ((Zbl).bind fun (r18,r19)=>
 (need (decide (0≤r13)&&decide (r13<r18.length)) ((Zbl).bind fun (r20,r21)=>
 (need (decide (0≤r13)&&decide (r13<r21.length)) ((Zdh (r21.getD r13.toNat 0) r14 r15 r16).bind fun (r22,r23,r24,r25)=>
 ((add 0 (w64 ((r5.getD (w64 (r-257)).toNat 0)+r9)) (w64 ((r18.getD r13.toNat 0)+r22)) out1).bind fun (r26,r27)=>
 ((bif (!r26) then (some true) else
 (some r25)).bind fun c3=>
 (bif c3 then ((some (r23,r24,true)).map Sum.inr) else
 (again (r23,r24,r25,r27,r4,r17)))))))))))))))))))))) else
 (some (.inl (o,o1,o2,out1)))))
def ZaE.l0:=ZaO ZaE.l0.step
theorem ZaE.l0.succ (n:Nat) t:ZaE.l0 (n+1) t=ZaE.l0.step (ZaE.l0 n) t:=rfl
def ZaE (lit:List Int) (dist:List Int) (s:Str) (at_:Int) (bad:Bool) (out:List Int):Option (Str×Int×Bool):=
 ((bif bad then (some true) else
 ((Zbp lit).bind fun LensOk=>
 (bif (!LensOk) then (some true) else
 ((Zbp dist).bind fun LensOk1=>
 (some (!LensOk1)))))).bind fun c=>
 (bif c then (some (s,at_,true)) else
 ((Zbq lit).bind fun bookOf_=>
 ((Zbq dist).bind fun bookOf_1=>
 ((ZaE.l0 (100000) (s,at_,bad,out,bookOf_,bookOf_1)).bind fun r=>match r with
 | .inl (o5,o6,o7,out2)=>(some (o5,o6,o7))
 | .inr r=>some r)))))
def ZaW.l0.step (again:(Bool×Str×Int×Bool×List Int)→Option ((Str×Int×Bool×List Int)⊕(Str×Int×Bool))):(Bool×Str×Int×Bool×List Int)→Option ((Str×Int×Bool×List Int)⊕(Str×Int×Bool)):=fun (last,o,o1,o2,out)=>
 (bif (!last) then ((ZfR o o1 o2).bind fun (r,r1,r2,r3)=>
 ((Zdh 2 r1 r2 r3).bind fun (r4,r5,r6,r7)=>
 (bif (r4==0) then ((Zbg r5 r6 r7 out).bind fun (r8,r9,r10,r11)=>
 (bif r10 then ((some ([],0,false)).map Sum.inr) else
 (bif (decide ((r11.length:Int)>300)) then ((some ([],0,false)).map Sum.inr) else
 (again ((r==1),r8,r9,r10,r11))))) else
 (bif (r4==1) then ((ZaV).bind fun (r12,r13)=>
 (ZjW (Zbu r12 r13 r5 r6 r7 out) (fun (r14,r15,r16,r17)=>
 (bif r16 then ((some ([],0,false)).map Sum.inr) else
 (bif (decide ((r17.length:Int)>300)) then ((some ([],0,false)).map Sum.inr) else
 (again ((r==1),r14,r15,r16,r17))))) ((ZaE r12 r13 r5 r6 r7 out).bind fun (r18,r19,r20)=>
 (bif r20 then ((some ([],0,false)).map Sum.inr) else
 none)))) else
 (bif (r4==2) then ((Zao r5 r6 r7).bind fun (r21,r22,r23,r24,r25)=>
 (ZjW (Zbu r21 r22 r23 r24 r25 out) (fun (r26,r27,r28,r29)=>
 (bif r28 then ((some ([],0,false)).map Sum.inr) else
 (bif (decide ((r29.length:Int)>300)) then ((some ([],0,false)).map Sum.inr) else
 (again ((r==1),r26,r27,r28,r29))))) ((ZaE r21 r22 r23 r24 r25 out).bind fun (r30,r31,r32)=>
 (bif r32 then ((some ([],0,false)).map Sum.inr) else
 none)))) else
 ((some ([],0,false)).map Sum.inr)))))) else
 (some (.inl (o,o1,o2,out))))
def ZaW.l0:=ZaO ZaW.l0.step
theorem ZaW.l0.succ (n:Nat) t:ZaW.l0 (n+1) t=ZaW.l0.step (ZaW.l0 n) t:=rfl
def ZaW (text:Str):Option (Str×Int×Bool):=
 (bif (decide ((text.length:Int)>700)) then (some ([],0,false)) else
 ((ZaW.l0 (100000) (false,text,0,false,[])).bind fun r=>match r with
 | .inl (o3,o4,o5,out1)=>((ZcQ o3 o4 o5).bind fun (r33,r34,r35)=>
 (bif r35 then (some ([],0,false)) else
 (some ((Zck out1),(w64 (r34.tdiv 8)),true))))
 | .inr r=>some r))
def ZmD (year:Int) (month:Int):Option (Int):=
 (((bif (month==4) then (some (year,month,(month==4))) else
 (bif (month==6) then (some (year,month,(month==6))) else
 (bif (month==9) then (some (year,month,(month==9))) else
 (some (year,month,(month==11)))))):Option (Int×Int×Bool)).bind fun (year1,t,t1)=>
 (bif t1 then (some 30) else
 (bif (t==2) then ((bif ((year1.tmod 4)==0) then (bif ((year1.tmod 100) != 0) then (some true) else
 (some ((year1.tmod 400)==0))) else
 (some false)).bind fun c=>
 (bif c then (some 29) else
 (some 28))) else
 (some 31))))
def ZbN (y:Int) (mo:Int) (d:Int) (h:Int) (mi:Int) (sec:Int):Option (Bool):=
 (((Za1 y 1980 2107).bind fun within_=>
 (bif within_ then ((Za1 mo 1 12).bind fun within_1=>
 (bif within_1 then ((ZmD y mo).bind fun days_=>
 ((Za1 d 1 days_).bind fun within_2=>
 (bif within_2 then ((Za1 h 0 23).bind fun within_3=>
 (bif within_3 then ((Za1 mi 0 59).bind fun within_4=>
 (bif within_4 then ((Za1 sec 0 58).bind fun within_5=>
 (bif within_5 then (some ((sec.tmod 2)==0)) else
 (some false))) else
 (some false))) else
 (some false))) else
 (some false)))) else
 (some false))) else
 (some false))).bind fun c=>
 (some c))
def Zbx (y:Int) (mo:Int) (d:Int) (h:Int) (mi:Int) (sec:Int):Option (Int):=
 ((ZbN y mo d h mi sec).bind fun StampOk=>
 (bif (!StampOk) then (some (-1)) else
 (some (ior .i64 (ior .i64 (ior .i64 (ior .i64 (ior .i64 (w64 (sec.tdiv 2)) (ZmY .i64 mi 5)) (ZmY .i64 h 11)) (ZmY .i64 d 16)) (ZmY .i64 mo 21)) (ZmY .i64 (w64 (y-1980)) 25)))))
def Zcm (n:Int):Option (Int×Int×Int×Int×Int×Int×Bool):=
 (bif (decide (n<0)) then (some (0,0,0,0,0,0,false)) else
 ((Zbx (w64 (1980+(Zhu .i64 (Zju .i64 n 25) 127))) (Zhu .i64 (Zju .i64 n 21) 15) (Zhu .i64 (Zju .i64 n 16) 31) (Zhu .i64 (Zju .i64 n 11) 31) (Zhu .i64 (Zju .i64 n 5) 63) (w64 ((Zhu .i64 n 31)*2))).bind fun StampPut=>
 (bif (StampPut != n) then (some (0,0,0,0,0,0,false)) else
 (some ((w64 (1980+(Zhu .i64 (Zju .i64 n 25) 127))),(Zhu .i64 (Zju .i64 n 21) 15),(Zhu .i64 (Zju .i64 n 16) 31),(Zhu .i64 (Zju .i64 n 11) 31),(Zhu .i64 (Zju .i64 n 5) 63),(w64 ((Zhu .i64 n 31)*2)),true)))))
def ZbE (name:Str) (y:Int) (mo:Int) (d:Int) (h:Int) (mi:Int) (sec:Int) (text:Str):Option (Bool):=
 (((Zat name).bind fun NameOk=>
 (bif NameOk then ((ZbN y mo d h mi sec).bind fun StampOk=>
 (bif StampOk then (some (decide ((text.length:Int)≤300))) else
 (some false))) else
 (some false))).bind fun c=>
 (some c))
def Za2.l0.step (again:(Int×Int×Int×List Int)→Option (List Int)):(Int×Int×Int×List Int)→Option (List Int):=fun (n1,t,t1,out)=>
 (bif (decide (t1<t)) then (need (fits (out.length+([(IntKind.wrap .u8 (n1.tmod 256))]:List (Int)).length)) (again ((w64 (n1.tdiv 256)),t,(w64 (t1+1)),(out++[(IntKind.wrap .u8 (n1.tmod 256))])))) else
 (some out))
def Za2.l0:=ZaO Za2.l0.step
theorem Za2.l0.succ (n:Nat) t:Za2.l0 (n+1) t=Za2.l0.step (Za2.l0 n) t:=rfl
def Za2 (n:Int) (bytes:Int):Option (Str):=
 ((Za2.l0 ((bytes-(0:Int)).toNat+1) (n,bytes,0,[])).bind fun out1=>
 (some (Zck out1)))
def ZaJ.l0.step (again:(Str×Int×Int×Int)→Option (Int)):(Str×Int×Int×Int)→Option (Int):=fun (s1,at_1,n,k)=>
 (bif (decide (k≥0)) then (need (decide (0≤(w64 (at_1+k)))&&decide ((w64 (at_1+k))<s1.length)) (again (s1,at_1,(w64 ((w64 (256*n))+(w64 ((s1.getD (w64 (at_1+k)).toNat 0).toNat:Int)))),(w64 (k-1))))) else
 (some n))
def ZaJ.l0:=ZaO ZaJ.l0.step
theorem ZaJ.l0.succ (n:Nat) t:ZaJ.l0 (n+1) t=ZaJ.l0.step (ZaJ.l0 n) t:=rfl
def ZaJ (s:Str) (at_:Int) (bytes:Int):Option (Int):=
 ((ZaJ.l0 (((w64 (bytes-1))-0).toNat+2) (s,at_,0,(w64 (bytes-1)))).bind fun n1=>
 (some n1))
def ZcE (name:Str) (y:Int) (mo:Int) (d:Int) (h:Int) (mi:Int) (sec:Int) (text:Str) (method:Int) (packed:Int):Option (Str):=
 ((Za2 20 2).bind fun number_=>
 (need (fits (([80,75,3,4]:Str).length+number_.length)) ((Za2 0 2).bind fun number_1=>
 (need (fits (([80,75,3,4]++number_).length+number_1.length)) ((Za2 method 2).bind fun number_2=>
 (need (fits ((([80,75,3,4]++number_)++number_1).length+number_2.length)) ((Zbx y mo d h mi sec).bind fun StampPut=>
 ((Za2 StampPut 4).bind fun number_3=>
 (need (fits (((([80,75,3,4]++number_)++number_1)++number_2).length+number_3.length)) ((crc text).bind fun Crc=>
 ((Za2 Crc 4).bind fun number_4=>
 (need (fits ((((([80,75,3,4]++number_)++number_1)++number_2)++number_3).length+number_4.length)) ((Za2 packed 4).bind fun number_5=>
 (need (fits (((((([80,75,3,4]++number_)++number_1)++number_2)++number_3)++number_4).length+number_5.length)) ((Za2 (text.length:Int) 4).bind fun number_6=>
 (need (fits ((((((([80,75,3,4]++number_)++number_1)++number_2)++number_3)++number_4)++number_5).length+number_6.length)) ((Za2 (name.length:Int) 2).bind fun number_7=>
 (need (fits (((((((([80,75,3,4]++number_)++number_1)++number_2)++number_3)++number_4)++number_5)++number_6).length+number_7.length)) ((Za2 0 2).bind fun number_8=>
 (need (fits ((((((((([80,75,3,4]++number_)++number_1)++number_2)++number_3)++number_4)++number_5)++number_6)++number_7).length+number_8.length)) (some ((((((((([80,75,3,4]++number_)++number_1)++number_2)++number_3)++number_4)++number_5)++number_6)++number_7)++number_8))))))))))))))))))))))
def Zcn (name:Str) (y:Int) (mo:Int) (d:Int) (h:Int) (mi:Int) (sec:Int) (text:Str):Option (Str):=
 ((ZbE name y mo d h mi sec text).bind fun EntryOk=>
 (bif (!EntryOk) then (some []) else
 ((ZaH text).bind fun FlatePut=>
 (bif (decide ((FlatePut.length:Int)<(text.length:Int))) then ((ZcE name y mo d h mi sec text 8 (FlatePut.length:Int)).bind fun headOf_=>
 (need (fits (headOf_.length+name.length)) (need (fits ((headOf_++name).length+FlatePut.length)) (some ((headOf_++name)++FlatePut))))) else
 ((ZcE name y mo d h mi sec text 0 (text.length:Int)).bind fun headOf_1=>
 (need (fits (headOf_1.length+name.length)) (need (fits ((headOf_1++name).length+text.length)) (some ((headOf_1++name)++text)))))))))
def Zco (text:Str):Option (Str×Int×Int×Int×Int×Int×Int×Str×Int×Bool):=
 (bif (decide ((text.length:Int)<30)) then (some ([],0,0,0,0,0,0,[],0,false)) else
 ((ZaJ text 8 2).bind fun numberAt_=>
 ((ZaJ text 18 4).bind fun numberAt_1=>
 ((ZaJ text 26 2).bind fun numberAt_2=>
 (need (decide (0≤(30:Int))&&decide ((30:Int)≤text.length)) ((bif (decide (((text.drop 30).length:Int)<numberAt_2)) then (some true) else
 (some (decide ((w64 (((text.drop 30).length:Int)-numberAt_2))<numberAt_1)))).bind fun c=>
 (bif c then (some ([],0,0,0,0,0,0,[],0,false)) else
 (need (decide (0≤numberAt_2)&&decide (numberAt_2≤(text.drop 30).length)) (need (decide (0≤(w64 (numberAt_2+numberAt_1)))&&decide ((w64 (numberAt_2+numberAt_1))≤(text.drop 30).length)) (need (decide (0≤numberAt_2)&&decide (numberAt_2≤(w64 (numberAt_2+numberAt_1)))) ((ZaJ text 10 4).bind fun numberAt_3=>
 ((Zcm numberAt_3).bind fun (r,r1,r2,r3,r4,r5,r6)=>
 (((bif (numberAt_==0) then (some (.inl (text,numberAt_,numberAt_1,numberAt_2,[],0,0,0,0,0,0,[],((text.drop 30).take numberAt_2.toNat),r,r1,r2,r3,r4,r5,(((text.drop 30).take (w64 (numberAt_2+numberAt_1)).toNat).drop numberAt_2.toNat)))) else
 (bif (numberAt_==8) then ((ZaW (((text.drop 30).take (w64 (numberAt_2+numberAt_1)).toNat).drop numberAt_2.toNat)).bind fun (r7,r8,r9)=>
 ((bif (!r9) then (some true) else
 (some (r8 != numberAt_1))).bind fun c1=>
 (bif c1 then ((some ([],0,0,0,0,0,0,[],0,false)).map Sum.inr) else
 (some (.inl (text,numberAt_,numberAt_1,numberAt_2,[],0,0,0,0,0,0,[],((text.drop 30).take numberAt_2.toNat),r,r1,r2,r3,r4,r5,r7)))))) else
 ((some ([],0,0,0,0,0,0,[],0,false)).map Sum.inr))):Option ((Str×Int×Int×Int×Str×Int×Int×Int×Int×Int×Int×Str×Str×Int×Int×Int×Int×Int×Int×Str)⊕(Str×Int×Int×Int×Int×Int×Int×Str×Int×Bool))).bind fun r=>match r with
 | .inl (text1,method,packed,name,o,o1,o2,o3,o4,o5,o6,o7,o8,o9,o10,o11,o12,o13,o14,o15)=>(((ZbE o8 o9 o10 o11 o12 o13 o14 o15).bind fun EntryOk=>
 (bif (!EntryOk) then (some true) else
 ((ZcE o8 o9 o10 o11 o12 o13 o14 o15 method packed).bind fun headOf_=>
 (need (decide (0≤(30:Int))&&decide ((30:Int)≤text1.length)) (some (!(headOf_==(text1.take 30)))))))).bind fun c2=>
 (bif c2 then (some ([],0,0,0,0,0,0,[],0,false)) else
 (some (o8,o9,o10,o11,o12,o13,o14,o15,(w64 ((w64 (30+name))+packed)),true))))
 | .inr r=>some r)))))))))))))
def joinS (xs:List Str) (sep:Str):Option (Str):=need (fits xs.length&&fits (Znw xs sep).length) (some (Znw xs sep))
def Zbs.l0.step (again:((List (Str×Int×Int×Int×Int×Int×Int×Str))×Int×Int×List Str)→Option (List Str)):((List (Str×Int×Int×Int×Int×Int×Int×Str))×Int×Int×List Str)→Option (List Str):=fun (t,t1,t2,out)=>
 (bif (decide (t2<t1)) then (need (decide (0≤t2)&&decide (t2<t.length)) (need (fits (out.length+([(t.getD t2.toNat ([],0,0,0,0,0,0,[])).1]:List (Str)).length)) (again (t,t1,(w64 (t2+1)),(out++[(t.getD t2.toNat ([],0,0,0,0,0,0,[])).1]))))) else
 (some out))
def Zbs.l0:=ZaO Zbs.l0.step
theorem Zbs.l0.succ (n:Nat) t:Zbs.l0 (n+1) t=Zbs.l0.step (Zbs.l0 n) t:=rfl
def Zbs (list:List (Str×Int×Int×Int×Int×Int×Int×Str)):Option (List Str):=
 ((Zbs.l0 (((list.length:Int)-(0:Int)).toNat+1) (list,(list.length:Int),0,[])).bind fun out1=>
 (some out1))
def ZcG.l0.step (again:((List (Str×Int×Int×Int×Int×Int×Int×Str))×(List (Str×Int×Int×Int×Int×Int×Int×Str))×Int×Int)→Option ((List (Str×Int×Int×Int×Int×Int×Int×Str))⊕(Bool))):((List (Str×Int×Int×Int×Int×Int×Int×Str))×(List (Str×Int×Int×Int×Int×Int×Int×Str))×Int×Int)→Option ((List (Str×Int×Int×Int×Int×Int×Int×Str))⊕(Bool)):=fun (list1,t,t1,t2)=>
 (bif (decide (t2<t1)) then (need (decide (0≤t2)&&decide (t2<t.length)) ((ZbE ((t.getD t2.toNat ([],0,0,0,0,0,0,[])).1) ((t.getD t2.toNat ([],0,0,0,0,0,0,[])).2.1) ((t.getD t2.toNat ([],0,0,0,0,0,0,[])).2.2.1) ((t.getD t2.toNat ([],0,0,0,0,0,0,[])).2.2.2.1) ((t.getD t2.toNat ([],0,0,0,0,0,0,[])).2.2.2.2.1) ((t.getD t2.toNat ([],0,0,0,0,0,0,[])).2.2.2.2.2.1) ((t.getD t2.toNat ([],0,0,0,0,0,0,[])).2.2.2.2.2.2.1) ((t.getD t2.toNat ([],0,0,0,0,0,0,[])).2.2.2.2.2.2.2)).bind fun EntryOk=>
 (bif (!EntryOk) then ((some false).map Sum.inr) else
 (again (list1,t,t1,(w64 (t2+1))))))) else
 (some (.inl list1)))
def ZcG.l0:=ZaO ZcG.l0.step
theorem ZcG.l0.succ (n:Nat) t:ZcG.l0 (n+1) t=ZcG.l0.step (ZcG.l0 n) t:=rfl
def ZcG (list:List (Str×Int×Int×Int×Int×Int×Int×Str)):Option (Bool):=
 ((ZcG.l0 (((list.length:Int)-(0:Int)).toNat+1) (list,list,(list.length:Int),0)).bind fun r=>match r with
 | .inl list2=>(bif (decide ((list2.length:Int)≤6)) then ((Zbs list2).bind fun namesOf_=>
 ((ZbX namesOf_).bind fun apart_=>
 (some apart_))) else
 (some false))
 | .inr r=>some r)
def Za7.l0.step (again:(List Str×Str×Int×List Str×Int×Int)→Option (List Str×Str×Int)):(List Str×Str×Int×List Str×Int×Int)→Option (List Str×Str×Int):=fun (locals1,heads,at_,t,t1,t2)=>
 (bif (decide (t2<t1)) then (need (decide (0≤t2)&&decide (t2<t.length)) ((ZaJ (t.getD t2.toNat []) 26 2).bind fun numberAt_=>
 ((Za2 20 2).bind fun number_=>
 (need (fits (([80,75,1,2]:Str).length+number_.length)) (need (decide (0≤(30:Int))&&decide ((30:Int)≤(t.getD t2.toNat []).length)) (need (decide (0≤(4:Int))&&decide ((4:Int)≤(30:Int))) (need (fits (([80,75,1,2]++number_).length+(((t.getD t2.toNat []).take 30).drop 4).length)) ((Za2 0 10).bind fun number_1=>
 (need (fits ((([80,75,1,2]++number_)++(((t.getD t2.toNat []).take 30).drop 4)).length+number_1.length)) ((Za2 at_ 4).bind fun number_2=>
 (need (fits (((([80,75,1,2]++number_)++(((t.getD t2.toNat []).take 30).drop 4))++number_1).length+number_2.length)) (need (decide (0≤(w64 (30+numberAt_)))&&decide ((w64 (30+numberAt_))≤(t.getD t2.toNat []).length)) (need (decide (0≤(30:Int))&&decide ((30:Int)≤(w64 (30+numberAt_)))) (need (fits ((((([80,75,1,2]++number_)++(((t.getD t2.toNat []).take 30).drop 4))++number_1)++number_2).length+(((t.getD t2.toNat []).take (w64 (30+numberAt_)).toNat).drop 30).length)) (need (fits (heads.length+((((([80,75,1,2]++number_)++(((t.getD t2.toNat []).take 30).drop 4))++number_1)++number_2)++(((t.getD t2.toNat []).take (w64 (30+numberAt_)).toNat).drop 30)).length)) (again (locals1,(heads++((((([80,75,1,2]++number_)++(((t.getD t2.toNat []).take 30).drop 4))++number_1)++number_2)++(((t.getD t2.toNat []).take (w64 (30+numberAt_)).toNat).drop 30))),(w64 (at_+((t.getD t2.toNat []).length:Int))),t,t1,(w64 (t2+1))))))))))))))))))) else
 (some (locals1,heads,at_)))
def Za7.l0:=ZaO Za7.l0.step
theorem Za7.l0.succ (n:Nat) t:Za7.l0 (n+1) t=Za7.l0.step (Za7.l0 n) t:=rfl
def Za7 (locals:List Str):Option (Str):=
 ((Za7.l0 (((locals.length:Int)-(0:Int)).toNat+1) (locals,[],0,locals,(locals.length:Int),0)).bind fun (locals2,heads1,at_1)=>
 ((Za2 (locals2.length:Int) 2).bind fun number_3=>
 (need (fits (heads1.length+([80,75,5,6]:Str).length)) ((Za2 0 4).bind fun number_4=>
 (need (fits ((heads1++[80,75,5,6]).length+number_4.length)) (need (fits (((heads1++[80,75,5,6])++number_4).length+number_3.length)) (need (fits ((((heads1++[80,75,5,6])++number_4)++number_3).length+number_3.length)) ((Za2 (heads1.length:Int) 4).bind fun number_5=>
 (need (fits (((((heads1++[80,75,5,6])++number_4)++number_3)++number_3).length+number_5.length)) ((Za2 at_1 4).bind fun number_6=>
 (need (fits ((((((heads1++[80,75,5,6])++number_4)++number_3)++number_3)++number_5).length+number_6.length)) ((Za2 0 2).bind fun number_7=>
 (need (fits (((((((heads1++[80,75,5,6])++number_4)++number_3)++number_3)++number_5)++number_6).length+number_7.length)) (some (((((((heads1++[80,75,5,6])++number_4)++number_3)++number_3)++number_5)++number_6)++number_7)))))))))))))))
def Zbo.l0.step (again:((List (Str×Int×Int×Int×Int×Int×Int×Str))×Int×Int×List Str)→Option (List Str)):((List (Str×Int×Int×Int×Int×Int×Int×Str))×Int×Int×List Str)→Option (List Str):=fun (t,t1,t2,locals)=>
 (bif (decide (t2<t1)) then (need (decide (0≤t2)&&decide (t2<t.length)) ((Zcn ((t.getD t2.toNat ([],0,0,0,0,0,0,[])).1) ((t.getD t2.toNat ([],0,0,0,0,0,0,[])).2.1) ((t.getD t2.toNat ([],0,0,0,0,0,0,[])).2.2.1) ((t.getD t2.toNat ([],0,0,0,0,0,0,[])).2.2.2.1) ((t.getD t2.toNat ([],0,0,0,0,0,0,[])).2.2.2.2.1) ((t.getD t2.toNat ([],0,0,0,0,0,0,[])).2.2.2.2.2.1) ((t.getD t2.toNat ([],0,0,0,0,0,0,[])).2.2.2.2.2.2.1) ((t.getD t2.toNat ([],0,0,0,0,0,0,[])).2.2.2.2.2.2.2)).bind fun LocalPut=>
 (need (fits (locals.length+([LocalPut]:List (Str)).length)) (again (t,t1,(w64 (t2+1)),(locals++[LocalPut])))))) else
 (some locals))
def Zbo.l0:=ZaO Zbo.l0.step
theorem Zbo.l0.succ (n:Nat) t:Zbo.l0 (n+1) t=Zbo.l0.step (Zbo.l0 n) t:=rfl
def Zbo (list:List (Str×Int×Int×Int×Int×Int×Int×Str)):Option (Str):=
 ((ZcG list).bind fun ZipOk=>
 (bif (!ZipOk) then (some []) else
 ((Zbo.l0 (((list.length:Int)-(0:Int)).toNat+1) (list,(list.length:Int),0,[])).bind fun locals1=>
 ((joinS locals1 []).bind fun Join=>
 ((Za7 locals1).bind fun closing_=>
 (need (fits (Join.length+closing_.length)) (some (Join++closing_))))))))
def Zb2.l0.step (again:(Str×(List (Str×Int×Int×Int×Int×Int×Int×Str))×List Str)→Option (Str×(List (Str×Int×Int×Int×Int×Int×Int×Str))×List Str)):(Str×(List (Str×Int×Int×Int×Int×Int×Int×Str))×List Str)→Option (Str×(List (Str×Int×Int×Int×Int×Int×Int×Str))×List Str):=fun (rest,out,locals)=>
 (bif (decide ((out.length:Int)<6)) then ((Zco rest).bind fun (r,r1,r2,r3,r4,r5,r6,r7,r8,r9)=>
 (bif (!r9) then (some (rest,out,locals)) else
 (need (fits (out.length+([(r,r1,r2,r3,r4,r5,r6,r7)]:List (Str×Int×Int×Int×Int×Int×Int×Str)).length)) (need (decide (0≤r8)&&decide (r8≤rest.length)) (need (fits (locals.length+([(rest.take r8.toNat)]:List (Str)).length)) (need (decide (0≤r8)&&decide (r8≤rest.length)) (again ((rest.drop r8.toNat),(out++[(r,r1,r2,r3,r4,r5,r6,r7)]),(locals++[(rest.take r8.toNat)]))))))))) else
 (some (rest,out,locals)))
def Zb2.l0:=ZaO Zb2.l0.step
theorem Zb2.l0.succ (n:Nat) t:Zb2.l0 (n+1) t=Zb2.l0.step (Zb2.l0 n) t:=rfl
def Zb2 (text:Str):Option (Bool×List (Str×Int×Int×Int×Int×Int×Int×Str)):=
 ((Zb2.l0 ((6-(([]:List (Str×Int×Int×Int×Int×Int×Int×Str)).length:Int)).toNat+1) (text,[],[])).bind fun (rest1,out1,locals1)=>
 (((ZcG out1).bind fun ZipOk=>
 (bif (!ZipOk) then (some true) else
 ((Za7 locals1).bind fun closing_=>
 (some (!(rest1==closing_)))))).bind fun c=>
 (bif c then (some (false,[])) else
 (some (true,out1)))))
def find1 (ename:Str) (ey:Int) (emo:Int) (ed:Int) (eh:Int) (emi:Int) (esec:Int) (etext:Str) (name:Str):Option (Bool×Str):=
 (some ((ename==name),name))
def Zeb.l0.step (again:((List (Str×Int×Int×Int×Int×Int×Int×Str))×Int×Int×Str)→Option ((Str)⊕(Int×Str))):((List (Str×Int×Int×Int×Int×Int×Int×Str))×Int×Int×Str)→Option ((Str)⊕(Int×Str)):=fun (s,t,t1,o)=>
 (bif (decide (t1<t)) then (need (decide (0≤t1)&&decide (t1<s.length)) ((find1 ((s.getD t1.toNat ([],0,0,0,0,0,0,[])).1) ((s.getD t1.toNat ([],0,0,0,0,0,0,[])).2.1) ((s.getD t1.toNat ([],0,0,0,0,0,0,[])).2.2.1) ((s.getD t1.toNat ([],0,0,0,0,0,0,[])).2.2.2.1) ((s.getD t1.toNat ([],0,0,0,0,0,0,[])).2.2.2.2.1) ((s.getD t1.toNat ([],0,0,0,0,0,0,[])).2.2.2.2.2.1) ((s.getD t1.toNat ([],0,0,0,0,0,0,[])).2.2.2.2.2.2.1) ((s.getD t1.toNat ([],0,0,0,0,0,0,[])).2.2.2.2.2.2.2) o).bind fun (r,r1)=>
 (bif r then ((some (t1,r1)).map Sum.inr) else
 (again (s,t,(w64 (t1+1)),r1))))) else
 (some (.inl o)))
def Zeb.l0:=ZaO Zeb.l0.step
def Zeb (list:List (Str×Int×Int×Int×Int×Int×Int×Str)) (name:Str):Option (Int×Str):=
 ((Zeb.l0 (((list.length:Int)-(0:Int)).toNat+1) (list,(list.length:Int),0,name)).bind fun r=>match r with
 | .inl o1=>(some ((-1),o1))
 | .inr r=>some r)
def find (list:List (Str×Int×Int×Int×Int×Int×Int×Str)) (name:Str):Option (Int):=
 ((Zeb list name).bind fun (r,r1)=>
 (some r))
def Zb3 (xp:Str) (xt:Str) (path:Str) (text:Str):Option (Bool×Str×Str):=
 (some ((xp==path),path,text))
def ZaB.l0.step (again:((List (Str×Str))×Int×Int×Str×Str)→Option ((Str×Str)⊕(Int×Str×Str))):((List (Str×Str))×Int×Int×Str×Str)→Option ((Str×Str)⊕(Int×Str×Str)):=fun (s,t,t1,o,o1)=>
 (bif (decide (t1<t)) then (need (decide (0≤t1)&&decide (t1<s.length)) ((Zb3 ((s.getD t1.toNat ([],[])).1) ((s.getD t1.toNat ([],[])).2) o o1).bind fun (r,r1,r2)=>
 (bif r then ((some (t1,r1,r2)).map Sum.inr) else
 (again (s,t,(w64 (t1+1)),r1,r2))))) else
 (some (.inl (o,o1))))
def ZaB.l0:=ZaO ZaB.l0.step
theorem ZaB.l0.succ (n:Nat) t:ZaB.l0 (n+1) t=ZaB.l0.step (ZaB.l0 n) t:=rfl
def ZaB (list:List (Str×Str)) (path:Str) (text:Str):Option (Int×Str×Str):=
 ((ZaB.l0 (((list.length:Int)-(0:Int)).toNat+1) (list,(list.length:Int),0,path,text)).bind fun r=>match r with
 | .inl (o2,o3)=>(some ((-1),o2,o3))
 | .inr r=>some r)
def ZlG (list:List (Str×Str)):Option (List (Str×Str)):=ZlF list
def ZaR.l0.step (again:((List (Str×Str))×Int×Int×(List (Str×Str))×List (Str×Int×Int×Int×Int×Int×Int×Str))→Option ((List (Str×Str))×List (Str×Str))):((List (Str×Str))×Int×Int×(List (Str×Str))×List (Str×Int×Int×Int×Int×Int×Int×Str))→Option ((List (Str×Str))×List (Str×Str)):=fun (t1,t2,t3,out,o)=>
 (bif (decide (t3<t2)) then (need (decide (0≤t3)&&decide (t3<o.length)) ((ZaB out ((o.getD t3.toNat ([],0,0,0,0,0,0,[])).1) ((o.getD t3.toNat ([],0,0,0,0,0,0,[])).2.2.2.2.2.2.2)).bind fun (r2,r3,r4)=>
 (bif (decide (r2≥0)) then (need (decide (0≤r2)&&decide (r2<out.length)) (again (t1,t2,(w64 (t3+1)),(out.set r2.toNat (r3,r4)),o))) else
 (need (fits (out.length+([(r3,r4)]:List (Str×Str)).length)) (again (t1,t2,(w64 (t3+1)),(out++[(r3,r4)]),o)))))) else
 (some (t1,out)))
def ZaR.l0:=ZaO ZaR.l0.step
theorem ZaR.l0.succ (n:Nat) t:ZaR.l0 (n+1) t=ZaR.l0.step (ZaR.l0 n) t:=rfl
def ZaR (t:List (Str×Str)) (text:Str):Option (Int×List (Str×Str)):=
 ((Zb2 text).bind fun (r,r1)=>
 (((Zal t).bind fun TreeOk=>
 (bif (!TreeOk) then (some true) else
 (some (!r)))).bind fun c=>
 (bif c then (some (1,[])) else
 (need (fits (([]:List (Str×Str)).length+t.length)) ((ZaR.l0 (((r1.length:Int)-(0:Int)).toNat+1) (t,(r1.length:Int),0,([]++t),r1)).bind fun (t4,out1)=>
 ((ZlG out1).bind fun File=>
 (bif (decide ((File.length:Int)>8)) then (need (fits (([]:List (Str×Str)).length+t4.length)) (some (4,([]++t4)))) else
 ((Zal File).bind fun TreeOk1=>
 (bif (!TreeOk1) then (need (fits (([]:List (Str×Str)).length+t4.length)) (some (3,([]++t4)))) else
 (need (fits (([]:List (Str×Str)).length+File.length)) (some (0,([]++File)))))))))))))
def Zbr.l0.step (again:(Str×(List (Str×Str))×Int×Int×Int×Int×Int×Int×Int×Int×List (Str×Int×Int×Int×Int×Int×Int×Str))→Option (List (Str×Int×Int×Int×Int×Int×Int×Str))):(Str×(List (Str×Str))×Int×Int×Int×Int×Int×Int×Int×Int×List (Str×Int×Int×Int×Int×Int×Int×Str))→Option (List (Str×Int×Int×Int×Int×Int×Int×Str)):=fun (place1,t1,t2,t3,o,o1,o2,o3,o4,o5,list)=>
 (bif (decide (t3<t2)) then (need (decide (0≤t3)&&decide (t3<t1.length)) ((bif (place1==[]) then (some true) else
 (bif ((t1.getD t3.toNat ([],[])).1==place1) then (some true) else
 (need (fits (place1.length+([47]:Str).length)) ((Zbe ((t1.getD t3.toNat ([],[])).1) (place1++[47])).bind fun HasPrefi=>
 (some HasPrefi))))).bind fun c1=>
 (bif c1 then (need (fits (list.length+([((t1.getD t3.toNat ([],[])).1,o,o1,o2,o3,o4,o5,(t1.getD t3.toNat ([],[])).2)]:List (Str×Int×Int×Int×Int×Int×Int×Str)).length)) (again (place1,t1,t2,(w64 (t3+1)),o,o1,o2,o3,o4,o5,(list++[((t1.getD t3.toNat ([],[])).1,o,o1,o2,o3,o4,o5,(t1.getD t3.toNat ([],[])).2)])))) else
 (again (place1,t1,t2,(w64 (t3+1)),o,o1,o2,o3,o4,o5,list))))) else
 (some list))
def Zbr.l0:=ZaO Zbr.l0.step
theorem Zbr.l0.succ (n:Nat) t:Zbr.l0 (n+1) t=Zbr.l0.step (Zbr.l0 n) t:=rfl
def Zbr (t:List (Str×Str)) (place:Str) (y:Int) (mo:Int) (d:Int) (h:Int) (mi:Int) (sec:Int):Option (Str×Int):=
 (((Zal t).bind fun TreeOk=>
 (bif (!TreeOk) then (some true) else
 (bif (!(place==[])) then ((Zat place).bind fun NameOk=>
 (bif (!NameOk) then (some true) else
 ((ZbN y mo d h mi sec).bind fun StampOk=>
 (some (!StampOk))))) else
 ((ZbN y mo d h mi sec).bind fun StampOk1=>
 (some (!StampOk1)))))).bind fun c=>
 (bif c then (some ([],1)) else
 ((Zbr.l0 (((t.length:Int)-(0:Int)).toNat+1) (place,t,(t.length:Int),0,y,mo,d,h,mi,sec,[])).bind fun list1=>
 (bif (decide ((list1.length:Int)>6)) then (some ([],4)) else
 ((Zbo list1).bind fun ZipPut=>
 (some (ZipPut,0)))))))
def Zmf.l0.step (again:(List Int×Int×Int)→Option (Int)):(List Int×Int×Int)→Option (Int):=fun (base1,n1,k)=>
 ((bif (decide ((w64 (k+1))<(base1.length:Int))) then (need (decide (0≤(w64 (k+1)))&&decide ((w64 (k+1))<base1.length)) (some (decide ((base1.getD (w64 (k+1)).toNat 0)≤n1)))) else
 (some false)).bind fun c=>
 (bif c then (again (base1,n1,(w64 (k+1)))) else
 (some k)))
def Zmf.l0:=ZaO Zmf.l0.step
def Zmf (base:List Int) (n:Int):Option (Int):=
 ((Zmf.l0 ((base.length:Int).toNat+1) (base,n,0)).bind fun k1=>
 (some k1))
def ZcO.l0.step (again:((List (Str×Str))×Int×Str×Str)→Option ((List (Str×Str))×Int×Str×Str)):((List (Str×Str))×Int×Str×Str)→Option ((List (Str×Str))×Int×Str×Str):=fun (t,k,o,o1)=>
 ((bif (decide (k<(t.length:Int))) then (need (decide (0≤k)&&decide (k<t.length)) (some (Op.bytesLess ((t.getD k.toNat ([],[])).1) o))) else
 (some false)).bind fun c=>
 (bif c then (again (t,(w64 (k+1)),o,o1)) else
 (some (t,k,o,o1))))
def ZcO.l0:=ZaO ZcO.l0.step
def ZcO (xs:List (Str×Str)) (path:Str) (text:Str):Option (List (Str×Str)):=
 ((ZcO.l0 (((xs.length:Int)-(0:Int)).toNat+1) (xs,0,path,text)).bind fun (t1,k1,o2,o3)=>
 ((bif (decide (k1<(t1.length:Int))) then (need (decide (0≤k1)&&decide (k1<t1.length)) (some ((t1.getD k1.toNat ([],[])).1==o2))) else
 (some false)).bind fun c1=>
 (bif c1 then (need (decide (0≤k1)&&decide (k1≤t1.length)) (need (fits (([]:List (Str×Str)).length+(t1.take k1.toNat).length)) (need (fits (([]++(t1.take k1.toNat)).length+([(o2,o3)]:List (Str×Str)).length)) (need (decide (0≤(w64 (k1+1)))&&decide ((w64 (k1+1))≤t1.length)) (need (fits ((([]++(t1.take k1.toNat))++[(o2,o3)]).length+(t1.drop (w64 (k1+1)).toNat).length)) (some ((([]++(t1.take k1.toNat))++[(o2,o3)])++(t1.drop (w64 (k1+1)).toNat)))))))) else
 (need (decide (0≤k1)&&decide (k1≤t1.length)) (need (fits (([]:List (Str×Str)).length+(t1.take k1.toNat).length)) (need (fits (([]++(t1.take k1.toNat)).length+([(o2,o3)]:List (Str×Str)).length)) (need (decide (0≤k1)&&decide (k1≤t1.length)) (need (fits ((([]++(t1.take k1.toNat))++[(o2,o3)]).length+(t1.drop k1.toNat).length)) (some ((([]++(t1.take k1.toNat))++[(o2,o3)])++(t1.drop k1.toNat)))))))))))
def ZdP (code_:List Int):Option (List Int×Int):=
 (bif (decide ((code_.length:Int)>2000)) then (need (decide (0≤(2000:Int))&&decide ((2000:Int)≤code_.length)) (some ((code_.take 2000),0))) else
 (some (code_,0)))
def pick (n:Int) (b:List Int) (p:Int):Option (Int×List Int×Int):=
 ((bif (decide (n<1)) then (some true) else
 (some ((b.length:Int)==0))).bind fun c=>
 (bif c then (some (0,b,(w64 (p+1)))) else
 (bif (decide ((w64 ((w64 (p+1))-1))<(b.length:Int))) then (need (decide (0≤(w64 ((w64 (p+1))-1)))&&decide ((w64 ((w64 (p+1))-1))<b.length)) (need (n != 0) (some (((w64 (b.getD (w64 ((w64 (p+1))-1)).toNat 0)).tmod n),b,(w64 (p+1)))))) else
 (need ((b.length:Int) != 0) (need (decide (0≤((w64 ((w64 (p+1))-1)).tmod (b.length:Int)))&&decide (((w64 ((w64 (p+1))-1)).tmod (b.length:Int))<b.length)) (need ((b.length:Int) != 0) (need (decide (0≤((w64 ((w64 ((w64 ((w64 (p+1))-1))*7))+3)).tmod (b.length:Int)))&&decide (((w64 ((w64 ((w64 ((w64 (p+1))-1))*7))+3)).tmod (b.length:Int))<b.length)) (need ((b.length:Int) != 0) (need (n != 0) (some (((Zlr .i64 (w64 ((w64 ((w64 ((w64 ((w64 (b.getD ((w64 ((w64 (p+1))-1)).tmod (b.length:Int)).toNat 0))*131))+(w64 ((w64 (b.getD ((w64 ((w64 ((w64 ((w64 (p+1))-1))*7))+3)).tmod (b.length:Int)).toNat 0))*1117))))+(w64 ((w64 ((w64 (p+1))-1))*29))))+(w64 ((w64 ((w64 ((w64 (p+1))-1)).tdiv (b.length:Int)))*53)))) (w64 ((w64 ((w64 ((w64 ((w64 ((w64 (b.getD ((w64 ((w64 (p+1))-1)).tmod (b.length:Int)).toNat 0))*131))+(w64 ((w64 (b.getD ((w64 ((w64 ((w64 ((w64 (p+1))-1))*7))+3)).tmod (b.length:Int)).toNat 0))*1117))))+(w64 ((w64 ((w64 (p+1))-1))*29))))+(w64 ((w64 ((w64 ((w64 (p+1))-1)).tdiv (b.length:Int)))*53)))).tdiv 64))).tmod n),b,(w64 (p+1)))))))))))))
def ZhQ (xs:List Str) (b:List Int) (p:Int):Option (Str×List Int×Int):=
 ((pick (xs.length:Int) b p).bind fun (r,r1,r2)=>
 (need (decide (0≤r)&&decide (r<xs.length)) (some ((xs.getD r.toNat []),r1,r2))))
def Zch.l0.step (again:(Str×Int×Str)→Option (Str)):(Str×Int×Str)→Option (Str):=fun (s1,n1,out)=>
 (bif (decide (n1>0)) then (bif ((n1.tmod 2)==1) then (need (fits (out.length+s1.length)) (need (fits (s1.length+s1.length)) (again ((s1++s1),(w64 (n1.tdiv 2)),(out++s1))))) else
 (need (fits (s1.length+s1.length)) (again ((s1++s1),(w64 (n1.tdiv 2)),out)))) else
 (some out))
def Zch.l0:=ZaO Zch.l0.step
def Zch (s:Str) (n:Int):Option (Str):=
 ((Zch.l0 (n.toNat+1) (s,n,[])).bind fun out1=>
 (some out1))
def Zbh.l0.step (again:(Int×List Int×Int×List Int)→Option (List Int×Int×List Int)):(Int×List Int×Int×List Int)→Option (List Int×Int×List Int):=fun (n,o,o1,out)=>
 (bif (decide (n>0)) then ((pick 256 o o1).bind fun (r12,r13,r14)=>
 (need (fits (out.length+([(IntKind.wrap .u8 r12)]:List (Int)).length)) (again ((w64 (n-1)),r13,r14,(out++[(IntKind.wrap .u8 r12)]))))) else
 (some (o,o1,out)))
def Zbh.l0:=ZaO Zbh.l0.step
def Zbh.l1.step (again:(Str×Int×List Int×Int)→Option (Str×List Int×Int)):(Str×Int×List Int×Int)→Option (Str×List Int×Int):=fun (out2,n1,o4,o5)=>
 (bif (decide (n1>0)) then ((ZhQ [[116,104,101,32],[115,116,111,110,101,32],[116,104,97,116,32],[98,101,97,114,115,32],[97,32],[98,101,97,109],[46,32]] o4 o5).bind fun (r18,r19,r20)=>
 (need (fits (out2.length+r18.length)) (again ((out2++r18),(w64 (n1-1)),r19,r20)))) else
 (some (out2,o4,o5)))
def Zbh.l1:=ZaO Zbh.l1.step
def Zbh (b:List Int) (p:Int):Option (Str×List Int×Int):=
 ((pick 8 b p).bind fun (r,r1,r2)=>
 (bif (r==0) then (some ([],r1,r2)) else
 (bif (r==1) then ((ZhQ [[97],[97,98],[97,98,99],[120,121,122,122,121,32]] r1 r2).bind fun (r3,r4,r5)=>
 ((pick 40 r4 r5).bind fun (r6,r7,r8)=>
 ((Zch r3 (w64 (1+r6))).bind fun l1Many_=>
 (some (l1Many_,r7,r8))))) else
 (bif (r==2) then ((pick 40 r1 r2).bind fun (r9,r10,r11)=>
 ((Zbh.l0 ((r9-0).toNat+1) (r9,r10,r11,[])).bind fun (o2,o3,out1)=>
 (some ((Zck out1),o2,o3)))) else
 (bif (r==3) then ((Zch [113] 300).bind fun l1Many_1=>
 (some (l1Many_1,r1,r2))) else
 ((pick 12 r1 r2).bind fun (r15,r16,r17)=>
 ((Zbh.l1 ((r15-0).toNat+1) ([],r15,r16,r17)).bind fun (out3,o6,o7)=>
 (some (out3,o6,o7)))))))))
def ZbA (b:List Int) (p:Int):Option (Str×List Int×Int):=
 ((pick 16 b p).bind fun (r,r1,r2)=>
 (bif (r==0) then ((Zch [113] 301).bind fun l1Many_=>
 (some (l1Many_,r1,r2))) else
 ((Zbh r1 r2).bind fun (r3,r4,r5)=>
 (some (r3,r4,r5)))))
def Zcd (b:List Int) (p:Int):Option (Str×List Int×Int):=
 ((ZhQ [[97],[98,46,116,120,116],[100,105,114,47,97],[100,105,114,47,98],[120,45,121,95,122],[97,47,98,47,99,47,100],[114,101,97,100,109,101]] b p).bind fun (r,r1,r2)=>
 (some (r,r1,r2)))
def ZbB (b:List Int) (p:Int):Option (Str×List Int×Int):=
 ((pick 6 b p).bind fun (r,r1,r2)=>
 (bif (r==0) then ((ZhQ [[],[47],[97,47],[46,46],[97,47,46,46,47,98],[65],[97,32,98],[101,108,101,118,101,110,108,101,116,116,101],[97,47,98,47,99,47,100,47,101]] r1 r2).bind fun (r3,r4,r5)=>
 (some (r3,r4,r5))) else
 ((Zcd r1 r2).bind fun (r6,r7,r8)=>
 (some (r6,r7,r8)))))
def Zb5.l0.step (again:(Int×List Int×Int×List (Str×Str))→Option (List Int×Int×List (Str×Str))):(Int×List Int×Int×List (Str×Str))→Option (List Int×Int×List (Str×Str)):=fun (n,o,o1,out)=>
 (bif (decide (n>0)) then ((Zcd o o1).bind fun (r3,r4,r5)=>
 ((Zbh r4 r5).bind fun (r6,r7,r8)=>
 ((ZcO out r3 r6).bind fun l10Put_=>
 ((Zag l10Put_).bind fun TreeOk=>
 (bif TreeOk then (again ((w64 (n-1)),r7,r8,l10Put_)) else
 (again ((w64 (n-1)),r7,r8,out))))))) else
 (some (o,o1,out)))
def Zb5.l0:=ZaO Zb5.l0.step
def Zb5 (b:List Int) (p:Int):Option (List Int×Int×List (Str×Str)):=
 ((pick 5 b p).bind fun (r,r1,r2)=>
 ((Zb5.l0 ((r-0).toNat+1) (r,r1,r2,[])).bind fun (o2,o3,out1)=>
 (some (o2,o3,out1))))
def Zbz (b:List Int) (p:Int):Option (List Int×Int×List (Str×Str)):=
 ((Zb5 b p).bind fun (r,r1,r2)=>
 (need (fits (([]:List (Str×Str)).length+r2.length)) ((pick 8 r r1).bind fun (r3,r4,r5)=>
 (bif (r3==0) then ((ZbB r4 r5).bind fun (r6,r7,r8)=>
 ((ZbA r7 r8).bind fun (r9,r10,r11)=>
 (need (fits (([]++r2).length+([(r6,r9)]:List (Str×Str)).length)) (some (r10,r11,(([]++r2)++[(r6,r9)])))))) else
 (some (r4,r5,([]++r2)))))))
def ZbQ.l0.step (again:((List (Str×Str))×(List (Str×Str))×Int)→Option ((Unit)⊕(Bool))):((List (Str×Str))×(List (Str×Str))×Int)→Option ((Unit)⊕(Bool)):=fun (a,b,i)=>
 (bif (decide (i<(a.length:Int))) then (need (decide (0≤i)&&decide (i<a.length)) (need (decide (0≤i)&&decide (i<b.length)) (bif (!(((a.getD i.toNat ([],[])).1==(b.getD i.toNat ([],[])).1)&&(((a.getD i.toNat ([],[])).2==(b.getD i.toNat ([],[])).2)&&true))) then ((some false).map Sum.inr) else
 (again (a,b,(w64 (i+1))))))) else
 (some (.inl ())))
def ZbQ.l0:=ZaO ZbQ.l0.step
theorem ZbQ.l0.succ (n:Nat) t:ZbQ.l0 (n+1) t=ZbQ.l0.step (ZbQ.l0 n) t:=rfl
def ZbQ (xs:List (Str×Str)) (ys:List (Str×Str)):Option (Bool):=
 (bif ((xs.length:Int) != (ys.length:Int)) then (some false) else
 ((ZbQ.l0 (((xs.length:Int)-(0:Int)).toNat+1) (xs,ys,0)).bind fun r=>match r with
 | .inl _=>(some true)
 | .inr r=>some r))
def Za3 (code_:List Int):Option (List (Str×Str)):=
 ((ZdP code_).bind fun (r,r1)=>
 ((Zbz r r1).bind fun (r2,r3,r4)=>
 (some r4)))
def FnTreeUnder.l0.step (again:(Int×List (Str×Str))→Option ((Unit)⊕(Bool))):(Int×List (Str×Str))→Option ((Unit)⊕(Bool)):=fun (i,t)=>
 (bif (decide (i<(t.length:Int))) then (need (decide (0≤i)&&decide (i<t.length)) (need (fits (((t.getD i.toNat ([],[])).1).length+([47,120]:Str).length)) ((Zbo [(((t.getD i.toNat ([],[])).1++[47,120]),2000,1,1,0,0,0,[])]).bind fun ZipPut=>
 ((ZaR t ZipPut).bind fun (r,r1)=>
 ((bif (r==0) then (some true) else
 (bif (!(ZipPut==[])) then ((ZbQ r1 t).bind fun cbTree_=>
 (some (!cbTree_))) else
 (some false))).bind fun c1=>
 (bif c1 then ((some false).map Sum.inr) else
 (again ((w64 (i+1)),t)))))))) else
 (some (.inl ())))
def FnTreeUnder.l0:=ZaO FnTreeUnder.l0.step
theorem FnTreeUnder.l0.succ (n:Nat) t:FnTreeUnder.l0 (n+1) t=FnTreeUnder.l0.step (FnTreeUnder.l0 n) t:=rfl
def FnTreeUnder (code_:List Int):Option (Bool):=
 (bif (decide ((code_.length:Int)>1048576)) then (some true) else
 ((Za3 code_).bind fun DrawTree=>
 ((Zal DrawTree).bind fun TreeOk=>
 (((Zag DrawTree).bind fun TreeOk1=>
 (bif (!(TreeOk==TreeOk1)) then (some true) else
 (some (!TreeOk)))).bind fun c=>
 (bif c then ((Zag DrawTree).bind fun TreeOk2=>
 (some (TreeOk==TreeOk2))) else
 ((FnTreeUnder.l0 (((DrawTree.length:Int)-(0:Int)).toNat+1) (0,DrawTree)).bind fun r=>match r with
 | .inl _=>(some true)
 | .inr r=>some r))))))
def FnTreeNone (code_:List Int):Option (Bool):=
 (bif (decide ((code_.length:Int)>1048576)) then (some true) else
 ((Za3 code_).bind fun DrawTree=>
 ((Zal DrawTree).bind fun TreeOk=>
 (((Zag DrawTree).bind fun TreeOk1=>
 (bif (!(TreeOk==TreeOk1)) then (some true) else
 (some (!TreeOk)))).bind fun c=>
 (bif c then ((Zag DrawTree).bind fun TreeOk2=>
 (some (TreeOk==TreeOk2))) else
 ((Zbo []).bind fun ZipPut=>
 ((ZaR DrawTree ZipPut).bind fun (r,r1)=>
 ((Zbr DrawTree [110,111,98,111,100,121] 1980 1 1 0 0 0).bind fun (r2,r3)=>
 ((bif (r==0) then ((ZbQ r1 DrawTree).bind fun cbTree_=>
 (bif cbTree_ then (bif (r3==0) then ((Zbo []).bind fun ZipPut1=>
 (some (r2==ZipPut1))) else
 (some false)) else
 (some false))) else
 (some false)).bind fun c1=>
 (some c1))))))))))
end Ev
end
