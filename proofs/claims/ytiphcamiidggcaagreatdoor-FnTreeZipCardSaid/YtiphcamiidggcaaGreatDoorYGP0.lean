/- What each function of the program computes, as a plain function (printed by a program of this work out of the form of the program). Conditions: none. -/
import Derived.Test.YtiphcamiidggcaaGreatDoorYGS0
set_option linter.unusedVariables false
set_option linter.unusedSimpArgs false
section
open Go
set_option maxRecDepth 100000
namespace Ev
set_option maxHeartbeats 1000000
def ZbC (n:Int) (low:Int) (high:Int):Option (Bool):=
 ((bif (decide (n≥low)) then (some (decide (n≤high))) else
 (some false)).bind fun c=>
 (some c))
def Zdc.l0.step (again:(Str×Int×Int)→Option ((Str)⊕(Bool))):(Str×Int×Int)→Option ((Str)⊕(Bool)):=fun (s1,t,t1)=>
 (bif (decide (t1<t)) then (need (decide (0≤t1)&&decide (t1<s1.length)) ((bif (decide (((s1.getD t1.toNat 0).toNat:Int)<97)) then (bif (decide (((s1.getD t1.toNat 0).toNat:Int)<48)) then (bif (((s1.getD t1.toNat 0).toNat:Int) != 46) then (bif (((s1.getD t1.toNat 0).toNat:Int) != 45) then (some (((s1.getD t1.toNat 0).toNat:Int) != 95)) else
 (some false)) else
 (some false)) else
 (bif (decide (((s1.getD t1.toNat 0).toNat:Int)>57)) then (bif (((s1.getD t1.toNat 0).toNat:Int) != 46) then (bif (((s1.getD t1.toNat 0).toNat:Int) != 45) then (some (((s1.getD t1.toNat 0).toNat:Int) != 95)) else
 (some false)) else
 (some false)) else
 (some false))) else
 (bif (decide (((s1.getD t1.toNat 0).toNat:Int)>122)) then (bif (decide (((s1.getD t1.toNat 0).toNat:Int)<48)) then (bif (((s1.getD t1.toNat 0).toNat:Int) != 46) then (bif (((s1.getD t1.toNat 0).toNat:Int) != 45) then (some (((s1.getD t1.toNat 0).toNat:Int) != 95)) else
 (some false)) else
 (some false)) else
 (bif (decide (((s1.getD t1.toNat 0).toNat:Int)>57)) then (bif (((s1.getD t1.toNat 0).toNat:Int) != 46) then (bif (((s1.getD t1.toNat 0).toNat:Int) != 45) then (some (((s1.getD t1.toNat 0).toNat:Int) != 95)) else
 (some false)) else
 (some false)) else
 (some false))) else
 (some false))).bind fun c=>
 (bif c then ((some false).map Sum.inr) else
 (again (s1,t,(w64 (t1+1))))))) else
 (some (.inl s1)))
def Zdc.l0:=ZaA Zdc.l0.step
theorem Zdc.l0.succ (n:Nat) t:Zdc.l0 (n+1) t=Zdc.l0.step (Zdc.l0 n) t:=rfl
def Zdc (s:Str):Option (Bool):=
 ((Zdc.l0 (((s.length:Int)-(0:Int)).toNat+1) (s,(s.length:Int),0)).bind fun r=>match r with
 | .inl s2=>(((ZbC (s2.length:Int) 1 10).bind fun within_=>
 (bif within_ then (bif (!(s2==[46])) then (some (!(s2==[46,46]))) else
 (some false)) else
 (some false))).bind fun c1=>
 (some c1))
 | .inr r=>some r)
def Zhp (n:Int) (low:Int) (high:Int):Option (Bool):=
 ((bif (decide (n≥low)) then (some (decide (n≤high))) else
 (some false)).bind fun c=>
 (some c))
def ZeP.l0.step (again:(Str×Int×Int×Int×Int×List Str)→Option (Str×Int×List Str)):(Str×Int×Int×Int×Int×List Str)→Option (Str×Int×List Str):=fun (s1,b1,most1,from_,i,out)=>
 ((bif (decide (i<(s1.length:Int))) then (some (decide ((out.length:Int)<most1))) else
 (some false)).bind fun c=>
 (bif c then (need (decide (0≤i)&&decide (i<s1.length)) (bif (((s1.getD i.toNat 0).toNat:Int)==b1) then (need (decide (0≤i)&&decide (i≤s1.length)) (need (decide (0≤from_)&&decide (from_≤i)) (need (fits (out.length+([((s1.take i.toNat).drop from_.toNat)]:List (Str)).length)) (again (s1,b1,most1,(w64 (i+1)),(w64 (i+1)),(out++[((s1.take i.toNat).drop from_.toNat)])))))) else
 (again (s1,b1,most1,from_,(w64 (i+1)),out)))) else
 (some (s1,from_,out))))
def ZeP.l0:=ZaA ZeP.l0.step
theorem ZeP.l0.succ (n:Nat) t:ZeP.l0 (n+1) t=ZeP.l0.step (ZeP.l0 n) t:=rfl
def ZeP (s:Str) (b:Int) (most:Int):Option (List Str):=
 ((ZeP.l0 (((s.length:Int)-(0:Int)).toNat+1) (s,b,most,0,0,[])).bind fun (s2,from_1,out1)=>
 (need (decide (0≤from_1)&&decide (from_1≤s2.length)) (need (fits (out1.length+([(s2.drop from_1.toNat)]:List (Str)).length)) (some (out1++[(s2.drop from_1.toNat)])))))
def ZfV (path:Str) (text:Str) (n:Int):Option (Int):=
 (bif (decide ((w64 (n-(path.length:Int)))<0)) then (some (-1)) else
 (bif (decide ((w64 ((w64 (n-(path.length:Int)))-(text.length:Int)))<0)) then (some (-1)) else
 (some (w64 ((w64 (n-(path.length:Int)))-(text.length:Int))))))
def Zb8.l0.step (again:((List (Str×Str))×Int×Int)→Option ((Int)⊕(Int))):((List (Str×Str))×Int×Int)→Option ((Int)⊕(Int)):=fun (a,left,i)=>
 (bif (decide (i<(a.length:Int))) then (need (decide (0≤i)&&decide (i<a.length)) ((ZfV ((a.getD i.toNat ([],[])).1) ((a.getD i.toNat ([],[])).2) left).bind fun szFile_=>
 (bif (decide (szFile_<0)) then ((some (-1)).map Sum.inr) else
 (again (a,szFile_,(w64 (i+1))))))) else
 (some (.inl left)))
def Zb8.l0:=ZaA Zb8.l0.step
theorem Zb8.l0.succ (n:Nat) t:Zb8.l0 (n+1) t=Zb8.l0.step (Zb8.l0 n) t:=rfl
def Zb8 (xs:List (Str×Str)) (n:Int):Option (Int):=
 (bif (decide ((w64 (n-(xs.length:Int)))<0)) then (some (-1)) else
 ((Zb8.l0 (((xs.length:Int)-(0:Int)).toNat+1) (xs,(w64 (n-(xs.length:Int))),0)).bind fun r=>match r with
 | .inl left1=>(some left1)
 | .inr r=>some r))
def Zgu (path:Str) (text:Str):Option (Str×Str):=
 (some (path,text))
def ZbW.l0.step (again:((List (Str×Str))×Int×List (Str×Str))→Option (List (Str×Str))):((List (Str×Str))×Int×List (Str×Str))→Option (List (Str×Str)):=fun (a,i,out)=>
 (bif (decide (i<(a.length:Int))) then (need (decide (0≤i)&&decide (i<a.length)) ((Zgu ((a.getD i.toNat ([],[])).1) ((a.getD i.toNat ([],[])).2)).bind fun (r,r1)=>
 (need (decide (0≤i)&&decide (i<out.length)) (again (a,(w64 (i+1)),(out.set i.toNat (r,r1))))))) else
 (some out))
def ZbW.l0:=ZaA ZbW.l0.step
theorem ZbW.l0.succ (n:Nat) t:ZbW.l0 (n+1) t=ZbW.l0.step (ZbW.l0 n) t:=rfl
def ZbW (xs:List (Str×Str)):Option (List (Str×Str)):=
 (need (decide (0≤(xs.length:Int))&&fits (xs.length:Int).toNat) ((ZbW.l0 (((xs.length:Int)-(0:Int)).toNat+1) (xs,0,(List.replicate (xs.length:Int).toNat (([],[]):Str×Str)))).bind fun out1=>
 (some out1)))
def Zf9 (p:Str) (t:Str) (q:Str) (u:Str):Option (Bool):=
 (bif (!(p==q)) then (some false) else
 (bif (!(t==u)) then (some false) else
 (some true)))
def ZbZ.l0.step (again:((List (Str×Str))×(List (Str×Str))×Int)→Option ((Unit)⊕(Bool))):((List (Str×Str))×(List (Str×Str))×Int)→Option ((Unit)⊕(Bool)):=fun (a,b,i)=>
 (bif (decide (i<(a.length:Int))) then (need (decide (0≤i)&&decide (i<a.length)) (need (decide (0≤i)&&decide (i<b.length)) ((Zf9 ((a.getD i.toNat ([],[])).1) ((a.getD i.toNat ([],[])).2) ((b.getD i.toNat ([],[])).1) ((b.getD i.toNat ([],[])).2)).bind fun eqFile_=>
 (bif (!eqFile_) then ((some false).map Sum.inr) else
 (again (a,b,(w64 (i+1)))))))) else
 (some (.inl ())))
def ZbZ.l0:=ZaA ZbZ.l0.step
theorem ZbZ.l0.succ (n:Nat) t:ZbZ.l0 (n+1) t=ZbZ.l0.step (ZbZ.l0 n) t:=rfl
def ZbZ (xs:List (Str×Str)) (ys:List (Str×Str)):Option (Bool):=
 (bif ((xs.length:Int) != (ys.length:Int)) then (some false) else
 ((ZbZ.l0 (((xs.length:Int)-(0:Int)).toNat+1) (xs,ys,0)).bind fun r=>match r with
 | .inl _=>(some true)
 | .inr r=>some r))
def Zap.l0.step (again:(Int×Str×Int×List Str)→Option ((Int×Str×List Str)⊕((List Str)⊕(Bool)))):(Int×Str×Int×List Str)→Option ((Int×Str×List Str)⊕((List Str)⊕(Bool))):=fun (i1,w,k,list1)=>
 (bif (decide (k<(w.length:Int))) then ((need (decide (0≤k)&&decide (k<w.length)) (bif (decide (((w.getD k.toNat 0).toNat:Int)≥97)) then (need (decide (0≤k)&&decide (k<w.length)) (bif (decide (((w.getD k.toNat 0).toNat:Int)≤122)) then (some (!true)) else
 (need (decide (0≤k)&&decide (k<w.length)) (bif (decide (((w.getD k.toNat 0).toNat:Int)≥48)) then (need (decide (0≤k)&&decide (k<w.length)) (bif (decide (((w.getD k.toNat 0).toNat:Int)≤57)) then (some (!true)) else
 (need (decide (0≤k)&&decide (k<w.length)) (bif (((w.getD k.toNat 0).toNat:Int)==46) then (some (!true)) else
 (need (decide (0≤k)&&decide (k<w.length)) (bif (((w.getD k.toNat 0).toNat:Int)==45) then (some (!true)) else
 (need (decide (0≤k)&&decide (k<w.length)) (some (!(((w.getD k.toNat 0).toNat:Int)==95)))))))))) else
 (need (decide (0≤k)&&decide (k<w.length)) (bif (((w.getD k.toNat 0).toNat:Int)==46) then (some (!true)) else
 (need (decide (0≤k)&&decide (k<w.length)) (bif (((w.getD k.toNat 0).toNat:Int)==45) then (some (!true)) else
 (need (decide (0≤k)&&decide (k<w.length)) (some (!(((w.getD k.toNat 0).toNat:Int)==95)))))))))))) else
 (need (decide (0≤k)&&decide (k<w.length)) (bif (decide (((w.getD k.toNat 0).toNat:Int)≥48)) then (need (decide (0≤k)&&decide (k<w.length)) (bif (decide (((w.getD k.toNat 0).toNat:Int)≤57)) then (some (!true)) else
 (need (decide (0≤k)&&decide (k<w.length)) (bif (((w.getD k.toNat 0).toNat:Int)==46) then (some (!true)) else
 (need (decide (0≤k)&&decide (k<w.length)) (bif (((w.getD k.toNat 0).toNat:Int)==45) then (some (!true)) else
 (need (decide (0≤k)&&decide (k<w.length)) (some (!(((w.getD k.toNat 0).toNat:Int)==95)))))))))) else
 (need (decide (0≤k)&&decide (k<w.length)) (bif (((w.getD k.toNat 0).toNat:Int)==46) then (some (!true)) else
 (need (decide (0≤k)&&decide (k<w.length)) (bif (((w.getD k.toNat 0).toNat:Int)==45) then (some (!true)) else
 (need (decide (0≤k)&&decide (k<w.length)) (some (!(((w.getD k.toNat 0).toNat:Int)==95)))))))))))).bind fun c=>
 (bif c then (((some false).map Sum.inr).map Sum.inr) else
 (again (i1,w,(w64 (k+1)),list1)))) else
 (some (.inl (i1,w,list1))))
def Zap.l0:=ZaA Zap.l0.step
theorem Zap.l0.succ (n:Nat) t:Zap.l0 (n+1) t=Zap.l0.step (Zap.l0 n) t:=rfl
def Zap.l1.step (again:(Int×List Str)→Option ((List Str)⊕(Bool))):(Int×List Str)→Option ((List Str)⊕(Bool)):=fun (i,list)=>
 (bif (decide (i<(list.length:Int))) then (need (decide (0≤i)&&decide (i<list.length)) ((Zap.l0 ((((list.getD i.toNat []).length:Int)-(0:Int)).toNat+1) (i,(list.getD i.toNat []),0,list)).bind fun r=>match r with
 | .inl (i2,w1,list2)=>(((Zhp (w1.length:Int) 1 10).bind fun l1In_=>
 (bif (!l1In_) then (some true) else
 (bif (w1==[46]) then (some true) else
 (some (w1==[46,46]))))).bind fun c1=>
 (bif c1 then ((some false).map Sum.inr) else
 (again ((w64 (i2+1)),list2))))
 | .inr r=>some r)) else
 (some (.inl list)))
def Zap.l1:=ZaA Zap.l1.step
theorem Zap.l1.succ (n:Nat) t:Zap.l1 (n+1) t=Zap.l1.step (Zap.l1 n) t:=rfl
def Zap (s:Str):Option (Bool):=
 ((ZeP s 47 (w64 ((s.length:Int)+1))).bind fun l1Cut_=>
 ((Zap.l1 (((l1Cut_.length:Int)-(0:Int)).toNat+1) (0,l1Cut_)).bind fun r=>match r with
 | .inl list3=>(some (decide ((list3.length:Int)≤4)))
 | .inr r=>some r))
def Zca (a:Str) (b:Str):Option (Bool):=
 ((bif (decide ((b.length:Int)>(a.length:Int))) then (need (decide (0≤(a.length:Int))&&decide ((a.length:Int)≤b.length)) (bif ((b.take (a.length:Int).toNat)==a) then (need (decide (0≤(a.length:Int))&&decide ((a.length:Int)<b.length)) (some (((b.getD (a.length:Int).toNat 0).toNat:Int)==47))) else
 (some false))) else
 (some false)).bind fun c=>
 (some c))
def Zao.l0.step (again:((List (Str×Str))×Int×Int)→Option (((List (Str×Str))×Int)⊕((List (Str×Str))⊕(Bool)))):((List (Str×Str))×Int×Int)→Option (((List (Str×Str))×Int)⊕((List (Str×Str))⊕(Bool))):=fun (t1,i1,k)=>
 (bif (decide (k<(t1.length:Int))) then (need (decide (0≤i1)&&decide (i1<t1.length)) (need (decide (0≤k)&&decide (k<t1.length)) ((Zca ((t1.getD i1.toNat ([],[])).1) ((t1.getD k.toNat ([],[])).1)).bind fun l7Under_=>
 (bif l7Under_ then (((some false).map Sum.inr).map Sum.inr) else
 (again (t1,i1,(w64 (k+1)))))))) else
 (some (.inl (t1,i1))))
def Zao.l0:=ZaA Zao.l0.step
theorem Zao.l0.succ (n:Nat) t:Zao.l0 (n+1) t=Zao.l0.step (Zao.l0 n) t:=rfl
def Zao.l1.step (again:((List (Str×Str))×Int)→Option ((List (Str×Str))⊕(Bool))):((List (Str×Str))×Int)→Option ((List (Str×Str))⊕(Bool)):=fun (t,i)=>
 (bif (decide (i<(t.length:Int))) then ((need (decide (0≤i)&&decide (i<t.length)) ((Zap ((t.getD i.toNat ([],[])).1)).bind fun NameOk=>
 (bif (!NameOk) then (some true) else
 (need (decide (0≤i)&&decide (i<t.length)) (bif (decide ((((t.getD i.toNat ([],[])).2).length:Int)>300)) then (some true) else
 (bif (decide (i>0)) then (need (decide (0≤(w64 (i-1)))&&decide ((w64 (i-1))<t.length)) (need (decide (0≤i)&&decide (i<t.length)) (some (!(Op.bytesLess ((t.getD (w64 (i-1)).toNat ([],[])).1) ((t.getD i.toNat ([],[])).1)))))) else
 (some false))))))).bind fun c=>
 (bif c then ((some false).map Sum.inr) else
 ((Zao.l0 (((t.length:Int)-(0:Int)).toNat+1) (t,i,0)).bind fun r=>match r with
 | .inl (t2,i2)=>(again (t2,(w64 (i2+1))))
 | .inr r=>some r))) else
 (some (.inl t)))
def Zao.l1:=ZaA Zao.l1.step
theorem Zao.l1.succ (n:Nat) t:Zao.l1 (n+1) t=Zao.l1.step (Zao.l1 n) t:=rfl
def Zao (xs:List (Str×Str)):Option (Bool):=
 ((Zao.l1 (((xs.length:Int)-(0:Int)).toNat+1) (xs,0)).bind fun r=>match r with
 | .inl t3=>(some (decide ((t3.length:Int)≤8)))
 | .inr r=>some r)
def ZcH (s:Str) (p:Str):Option (Bool):=
 ((bif (decide ((s.length:Int)≥(p.length:Int))) then (need (decide (0≤(p.length:Int))&&decide ((p.length:Int)≤s.length)) (some ((s.take (p.length:Int).toNat)==p))) else
 (some false)).bind fun c=>
 (some c))
def ZbU (s:Str) (p:Str):Option (Bool):=
 ((ZcH s p).bind fun HasPrefi=>
 (some HasPrefi))
def Zcq (s:Str) (c:Int):Option (Int):=some (idxB s c)
def ZdN (s:Str) (c:Int):Option (Int):=some (cntB s c)
def ZcG (s:Str) (c:Int):Option (Int):=
 ((Zcq s c).bind fun IndexByt=>
 (some IndexByt))
def ZeQ (s:Str):Option (Int):=
 ((some (([47]:Str)==s)).bind fun c=>
 (bif c then (some 0) else
 ((ZcG s 47).bind fun IndexByt=>
 (some IndexByt))))
def Zf6 (s:Str):Option (Int):=
 ((ZeQ s).bind fun Index=>
 (some Index))
def ZgL (s:Str):Option (Int):=
 ((ZdN s 47).bind fun CountStr=>
 (some CountStr))
def Zbm.l0.step (again:(Str×Int×Int×List Str)→Option (Str×Int×List Str)):(Str×Int×Int×List Str)→Option (Str×Int×List Str):=fun (s2,n1,i,a)=>
 (bif (decide (i<n1)) then ((Zf6 s2).bind fun Index=>
 (bif (decide (Index<0)) then (some (s2,i,a)) else
 (need (decide (0≤(w64 (Index+0)))&&decide ((w64 (Index+0))≤s2.length)) (need (decide (0≤i)&&decide (i<a.length)) (need (decide (0≤(w64 (Index+1)))&&decide ((w64 (Index+1))≤s2.length)) (again ((s2.drop (w64 (Index+1)).toNat),n1,(w64 (i+1)),(a.set i.toNat (s2.take (w64 (Index+0)).toNat))))))))) else
 (some (s2,i,a)))
def Zbm.l0:=ZaA Zbm.l0.step
theorem Zbm.l0.succ (n:Nat) t:Zbm.l0 (n+1) t=Zbm.l0.step (Zbm.l0 n) t:=rfl
def Zbm (s:Str):Option (List Str):=
 ((((ZgL s).bind fun Count=>
 (some (s,(w64 (Count+1))))):Option (Str×Int)).bind fun (s1,n)=>
 (need (decide (0≤(ZpQ n (w64 ((s1.length:Int)+1))))&&fits (ZpQ n (w64 ((s1.length:Int)+1))).toNat) ((Zbm.l0 (((w64 ((ZpQ n (w64 ((s1.length:Int)+1)))-1))-(0:Int)).toNat+1) (s1,(w64 ((ZpQ n (w64 ((s1.length:Int)+1)))-1)),0,(List.replicate (ZpQ n (w64 ((s1.length:Int)+1))).toNat ([]:Str)))).bind fun (s3,i1,a1)=>
 (need (decide (0≤i1)&&decide (i1<a1.length)) (need (decide (0≤(w64 (i1+1)))&&decide ((w64 (i1+1))≤(a1.set i1.toNat s3).length)) (some (((a1.set i1.toNat s3).drop 0).take ((w64 (i1+1)).toNat))))))))
def ZfX (s:Str):Option (List Str):=
 ((Zbm s).bind fun genSplit=>
 (some genSplit))
def ZaG.l0.step (again:(List Str×List Str×Int×Int)→Option ((List Str)⊕(Bool))):(List Str×List Str×Int×Int)→Option ((List Str)⊕(Bool)):=fun (parts,t,t1,t2)=>
 (bif (decide (t2<t1)) then (need (decide (0≤t2)&&decide (t2<t.length)) ((Zdc (t.getD t2.toNat [])).bind fun partOk_=>
 (bif (!partOk_) then ((some false).map Sum.inr) else
 (again (parts,t,t1,(w64 (t2+1))))))) else
 (some (.inl parts)))
def ZaG.l0:=ZaA ZaG.l0.step
theorem ZaG.l0.succ (n:Nat) t:ZaG.l0 (n+1) t=ZaG.l0.step (ZaG.l0 n) t:=rfl
def ZaG (s:Str):Option (Bool):=
 ((ZfX s).bind fun Split=>
 ((ZaG.l0 (((Split.length:Int)-(0:Int)).toNat+1) (Split,Split,(Split.length:Int),0)).bind fun r=>match r with
 | .inl parts1=>(some (decide ((parts1.length:Int)≤4)))
 | .inr r=>some r))
def Zc0.l0.step (again:(List Str×Str×List Str×Int×Int×List Str×Int×Int)→Option ((List Str×List Str×Int×Int)⊕((Unit)⊕(Bool)))):(List Str×Str×List Str×Int×Int×List Str×Int×Int)→Option ((List Str×List Str×Int×Int)⊕((Unit)⊕(Bool))):=fun (names1,a,t3,t4,t5,t6,t7,t8)=>
 (bif (decide (t8<t7)) then (need (decide (0≤t8)&&decide (t8<t6.length)) ((bif (a==(t6.getD t8.toNat [])) then (some true) else
 (need (fits ((t6.getD t8.toNat []).length+([47]:Str).length)) ((ZbU a ((t6.getD t8.toNat [])++[47])).bind fun HasPrefi=>
 (bif HasPrefi then (some true) else
 (need (fits (a.length+([47]:Str).length)) ((ZbU (t6.getD t8.toNat []) (a++[47])).bind fun HasPrefi1=>
 (some HasPrefi1))))))).bind fun c=>
 (bif c then (((some false).map Sum.inr).map Sum.inr) else
 (again (names1,a,t3,t4,t5,t6,t7,(w64 (t8+1))))))) else
 (some (.inl (names1,t3,t4,t5))))
def Zc0.l0:=ZaA Zc0.l0.step
theorem Zc0.l0.succ (n:Nat) t:Zc0.l0 (n+1) t=Zc0.l0.step (Zc0.l0 n) t:=rfl
def Zc0.l1.step (again:(List Str×List Str×Int×Int)→Option ((Unit)⊕(Bool))):(List Str×List Str×Int×Int)→Option ((Unit)⊕(Bool)):=fun (names,t,t1,t2)=>
 (bif (decide (t2<t1)) then (need (decide (0≤t2)&&decide (t2<t.length)) (need (decide (0≤t2)&&decide (t2≤names.length)) ((Zc0.l0 ((((names.take t2.toNat).length:Int)-(0:Int)).toNat+1) (names,(t.getD t2.toNat []),t,t1,t2,(names.take t2.toNat),((names.take t2.toNat).length:Int),0)).bind fun r=>match r with
 | .inl (names2,t9,t10,t11)=>(again (names2,t9,t10,(w64 (t11+1))))
 | .inr r=>some r))) else
 (some (.inl ())))
def Zc0.l1:=ZaA Zc0.l1.step
theorem Zc0.l1.succ (n:Nat) t:Zc0.l1 (n+1) t=Zc0.l1.step (Zc0.l1 n) t:=rfl
def Zc0 (xs:List Str):Option (Bool):=
 ((Zc0.l1 (((xs.length:Int)-(0:Int)).toNat+1) (xs,xs,(xs.length:Int),0)).bind fun r=>match r with
 | .inl _=>(some true)
 | .inr r=>some r)
def Zau.l0.step (again:((List (Str×Str))×(List (Str×Str))×Int×Int×List Str)→Option (((List (Str×Str))×List Str)⊕(Bool))):((List (Str×Str))×(List (Str×Str))×Int×Int×List Str)→Option (((List (Str×Str))×List Str)⊕(Bool)):=fun (t,t1,t2,t3,paths)=>
 (bif (decide (t3<t2)) then (need (decide (0≤t3)&&decide (t3<t1.length)) (((ZaG ((t1.getD t3.toNat ([],[])).1)).bind fun NameOk=>
 (bif (!NameOk) then (some true) else
 (bif (decide ((((t1.getD t3.toNat ([],[])).2).length:Int)>300)) then (some true) else
 (bif (decide (t3>0)) then (need (decide (0≤(w64 (t3-1)))&&decide ((w64 (t3-1))<t.length)) (some (!(Op.bytesLess ((t.getD (w64 (t3-1)).toNat ([],[])).1) ((t1.getD t3.toNat ([],[])).1))))) else
 (some false))))).bind fun c=>
 (bif c then ((some false).map Sum.inr) else
 (need (fits (paths.length+([(t1.getD t3.toNat ([],[])).1]:List (Str)).length)) (again (t,t1,t2,(w64 (t3+1)),(paths++[(t1.getD t3.toNat ([],[])).1]))))))) else
 (some (.inl (t,paths))))
def Zau.l0:=ZaA Zau.l0.step
theorem Zau.l0.succ (n:Nat) t:Zau.l0 (n+1) t=Zau.l0.step (Zau.l0 n) t:=rfl
def Zau (xs:List (Str×Str)):Option (Bool):=
 ((Zau.l0 (((xs.length:Int)-(0:Int)).toNat+1) (xs,xs,(xs.length:Int),0,[])).bind fun r=>match r with
 | .inl (t4,paths1)=>((bif (decide ((t4.length:Int)≤8)) then ((Zc0 paths1).bind fun apart_=>
 (some apart_)) else
 (some false)).bind fun c1=>
 (some c1))
 | .inr r=>some r)
def Zel (num:Int) (bits:Int):Option (Bool):=
 (((ZbC bits 0 16).bind fun within_=>
 (bif within_ then (need (decide (0≤bits)) ((ZbC num 0 (w64 ((Zr1 .i64 1 bits)-1))).bind fun within_1=>
 (some within_1))) else
 (some false))).bind fun c=>
 (some c))
def ZeX.l0.step (again:(Int×Int×Int×Int×List Int)→Option (Int×List Int)):(Int×Int×Int×Int×List Int)→Option (Int×List Int):=fun (num1,t,t1,o,o1)=>
 (bif (decide (t1<t)) then (((bif ((o.tmod 8)==0) then (need (fits (o1.length+([0]:List (Int)).length)) (some (num1,t1,t,t1,o,(o1++[0])))) else
 (some (num1,t1,t,t1,o,o1))):Option (Int×Int×Int×Int×Int×List Int)).bind fun (num2,k,t2,t3,o2,o3)=>
 (need (decide (0≤(w64 (o2.tdiv 8)))&&decide ((w64 (o2.tdiv 8))<o3.length)) (need (decide (0≤k)) (need (decide (0≤(o2.tmod 8))) (need (decide (0≤(w64 (o2.tdiv 8)))&&decide ((w64 (o2.tdiv 8))<o3.length)) (again (num2,t2,(w64 (t3+1)),(w64 (o2+1)),(o3.set ((w64 (o2.tdiv 8)).toNat) (ior .u8 (o3.getD ((w64 (o2.tdiv 8)).toNat) 0) (IntKind.wrap .u8 (Zr1 .i64 (Zk8 .i64 (Znk .i64 num2 k) 1) (o2.tmod 8)))))))))))) else
 (some (o,o1)))
def ZeX.l0:=ZaA ZeX.l0.step
theorem ZeX.l0.succ (n:Nat) t:ZeX.l0 (n+1) t=ZeX.l0.step (ZeX.l0 n) t:=rfl
def ZeX (num:Int) (bits:Int) (many:Int) (b:List Int):Option (Int×List Int):=
 ((ZeX.l0 ((bits-(0:Int)).toNat+1) (num,bits,0,many,b)).bind fun (o4,o5)=>
 (some (o4,o5)))
def ZjU (many:Int) (b:List Int):Option (Int×List Int):=
 (some ((w64 (8*(b.length:Int))),b))
def ZiJ (s:Str) (at_:Int) (bad:Bool):Option (Int×Str×Int×Bool):=
 (bif (decide (at_≥(w64 (8*(s.length:Int))))) then (some (0,s,at_,true)) else
 (need (decide (0≤(w64 (at_.tdiv 8)))&&decide ((w64 (at_.tdiv 8))<s.length)) (need (decide (0≤(at_.tmod 8))) (some ((Zk8 .i64 (Znk .i64 (w64 ((s.getD (w64 (at_.tdiv 8)).toNat 0).toNat:Int)) (at_.tmod 8)) 1),s,(w64 (at_+1)),bad)))))
def Ze2.l0.step (again:(Int×Int×Int×Str×Int×Bool)→Option (Int×Str×Int×Bool)):(Int×Int×Int×Str×Int×Bool)→Option (Int×Str×Int×Bool):=fun (n,t,t1,o,o1,o2)=>
 (bif (decide (t1<t)) then ((ZiJ o o1 o2).bind fun (r,r1,r2,r3)=>
 (need (decide (0≤t1)) (again ((ior .i64 n (Zr1 .i64 r t1)),t,(w64 (t1+1)),r1,r2,r3)))) else
 (some (n,o,o1,o2)))
def Ze2.l0:=ZaA Ze2.l0.step
theorem Ze2.l0.succ (n:Nat) t:Ze2.l0 (n+1) t=Ze2.l0.step (Ze2.l0 n) t:=rfl
def Ze2 (bits:Int) (s:Str) (at_:Int) (bad:Bool):Option (Int×Str×Int×Bool):=
 ((Ze2.l0 ((bits-(0:Int)).toNat+1) (0,bits,0,s,at_,bad)).bind fun (n1,o3,o4,o5)=>
 (some (n1,o3,o4,o5)))
def Zee.l0.step (again:(Str×Int×Bool)→Option (Str×Int×Bool)):(Str×Int×Bool)→Option (Str×Int×Bool):=fun (o,o1,o2)=>
 (bif ((o1.tmod 8) != 0) then ((ZiJ o o1 o2).bind fun (r,r1,r2,r3)=>
 (bif (r != 0) then (again (r1,r2,true)) else
 (again (r1,r2,r3)))) else
 (some (o,o1,o2)))
def Zee.l0:=ZaA Zee.l0.step
theorem Zee.l0.succ (n:Nat) t:Zee.l0 (n+1) t=Zee.l0.step (Zee.l0 n) t:=rfl
def Zee (s:Str) (at_:Int) (bad:Bool):Option (Str×Int×Bool):=
 ((Zee.l0 (9) (s,at_,bad)).bind fun (o3,o4,o5)=>
 (some (o3,o4,o5)))
def ZbH.l0.step (again:(Int×Int×Int×Int)→Option (Int)):(Int×Int×Int×Int)→Option (Int):=fun (num1,out,t,t1)=>
 (bif (decide (t1<t)) then (need (decide (0≤t1)) (again (num1,(w64 ((w64 (2*out))+(Zk8 .i64 (Znk .i64 num1 t1) 1))),t,(w64 (t1+1))))) else
 (some out))
def ZbH.l0:=ZaA ZbH.l0.step
theorem ZbH.l0.succ (n:Nat) t:ZbH.l0 (n+1) t=ZbH.l0.step (ZbH.l0 n) t:=rfl
def ZbH (num:Int) (bits:Int):Option (Int):=
 ((Zel num bits).bind fun pieceOk_=>
 (bif (!pieceOk_) then (some (-1)) else
 ((ZbH.l0 ((bits-(0:Int)).toNat+1) (num,0,bits,0)).bind fun out1=>
 (some out1))))
def ZaM.l0.step (again:(Int×Str×Int×Int)→Option (Int×Str×Int)):(Int×Str×Int×Int)→Option (Int×Str×Int):=fun (crc_2,text2,k1,t)=>
 (bif (decide (t<8)) then (again ((Zly .u32 (Znk .u32 crc_2 1) (IntKind.wrap .u32 (3988292384*(Zk8 .u32 crc_2 1)))),text2,k1,(w64 (t+1)))) else
 (some (crc_2,text2,k1)))
def ZaM.l0:=ZaA ZaM.l0.step
theorem ZaM.l0.succ (n:Nat) t:ZaM.l0 (n+1) t=ZaM.l0.step (ZaM.l0 n) t:=rfl
def ZaM.l1.step (again:(Int×Str×Int)→Option (Int)):(Int×Str×Int)→Option (Int):=fun (crc_1,text1,k)=>
 (bif (decide (k<(text1.length:Int))) then (need (decide (0≤k)&&decide (k<text1.length)) ((ZaM.l0 ((8-(0:Int)).toNat+1) ((Zly .u32 crc_1 (IntKind.wrap .u32 ((text1.getD k.toNat 0).toNat:Int))),text1,k,0)).bind fun (crc_3,text3,k2)=>
 (again (crc_3,text3,(w64 (k2+1)))))) else
 (some crc_1))
def ZaM.l1:=ZaA ZaM.l1.step
theorem ZaM.l1.succ (n:Nat) t:ZaM.l1 (n+1) t=ZaM.l1.step (ZaM.l1 n) t:=rfl
def ZaM (crc_:Int) (text:Str):Option (Int):=
 ((ZaM.l1 (((text.length:Int)-(0:Int)).toNat+1) ((Zly .u32 (IntKind.max .u32) crc_),text,0)).bind fun crc_4=>
 (some (Zly .u32 (IntKind.max .u32) crc_4)))
def crc (text:Str):Option (Int):=
 ((ZaM 0 text).bind fun crcUpdat=>
 (some (w64 crcUpdat)))
def Zce.l0.step (again:(Int×Int×Int×List Int×Int×Int)→Option ((Int×Int×Int)⊕(Bool))):(Int×Int×Int×List Int×Int×Int)→Option ((Int×Int×Int)⊕(Bool)):=fun (sum,many,last,t,t1,t2)=>
 (bif (decide (t2<t1)) then (need (decide (0≤t2)&&decide (t2<t.length)) ((ZbC (t.getD t2.toNat 0) 0 15).bind fun within_=>
 (bif (!within_) then ((some false).map Sum.inr) else
 (bif (decide ((t.getD t2.toNat 0)>0)) then (need (decide (0≤(w64 (15-(t.getD t2.toNat 0))))) (again ((w64 (sum+(Zr1 .i64 1 (w64 (15-(t.getD t2.toNat 0)))))),(w64 (many+1)),(t.getD t2.toNat 0),t,t1,(w64 (t2+1))))) else
 (again (sum,many,last,t,t1,(w64 (t2+1)))))))) else
 (some (.inl (sum,many,last))))
def Zce.l0:=ZaA Zce.l0.step
theorem Zce.l0.succ (n:Nat) t:Zce.l0 (n+1) t=Zce.l0.step (Zce.l0 n) t:=rfl
def Zce (lens:List Int):Option (Bool):=
 (bif (decide ((lens.length:Int)>300)) then (some false) else
 ((Zce.l0 (((lens.length:Int)-(0:Int)).toNat+1) (0,0,0,lens,(lens.length:Int),0)).bind fun r=>match r with
 | .inl (sum1,many1,last1)=>((bif (sum1==32768) then (some true) else
 (bif (many1==1) then (some (last1==1)) else
 (some false))).bind fun c=>
 (some c))
 | .inr r=>some r))
def ZcE.l0.step (again:(List Int×Int×Int×List Int×Int×Int×List Int)→Option (List Int×Int×Int×List Int)):(List Int×Int×Int×List Int×Int×Int×List Int)→Option (List Int×Int×Int×List Int):=fun (lens2,next_1,l1,t,t1,t2,out1)=>
 (bif (decide (t2<t1)) then (need (decide (0≤t2)&&decide (t2<t.length)) (bif ((t.getD t2.toNat 0)==l1) then (need (decide (0≤t2)&&decide (t2<out1.length)) (again (lens2,(w64 (next_1+1)),l1,t,t1,(w64 (t2+1)),(out1.set t2.toNat next_1)))) else
 (again (lens2,next_1,l1,t,t1,(w64 (t2+1)),out1)))) else
 (some (lens2,next_1,l1,out1)))
def ZcE.l0:=ZaA ZcE.l0.step
theorem ZcE.l0.succ (n:Nat) t:ZcE.l0 (n+1) t=ZcE.l0.step (ZcE.l0 n) t:=rfl
def ZcE.l1.step (again:(List Int×Int×Int×List Int)→Option (List Int)):(List Int×Int×Int×List Int)→Option (List Int):=fun (lens1,next_,l,out)=>
 (bif (decide (l≤15)) then ((ZcE.l0 (((lens1.length:Int)-(0:Int)).toNat+1) (lens1,next_,l,lens1,(lens1.length:Int),0,out)).bind fun (lens3,next_2,l2,out2)=>
 (again (lens3,(w64 (next_2*2)),(w64 (l2+1)),out2))) else
 (some out))
def ZcE.l1:=ZaA ZcE.l1.step
theorem ZcE.l1.succ (n:Nat) t:ZcE.l1 (n+1) t=ZcE.l1.step (ZcE.l1 n) t:=rfl
def ZcE (lens:List Int):Option (List Int):=
 (need (decide (0≤(lens.length:Int))&&fits (lens.length:Int).toNat) ((ZcE.l1 ((15-(1:Int)).toNat+2) (lens,0,1,(List.replicate (lens.length:Int).toNat (0:Int)))).bind fun out3=>
 (some out3)))
def Za3.l0.step (again:((List (Int×List Int))×Int×(List (Int×List Int))×Int×Int×Int×List Int)→Option ((List (Int×List Int))×Int×Int×List Int)):((List (Int×List Int))×Int×(List (Int×List Int))×Int×Int×Int×List Int)→Option ((List (Int×List Int))×Int×Int×List Int):=fun (list1,at_,t,t1,t2,o,o1)=>
 (bif (decide (t2<t1)) then (need (decide (0≤t2)&&decide (t2<t.length)) ((need (decide (0≤at_)&&decide (at_<list1.length)) (bif (decide ((t.getD t2.toNat (0,[])).1<(list1.getD at_.toNat (0,[])).1)) then (some true) else
 (need (decide (0≤at_)&&decide (at_<list1.length)) (bif ((t.getD t2.toNat (0,[])).1==(list1.getD at_.toNat (0,[])).1) then (need (decide (0≤(0:Int))&&decide ((0:Int)<((t.getD t2.toNat (0,[])).2).length)) (need (decide (0≤at_)&&decide (at_<list1.length)) (need (decide (0≤(0:Int))&&decide ((0:Int)<((list1.getD at_.toNat (0,[])).2).length)) (some (decide ((((t.getD t2.toNat (0,[])).2).getD 0 0)<(((list1.getD at_.toNat (0,[])).2).getD 0 0))))))) else
 (some false))))).bind fun c=>
 (bif c then (again (list1,t2,t,t1,(w64 (t2+1)),o,o1)) else
 (again (list1,at_,t,t1,(w64 (t2+1)),o,o1))))) else
 (some (list1,at_,o,o1)))
def Za3.l0:=ZaA Za3.l0.step
theorem Za3.l0.succ (n:Nat) t:Za3.l0 (n+1) t=Za3.l0.step (Za3.l0 n) t:=rfl
def Za3 (list:List (Int×List Int)):Option (Int×List Int×List (Int×List Int)):=
 ((Za3.l0 (((list.length:Int)-(0:Int)).toNat+1) (list,0,list,(list.length:Int),0,0,[])).bind fun (list2,at_1,o2,o3)=>
 (need (decide (0≤at_1)&&decide (at_1<list2.length)) (need (decide (0≤at_1)&&decide (at_1≤list2.length)) (need (fits (([]:List (Int×List Int)).length+(list2.take at_1.toNat).length)) (need (decide (0≤(w64 (at_1+1)))&&decide ((w64 (at_1+1))≤list2.length)) (need (fits (([]++(list2.take at_1.toNat)).length+(list2.drop (w64 (at_1+1)).toNat).length)) (some ((list2.getD at_1.toNat (0,[])).1,(list2.getD at_1.toNat (0,[])).2,(([]++(list2.take at_1.toNat))++(list2.drop (w64 (at_1+1)).toNat))))))))))
def Zbo.l1.step (again:(Int×Int×List Int×Int×List Int×Int×List Int×(List (Int×List Int))×List Int)→Option (List Int×Int×List Int×Int×List Int×(List (Int×List Int))×List Int)):(Int×Int×List Int×Int×List Int×Int×List Int×(List (Int×List Int))×List Int)→Option (List Int×Int×List Int×Int×List Int×(List (Int×List Int))×List Int):=fun (t3,t4,out3,o,o1,o2,o3,left,o4)=>
 (bif (decide (t4<t3)) then (need (decide (0≤t4)&&decide (t4<o4.length)) (need (decide (0≤(o4.getD t4.toNat 0))&&decide ((o4.getD t4.toNat 0)<out3.length)) (need (decide (0≤(o4.getD t4.toNat 0))&&decide ((o4.getD t4.toNat 0)<out3.length)) (need (decide (0≤(0:Int))&&decide ((0:Int)<o4.length)) (bif (decide ((o4.getD t4.toNat 0)<(o4.getD 0 0))) then (need (decide (0≤(0:Int))&&decide ((0:Int)<o4.length)) (need (decide (0≤(0:Int))&&decide ((0:Int)<o4.length)) (need (decide (0≤t4)&&decide (t4<(o4.set 0 (o4.getD t4.toNat 0)).length)) (again (t3,(w64 (t4+1)),(out3.set ((o4.getD t4.toNat 0).toNat) (w64 ((out3.getD ((o4.getD t4.toNat 0).toNat) 0)+1))),o,o1,o2,o3,left,((o4.set 0 (o4.getD t4.toNat 0)).set t4.toNat (o4.getD 0 0))))))) else
 (again (t3,(w64 (t4+1)),(out3.set ((o4.getD t4.toNat 0).toNat) (w64 ((out3.getD ((o4.getD t4.toNat 0).toNat) 0)+1))),o,o1,o2,o3,left,o4))))))) else
 (some (out3,o,o1,o2,o3,left,o4)))
def Zbo.l1:=ZaA Zbo.l1.step
theorem Zbo.l1.succ (n:Nat) t:Zbo.l1 (n+1) t=Zbo.l1.step (Zbo.l1 n) t:=rfl
def Zbo.l2.step (again:(List Int×List (Int×List Int))→Option (List Int)):(List Int×List (Int×List Int))→Option (List Int):=fun (out2,list2)=>
 (bif (decide ((list2.length:Int)>1)) then ((Za3 list2).bind fun (r,r1,r2)=>
 ((Za3 r2).bind fun (r3,r4,r5)=>
 (need (fits (([]:List (Int)).length+r1.length)) (need (fits (([]++r1).length+r4.length)) ((Zbo.l1 ((((([]++r1)++r4).length:Int)-(0:Int)).toNat+1) (((([]++r1)++r4).length:Int),0,out2,r,r1,r3,r4,r5,(([]++r1)++r4))).bind fun (out4,o5,o6,o7,o8,left1,syms)=>
 (need (fits (left1.length+([((w64 (o5+o7)),syms)]:List (Int×List Int)).length)) (again (out4,(left1++[((w64 (o5+o7)),syms)]))))))))) else
 (some out2))
def Zbo.l2:=ZaA Zbo.l2.step
theorem Zbo.l2.succ (n:Nat) t:Zbo.l2 (n+1) t=Zbo.l2.step (Zbo.l2 n) t:=rfl
def Zbo.l0.step (again:(List Int×Int×Int×List Int×List (Int×List Int))→Option (List Int×List (Int×List Int))):(List Int×Int×Int×List Int×List (Int×List Int))→Option (List Int×List (Int×List Int)):=fun (t,t1,t2,out,list)=>
 (bif (decide (t2<t1)) then (need (decide (0≤t2)&&decide (t2<t.length)) (bif (decide ((t.getD t2.toNat 0)>0)) then (need (fits (list.length+([((t.getD t2.toNat 0),[t2])]:List (Int×List Int)).length)) (again (t,t1,(w64 (t2+1)),out,(list++[((t.getD t2.toNat 0),[t2])])))) else
 (again (t,t1,(w64 (t2+1)),out,list)))) else
 (some (out,list)))
def Zbo.l0:=ZaA Zbo.l0.step
theorem Zbo.l0.succ (n:Nat) t:Zbo.l0 (n+1) t=Zbo.l0.step (Zbo.l0 n) t:=rfl
def Zbo (counts:List Int):Option (List Int):=
 (need (decide (0≤(counts.length:Int))&&fits (counts.length:Int).toNat) ((Zbo.l0 (((counts.length:Int)-(0:Int)).toNat+1) (counts,(counts.length:Int),0,(List.replicate (counts.length:Int).toNat (0:Int)),[])).bind fun (out1,list1)=>
 (bif ((list1.length:Int)==1) then (need (decide (0≤(0:Int))&&decide ((0:Int)<list1.length)) (need (decide (0≤(0:Int))&&decide ((0:Int)<((list1.getD 0 (0,[])).2).length)) (need (decide (0≤(((list1.getD 0 (0,[])).2).getD 0 0))&&decide ((((list1.getD 0 (0,[])).2).getD 0 0)<out1.length)) (some (out1.set ((((list1.getD 0 (0,[])).2).getD 0 0).toNat) 1))))) else
 ((Zbo.l2 (((list1.length:Int)-1).toNat+1) (out1,list1)).bind fun out5=>
 (some out5)))))
def Za0.l2.step (again:(Int×Int×Int×List Int)→Option (Int×List Int)):(Int×Int×Int×List Int)→Option (Int×List Int):=fun (most6,t5,t6,now5)=>
 (bif (decide (t6<t5)) then (need (decide (0≤t6)&&decide (t6<now5.length)) (need (decide (0≤t6)&&decide (t6<now5.length)) (again (most6,t5,(w64 (t6+1)),(now5.set t6.toNat (w64 ((w64 ((now5.getD t6.toNat 0)+1)).tdiv 2))))))) else
 (some (most6,now5)))
def Za0.l2:=ZaA Za0.l2.step
theorem Za0.l2.succ (n:Nat) t:Za0.l2 (n+1) t=Za0.l2.step (Za0.l2 n) t:=rfl
def Za0.l1.step (again:(Int×Int×Int×Int×List Int×List Int)→Option (Int×Int×List Int×List Int)):(Int×Int×Int×Int×List Int×List Int)→Option (Int×Int×List Int×List Int):=fun (most4,long,t3,t4,now3,o)=>
 (bif (decide (t4<t3)) then (need (decide (0≤t4)&&decide (t4<o.length)) (again (most4,(Zvv long (o.getD t4.toNat 0)),t3,(w64 (t4+1)),now3,o))) else
 (some (most4,long,now3,o)))
def Za0.l1:=ZaA Za0.l1.step
theorem Za0.l1.succ (n:Nat) t:Za0.l1 (n+1) t=Za0.l1.step (Za0.l1 n) t:=rfl
def Za0.l3.step (again:(Int×List Int)→Option ((Unit)⊕(List Int))):(Int×List Int)→Option ((Unit)⊕(List Int)):=fun (most3,now2)=>
 ((Zbo now2).bind fun depths_=>
 ((Za0.l1 (((depths_.length:Int)-(0:Int)).toNat+1) (most3,0,(depths_.length:Int),0,now2,depths_)).bind fun (most5,long1,now4,out)=>
 (bif (decide (long1≤most5)) then ((some out).map Sum.inr) else
 ((Za0.l2 (((now4.length:Int)-(0:Int)).toNat+1) (most5,(now4.length:Int),0,now4)).bind fun (most7,now6)=>
 (again (most7,now6))))))
def Za0.l3:=ZaA Za0.l3.step
theorem Za0.l3.succ (n:Nat) t:Za0.l3 (n+1) t=Za0.l3.step (Za0.l3 n) t:=rfl
def Za0.l0.step (again:(Int×Int×List Int×Int×Int×List Int)→Option ((Int×Int×List Int)⊕(List Int))):(Int×Int×List Int×Int×Int×List Int)→Option ((Int×Int×List Int)⊕(List Int)):=fun (most1,many,t,t1,t2,now)=>
 (bif (decide (t2<t1)) then (need (decide (0≤t2)&&decide (t2<t.length)) ((ZbC (t.getD t2.toNat 0) 0 100000).bind fun within_1=>
 (bif (!within_1) then ((some []).map Sum.inr) else
 (bif (decide ((t.getD t2.toNat 0)>0)) then (need (fits (now.length+([(t.getD t2.toNat 0)]:List (Int)).length)) (again (most1,(w64 (many+1)),t,t1,(w64 (t2+1)),(now++[(t.getD t2.toNat 0)])))) else
 (need (fits (now.length+([(t.getD t2.toNat 0)]:List (Int)).length)) (again (most1,many,t,t1,(w64 (t2+1)),(now++[(t.getD t2.toNat 0)])))))))) else
 (some (.inl (most1,many,now))))
def Za0.l0:=ZaA Za0.l0.step
theorem Za0.l0.succ (n:Nat) t:Za0.l0 (n+1) t=Za0.l0.step (Za0.l0 n) t:=rfl
def Za0 (counts:List Int) (most:Int):Option (List Int):=
 ((bif (decide ((counts.length:Int)>300)) then (some true) else
 ((ZbC most 1 15).bind fun within_=>
 (some (!within_)))).bind fun c=>
 (bif c then (some []) else
 ((Za0.l0 (((counts.length:Int)-(0:Int)).toNat+1) (most,0,counts,(counts.length:Int),0,[])).bind fun r=>match r with
 | .inl (most2,many1,now1)=>(need (decide (0≤(w64 (most2-1)))) ((ZbC many1 1 (Zr1 .i64 1 (w64 (most2-1)))).bind fun within_2=>
 (bif (!within_2) then (some []) else
 ((Za0.l3 (100000) (most2,now1)).bind fun r=>match r with
 | .inl _=>none
 | .inr r=>some r))))
 | .inr r=>some r)))
def Zcg.l0.step (again:(List Int×Int×Int×(List ((Int×Int)×Int))×List Int)→Option (List ((Int×Int)×Int))):(List Int×Int×Int×(List ((Int×Int)×Int))×List Int)→Option (List ((Int×Int)×Int)):=fun (lens1,t,t1,o,o1)=>
 (bif (decide (t1<t)) then (need (decide (0≤t1)&&decide (t1<o1.length)) (need (decide (0≤t1)&&decide (t1<lens1.length)) (bif (decide ((lens1.getD t1.toNat 0)>0)) then (need (decide (0≤t1)&&decide (t1<lens1.length)) (again (lens1,t,(w64 (t1+1)),(Zfh [.int .i64,.int .i64] [.int .i64] o ((o1.getD t1.toNat 0),(lens1.getD t1.toNat 0)) t1),o1))) else
 (again (lens1,t,(w64 (t1+1)),o,o1))))) else
 (some o))
def Zcg.l0:=ZaA Zcg.l0.step
theorem Zcg.l0.succ (n:Nat) t:Zcg.l0 (n+1) t=Zcg.l0.step (Zcg.l0 n) t:=rfl
def Zcg (lens:List Int):Option (List ((Int×Int)×Int)):=
 ((ZcE lens).bind fun codes_=>
 ((Zcg.l0 (((codes_.length:Int)-(0:Int)).toNat+1) (lens,(codes_.length:Int),0,[],codes_)).bind fun o2=>
 (some o2)))
def Zbq.l0.step (again:(Int×Int×Str×Int×Bool×List ((Int×Int)×Int))→Option ((Str×Int×Bool×List ((Int×Int)×Int))⊕(Int×Str×Int×Bool×List ((Int×Int)×Int)))):(Int×Int×Str×Int×Bool×List ((Int×Int)×Int))→Option ((Str×Int×Bool×List ((Int×Int)×Int))⊕(Int×Str×Int×Bool×List ((Int×Int)×Int))):=fun (code_,l,o,o1,o2,o3)=>
 (bif (decide (l≤15)) then ((ZiJ o o1 o2).bind fun (r,r1,r2,r3)=>
 ((bif (Zen [.int .i64,.int .i64] [.int .i64] o3 ((w64 ((w64 (2*code_))+r)),l)).isSome then (some (!r3)) else
 (some false)).bind fun c=>
 (bif c then ((some (((Zen [.int .i64,.int .i64] [.int .i64] o3 ((w64 ((w64 (2*code_))+r)),l)).getD 0),r1,r2,r3,o3)).map Sum.inr) else
 (again ((w64 ((w64 (2*code_))+r)),(w64 (l+1)),r1,r2,r3,o3))))) else
 (some (.inl (o,o1,o2,o3))))
def Zbq.l0:=ZaA Zbq.l0.step
theorem Zbq.l0.succ (n:Nat) t:Zbq.l0 (n+1) t=Zbq.l0.step (Zbq.l0 n) t:=rfl
def Zbq (s:Str) (at_:Int) (bad:Bool) (book:List ((Int×Int)×Int)):Option (Int×Str×Int×Bool×List ((Int×Int)×Int)):=
 ((Zbq.l0 ((15-(1:Int)).toNat+2) (0,1,s,at_,bad,book)).bind fun r=>match r with
 | .inl (o4,o5,o6,o7)=>(some (0,o4,o5,true,o7))
 | .inr r=>some r)
def add.l0.step (again:(Int×Int×List Int×Int×Int×Int)→Option (List Int)):(Int×Int×List Int×Int×Int×Int)→Option (List Int):=fun (t,t1,out1,o,o1,o2)=>
 (bif (decide (t1<t)) then (need (decide (0≤(w64 ((out1.length:Int)-o2)))&&decide ((w64 ((out1.length:Int)-o2))<out1.length)) (need (fits (out1.length+([(out1.getD ((w64 ((out1.length:Int)-o2)).toNat) 0)]:List (Int)).length)) (again (t,(w64 (t1+1)),(out1++[(out1.getD ((w64 ((out1.length:Int)-o2)).toNat) 0)]),o,o1,o2)))) else
 (some out1))
def add.l0:=ZaA add.l0.step
theorem add.l0.succ (n:Nat) t:add.l0 (n+1) t=add.l0.step (add.l0 n) t:=rfl
def add (byte:Int) (long:Int) (back:Int) (out:List Int):Option (Bool×List Int):=
 (bif (long==0) then ((bif (back != 0) then (some true) else
 ((ZbC byte 0 255).bind fun within_=>
 (some (!within_)))).bind fun c=>
 (bif c then (some (false,[])) else
 (need (fits (out.length+([(IntKind.wrap .u8 byte)]:List (Int)).length)) (some (true,(out++[(IntKind.wrap .u8 byte)])))))) else
 ((bif (byte != 0) then (some true) else
 ((ZbC long 3 60).bind fun within_1=>
 (bif (!within_1) then (some true) else
 ((ZbC back 1 (ZpQ 250 (out.length:Int))).bind fun within_2=>
 (some (!within_2)))))).bind fun c1=>
 (bif c1 then (some (false,[])) else
 ((add.l0 ((long-(0:Int)).toNat+1) (long,0,out,byte,long,back)).bind fun out2=>
 (some (true,out2))))))
def Zay.l0.step (again:(Str×Int×Int×Int×(List (Int×Int×Int))×Int×Int×Int)→Option (Str×Int×Int×Int×(List (Int×Int×Int))×Int×Int×Int)):(Str×Int×Int×Int×(List (Int×Int×Int))×Int×Int×Int)→Option (Str×Int×Int×Int×(List (Int×Int×Int))×Int×Int×Int):=fun (text3,at_2,back1,n,out2,o3,o4,o5)=>
 ((bif (decide (n<60)) then (bif (decide ((w64 (at_2+n))<(text3.length:Int))) then (need (decide (0≤(w64 (at_2+n)))&&decide ((w64 (at_2+n))<text3.length)) (need (decide (0≤(w64 ((w64 (at_2+n))-back1)))&&decide ((w64 ((w64 (at_2+n))-back1))<text3.length)) (some (((text3.getD (w64 (at_2+n)).toNat 0).toNat:Int)==((text3.getD (w64 ((w64 (at_2+n))-back1)).toNat 0).toNat:Int))))) else
 (some false)) else
 (some false)).bind fun c=>
 (bif c then (again (text3,at_2,back1,(w64 (n+1)),out2,o3,o4,o5)) else
 (some (text3,at_2,back1,n,out2,o3,o4,o5))))
def Zay.l0:=ZaA Zay.l0.step
theorem Zay.l0.succ (n:Nat) t:Zay.l0 (n+1) t=Zay.l0.step (Zay.l0 n) t:=rfl
def Zay.l1.step (again:(Str×Int×Int×(List (Int×Int×Int))×Int×Int×Int)→Option (Str×Int×(List (Int×Int×Int))×Int×Int×Int)):(Str×Int×Int×(List (Int×Int×Int))×Int×Int×Int)→Option (Str×Int×(List (Int×Int×Int))×Int×Int×Int):=fun (text2,at_1,back,out1,o,o1,o2)=>
 (bif (decide (back≤(ZpQ 250 at_1))) then ((Zay.l0 ((60-(0:Int)).toNat+1) (text2,at_1,back,0,out1,o,o1,o2)).bind fun (text4,at_3,back2,n1,out3,o6,o7,o8)=>
 ((bif (decide (n1≥3)) then (some (decide (n1>o7))) else
 (some false)).bind fun c1=>
 (bif c1 then (again (text4,at_3,(w64 (back2+1)),out3,0,n1,back2)) else
 (again (text4,at_3,(w64 (back2+1)),out3,o6,o7,o8))))) else
 (some (text2,at_1,out1,o,o1,o2)))
def Zay.l1:=ZaA Zay.l1.step
theorem Zay.l1.succ (n:Nat) t:Zay.l1 (n+1) t=Zay.l1.step (Zay.l1 n) t:=rfl
def Zay.l2.step (again:(Str×Int×List (Int×Int×Int))→Option (List (Int×Int×Int))):(Str×Int×List (Int×Int×Int))→Option (List (Int×Int×Int)):=fun (text1,at_,out)=>
 (bif (decide (at_<(text1.length:Int))) then (need (decide (0≤at_)&&decide (at_<text1.length)) ((Zay.l1 (((ZpQ 250 at_)-(1:Int)).toNat+2) (text1,at_,1,out,(w64 ((text1.getD at_.toNat 0).toNat:Int)),0,0)).bind fun (text5,at_4,out4,o9,o10,o11)=>
 (need (fits (out4.length+([(o9,o10,o11)]:List (Int×Int×Int)).length)) (again (text5,(w64 (at_4+(Zvv o10 1))),(out4++[(o9,o10,o11)])))))) else
 (some out))
def Zay.l2:=ZaA Zay.l2.step
theorem Zay.l2.succ (n:Nat) t:Zay.l2 (n+1) t=Zay.l2.step (Zay.l2 n) t:=rfl
def Zay (text:Str):Option (List (Int×Int×Int)):=
 (bif (decide ((text.length:Int)>300)) then (some []) else
 ((Zay.l2 (((text.length:Int)-(0:Int)).toNat+1) (text,0,[])).bind fun out5=>
 (some out5)))
def Zcs.l0.step (again:(Int×Int×Int×Int×Int×List Int×List Int×List Int×List Int)→Option (List Int×List Int×List Int×List Int)):(Int×Int×Int×Int×Int×List Int×List Int×List Int×List Int)→Option (List Int×List Int×List Int×List Int):=fun (from_1,plain1,each1,t,t1,o,o1,o2,o3)=>
 (bif (decide (t1<t)) then (((bif (decide (t1≥plain1)) then (need (each1 != 0) (some (from_1,plain1,each1,(w64 ((w64 ((w64 (t1-plain1)).tdiv each1))+1)),t,t1,o,o1,o2,o3))) else
 (some (from_1,plain1,each1,0,t,t1,o,o1,o2,o3))):Option (Int×Int×Int×Int×Int×Int×List Int×List Int×List Int×List Int)).bind fun (from_2,plain2,each2,bits,t2,t3,o4,o5,o6,o7)=>
 (need (fits (o6.length+([from_2]:List (Int)).length)) (need (fits (o7.length+([bits]:List (Int)).length)) (need (decide (0≤bits)) (again ((w64 (from_2+(Zr1 .i64 1 bits))),plain2,each2,t2,(w64 (t3+1)),o4,o5,(o6++[from_2]),(o7++[bits]))))))) else
 (some (o,o1,o2,o3)))
def Zcs.l0:=ZaA Zcs.l0.step
def Zcs (from_:Int) (many:Int) (plain:Int) (each:Int):Option (List Int×List Int):=
 ((Zcs.l0 ((many-(0:Int)).toNat+1) (from_,plain,each,many,0,[],[],[],[])).bind fun (o8,o9,o10,o11)=>
 (some (o10,o11)))
def Zb2:Option (List Int×List Int):=
 ((Zcs 3 28 8 4).bind fun (r,r1)=>
 (some (r,r1)))
def Zb6:Option (List Int×List Int):=
 ((Zcs 1 30 4 2).bind fun (r,r1)=>
 (some (r,r1)))
def Zcp.l0.step (again:(Int×Int×List Int×List Int)→Option (Int)):(Int×Int×List Int×List Int)→Option (Int):=fun (n1,k,o,o1)=>
 (need (decide (0≤k)&&decide (k<o.length)) (bif (decide ((o.getD k.toNat 0)>n1)) then (again (n1,(w64 (k-1)),o,o1)) else
 (some k)))
def Zcp.l0:=ZaA Zcp.l0.step
def Zcp (first:List Int) (bits:List Int) (n:Int):Option (Int):=
 ((Zcp.l0 ((w64 ((first.length:Int)-1)).toNat+1) (n,(w64 ((first.length:Int)-1)),first,bits)).bind fun k1=>
 (some k1))
def Zbs.l1.step (again:(Int×Int×List Int×List Int)→Option (List Int×List Int)):(Int×Int×List Int×List Int)→Option (List Int×List Int):=fun (t2,t3,lit2,dist)=>
 (bif (decide (t3<t2)) then (need (decide (0≤t3)&&decide (t3<dist.length)) (again (t2,(w64 (t3+1)),lit2,(dist.set t3.toNat 5)))) else
 (some (lit2,dist)))
def Zbs.l1:=ZaA Zbs.l1.step
def Zbs.l0.step (again:(Int×Int×List Int)→Option (List Int)):(Int×Int×List Int)→Option (List Int):=fun (t,t1,lit)=>
 (bif (decide (t1<t)) then ((bif (decide (t1<144)) then (some true) else
 (some (decide (t1≥280)))).bind fun c=>
 (bif c then (need (decide (0≤t1)&&decide (t1<lit.length)) (again (t,(w64 (t1+1)),(lit.set t1.toNat 8)))) else
 (bif (decide (t1<256)) then (need (decide (0≤t1)&&decide (t1<lit.length)) (again (t,(w64 (t1+1)),(lit.set t1.toNat 9)))) else
 (need (decide (0≤t1)&&decide (t1<lit.length)) (again (t,(w64 (t1+1)),(lit.set t1.toNat 7))))))) else
 (some lit))
def Zbs.l0:=ZaA Zbs.l0.step
def Zbs:Option (List Int×List Int):=
 (need (decide (0≤288)&&fits 288) ((Zbs.l0 ((((List.replicate 288 (0:Int)).length:Int)-(0:Int)).toNat+1) (((List.replicate 288 (0:Int)).length:Int),0,(List.replicate 288 (0:Int)))).bind fun lit1=>
 (need (decide (0≤32)&&fits 32) ((Zbs.l1 ((((List.replicate 32 (0:Int)).length:Int)-(0:Int)).toNat+1) (((List.replicate 32 (0:Int)).length:Int),0,lit1,(List.replicate 32 (0:Int)))).bind fun (lit3,dist1)=>
 (some (lit3,dist1))))))
def ZdA (text:Str):Option (Str):=
 (bif (decide ((text.length:Int)>300)) then (some []) else
 ((ZeX 1 3 0 []).bind fun (r,r1)=>
 ((ZjU r r1).bind fun (r2,r3)=>
 ((ZeX (text.length:Int) 16 r2 r3).bind fun (r4,r5)=>
 ((ZeX (w64 (65535-(text.length:Int))) 16 r4 r5).bind fun (r6,r7)=>
 (need (fits ((Zbu r7).length+text.length)) (some ((Zbu r7)++text))))))))
def Zge (lens:List Int) (all:List Int) (s:Int) (many:Int) (b:List Int):Option (Int×List Int):=
 (need (decide (0≤s)&&decide (s<all.length)) (need (decide (0≤s)&&decide (s<lens.length)) ((ZbH (all.getD s.toNat 0) (lens.getD s.toNat 0)).bind fun BitsTurn=>
 (need (decide (0≤s)&&decide (s<lens.length)) ((ZeX BitsTurn (lens.getD s.toNat 0) many b).bind fun (r,r1)=>
 (some (r,r1)))))))
def ZbP.l0.step (again:(List Int×List Int×(List (Int×Int×Int))×Int×Int×Int×List Int×List Int×List Int)→Option (List Int×Int×List Int×List Int)):(List Int×List Int×(List (Int×Int×Int))×Int×Int×Int×List Int×List Int×List Int)→Option (List Int×Int×List Int×List Int):=fun (lit1,dist1,t,t1,t2,o,a,b1,o1)=>
 (bif (decide (t2<t1)) then (need (decide (0≤t2)&&decide (t2<t.length)) (bif ((t.getD t2.toNat (0,0,0)).2.1==0) then ((Zge lit1 a ((t.getD t2.toNat (0,0,0)).1) o o1).bind fun (r,r1)=>
 (again (lit1,dist1,t,t1,(w64 (t2+1)),r,a,b1,r1))) else
 ((Zb2).bind fun (r2,r3)=>
 ((Zcp r2 r3 ((t.getD t2.toNat (0,0,0)).2.1)).bind fun find_=>
 ((Zge lit1 a (w64 (257+find_)) o o1).bind fun (r4,r5)=>
 ((Zb2).bind fun (r6,r7)=>
 (need (decide (0≤find_)&&decide (find_<r6.length)) ((Zb2).bind fun (r8,r9)=>
 (need (decide (0≤find_)&&decide (find_<r9.length)) ((ZeX (w64 ((t.getD t2.toNat (0,0,0)).2.1-(r6.getD find_.toNat 0))) (r9.getD find_.toNat 0) r4 r5).bind fun (r10,r11)=>
 ((Zb6).bind fun (r12,r13)=>
 ((Zcp r12 r13 ((t.getD t2.toNat (0,0,0)).2.2)).bind fun find_1=>
 ((Zge dist1 b1 find_1 r10 r11).bind fun (r14,r15)=>
 ((Zb6).bind fun (r16,r17)=>
 (need (decide (0≤find_1)&&decide (find_1<r16.length)) ((Zb6).bind fun (r18,r19)=>
 (need (decide (0≤find_1)&&decide (find_1<r19.length)) ((ZeX (w64 ((t.getD t2.toNat (0,0,0)).2.2-(r16.getD find_1.toNat 0))) (r19.getD find_1.toNat 0) r14 r15).bind fun (r20,r21)=>
 (again (lit1,dist1,t,t1,(w64 (t2+1)),r20,a,b1,r21)))))))))))))))))))) else
 (some (lit1,o,a,o1)))
def ZbP.l0:=ZaA ZbP.l0.step
theorem ZbP.l0.succ (n:Nat) t:ZbP.l0 (n+1) t=ZbP.l0.step (ZbP.l0 n) t:=rfl
def ZbP (list:List (Int×Int×Int)) (lit:List Int) (dist:List Int) (many:Int) (b:List Int):Option (Int×List Int):=
 ((ZcE lit).bind fun codes_=>
 ((ZcE dist).bind fun codes_1=>
 ((ZbP.l0 (((list.length:Int)-(0:Int)).toNat+1) (lit,dist,list,(list.length:Int),0,many,codes_,codes_1,b)).bind fun (lit2,o2,a1,o3)=>
 ((Zge lit2 a1 256 o2 o3).bind fun (r22,r23)=>
 (some (r22,r23))))))
def ZdG (text:Str):Option (Str):=
 (bif (decide ((text.length:Int)>300)) then (some []) else
 ((ZeX 1 1 0 []).bind fun (r,r1)=>
 ((ZeX 1 2 r r1).bind fun (r2,r3)=>
 ((Zbs).bind fun (r4,r5)=>
 ((Zay text).bind fun TokensOf=>
 ((ZbP TokensOf r4 r5 r2 r3).bind fun (r6,r7)=>
 (some (Zbu r7))))))))
def ZbL.l0.step (again:(List Int×Int×Int)→Option (List Int×Int)):(List Int×Int×Int)→Option (List Int×Int):=fun (lens1,least_1,n)=>
 ((bif (decide (n>least_1)) then (need (decide (0≤(w64 (n-1)))&&decide ((w64 (n-1))<lens1.length)) (some ((lens1.getD (w64 (n-1)).toNat 0)==0))) else
 (some false)).bind fun c=>
 (bif c then (again (lens1,least_1,(w64 (n-1)))) else
 (some (lens1,n))))
def ZbL.l0:=ZaA ZbL.l0.step
theorem ZbL.l0.succ (n:Nat) t:ZbL.l0 (n+1) t=ZbL.l0.step (ZbL.l0 n) t:=rfl
def ZbL (lens:List Int) (least_:Int):Option (List Int):=
 ((ZbL.l0 (((lens.length:Int)-least_).toNat+1) (lens,least_,(lens.length:Int))).bind fun (lens2,n1)=>
 (need (decide (0≤n1)&&decide (n1≤lens2.length)) (some (lens2.take n1.toNat))))
def Za2.l3.step (again:(List Int×List Int×Int×Int×(List (Int×Int×Int))×List Int×Int×List Int×List Int×List Int)→Option (List Int×List Int×(List (Int×Int×Int))×Int×List Int)):(List Int×List Int×Int×Int×(List (Int×Int×Int))×List Int×Int×List Int×List Int×List Int)→Option (List Int×List Int×(List (Int×Int×Int))×Int×List Int):=fun (lit4,dist4,t7,t8,list6,meta_2,o6,m,o7,o8)=>
 (bif (decide (t8<t7)) then (need (decide (0≤t8)&&decide (t8<o7.length)) ((Zge meta_2 m (o7.getD t8.toNat 0) o6 o8).bind fun (r16,r17)=>
 (again (lit4,dist4,t7,(w64 (t8+1)),list6,meta_2,r16,m,o7,r17)))) else
 (some (lit4,dist4,list6,o6,o8)))
def Za2.l3:=ZaA Za2.l3.step
theorem Za2.l3.succ (n:Nat) t:Za2.l3 (n+1) t=Za2.l3.step (Za2.l3 n) t:=rfl
def Za2.l2.step (again:(List Int×List Int×List Int×Int×Int×(List (Int×Int×Int))×List Int×List Int×Int×List Int)→Option (List Int×List Int×(List (Int×Int×Int))×List Int×List Int×Int×List Int)):(List Int×List Int×List Int×Int×Int×(List (Int×Int×Int))×List Int×List Int×Int×List Int)→Option (List Int×List Int×(List (Int×Int×Int))×List Int×List Int×Int×List Int):=fun (lit2,dist2,t4,t5,t6,list4,all1,meta_,o2,o3)=>
 (bif (decide (t6<t5)) then (need (decide (0≤t6)&&decide (t6<t4.length)) (need (decide (0≤(t4.getD t6.toNat 0))&&decide ((t4.getD t6.toNat 0)<meta_.length)) ((ZeX (meta_.getD ((t4.getD t6.toNat 0).toNat) 0) 3 o2 o3).bind fun (r14,r15)=>
 (again (lit2,dist2,t4,t5,(w64 (t6+1)),list4,all1,meta_,r14,r15))))) else
 (some (lit2,dist2,list4,all1,meta_,o2,o3)))
def Za2.l2:=ZaA Za2.l2.step
theorem Za2.l2.succ (n:Nat) t:Za2.l2 (n+1) t=Za2.l2.step (Za2.l2 n) t:=rfl
def Za2.l1.step (again:(List Int×List Int×Int×Int×(List (Int×Int×Int))×List Int×List Int)→Option (List Int×List Int×(List (Int×Int×Int))×List Int×List Int)):(List Int×List Int×Int×Int×(List (Int×Int×Int))×List Int×List Int)→Option (List Int×List Int×(List (Int×Int×Int))×List Int×List Int):=fun (lit,dist,t2,t3,list2,o1,c)=>
 (bif (decide (t3<t2)) then (need (decide (0≤t3)&&decide (t3<o1.length)) (need (decide (0≤(o1.getD t3.toNat 0))&&decide ((o1.getD t3.toNat 0)<c.length)) (need (decide (0≤(o1.getD t3.toNat 0))&&decide ((o1.getD t3.toNat 0)<c.length)) (again (lit,dist,t2,(w64 (t3+1)),list2,o1,(c.set ((o1.getD t3.toNat 0).toNat) (w64 ((c.getD ((o1.getD t3.toNat 0).toNat) 0)+1)))))))) else
 (some (lit,dist,list2,o1,c)))
def Za2.l1:=ZaA Za2.l1.step
theorem Za2.l1.succ (n:Nat) t:Za2.l1 (n+1) t=Za2.l1.step (Za2.l1 n) t:=rfl
def Za2.l0.step (again:(Bool×Int×Int×(List (Int×Int×Int))×List Int×List Int)→Option (Bool×(List (Int×Int×Int))×List Int×List Int)):(Bool×Int×Int×(List (Int×Int×Int))×List Int×List Int)→Option (Bool×(List (Int×Int×Int))×List Int×List Int):=fun (none_,t,t1,o,a,b)=>
 (bif (decide (t1<t)) then (need (decide (0≤t1)&&decide (t1<o.length)) (bif ((o.getD t1.toNat (0,0,0)).2.1==0) then (need (decide (0≤(o.getD t1.toNat (0,0,0)).1)&&decide ((o.getD t1.toNat (0,0,0)).1<a.length)) (need (decide (0≤(o.getD t1.toNat (0,0,0)).1)&&decide ((o.getD t1.toNat (0,0,0)).1<a.length)) (again (none_,t,(w64 (t1+1)),o,(a.set (((o.getD t1.toNat (0,0,0)).1).toNat) (w64 ((a.getD (((o.getD t1.toNat (0,0,0)).1).toNat) 0)+1))),b)))) else
 ((Zb2).bind fun (r,r1)=>
 ((Zcp r r1 ((o.getD t1.toNat (0,0,0)).2.1)).bind fun find_=>
 (need (decide (0≤(w64 (257+find_)))&&decide ((w64 (257+find_))<a.length)) (need (decide (0≤(w64 (257+find_)))&&decide ((w64 (257+find_))<a.length)) ((Zb6).bind fun (r2,r3)=>
 ((Zcp r2 r3 ((o.getD t1.toNat (0,0,0)).2.2)).bind fun find_1=>
 (need (decide (0≤find_1)&&decide (find_1<b.length)) (need (decide (0≤find_1)&&decide (find_1<b.length)) (again (false,t,(w64 (t1+1)),o,(a.set ((w64 (257+find_)).toNat) (w64 ((a.getD ((w64 (257+find_)).toNat) 0)+1))),(b.set find_1.toNat (w64 ((b.getD find_1.toNat 0)+1))))))))))))))) else
 (some (none_,o,a,b)))
def Za2.l0:=ZaA Za2.l0.step
theorem Za2.l0.succ (n:Nat) t:Za2.l0 (n+1) t=Za2.l0.step (Za2.l0 n) t:=rfl
def Za2 (text:Str):Option (Str):=
 (bif (decide ((text.length:Int)>300)) then (some []) else
 ((Zay text).bind fun TokensOf=>
 (need (decide (0≤286)&&fits 286) (need (decide (0≤30)&&fits 30) (need (decide (0≤(256:Int))&&decide ((256:Int)<(List.replicate 286 (0:Int)).length)) ((Za2.l0 (((TokensOf.length:Int)-(0:Int)).toNat+1) (true,(TokensOf.length:Int),0,TokensOf,((List.replicate 286 (0:Int)).set 256 1),(List.replicate 30 (0:Int)))).bind fun (none_1,list,a1,b1)=>
 (((bif none_1 then (need (decide (0≤(0:Int))&&decide ((0:Int)<b1.length)) (some (list,a1,(b1.set 0 1)))) else
 (some (list,a1,b1))):Option ((List (Int×Int×Int))×List Int×List Int)).bind fun (list1,a2,b2)=>
 ((Za0 a2 15).bind fun LensOf=>
 ((ZbL LensOf 257).bind fun trimmed_=>
 ((Za0 b2 15).bind fun LensOf1=>
 ((ZbL LensOf1 1).bind fun trimmed_1=>
 (need (fits (([]:List (Int)).length+trimmed_.length)) (need (fits (([]++trimmed_).length+trimmed_1.length)) (need (decide (0≤(([16,17,18,0,8,7,9,6,10,5,11,4,12,3,13,2,14,1,15]:List (Int)).length:Int))&&fits (([16,17,18,0,8,7,9,6,10,5,11,4,12,3,13,2,14,1,15]:List (Int)).length:Int).toNat) ((Za2.l1 ((((([]++trimmed_)++trimmed_1).length:Int)-(0:Int)).toNat+1) (trimmed_,trimmed_1,((([]++trimmed_)++trimmed_1).length:Int),0,list1,(([]++trimmed_)++trimmed_1),(List.replicate (([16,17,18,0,8,7,9,6,10,5,11,4,12,3,13,2,14,1,15]:List (Int)).length:Int).toNat (0:Int)))).bind fun (lit1,dist1,list3,all,c1)=>
 ((Za0 c1 7).bind fun LensOf2=>
 ((ZeX 1 1 0 []).bind fun (r4,r5)=>
 ((ZeX 2 2 r4 r5).bind fun (r6,r7)=>
 ((ZeX (w64 ((lit1.length:Int)-257)) 5 r6 r7).bind fun (r8,r9)=>
 ((ZeX (w64 ((dist1.length:Int)-1)) 5 r8 r9).bind fun (r10,r11)=>
 ((ZeX (w64 ((([16,17,18,0,8,7,9,6,10,5,11,4,12,3,13,2,14,1,15]:List (Int)).length:Int)-4)) 4 r10 r11).bind fun (r12,r13)=>
 ((Za2.l2 (((([16,17,18,0,8,7,9,6,10,5,11,4,12,3,13,2,14,1,15]:List (Int)).length:Int)-(0:Int)).toNat+1) (lit1,dist1,[16,17,18,0,8,7,9,6,10,5,11,4,12,3,13,2,14,1,15],(([16,17,18,0,8,7,9,6,10,5,11,4,12,3,13,2,14,1,15]:List (Int)).length:Int),0,list3,all,LensOf2,r12,r13)).bind fun (lit3,dist3,list5,all2,meta_1,o4,o5)=>
 ((ZcE meta_1).bind fun codes_=>
 ((Za2.l3 (((all2.length:Int)-(0:Int)).toNat+1) (lit3,dist3,(all2.length:Int),0,list5,meta_1,o4,codes_,all2,o5)).bind fun (lit5,dist5,list7,o9,o10)=>
 ((ZbP list7 lit5 dist5 o9 o10).bind fun (r18,r19)=>
 (some (Zbu r19)))))))))))))))))))))))))))
def Zba.l0.step (again:(Str×Int×Int×List Str)→Option (Str)):(Str×Int×Int×List Str)→Option (Str):=fun (best,t,t1,o)=>
 (bif (decide (t1<t)) then (need (decide (0≤t1)&&decide (t1<o.length)) (bif (decide (((o.getD t1.toNat []).length:Int)<(best.length:Int))) then (again ((o.getD t1.toNat []),t,(w64 (t1+1)),o)) else
 (again (best,t,(w64 (t1+1)),o)))) else
 (some best))
def Zba.l0:=ZaA Zba.l0.step
theorem Zba.l0.succ (n:Nat) t:Zba.l0 (n+1) t=Zba.l0.step (Zba.l0 n) t:=rfl
def Zba (text:Str):Option (Str):=
 ((ZdA text).bind fun StorePut=>
 ((ZdG text).bind fun FixedPut=>
 ((Za2 text).bind fun OwnPut=>
 ((Zba.l0 (((([FixedPut,OwnPut]:List (Str)).length:Int)-(0:Int)).toNat+1) (StorePut,(([FixedPut,OwnPut]:List (Str)).length:Int),0,[FixedPut,OwnPut])).bind fun best1=>
 (some best1)))))
def ZbY.l0.step (again:(Int×Int×Str×Int×Bool×List Int)→Option (Str×Int×Bool×List Int)):(Int×Int×Str×Int×Bool×List Int)→Option (Str×Int×Bool×List Int):=fun (n1,k,o3,o4,o5,out2)=>
 ((bif (decide (k<n1)) then (bif (!o5) then (some (decide ((out2.length:Int)≤300))) else
 (some false)) else
 (some false)).bind fun c=>
 (bif c then ((Ze2 8 o3 o4 o5).bind fun (r11,r12,r13,r14)=>
 (need (fits (out2.length+([(IntKind.wrap .u8 r11)]:List (Int)).length)) (again (n1,(w64 (k+1)),r12,r13,r14,(out2++[(IntKind.wrap .u8 r11)]))))) else
 (some (o3,o4,o5,out2))))
def ZbY.l0:=ZaA ZbY.l0.step
theorem ZbY.l0.succ (n:Nat) t:ZbY.l0 (n+1) t=ZbY.l0.step (ZbY.l0 n) t:=rfl
def ZbY (s:Str) (at_:Int) (bad:Bool) (out:List Int):Option (Str×Int×Bool×List Int):=
 ((Zee s at_ bad).bind fun (r,r1,r2)=>
 ((Ze2 16 r r1 r2).bind fun (r3,r4,r5,r6)=>
 ((Ze2 16 r4 r5 r6).bind fun (r7,r8,r9,r10)=>
 (((bif (r3 != (w64 (65535-r7))) then (some (r3,r8,r9,true,out)) else
 (some (r3,r8,r9,r10,out))):Option (Int×Str×Int×Bool×List Int)).bind fun (n,o,o1,o2,out1)=>
 ((ZbY.l0 ((n-(0:Int)).toNat+1) (n,0,o,o1,o2,out1)).bind fun (o6,o7,o8,out3)=>
 (some (o6,o7,o8,out3)))))))
def Zaz.l1.step (again:(Int×Int×Int×Int×Int×Str×Int×Bool×(List ((Int×Int)×Int))×List Int)→Option (Int×Int×Str×Int×Bool×(List ((Int×Int)×Int))×List Int)):(Int×Int×Int×Int×Int×Str×Int×Bool×(List ((Int×Int)×Int))×List Int)→Option (Int×Int×Str×Int×Bool×(List ((Int×Int)×Int))×List Int):=fun (lit5,dist5,again_1,t3,t4,o17,o18,o19,o20,all2)=>
 (bif (decide (t4<t3)) then (need (fits (all2.length+([again_1]:List (Int)).length)) (again (lit5,dist5,again_1,t3,(w64 (t4+1)),o17,o18,o19,o20,(all2++[again_1])))) else
 (some (lit5,dist5,o17,o18,o19,o20,all2)))
def Zaz.l1:=ZaA Zaz.l1.step
theorem Zaz.l1.succ (n:Nat) t:Zaz.l1 (n+1) t=Zaz.l1.step (Zaz.l1 n) t:=rfl
def Zaz.l2.step (again:(Int×Int×Str×Int×Bool×(List ((Int×Int)×Int))×List Int)→Option (Int×Int×Str×Int×Bool×List Int)):(Int×Int×Str×Int×Bool×(List ((Int×Int)×Int))×List Int)→Option (Int×Int×Str×Int×Bool×List Int):=fun (lit3,dist3,o9,o10,o11,o12,all)=>
 ((bif (decide ((all.length:Int)<(w64 (lit3+dist3)))) then (some (!o11)) else
 (some false)).bind fun c2=>
 (bif c2 then ((Zbq o9 o10 o11 o12).bind fun (r16,r17,r18,r19,r20)=>
 (((bif (decide (r16<16)) then (some (lit3,dist3,r16,1,r17,r18,r19,r20,all)) else
 (bif (r16==16) then ((Ze2 2 r17 r18 r19).bind fun (r21,r22,r23,r24)=>
 (bif ((all.length:Int)==0) then (some (lit3,dist3,0,(w64 (3+r21)),r22,r23,true,r20,all)) else
 (need (decide (0≤(w64 ((all.length:Int)-1)))&&decide ((w64 ((all.length:Int)-1))<all.length)) (some (lit3,dist3,(all.getD ((w64 ((all.length:Int)-1)).toNat) 0),(w64 (3+r21)),r22,r23,r24,r20,all))))) else
 (bif (r16==17) then ((Ze2 3 r17 r18 r19).bind fun (r25,r26,r27,r28)=>
 (some (lit3,dist3,0,(w64 (3+r25)),r26,r27,r28,r20,all))) else
 ((Ze2 7 r17 r18 r19).bind fun (r29,r30,r31,r32)=>
 (some (lit3,dist3,0,(w64 (11+r29)),r30,r31,r32,r20,all)))))):Option (Int×Int×Int×Int×Str×Int×Bool×(List ((Int×Int)×Int))×List Int)).bind fun (lit4,dist4,again_,times,o13,o14,o15,o16,all1)=>
 ((Zaz.l1 ((times-(0:Int)).toNat+1) (lit4,dist4,again_,times,0,o13,o14,o15,o16,all1)).bind fun (lit6,dist6,o21,o22,o23,o24,all3)=>
 (again (lit6,dist6,o21,o22,o23,o24,all3))))) else
 (some (lit3,dist3,o9,o10,o11,all))))
def Zaz.l2:=ZaA Zaz.l2.step
theorem Zaz.l2.succ (n:Nat) t:Zaz.l2 (n+1) t=Zaz.l2.step (Zaz.l2 n) t:=rfl
def Zaz.l0.step (again:(Int×Int×List Int×Int×Int×Str×Int×Bool×List Int)→Option (Int×Int×Str×Int×Bool×List Int)):(Int×Int×List Int×Int×Int×Str×Int×Bool×List Int)→Option (Int×Int×Str×Int×Bool×List Int):=fun (lit1,dist1,t,t1,t2,o3,o4,o5,meta_)=>
 (bif (decide (t2<t1)) then (need (decide (0≤t2)&&decide (t2<t.length)) ((Ze2 3 o3 o4 o5).bind fun (r12,r13,r14,r15)=>
 (need (decide (0≤(t.getD t2.toNat 0))&&decide ((t.getD t2.toNat 0)<meta_.length)) (again (lit1,dist1,t,t1,(w64 (t2+1)),r13,r14,r15,(meta_.set ((t.getD t2.toNat 0).toNat) r12)))))) else
 (some (lit1,dist1,o3,o4,o5,meta_)))
def Zaz.l0:=ZaA Zaz.l0.step
theorem Zaz.l0.succ (n:Nat) t:Zaz.l0 (n+1) t=Zaz.l0.step (Zaz.l0 n) t:=rfl
def Zaz (s:Str) (at_:Int) (bad:Bool):Option (List Int×List Int×Str×Int×Bool):=
 ((Ze2 5 s at_ bad).bind fun (r,r1,r2,r3)=>
 ((Ze2 5 r1 r2 r3).bind fun (r4,r5,r6,r7)=>
 ((Ze2 4 r5 r6 r7).bind fun (r8,r9,r10,r11)=>
 ((((bif (decide ((w64 (r+257))>286)) then (some true) else
 (some (decide ((w64 (r4+1))>30)))).bind fun c=>
 (bif c then (some ((w64 (r+257)),(w64 (r4+1)),(w64 (r8+4)),r9,r10,true)) else
 (some ((w64 (r+257)),(w64 (r4+1)),(w64 (r8+4)),r9,r10,r11)))):Option (Int×Int×Int×Str×Int×Bool)).bind fun (lit,dist,many,o,o1,o2)=>
 (need (decide (0≤(([16,17,18,0,8,7,9,6,10,5,11,4,12,3,13,2,14,1,15]:List (Int)).length:Int))&&fits (([16,17,18,0,8,7,9,6,10,5,11,4,12,3,13,2,14,1,15]:List (Int)).length:Int).toNat) (need (decide (0≤many)&&decide (many≤([16,17,18,0,8,7,9,6,10,5,11,4,12,3,13,2,14,1,15]:List (Int)).length)) ((Zaz.l0 ((((([16,17,18,0,8,7,9,6,10,5,11,4,12,3,13,2,14,1,15]:List (Int)).take many.toNat).length:Int)-(0:Int)).toNat+1) (lit,dist,(([16,17,18,0,8,7,9,6,10,5,11,4,12,3,13,2,14,1,15]:List (Int)).take many.toNat),((([16,17,18,0,8,7,9,6,10,5,11,4,12,3,13,2,14,1,15]:List (Int)).take many.toNat).length:Int),0,o,o1,o2,(List.replicate (([16,17,18,0,8,7,9,6,10,5,11,4,12,3,13,2,14,1,15]:List (Int)).length:Int).toNat (0:Int)))).bind fun (lit2,dist2,o6,o7,o8,meta_1)=>
 ((bif o8 then (some true) else
 ((Zce meta_1).bind fun LensOk=>
 (some (!LensOk)))).bind fun c1=>
 (bif c1 then (some ([],[],o6,o7,true)) else
 ((Zcg meta_1).bind fun bookOf_=>
 ((Zaz.l2 (((w64 (lit2+dist2))-(([]:List Int).length:Int)).toNat+1) (lit2,dist2,o6,o7,o8,bookOf_,[])).bind fun (lit7,dist7,o25,o26,o27,all4)=>
 ((bif ((all4.length:Int) != (w64 (lit7+dist7))) then (some true) else
 (some o27)).bind fun c3=>
 (bif c3 then (some ([],[],o25,o26,true)) else
 (need (decide (0≤lit7)&&decide (lit7≤all4.length)) (need (decide (0≤lit7)&&decide (lit7≤all4.length)) (some (((all4.drop 0).take lit7.toNat),((all4.drop lit7.toNat).take (all4.length-lit7.toNat)),o25,o26,o27)))))))))))))))))
def Zcn.l0.step (again:(Str×Int×Bool×List Int×(List ((Int×Int)×Int))×List ((Int×Int)×Int))→Option ((Str×Int×Bool×List Int)⊕(Str×Int×Bool×List Int))):(Str×Int×Bool×List Int×(List ((Int×Int)×Int))×List ((Int×Int)×Int))→Option ((Str×Int×Bool×List Int)⊕(Str×Int×Bool×List Int)):=fun (o,o1,o2,out1,o3,o4)=>
 ((bif (!o2) then (some (decide ((out1.length:Int)≤300))) else
 (some false)).bind fun c1=>
 (bif c1 then ((Zbq o o1 o2 o3).bind fun (r,r1,r2,r3,r4)=>
 ((bif r3 then (some true) else
 (some (r==256))).bind fun c2=>
 (bif c2 then ((some (r1,r2,r3,out1)).map Sum.inr) else
 (bif (decide (r<256)) then (need (fits (out1.length+([(IntKind.wrap .u8 r)]:List (Int)).length)) (again (r1,r2,r3,(out1++[(IntKind.wrap .u8 r)]),r4,o4))) else
 (bif (decide ((w64 (r-257))≥28)) then ((some (r1,r2,true,out1)).map Sum.inr) else
 ((Zb2).bind fun (r5,r6)=>
 (need (decide (0≤(w64 (r-257)))&&decide ((w64 (r-257))<r5.length)) ((Zb2).bind fun (r7,r8)=>
 (need (decide (0≤(w64 (r-257)))&&decide ((w64 (r-257))<r8.length)) ((Ze2 (r8.getD (w64 (r-257)).toNat 0) r1 r2 r3).bind fun (r9,r10,r11,r12)=>
 ((Zbq r10 r11 r12 o4).bind fun (r13,r14,r15,r16,r17)=>
 (bif (decide (r13≥30)) then ((some (r14,r15,true,out1)).map Sum.inr) else
 ((Zb6).bind fun (r18,r19)=>
 (need (decide (0≤r13)&&decide (r13<r18.length)) ((Zb6).bind fun (r20,r21)=>
 (need (decide (0≤r13)&&decide (r13<r21.length)) ((Ze2 (r21.getD r13.toNat 0) r14 r15 r16).bind fun (r22,r23,r24,r25)=>
 ((add 0 (w64 ((r5.getD (w64 (r-257)).toNat 0)+r9)) (w64 ((r18.getD r13.toNat 0)+r22)) out1).bind fun (r26,r27)=>
 ((bif (!r26) then (some true) else
 (some r25)).bind fun c3=>
 (bif c3 then (none.map Sum.inr) else
 (again (r23,r24,r25,r27,r4,r17)))))))))))))))))))))) else
 (some (.inl (o,o1,o2,out1)))))
def Zcn.l0:=ZaA Zcn.l0.step
theorem Zcn.l0.succ (n:Nat) t:Zcn.l0 (n+1) t=Zcn.l0.step (Zcn.l0 n) t:=rfl
def Zcn (lit:List Int) (dist:List Int) (s:Str) (at_:Int) (bad:Bool) (out:List Int):Option (Str×Int×Bool×List Int):=
 ((bif bad then (some true) else
 ((Zce lit).bind fun LensOk=>
 (bif (!LensOk) then (some true) else
 ((Zce dist).bind fun LensOk1=>
 (some (!LensOk1)))))).bind fun c=>
 (bif c then (some (s,at_,true,out)) else
 ((Zcg lit).bind fun bookOf_=>
 ((Zcg dist).bind fun bookOf_1=>
 ((Zcn.l0 (100000) (s,at_,bad,out,bookOf_,bookOf_1)).bind fun r=>match r with
 | .inl (o5,o6,o7,out2)=>(some (o5,o6,o7,out2))
 | .inr r=>some r)))))
def Za6.l0.step (again:(Str×Int×Bool×List Int×(List ((Int×Int)×Int))×List ((Int×Int)×Int))→Option ((Str×Int×Bool×List Int)⊕(Str×Int×Bool))):(Str×Int×Bool×List Int×(List ((Int×Int)×Int))×List ((Int×Int)×Int))→Option ((Str×Int×Bool×List Int)⊕(Str×Int×Bool)):=fun (o,o1,o2,out1,o3,o4)=>
 ((bif (!o2) then (some (decide ((out1.length:Int)≤300))) else
 (some false)).bind fun c1=>
 (bif c1 then ((Zbq o o1 o2 o3).bind fun (r,r1,r2,r3,r4)=>
 ((bif r3 then (some true) else
 (some (r==256))).bind fun c2=>
 (bif c2 then ((some (r1,r2,r3)).map Sum.inr) else
 (bif (decide (r<256)) then (need (fits (out1.length+([(IntKind.wrap .u8 r)]:List (Int)).length)) (again (r1,r2,r3,(out1++[(IntKind.wrap .u8 r)]),r4,o4))) else
 (bif (decide ((w64 (r-257))≥28)) then ((some (r1,r2,true)).map Sum.inr) else
 ((Zb2).bind fun (r5,r6)=>
 (need (decide (0≤(w64 (r-257)))&&decide ((w64 (r-257))<r5.length)) ((Zb2).bind fun (r7,r8)=>
 (need (decide (0≤(w64 (r-257)))&&decide ((w64 (r-257))<r8.length)) ((Ze2 (r8.getD (w64 (r-257)).toNat 0) r1 r2 r3).bind fun (r9,r10,r11,r12)=>
 ((Zbq r10 r11 r12 o4).bind fun (r13,r14,r15,r16,r17)=>
 (bif (decide (r13≥30)) then ((some (r14,r15,true)).map Sum.inr) else
 ((Zb6).bind fun (r18,r19)=>
 (need (decide (0≤r13)&&decide (r13<r18.length)) ((Zb6).bind fun (r20,r21)=>
 (need (decide (0≤r13)&&decide (r13<r21.length)) ((Ze2 (r21.getD r13.toNat 0) r14 r15 r16).bind fun (r22,r23,r24,r25)=>
 ((add 0 (w64 ((r5.getD (w64 (r-257)).toNat 0)+r9)) (w64 ((r18.getD r13.toNat 0)+r22)) out1).bind fun (r26,r27)=>
 ((bif (!r26) then (some true) else
 (some r25)).bind fun c3=>
 (bif c3 then ((some (r23,r24,true)).map Sum.inr) else
 (again (r23,r24,r25,r27,r4,r17)))))))))))))))))))))) else
 (some (.inl (o,o1,o2,out1)))))
def Za6.l0:=ZaA Za6.l0.step
theorem Za6.l0.succ (n:Nat) t:Za6.l0 (n+1) t=Za6.l0.step (Za6.l0 n) t:=rfl
def Za6 (lit:List Int) (dist:List Int) (s:Str) (at_:Int) (bad:Bool) (out:List Int):Option (Str×Int×Bool):=
 ((bif bad then (some true) else
 ((Zce lit).bind fun LensOk=>
 (bif (!LensOk) then (some true) else
 ((Zce dist).bind fun LensOk1=>
 (some (!LensOk1)))))).bind fun c=>
 (bif c then (some (s,at_,true)) else
 ((Zcg lit).bind fun bookOf_=>
 ((Zcg dist).bind fun bookOf_1=>
 ((Za6.l0 (100000) (s,at_,bad,out,bookOf_,bookOf_1)).bind fun r=>match r with
 | .inl (o5,o6,o7,out2)=>(some (o5,o6,o7))
 | .inr r=>some r)))))
def Zbt.l0.step (again:(Bool×Str×Int×Bool×List Int)→Option ((Str×Int×Bool×List Int)⊕(Str×Int×Bool))):(Bool×Str×Int×Bool×List Int)→Option ((Str×Int×Bool×List Int)⊕(Str×Int×Bool)):=fun (last,o,o1,o2,out)=>
 (bif (!last) then ((ZiJ o o1 o2).bind fun (r,r1,r2,r3)=>
 ((Ze2 2 r1 r2 r3).bind fun (r4,r5,r6,r7)=>
 (bif (r4==0) then ((ZbY r5 r6 r7 out).bind fun (r8,r9,r10,r11)=>
 (bif r10 then ((some ([],0,false)).map Sum.inr) else
 (bif (decide ((r11.length:Int)>300)) then ((some ([],0,false)).map Sum.inr) else
 (again ((r==1),r8,r9,r10,r11))))) else
 (bif (r4==1) then ((Zbs).bind fun (r12,r13)=>
 (Zn1 (Zcn r12 r13 r5 r6 r7 out) (fun (r14,r15,r16,r17)=>
 (bif r16 then ((some ([],0,false)).map Sum.inr) else
 (bif (decide ((r17.length:Int)>300)) then ((some ([],0,false)).map Sum.inr) else
 (again ((r==1),r14,r15,r16,r17))))) ((Za6 r12 r13 r5 r6 r7 out).bind fun (r18,r19,r20)=>
 (bif r20 then ((some ([],0,false)).map Sum.inr) else
 none)))) else
 (bif (r4==2) then ((Zaz r5 r6 r7).bind fun (r21,r22,r23,r24,r25)=>
 (Zn1 (Zcn r21 r22 r23 r24 r25 out) (fun (r26,r27,r28,r29)=>
 (bif r28 then ((some ([],0,false)).map Sum.inr) else
 (bif (decide ((r29.length:Int)>300)) then ((some ([],0,false)).map Sum.inr) else
 (again ((r==1),r26,r27,r28,r29))))) ((Za6 r21 r22 r23 r24 r25 out).bind fun (r30,r31,r32)=>
 (bif r32 then ((some ([],0,false)).map Sum.inr) else
 none)))) else
 ((some ([],0,false)).map Sum.inr)))))) else
 (some (.inl (o,o1,o2,out))))
def Zbt.l0:=ZaA Zbt.l0.step
theorem Zbt.l0.succ (n:Nat) t:Zbt.l0 (n+1) t=Zbt.l0.step (Zbt.l0 n) t:=rfl
def Zbt (text:Str):Option (Str×Int×Bool):=
 (bif (decide ((text.length:Int)>700)) then (some ([],0,false)) else
 ((Zbt.l0 (100000) (false,text,0,false,[])).bind fun r=>match r with
 | .inl (o3,o4,o5,out1)=>((Zee o3 o4 o5).bind fun (r33,r34,r35)=>
 (bif r35 then (some ([],0,false)) else
 (some ((Zbu out1),(w64 (r34.tdiv 8)),true))))
 | .inr r=>some r))
def ZoG (year:Int) (month:Int):Option (Int):=
 (((bif (month==4) then (some (year,month,(month==4))) else
 (bif (month==6) then (some (year,month,(month==6))) else
 (bif (month==9) then (some (year,month,(month==9))) else
 (some (year,month,(month==11)))))):Option (Int×Int×Bool)).bind fun (year1,t,t1)=>
 (bif t1 then (some 30) else
 (bif (t==2) then ((bif ((year1.tmod 4)==0) then (bif ((year1.tmod 100) != 0) then (some true) else
 (some ((year1.tmod 400)==0))) else
 (some false)).bind fun c=>
 (bif c then (some 29) else
 (some 28))) else
 (some 31))))
def ZcI (y:Int) (mo:Int) (d:Int) (h:Int) (mi:Int) (sec:Int):Option (Bool):=
 (((ZbC y 1980 2107).bind fun within_=>
 (bif within_ then ((ZbC mo 1 12).bind fun within_1=>
 (bif within_1 then ((ZoG y mo).bind fun days_=>
 ((ZbC d 1 days_).bind fun within_2=>
 (bif within_2 then ((ZbC h 0 23).bind fun within_3=>
 (bif within_3 then ((ZbC mi 0 59).bind fun within_4=>
 (bif within_4 then ((ZbC sec 0 58).bind fun within_5=>
 (bif within_5 then (some ((sec.tmod 2)==0)) else
 (some false))) else
 (some false))) else
 (some false))) else
 (some false)))) else
 (some false))) else
 (some false))).bind fun c=>
 (some c))
def Zcr (y:Int) (mo:Int) (d:Int) (h:Int) (mi:Int) (sec:Int):Option (Int):=
 ((ZcI y mo d h mi sec).bind fun StampOk=>
 (bif (!StampOk) then (some (-1)) else
 (some (ior .i64 (ior .i64 (ior .i64 (ior .i64 (ior .i64 (w64 (sec.tdiv 2)) (Zr1 .i64 mi 5)) (Zr1 .i64 h 11)) (Zr1 .i64 d 16)) (Zr1 .i64 mo 21)) (Zr1 .i64 (w64 (y-1980)) 25)))))
def ZdB (n:Int):Option (Int×Int×Int×Int×Int×Int×Bool):=
 (bif (decide (n<0)) then (some (0,0,0,0,0,0,false)) else
 ((Zcr (w64 (1980+(Zk8 .i64 (Znk .i64 n 25) 127))) (Zk8 .i64 (Znk .i64 n 21) 15) (Zk8 .i64 (Znk .i64 n 16) 31) (Zk8 .i64 (Znk .i64 n 11) 31) (Zk8 .i64 (Znk .i64 n 5) 63) (w64 ((Zk8 .i64 n 31)*2))).bind fun StampPut=>
 (bif (StampPut != n) then (some (0,0,0,0,0,0,false)) else
 (some ((w64 (1980+(Zk8 .i64 (Znk .i64 n 25) 127))),(Zk8 .i64 (Znk .i64 n 21) 15),(Zk8 .i64 (Znk .i64 n 16) 31),(Zk8 .i64 (Znk .i64 n 11) 31),(Zk8 .i64 (Znk .i64 n 5) 63),(w64 ((Zk8 .i64 n 31)*2)),true)))))
def Zcw (name:Str) (y:Int) (mo:Int) (d:Int) (h:Int) (mi:Int) (sec:Int) (text:Str):Option (Bool):=
 (((ZaG name).bind fun NameOk=>
 (bif NameOk then ((ZcI y mo d h mi sec).bind fun StampOk=>
 (bif StampOk then (some (decide ((text.length:Int)≤300))) else
 (some false))) else
 (some false))).bind fun c=>
 (some c))
def ZbE.l0.step (again:(Int×Int×Int×List Int)→Option (List Int)):(Int×Int×Int×List Int)→Option (List Int):=fun (n1,t,t1,out)=>
 (bif (decide (t1<t)) then (need (fits (out.length+([(IntKind.wrap .u8 (n1.tmod 256))]:List (Int)).length)) (again ((w64 (n1.tdiv 256)),t,(w64 (t1+1)),(out++[(IntKind.wrap .u8 (n1.tmod 256))])))) else
 (some out))
def ZbE.l0:=ZaA ZbE.l0.step
theorem ZbE.l0.succ (n:Nat) t:ZbE.l0 (n+1) t=ZbE.l0.step (ZbE.l0 n) t:=rfl
def ZbE (n:Int) (bytes:Int):Option (Str):=
 ((ZbE.l0 ((bytes-(0:Int)).toNat+1) (n,bytes,0,[])).bind fun out1=>
 (some (Zbu out1)))
def Zbc.l0.step (again:(Str×Int×Int×Int)→Option (Int)):(Str×Int×Int×Int)→Option (Int):=fun (s1,at_1,n,k)=>
 (bif (decide (k≥0)) then (need (decide (0≤(w64 (at_1+k)))&&decide ((w64 (at_1+k))<s1.length)) (again (s1,at_1,(w64 ((w64 (256*n))+(w64 ((s1.getD (w64 (at_1+k)).toNat 0).toNat:Int)))),(w64 (k-1))))) else
 (some n))
def Zbc.l0:=ZaA Zbc.l0.step
theorem Zbc.l0.succ (n:Nat) t:Zbc.l0 (n+1) t=Zbc.l0.step (Zbc.l0 n) t:=rfl
def Zbc (s:Str) (at_:Int) (bytes:Int):Option (Int):=
 ((Zbc.l0 (((w64 (bytes-1))-0).toNat+2) (s,at_,0,(w64 (bytes-1)))).bind fun n1=>
 (some n1))
def Zd1 (name:Str) (y:Int) (mo:Int) (d:Int) (h:Int) (mi:Int) (sec:Int) (text:Str) (method:Int) (packed:Int):Option (Str):=
 ((ZbE 20 2).bind fun number_=>
 (need (fits (([80,75,3,4]:Str).length+number_.length)) ((ZbE 0 2).bind fun number_1=>
 (need (fits (([80,75,3,4]++number_).length+number_1.length)) ((ZbE method 2).bind fun number_2=>
 (need (fits ((([80,75,3,4]++number_)++number_1).length+number_2.length)) ((Zcr y mo d h mi sec).bind fun StampPut=>
 ((ZbE StampPut 4).bind fun number_3=>
 (need (fits (((([80,75,3,4]++number_)++number_1)++number_2).length+number_3.length)) ((crc text).bind fun Crc=>
 ((ZbE Crc 4).bind fun number_4=>
 (need (fits ((((([80,75,3,4]++number_)++number_1)++number_2)++number_3).length+number_4.length)) ((ZbE packed 4).bind fun number_5=>
 (need (fits (((((([80,75,3,4]++number_)++number_1)++number_2)++number_3)++number_4).length+number_5.length)) ((ZbE (text.length:Int) 4).bind fun number_6=>
 (need (fits ((((((([80,75,3,4]++number_)++number_1)++number_2)++number_3)++number_4)++number_5).length+number_6.length)) ((ZbE (name.length:Int) 2).bind fun number_7=>
 (need (fits (((((((([80,75,3,4]++number_)++number_1)++number_2)++number_3)++number_4)++number_5)++number_6).length+number_7.length)) ((ZbE 0 2).bind fun number_8=>
 (need (fits ((((((((([80,75,3,4]++number_)++number_1)++number_2)++number_3)++number_4)++number_5)++number_6)++number_7).length+number_8.length)) (some ((((((((([80,75,3,4]++number_)++number_1)++number_2)++number_3)++number_4)++number_5)++number_6)++number_7)++number_8))))))))))))))))))))))
def ZdC (name:Str) (y:Int) (mo:Int) (d:Int) (h:Int) (mi:Int) (sec:Int) (text:Str):Option (Str):=
 ((Zcw name y mo d h mi sec text).bind fun EntryOk=>
 (bif (!EntryOk) then (some []) else
 ((Zba text).bind fun FlatePut=>
 (bif (decide ((FlatePut.length:Int)<(text.length:Int))) then ((Zd1 name y mo d h mi sec text 8 (FlatePut.length:Int)).bind fun headOf_=>
 (need (fits (headOf_.length+name.length)) (need (fits ((headOf_++name).length+FlatePut.length)) (some ((headOf_++name)++FlatePut))))) else
 ((Zd1 name y mo d h mi sec text 0 (text.length:Int)).bind fun headOf_1=>
 (need (fits (headOf_1.length+name.length)) (need (fits ((headOf_1++name).length+text.length)) (some ((headOf_1++name)++text)))))))))
def ZdD (text:Str):Option (Str×Int×Int×Int×Int×Int×Int×Str×Int×Bool):=
 (bif (decide ((text.length:Int)<30)) then (some ([],0,0,0,0,0,0,[],0,false)) else
 ((Zbc text 8 2).bind fun numberAt_=>
 ((Zbc text 18 4).bind fun numberAt_1=>
 ((Zbc text 26 2).bind fun numberAt_2=>
 (need (decide (0≤(30:Int))&&decide ((30:Int)≤text.length)) ((bif (decide (((text.drop 30).length:Int)<numberAt_2)) then (some true) else
 (some (decide ((w64 (((text.drop 30).length:Int)-numberAt_2))<numberAt_1)))).bind fun c=>
 (bif c then (some ([],0,0,0,0,0,0,[],0,false)) else
 (need (decide (0≤numberAt_2)&&decide (numberAt_2≤(text.drop 30).length)) (need (decide (0≤(w64 (numberAt_2+numberAt_1)))&&decide ((w64 (numberAt_2+numberAt_1))≤(text.drop 30).length)) (need (decide (0≤numberAt_2)&&decide (numberAt_2≤(w64 (numberAt_2+numberAt_1)))) ((Zbc text 10 4).bind fun numberAt_3=>
 ((ZdB numberAt_3).bind fun (r,r1,r2,r3,r4,r5,r6)=>
 (((bif (numberAt_==0) then (some (.inl (text,numberAt_,numberAt_1,numberAt_2,[],0,0,0,0,0,0,[],((text.drop 30).take numberAt_2.toNat),r,r1,r2,r3,r4,r5,(((text.drop 30).take (w64 (numberAt_2+numberAt_1)).toNat).drop numberAt_2.toNat)))) else
 (bif (numberAt_==8) then ((Zbt (((text.drop 30).take (w64 (numberAt_2+numberAt_1)).toNat).drop numberAt_2.toNat)).bind fun (r7,r8,r9)=>
 ((bif (!r9) then (some true) else
 (some (r8 != numberAt_1))).bind fun c1=>
 (bif c1 then ((some ([],0,0,0,0,0,0,[],0,false)).map Sum.inr) else
 (some (.inl (text,numberAt_,numberAt_1,numberAt_2,[],0,0,0,0,0,0,[],((text.drop 30).take numberAt_2.toNat),r,r1,r2,r3,r4,r5,r7)))))) else
 ((some ([],0,0,0,0,0,0,[],0,false)).map Sum.inr))):Option ((Str×Int×Int×Int×Str×Int×Int×Int×Int×Int×Int×Str×Str×Int×Int×Int×Int×Int×Int×Str)⊕(Str×Int×Int×Int×Int×Int×Int×Str×Int×Bool))).bind fun r=>match r with
 | .inl (text1,method,packed,name,o,o1,o2,o3,o4,o5,o6,o7,o8,o9,o10,o11,o12,o13,o14,o15)=>(((Zcw o8 o9 o10 o11 o12 o13 o14 o15).bind fun EntryOk=>
 (bif (!EntryOk) then (some true) else
 ((Zd1 o8 o9 o10 o11 o12 o13 o14 o15 method packed).bind fun headOf_=>
 (need (decide (0≤(30:Int))&&decide ((30:Int)≤text1.length)) (some (!(headOf_==(text1.take 30)))))))).bind fun c2=>
 (bif c2 then (some ([],0,0,0,0,0,0,[],0,false)) else
 (some (o8,o9,o10,o11,o12,o13,o14,o15,(w64 ((w64 (30+name))+packed)),true))))
 | .inr r=>some r)))))))))))))
def joinS (xs:List Str) (sep:Str):Option (Str):=need (fits xs.length&&fits (ZsH xs sep).length) (some (ZsH xs sep))
def ZbT.l0.step (again:((List (Str×Int×Int×Int×Int×Int×Int×Str))×Int×Int×List Str)→Option (List Str)):((List (Str×Int×Int×Int×Int×Int×Int×Str))×Int×Int×List Str)→Option (List Str):=fun (t,t1,t2,out)=>
 (bif (decide (t2<t1)) then (need (decide (0≤t2)&&decide (t2<t.length)) (need (fits (out.length+([(t.getD t2.toNat ([],0,0,0,0,0,0,[])).1]:List (Str)).length)) (again (t,t1,(w64 (t2+1)),(out++[(t.getD t2.toNat ([],0,0,0,0,0,0,[])).1]))))) else
 (some out))
def ZbT.l0:=ZaA ZbT.l0.step
theorem ZbT.l0.succ (n:Nat) t:ZbT.l0 (n+1) t=ZbT.l0.step (ZbT.l0 n) t:=rfl
def ZbT (list:List (Str×Int×Int×Int×Int×Int×Int×Str)):Option (List Str):=
 ((ZbT.l0 (((list.length:Int)-(0:Int)).toNat+1) (list,(list.length:Int),0,[])).bind fun out1=>
 (some out1))
def Zd3.l0.step (again:((List (Str×Int×Int×Int×Int×Int×Int×Str))×(List (Str×Int×Int×Int×Int×Int×Int×Str))×Int×Int)→Option ((List (Str×Int×Int×Int×Int×Int×Int×Str))⊕(Bool))):((List (Str×Int×Int×Int×Int×Int×Int×Str))×(List (Str×Int×Int×Int×Int×Int×Int×Str))×Int×Int)→Option ((List (Str×Int×Int×Int×Int×Int×Int×Str))⊕(Bool)):=fun (list1,t,t1,t2)=>
 (bif (decide (t2<t1)) then (need (decide (0≤t2)&&decide (t2<t.length)) ((Zcw ((t.getD t2.toNat ([],0,0,0,0,0,0,[])).1) ((t.getD t2.toNat ([],0,0,0,0,0,0,[])).2.1) ((t.getD t2.toNat ([],0,0,0,0,0,0,[])).2.2.1) ((t.getD t2.toNat ([],0,0,0,0,0,0,[])).2.2.2.1) ((t.getD t2.toNat ([],0,0,0,0,0,0,[])).2.2.2.2.1) ((t.getD t2.toNat ([],0,0,0,0,0,0,[])).2.2.2.2.2.1) ((t.getD t2.toNat ([],0,0,0,0,0,0,[])).2.2.2.2.2.2.1) ((t.getD t2.toNat ([],0,0,0,0,0,0,[])).2.2.2.2.2.2.2)).bind fun EntryOk=>
 (bif (!EntryOk) then ((some false).map Sum.inr) else
 (again (list1,t,t1,(w64 (t2+1))))))) else
 (some (.inl list1)))
def Zd3.l0:=ZaA Zd3.l0.step
theorem Zd3.l0.succ (n:Nat) t:Zd3.l0 (n+1) t=Zd3.l0.step (Zd3.l0 n) t:=rfl
def Zd3 (list:List (Str×Int×Int×Int×Int×Int×Int×Str)):Option (Bool):=
 ((Zd3.l0 (((list.length:Int)-(0:Int)).toNat+1) (list,list,(list.length:Int),0)).bind fun r=>match r with
 | .inl list2=>(bif (decide ((list2.length:Int)≤6)) then ((ZbT list2).bind fun namesOf_=>
 ((Zc0 namesOf_).bind fun apart_=>
 (some apart_))) else
 (some false))
 | .inr r=>some r)
def ZbM.l0.step (again:(List Str×Str×Int×List Str×Int×Int)→Option (List Str×Str×Int)):(List Str×Str×Int×List Str×Int×Int)→Option (List Str×Str×Int):=fun (locals1,heads,at_,t,t1,t2)=>
 (bif (decide (t2<t1)) then (need (decide (0≤t2)&&decide (t2<t.length)) ((Zbc (t.getD t2.toNat []) 26 2).bind fun numberAt_=>
 ((ZbE 20 2).bind fun number_=>
 (need (fits (([80,75,1,2]:Str).length+number_.length)) (need (decide (0≤(30:Int))&&decide ((30:Int)≤(t.getD t2.toNat []).length)) (need (decide (0≤(4:Int))&&decide ((4:Int)≤(30:Int))) (need (fits (([80,75,1,2]++number_).length+(((t.getD t2.toNat []).take 30).drop 4).length)) ((ZbE 0 10).bind fun number_1=>
 (need (fits ((([80,75,1,2]++number_)++(((t.getD t2.toNat []).take 30).drop 4)).length+number_1.length)) ((ZbE at_ 4).bind fun number_2=>
 (need (fits (((([80,75,1,2]++number_)++(((t.getD t2.toNat []).take 30).drop 4))++number_1).length+number_2.length)) (need (decide (0≤(w64 (30+numberAt_)))&&decide ((w64 (30+numberAt_))≤(t.getD t2.toNat []).length)) (need (decide (0≤(30:Int))&&decide ((30:Int)≤(w64 (30+numberAt_)))) (need (fits ((((([80,75,1,2]++number_)++(((t.getD t2.toNat []).take 30).drop 4))++number_1)++number_2).length+(((t.getD t2.toNat []).take (w64 (30+numberAt_)).toNat).drop 30).length)) (need (fits (heads.length+((((([80,75,1,2]++number_)++(((t.getD t2.toNat []).take 30).drop 4))++number_1)++number_2)++(((t.getD t2.toNat []).take (w64 (30+numberAt_)).toNat).drop 30)).length)) (again (locals1,(heads++((((([80,75,1,2]++number_)++(((t.getD t2.toNat []).take 30).drop 4))++number_1)++number_2)++(((t.getD t2.toNat []).take (w64 (30+numberAt_)).toNat).drop 30))),(w64 (at_+((t.getD t2.toNat []).length:Int))),t,t1,(w64 (t2+1))))))))))))))))))) else
 (some (locals1,heads,at_)))
def ZbM.l0:=ZaA ZbM.l0.step
theorem ZbM.l0.succ (n:Nat) t:ZbM.l0 (n+1) t=ZbM.l0.step (ZbM.l0 n) t:=rfl
def ZbM (locals:List Str):Option (Str):=
 ((ZbM.l0 (((locals.length:Int)-(0:Int)).toNat+1) (locals,[],0,locals,(locals.length:Int),0)).bind fun (locals2,heads1,at_1)=>
 ((ZbE (locals2.length:Int) 2).bind fun number_3=>
 (need (fits (heads1.length+([80,75,5,6]:Str).length)) ((ZbE 0 4).bind fun number_4=>
 (need (fits ((heads1++[80,75,5,6]).length+number_4.length)) (need (fits (((heads1++[80,75,5,6])++number_4).length+number_3.length)) (need (fits ((((heads1++[80,75,5,6])++number_4)++number_3).length+number_3.length)) ((ZbE (heads1.length:Int) 4).bind fun number_5=>
 (need (fits (((((heads1++[80,75,5,6])++number_4)++number_3)++number_3).length+number_5.length)) ((ZbE at_1 4).bind fun number_6=>
 (need (fits ((((((heads1++[80,75,5,6])++number_4)++number_3)++number_3)++number_5).length+number_6.length)) ((ZbE 0 2).bind fun number_7=>
 (need (fits (((((((heads1++[80,75,5,6])++number_4)++number_3)++number_3)++number_5)++number_6).length+number_7.length)) (some (((((((heads1++[80,75,5,6])++number_4)++number_3)++number_3)++number_5)++number_6)++number_7)))))))))))))))
def Zda.l0.step (again:((List (Str×Int×Int×Int×Int×Int×Int×Str))×Int×Int×List Str)→Option (List Str)):((List (Str×Int×Int×Int×Int×Int×Int×Str))×Int×Int×List Str)→Option (List Str):=fun (t,t1,t2,locals)=>
 (bif (decide (t2<t1)) then (need (decide (0≤t2)&&decide (t2<t.length)) ((ZdC ((t.getD t2.toNat ([],0,0,0,0,0,0,[])).1) ((t.getD t2.toNat ([],0,0,0,0,0,0,[])).2.1) ((t.getD t2.toNat ([],0,0,0,0,0,0,[])).2.2.1) ((t.getD t2.toNat ([],0,0,0,0,0,0,[])).2.2.2.1) ((t.getD t2.toNat ([],0,0,0,0,0,0,[])).2.2.2.2.1) ((t.getD t2.toNat ([],0,0,0,0,0,0,[])).2.2.2.2.2.1) ((t.getD t2.toNat ([],0,0,0,0,0,0,[])).2.2.2.2.2.2.1) ((t.getD t2.toNat ([],0,0,0,0,0,0,[])).2.2.2.2.2.2.2)).bind fun LocalPut=>
 (need (fits (locals.length+([LocalPut]:List (Str)).length)) (again (t,t1,(w64 (t2+1)),(locals++[LocalPut])))))) else
 (some locals))
def Zda.l0:=ZaA Zda.l0.step
theorem Zda.l0.succ (n:Nat) t:Zda.l0 (n+1) t=Zda.l0.step (Zda.l0 n) t:=rfl
def Zda (list:List (Str×Int×Int×Int×Int×Int×Int×Str)):Option (Str):=
 ((Zd3 list).bind fun ZipOk=>
 (bif (!ZipOk) then (some []) else
 ((Zda.l0 (((list.length:Int)-(0:Int)).toNat+1) (list,(list.length:Int),0,[])).bind fun locals1=>
 ((joinS locals1 []).bind fun Join=>
 ((ZbM locals1).bind fun closing_=>
 (need (fits (Join.length+closing_.length)) (some (Join++closing_))))))))
def Zck.l0.step (again:(Str×(List (Str×Int×Int×Int×Int×Int×Int×Str))×List Str)→Option (Str×(List (Str×Int×Int×Int×Int×Int×Int×Str))×List Str)):(Str×(List (Str×Int×Int×Int×Int×Int×Int×Str))×List Str)→Option (Str×(List (Str×Int×Int×Int×Int×Int×Int×Str))×List Str):=fun (rest,out,locals)=>
 (bif (decide ((out.length:Int)<6)) then ((ZdD rest).bind fun (r,r1,r2,r3,r4,r5,r6,r7,r8,r9)=>
 (bif (!r9) then (some (rest,out,locals)) else
 (need (fits (out.length+([(r,r1,r2,r3,r4,r5,r6,r7)]:List (Str×Int×Int×Int×Int×Int×Int×Str)).length)) (need (decide (0≤r8)&&decide (r8≤rest.length)) (need (fits (locals.length+([(rest.take r8.toNat)]:List (Str)).length)) (need (decide (0≤r8)&&decide (r8≤rest.length)) (again ((rest.drop r8.toNat),(out++[(r,r1,r2,r3,r4,r5,r6,r7)]),(locals++[(rest.take r8.toNat)]))))))))) else
 (some (rest,out,locals)))
def Zck.l0:=ZaA Zck.l0.step
theorem Zck.l0.succ (n:Nat) t:Zck.l0 (n+1) t=Zck.l0.step (Zck.l0 n) t:=rfl
def Zck (text:Str):Option (Bool×List (Str×Int×Int×Int×Int×Int×Int×Str)):=
 ((Zck.l0 ((6-(([]:List (Str×Int×Int×Int×Int×Int×Int×Str)).length:Int)).toNat+1) (text,[],[])).bind fun (rest1,out1,locals1)=>
 (((Zd3 out1).bind fun ZipOk=>
 (bif (!ZipOk) then (some true) else
 ((ZbM locals1).bind fun closing_=>
 (some (!(rest1==closing_)))))).bind fun c=>
 (bif c then (some (false,[])) else
 (some (true,out1)))))
def Zdy (text:Str):Option (List Str):=
 ((Zck text).bind fun (r,r1)=>
 ((ZbT r1).bind fun namesOf_=>
 (some namesOf_)))
def find1 (ename:Str) (ey:Int) (emo:Int) (ed:Int) (eh:Int) (emi:Int) (esec:Int) (etext:Str) (name:Str):Option (Bool×Str):=
 (some ((ename==name),name))
def ZgI.l0.step (again:((List (Str×Int×Int×Int×Int×Int×Int×Str))×Int×Int×Str)→Option ((Str)⊕(Int×Str))):((List (Str×Int×Int×Int×Int×Int×Int×Str))×Int×Int×Str)→Option ((Str)⊕(Int×Str)):=fun (s,t,t1,o)=>
 (bif (decide (t1<t)) then (need (decide (0≤t1)&&decide (t1<s.length)) ((find1 ((s.getD t1.toNat ([],0,0,0,0,0,0,[])).1) ((s.getD t1.toNat ([],0,0,0,0,0,0,[])).2.1) ((s.getD t1.toNat ([],0,0,0,0,0,0,[])).2.2.1) ((s.getD t1.toNat ([],0,0,0,0,0,0,[])).2.2.2.1) ((s.getD t1.toNat ([],0,0,0,0,0,0,[])).2.2.2.2.1) ((s.getD t1.toNat ([],0,0,0,0,0,0,[])).2.2.2.2.2.1) ((s.getD t1.toNat ([],0,0,0,0,0,0,[])).2.2.2.2.2.2.1) ((s.getD t1.toNat ([],0,0,0,0,0,0,[])).2.2.2.2.2.2.2) o).bind fun (r,r1)=>
 (bif r then ((some (t1,r1)).map Sum.inr) else
 (again (s,t,(w64 (t1+1)),r1))))) else
 (some (.inl o)))
def ZgI.l0:=ZaA ZgI.l0.step
def ZgI (list:List (Str×Int×Int×Int×Int×Int×Int×Str)) (name:Str):Option (Int×Str):=
 ((ZgI.l0 (((list.length:Int)-(0:Int)).toNat+1) (list,(list.length:Int),0,name)).bind fun r=>match r with
 | .inl o1=>(some ((-1),o1))
 | .inr r=>some r)
def find (list:List (Str×Int×Int×Int×Int×Int×Int×Str)) (name:Str):Option (Int):=
 ((ZgI list name).bind fun (r,r1)=>
 (some r))
def Zdb (xp:Str) (xt:Str) (path:Str) (text:Str):Option (Bool×Str×Str):=
 (some ((xp==path),path,text))
def Za4.l0.step (again:((List (Str×Str))×Int×Int×Str×Str)→Option ((Str×Str)⊕(Int×Str×Str))):((List (Str×Str))×Int×Int×Str×Str)→Option ((Str×Str)⊕(Int×Str×Str)):=fun (s,t,t1,o,o1)=>
 (bif (decide (t1<t)) then (need (decide (0≤t1)&&decide (t1<s.length)) ((Zdb ((s.getD t1.toNat ([],[])).1) ((s.getD t1.toNat ([],[])).2) o o1).bind fun (r,r1,r2)=>
 (bif r then ((some (t1,r1,r2)).map Sum.inr) else
 (again (s,t,(w64 (t1+1)),r1,r2))))) else
 (some (.inl (o,o1))))
def Za4.l0:=ZaA Za4.l0.step
theorem Za4.l0.succ (n:Nat) t:Za4.l0 (n+1) t=Za4.l0.step (Za4.l0 n) t:=rfl
def Za4 (list:List (Str×Str)) (path:Str) (text:Str):Option (Int×Str×Str):=
 ((Za4.l0 (((list.length:Int)-(0:Int)).toNat+1) (list,(list.length:Int),0,path,text)).bind fun r=>match r with
 | .inl (o2,o3)=>(some ((-1),o2,o3))
 | .inr r=>some r)
def Zqg (list:List (Str×Str)):Option (List (Str×Str)):=Zqf list
def ZaT.l0.step (again:((List (Str×Str))×Int×Int×(List (Str×Str))×List (Str×Int×Int×Int×Int×Int×Int×Str))→Option ((List (Str×Str))×List (Str×Str))):((List (Str×Str))×Int×Int×(List (Str×Str))×List (Str×Int×Int×Int×Int×Int×Int×Str))→Option ((List (Str×Str))×List (Str×Str)):=fun (t1,t2,t3,out,o)=>
 (bif (decide (t3<t2)) then (need (decide (0≤t3)&&decide (t3<o.length)) ((Za4 out ((o.getD t3.toNat ([],0,0,0,0,0,0,[])).1) ((o.getD t3.toNat ([],0,0,0,0,0,0,[])).2.2.2.2.2.2.2)).bind fun (r2,r3,r4)=>
 (bif (decide (r2≥0)) then (need (decide (0≤r2)&&decide (r2<out.length)) (again (t1,t2,(w64 (t3+1)),(out.set r2.toNat (r3,r4)),o))) else
 (need (fits (out.length+([(r3,r4)]:List (Str×Str)).length)) (again (t1,t2,(w64 (t3+1)),(out++[(r3,r4)]),o)))))) else
 (some (t1,out)))
def ZaT.l0:=ZaA ZaT.l0.step
theorem ZaT.l0.succ (n:Nat) t:ZaT.l0 (n+1) t=ZaT.l0.step (ZaT.l0 n) t:=rfl
def ZaT (t:List (Str×Str)) (text:Str):Option (Int×List (Str×Str)):=
 ((Zck text).bind fun (r,r1)=>
 (((Zau t).bind fun TreeOk=>
 (bif (!TreeOk) then (some true) else
 (some (!r)))).bind fun c=>
 (bif c then (some (1,[])) else
 (need (fits (([]:List (Str×Str)).length+t.length)) ((ZaT.l0 (((r1.length:Int)-(0:Int)).toNat+1) (t,(r1.length:Int),0,([]++t),r1)).bind fun (t4,out1)=>
 ((Zqg out1).bind fun File=>
 (bif (decide ((File.length:Int)>8)) then (need (fits (([]:List (Str×Str)).length+t4.length)) (some (4,([]++t4)))) else
 ((Zau File).bind fun TreeOk1=>
 (bif (!TreeOk1) then (need (fits (([]:List (Str×Str)).length+t4.length)) (some (3,([]++t4)))) else
 (need (fits (([]:List (Str×Str)).length+File.length)) (some (0,([]++File)))))))))))))
def ZbQ.l0.step (again:(Str×(List (Str×Str))×Int×Int×Int×Int×Int×Int×Int×Int×List (Str×Int×Int×Int×Int×Int×Int×Str))→Option (List (Str×Int×Int×Int×Int×Int×Int×Str))):(Str×(List (Str×Str))×Int×Int×Int×Int×Int×Int×Int×Int×List (Str×Int×Int×Int×Int×Int×Int×Str))→Option (List (Str×Int×Int×Int×Int×Int×Int×Str)):=fun (place1,t1,t2,t3,o,o1,o2,o3,o4,o5,list)=>
 (bif (decide (t3<t2)) then (need (decide (0≤t3)&&decide (t3<t1.length)) ((bif (place1==[]) then (some true) else
 (bif ((t1.getD t3.toNat ([],[])).1==place1) then (some true) else
 (need (fits (place1.length+([47]:Str).length)) ((ZbU ((t1.getD t3.toNat ([],[])).1) (place1++[47])).bind fun HasPrefi=>
 (some HasPrefi))))).bind fun c1=>
 (bif c1 then (need (fits (list.length+([((t1.getD t3.toNat ([],[])).1,o,o1,o2,o3,o4,o5,(t1.getD t3.toNat ([],[])).2)]:List (Str×Int×Int×Int×Int×Int×Int×Str)).length)) (again (place1,t1,t2,(w64 (t3+1)),o,o1,o2,o3,o4,o5,(list++[((t1.getD t3.toNat ([],[])).1,o,o1,o2,o3,o4,o5,(t1.getD t3.toNat ([],[])).2)])))) else
 (again (place1,t1,t2,(w64 (t3+1)),o,o1,o2,o3,o4,o5,list))))) else
 (some list))
def ZbQ.l0:=ZaA ZbQ.l0.step
theorem ZbQ.l0.succ (n:Nat) t:ZbQ.l0 (n+1) t=ZbQ.l0.step (ZbQ.l0 n) t:=rfl
def ZbQ (t:List (Str×Str)) (place:Str) (y:Int) (mo:Int) (d:Int) (h:Int) (mi:Int) (sec:Int):Option (Str×Int):=
 (((Zau t).bind fun TreeOk=>
 (bif (!TreeOk) then (some true) else
 (bif (!(place==[])) then ((ZaG place).bind fun NameOk=>
 (bif (!NameOk) then (some true) else
 ((ZcI y mo d h mi sec).bind fun StampOk=>
 (some (!StampOk))))) else
 ((ZcI y mo d h mi sec).bind fun StampOk1=>
 (some (!StampOk1)))))).bind fun c=>
 (bif c then (some ([],1)) else
 ((ZbQ.l0 (((t.length:Int)-(0:Int)).toNat+1) (place,t,(t.length:Int),0,y,mo,d,h,mi,sec,[])).bind fun list1=>
 (bif (decide ((list1.length:Int)>6)) then (some ([],4)) else
 ((Zda list1).bind fun ZipPut=>
 (some (ZipPut,0)))))))
def ZtM:Nat→Int→Option (Str)
 | 0,_=>none
 | k_+1,n=>
 (bif (decide (n<(-9223372036854775807))) then (some [45,57,50,50,51,51,55,50,48,51,54,56,53,52,55,55,53,56,48,56]) else
 (bif (decide (n<0)) then ((ZtM k_ (w64 (0-n))).bind fun l1Dec_=>
 (need (fits (([45]:Str).length+l1Dec_.length)) (some ([45]++l1Dec_)))) else
 (bif (decide (n<10)) then (some (Zbu [(IntKind.wrap .u8 (w64 (48+n)))])) else
 ((ZtM k_ (w64 (n.tdiv 10))).bind fun l1Dec_1=>
 (need (fits (l1Dec_1.length+(Zbu [(IntKind.wrap .u8 (w64 (48+(n.tmod 10))))]).length)) (some (l1Dec_1++(Zbu [(IntKind.wrap .u8 (w64 (48+(n.tmod 10))))]))))))))
def Zgn (n:Int):Option (Str):=ZtM 30 n
def ZcQ.l0.step (again:(Int×Int)→Option (Int)):(Int×Int)→Option (Int):=fun (n1,out)=>
 (bif (decide (n1>0)) then (again ((w64 (n1-1)),(w64 (2*out)))) else
 (some out))
def ZcQ.l0:=ZaA ZcQ.l0.step
theorem ZcQ.l0.succ (n:Nat) t:ZcQ.l0 (n+1) t=ZcQ.l0.step (ZcQ.l0 n) t:=rfl
def ZcQ (n:Int):Option (Int):=
 ((ZcQ.l0 ((n-0).toNat+1) (n,1)).bind fun out1=>
 (some out1))
def Zeb.l0.step (again:(Int×Int×Int×Int×Int×List Int)→Option (Int×Int×List Int)):(Int×Int×Int×Int×Int×List Int)→Option (Int×Int×List Int):=fun (num1,bits1,k,o,o1,o2)=>
 (bif (decide (k<bits1)) then ((ZcQ o1).bind fun l1Pow_=>
 (bif ((w64 (o1+1))==8) then (need (fits (o2.length+([(IntKind.wrap .u8 (w64 (o+(w64 ((num1.tmod 2)*l1Pow_)))))]:List (Int)).length)) (again ((w64 (num1.tdiv 2)),bits1,(w64 (k+1)),0,0,(o2++[(IntKind.wrap .u8 (w64 (o+(w64 ((num1.tmod 2)*l1Pow_)))))])))) else
 (again ((w64 (num1.tdiv 2)),bits1,(w64 (k+1)),(w64 (o+(w64 ((num1.tmod 2)*l1Pow_)))),(w64 (o1+1)),o2)))) else
 (some (o,o1,o2)))
def Zeb.l0:=ZaA Zeb.l0.step
theorem Zeb.l0.succ (n:Nat) t:Zeb.l0 (n+1) t=Zeb.l0.step (Zeb.l0 n) t:=rfl
def Zeb (num:Int) (bits:Int) (last:Int) (fill:Int) (text:List Int):Option (Int×Int×List Int):=
 ((Zeb.l0 ((bits-(0:Int)).toNat+1) (num,bits,0,last,fill,text)).bind fun (o3,o4,o5)=>
 (some (o3,o4,o5)))
def ZdJ (last:Int) (fill:Int) (text:List Int):Option (Int×Int×List Int):=
 (bif (decide (fill>0)) then ((Zeb 0 (w64 (8-fill)) last fill text).bind fun (r,r1,r2)=>
 (some (r,r1,r2))) else
 (some (last,fill,text)))
def Zj8 (s:Str) (at_:Int) (bad:Bool):Option (Int×Str×Int×Bool):=
 (bif (decide (at_≥(w64 (8*(s.length:Int))))) then (some (0,s,at_,true)) else
 (need (decide (0≤(w64 (at_.tdiv 8)))&&decide ((w64 (at_.tdiv 8))<s.length)) ((ZcQ (at_.tmod 8)).bind fun l1Pow_=>
 (need (l1Pow_ != 0) (some (((w64 ((w64 ((s.getD (w64 (at_.tdiv 8)).toNat 0).toNat:Int)).tdiv l1Pow_)).tmod 2),s,(w64 (at_+1)),bad))))))
def Zfc.l0.step (again:(Int×Int×Int×Str×Int×Bool)→Option (Int×Str×Int×Bool)):(Int×Int×Int×Str×Int×Bool)→Option (Int×Str×Int×Bool):=fun (bits1,n,k,o,o1,o2)=>
 (bif (decide (k<bits1)) then ((Zj8 o o1 o2).bind fun (r,r1,r2,r3)=>
 ((ZcQ k).bind fun l1Pow_=>
 (again (bits1,(w64 (n+(w64 (r*l1Pow_)))),(w64 (k+1)),r1,r2,r3)))) else
 (some (n,o,o1,o2)))
def Zfc.l0:=ZaA Zfc.l0.step
theorem Zfc.l0.succ (n:Nat) t:Zfc.l0 (n+1) t=Zfc.l0.step (Zfc.l0 n) t:=rfl
def Zfc (bits:Int) (s:Str) (at_:Int) (bad:Bool):Option (Int×Str×Int×Bool):=
 ((Zfc.l0 ((bits-(0:Int)).toNat+1) (bits,0,0,s,at_,bad)).bind fun (n1,o3,o4,o5)=>
 (some (n1,o3,o4,o5)))
def ZcS.l0.step (again:(Int×Str×Int×Bool)→Option (Int×Str×Int×Bool)):(Int×Str×Int×Bool)→Option (Int×Str×Int×Bool):=fun (n,o,o1,o2)=>
 (bif ((o1.tmod 8) != 0) then ((Zj8 o o1 o2).bind fun (r,r1,r2,r3)=>
 (again ((w64 (n+r)),r1,r2,r3))) else
 (some (n,o,o1,o2)))
def ZcS.l0:=ZaA ZcS.l0.step
theorem ZcS.l0.succ (n:Nat) t:ZcS.l0 (n+1) t=ZcS.l0.step (ZcS.l0 n) t:=rfl
def ZcS (s:Str) (at_:Int) (bad:Bool):Option (Bool×Str×Int×Bool):=
 ((ZcS.l0 (9) (0,s,at_,bad)).bind fun (n1,o3,o4,o5)=>
 (some ((n1==0),o3,o4,o5)))
def Zdg.l0.step (again:(Int×Int×Int×Int)→Option (Int)):(Int×Int×Int×Int)→Option (Int):=fun (num1,bits1,n,k)=>
 (bif (decide (k<bits1)) then (again ((w64 (num1.tdiv 2)),bits1,(w64 ((w64 (2*n))+(num1.tmod 2))),(w64 (k+1)))) else
 (some n))
def Zdg.l0:=ZaA Zdg.l0.step
theorem Zdg.l0.succ (n:Nat) t:Zdg.l0 (n+1) t=Zdg.l0.step (Zdg.l0 n) t:=rfl
def Zdg (num:Int) (bits:Int):Option (Int):=
 ((Zdg.l0 ((bits-(0:Int)).toNat+1) (num,bits,0,0)).bind fun n1=>
 (some n1))
def Zdf.l0.step (again:(Int×Int)→Option (Int)):(Int×Int)→Option (Int):=fun (c1,k)=>
 (bif (decide (k<8)) then (bif ((c1.tmod 2)==1) then (again ((Zly .u32 (IntKind.wrap .u32 (c1.tdiv 2)) 3988292384),(w64 (k+1)))) else
 (again ((IntKind.wrap .u32 (c1.tdiv 2)),(w64 (k+1))))) else
 (some c1))
def Zdf.l0:=ZaA Zdf.l0.step
theorem Zdf.l0.succ (n:Nat) t:Zdf.l0 (n+1) t=Zdf.l0.step (Zdf.l0 n) t:=rfl
def Zdf (c:Int) (b:Int):Option (Int):=
 ((Zdf.l0 ((8-(0:Int)).toNat+1) ((Zly .u32 c (IntKind.wrap .u32 b)),0)).bind fun c2=>
 (some c2))
def Zdl.l0.step (again:(Str×Int×Int)→Option (Int)):(Str×Int×Int)→Option (Int):=fun (text1,c,i)=>
 (bif (decide (i<(text1.length:Int))) then (need (decide (0≤i)&&decide (i<text1.length)) ((Zdf c ((text1.getD i.toNat 0).toNat:Int)).bind fun l2Step_=>
 (again (text1,l2Step_,(w64 (i+1)))))) else
 (some c))
def Zdl.l0:=ZaA Zdl.l0.step
theorem Zdl.l0.succ (n:Nat) t:Zdl.l0 (n+1) t=Zdl.l0.step (Zdl.l0 n) t:=rfl
def Zdl (crc_:Int) (text:Str):Option (Int):=
 ((Zdl.l0 (((text.length:Int)-(0:Int)).toNat+1) (text,(Zly .u32 crc_ 4294967295),0)).bind fun c1=>
 (some (Zly .u32 c1 4294967295)))
def Zdw (text:Str):Option (Int):=
 ((Zdl 0 text).bind fun l2More_=>
 (some (w64 l2More_)))
def ZcL.l0.step (again:(List Int×Int×Int)→Option (Int)):(List Int×Int×Int)→Option (Int):=fun (lens1,n,i)=>
 (bif (decide (i<(lens1.length:Int))) then (need (decide (0≤i)&&decide (i<lens1.length)) (bif (decide ((lens1.getD i.toNat 0)>0)) then (again (lens1,(w64 (n+1)),(w64 (i+1)))) else
 (again (lens1,n,(w64 (i+1)))))) else
 (some n))
def ZcL.l0:=ZaA ZcL.l0.step
theorem ZcL.l0.succ (n:Nat) t:ZcL.l0 (n+1) t=ZcL.l0.step (ZcL.l0 n) t:=rfl
def ZcL (lens:List Int):Option (Int):=
 ((ZcL.l0 (((lens.length:Int)-(0:Int)).toNat+1) (lens,0,0)).bind fun n1=>
 (some n1))
def ZaU.l0.step (again:(List Int×Int×Int)→Option ((List Int×Int)⊕(Bool))):(List Int×Int×Int)→Option ((List Int×Int)⊕(Bool)):=fun (lens1,sum,i)=>
 (bif (decide (i<(lens1.length:Int))) then (need (decide (0≤i)&&decide (i<lens1.length)) ((Zhp (lens1.getD i.toNat 0) 0 15).bind fun l1In_=>
 (bif (!l1In_) then ((some false).map Sum.inr) else
 (need (decide (0≤i)&&decide (i<lens1.length)) (bif (decide ((lens1.getD i.toNat 0)>0)) then (need (decide (0≤i)&&decide (i<lens1.length)) ((ZcQ (w64 (15-(lens1.getD i.toNat 0)))).bind fun l1Pow_=>
 (again (lens1,(w64 (sum+l1Pow_)),(w64 (i+1)))))) else
 (again (lens1,sum,(w64 (i+1))))))))) else
 (some (.inl (lens1,sum))))
def ZaU.l0:=ZaA ZaU.l0.step
theorem ZaU.l0.succ (n:Nat) t:ZaU.l0 (n+1) t=ZaU.l0.step (ZaU.l0 n) t:=rfl
def ZaU (lens:List Int):Option (Bool):=
 ((ZaU.l0 (((lens.length:Int)-(0:Int)).toNat+1) (lens,0,0)).bind fun r=>match r with
 | .inl (lens2,sum1)=>(((ZcL lens2).bind fun l3Used_=>
 (bif (l3Used_==1) then ((ZcQ 14).bind fun l1Pow_1=>
 (some (sum1==l1Pow_1))) else
 (some false))).bind fun one=>
 ((bif (decide ((lens2.length:Int)≤300)) then ((ZcQ 15).bind fun l1Pow_2=>
 (bif (sum1==l1Pow_2) then (some true) else
 (some one))) else
 (some false)).bind fun c=>
 (some c)))
 | .inr r=>some r)
def ZaR.l0.step (again:(List Int×Int×Int×Int×List Int)→Option (List Int×Int×Int×List Int)):(List Int×Int×Int×Int×List Int)→Option (List Int×Int×Int×List Int):=fun (lens2,code_1,n1,i,out1)=>
 (bif (decide (i<(lens2.length:Int))) then (need (decide (0≤i)&&decide (i<lens2.length)) (bif ((lens2.getD i.toNat 0)==n1) then (need (decide (0≤i)&&decide (i<out1.length)) (again (lens2,(w64 (code_1+1)),n1,(w64 (i+1)),(out1.set i.toNat code_1)))) else
 (again (lens2,code_1,n1,(w64 (i+1)),out1)))) else
 (some (lens2,code_1,n1,out1)))
def ZaR.l0:=ZaA ZaR.l0.step
theorem ZaR.l0.succ (n:Nat) t:ZaR.l0 (n+1) t=ZaR.l0.step (ZaR.l0 n) t:=rfl
def ZaR.l1.step (again:(List Int×Int×Int×List Int)→Option (List Int)):(List Int×Int×Int×List Int)→Option (List Int):=fun (lens1,code_,n,out)=>
 (bif (decide (n≤15)) then ((ZaR.l0 (((lens1.length:Int)-(0:Int)).toNat+1) (lens1,code_,n,0,out)).bind fun (lens3,code_2,n2,out2)=>
 (again (lens3,(w64 (2*code_2)),(w64 (n2+1)),out2))) else
 (some out))
def ZaR.l1:=ZaA ZaR.l1.step
theorem ZaR.l1.succ (n:Nat) t:ZaR.l1 (n+1) t=ZaR.l1.step (ZaR.l1 n) t:=rfl
def ZaR (lens:List Int):Option (List Int):=
 (need (decide (0≤(lens.length:Int))&&fits (lens.length:Int).toNat) ((ZaR.l1 ((15-(1:Int)).toNat+2) (lens,0,1,(List.replicate (lens.length:Int).toNat (0:Int)))).bind fun out3=>
 (some out3)))
def Zcb.l0.step (again:((List (Int×Int×List Int))×Int×Int)→Option (Int)):((List (Int×Int×List Int))×Int×Int)→Option (Int):=fun (list1,at_,i)=>
 (bif (decide (i<(list1.length:Int))) then ((need (decide (0≤i)&&decide (i<list1.length)) (need (decide (0≤at_)&&decide (at_<list1.length)) (bif (decide ((list1.getD i.toNat (0,0,[])).1<(list1.getD at_.toNat (0,0,[])).1)) then (some true) else
 (need (decide (0≤i)&&decide (i<list1.length)) (need (decide (0≤at_)&&decide (at_<list1.length)) (bif ((list1.getD i.toNat (0,0,[])).1==(list1.getD at_.toNat (0,0,[])).1) then (need (decide (0≤i)&&decide (i<list1.length)) (need (decide (0≤at_)&&decide (at_<list1.length)) (some (decide ((list1.getD i.toNat (0,0,[])).2.1<(list1.getD at_.toNat (0,0,[])).2.1))))) else
 (some false))))))).bind fun c=>
 (bif c then (again (list1,i,(w64 (i+1)))) else
 (again (list1,at_,(w64 (i+1)))))) else
 (some at_))
def Zcb.l0:=ZaA Zcb.l0.step
theorem Zcb.l0.succ (n:Nat) t:Zcb.l0 (n+1) t=Zcb.l0.step (Zcb.l0 n) t:=rfl
def Zcb (list:List (Int×Int×List Int)):Option (Int):=
 ((Zcb.l0 (((list.length:Int)-(1:Int)).toNat+1) (list,0,1)).bind fun at_1=>
 (some at_1))
def ZfL (list:List (Int×Int×List Int)) (at_:Int):Option (List (Int×Int×List Int)):=
 (need (decide (0≤at_)&&decide (at_≤list.length)) (need (fits (([]:List (Int×Int×List Int)).length+(list.take at_.toNat).length)) (need (decide (0≤(w64 (at_+1)))&&decide ((w64 (at_+1))≤list.length)) (need (fits (([]++(list.take at_.toNat)).length+(list.drop (w64 (at_+1)).toNat).length)) (some (([]++(list.take at_.toNat))++(list.drop (w64 (at_+1)).toNat)))))))
def Zbl.l1.step (again:(Int×Int×List Int×(List (Int×Int×List Int))×Int×Int×List Int×Int×Int×List Int×List Int)→Option (Int×List Int×(List (Int×Int×List Int))×Int×Int×List Int×Int×Int×List Int×List Int)):(Int×Int×List Int×(List (Int×Int×List Int))×Int×Int×List Int×Int×Int×List Int×List Int)→Option (Int×List Int×(List (Int×Int×List Int))×Int×Int×List Int×Int×Int×List Int×List Int):=fun (first1,i1,out5,list5,o6,o7,o8,o9,o10,o11,syms)=>
 (bif (decide (i1<(syms.length:Int))) then (need (decide (0≤i1)&&decide (i1<syms.length)) (need (decide (0≤i1)&&decide (i1<syms.length)) (need (decide (0≤(syms.getD i1.toNat 0))&&decide ((syms.getD i1.toNat 0)<out5.length)) (need (decide (0≤(syms.getD i1.toNat 0))&&decide ((syms.getD i1.toNat 0)<out5.length)) (again (first1,(w64 (i1+1)),(out5.set ((syms.getD i1.toNat 0).toNat) (w64 ((out5.getD ((syms.getD i1.toNat 0).toNat) 0)+1))),list5,o6,o7,o8,o9,o10,o11,syms)))))) else
 (some (first1,out5,list5,o6,o7,o8,o9,o10,o11,syms)))
def Zbl.l1:=ZaA Zbl.l1.step
theorem Zbl.l1.succ (n:Nat) t:Zbl.l1 (n+1) t=Zbl.l1.step (Zbl.l1 n) t:=rfl
def Zbl.l2.step (again:(List Int×List (Int×Int×List Int))→Option (List Int)):(List Int×List (Int×Int×List Int))→Option (List Int):=fun (out3,list3)=>
 (bif (decide ((list3.length:Int)>1)) then ((Zcb list3).bind fun l3Least_=>
 (need (decide (0≤l3Least_)&&decide (l3Least_<list3.length)) ((ZfL list3 l3Least_).bind fun l3Less_=>
 ((Zcb l3Less_).bind fun l3Least_1=>
 (need (decide (0≤l3Least_1)&&decide (l3Least_1<l3Less_.length)) ((ZfL l3Less_ l3Least_1).bind fun l3Less_1=>
 (((bif (decide ((l3Less_.getD l3Least_1.toNat (0,0,[])).2.1<(list3.getD l3Least_.toNat (0,0,[])).2.1)) then (some ((l3Less_.getD l3Least_1.toNat (0,0,[])).2.1,out3,l3Less_1,(list3.getD l3Least_.toNat (0,0,[])).1,(list3.getD l3Least_.toNat (0,0,[])).2.1,(list3.getD l3Least_.toNat (0,0,[])).2.2,(l3Less_.getD l3Least_1.toNat (0,0,[])).1,(l3Less_.getD l3Least_1.toNat (0,0,[])).2.1,(l3Less_.getD l3Least_1.toNat (0,0,[])).2.2)) else
 (some ((list3.getD l3Least_.toNat (0,0,[])).2.1,out3,l3Less_1,(list3.getD l3Least_.toNat (0,0,[])).1,(list3.getD l3Least_.toNat (0,0,[])).2.1,(list3.getD l3Least_.toNat (0,0,[])).2.2,(l3Less_.getD l3Least_1.toNat (0,0,[])).1,(l3Less_.getD l3Least_1.toNat (0,0,[])).2.1,(l3Less_.getD l3Least_1.toNat (0,0,[])).2.2))):Option (Int×List Int×(List (Int×Int×List Int))×Int×Int×List Int×Int×Int×List Int)).bind fun (first,out4,list4,o,o1,o2,o3,o4,o5)=>
 (need (fits (([]:List (Int)).length+o2.length)) (need (fits (([]++o2).length+o5.length)) ((Zbl.l1 ((((([]++o2)++o5).length:Int)-(0:Int)).toNat+1) (first,0,out4,list4,o,o1,o2,o3,o4,o5,(([]++o2)++o5))).bind fun (first2,out6,list6,o12,o13,o14,o15,o16,o17,syms1)=>
 (need (fits (list6.length+([((w64 (o12+o15)),first2,syms1)]:List (Int×Int×List Int)).length)) (again (out6,(list6++[((w64 (o12+o15)),first2,syms1)])))))))))))))) else
 (some out3))
def Zbl.l2:=ZaA Zbl.l2.step
theorem Zbl.l2.succ (n:Nat) t:Zbl.l2 (n+1) t=Zbl.l2.step (Zbl.l2 n) t:=rfl
def Zbl.l0.step (again:(List Int×Int×List Int×List (Int×Int×List Int))→Option (List Int×List (Int×Int×List Int))):(List Int×Int×List Int×List (Int×Int×List Int))→Option (List Int×List (Int×Int×List Int)):=fun (counts1,i,out,list)=>
 (bif (decide (i<(counts1.length:Int))) then (need (decide (0≤i)&&decide (i<counts1.length)) (bif (decide ((counts1.getD i.toNat 0)>0)) then (need (decide (0≤i)&&decide (i<counts1.length)) (need (fits (list.length+([((counts1.getD i.toNat 0),i,[i])]:List (Int×Int×List Int)).length)) (again (counts1,(w64 (i+1)),out,(list++[((counts1.getD i.toNat 0),i,[i])]))))) else
 (again (counts1,(w64 (i+1)),out,list)))) else
 (some (out,list)))
def Zbl.l0:=ZaA Zbl.l0.step
theorem Zbl.l0.succ (n:Nat) t:Zbl.l0 (n+1) t=Zbl.l0.step (Zbl.l0 n) t:=rfl
def Zbl (counts:List Int):Option (List Int):=
 (need (decide (0≤(counts.length:Int))&&fits (counts.length:Int).toNat) ((Zbl.l0 (((counts.length:Int)-(0:Int)).toNat+1) (counts,0,(List.replicate (counts.length:Int).toNat (0:Int)),[])).bind fun (out1,list1)=>
 (((bif ((list1.length:Int)==1) then (need (decide (0≤(0:Int))&&decide ((0:Int)<list1.length)) (need (decide (0≤(list1.getD 0 (0,0,[])).2.1)&&decide ((list1.getD 0 (0,0,[])).2.1<out1.length)) (some ((out1.set (((list1.getD 0 (0,0,[])).2.1).toNat) 1),list1)))) else
 (some (out1,list1))):Option (List Int×List (Int×Int×List Int))).bind fun (out2,list2)=>
 ((Zbl.l2 (((list2.length:Int)-1).toNat+1) (out2,list2)).bind fun out7=>
 (some out7)))))
def Zde.l0.step (again:(List Int×Int×Int)→Option (Int)):(List Int×Int×Int)→Option (Int):=fun (lens1,n,i)=>
 (bif (decide (i<(lens1.length:Int))) then (need (decide (0≤i)&&decide (i<lens1.length)) (bif (decide ((lens1.getD i.toNat 0)>n)) then (need (decide (0≤i)&&decide (i<lens1.length)) (again (lens1,(lens1.getD i.toNat 0),(w64 (i+1))))) else
 (again (lens1,n,(w64 (i+1)))))) else
 (some n))
def Zde.l0:=ZaA Zde.l0.step
theorem Zde.l0.succ (n:Nat) t:Zde.l0 (n+1) t=Zde.l0.step (Zde.l0 n) t:=rfl
def Zde (lens:List Int):Option (Int):=
 ((Zde.l0 (((lens.length:Int)-(0:Int)).toNat+1) (lens,0,0)).bind fun n1=>
 (some n1))
def ZcW.l0.step (again:(Int×Int×List Int)→Option (Int×List Int)):(Int×Int×List Int)→Option (Int×List Int):=fun (most2,i,list1)=>
 (bif (decide (i<(list1.length:Int))) then (need (decide (0≤i)&&decide (i<list1.length)) (need (decide (0≤i)&&decide (i<list1.length)) (again (most2,(w64 (i+1)),(list1.set i.toNat (w64 ((w64 ((list1.getD i.toNat 0)+1)).tdiv 2))))))) else
 (some (most2,list1)))
def ZcW.l0:=ZaA ZcW.l0.step
theorem ZcW.l0.succ (n:Nat) t:ZcW.l0 (n+1) t=ZcW.l0.step (ZcW.l0 n) t:=rfl
def ZcW.l1.step (again:(Int×List Int×List Int)→Option (List Int)):(Int×List Int×List Int)→Option (List Int):=fun (most1,list,out)=>
 ((Zde out).bind fun l3Most_=>
 (bif (decide (l3Most_>most1)) then ((ZcW.l0 (((list.length:Int)-(0:Int)).toNat+1) (most1,0,list)).bind fun (most3,list2)=>
 ((Zbl list2).bind fun l3Lens_1=>
 (again (most3,list2,l3Lens_1)))) else
 (some out)))
def ZcW.l1:=ZaA ZcW.l1.step
theorem ZcW.l1.succ (n:Nat) t:ZcW.l1 (n+1) t=ZcW.l1.step (ZcW.l1 n) t:=rfl
def ZcW (counts:List Int) (most:Int):Option (List Int):=
 (need (fits (([]:List (Int)).length+counts.length)) ((Zbl ([]++counts)).bind fun l3Lens_=>
 ((ZcW.l1 (100000) (most,([]++counts),l3Lens_)).bind fun out1=>
 (some out1))))
def ZeN (lens:List Int) (codes_:List Int) (sym:Int):Option (Int×Int):=
 (need (decide (0≤sym)&&decide (sym<codes_.length)) (need (decide (0≤sym)&&decide (sym<lens.length)) ((Zdg (codes_.getD sym.toNat 0) (lens.getD sym.toNat 0)).bind fun l1Turn_=>
 (need (decide (0≤sym)&&decide (sym<lens.length)) (some (l1Turn_,(lens.getD sym.toNat 0)))))))
def ZaX.l0.step (again:(List Int×List Int×Int×Int×Int×Str×Int×Bool)→Option ((List Int×List Int×Int×Int×Str×Int×Bool)⊕((Str×Int×Bool)⊕(Int×Str×Int×Bool)))):(List Int×List Int×Int×Int×Int×Str×Int×Bool)→Option ((List Int×List Int×Int×Int×Str×Int×Bool)⊕((Str×Int×Bool)⊕(Int×Str×Int×Bool))):=fun (lens2,codes_2,code_1,n1,i,o3,o4,o5)=>
 (bif (decide (i<(lens2.length:Int))) then ((need (decide (0≤i)&&decide (i<lens2.length)) (bif ((lens2.getD i.toNat 0)==n1) then (need (decide (0≤i)&&decide (i<codes_2.length)) (some ((codes_2.getD i.toNat 0)==code_1))) else
 (some false))).bind fun c1=>
 (bif c1 then (((some (i,o3,o4,o5)).map Sum.inr).map Sum.inr) else
 (again (lens2,codes_2,code_1,n1,(w64 (i+1)),o3,o4,o5)))) else
 (some (.inl (lens2,codes_2,code_1,n1,o3,o4,o5))))
def ZaX.l0:=ZaA ZaX.l0.step
theorem ZaX.l0.succ (n:Nat) t:ZaX.l0 (n+1) t=ZaX.l0.step (ZaX.l0 n) t:=rfl
def ZaX.l1.step (again:(List Int×List Int×Int×Int×Str×Int×Bool)→Option ((Str×Int×Bool)⊕(Int×Str×Int×Bool))):(List Int×List Int×Int×Int×Str×Int×Bool)→Option ((Str×Int×Bool)⊕(Int×Str×Int×Bool)):=fun (lens1,codes_1,code_,n,o,o1,o2)=>
 ((bif (decide (n≤15)) then (some (!o2)) else
 (some false)).bind fun c=>
 (bif c then ((Zj8 o o1 o2).bind fun (r,r1,r2,r3)=>
 ((ZaX.l0 (((lens1.length:Int)-(0:Int)).toNat+1) (lens1,codes_1,(w64 ((w64 (2*code_))+r)),n,0,r1,r2,r3)).bind fun r=>match r with
 | .inl (lens3,codes_3,code_2,n2,o6,o7,o8)=>(again (lens3,codes_3,code_2,(w64 (n2+1)),o6,o7,o8))
 | .inr r=>some r)) else
 (some (.inl (o,o1,o2)))))
def ZaX.l1:=ZaA ZaX.l1.step
theorem ZaX.l1.succ (n:Nat) t:ZaX.l1 (n+1) t=ZaX.l1.step (ZaX.l1 n) t:=rfl
def ZaX (lens:List Int) (codes_:List Int) (s:Str) (at_:Int) (bad:Bool):Option (Int×Str×Int×Bool):=
 ((ZaX.l1 ((15-(1:Int)).toNat+2) (lens,codes_,0,1,s,at_,bad)).bind fun r=>match r with
 | .inl (o9,o10,o11)=>(some ((-1),o9,o10,true))
 | .inr r=>some r)
def ZeM.l0.step (again:(Int×List Int×Int×Int×Int)→Option (List Int)):(Int×List Int×Int×Int×Int)→Option (List Int):=fun (i,text1,o,o1,o2)=>
 (bif (decide (i<o1)) then (need (decide (0≤(w64 ((text1.length:Int)-o2)))&&decide ((w64 ((text1.length:Int)-o2))<text1.length)) (need (fits (text1.length+([(text1.getD ((w64 ((text1.length:Int)-o2)).toNat) 0)]:List (Int)).length)) (again ((w64 (i+1)),(text1++[(text1.getD ((w64 ((text1.length:Int)-o2)).toNat) 0)]),o,o1,o2)))) else
 (some text1))
def ZeM.l0:=ZaA ZeM.l0.step
theorem ZeM.l0.succ (n:Nat) t:ZeM.l0 (n+1) t=ZeM.l0.step (ZeM.l0 n) t:=rfl
def ZeM (byte:Int) (long:Int) (back:Int) (text:List Int):Option (Bool×List Int):=
 (bif (long==0) then (need (fits (text.length+([(IntKind.wrap .u8 byte)]:List (Int)).length)) ((Zhp byte 0 255).bind fun l1In_=>
 (bif l1In_ then (some ((back==0),(text++[(IntKind.wrap .u8 byte)]))) else
 (some (false,(text++[(IntKind.wrap .u8 byte)])))))) else
 ((bif (byte != 0) then (some true) else
 ((Zhp long 3 60).bind fun l1In_1=>
 (bif (!l1In_1) then (some true) else
 ((Zhp back 1 250).bind fun l1In_2=>
 (bif (!l1In_2) then (some true) else
 (some (decide (back>(text.length:Int))))))))).bind fun c=>
 (bif c then (some (false,text)) else
 ((ZeM.l0 ((long-(0:Int)).toNat+1) (0,text,byte,long,back)).bind fun text2=>
 (some (true,text2))))))
def Zci.l0.step (again:(Str×Int×Int×Int)→Option (Int)):(Str×Int×Int×Int)→Option (Int):=fun (text1,at_1,back1,n)=>
 ((bif (decide ((w64 (at_1+n))<(text1.length:Int))) then (bif (decide (n<60)) then (need (decide (0≤(w64 (at_1+n)))&&decide ((w64 (at_1+n))<text1.length)) (need (decide (0≤(w64 ((w64 (at_1+n))-back1)))&&decide ((w64 ((w64 (at_1+n))-back1))<text1.length)) (some (((text1.getD (w64 (at_1+n)).toNat 0).toNat:Int)==((text1.getD (w64 ((w64 (at_1+n))-back1)).toNat 0).toNat:Int))))) else
 (some false)) else
 (some false)).bind fun c=>
 (bif c then (again (text1,at_1,back1,(w64 (n+1)))) else
 (some n)))
def Zci.l0:=ZaA Zci.l0.step
theorem Zci.l0.succ (n:Nat) t:Zci.l0 (n+1) t=Zci.l0.step (Zci.l0 n) t:=rfl
def Zci (text:Str) (at_:Int) (back:Int):Option (Int):=
 ((Zci.l0 (62) (text,at_,back,0)).bind fun n1=>
 (some n1))
def ZaO.l0.step (again:(Str×Int×Int×Int×Int×List (Int×Int×Int))→Option (Str×Int×Int×Int×List (Int×Int×Int))):(Str×Int×Int×Int×Int×List (Int×Int×Int))→Option (Str×Int×Int×Int×List (Int×Int×Int)):=fun (text2,at_1,long,far,back,out1)=>
 ((bif (decide (back≤250)) then (some (decide (back≤at_1))) else
 (some false)).bind fun c=>
 (bif c then ((Zci text2 at_1 back).bind fun l4Again_=>
 (bif (decide (l4Again_>long)) then (again (text2,at_1,l4Again_,back,(w64 (back+1)),out1)) else
 (again (text2,at_1,long,far,(w64 (back+1)),out1)))) else
 (some (text2,at_1,long,far,out1))))
def ZaO.l0:=ZaA ZaO.l0.step
theorem ZaO.l0.succ (n:Nat) t:ZaO.l0 (n+1) t=ZaO.l0.step (ZaO.l0 n) t:=rfl
def ZaO.l1.step (again:(Str×Int×List (Int×Int×Int))→Option (List (Int×Int×Int))):(Str×Int×List (Int×Int×Int))→Option (List (Int×Int×Int)):=fun (text1,at_,out)=>
 (bif (decide (at_<(text1.length:Int))) then ((ZaO.l0 ((250-(1:Int)).toNat+2) (text1,at_,0,0,1,out)).bind fun (text3,at_2,long1,far1,out2)=>
 (bif (decide (long1<3)) then (need (decide (0≤at_2)&&decide (at_2<text3.length)) (need (fits (out2.length+([((w64 ((text3.getD at_2.toNat 0).toNat:Int)),0,0)]:List (Int×Int×Int)).length)) (again (text3,(w64 (at_2+1)),(out2++[((w64 ((text3.getD at_2.toNat 0).toNat:Int)),0,0)]))))) else
 (need (fits (out2.length+([(0,long1,far1)]:List (Int×Int×Int)).length)) (again (text3,(w64 (at_2+long1)),(out2++[(0,long1,far1)])))))) else
 (some out))
def ZaO.l1:=ZaA ZaO.l1.step
theorem ZaO.l1.succ (n:Nat) t:ZaO.l1 (n+1) t=ZaO.l1.step (ZaO.l1 n) t:=rfl
def ZaO (text:Str):Option (List (Int×Int×Int)):=
 ((ZaO.l1 (((text.length:Int)-(0:Int)).toNat+1) (text,0,[])).bind fun out3=>
 (some out3))
def ZcV.l0.step (again:(List Int×Int×Int×List Int)→Option (List Int)):(List Int×Int×Int×List Int)→Option (List Int):=fun (extra1,from_1,i,out)=>
 (bif (decide (i<(extra1.length:Int))) then (need (fits (out.length+([from_1]:List (Int)).length)) (need (decide (0≤i)&&decide (i<extra1.length)) ((ZcQ (extra1.getD i.toNat 0)).bind fun l1Pow_=>
 (again (extra1,(w64 (from_1+l1Pow_)),(w64 (i+1)),(out++[from_1])))))) else
 (some out))
def ZcV.l0:=ZaA ZcV.l0.step
def ZcV (extra:List Int) (from_:Int):Option (List Int):=
 ((ZcV.l0 (((extra.length:Int)-(0:Int)).toNat+1) (extra,from_,0,[])).bind fun out1=>
 (some out1))
def Zbd:Option (List Int):=
 (some [0,0,0,0,0,0,0,0,1,1,1,1,2,2,2,2,3,3,3,3,4,4,4,4,5,5,5,5])
def Zbe:Option (List Int):=
 (some [0,0,0,0,1,1,2,2,3,3,4,4,5,5,6,6,7,7,8,8,9,9,10,10,11,11,12,12,13,13])
def Ze6.l0.step (again:(List Int×Int×Int)→Option (Int)):(List Int×Int×Int)→Option (Int):=fun (base1,n1,k)=>
 ((bif (decide ((w64 (k+1))<(base1.length:Int))) then (need (decide (0≤(w64 (k+1)))&&decide ((w64 (k+1))<base1.length)) (some (decide ((base1.getD (w64 (k+1)).toNat 0)≤n1)))) else
 (some false)).bind fun c=>
 (bif c then (again (base1,n1,(w64 (k+1)))) else
 (some k)))
def Ze6.l0:=ZaA Ze6.l0.step
def Ze6 (base:List Int) (n:Int):Option (Int):=
 ((Ze6.l0 ((base.length:Int).toNat+1) (base,n,0)).bind fun k1=>
 (some k1))
def Zc2.l0.step (again:(Int×List Int)→Option (List Int)):(Int×List Int)→Option (List Int):=fun (i,out)=>
 (bif (decide (i<288)) then (bif (decide (i<144)) then (need (fits (out.length+([8]:List (Int)).length)) (again ((w64 (i+1)),(out++[8])))) else
 (bif (decide (i<256)) then (need (fits (out.length+([9]:List (Int)).length)) (again ((w64 (i+1)),(out++[9])))) else
 (bif (decide (i<280)) then (need (fits (out.length+([7]:List (Int)).length)) (again ((w64 (i+1)),(out++[7])))) else
 (need (fits (out.length+([8]:List (Int)).length)) (again ((w64 (i+1)),(out++[8]))))))) else
 (some out))
def Zc2.l0:=ZaA Zc2.l0.step
def Zc2:Option (List Int):=
 ((Zc2.l0 ((288-(0:Int)).toNat+1) (0,[])).bind fun out1=>
 (some out1))
def Zc3.l0.step (again:(Int×List Int)→Option (List Int)):(Int×List Int)→Option (List Int):=fun (i,out)=>
 (bif (decide (i<32)) then (need (fits (out.length+([5]:List (Int)).length)) (again ((w64 (i+1)),(out++[5])))) else
 (some out))
def Zc3.l0:=ZaA Zc3.l0.step
def Zc3:Option (List Int):=
 ((Zc3.l0 ((32-(0:Int)).toNat+1) (0,[])).bind fun out1=>
 (some out1))
def Znt (lens:List Int) (codes_:List Int) (sym:Int) (last:Int) (fill:Int) (text:List Int):Option (Int×Int×List Int):=
 ((ZeN lens codes_ sym).bind fun (r,r1)=>
 ((Zeb r r1 last fill text).bind fun (r2,r3,r4)=>
 (some (r2,r3,r4))))
def ZbR.l0.step (again:((List (Int×Int×Int))×List Int×List Int×Int×Int×Int×List Int×List Int×List Int×List Int×List Int)→Option (List Int×Int×Int×List Int×List Int)):((List (Int×Int×Int))×List Int×List Int×Int×Int×Int×List Int×List Int×List Int×List Int×List Int)→Option (List Int×Int×Int×List Int×List Int):=fun (list1,longs1,backs1,i,o,o1,a,b,long,back,o2)=>
 (bif (decide (i<(list1.length:Int))) then (need (decide (0≤i)&&decide (i<list1.length)) (bif ((list1.getD i.toNat (0,0,0)).2.1==0) then ((Znt longs1 a ((list1.getD i.toNat (0,0,0)).1) o o1 o2).bind fun (r,r1,r2)=>
 (again (list1,longs1,backs1,(w64 (i+1)),r,r1,a,b,long,back,r2))) else
 ((Ze6 long ((list1.getD i.toNat (0,0,0)).2.1)).bind fun l5Sym_=>
 ((Znt longs1 a (w64 (257+l5Sym_)) o o1 o2).bind fun (r3,r4,r5)=>
 (need (decide (0≤l5Sym_)&&decide (l5Sym_<long.length)) ((Zbd).bind fun l5LongBi1=>
 (need (decide (0≤l5Sym_)&&decide (l5Sym_<l5LongBi1.length)) ((Zeb (w64 ((list1.getD i.toNat (0,0,0)).2.1-(long.getD l5Sym_.toNat 0))) (l5LongBi1.getD l5Sym_.toNat 0) r3 r4 r5).bind fun (r6,r7,r8)=>
 ((Ze6 back ((list1.getD i.toNat (0,0,0)).2.2)).bind fun l5Sym_1=>
 ((Znt backs1 b l5Sym_1 r6 r7 r8).bind fun (r9,r10,r11)=>
 (need (decide (0≤l5Sym_1)&&decide (l5Sym_1<back.length)) ((Zbe).bind fun l5BackBi1=>
 (need (decide (0≤l5Sym_1)&&decide (l5Sym_1<l5BackBi1.length)) ((Zeb (w64 ((list1.getD i.toNat (0,0,0)).2.2-(back.getD l5Sym_1.toNat 0))) (l5BackBi1.getD l5Sym_1.toNat 0) r9 r10 r11).bind fun (r12,r13,r14)=>
 (again (list1,longs1,backs1,(w64 (i+1)),r12,r13,a,b,long,back,r14)))))))))))))))) else
 (some (longs1,o,o1,a,o2)))
def ZbR.l0:=ZaA ZbR.l0.step
theorem ZbR.l0.succ (n:Nat) t:ZbR.l0 (n+1) t=ZbR.l0.step (ZbR.l0 n) t:=rfl
def ZbR (list:List (Int×Int×Int)) (longs:List Int) (backs:List Int) (last:Int) (fill:Int) (text:List Int):Option (Int×Int×List Int):=
 ((ZaR longs).bind fun l3Codes_=>
 ((ZaR backs).bind fun l3Codes_1=>
 ((Zbd).bind fun l5LongBi=>
 ((ZcV l5LongBi 3).bind fun l5Base_=>
 ((Zbe).bind fun l5BackBi=>
 ((ZcV l5BackBi 1).bind fun l5Base_1=>
 ((ZbR.l0 (((list.length:Int)-(0:Int)).toNat+1) (list,longs,backs,0,last,fill,l3Codes_,l3Codes_1,l5Base_,l5Base_1,text)).bind fun (longs2,o3,o4,a1,o5)=>
 ((Znt longs2 a1 256 o3 o4 o5).bind fun (r15,r16,r17)=>
 (some (r15,r16,r17))))))))))
def Zeq (text:Str):Option (Str):=
 ((Zeb 1 1 0 0 []).bind fun (r,r1,r2)=>
 ((Zeb 0 2 r r1 r2).bind fun (r3,r4,r5)=>
 ((ZdJ r3 r4 r5).bind fun (r6,r7,r8)=>
 ((Zeb (text.length:Int) 16 r6 r7 r8).bind fun (r9,r10,r11)=>
 ((Zeb (w64 (65535-(text.length:Int))) 16 r9 r10 r11).bind fun (r12,r13,r14)=>
 (need (fits ((Zbu r14).length+text.length)) (some ((Zbu r14)++text))))))))
def Zer (text:Str):Option (Str):=
 ((Zeb 1 1 0 0 []).bind fun (r,r1,r2)=>
 ((Zeb 1 2 r r1 r2).bind fun (r3,r4,r5)=>
 ((ZaO text).bind fun l4Tokens_=>
 ((Zc2).bind fun l5Fixed_=>
 ((Zc3).bind fun l5Fives_=>
 ((ZbR l4Tokens_ l5Fixed_ l5Fives_ r3 r4 r5).bind fun (r6,r7,r8)=>
 ((ZdJ r6 r7 r8).bind fun (r9,r10,r11)=>
 (some (Zbu r11)))))))))
def ZbF.l0.step (again:((List (Int×Int×Int))×Int×List Int×List Int×List Int×List Int)→Option (List Int×List Int)):((List (Int×Int×Int))×Int×List Int×List Int×List Int×List Int)→Option (List Int×List Int):=fun (list1,i,longs,backs,long,back)=>
 (bif (decide (i<(list1.length:Int))) then (need (decide (0≤i)&&decide (i<list1.length)) (bif ((list1.getD i.toNat (0,0,0)).2.1==0) then (need (decide (0≤i)&&decide (i<list1.length)) (need (decide (0≤i)&&decide (i<list1.length)) (need (decide (0≤(list1.getD i.toNat (0,0,0)).1)&&decide ((list1.getD i.toNat (0,0,0)).1<longs.length)) (need (decide (0≤(list1.getD i.toNat (0,0,0)).1)&&decide ((list1.getD i.toNat (0,0,0)).1<longs.length)) (again (list1,(w64 (i+1)),(longs.set (((list1.getD i.toNat (0,0,0)).1).toNat) (w64 ((longs.getD (((list1.getD i.toNat (0,0,0)).1).toNat) 0)+1))),backs,long,back)))))) else
 (need (decide (0≤i)&&decide (i<list1.length)) ((Ze6 long ((list1.getD i.toNat (0,0,0)).2.1)).bind fun l5Sym_=>
 (need (decide (0≤(w64 (257+l5Sym_)))&&decide ((w64 (257+l5Sym_))<longs.length)) (need (decide (0≤(w64 (257+l5Sym_)))&&decide ((w64 (257+l5Sym_))<longs.length)) (need (decide (0≤i)&&decide (i<list1.length)) ((Ze6 back ((list1.getD i.toNat (0,0,0)).2.2)).bind fun l5Sym_1=>
 (need (decide (0≤l5Sym_1)&&decide (l5Sym_1<backs.length)) (need (decide (0≤l5Sym_1)&&decide (l5Sym_1<backs.length)) (again (list1,(w64 (i+1)),(longs.set ((w64 (257+l5Sym_)).toNat) (w64 ((longs.getD ((w64 (257+l5Sym_)).toNat) 0)+1))),(backs.set l5Sym_1.toNat (w64 ((backs.getD l5Sym_1.toNat 0)+1))),long,back)))))))))))) else
 (some (longs,backs)))
def ZbF.l0:=ZaA ZbF.l0.step
theorem ZbF.l0.succ (n:Nat) t:ZbF.l0 (n+1) t=ZbF.l0.step (ZbF.l0 n) t:=rfl
def ZbF (list:List (Int×Int×Int)):Option (List Int×List Int):=
 (need (decide (0≤286)&&fits 286) (need (decide (0≤30)&&fits 30) ((Zbd).bind fun l5LongBi=>
 ((ZcV l5LongBi 3).bind fun l5Base_=>
 ((Zbe).bind fun l5BackBi=>
 ((ZcV l5BackBi 1).bind fun l5Base_1=>
 (need (decide (0≤(256:Int))&&decide ((256:Int)<(List.replicate 286 (0:Int)).length)) ((ZbF.l0 (((list.length:Int)-(0:Int)).toNat+1) (list,0,((List.replicate 286 (0:Int)).set 256 1),(List.replicate 30 (0:Int)),l5Base_,l5Base_1)).bind fun (longs1,backs1)=>
 ((ZcL backs1).bind fun l3Used_=>
 (bif (l3Used_==0) then (need (decide (0≤(0:Int))&&decide ((0:Int)<backs1.length)) (some (longs1,(backs1.set 0 1)))) else
 (some (longs1,backs1))))))))))))
def ZcF.l0.step (again:(List Int×Int×Int)→Option (List Int×Int)):(List Int×Int×Int)→Option (List Int×Int):=fun (lens1,least_1,n)=>
 ((bif (decide (n>least_1)) then (need (decide (0≤(w64 (n-1)))&&decide ((w64 (n-1))<lens1.length)) (some ((lens1.getD (w64 (n-1)).toNat 0)==0))) else
 (some false)).bind fun c=>
 (bif c then (again (lens1,least_1,(w64 (n-1)))) else
 (some (lens1,n))))
def ZcF.l0:=ZaA ZcF.l0.step
theorem ZcF.l0.succ (n:Nat) t:ZcF.l0 (n+1) t=ZcF.l0.step (ZcF.l0 n) t:=rfl
def ZcF (lens:List Int) (least_:Int):Option (List Int):=
 ((ZcF.l0 (((lens.length:Int)-least_).toNat+1) (lens,least_,(lens.length:Int))).bind fun (lens2,n1)=>
 (need (decide (0≤n1)&&decide (n1≤lens2.length)) (some (lens2.take n1.toNat))))
def Zdx:Option (List Int):=
 (some [16,17,18,0,8,7,9,6,10,5,11,4,12,3,13,2,14,1,15])
def Zco.l2.step (again:(Int×Int×Int×List Int×List Int×List Int×List Int)→Option (Int×Int×List Int)):(Int×Int×Int×List Int×List Int×List Int×List Int)→Option (Int×Int×List Int):=fun (i2,o12,o13,all4,lens2,codes_2,o14)=>
 (bif (decide (i2<(all4.length:Int))) then (need (decide (0≤i2)&&decide (i2<all4.length)) ((Znt lens2 codes_2 (all4.getD i2.toNat 0) o12 o13 o14).bind fun (r12,r13,r14)=>
 (again ((w64 (i2+1)),r12,r13,all4,lens2,codes_2,r14)))) else
 (some (o12,o13,o14)))
def Zco.l2:=ZaA Zco.l2.step
theorem Zco.l2.succ (n:Nat) t:Zco.l2 (n+1) t=Zco.l2.step (Zco.l2 n) t:=rfl
def Zco.l1.step (again:(Int×Int×Int×List Int×List Int×List Int×List Int)→Option (Int×Int×List Int×List Int×List Int×List Int)):(Int×Int×Int×List Int×List Int×List Int×List Int)→Option (Int×Int×List Int×List Int×List Int×List Int):=fun (i1,o6,o7,all2,lens,codes_,o8)=>
 (bif (decide (i1<19)) then ((Zdx).bind fun l5Order_=>
 (need (decide (0≤i1)&&decide (i1<l5Order_.length)) (need (decide (0≤(l5Order_.getD i1.toNat 0))&&decide ((l5Order_.getD i1.toNat 0)<lens.length)) ((Zeb (lens.getD ((l5Order_.getD i1.toNat 0).toNat) 0) 3 o6 o7 o8).bind fun (r9,r10,r11)=>
 (again ((w64 (i1+1)),r9,r10,all2,lens,codes_,r11)))))) else
 (some (o6,o7,all2,lens,codes_,o8)))
def Zco.l1:=ZaA Zco.l1.step
theorem Zco.l1.succ (n:Nat) t:Zco.l1 (n+1) t=Zco.l1.step (Zco.l1 n) t:=rfl
def Zco.l0.step (again:(List Int×List Int×Int×Int×Int×List Int×List Int×List Int)→Option (List Int×List Int×Int×Int×List Int×List Int×List Int)):(List Int×List Int×Int×Int×Int×List Int×List Int×List Int)→Option (List Int×List Int×Int×Int×List Int×List Int×List Int):=fun (longs1,backs1,i,o,o1,all,counts,o2)=>
 (bif (decide (i<(all.length:Int))) then (need (decide (0≤i)&&decide (i<all.length)) (need (decide (0≤i)&&decide (i<all.length)) (need (decide (0≤(all.getD i.toNat 0))&&decide ((all.getD i.toNat 0)<counts.length)) (need (decide (0≤(all.getD i.toNat 0))&&decide ((all.getD i.toNat 0)<counts.length)) (again (longs1,backs1,(w64 (i+1)),o,o1,all,(counts.set ((all.getD i.toNat 0).toNat) (w64 ((counts.getD ((all.getD i.toNat 0).toNat) 0)+1))),o2)))))) else
 (some (longs1,backs1,o,o1,all,counts,o2)))
def Zco.l0:=ZaA Zco.l0.step
theorem Zco.l0.succ (n:Nat) t:Zco.l0 (n+1) t=Zco.l0.step (Zco.l0 n) t:=rfl
def Zco (longs:List Int) (backs:List Int) (last:Int) (fill:Int) (text:List Int):Option (Int×Int×List Int):=
 (need (fits (([]:List (Int)).length+longs.length)) (need (fits (([]++longs).length+backs.length)) (need (decide (0≤19)&&fits 19) ((Zco.l0 ((((([]++longs)++backs).length:Int)-(0:Int)).toNat+1) (longs,backs,0,last,fill,(([]++longs)++backs),(List.replicate 19 (0:Int)),text)).bind fun (longs2,backs2,o3,o4,all1,counts1,o5)=>
 ((ZcW counts1 7).bind fun l3Fit_=>
 ((ZaR l3Fit_).bind fun l3Codes_=>
 ((Zeb (w64 ((longs2.length:Int)-257)) 5 o3 o4 o5).bind fun (r,r1,r2)=>
 ((Zeb (w64 ((backs2.length:Int)-1)) 5 r r1 r2).bind fun (r3,r4,r5)=>
 ((Zeb 15 4 r3 r4 r5).bind fun (r6,r7,r8)=>
 ((Zco.l1 ((19-(0:Int)).toNat+1) (0,r6,r7,all1,l3Fit_,l3Codes_,r8)).bind fun (o9,o10,all3,lens1,codes_1,o11)=>
 ((Zco.l2 (((all3.length:Int)-(0:Int)).toNat+1) (0,o9,o10,all3,lens1,codes_1,o11)).bind fun (o15,o16,o17)=>
 (some (o15,o16,o17)))))))))))))
def Zjn (text:Str):Option (Str):=
 ((ZaO text).bind fun l4Tokens_=>
 ((ZbF l4Tokens_).bind fun (r,r1)=>
 ((ZcW r 15).bind fun l3Fit_=>
 ((ZcF l3Fit_ 257).bind fun l5Last_=>
 ((ZcW r1 15).bind fun l3Fit_1=>
 ((ZcF l3Fit_1 1).bind fun l5Last_1=>
 ((Zeb 1 1 0 0 []).bind fun (r2,r3,r4)=>
 ((Zeb 2 2 r2 r3 r4).bind fun (r5,r6,r7)=>
 ((Zco l5Last_ l5Last_1 r5 r6 r7).bind fun (r8,r9,r10)=>
 ((ZbR l4Tokens_ l5Last_ l5Last_1 r8 r9 r10).bind fun (r11,r12,r13)=>
 ((ZdJ r11 r12 r13).bind fun (r14,r15,r16)=>
 (some (Zbu r16)))))))))))))
def Zat.l0.step (again:(Str×Int×List Str)→Option (Str)):(Str×Int×List Str)→Option (Str):=fun (out,i,list)=>
 (bif (decide (i<(list.length:Int))) then (need (decide (0≤i)&&decide (i<list.length)) (bif (decide (((list.getD i.toNat []).length:Int)<(out.length:Int))) then (need (decide (0≤i)&&decide (i<list.length)) (again ((list.getD i.toNat []),(w64 (i+1)),list))) else
 (again (out,(w64 (i+1)),list)))) else
 (some out))
def Zat.l0:=ZaA Zat.l0.step
theorem Zat.l0.succ (n:Nat) t:Zat.l0 (n+1) t=Zat.l0.step (Zat.l0 n) t:=rfl
def Zat (text:Str):Option (Str):=
 (bif (decide ((text.length:Int)>300)) then (some []) else
 ((Zeq text).bind fun l5Store_=>
 ((Zer text).bind fun l5Known_=>
 ((Zjn text).bind fun l5Own_=>
 ((Zat.l0 (((([l5Known_,l5Own_]:List Str).length:Int)-(0:Int)).toNat+1) (l5Store_,0,[l5Known_,l5Own_])).bind fun out1=>
 (some out1))))))
def ZbX.l0.step (again:(Int×Int×Str×Int×Bool×List Int)→Option (Str×Int×Bool×List Int)):(Int×Int×Str×Int×Bool×List Int)→Option (Str×Int×Bool×List Int):=fun (n1,i,o6,o7,o8,text3)=>
 ((bif (decide (i<n1)) then (some (!o8)) else
 (some false)).bind fun c=>
 (bif c then ((Zfc 8 o6 o7 o8).bind fun (r12,r13,r14,r15)=>
 (need (fits (text3.length+([(IntKind.wrap .u8 r12)]:List (Int)).length)) (again (n1,(w64 (i+1)),r13,r14,r15,(text3++[(IntKind.wrap .u8 r12)]))))) else
 (some (o6,o7,o8,text3))))
def ZbX.l0:=ZaA ZbX.l0.step
theorem ZbX.l0.succ (n:Nat) t:ZbX.l0 (n+1) t=ZbX.l0.step (ZbX.l0 n) t:=rfl
def ZbX (s:Str) (at_:Int) (bad:Bool) (text:List Int):Option (Str×Int×Bool×List Int):=
 ((((ZcS s at_ bad).bind fun (r,r1,r2,r3)=>
 (bif (!r) then (some (r1,r2,true,text)) else
 (some (r1,r2,r3,text)))):Option (Str×Int×Bool×List Int)).bind fun (o,o1,o2,text1)=>
 ((Zfc 16 o o1 o2).bind fun (r4,r5,r6,r7)=>
 ((((Zfc 16 r5 r6 r7).bind fun (r8,r9,r10,r11)=>
 (bif (r8 != (w64 (65535-r4))) then (some (r4,r9,r10,true,text1)) else
 (bif (decide (r4>300)) then (some (r4,r9,r10,true,text1)) else
 (some (r4,r9,r10,r11,text1))))):Option (Int×Str×Int×Bool×List Int)).bind fun (n,o3,o4,o5,text2)=>
 ((ZbX.l0 ((n-(0:Int)).toNat+1) (n,0,o3,o4,o5,text2)).bind fun (o9,o10,o11,text4)=>
 (some (o9,o10,o11,text4))))))
def ZfZ (sym:Int) (backs:List Int) (codes_:List Int) (s:Str) (at_:Int) (bad:Bool) (text:List Int):Option (Str×Int×Bool×List Int):=
 ((Zbd).bind fun l5LongBi=>
 (bif (decide ((w64 (sym-257))≥(l5LongBi.length:Int))) then (some (s,at_,true,text)) else
 ((Zbd).bind fun l5LongBi1=>
 ((ZcV l5LongBi1 3).bind fun l5Base_=>
 (need (decide (0≤(w64 (sym-257)))&&decide ((w64 (sym-257))<l5Base_.length)) ((Zbd).bind fun l5LongBi2=>
 (need (decide (0≤(w64 (sym-257)))&&decide ((w64 (sym-257))<l5LongBi2.length)) ((Zfc (l5LongBi2.getD ((w64 (sym-257)).toNat) 0) s at_ bad).bind fun (r,r1,r2,r3)=>
 ((ZaX backs codes_ r1 r2 r3).bind fun (r4,r5,r6,r7)=>
 (bif r7 then (some (r5,r6,true,text)) else
 ((Zbe).bind fun l5BackBi=>
 (bif (decide (r4≥(l5BackBi.length:Int))) then (some (r5,r6,true,text)) else
 ((Zbe).bind fun l5BackBi1=>
 ((ZcV l5BackBi1 1).bind fun l5Base_1=>
 (need (decide (0≤r4)&&decide (r4<l5Base_1.length)) ((Zbe).bind fun l5BackBi2=>
 (need (decide (0≤r4)&&decide (r4<l5BackBi2.length)) ((Zfc (l5BackBi2.getD r4.toNat 0) r5 r6 r7).bind fun (r8,r9,r10,r11)=>
 ((ZeM 0 (w64 ((l5Base_.getD ((w64 (sym-257)).toNat) 0)+r)) (w64 ((l5Base_1.getD r4.toNat 0)+r8)) text).bind fun (r12,r13)=>
 (bif (!r12) then (some (r9,r10,true,r13)) else
 (some (r9,r10,r11,r13))))))))))))))))))))))
def Zb9.l0.step (again:(List Int×List Int×Str×Int×Bool×List Int×List Int×List Int)→Option ((Str×Int×Bool×List Int)⊕(Str×Int×Bool×List Int))):(List Int×List Int×Str×Int×Bool×List Int×List Int×List Int)→Option ((Str×Int×Bool×List Int)⊕(Str×Int×Bool×List Int)):=fun (longs1,backs1,o,o1,o2,text1,a,b)=>
 ((bif (!o2) then (some (decide ((text1.length:Int)≤300))) else
 (some false)).bind fun c=>
 (bif c then ((ZaX longs1 a o o1 o2).bind fun (r,r1,r2,r3)=>
 ((bif r3 then (some true) else
 (some (r==256))).bind fun c1=>
 (bif c1 then ((some (r1,r2,r3,text1)).map Sum.inr) else
 (bif (decide (r<256)) then (need (fits (text1.length+([(IntKind.wrap .u8 r)]:List (Int)).length)) (again (longs1,backs1,r1,r2,r3,(text1++[(IntKind.wrap .u8 r)]),a,b))) else
 ((ZfZ r backs1 b r1 r2 r3 text1).bind fun (r4,r5,r6,r7)=>
 (again (longs1,backs1,r4,r5,r6,r7,a,b))))))) else
 (some (.inl (o,o1,o2,text1)))))
def Zb9.l0:=ZaA Zb9.l0.step
theorem Zb9.l0.succ (n:Nat) t:Zb9.l0 (n+1) t=Zb9.l0.step (Zb9.l0 n) t:=rfl
def Zb9 (longs:List Int) (backs:List Int) (s:Str) (at_:Int) (bad:Bool) (text:List Int):Option (Str×Int×Bool×List Int):=
 ((ZaR longs).bind fun l3Codes_=>
 ((ZaR backs).bind fun l3Codes_1=>
 ((Zb9.l0 (100000) (longs,backs,s,at_,bad,text,l3Codes_,l3Codes_1)).bind fun r=>match r with
 | .inl (o3,o4,o5,text2)=>(some (o3,o4,true,text2))
 | .inr r=>some r)))
def ZdT.l0.step (again:(Int×Int×Int×Str×Int×Bool×List Int)→Option (Str×Int×Bool×List Int)):(Int×Int×Int×Str×Int×Bool×List Int)→Option (Str×Int×Bool×List Int):=fun (last1,n1,i,o3,o4,o5,out2)=>
 ((bif (decide (i<n1)) then (some (!o5)) else
 (some false)).bind fun c1=>
 (bif c1 then (need (fits (out2.length+([last1]:List (Int)).length)) (again (last1,n1,(w64 (i+1)),o3,o4,o5,(out2++[last1])))) else
 (some (o3,o4,o5,out2))))
def ZdT.l0:=ZaA ZdT.l0.step
theorem ZdT.l0.succ (n:Nat) t:ZdT.l0 (n+1) t=ZdT.l0.step (ZdT.l0 n) t:=rfl
def ZdT (sym:Int) (s:Str) (at_:Int) (bad:Bool) (out:List Int):Option (Str×Int×Bool×List Int):=
 ((((bif (sym==16) then (some ((out.length:Int)==0)) else
 (some false)).bind fun c=>
 (bif c then (some (0,0,s,at_,true,out)) else
 (bif (sym==16) then (need (decide (0≤(w64 ((out.length:Int)-1)))&&decide ((w64 ((out.length:Int)-1))<out.length)) ((Zfc 2 s at_ bad).bind fun (r,r1,r2,r3)=>
 (some ((out.getD ((w64 ((out.length:Int)-1)).toNat) 0),(w64 (3+r)),r1,r2,r3,out)))) else
 (bif (sym==17) then ((Zfc 3 s at_ bad).bind fun (r4,r5,r6,r7)=>
 (some (0,(w64 (3+r4)),r5,r6,r7,out))) else
 (bif (sym==18) then ((Zfc 7 s at_ bad).bind fun (r8,r9,r10,r11)=>
 (some (0,(w64 (11+r8)),r9,r10,r11,out))) else
 (some (sym,1,s,at_,bad,out))))))):Option (Int×Int×Str×Int×Bool×List Int)).bind fun (last,n,o,o1,o2,out1)=>
 ((ZdT.l0 ((n-(0:Int)).toNat+1) (last,n,0,o,o1,o2,out1)).bind fun (o6,o7,o8,out3)=>
 (some (o6,o7,o8,out3))))
def Zc1.l1.step (again:(Int×Int×Str×Int×Bool×List Int×List Int×List Int)→Option (Int×Int×Str×Int×Bool×List Int)):(Int×Int×Str×Int×Bool×List Int×List Int×List Int)→Option (Int×Int×Str×Int×Bool×List Int):=fun (long2,back2,o6,o7,o8,lens2,codes_,all)=>
 ((bif (decide ((all.length:Int)<(w64 (long2+back2)))) then (some (!o8)) else
 (some false)).bind fun c1=>
 (bif c1 then ((ZaX lens2 codes_ o6 o7 o8).bind fun (r16,r17,r18,r19)=>
 ((ZdT r16 r17 r18 r19 all).bind fun (r20,r21,r22,r23)=>
 (again (long2,back2,r20,r21,r22,lens2,codes_,r23)))) else
 (some (long2,back2,o6,o7,o8,all))))
def Zc1.l1:=ZaA Zc1.l1.step
theorem Zc1.l1.succ (n:Nat) t:Zc1.l1 (n+1) t=Zc1.l1.step (Zc1.l1 n) t:=rfl
def Zc1.l0.step (again:(Int×Int×Int×Int×Str×Int×Bool×List Int)→Option (Int×Int×Str×Int×Bool×List Int)):(Int×Int×Int×Int×Str×Int×Bool×List Int)→Option (Int×Int×Str×Int×Bool×List Int):=fun (long,back,n,i,o,o1,o2,lens)=>
 (bif (decide (i<n)) then ((Zdx).bind fun l5Order_=>
 (need (decide (0≤i)&&decide (i<l5Order_.length)) ((Zfc 3 o o1 o2).bind fun (r12,r13,r14,r15)=>
 (need (decide (0≤(l5Order_.getD i.toNat 0))&&decide ((l5Order_.getD i.toNat 0)<lens.length)) (again (long,back,n,(w64 (i+1)),r13,r14,r15,(lens.set ((l5Order_.getD i.toNat 0).toNat) r12))))))) else
 (some (long,back,o,o1,o2,lens)))
def Zc1.l0:=ZaA Zc1.l0.step
theorem Zc1.l0.succ (n:Nat) t:Zc1.l0 (n+1) t=Zc1.l0.step (Zc1.l0 n) t:=rfl
def Zc1 (s:Str) (at_:Int) (bad:Bool):Option (List Int×List Int×Str×Int×Bool):=
 ((Zfc 5 s at_ bad).bind fun (r,r1,r2,r3)=>
 ((Zfc 5 r1 r2 r3).bind fun (r4,r5,r6,r7)=>
 ((Zfc 4 r5 r6 r7).bind fun (r8,r9,r10,r11)=>
 (need (decide (0≤19)&&fits 19) ((Zc1.l0 (((w64 (4+r8))-(0:Int)).toNat+1) ((w64 (257+r)),(w64 (1+r4)),(w64 (4+r8)),0,r9,r10,r11,(List.replicate 19 (0:Int)))).bind fun (long1,back1,o3,o4,o5,lens1)=>
 (((ZaU lens1).bind fun LensOk=>
 (bif (!LensOk) then (some true) else
 (bif (decide (long1>286)) then (some true) else
 (some (decide (back1>30)))))).bind fun c=>
 (bif c then (some ([],[],o3,o4,true)) else
 ((ZaR lens1).bind fun l3Codes_=>
 ((Zc1.l1 (((w64 (long1+back1))-(([]:List Int).length:Int)).toNat+1) (long1,back1,o3,o4,o5,lens1,l3Codes_,[])).bind fun (long3,back3,o9,o10,o11,all1)=>
 ((bif o11 then (some true) else
 (bif ((all1.length:Int) != (w64 (long3+back3))) then (some true) else
 (need (decide (0≤long3)&&decide (long3≤all1.length)) ((ZaU ((all1.drop 0).take long3.toNat)).bind fun LensOk1=>
 (bif (!LensOk1) then (some true) else
 (need (decide (0≤long3)&&decide (long3≤all1.length)) ((ZaU ((all1.drop long3.toNat).take (all1.length-long3.toNat))).bind fun LensOk2=>
 (some (!LensOk2))))))))).bind fun c2=>
 (bif c2 then (some ([],[],o9,o10,true)) else
 (need (decide (0≤long3)&&decide (long3≤all1.length)) (need (decide (0≤long3)&&decide (long3≤all1.length)) (some (((all1.drop 0).take long3.toNat),((all1.drop long3.toNat).take (all1.length-long3.toNat)),o9,o10,o11)))))))))))))))
def Zja (s:Str) (at_:Int) (bad:Bool) (text:List Int):Option (Bool×Str×Int×Bool×List Int):=
 ((Zj8 s at_ bad).bind fun (r,r1,r2,r3)=>
 ((Zfc 2 r1 r2 r3).bind fun (r4,r5,r6,r7)=>
 (bif (r4==0) then ((ZbX r5 r6 r7 text).bind fun (r8,r9,r10,r11)=>
 (some ((r==1),r8,r9,r10,r11))) else
 (bif (r4==1) then ((Zc2).bind fun l5Fixed_=>
 ((Zc3).bind fun l5Fives_=>
 ((Zb9 l5Fixed_ l5Fives_ r5 r6 r7 text).bind fun (r12,r13,r14,r15)=>
 (some ((r==1),r12,r13,r14,r15))))) else
 (bif (r4==2) then ((Zc1 r5 r6 r7).bind fun (r16,r17,r18,r19,r20)=>
 (bif (!r20) then ((Zb9 r16 r17 r18 r19 r20 text).bind fun (r21,r22,r23,r24)=>
 (some ((r==1),r21,r22,r23,r24))) else
 (some ((r==1),r18,r19,r20,text)))) else
 (some ((r==1),r5,r6,true,text)))))))
def Zey.l0.step (again:(Bool×Str×Int×Bool×List Int)→Option (Str×Int×Bool×List Int)):(Bool×Str×Int×Bool×List Int)→Option (Str×Int×Bool×List Int):=fun (last,o,o1,o2,out)=>
 ((bif (!last) then (some (!o2)) else
 (some false)).bind fun c=>
 (bif c then ((Zja o o1 o2 out).bind fun (r,r1,r2,r3,r4)=>
 (again (r,r1,r2,r3,r4))) else
 (some (o,o1,o2,out))))
def Zey.l0:=ZaA Zey.l0.step
theorem Zey.l0.succ (n:Nat) t:Zey.l0 (n+1) t=Zey.l0.step (Zey.l0 n) t:=rfl
def Zey (text:Str):Option (Str×Int×Bool):=
 ((Zey.l0 (100000) (false,text,0,false,[])).bind fun (o3,o4,o5,out1)=>
 ((ZcS o3 o4 o5).bind fun (r5,r6,r7,r8)=>
 ((bif r8 then (some true) else
 (bif (!r5) then (some true) else
 (some (decide ((out1.length:Int)>300))))).bind fun c1=>
 (bif c1 then (some ([],0,false)) else
 (some ((Zbu out1),(w64 (r7.tdiv 8)),true))))))
def ZbA (text:Str):Option (Str×Int×Bool):=
 (bif (decide ((text.length:Int)>700)) then (some ([],0,false)) else
 ((Zey text).bind fun (r,r1,r2)=>
 (some (r,r1,r2))))
def ZgG (year:Int) (month:Int):Option (Int):=
 (((bif (month==4) then (some (year,month,(month==4))) else
 (bif (month==6) then (some (year,month,(month==6))) else
 (bif (month==9) then (some (year,month,(month==9))) else
 (some (year,month,(month==11)))))):Option (Int×Int×Bool)).bind fun (year1,t,t1)=>
 (bif t1 then (some 30) else
 (bif (t==2) then ((bif ((year1.tmod 4)==0) then (bif ((year1.tmod 100) != 0) then (some true) else
 (some ((year1.tmod 400)==0))) else
 (some false)).bind fun c=>
 (bif c then (some 29) else
 (some 28))) else
 (some 31))))
def Zbp (y:Int) (mo:Int) (d:Int) (h:Int) (mi:Int) (sec:Int):Option (Bool):=
 (((Zhp y 1980 2107).bind fun l1In_=>
 (bif l1In_ then ((Zhp mo 1 12).bind fun l1In_1=>
 (bif l1In_1 then ((ZgG y mo).bind fun l6Days_=>
 ((Zhp d 1 l6Days_).bind fun l1In_2=>
 (some l1In_2))) else
 (some false))) else
 (some false))).bind fun day=>
 ((bif day then ((Zhp h 0 23).bind fun l1In_3=>
 (bif l1In_3 then ((Zhp mi 0 59).bind fun l1In_4=>
 (bif l1In_4 then ((Zhp sec 0 58).bind fun l1In_5=>
 (bif l1In_5 then (some ((sec.tmod 2)==0)) else
 (some false))) else
 (some false))) else
 (some false))) else
 (some false)).bind fun c=>
 (some c)))
def Zjl (y:Int) (mo:Int) (d:Int) (h:Int) (mi:Int) (sec:Int):Option (Int):=
 (some (w64 ((w64 ((w64 ((w64 ((w64 ((w64 ((w64 ((w64 ((w64 ((w64 ((w64 (y-1980))*16))+mo))*32))+d))*32))+h))*64))+mi))*32))+(w64 (sec.tdiv 2)))))
def Zjm (n:Int):Option (Int×Int×Int×Int×Int×Int):=
 (some ((w64 ((w64 ((w64 ((w64 ((w64 ((w64 (n.tdiv 32)).tdiv 64)).tdiv 32)).tdiv 32)).tdiv 16))+1980)),((w64 ((w64 ((w64 ((w64 (n.tdiv 32)).tdiv 64)).tdiv 32)).tdiv 32)).tmod 16),((w64 ((w64 ((w64 (n.tdiv 32)).tdiv 64)).tdiv 32)).tmod 32),((w64 ((w64 (n.tdiv 32)).tdiv 64)).tmod 32),((w64 (n.tdiv 32)).tmod 64),(w64 (2*(n.tmod 32)))))
def Za5 (name:Str) (y:Int) (mo:Int) (d:Int) (h:Int) (mi:Int) (sec:Int) (text:Str):Option (Bool):=
 (((Zap name).bind fun NameOk=>
 (bif NameOk then ((Zbp y mo d h mi sec).bind fun StampOk=>
 (bif StampOk then (some (decide ((text.length:Int)≤300))) else
 (some false))) else
 (some false))).bind fun c=>
 (some c))
def ZaD.l0.step (again:(Int×Int×Int×List Int)→Option (List Int)):(Int×Int×Int×List Int)→Option (List Int):=fun (n1,many1,i,out)=>
 (bif (decide (i<many1)) then (need (fits (out.length+([(IntKind.wrap .u8 (n1.tmod 256))]:List (Int)).length)) (again ((w64 (n1.tdiv 256)),many1,(w64 (i+1)),(out++[(IntKind.wrap .u8 (n1.tmod 256))])))) else
 (some out))
def ZaD.l0:=ZaA ZaD.l0.step
theorem ZaD.l0.succ (n:Nat) t:ZaD.l0 (n+1) t=ZaD.l0.step (ZaD.l0 n) t:=rfl
def ZaD (n:Int) (many:Int):Option (Str):=
 ((ZaD.l0 ((many-(0:Int)).toNat+1) (n,many,0,[])).bind fun out1=>
 (some (Zbu out1)))
def Zcf.l0.step (again:(Str×Int×Int×Int)→Option (Int)):(Str×Int×Int×Int)→Option (Int):=fun (s1,at_1,n,i)=>
 (bif (decide (i≥0)) then (need (decide (0≤(w64 (at_1+i)))&&decide ((w64 (at_1+i))<s1.length)) (again (s1,at_1,(w64 ((w64 (256*n))+(w64 ((s1.getD (w64 (at_1+i)).toNat 0).toNat:Int)))),(w64 (i-1))))) else
 (some n))
def Zcf.l0:=ZaA Zcf.l0.step
theorem Zcf.l0.succ (n:Nat) t:Zcf.l0 (n+1) t=Zcf.l0.step (Zcf.l0 n) t:=rfl
def Zcf (s:Str) (at_:Int) (many:Int):Option (Int):=
 ((bif (decide (at_<0)) then (some true) else
 (some (decide ((w64 (at_+many))>(s.length:Int))))).bind fun c=>
 (bif c then (some (-1)) else
 ((Zcf.l0 (((w64 (many-1))-0).toNat+2) (s,at_,0,(w64 (many-1)))).bind fun n1=>
 (some n1))))
def Zho (text:Str):Option (Int×Str):=
 ((Zat text).bind fun FlatePut=>
 (bif (decide ((FlatePut.length:Int)<(text.length:Int))) then (some (8,FlatePut)) else
 (some (0,text))))
def ZcP (name:Str) (y:Int) (mo:Int) (d:Int) (h:Int) (mi:Int) (sec:Int) (text:Str):Option (Str):=
 ((Zho text).bind fun (r,r1)=>
 ((ZaD 20 2).bind fun l6Bytes_=>
 ((ZaD 0 2).bind fun l6Bytes_1=>
 (need (fits (l6Bytes_.length+l6Bytes_1.length)) ((ZaD r 2).bind fun l6Bytes_2=>
 (need (fits ((l6Bytes_++l6Bytes_1).length+l6Bytes_2.length)) ((Zjl y mo d h mi sec).bind fun l6Put_=>
 ((ZaD l6Put_ 4).bind fun l6Bytes_3=>
 (need (fits (((l6Bytes_++l6Bytes_1)++l6Bytes_2).length+l6Bytes_3.length)) ((Zdw text).bind fun Crc=>
 ((ZaD Crc 4).bind fun l6Bytes_4=>
 (need (fits ((((l6Bytes_++l6Bytes_1)++l6Bytes_2)++l6Bytes_3).length+l6Bytes_4.length)) ((ZaD (r1.length:Int) 4).bind fun l6Bytes_5=>
 (need (fits (((((l6Bytes_++l6Bytes_1)++l6Bytes_2)++l6Bytes_3)++l6Bytes_4).length+l6Bytes_5.length)) ((ZaD (text.length:Int) 4).bind fun l6Bytes_6=>
 (need (fits ((((((l6Bytes_++l6Bytes_1)++l6Bytes_2)++l6Bytes_3)++l6Bytes_4)++l6Bytes_5).length+l6Bytes_6.length)) ((ZaD (name.length:Int) 2).bind fun l6Bytes_7=>
 (need (fits (((((((l6Bytes_++l6Bytes_1)++l6Bytes_2)++l6Bytes_3)++l6Bytes_4)++l6Bytes_5)++l6Bytes_6).length+l6Bytes_7.length)) ((ZaD 0 2).bind fun l6Bytes_8=>
 (need (fits ((((((((l6Bytes_++l6Bytes_1)++l6Bytes_2)++l6Bytes_3)++l6Bytes_4)++l6Bytes_5)++l6Bytes_6)++l6Bytes_7).length+l6Bytes_8.length)) (some ((((((((l6Bytes_++l6Bytes_1)++l6Bytes_2)++l6Bytes_3)++l6Bytes_4)++l6Bytes_5)++l6Bytes_6)++l6Bytes_7)++l6Bytes_8))))))))))))))))))))))
def Zep (name:Str) (y:Int) (mo:Int) (d:Int) (h:Int) (mi:Int) (sec:Int) (text:Str):Option (Str):=
 ((Zho text).bind fun (r,r1)=>
 ((ZaD 67324752 4).bind fun l6Bytes_=>
 ((ZcP name y mo d h mi sec text).bind fun l6Fields_=>
 (need (fits (l6Bytes_.length+l6Fields_.length)) (need (fits ((l6Bytes_++l6Fields_).length+name.length)) (need (fits (((l6Bytes_++l6Fields_)++name).length+r1.length)) (some (((l6Bytes_++l6Fields_)++name)++r1))))))))
def Zf4 (how:Int) (packed:Str):Option (Str×Bool):=
 (bif (how==0) then (some (packed,true)) else
 ((ZbA packed).bind fun (r,r1,r2)=>
 ((bif r2 then (bif (how==8) then (some (r,(r1==(packed.length:Int)))) else
 (some (r,false))) else
 (some (r,false))).bind fun (c,c1)=>
 (some (c,c1)))))
def ZeC (text:Str):Option (Str×Int×Int×Int×Int×Int×Int×Str×Int×Bool):=
 ((Zcf text 26 2).bind fun l6Num_=>
 ((Zcf text 18 4).bind fun l6Num_1=>
 (((Zcf text 0 4).bind fun l6Num_2=>
 (bif (l6Num_2==67324752) then ((Zcf text 4 2).bind fun l6Num_3=>
 (bif (l6Num_3==20) then ((Zcf text 6 2).bind fun l6Num_4=>
 (bif (l6Num_4==0) then ((Zcf text 28 2).bind fun l6Num_5=>
 (some (l6Num_5==0))) else
 (some false))) else
 (some false))) else
 (some false))).bind fun head=>
 ((bif (!head) then (some true) else
 (bif (decide (l6Num_<0)) then (some true) else
 (bif (decide (l6Num_1<0)) then (some true) else
 (some (decide ((w64 ((w64 (30+l6Num_))+l6Num_1))>(text.length:Int))))))).bind fun c=>
 (bif c then (some ([],0,0,0,0,0,0,[],0,false)) else
 (need (decide (0≤(w64 (30+l6Num_)))&&decide ((w64 (30+l6Num_))≤text.length)) (need (decide (0≤(30:Int))&&decide ((30:Int)≤(w64 (30+l6Num_)))) ((Zcf text 10 4).bind fun l6Num_6=>
 ((Zjm l6Num_6).bind fun (r,r1,r2,r3,r4,r5)=>
 ((Zcf text 8 2).bind fun l6Num_7=>
 (need (decide (0≤(w64 ((w64 (30+l6Num_))+l6Num_1)))&&decide ((w64 ((w64 (30+l6Num_))+l6Num_1))≤text.length)) (need (decide (0≤(w64 (30+l6Num_)))&&decide ((w64 (30+l6Num_))≤(w64 ((w64 (30+l6Num_))+l6Num_1)))) ((Zf4 l6Num_7 ((text.take (w64 ((w64 (30+l6Num_))+l6Num_1)).toNat).drop (w64 (30+l6Num_)).toNat)).bind fun (r6,r7)=>
 ((bif r7 then ((Zcf text 14 4).bind fun l6Num_8=>
 ((Zdw r6).bind fun Crc=>
 (bif (l6Num_8==Crc) then ((Zcf text 22 4).bind fun l6Num_9=>
 (some (l6Num_9==(r6.length:Int)))) else
 (some false)))) else
 (some false)).bind fun ok=>
 (bif ok then ((Za5 ((text.take (w64 (30+l6Num_)).toNat).drop 30) r r1 r2 r3 r4 r5 r6).bind fun EntryOk=>
 (some (((text.take (w64 (30+l6Num_)).toNat).drop 30),r,r1,r2,r3,r4,r5,r6,(w64 ((w64 (30+l6Num_))+l6Num_1)),EntryOk))) else
 (some (((text.take (w64 (30+l6Num_)).toNat).drop 30),r,r1,r2,r3,r4,r5,r6,(w64 ((w64 (30+l6Num_))+l6Num_1)),false)))))))))))))))))
def Zkn.l0.step (again:((List (Str×Int×Int×Int×Int×Int×Int×Str))×Str×Int)→Option ((Unit)⊕(Int))):((List (Str×Int×Int×Int×Int×Int×Int×Str))×Str×Int)→Option ((Unit)⊕(Int)):=fun (list1,name1,i)=>
 (bif (decide (i<(list1.length:Int))) then (need (decide (0≤i)&&decide (i<list1.length)) (bif ((list1.getD i.toNat ([],0,0,0,0,0,0,[])).1==name1) then ((some i).map Sum.inr) else
 (again (list1,name1,(w64 (i+1)))))) else
 (some (.inl ())))
def Zkn.l0:=ZaA Zkn.l0.step
theorem Zkn.l0.succ (n:Nat) t:Zkn.l0 (n+1) t=Zkn.l0.step (Zkn.l0 n) t:=rfl
def Zkn (list:List (Str×Int×Int×Int×Int×Int×Int×Str)) (name:Str):Option (Int):=
 ((Zkn.l0 (((list.length:Int)-(0:Int)).toNat+1) (list,name,0)).bind fun r=>match r with
 | .inl _=>(some (-1))
 | .inr r=>some r)
def ZaJ.l0.step (again:((List (Str×Int×Int×Int×Int×Int×Int×Str))×Int×Int)→Option (((List (Str×Int×Int×Int×Int×Int×Int×Str))×Int)⊕((List (Str×Int×Int×Int×Int×Int×Int×Str))⊕(Bool)))):((List (Str×Int×Int×Int×Int×Int×Int×Str))×Int×Int)→Option (((List (Str×Int×Int×Int×Int×Int×Int×Str))×Int)⊕((List (Str×Int×Int×Int×Int×Int×Int×Str))⊕(Bool))):=fun (list2,i1,k)=>
 (bif (decide (k<(list2.length:Int))) then (need (decide (0≤i1)&&decide (i1<list2.length)) (need (decide (0≤k)&&decide (k<list2.length)) ((Zca ((list2.getD i1.toNat ([],0,0,0,0,0,0,[])).1) ((list2.getD k.toNat ([],0,0,0,0,0,0,[])).1)).bind fun l7Under_=>
 (bif l7Under_ then (((some false).map Sum.inr).map Sum.inr) else
 (again (list2,i1,(w64 (k+1)))))))) else
 (some (.inl (list2,i1))))
def ZaJ.l0:=ZaA ZaJ.l0.step
theorem ZaJ.l0.succ (n:Nat) t:ZaJ.l0 (n+1) t=ZaJ.l0.step (ZaJ.l0 n) t:=rfl
def ZaJ.l1.step (again:((List (Str×Int×Int×Int×Int×Int×Int×Str))×Int)→Option ((List (Str×Int×Int×Int×Int×Int×Int×Str))⊕(Bool))):((List (Str×Int×Int×Int×Int×Int×Int×Str))×Int)→Option ((List (Str×Int×Int×Int×Int×Int×Int×Str))⊕(Bool)):=fun (list1,i)=>
 (bif (decide (i<(list1.length:Int))) then ((need (decide (0≤i)&&decide (i<list1.length)) ((Za5 ((list1.getD i.toNat ([],0,0,0,0,0,0,[])).1) ((list1.getD i.toNat ([],0,0,0,0,0,0,[])).2.1) ((list1.getD i.toNat ([],0,0,0,0,0,0,[])).2.2.1) ((list1.getD i.toNat ([],0,0,0,0,0,0,[])).2.2.2.1) ((list1.getD i.toNat ([],0,0,0,0,0,0,[])).2.2.2.2.1) ((list1.getD i.toNat ([],0,0,0,0,0,0,[])).2.2.2.2.2.1) ((list1.getD i.toNat ([],0,0,0,0,0,0,[])).2.2.2.2.2.2.1) ((list1.getD i.toNat ([],0,0,0,0,0,0,[])).2.2.2.2.2.2.2)).bind fun EntryOk=>
 (bif (!EntryOk) then (some true) else
 (need (decide (0≤i)&&decide (i<list1.length)) ((Zkn list1 ((list1.getD i.toNat ([],0,0,0,0,0,0,[])).1)).bind fun l7At_=>
 (some (l7At_ != i))))))).bind fun c=>
 (bif c then ((some false).map Sum.inr) else
 ((ZaJ.l0 (((list1.length:Int)-(0:Int)).toNat+1) (list1,i,0)).bind fun r=>match r with
 | .inl (list3,i2)=>(again (list3,(w64 (i2+1))))
 | .inr r=>some r))) else
 (some (.inl list1)))
def ZaJ.l1:=ZaA ZaJ.l1.step
theorem ZaJ.l1.succ (n:Nat) t:ZaJ.l1 (n+1) t=ZaJ.l1.step (ZaJ.l1 n) t:=rfl
def ZaJ (list:List (Str×Int×Int×Int×Int×Int×Int×Str)):Option (Bool):=
 ((ZaJ.l1 (((list.length:Int)-(0:Int)).toNat+1) (list,0)).bind fun r=>match r with
 | .inl list4=>(some (decide ((list4.length:Int)≤6)))
 | .inr r=>some r)
def ZcU (name:Str) (y:Int) (mo:Int) (d:Int) (h:Int) (mi:Int) (sec:Int) (text:Str) (at_:Int):Option (Str):=
 ((ZaD 33639248 4).bind fun l6Bytes_=>
 ((ZaD 20 2).bind fun l6Bytes_1=>
 (need (fits (l6Bytes_.length+l6Bytes_1.length)) ((ZcP name y mo d h mi sec text).bind fun l6Fields_=>
 (need (fits ((l6Bytes_++l6Bytes_1).length+l6Fields_.length)) ((ZaD 0 2).bind fun l6Bytes_2=>
 (need (fits (((l6Bytes_++l6Bytes_1)++l6Fields_).length+l6Bytes_2.length)) ((ZaD 0 2).bind fun l6Bytes_3=>
 (need (fits ((((l6Bytes_++l6Bytes_1)++l6Fields_)++l6Bytes_2).length+l6Bytes_3.length)) ((ZaD 0 2).bind fun l6Bytes_4=>
 (need (fits (((((l6Bytes_++l6Bytes_1)++l6Fields_)++l6Bytes_2)++l6Bytes_3).length+l6Bytes_4.length)) ((ZaD 0 4).bind fun l6Bytes_5=>
 (need (fits ((((((l6Bytes_++l6Bytes_1)++l6Fields_)++l6Bytes_2)++l6Bytes_3)++l6Bytes_4).length+l6Bytes_5.length)) ((ZaD at_ 4).bind fun l6Bytes_6=>
 (need (fits (((((((l6Bytes_++l6Bytes_1)++l6Fields_)++l6Bytes_2)++l6Bytes_3)++l6Bytes_4)++l6Bytes_5).length+l6Bytes_6.length)) (need (fits ((((((((l6Bytes_++l6Bytes_1)++l6Fields_)++l6Bytes_2)++l6Bytes_3)++l6Bytes_4)++l6Bytes_5)++l6Bytes_6).length+name.length)) (some ((((((((l6Bytes_++l6Bytes_1)++l6Fields_)++l6Bytes_2)++l6Bytes_3)++l6Bytes_4)++l6Bytes_5)++l6Bytes_6)++name))))))))))))))))))
def Zhn (many:Int) (long:Int) (at_:Int):Option (Str):=
 ((ZaD 101010256 4).bind fun l6Bytes_=>
 ((ZaD 0 2).bind fun l6Bytes_1=>
 (need (fits (l6Bytes_.length+l6Bytes_1.length)) ((ZaD 0 2).bind fun l6Bytes_2=>
 (need (fits ((l6Bytes_++l6Bytes_1).length+l6Bytes_2.length)) ((ZaD many 2).bind fun l6Bytes_3=>
 (need (fits (((l6Bytes_++l6Bytes_1)++l6Bytes_2).length+l6Bytes_3.length)) ((ZaD many 2).bind fun l6Bytes_4=>
 (need (fits ((((l6Bytes_++l6Bytes_1)++l6Bytes_2)++l6Bytes_3).length+l6Bytes_4.length)) ((ZaD long 4).bind fun l6Bytes_5=>
 (need (fits (((((l6Bytes_++l6Bytes_1)++l6Bytes_2)++l6Bytes_3)++l6Bytes_4).length+l6Bytes_5.length)) ((ZaD at_ 4).bind fun l6Bytes_6=>
 (need (fits ((((((l6Bytes_++l6Bytes_1)++l6Bytes_2)++l6Bytes_3)++l6Bytes_4)++l6Bytes_5).length+l6Bytes_6.length)) ((ZaD 0 2).bind fun l6Bytes_7=>
 (need (fits (((((((l6Bytes_++l6Bytes_1)++l6Bytes_2)++l6Bytes_3)++l6Bytes_4)++l6Bytes_5)++l6Bytes_6).length+l6Bytes_7.length)) (some (((((((l6Bytes_++l6Bytes_1)++l6Bytes_2)++l6Bytes_3)++l6Bytes_4)++l6Bytes_5)++l6Bytes_6)++l6Bytes_7)))))))))))))))))
def Zd6.l0.step (again:((List (Str×Int×Int×Int×Int×Int×Int×Str))×Str×Str×Int)→Option ((List (Str×Int×Int×Int×Int×Int×Int×Str))×Str×Str)):((List (Str×Int×Int×Int×Int×Int×Int×Str))×Str×Str×Int)→Option ((List (Str×Int×Int×Int×Int×Int×Int×Str))×Str×Str):=fun (list1,out,heads,i)=>
 (bif (decide (i<(list1.length:Int))) then (need (decide (0≤i)&&decide (i<list1.length)) ((ZcU ((list1.getD i.toNat ([],0,0,0,0,0,0,[])).1) ((list1.getD i.toNat ([],0,0,0,0,0,0,[])).2.1) ((list1.getD i.toNat ([],0,0,0,0,0,0,[])).2.2.1) ((list1.getD i.toNat ([],0,0,0,0,0,0,[])).2.2.2.1) ((list1.getD i.toNat ([],0,0,0,0,0,0,[])).2.2.2.2.1) ((list1.getD i.toNat ([],0,0,0,0,0,0,[])).2.2.2.2.2.1) ((list1.getD i.toNat ([],0,0,0,0,0,0,[])).2.2.2.2.2.2.1) ((list1.getD i.toNat ([],0,0,0,0,0,0,[])).2.2.2.2.2.2.2) (out.length:Int)).bind fun l7Centra=>
 (need (fits (heads.length+l7Centra.length)) (need (decide (0≤i)&&decide (i<list1.length)) ((Zep ((list1.getD i.toNat ([],0,0,0,0,0,0,[])).1) ((list1.getD i.toNat ([],0,0,0,0,0,0,[])).2.1) ((list1.getD i.toNat ([],0,0,0,0,0,0,[])).2.2.1) ((list1.getD i.toNat ([],0,0,0,0,0,0,[])).2.2.2.1) ((list1.getD i.toNat ([],0,0,0,0,0,0,[])).2.2.2.2.1) ((list1.getD i.toNat ([],0,0,0,0,0,0,[])).2.2.2.2.2.1) ((list1.getD i.toNat ([],0,0,0,0,0,0,[])).2.2.2.2.2.2.1) ((list1.getD i.toNat ([],0,0,0,0,0,0,[])).2.2.2.2.2.2.2)).bind fun l6Local_=>
 (need (fits (out.length+l6Local_.length)) (again (list1,(out++l6Local_),(heads++l7Centra),(w64 (i+1)))))))))) else
 (some (list1,out,heads)))
def Zd6.l0:=ZaA Zd6.l0.step
theorem Zd6.l0.succ (n:Nat) t:Zd6.l0 (n+1) t=Zd6.l0.step (Zd6.l0 n) t:=rfl
def Zd6 (list:List (Str×Int×Int×Int×Int×Int×Int×Str)):Option (Str):=
 ((Zd6.l0 (((list.length:Int)-(0:Int)).toNat+1) (list,[],[],0)).bind fun (list2,out1,heads1)=>
 (need (fits (out1.length+heads1.length)) ((Zhn (list2.length:Int) (heads1.length:Int) (out1.length:Int)).bind fun l7End_=>
 (need (fits ((out1++heads1).length+l7End_.length)) (some ((out1++heads1)++l7End_))))))
def Ze5.l0.step (again:(Str×Int×Int×Int×List (Str×Int×Int×Int×Int×Int×Int×Str))→Option ((Int×List (Str×Int×Int×Int×Int×Int×Int×Str))⊕(Int×Bool×List (Str×Int×Int×Int×Int×Int×Int×Str)))):(Str×Int×Int×Int×List (Str×Int×Int×Int×Int×Int×Int×Str))→Option ((Int×List (Str×Int×Int×Int×Int×Int×Int×Str))⊕(Int×Bool×List (Str×Int×Int×Int×Int×Int×Int×Str))):=fun (text1,many1,at_,i,out)=>
 (bif (decide (i<many1)) then (need (decide (0≤at_)&&decide (at_≤text1.length)) ((ZeC (text1.drop at_.toNat)).bind fun (r,r1,r2,r3,r4,r5,r6,r7,r8,r9)=>
 (bif (!r9) then ((some (at_,false,out)).map Sum.inr) else
 (need (fits (out.length+([(r,r1,r2,r3,r4,r5,r6,r7)]:List (Str×Int×Int×Int×Int×Int×Int×Str)).length)) (again (text1,many1,(w64 (at_+r8)),(w64 (i+1)),(out++[(r,r1,r2,r3,r4,r5,r6,r7)]))))))) else
 (some (.inl (at_,out))))
def Ze5.l0:=ZaA Ze5.l0.step
theorem Ze5.l0.succ (n:Nat) t:Ze5.l0 (n+1) t=Ze5.l0.step (Ze5.l0 n) t:=rfl
def Ze5 (text:Str) (many:Int):Option (Int×Bool×List (Str×Int×Int×Int×Int×Int×Int×Str)):=
 ((Ze5.l0 ((many-(0:Int)).toNat+1) (text,many,0,0,[])).bind fun r=>match r with
 | .inl (at_1,out1)=>(some (at_1,true,out1))
 | .inr r=>some r)
def Zf3 (text:Str) (head:Int) (at_:Int):Option (Int×Bool):=
 ((Zcf text (w64 (head+28)) 2).bind fun l6Num_=>
 ((bif (decide (l6Num_<0)) then (some true) else
 (bif (decide ((w64 (head+(w64 (46+l6Num_))))>(text.length:Int))) then (some true) else
 (some (decide ((w64 ((w64 (at_+30))+l6Num_))>(text.length:Int)))))).bind fun c=>
 (bif c then (some (0,false)) else
 ((need (decide (0≤(w64 (head+32)))&&decide ((w64 (head+32))≤text.length)) (need (decide (0≤(w64 (head+6)))&&decide ((w64 (head+6))≤(w64 (head+32)))) (need (decide (0≤(w64 (at_+30)))&&decide ((w64 (at_+30))≤text.length)) (need (decide (0≤(w64 (at_+4)))&&decide ((w64 (at_+4))≤(w64 (at_+30)))) (bif (((text.take (w64 (head+32)).toNat).drop (w64 (head+6)).toNat)==((text.take (w64 (at_+30)).toNat).drop (w64 (at_+4)).toNat)) then (need (decide (0≤(w64 (head+(w64 (46+l6Num_)))))&&decide ((w64 (head+(w64 (46+l6Num_))))≤text.length)) (need (decide (0≤(w64 (head+46)))&&decide ((w64 (head+46))≤(w64 (head+(w64 (46+l6Num_)))))) (need (decide (0≤(w64 ((w64 (at_+30))+l6Num_)))&&decide ((w64 ((w64 (at_+30))+l6Num_))≤text.length)) (need (decide (0≤(w64 (at_+30)))&&decide ((w64 (at_+30))≤(w64 ((w64 (at_+30))+l6Num_)))) (some (((text.take (w64 (head+(w64 (46+l6Num_)))).toNat).drop (w64 (head+46)).toNat)==((text.take (w64 ((w64 (at_+30))+l6Num_)).toNat).drop (w64 (at_+30)).toNat))))))) else
 (some false)))))).bind fun same=>
 ((need (decide (0≤(w64 (head+6)))&&decide ((w64 (head+6))≤text.length)) (need (decide (0≤head)&&decide (head≤(w64 (head+6)))) ((ZaD 33639248 4).bind fun l6Bytes_=>
 ((ZaD 20 2).bind fun l6Bytes_1=>
 (need (fits (l6Bytes_.length+l6Bytes_1.length)) (bif (((text.take (w64 (head+6)).toNat).drop head.toNat)==(l6Bytes_++l6Bytes_1)) then (need (decide (0≤(w64 (head+46)))&&decide ((w64 (head+46))≤text.length)) (need (decide (0≤(w64 (head+32)))&&decide ((w64 (head+32))≤(w64 (head+46)))) ((ZaD 0 10).bind fun l6Bytes_2=>
 ((ZaD at_ 4).bind fun l6Bytes_3=>
 (need (fits (l6Bytes_2.length+l6Bytes_3.length)) (some (((text.take (w64 (head+46)).toNat).drop (w64 (head+32)).toNat)==(l6Bytes_2++l6Bytes_3)))))))) else
 (some false))))))).bind fun rest=>
 ((bif same then (some ((w64 (46+l6Num_)),rest)) else
 (some ((w64 (46+l6Num_)),false))).bind fun (c1,c2)=>
 (some (c1,c2))))))))
def Za1.l0.step (again:(Str×Int×Int×Int×Int×Int×List (Str×Int×Int×Int×Int×Int×Int×Str))→Option ((Str×Int×Int×Int×List (Str×Int×Int×Int×Int×Int×Int×Str))⊕(Bool×List (Str×Int×Int×Int×Int×Int×Int×Str)))):(Str×Int×Int×Int×Int×Int×List (Str×Int×Int×Int×Int×Int×Int×Str))→Option ((Str×Int×Int×Int×List (Str×Int×Int×Int×Int×Int×Int×Str))⊕(Bool×List (Str×Int×Int×Int×Int×Int×Int×Str))):=fun (text1,many,at_,head,own,i,list)=>
 (bif (decide (i<many)) then ((Zf3 text1 head own).bind fun (r3,r4)=>
 (bif (!r4) then ((some (false,[])).map Sum.inr) else
 (need (decide (0≤own)&&decide (own≤text1.length)) ((ZeC (text1.drop own.toNat)).bind fun (r5,r6,r7,r8,r9,r10,r11,r12,r13,r14)=>
 (again (text1,many,at_,(w64 (head+r3)),(w64 (own+r13)),(w64 (i+1)),list)))))) else
 (some (.inl (text1,many,at_,head,list))))
def Za1.l0:=ZaA Za1.l0.step
theorem Za1.l0.succ (n:Nat) t:Za1.l0 (n+1) t=Za1.l0.step (Za1.l0 n) t:=rfl
def Za1 (text:Str):Option (Bool×List (Str×Int×Int×Int×Int×Int×Int×Str)):=
 ((Zcf text (w64 ((text.length:Int)-12)) 2).bind fun l6Num_=>
 ((Zhp l6Num_ 0 6).bind fun l1In_=>
 (bif (!l1In_) then (some (false,[])) else
 ((Ze5 text l6Num_).bind fun (r,r1,r2)=>
 ((bif (!r1) then (some true) else
 ((ZaJ r2).bind fun ZipOk=>
 (some (!ZipOk)))).bind fun c=>
 (bif c then (some (false,[])) else
 ((Za1.l0 ((l6Num_-(0:Int)).toNat+1) (text,l6Num_,r,r,0,0,r2)).bind fun r=>match r with
 | .inl (text2,many1,at_1,head1,list1)=>(need (decide (0≤head1)&&decide (head1≤text2.length)) ((Zhn many1 (w64 (head1-at_1)) at_1).bind fun l7End_=>
 (bif (!((text2.drop head1.toNat)==l7End_)) then (some (false,[])) else
 (some (true,list1)))))
 | .inr r=>some r)))))))
def Zch.l0.step (again:((List (Str×Int×Int×Int×Int×Int×Int×Str))×Str×Int)→Option ((Unit)⊕(Bool))):((List (Str×Int×Int×Int×Int×Int×Int×Str))×Str×Int)→Option ((Unit)⊕(Bool)):=fun (list1,name1,i)=>
 (bif (decide (i<(list1.length:Int))) then ((need (decide (0≤i)&&decide (i<list1.length)) (bif ((list1.getD i.toNat ([],0,0,0,0,0,0,[])).1==name1) then (some true) else
 (need (decide (0≤i)&&decide (i<list1.length)) ((Zca ((list1.getD i.toNat ([],0,0,0,0,0,0,[])).1) name1).bind fun l7Under_=>
 (bif l7Under_ then (some true) else
 (need (decide (0≤i)&&decide (i<list1.length)) ((Zca name1 ((list1.getD i.toNat ([],0,0,0,0,0,0,[])).1)).bind fun l7Under_1=>
 (some l7Under_1)))))))).bind fun c=>
 (bif c then ((some true).map Sum.inr) else
 (again (list1,name1,(w64 (i+1)))))) else
 (some (.inl ())))
def Zch.l0:=ZaA Zch.l0.step
theorem Zch.l0.succ (n:Nat) t:Zch.l0 (n+1) t=Zch.l0.step (Zch.l0 n) t:=rfl
def Zch (list:List (Str×Int×Int×Int×Int×Int×Int×Str)) (name:Str):Option (Bool):=
 ((Zch.l0 (((list.length:Int)-(0:Int)).toNat+1) (list,name,0)).bind fun r=>match r with
 | .inl _=>(some false)
 | .inr r=>some r)
def Zjk (name:Str) (y:Int) (mo:Int) (d:Int) (h:Int) (mi:Int) (sec:Int) (text:Str) (list:List (Str×Int×Int×Int×Int×Int×Int×Str)):Option (Int×List (Str×Int×Int×Int×Int×Int×Int×Str)):=
 ((Za5 name y mo d h mi sec text).bind fun EntryOk=>
 (bif (!EntryOk) then (some (1,list)) else
 ((Zch list name).bind fun l8Clash_=>
 (bif l8Clash_ then (some (3,list)) else
 (bif (decide ((list.length:Int)≥6)) then (some (4,list)) else
 (need (fits (([]:List (Str×Int×Int×Int×Int×Int×Int×Str)).length+list.length)) (need (fits (([]++list).length+([(name,y,mo,d,h,mi,sec,text)]:List (Str×Int×Int×Int×Int×Int×Int×Str)).length)) (some (0,(([]++list)++[(name,y,mo,d,h,mi,sec,text)]))))))))))
def ZdF.l0.step (again:((List (Str×Str))×Int×Str×Str)→Option ((List (Str×Str))×Int×Str×Str)):((List (Str×Str))×Int×Str×Str)→Option ((List (Str×Str))×Int×Str×Str):=fun (t,k,o,o1)=>
 ((bif (decide (k<(t.length:Int))) then (need (decide (0≤k)&&decide (k<t.length)) (some (Op.bytesLess ((t.getD k.toNat ([],[])).1) o))) else
 (some false)).bind fun c=>
 (bif c then (again (t,(w64 (k+1)),o,o1)) else
 (some (t,k,o,o1))))
def ZdF.l0:=ZaA ZdF.l0.step
def ZdF (xs:List (Str×Str)) (path:Str) (text:Str):Option (List (Str×Str)):=
 ((ZdF.l0 (((xs.length:Int)-(0:Int)).toNat+1) (xs,0,path,text)).bind fun (t1,k1,o2,o3)=>
 ((bif (decide (k1<(t1.length:Int))) then (need (decide (0≤k1)&&decide (k1<t1.length)) (some ((t1.getD k1.toNat ([],[])).1==o2))) else
 (some false)).bind fun c1=>
 (bif c1 then (need (decide (0≤k1)&&decide (k1≤t1.length)) (need (fits (([]:List (Str×Str)).length+(t1.take k1.toNat).length)) (need (fits (([]++(t1.take k1.toNat)).length+([(o2,o3)]:List (Str×Str)).length)) (need (decide (0≤(w64 (k1+1)))&&decide ((w64 (k1+1))≤t1.length)) (need (fits ((([]++(t1.take k1.toNat))++[(o2,o3)]).length+(t1.drop (w64 (k1+1)).toNat).length)) (some ((([]++(t1.take k1.toNat))++[(o2,o3)])++(t1.drop (w64 (k1+1)).toNat)))))))) else
 (need (decide (0≤k1)&&decide (k1≤t1.length)) (need (fits (([]:List (Str×Str)).length+(t1.take k1.toNat).length)) (need (fits (([]++(t1.take k1.toNat)).length+([(o2,o3)]:List (Str×Str)).length)) (need (decide (0≤k1)&&decide (k1≤t1.length)) (need (fits ((([]++(t1.take k1.toNat))++[(o2,o3)]).length+(t1.drop k1.toNat).length)) (some ((([]++(t1.take k1.toNat))++[(o2,o3)])++(t1.drop k1.toNat)))))))))))
def ZaB.l0.step (again:((List (Str×Str))×Int×(List (Str×Int×Int×Int×Int×Int×Int×Str))×List (Str×Str))→Option ((List (Str×Str))×List (Str×Str))):((List (Str×Str))×Int×(List (Str×Int×Int×Int×Int×Int×Int×Str))×List (Str×Str))→Option ((List (Str×Str))×List (Str×Str)):=fun (t1,i,list,out)=>
 (bif (decide (i<(list.length:Int))) then (need (decide (0≤i)&&decide (i<list.length)) (need (decide (0≤i)&&decide (i<list.length)) ((ZdF out ((list.getD i.toNat ([],0,0,0,0,0,0,[])).1) ((list.getD i.toNat ([],0,0,0,0,0,0,[])).2.2.2.2.2.2.2)).bind fun l10Put_=>
 (again (t1,(w64 (i+1)),list,l10Put_))))) else
 (some (t1,out)))
def ZaB.l0:=ZaA ZaB.l0.step
theorem ZaB.l0.succ (n:Nat) t:ZaB.l0 (n+1) t=ZaB.l0.step (ZaB.l0 n) t:=rfl
def ZaB (t:List (Str×Str)) (text:Str):Option (Int×List (Str×Str)):=
 ((Za1 text).bind fun (r,r1)=>
 (((Zao t).bind fun TreeOk=>
 (bif (!TreeOk) then (some true) else
 (some (!r)))).bind fun c=>
 (bif c then (some (1,[])) else
 (need (fits (([]:List (Str×Str)).length+t.length)) ((ZaB.l0 (((r1.length:Int)-(0:Int)).toNat+1) (t,0,r1,([]++t))).bind fun (t2,out1)=>
 (bif (decide ((out1.length:Int)>8)) then (need (fits (([]:List (Str×Str)).length+t2.length)) (some (4,([]++t2)))) else
 ((Zao out1).bind fun TreeOk1=>
 (bif (!TreeOk1) then (need (fits (([]:List (Str×Str)).length+t2.length)) (some (3,([]++t2)))) else
 (some (0,out1))))))))))
def ZaH.l0.step (again:((List (Str×Str))×Str×Int×Int×Int×Int×Int×Int×Int×List (Str×Int×Int×Int×Int×Int×Int×Str))→Option (List (Str×Int×Int×Int×Int×Int×Int×Str))):((List (Str×Str))×Str×Int×Int×Int×Int×Int×Int×Int×List (Str×Int×Int×Int×Int×Int×Int×Str))→Option (List (Str×Int×Int×Int×Int×Int×Int×Str)):=fun (t1,place1,i,o,o1,o2,o3,o4,o5,list)=>
 (bif (decide (i<(t1.length:Int))) then ((bif (place1==[]) then (some true) else
 (need (decide (0≤i)&&decide (i<t1.length)) (bif ((t1.getD i.toNat ([],[])).1==place1) then (some true) else
 (need (decide (0≤i)&&decide (i<t1.length)) ((Zca place1 ((t1.getD i.toNat ([],[])).1)).bind fun l7Under_=>
 (some l7Under_)))))).bind fun c1=>
 (bif c1 then (need (decide (0≤i)&&decide (i<t1.length)) (need (decide (0≤i)&&decide (i<t1.length)) (need (fits (list.length+([((t1.getD i.toNat ([],[])).1,o,o1,o2,o3,o4,o5,(t1.getD i.toNat ([],[])).2)]:List (Str×Int×Int×Int×Int×Int×Int×Str)).length)) (again (t1,place1,(w64 (i+1)),o,o1,o2,o3,o4,o5,(list++[((t1.getD i.toNat ([],[])).1,o,o1,o2,o3,o4,o5,(t1.getD i.toNat ([],[])).2)])))))) else
 (again (t1,place1,(w64 (i+1)),o,o1,o2,o3,o4,o5,list)))) else
 (some list))
def ZaH.l0:=ZaA ZaH.l0.step
theorem ZaH.l0.succ (n:Nat) t:ZaH.l0 (n+1) t=ZaH.l0.step (ZaH.l0 n) t:=rfl
def ZaH (t:List (Str×Str)) (place:Str) (y:Int) (mo:Int) (d:Int) (h:Int) (mi:Int) (sec:Int):Option (Str×Int):=
 (((Zao t).bind fun TreeOk=>
 (bif (!TreeOk) then (some true) else
 (bif (!(place==[])) then ((Zap place).bind fun NameOk=>
 (bif (!NameOk) then (some true) else
 ((Zbp y mo d h mi sec).bind fun StampOk=>
 (some (!StampOk))))) else
 ((Zbp y mo d h mi sec).bind fun StampOk1=>
 (some (!StampOk1)))))).bind fun c=>
 (bif c then (some ([],1)) else
 ((ZaH.l0 (((t.length:Int)-(0:Int)).toNat+1) (t,place,0,y,mo,d,h,mi,sec,[])).bind fun list1=>
 (bif (decide ((list1.length:Int)>6)) then (some ([],4)) else
 ((Zd6 list1).bind fun l7Put_=>
 (some (l7Put_,0)))))))
def ZeD (code_:List Int):Option (List Int×Int):=
 (bif (decide ((code_.length:Int)>2000)) then (need (decide (0≤(2000:Int))&&decide ((2000:Int)≤code_.length)) (some ((code_.take 2000),0))) else
 (some (code_,0)))
def pick (n:Int) (b:List Int) (p:Int):Option (Int×List Int×Int):=
 ((bif (decide (n<1)) then (some true) else
 (some ((b.length:Int)==0))).bind fun c=>
 (bif c then (some (0,b,(w64 (p+1)))) else
 (bif (decide ((w64 ((w64 (p+1))-1))<(b.length:Int))) then (need (decide (0≤(w64 ((w64 (p+1))-1)))&&decide ((w64 ((w64 (p+1))-1))<b.length)) (need (n != 0) (some (((w64 (b.getD (w64 ((w64 (p+1))-1)).toNat 0)).tmod n),b,(w64 (p+1)))))) else
 (need ((b.length:Int) != 0) (need (decide (0≤((w64 ((w64 (p+1))-1)).tmod (b.length:Int)))&&decide (((w64 ((w64 (p+1))-1)).tmod (b.length:Int))<b.length)) (need ((b.length:Int) != 0) (need (decide (0≤((w64 ((w64 ((w64 ((w64 (p+1))-1))*7))+3)).tmod (b.length:Int)))&&decide (((w64 ((w64 ((w64 ((w64 (p+1))-1))*7))+3)).tmod (b.length:Int))<b.length)) (need ((b.length:Int) != 0) (need (n != 0) (some (((Zly .i64 (w64 ((w64 ((w64 ((w64 ((w64 (b.getD ((w64 ((w64 (p+1))-1)).tmod (b.length:Int)).toNat 0))*131))+(w64 ((w64 (b.getD ((w64 ((w64 ((w64 ((w64 (p+1))-1))*7))+3)).tmod (b.length:Int)).toNat 0))*1117))))+(w64 ((w64 ((w64 (p+1))-1))*29))))+(w64 ((w64 ((w64 ((w64 (p+1))-1)).tdiv (b.length:Int)))*53)))) (w64 ((w64 ((w64 ((w64 ((w64 ((w64 (b.getD ((w64 ((w64 (p+1))-1)).tmod (b.length:Int)).toNat 0))*131))+(w64 ((w64 (b.getD ((w64 ((w64 ((w64 ((w64 (p+1))-1))*7))+3)).tmod (b.length:Int)).toNat 0))*1117))))+(w64 ((w64 ((w64 (p+1))-1))*29))))+(w64 ((w64 ((w64 ((w64 (p+1))-1)).tdiv (b.length:Int)))*53)))).tdiv 64))).tmod n),b,(w64 (p+1)))))))))))))
def Zis (xs:List Str) (b:List Int) (p:Int):Option (Str×List Int×Int):=
 ((pick (xs.length:Int) b p).bind fun (r,r1,r2)=>
 (need (decide (0≤r)&&decide (r<xs.length)) (some ((xs.getD r.toNat []),r1,r2))))
def Zdt.l0.step (again:(Str×Int×Str)→Option (Str)):(Str×Int×Str)→Option (Str):=fun (s1,n1,out)=>
 (bif (decide (n1>0)) then (bif ((n1.tmod 2)==1) then (need (fits (out.length+s1.length)) (need (fits (s1.length+s1.length)) (again ((s1++s1),(w64 (n1.tdiv 2)),(out++s1))))) else
 (need (fits (s1.length+s1.length)) (again ((s1++s1),(w64 (n1.tdiv 2)),out)))) else
 (some out))
def Zdt.l0:=ZaA Zdt.l0.step
def Zdt (s:Str) (n:Int):Option (Str):=
 ((Zdt.l0 (n.toNat+1) (s,n,[])).bind fun out1=>
 (some out1))
def ZbG.l0.step (again:(Int×List Int×Int×List Int)→Option (List Int×Int×List Int)):(Int×List Int×Int×List Int)→Option (List Int×Int×List Int):=fun (n,o,o1,out)=>
 (bif (decide (n>0)) then ((pick 256 o o1).bind fun (r12,r13,r14)=>
 (need (fits (out.length+([(IntKind.wrap .u8 r12)]:List (Int)).length)) (again ((w64 (n-1)),r13,r14,(out++[(IntKind.wrap .u8 r12)]))))) else
 (some (o,o1,out)))
def ZbG.l0:=ZaA ZbG.l0.step
def ZbG.l1.step (again:(Str×Int×List Int×Int)→Option (Str×List Int×Int)):(Str×Int×List Int×Int)→Option (Str×List Int×Int):=fun (out2,n1,o4,o5)=>
 (bif (decide (n1>0)) then ((Zis [[116,104,101,32],[115,116,111,110,101,32],[116,104,97,116,32],[98,101,97,114,115,32],[97,32],[98,101,97,109],[46,32]] o4 o5).bind fun (r18,r19,r20)=>
 (need (fits (out2.length+r18.length)) (again ((out2++r18),(w64 (n1-1)),r19,r20)))) else
 (some (out2,o4,o5)))
def ZbG.l1:=ZaA ZbG.l1.step
def ZbG (b:List Int) (p:Int):Option (Str×List Int×Int):=
 ((pick 8 b p).bind fun (r,r1,r2)=>
 (bif (r==0) then (some ([],r1,r2)) else
 (bif (r==1) then ((Zis [[97],[97,98],[97,98,99],[120,121,122,122,121,32]] r1 r2).bind fun (r3,r4,r5)=>
 ((pick 40 r4 r5).bind fun (r6,r7,r8)=>
 ((Zdt r3 (w64 (1+r6))).bind fun l1Many_=>
 (some (l1Many_,r7,r8))))) else
 (bif (r==2) then ((pick 40 r1 r2).bind fun (r9,r10,r11)=>
 ((ZbG.l0 ((r9-0).toNat+1) (r9,r10,r11,[])).bind fun (o2,o3,out1)=>
 (some ((Zbu out1),o2,o3)))) else
 (bif (r==3) then ((Zdt [113] 300).bind fun l1Many_1=>
 (some (l1Many_1,r1,r2))) else
 ((pick 12 r1 r2).bind fun (r15,r16,r17)=>
 ((ZbG.l1 ((r15-0).toNat+1) ([],r15,r16,r17)).bind fun (out3,o6,o7)=>
 (some (out3,o6,o7)))))))))
def Zct (b:List Int) (p:Int):Option (Str×List Int×Int):=
 ((pick 16 b p).bind fun (r,r1,r2)=>
 (bif (r==0) then ((Zdt [113] 301).bind fun l1Many_=>
 (some (l1Many_,r1,r2))) else
 ((ZbG r1 r2).bind fun (r3,r4,r5)=>
 (some (r3,r4,r5)))))
def Zcj (b:List Int) (p:Int):Option (Str×List Int×Int):=
 ((Zis [[97],[98,46,116,120,116],[100,105,114,47,97],[100,105,114,47,98],[120,45,121,95,122],[97,47,98,47,99,47,100],[114,101,97,100,109,101]] b p).bind fun (r,r1,r2)=>
 (some (r,r1,r2)))
def Zbz (b:List Int) (p:Int):Option (Str×List Int×Int):=
 ((pick 6 b p).bind fun (r,r1,r2)=>
 (bif (r==0) then ((Zis [[],[47],[97,47],[46,46],[97,47,46,46,47,98],[65],[97,32,98],[101,108,101,118,101,110,108,101,116,116,101],[97,47,98,47,99,47,100,47,101]] r1 r2).bind fun (r3,r4,r5)=>
 (some (r3,r4,r5))) else
 ((Zcj r1 r2).bind fun (r6,r7,r8)=>
 (some (r6,r7,r8)))))
def Zdh.l0.step (again:(Int×List Int×Int×List (Str×Str))→Option (List Int×Int×List (Str×Str))):(Int×List Int×Int×List (Str×Str))→Option (List Int×Int×List (Str×Str)):=fun (n,o,o1,out)=>
 (bif (decide (n>0)) then ((Zcj o o1).bind fun (r3,r4,r5)=>
 ((ZbG r4 r5).bind fun (r6,r7,r8)=>
 ((ZdF out r3 r6).bind fun l10Put_=>
 ((Zao l10Put_).bind fun TreeOk=>
 (bif TreeOk then (again ((w64 (n-1)),r7,r8,l10Put_)) else
 (again ((w64 (n-1)),r7,r8,out))))))) else
 (some (o,o1,out)))
def Zdh.l0:=ZaA Zdh.l0.step
def Zdh (b:List Int) (p:Int):Option (List Int×Int×List (Str×Str)):=
 ((pick 5 b p).bind fun (r,r1,r2)=>
 ((Zdh.l0 ((r-0).toNat+1) (r,r1,r2,[])).bind fun (o2,o3,out1)=>
 (some (o2,o3,out1))))
def ZbK (b:List Int) (p:Int):Option (List Int×Int×List (Str×Str)):=
 ((Zdh b p).bind fun (r,r1,r2)=>
 (need (fits (([]:List (Str×Str)).length+r2.length)) ((pick 8 r r1).bind fun (r3,r4,r5)=>
 (bif (r3==0) then ((Zbz r4 r5).bind fun (r6,r7,r8)=>
 ((Zct r7 r8).bind fun (r9,r10,r11)=>
 (need (fits (([]++r2).length+([(r6,r9)]:List (Str×Str)).length)) (some (r10,r11,(([]++r2)++[(r6,r9)])))))) else
 (some (r4,r5,([]++r2)))))))
def Zcl.l0.step (again:((List (Str×Str))×(List (Str×Str))×Int)→Option ((Unit)⊕(Bool))):((List (Str×Str))×(List (Str×Str))×Int)→Option ((Unit)⊕(Bool)):=fun (a,b,i)=>
 (bif (decide (i<(a.length:Int))) then (need (decide (0≤i)&&decide (i<a.length)) (need (decide (0≤i)&&decide (i<b.length)) (bif (!(((a.getD i.toNat ([],[])).1==(b.getD i.toNat ([],[])).1)&&(((a.getD i.toNat ([],[])).2==(b.getD i.toNat ([],[])).2)&&true))) then ((some false).map Sum.inr) else
 (again (a,b,(w64 (i+1))))))) else
 (some (.inl ())))
def Zcl.l0:=ZaA Zcl.l0.step
theorem Zcl.l0.succ (n:Nat) t:Zcl.l0 (n+1) t=Zcl.l0.step (Zcl.l0 n) t:=rfl
def Zcl (xs:List (Str×Str)) (ys:List (Str×Str)):Option (Bool):=
 (bif ((xs.length:Int) != (ys.length:Int)) then (some false) else
 ((Zcl.l0 (((xs.length:Int)-(0:Int)).toNat+1) (xs,ys,0)).bind fun r=>match r with
 | .inl _=>(some true)
 | .inr r=>some r))
def Zif.l0.step (again:((List (Str×Str))×Str×Int)→Option ((Unit)⊕(Int))):((List (Str×Str))×Str×Int)→Option ((Unit)⊕(Int)):=fun (t,path1,i)=>
 (bif (decide (i<(t.length:Int))) then (need (decide (0≤i)&&decide (i<t.length)) (bif ((t.getD i.toNat ([],[])).1==path1) then ((some i).map Sum.inr) else
 (again (t,path1,(w64 (i+1)))))) else
 (some (.inl ())))
def Zif.l0:=ZaA Zif.l0.step
theorem Zif.l0.succ (n:Nat) t:Zif.l0 (n+1) t=Zif.l0.step (Zif.l0 n) t:=rfl
def Zif (xs:List (Str×Str)) (path:Str):Option (Int):=
 ((Zif.l0 (((xs.length:Int)-(0:Int)).toNat+1) (xs,path,0)).bind fun r=>match r with
 | .inl _=>(some (-1))
 | .inr r=>some r)
def ZeS.l0.step (again:(List Str×Str×Int)→Option ((Unit)⊕(Bool))):(List Str×Str×Int)→Option ((Unit)⊕(Bool)):=fun (list,s1,i)=>
 (bif (decide (i<(list.length:Int))) then (need (decide (0≤i)&&decide (i<list.length)) (bif ((list.getD i.toNat [])==s1) then ((some true).map Sum.inr) else
 (again (list,s1,(w64 (i+1)))))) else
 (some (.inl ())))
def ZeS.l0:=ZaA ZeS.l0.step
theorem ZeS.l0.succ (n:Nat) t:ZeS.l0 (n+1) t=ZeS.l0.step (ZeS.l0 n) t:=rfl
def ZeS (xs:List Str) (s:Str):Option (Bool):=
 ((ZeS.l0 (((xs.length:Int)-(0:Int)).toNat+1) (xs,s,0)).bind fun r=>match r with
 | .inl _=>(some false)
 | .inr r=>some r)
def Zbi.l0.step (again:(Int×Str)→Option (Str)):(Int×Str)→Option (Str):=fun (k1,out)=>
 (bif (decide (k1>0)) then (need (fits ((Zbu [(IntKind.wrap .u8 (w64 (48+(k1.tmod 10))))]).length+out.length)) (again ((w64 (k1.tdiv 10)),((Zbu [(IntKind.wrap .u8 (w64 (48+(k1.tmod 10))))])++out)))) else
 (some out))
def Zbi.l0:=ZaA Zbi.l0.step
theorem Zbi.l0.succ (n:Nat) t:Zbi.l0 (n+1) t=Zbi.l0.step (Zbi.l0 n) t:=rfl
def Zbi (k:Int):Option (Str):=
 (bif (decide (k≤0)) then (some [109,48]) else
 ((Zbi.l0 ((k-0).toNat+1) (k,[])).bind fun out1=>
 (need (fits (([109]:Str).length+out1.length)) (some ([109]++out1)))))
def Zbg.l0.step (again:(Int×Int×List (Str×Str))→Option (Int×List (Str×Str))):(Int×Int×List (Str×Str))→Option (Int×List (Str×Str)):=fun (k1,i,a)=>
 (bif (decide (i<(a.length:Int))) then ((Zbi k1).bind fun markText_=>
 (need (decide (0≤i)&&decide (i<a.length)) ((Zbi (w64 (k1+1))).bind fun markText_1=>
 (need (decide (0≤i)&&decide (i<(a.set i.toNat (markText_,(a.getD i.toNat ([],[])).2)).length)) (again ((w64 ((w64 (k1+1))+1)),(w64 (i+1)),((a.set i.toNat (markText_,(a.getD i.toNat ([],[])).2)).set i.toNat (((a.set i.toNat (markText_,(a.getD i.toNat ([],[])).2)).getD i.toNat ([],[])).1,markText_1)))))))) else
 (some (k1,a)))
def Zbg.l0:=ZaA Zbg.l0.step
theorem Zbg.l0.succ (n:Nat) t:Zbg.l0 (n+1) t=Zbg.l0.step (Zbg.l0 n) t:=rfl
def Zbg (k:Int) (xs:List (Str×Str)):Option (Int×List (Str×Str)):=
 ((Zbg.l0 (((xs.length:Int)-(0:Int)).toNat+1) (k,0,xs)).bind fun (k2,o)=>
 (some (k2,o)))
def Zbh.l0.step (again:((List (Str×Str))×Int×Int)→Option ((Int)⊕(Int))):((List (Str×Str))×Int×Int)→Option ((Int)⊕(Int)):=fun (a,k1,i)=>
 (bif (decide (i<(a.length:Int))) then (need (decide (0≤i)&&decide (i<a.length)) ((Zbi k1).bind fun markText_=>
 (bif (!((a.getD i.toNat ([],[])).1==markText_)) then ((some (-1)).map Sum.inr) else
 (need (decide (0≤i)&&decide (i<a.length)) ((Zbi (w64 (k1+1))).bind fun markText_1=>
 (bif (!((a.getD i.toNat ([],[])).2==markText_1)) then ((some (-1)).map Sum.inr) else
 (again (a,(w64 ((w64 (k1+1))+1)),(w64 (i+1)))))))))) else
 (some (.inl k1)))
def Zbh.l0:=ZaA Zbh.l0.step
theorem Zbh.l0.succ (n:Nat) t:Zbh.l0 (n+1) t=Zbh.l0.step (Zbh.l0 n) t:=rfl
def Zbh (xs:List (Str×Str)) (k:Int):Option (Int):=
 ((Zbh.l0 (((xs.length:Int)-(0:Int)).toNat+1) (xs,k,0)).bind fun r=>match r with
 | .inl k2=>(some k2)
 | .inr r=>some r)
def Zgk (xs:List Int) (b:List Int) (p:Int):Option (Int×List Int×Int):=
 ((pick (xs.length:Int) b p).bind fun (r,r1,r2)=>
 (need (decide (0≤r)&&decide (r<xs.length)) (some ((xs.getD r.toNat 0),r1,r2))))
def Zes (s:Str) (b:List Int) (p:Int):Option (Str×List Int×Int):=
 (bif (s==[]) then (some (s,b,p)) else
 ((pick (s.length:Int) b p).bind fun (r,r1,r2)=>
 ((pick 5 r1 r2).bind fun (r3,r4,r5)=>
 (bif (r3==0) then (need (decide (0≤r)&&decide (r≤s.length)) ((pick 256 r4 r5).bind fun (r6,r7,r8)=>
 (need (fits ((s.take r.toNat).length+(Zbu [(IntKind.wrap .u8 r6)]).length)) (need (decide (0≤(w64 (r+1)))&&decide ((w64 (r+1))≤s.length)) (need (fits (((s.take r.toNat)++(Zbu [(IntKind.wrap .u8 r6)])).length+(s.drop (w64 (r+1)).toNat).length)) (some ((((s.take r.toNat)++(Zbu [(IntKind.wrap .u8 r6)]))++(s.drop (w64 (r+1)).toNat)),r7,r8))))))) else
 (bif (r3==1) then (need (decide (0≤r)&&decide (r≤s.length)) (some ((s.take r.toNat),r4,r5))) else
 (bif (r3==2) then ((Zis [[120],[0],[109,111,114,101]] r4 r5).bind fun (r9,r10,r11)=>
 (need (fits (s.length+r9.length)) (some ((s++r9),r10,r11)))) else
 (some (s,r4,r5))))))))
def Zcc (b:List Int) (p:Int):Option (Int×Int×Int×Int×Int×Int×List Int×Int):=
 ((Zgk [1980,2000,2024,2107] b p).bind fun (r,r1,r2)=>
 ((pick 12 r1 r2).bind fun (r3,r4,r5)=>
 ((pick 28 r4 r5).bind fun (r6,r7,r8)=>
 ((pick 24 r7 r8).bind fun (r9,r10,r11)=>
 ((pick 60 r10 r11).bind fun (r12,r13,r14)=>
 ((pick 30 r13 r14).bind fun (r15,r16,r17)=>
 (some (r,(w64 (1+r3)),(w64 (1+r6)),r9,r12,(w64 (2*r15)),r16,r17))))))))
def Zb3 (b:List Int) (p:Int):Option (Int×Int×Int×Int×Int×Int×List Int×Int):=
 ((Zcc b p).bind fun (r,r1,r2,r3,r4,r5,r6,r7)=>
 ((pick 10 r6 r7).bind fun (r8,r9,r10)=>
 (bif (r8==0) then ((Zgk [0,29,30,31,32] r9 r10).bind fun (r11,r12,r13)=>
 (some (r,r1,r11,r3,r4,r5,r12,r13))) else
 (bif (r8==1) then ((Zgk [1979,2100,2108,1900] r9 r10).bind fun (r14,r15,r16)=>
 (some (r14,r1,r2,r3,r4,r5,r15,r16))) else
 (bif (r8==2) then ((Zgk [1,59,60,(-2)] r9 r10).bind fun (r17,r18,r19)=>
 (some (r,r1,r2,r3,r4,r17,r18,r19))) else
 (bif (r8==3) then ((Zgk [0,2,13] r9 r10).bind fun (r20,r21,r22)=>
 (some (r,r20,r2,r3,r4,r5,r21,r22))) else
 (some (r,r1,r2,r3,r4,r5,r9,r10))))))))
def ZdE (b:List Int) (p:Int):Option (Str×Int×Int×Int×Int×Int×Int×Str×List Int×Int):=
 ((Zcj b p).bind fun (r,r1,r2)=>
 ((Zcc r1 r2).bind fun (r3,r4,r5,r6,r7,r8,r9,r10)=>
 ((ZbG r9 r10).bind fun (r11,r12,r13)=>
 (some (r,r3,r4,r5,r6,r7,r8,r11,r12,r13)))))
def Zbn.l1.step (again:(Int×List Int×Int×List (Str×Int×Int×Int×Int×Int×Int×Str))→Option (List Int×Int×List (Str×Int×Int×Int×Int×Int×Int×Str))):(Int×List Int×Int×List (Str×Int×Int×Int×Int×Int×Int×Str))→Option (List Int×Int×List (Str×Int×Int×Int×Int×Int×Int×Str)):=fun (n1,o4,o5,out2)=>
 (bif (decide (n1<6)) then ((Zgn n1).bind fun l1Dec_=>
 (need (fits (([102]:Str).length+l1Dec_.length)) ((Zcc o4 o5).bind fun (r18,r19,r20,r21,r22,r23,r24,r25)=>
 (need (fits (out2.length+([(([102]++l1Dec_),r18,r19,r20,r21,r22,r23,[])]:List (Str×Int×Int×Int×Int×Int×Int×Str)).length)) (again ((w64 (n1+1)),r24,r25,(out2++[(([102]++l1Dec_),r18,r19,r20,r21,r22,r23,[])]))))))) else
 (some (o4,o5,out2)))
def Zbn.l1:=ZaA Zbn.l1.step
theorem Zbn.l1.succ (n:Nat) t:Zbn.l1 (n+1) t=Zbn.l1.step (Zbn.l1 n) t:=rfl
def Zbn.l0.step (again:(Int×List Int×Int×List (Str×Int×Int×Int×Int×Int×Int×Str))→Option (List Int×Int×List (Str×Int×Int×Int×Int×Int×Int×Str))):(Int×List Int×Int×List (Str×Int×Int×Int×Int×Int×Int×Str))→Option (List Int×Int×List (Str×Int×Int×Int×Int×Int×Int×Str)):=fun (n,o,o1,out)=>
 (bif (decide (n>0)) then ((ZdE o o1).bind fun (r3,r4,r5,r6,r7,r8,r9,r10,r11,r12)=>
 ((Zjk r3 r4 r5 r6 r7 r8 r9 r10 out).bind fun (r13,r14)=>
 (again ((w64 (n-1)),r11,r12,r14)))) else
 (some (o,o1,out)))
def Zbn.l0:=ZaA Zbn.l0.step
theorem Zbn.l0.succ (n:Nat) t:Zbn.l0 (n+1) t=Zbn.l0.step (Zbn.l0 n) t:=rfl
def Zbn (b:List Int) (p:Int):Option (List Int×Int×List (Str×Int×Int×Int×Int×Int×Int×Str)):=
 ((pick 5 b p).bind fun (r,r1,r2)=>
 ((Zbn.l0 ((r-0).toNat+1) (r,r1,r2,[])).bind fun (o2,o3,out1)=>
 ((pick 24 o2 o3).bind fun (r15,r16,r17)=>
 (bif (r15==0) then ((Zbn.l1 ((6-(out1.length:Int)).toNat+1) ((out1.length:Int),r16,r17,out1)).bind fun (o6,o7,out3)=>
 (some (o6,o7,out3))) else
 (some (r16,r17,out1))))))
def Zf5 (b:List Int) (p:Int):Option (Str×List Int×Int):=
 ((Zbn b p).bind fun (r,r1,r2)=>
 ((Zd6 r2).bind fun l7Put_=>
 (some (l7Put_,r,r1))))
def ZbJ (code_:List Int):Option (Str×List (Str×Str)):=
 ((ZeD code_).bind fun (r,r1)=>
 ((ZbK r r1).bind fun (r2,r3,r4)=>
 ((Zf5 r2 r3).bind fun (r5,r6,r7)=>
 ((Zes r5 r6 r7).bind fun (r8,r9,r10)=>
 (some (r8,r4))))))
def Zbw (code_:List Int):Option (Str×Int×Int×Int×Int×Int×Int×List (Str×Str)):=
 ((ZeD code_).bind fun (r,r1)=>
 ((ZbK r r1).bind fun (r2,r3,r4)=>
 ((Zbz r2 r3).bind fun (r5,r6,r7)=>
 ((Zis [[],[],[100,105,114],[97],r5] r6 r7).bind fun (r8,r9,r10)=>
 ((Zb3 r9 r10).bind fun (r11,r12,r13,r14,r15,r16,r17,r18)=>
 (some (r8,r11,r12,r13,r14,r15,r16,r4)))))))
def FnTreeZip.l0.step (again:(Str×Int×Int×Int×(List (Str×Str))×List (Str×Str))→Option ((Int×Int×List (Str×Str))⊕(Bool))):(Str×Int×Int×Int×(List (Str×Str))×List (Str×Str))→Option ((Int×Int×List (Str×Str))⊕(Bool)):=fun (place,code2,n,i,t,x)=>
 (bif (decide (i<(t.length:Int))) then (need (decide (0≤i)&&decide (i<t.length)) ((bif (place==[]) then (some true) else
 (bif ((t.getD i.toNat ([],[])).1==place) then (some true) else
 (bif (decide ((((t.getD i.toNat ([],[])).1).length:Int)>(place.length:Int))) then (need (decide (0≤(w64 ((place.length:Int)+1)))&&decide ((w64 ((place.length:Int)+1))≤((t.getD i.toNat ([],[])).1).length)) (need (fits (place.length+([47]:Str).length)) (some ((((t.getD i.toNat ([],[])).1).take (w64 ((place.length:Int)+1)).toNat)==(place++[47]))))) else
 (some false)))).bind fun in_=>
 (((Zif x ((t.getD i.toNat ([],[])).1)).bind fun cbAt_=>
 (bif (!(in_==(decide (cbAt_≥0)))) then (some true) else
 (bif in_ then ((Zif x ((t.getD i.toNat ([],[])).1)).bind fun cbAt_1=>
 (need (decide (0≤cbAt_1)&&decide (cbAt_1<x.length)) (need (decide (0≤i)&&decide (i<t.length)) (some (!(((x.getD cbAt_1.toNat ([],[])).1==(t.getD i.toNat ([],[])).1)&&(((x.getD cbAt_1.toNat ([],[])).2==(t.getD i.toNat ([],[])).2)&&true))))))) else
 (some false)))).bind fun c2=>
 (bif c2 then ((some false).map Sum.inr) else
 (bif in_ then (again (place,code2,(w64 (n+1)),(w64 (i+1)),t,x)) else
 (again (place,code2,n,(w64 (i+1)),t,x))))))) else
 (some (.inl (code2,n,x))))
def FnTreeZip.l0:=ZaA FnTreeZip.l0.step
theorem FnTreeZip.l0.succ (n:Nat) t:FnTreeZip.l0 (n+1) t=FnTreeZip.l0.step (FnTreeZip.l0 n) t:=rfl
def FnTreeZip (code_:List Int):Option (Bool):=
 (bif (decide ((code_.length:Int)>1048576)) then (some true) else
 ((Zbw code_).bind fun (r,r1,r2,r3,r4,r5,r6,r7)=>
 ((ZbQ r7 r r1 r2 r3 r4 r5 r6).bind fun (r8,r9)=>
 ((ZaH r7 r r1 r2 r3 r4 r5 r6).bind fun (r10,r11)=>
 ((bif (r9 != r11) then (some true) else
 (bif (!(r8==r10)) then (some true) else
 (some (r9 != 0)))).bind fun c=>
 (bif c then ((bif (r9==r11) then (bif (r8==r10) then (bif (r9==0) then (some true) else
 (some (r8==[]))) else
 (some false)) else
 (some false)).bind fun c1=>
 (some c1)) else
 ((ZaT [] r8).bind fun (r12,r13)=>
 ((FnTreeZip.l0 (((r7.length:Int)-(0:Int)).toNat+1) (r,r12,0,0,r7,r13)).bind fun r=>match r with
 | .inl (code21,n1,x1)=>((bif (code21==0) then (some ((x1.length:Int)==n1)) else
 (some false)).bind fun c3=>
 (some c3))
 | .inr r=>some r))))))))
def FnTreeBack (code_:List Int):Option (Bool):=
 (bif (decide ((code_.length:Int)>1048576)) then (some true) else
 ((Zbw code_).bind fun (r,r1,r2,r3,r4,r5,r6,r7)=>
 ((ZbQ r7 r r1 r2 r3 r4 r5 r6).bind fun (r8,r9)=>
 ((ZaH r7 r r1 r2 r3 r4 r5 r6).bind fun (r10,r11)=>
 ((bif (r9 != r11) then (some true) else
 (bif (!(r8==r10)) then (some true) else
 (some (r9 != 0)))).bind fun c=>
 (bif c then ((bif (r9==r11) then (some (r8==r10)) else
 (some false)).bind fun c1=>
 (some c1)) else
 ((ZaT r7 r8).bind fun (r12,r13)=>
 ((bif (r12==0) then ((Zcl r13 r7).bind fun cbTree_=>
 (bif cbTree_ then ((Zau r7).bind fun TreeOk=>
 (some TreeOk)) else
 (some false))) else
 (some false)).bind fun c2=>
 (some c2)))))))))
def FnTreeTake.l1.step (again:(Str×Int×(List (Str×Str))×(List (Str×Str))×(List (Str×Int×Int×Int×Int×Int×Int×Str))×List Str)→Option ((Str×(List (Str×Str))×(List (Str×Str))×List (Str×Int×Int×Int×Int×Int×Int×Str))⊕(Bool))):(Str×Int×(List (Str×Str))×(List (Str×Str))×(List (Str×Int×Int×Int×Int×Int×Int×Str))×List Str)→Option ((Str×(List (Str×Str))×(List (Str×Str))×List (Str×Int×Int×Int×Int×Int×Int×Str))⊕(Bool)):=fun (s2,i1,t2,x2,list2,names2)=>
 (bif (decide (i1<(t2.length:Int))) then (need (decide (0≤i1)&&decide (i1<t2.length)) ((Zif x2 ((t2.getD i1.toNat ([],[])).1)).bind fun cbAt_1=>
 ((bif (decide (cbAt_1<0)) then (some true) else
 (need (decide (0≤i1)&&decide (i1<t2.length)) ((ZeS names2 ((t2.getD i1.toNat ([],[])).1)).bind fun cbHas_=>
 (bif (!cbHas_) then (need (decide (0≤cbAt_1)&&decide (cbAt_1<x2.length)) (need (decide (0≤i1)&&decide (i1<t2.length)) (some (!(((x2.getD cbAt_1.toNat ([],[])).1==(t2.getD i1.toNat ([],[])).1)&&(((x2.getD cbAt_1.toNat ([],[])).2==(t2.getD i1.toNat ([],[])).2)&&true)))))) else
 (some false))))).bind fun c3=>
 (bif c3 then ((some false).map Sum.inr) else
 (again (s2,(w64 (i1+1)),t2,x2,list2,names2)))))) else
 (some (.inl (s2,t2,x2,list2))))
def FnTreeTake.l1:=ZaA FnTreeTake.l1.step
theorem FnTreeTake.l1.succ (n:Nat) t:FnTreeTake.l1 (n+1) t=FnTreeTake.l1.step (FnTreeTake.l1 n) t:=rfl
def FnTreeTake.l0.step (again:(Str×Int×(List (Str×Str))×(List (Str×Str))×(List (Str×Int×Int×Int×Int×Int×Int×Str))×List Str)→Option ((Str×(List (Str×Str))×(List (Str×Str))×(List (Str×Int×Int×Int×Int×Int×Int×Str))×List Str)⊕(Bool))):(Str×Int×(List (Str×Str))×(List (Str×Str))×(List (Str×Int×Int×Int×Int×Int×Int×Str))×List Str)→Option ((Str×(List (Str×Str))×(List (Str×Str))×(List (Str×Int×Int×Int×Int×Int×Int×Str))×List Str)⊕(Bool)):=fun (s,i,t,x,list,names)=>
 (bif (decide (i<(list.length:Int))) then (need (decide (0≤i)&&decide (i<list.length)) ((Zif x ((list.getD i.toNat ([],0,0,0,0,0,0,[])).1)).bind fun cbAt_=>
 ((bif (decide (cbAt_<0)) then (some true) else
 (need (decide (0≤cbAt_)&&decide (cbAt_<x.length)) (need (decide (0≤i)&&decide (i<list.length)) (some (!((x.getD cbAt_.toNat ([],[])).2==(list.getD i.toNat ([],0,0,0,0,0,0,[])).2.2.2.2.2.2.2)))))).bind fun c2=>
 (bif c2 then ((some false).map Sum.inr) else
 (again (s,(w64 (i+1)),t,x,list,names)))))) else
 (some (.inl (s,t,x,list,names))))
def FnTreeTake.l0:=ZaA FnTreeTake.l0.step
theorem FnTreeTake.l0.succ (n:Nat) t:FnTreeTake.l0 (n+1) t=FnTreeTake.l0.step (FnTreeTake.l0 n) t:=rfl
def FnTreeTake (code_:List Int):Option (Bool):=
 (bif (decide ((code_.length:Int)>1048576)) then (some true) else
 ((ZbJ code_).bind fun (r,r1)=>
 ((ZaT r1 r).bind fun (r2,r3)=>
 ((ZaB r1 r).bind fun (r4,r5)=>
 ((bif (r2 != r4) then (some true) else
 ((Zcl r3 r5).bind fun cbTree_=>
 (bif (!cbTree_) then (some true) else
 ((Zau r1).bind fun TreeOk=>
 ((Zao r1).bind fun TreeOk1=>
 (bif (!(TreeOk==TreeOk1)) then (some true) else
 (some (r2 != 0)))))))).bind fun c=>
 (bif c then ((bif (r2==r4) then ((Zcl r3 r5).bind fun cbTree_1=>
 (bif cbTree_1 then ((Zau r1).bind fun TreeOk2=>
 ((Zao r1).bind fun TreeOk3=>
 (bif (TreeOk2==TreeOk3) then ((Zcl r3 r1).bind fun cbTree_2=>
 (bif cbTree_2 then (some true) else
 (some ((r3.length:Int)==0)))) else
 (some false)))) else
 (some false))) else
 (some false)).bind fun c1=>
 (some c1)) else
 ((Zck r).bind fun (r6,r7)=>
 ((Zdy r).bind fun ZipNames=>
 ((FnTreeTake.l0 (((r7.length:Int)-(0:Int)).toNat+1) (r,0,r1,r3,r7,ZipNames)).bind fun r=>match r with
 | .inl (s1,t1,x1,list1,names1)=>((FnTreeTake.l1 (((t1.length:Int)-(0:Int)).toNat+1) (s1,0,t1,x1,list1,names1)).bind fun r=>match r with
 | .inl (s3,t3,x3,list3)=>((ZaT x3 s3).bind fun (r8,r9)=>
 (((Zau x3).bind fun TreeOk4=>
 (bif TreeOk4 then (bif (r8==0) then ((Zcl r9 x3).bind fun cbTree_3=>
 (bif cbTree_3 then (some (decide ((x3.length:Int)≤(w64 ((t3.length:Int)+(list3.length:Int)))))) else
 (some false))) else
 (some false)) else
 (some false))).bind fun c4=>
 (some c4)))
 | .inr r=>some r)
 | .inr r=>some r)))))))))
def FnExactTreeTake (t:List (Str×Str)) (text:Str):Option (Bool):=
 (bif (decide ((text.length:Int)>1048576)) then (some true) else
 ((Zb8 t 1048576).bind fun szFileS_=>
 (bif (decide (szFileS_<0)) then (some true) else
 ((ZbW t).bind fun toFileS_=>
 ((ZaB toFileS_ text).bind fun (r,r1)=>
 ((ZbW t).bind fun toFileS_1=>
 ((ZaT toFileS_1 text).bind fun (r2,r3)=>
 (((ZbZ r3 r1).bind fun eqFileS_=>
 (bif (!eqFileS_) then (some true) else
 (some (r2 != r)))).bind fun c=>
 (bif c then (some false) else
 ((ZbW t).bind fun toFileS_2=>
 ((ZbZ toFileS_1 toFileS_2).bind fun eqFileS_1=>
 (bif (!eqFileS_1) then (some false) else
 ((Zbg 1 toFileS_1).bind fun (r4,r5)=>
 ((bif (decide (r4<0)) then (some true) else
 ((ZbZ r3 r1).bind fun eqFileS_2=>
 (bif (!eqFileS_2) then (some true) else
 (some (r2 != r))))).bind fun c1=>
 (bif c1 then (some false) else
 ((Zbg 1 r3).bind fun (r6,r7)=>
 ((Zbh r7 1).bind fun heldFile=>
 (bif (decide (heldFile<0)) then (some false) else
 (bif (heldFile != r6) then (some false) else
 ((ZbW t).bind fun toFileS_3=>
 ((ZaT toFileS_3 text).bind fun (r8,r9)=>
 (((ZbZ r9 r1).bind fun eqFileS_3=>
 (bif (!eqFileS_3) then (some true) else
 (some (r8 != r)))).bind fun c2=>
 (bif c2 then (some false) else
 ((Zbh r7 1).bind fun heldFile1=>
 (bif (decide (heldFile1<0)) then (some false) else
 (bif (heldFile1 != r6) then (some false) else
 (some true)))))))))))))))))))))))))))
end Ev
end
