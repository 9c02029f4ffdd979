/- What each function of the program computes, as a plain function (printed by a program of this work out of the form of the program). Conditions: none. -/
import Derived.Test.YtadeffpcedlalaaGreatDoorBGS0
set_option linter.unusedVariables false
set_option linter.unusedSimpArgs false
section
open Go
set_option maxRecDepth 100000
namespace Ev
set_option maxHeartbeats 1000000
def Zbt (n:Int) (low:Int) (high:Int):Option (Bool):=
 ((bif (decide (n≥low)) then (some (decide (n≤high))) else
 (some false)).bind fun c=>
 (some c))
def ZcX.l0.step (again:(Str×Int×Int)→Option ((Str)⊕(Bool))):(Str×Int×Int)→Option ((Str)⊕(Bool)):=fun (s1,t,t1)=>
 (bif (decide (t1<t)) then (need (decide (0≤t1)&&decide (t1<s1.length)) ((bif (decide (((s1.getD t1.toNat 0).toNat:Int)<97)) then (bif (decide (((s1.getD t1.toNat 0).toNat:Int)<48)) then (bif (((s1.getD t1.toNat 0).toNat:Int) != 46) then (bif (((s1.getD t1.toNat 0).toNat:Int) != 45) then (some (((s1.getD t1.toNat 0).toNat:Int) != 95)) else
 (some false)) else
 (some false)) else
 (bif (decide (((s1.getD t1.toNat 0).toNat:Int)>57)) then (bif (((s1.getD t1.toNat 0).toNat:Int) != 46) then (bif (((s1.getD t1.toNat 0).toNat:Int) != 45) then (some (((s1.getD t1.toNat 0).toNat:Int) != 95)) else
 (some false)) else
 (some false)) else
 (some false))) else
 (bif (decide (((s1.getD t1.toNat 0).toNat:Int)>122)) then (bif (decide (((s1.getD t1.toNat 0).toNat:Int)<48)) then (bif (((s1.getD t1.toNat 0).toNat:Int) != 46) then (bif (((s1.getD t1.toNat 0).toNat:Int) != 45) then (some (((s1.getD t1.toNat 0).toNat:Int) != 95)) else
 (some false)) else
 (some false)) else
 (bif (decide (((s1.getD t1.toNat 0).toNat:Int)>57)) then (bif (((s1.getD t1.toNat 0).toNat:Int) != 46) then (bif (((s1.getD t1.toNat 0).toNat:Int) != 45) then (some (((s1.getD t1.toNat 0).toNat:Int) != 95)) else
 (some false)) else
 (some false)) else
 (some false))) else
 (some false))).bind fun c=>
 (bif c then ((some false).map Sum.inr) else
 (again (s1,t,(w64 (t1+1))))))) else
 (some (.inl s1)))
def ZcX.l0:=ZaC ZcX.l0.step
theorem ZcX.l0.succ (n:Nat) t:ZcX.l0 (n+1) t=ZcX.l0.step (ZcX.l0 n) t:=rfl
def ZcX (s:Str):Option (Bool):=
 ((ZcX.l0 (((s.length:Int)-(0:Int)).toNat+1) (s,(s.length:Int),0)).bind fun r=>match r with
 | .inl s2=>(((Zbt (s2.length:Int) 1 10).bind fun within_=>
 (bif within_ then (bif (!(s2==[46])) then (some (!(s2==[46,46]))) else
 (some false)) else
 (some false))).bind fun c1=>
 (some c1))
 | .inr r=>some r)
def Zhc (n:Int) (low:Int) (high:Int):Option (Bool):=
 ((bif (decide (n≥low)) then (some (decide (n≤high))) else
 (some false)).bind fun c=>
 (some c))
def Zdk.l0.step (again:(Str×Int×Int×Int×Int×List Str)→Option (Str×Int×List Str)):(Str×Int×Int×Int×Int×List Str)→Option (Str×Int×List Str):=fun (s1,b1,most1,from_,i,out)=>
 ((bif (decide (i<(s1.length:Int))) then (some (decide ((out.length:Int)<most1))) else
 (some false)).bind fun c=>
 (bif c then (need (decide (0≤i)&&decide (i<s1.length)) (bif (((s1.getD i.toNat 0).toNat:Int)==b1) then (need (decide (0≤i)&&decide (i≤s1.length)) (need (decide (0≤from_)&&decide (from_≤i)) (need (fits (out.length+([((s1.take i.toNat).drop from_.toNat)]:List (Str)).length)) (again (s1,b1,most1,(w64 (i+1)),(w64 (i+1)),(out++[((s1.take i.toNat).drop from_.toNat)])))))) else
 (again (s1,b1,most1,from_,(w64 (i+1)),out)))) else
 (some (s1,from_,out))))
def Zdk.l0:=ZaC Zdk.l0.step
theorem Zdk.l0.succ (n:Nat) t:Zdk.l0 (n+1) t=Zdk.l0.step (Zdk.l0 n) t:=rfl
def Zdk (s:Str) (b:Int) (most:Int):Option (List Str):=
 ((Zdk.l0 (((s.length:Int)-(0:Int)).toNat+1) (s,b,most,0,0,[])).bind fun (s2,from_1,out1)=>
 (need (decide (0≤from_1)&&decide (from_1≤s2.length)) (need (fits (out1.length+([(s2.drop from_1.toNat)]:List (Str)).length)) (some (out1++[(s2.drop from_1.toNat)])))))
def Zar.l0.step (again:(Int×Str×Int×List Str)→Option ((Int×Str×List Str)⊕((List Str)⊕(Bool)))):(Int×Str×Int×List Str)→Option ((Int×Str×List Str)⊕((List Str)⊕(Bool))):=fun (i1,w,k,list1)=>
 (bif (decide (k<(w.length:Int))) then ((need (decide (0≤k)&&decide (k<w.length)) (bif (decide (((w.getD k.toNat 0).toNat:Int)≥97)) then (need (decide (0≤k)&&decide (k<w.length)) (bif (decide (((w.getD k.toNat 0).toNat:Int)≤122)) then (some (!true)) else
 (need (decide (0≤k)&&decide (k<w.length)) (bif (decide (((w.getD k.toNat 0).toNat:Int)≥48)) then (need (decide (0≤k)&&decide (k<w.length)) (bif (decide (((w.getD k.toNat 0).toNat:Int)≤57)) then (some (!true)) else
 (need (decide (0≤k)&&decide (k<w.length)) (bif (((w.getD k.toNat 0).toNat:Int)==46) then (some (!true)) else
 (need (decide (0≤k)&&decide (k<w.length)) (bif (((w.getD k.toNat 0).toNat:Int)==45) then (some (!true)) else
 (need (decide (0≤k)&&decide (k<w.length)) (some (!(((w.getD k.toNat 0).toNat:Int)==95)))))))))) else
 (need (decide (0≤k)&&decide (k<w.length)) (bif (((w.getD k.toNat 0).toNat:Int)==46) then (some (!true)) else
 (need (decide (0≤k)&&decide (k<w.length)) (bif (((w.getD k.toNat 0).toNat:Int)==45) then (some (!true)) else
 (need (decide (0≤k)&&decide (k<w.length)) (some (!(((w.getD k.toNat 0).toNat:Int)==95)))))))))))) else
 (need (decide (0≤k)&&decide (k<w.length)) (bif (decide (((w.getD k.toNat 0).toNat:Int)≥48)) then (need (decide (0≤k)&&decide (k<w.length)) (bif (decide (((w.getD k.toNat 0).toNat:Int)≤57)) then (some (!true)) else
 (need (decide (0≤k)&&decide (k<w.length)) (bif (((w.getD k.toNat 0).toNat:Int)==46) then (some (!true)) else
 (need (decide (0≤k)&&decide (k<w.length)) (bif (((w.getD k.toNat 0).toNat:Int)==45) then (some (!true)) else
 (need (decide (0≤k)&&decide (k<w.length)) (some (!(((w.getD k.toNat 0).toNat:Int)==95)))))))))) else
 (need (decide (0≤k)&&decide (k<w.length)) (bif (((w.getD k.toNat 0).toNat:Int)==46) then (some (!true)) else
 (need (decide (0≤k)&&decide (k<w.length)) (bif (((w.getD k.toNat 0).toNat:Int)==45) then (some (!true)) else
 (need (decide (0≤k)&&decide (k<w.length)) (some (!(((w.getD k.toNat 0).toNat:Int)==95)))))))))))).bind fun c=>
 (bif c then (((some false).map Sum.inr).map Sum.inr) else
 (again (i1,w,(w64 (k+1)),list1)))) else
 (some (.inl (i1,w,list1))))
def Zar.l0:=ZaC Zar.l0.step
theorem Zar.l0.succ (n:Nat) t:Zar.l0 (n+1) t=Zar.l0.step (Zar.l0 n) t:=rfl
def Zar.l1.step (again:(Int×List Str)→Option ((List Str)⊕(Bool))):(Int×List Str)→Option ((List Str)⊕(Bool)):=fun (i,list)=>
 (bif (decide (i<(list.length:Int))) then (need (decide (0≤i)&&decide (i<list.length)) ((Zar.l0 ((((list.getD i.toNat []).length:Int)-(0:Int)).toNat+1) (i,(list.getD i.toNat []),0,list)).bind fun r=>match r with
 | .inl (i2,w1,list2)=>(((Zhc (w1.length:Int) 1 10).bind fun l1In_=>
 (bif (!l1In_) then (some true) else
 (bif (w1==[46]) then (some true) else
 (some (w1==[46,46]))))).bind fun c1=>
 (bif c1 then ((some false).map Sum.inr) else
 (again ((w64 (i2+1)),list2))))
 | .inr r=>some r)) else
 (some (.inl list)))
def Zar.l1:=ZaC Zar.l1.step
theorem Zar.l1.succ (n:Nat) t:Zar.l1 (n+1) t=Zar.l1.step (Zar.l1 n) t:=rfl
def Zar (s:Str):Option (Bool):=
 ((Zdk s 47 (w64 ((s.length:Int)+1))).bind fun l1Cut_=>
 ((Zar.l1 (((l1Cut_.length:Int)-(0:Int)).toNat+1) (0,l1Cut_)).bind fun r=>match r with
 | .inl list3=>(some (decide ((list3.length:Int)≤4)))
 | .inr r=>some r))
def Zdf (a:Str) (b:Str):Option (Bool):=
 ((bif (decide ((b.length:Int)>(a.length:Int))) then (need (decide (0≤(a.length:Int))&&decide ((a.length:Int)≤b.length)) (bif ((b.take (a.length:Int).toNat)==a) then (need (decide (0≤(a.length:Int))&&decide ((a.length:Int)<b.length)) (some (((b.getD (a.length:Int).toNat 0).toNat:Int)==47))) else
 (some false))) else
 (some false)).bind fun c=>
 (some c))
def Zcx (s:Str) (p:Str):Option (Bool):=
 ((bif (decide ((s.length:Int)≥(p.length:Int))) then (need (decide (0≤(p.length:Int))&&decide ((p.length:Int)≤s.length)) (some ((s.take (p.length:Int).toNat)==p))) else
 (some false)).bind fun c=>
 (some c))
def ZcB (s:Str) (p:Str):Option (Bool):=
 ((Zcx s p).bind fun HasPrefi=>
 (some HasPrefi))
def ZbT (s:Str) (c:Int):Option (Int):=some (idxB s c)
def ZdG (s:Str) (c:Int):Option (Int):=some (cntB s c)
def Zbi (s:Str) (c:Int):Option (Int):=
 ((ZbT s c).bind fun IndexByt=>
 (some IndexByt))
def Zdg (s:Str):Option (Int):=
 ((some (([47]:Str)==s)).bind fun c=>
 (bif c then (some 0) else
 ((Zbi s 47).bind fun IndexByt=>
 (some IndexByt))))
def ZfX (s:Str):Option (Int):=
 ((Zdg s).bind fun Index=>
 (some Index))
def ZgB (s:Str):Option (Int):=
 ((ZdG s 47).bind fun CountStr=>
 (some CountStr))
def Zbg.l0.step (again:(Str×Int×Int×List Str)→Option (Str×Int×List Str)):(Str×Int×Int×List Str)→Option (Str×Int×List Str):=fun (s2,n1,i,a)=>
 (bif (decide (i<n1)) then ((ZfX s2).bind fun Index=>
 (bif (decide (Index<0)) then (some (s2,i,a)) else
 (need (decide (0≤(w64 (Index+0)))&&decide ((w64 (Index+0))≤s2.length)) (need (decide (0≤i)&&decide (i<a.length)) (need (decide (0≤(w64 (Index+1)))&&decide ((w64 (Index+1))≤s2.length)) (again ((s2.drop (w64 (Index+1)).toNat),n1,(w64 (i+1)),(a.set i.toNat (s2.take (w64 (Index+0)).toNat))))))))) else
 (some (s2,i,a)))
def Zbg.l0:=ZaC Zbg.l0.step
theorem Zbg.l0.succ (n:Nat) t:Zbg.l0 (n+1) t=Zbg.l0.step (Zbg.l0 n) t:=rfl
def Zbg (s:Str):Option (List Str):=
 ((((ZgB s).bind fun Count=>
 (some (s,(w64 (Count+1))))):Option (Str×Int)).bind fun (s1,n)=>
 (need (decide (0≤(ZkC n (w64 ((s1.length:Int)+1))))&&fits (ZkC n (w64 ((s1.length:Int)+1))).toNat) ((Zbg.l0 (((w64 ((ZkC n (w64 ((s1.length:Int)+1)))-1))-(0:Int)).toNat+1) (s1,(w64 ((ZkC n (w64 ((s1.length:Int)+1)))-1)),0,(List.replicate (ZkC n (w64 ((s1.length:Int)+1))).toNat ([]:Str)))).bind fun (s3,i1,a1)=>
 (need (decide (0≤i1)&&decide (i1<a1.length)) (need (decide (0≤(w64 (i1+1)))&&decide ((w64 (i1+1))≤(a1.set i1.toNat s3).length)) (some (((a1.set i1.toNat s3).drop 0).take ((w64 (i1+1)).toNat))))))))
def ZfP (s:Str):Option (List Str):=
 ((Zbg s).bind fun genSplit=>
 (some genSplit))
def Za1.l0.step (again:(List Str×List Str×Int×Int)→Option ((List Str)⊕(Bool))):(List Str×List Str×Int×Int)→Option ((List Str)⊕(Bool)):=fun (parts,t,t1,t2)=>
 (bif (decide (t2<t1)) then (need (decide (0≤t2)&&decide (t2<t.length)) ((ZcX (t.getD t2.toNat [])).bind fun partOk_=>
 (bif (!partOk_) then ((some false).map Sum.inr) else
 (again (parts,t,t1,(w64 (t2+1))))))) else
 (some (.inl parts)))
def Za1.l0:=ZaC Za1.l0.step
theorem Za1.l0.succ (n:Nat) t:Za1.l0 (n+1) t=Za1.l0.step (Za1.l0 n) t:=rfl
def Za1 (s:Str):Option (Bool):=
 ((ZfP s).bind fun Split=>
 ((Za1.l0 (((Split.length:Int)-(0:Int)).toNat+1) (Split,Split,(Split.length:Int),0)).bind fun r=>match r with
 | .inl parts1=>(some (decide ((parts1.length:Int)≤4)))
 | .inr r=>some r))
def Zc7.l0.step (again:(List Str×Str×List Str×Int×Int×List Str×Int×Int)→Option ((List Str×List Str×Int×Int)⊕((Unit)⊕(Bool)))):(List Str×Str×List Str×Int×Int×List Str×Int×Int)→Option ((List Str×List Str×Int×Int)⊕((Unit)⊕(Bool))):=fun (names1,a,t3,t4,t5,t6,t7,t8)=>
 (bif (decide (t8<t7)) then (need (decide (0≤t8)&&decide (t8<t6.length)) ((bif (a==(t6.getD t8.toNat [])) then (some true) else
 (need (fits ((t6.getD t8.toNat []).length+([47]:Str).length)) ((ZcB a ((t6.getD t8.toNat [])++[47])).bind fun HasPrefi=>
 (bif HasPrefi then (some true) else
 (need (fits (a.length+([47]:Str).length)) ((ZcB (t6.getD t8.toNat []) (a++[47])).bind fun HasPrefi1=>
 (some HasPrefi1))))))).bind fun c=>
 (bif c then (((some false).map Sum.inr).map Sum.inr) else
 (again (names1,a,t3,t4,t5,t6,t7,(w64 (t8+1))))))) else
 (some (.inl (names1,t3,t4,t5))))
def Zc7.l0:=ZaC Zc7.l0.step
theorem Zc7.l0.succ (n:Nat) t:Zc7.l0 (n+1) t=Zc7.l0.step (Zc7.l0 n) t:=rfl
def Zc7.l1.step (again:(List Str×List Str×Int×Int)→Option ((Unit)⊕(Bool))):(List Str×List Str×Int×Int)→Option ((Unit)⊕(Bool)):=fun (names,t,t1,t2)=>
 (bif (decide (t2<t1)) then (need (decide (0≤t2)&&decide (t2<t.length)) (need (decide (0≤t2)&&decide (t2≤names.length)) ((Zc7.l0 ((((names.take t2.toNat).length:Int)-(0:Int)).toNat+1) (names,(t.getD t2.toNat []),t,t1,t2,(names.take t2.toNat),((names.take t2.toNat).length:Int),0)).bind fun r=>match r with
 | .inl (names2,t9,t10,t11)=>(again (names2,t9,t10,(w64 (t11+1))))
 | .inr r=>some r))) else
 (some (.inl ())))
def Zc7.l1:=ZaC Zc7.l1.step
theorem Zc7.l1.succ (n:Nat) t:Zc7.l1 (n+1) t=Zc7.l1.step (Zc7.l1 n) t:=rfl
def Zc7 (xs:List Str):Option (Bool):=
 ((Zc7.l1 (((xs.length:Int)-(0:Int)).toNat+1) (xs,xs,(xs.length:Int),0)).bind fun r=>match r with
 | .inl _=>(some true)
 | .inr r=>some r)
def Zec (num:Int) (bits:Int):Option (Bool):=
 (((Zbt bits 0 16).bind fun within_=>
 (bif within_ then (need (decide (0≤bits)) ((Zbt num 0 (w64 ((Zrw .i64 1 bits)-1))).bind fun within_1=>
 (some within_1))) else
 (some false))).bind fun c=>
 (some c))
def ZeL.l0.step (again:(Int×Int×Int×Int×List Int)→Option (Int×List Int)):(Int×Int×Int×Int×List Int)→Option (Int×List Int):=fun (num1,t,t1,o,o1)=>
 (bif (decide (t1<t)) then (((bif ((o.tmod 8)==0) then (need (fits (o1.length+([0]:List (Int)).length)) (some (num1,t1,t,t1,o,(o1++[0])))) else
 (some (num1,t1,t,t1,o,o1))):Option (Int×Int×Int×Int×Int×List Int)).bind fun (num2,k,t2,t3,o2,o3)=>
 (need (decide (0≤(w64 (o2.tdiv 8)))&&decide ((w64 (o2.tdiv 8))<o3.length)) (need (decide (0≤k)) (need (decide (0≤(o2.tmod 8))) (need (decide (0≤(w64 (o2.tdiv 8)))&&decide ((w64 (o2.tdiv 8))<o3.length)) (again (num2,t2,(w64 (t3+1)),(w64 (o2+1)),(o3.set ((w64 (o2.tdiv 8)).toNat) (ior .u8 (o3.getD ((w64 (o2.tdiv 8)).toNat) 0) (IntKind.wrap .u8 (Zrw .i64 (ZkF .i64 (ZmO .i64 num2 k) 1) (o2.tmod 8)))))))))))) else
 (some (o,o1)))
def ZeL.l0:=ZaC ZeL.l0.step
theorem ZeL.l0.succ (n:Nat) t:ZeL.l0 (n+1) t=ZeL.l0.step (ZeL.l0 n) t:=rfl
def ZeL (num:Int) (bits:Int) (many:Int) (b:List Int):Option (Int×List Int):=
 ((ZeL.l0 ((bits-(0:Int)).toNat+1) (num,bits,0,many,b)).bind fun (o4,o5)=>
 (some (o4,o5)))
def Zju (many:Int) (b:List Int):Option (Int×List Int):=
 (some ((w64 (8*(b.length:Int))),b))
def Zik (s:Str) (at_:Int) (bad:Bool):Option (Int×Str×Int×Bool):=
 (bif (decide (at_≥(w64 (8*(s.length:Int))))) then (some (0,s,at_,true)) else
 (need (decide (0≤(w64 (at_.tdiv 8)))&&decide ((w64 (at_.tdiv 8))<s.length)) (need (decide (0≤(at_.tmod 8))) (some ((ZkF .i64 (ZmO .i64 (w64 ((s.getD (w64 (at_.tdiv 8)).toNat 0).toNat:Int)) (at_.tmod 8)) 1),s,(w64 (at_+1)),bad)))))
def ZeO.l0.step (again:(Int×Int×Int×Str×Int×Bool)→Option (Int×Str×Int×Bool)):(Int×Int×Int×Str×Int×Bool)→Option (Int×Str×Int×Bool):=fun (n,t,t1,o,o1,o2)=>
 (bif (decide (t1<t)) then ((Zik o o1 o2).bind fun (r,r1,r2,r3)=>
 (need (decide (0≤t1)) (again ((ior .i64 n (Zrw .i64 r t1)),t,(w64 (t1+1)),r1,r2,r3)))) else
 (some (n,o,o1,o2)))
def ZeO.l0:=ZaC ZeO.l0.step
theorem ZeO.l0.succ (n:Nat) t:ZeO.l0 (n+1) t=ZeO.l0.step (ZeO.l0 n) t:=rfl
def ZeO (bits:Int) (s:Str) (at_:Int) (bad:Bool):Option (Int×Str×Int×Bool):=
 ((ZeO.l0 ((bits-(0:Int)).toNat+1) (0,bits,0,s,at_,bad)).bind fun (n1,o3,o4,o5)=>
 (some (n1,o3,o4,o5)))
def Zd7.l0.step (again:(Str×Int×Bool)→Option (Str×Int×Bool)):(Str×Int×Bool)→Option (Str×Int×Bool):=fun (o,o1,o2)=>
 (bif ((o1.tmod 8) != 0) then ((Zik o o1 o2).bind fun (r,r1,r2,r3)=>
 (bif (r != 0) then (again (r1,r2,true)) else
 (again (r1,r2,r3)))) else
 (some (o,o1,o2)))
def Zd7.l0:=ZaC Zd7.l0.step
theorem Zd7.l0.succ (n:Nat) t:Zd7.l0 (n+1) t=Zd7.l0.step (Zd7.l0 n) t:=rfl
def Zd7 (s:Str) (at_:Int) (bad:Bool):Option (Str×Int×Bool):=
 ((Zd7.l0 (9) (s,at_,bad)).bind fun (o3,o4,o5)=>
 (some (o3,o4,o5)))
def Zby.l0.step (again:(Int×Int×Int×Int)→Option (Int)):(Int×Int×Int×Int)→Option (Int):=fun (num1,out,t,t1)=>
 (bif (decide (t1<t)) then (need (decide (0≤t1)) (again (num1,(w64 ((w64 (2*out))+(ZkF .i64 (ZmO .i64 num1 t1) 1))),t,(w64 (t1+1))))) else
 (some out))
def Zby.l0:=ZaC Zby.l0.step
theorem Zby.l0.succ (n:Nat) t:Zby.l0 (n+1) t=Zby.l0.step (Zby.l0 n) t:=rfl
def Zby (num:Int) (bits:Int):Option (Int):=
 ((Zec num bits).bind fun pieceOk_=>
 (bif (!pieceOk_) then (some (-1)) else
 ((Zby.l0 ((bits-(0:Int)).toNat+1) (num,0,bits,0)).bind fun out1=>
 (some out1))))
def ZaD.l0.step (again:(Int×Str×Int×Int)→Option (Int×Str×Int)):(Int×Str×Int×Int)→Option (Int×Str×Int):=fun (crc_2,text2,k1,t)=>
 (bif (decide (t<8)) then (again ((Zk1 .u32 (ZmO .u32 crc_2 1) (IntKind.wrap .u32 (3988292384*(ZkF .u32 crc_2 1)))),text2,k1,(w64 (t+1)))) else
 (some (crc_2,text2,k1)))
def ZaD.l0:=ZaC ZaD.l0.step
theorem ZaD.l0.succ (n:Nat) t:ZaD.l0 (n+1) t=ZaD.l0.step (ZaD.l0 n) t:=rfl
def ZaD.l1.step (again:(Int×Str×Int)→Option (Int)):(Int×Str×Int)→Option (Int):=fun (crc_1,text1,k)=>
 (bif (decide (k<(text1.length:Int))) then (need (decide (0≤k)&&decide (k<text1.length)) ((ZaD.l0 ((8-(0:Int)).toNat+1) ((Zk1 .u32 crc_1 (IntKind.wrap .u32 ((text1.getD k.toNat 0).toNat:Int))),text1,k,0)).bind fun (crc_3,text3,k2)=>
 (again (crc_3,text3,(w64 (k2+1)))))) else
 (some crc_1))
def ZaD.l1:=ZaC ZaD.l1.step
theorem ZaD.l1.succ (n:Nat) t:ZaD.l1 (n+1) t=ZaD.l1.step (ZaD.l1 n) t:=rfl
def ZaD (crc_:Int) (text:Str):Option (Int):=
 ((ZaD.l1 (((text.length:Int)-(0:Int)).toNat+1) ((Zk1 .u32 (IntKind.max .u32) crc_),text,0)).bind fun crc_4=>
 (some (Zk1 .u32 (IntKind.max .u32) crc_4)))
def crc (text:Str):Option (Int):=
 ((ZaD 0 text).bind fun crcUpdat=>
 (some (w64 crcUpdat)))
def Zb1.l0.step (again:(Int×Int×Int×List Int×Int×Int)→Option ((Int×Int×Int)⊕(Bool))):(Int×Int×Int×List Int×Int×Int)→Option ((Int×Int×Int)⊕(Bool)):=fun (sum,many,last,t,t1,t2)=>
 (bif (decide (t2<t1)) then (need (decide (0≤t2)&&decide (t2<t.length)) ((Zbt (t.getD t2.toNat 0) 0 15).bind fun within_=>
 (bif (!within_) then ((some false).map Sum.inr) else
 (bif (decide ((t.getD t2.toNat 0)>0)) then (need (decide (0≤(w64 (15-(t.getD t2.toNat 0))))) (again ((w64 (sum+(Zrw .i64 1 (w64 (15-(t.getD t2.toNat 0)))))),(w64 (many+1)),(t.getD t2.toNat 0),t,t1,(w64 (t2+1))))) else
 (again (sum,many,last,t,t1,(w64 (t2+1)))))))) else
 (some (.inl (sum,many,last))))
def Zb1.l0:=ZaC Zb1.l0.step
theorem Zb1.l0.succ (n:Nat) t:Zb1.l0 (n+1) t=Zb1.l0.step (Zb1.l0 n) t:=rfl
def Zb1 (lens:List Int):Option (Bool):=
 (bif (decide ((lens.length:Int)>300)) then (some false) else
 ((Zb1.l0 (((lens.length:Int)-(0:Int)).toNat+1) (0,0,0,lens,(lens.length:Int),0)).bind fun r=>match r with
 | .inl (sum1,many1,last1)=>((bif (sum1==32768) then (some true) else
 (bif (many1==1) then (some (last1==1)) else
 (some false))).bind fun c=>
 (some c))
 | .inr r=>some r))
def Zct.l0.step (again:(List Int×Int×Int×List Int×Int×Int×List Int)→Option (List Int×Int×Int×List Int)):(List Int×Int×Int×List Int×Int×Int×List Int)→Option (List Int×Int×Int×List Int):=fun (lens2,next_1,l1,t,t1,t2,out1)=>
 (bif (decide (t2<t1)) then (need (decide (0≤t2)&&decide (t2<t.length)) (bif ((t.getD t2.toNat 0)==l1) then (need (decide (0≤t2)&&decide (t2<out1.length)) (again (lens2,(w64 (next_1+1)),l1,t,t1,(w64 (t2+1)),(out1.set t2.toNat next_1)))) else
 (again (lens2,next_1,l1,t,t1,(w64 (t2+1)),out1)))) else
 (some (lens2,next_1,l1,out1)))
def Zct.l0:=ZaC Zct.l0.step
theorem Zct.l0.succ (n:Nat) t:Zct.l0 (n+1) t=Zct.l0.step (Zct.l0 n) t:=rfl
def Zct.l1.step (again:(List Int×Int×Int×List Int)→Option (List Int)):(List Int×Int×Int×List Int)→Option (List Int):=fun (lens1,next_,l,out)=>
 (bif (decide (l≤15)) then ((Zct.l0 (((lens1.length:Int)-(0:Int)).toNat+1) (lens1,next_,l,lens1,(lens1.length:Int),0,out)).bind fun (lens3,next_2,l2,out2)=>
 (again (lens3,(w64 (next_2*2)),(w64 (l2+1)),out2))) else
 (some out))
def Zct.l1:=ZaC Zct.l1.step
theorem Zct.l1.succ (n:Nat) t:Zct.l1 (n+1) t=Zct.l1.step (Zct.l1 n) t:=rfl
def Zct (lens:List Int):Option (List Int):=
 (need (decide (0≤(lens.length:Int))&&fits (lens.length:Int).toNat) ((Zct.l1 ((15-(1:Int)).toNat+2) (lens,0,1,(List.replicate (lens.length:Int).toNat (0:Int)))).bind fun out3=>
 (some out3)))
def Za0.l0.step (again:((List (Int×List Int))×Int×(List (Int×List Int))×Int×Int×Int×List Int)→Option ((List (Int×List Int))×Int×Int×List Int)):((List (Int×List Int))×Int×(List (Int×List Int))×Int×Int×Int×List Int)→Option ((List (Int×List Int))×Int×Int×List Int):=fun (list1,at_,t,t1,t2,o,o1)=>
 (bif (decide (t2<t1)) then (need (decide (0≤t2)&&decide (t2<t.length)) ((need (decide (0≤at_)&&decide (at_<list1.length)) (bif (decide ((t.getD t2.toNat (0,[])).1<(list1.getD at_.toNat (0,[])).1)) then (some true) else
 (need (decide (0≤at_)&&decide (at_<list1.length)) (bif ((t.getD t2.toNat (0,[])).1==(list1.getD at_.toNat (0,[])).1) then (need (decide (0≤(0:Int))&&decide ((0:Int)<((t.getD t2.toNat (0,[])).2).length)) (need (decide (0≤at_)&&decide (at_<list1.length)) (need (decide (0≤(0:Int))&&decide ((0:Int)<((list1.getD at_.toNat (0,[])).2).length)) (some (decide ((((t.getD t2.toNat (0,[])).2).getD 0 0)<(((list1.getD at_.toNat (0,[])).2).getD 0 0))))))) else
 (some false))))).bind fun c=>
 (bif c then (again (list1,t2,t,t1,(w64 (t2+1)),o,o1)) else
 (again (list1,at_,t,t1,(w64 (t2+1)),o,o1))))) else
 (some (list1,at_,o,o1)))
def Za0.l0:=ZaC Za0.l0.step
theorem Za0.l0.succ (n:Nat) t:Za0.l0 (n+1) t=Za0.l0.step (Za0.l0 n) t:=rfl
def Za0 (list:List (Int×List Int)):Option (Int×List Int×List (Int×List Int)):=
 ((Za0.l0 (((list.length:Int)-(0:Int)).toNat+1) (list,0,list,(list.length:Int),0,0,[])).bind fun (list2,at_1,o2,o3)=>
 (need (decide (0≤at_1)&&decide (at_1<list2.length)) (need (decide (0≤at_1)&&decide (at_1≤list2.length)) (need (fits (([]:List (Int×List Int)).length+(list2.take at_1.toNat).length)) (need (decide (0≤(w64 (at_1+1)))&&decide ((w64 (at_1+1))≤list2.length)) (need (fits (([]++(list2.take at_1.toNat)).length+(list2.drop (w64 (at_1+1)).toNat).length)) (some ((list2.getD at_1.toNat (0,[])).1,(list2.getD at_1.toNat (0,[])).2,(([]++(list2.take at_1.toNat))++(list2.drop (w64 (at_1+1)).toNat))))))))))
def Zbh.l1.step (again:(Int×Int×List Int×Int×List Int×Int×List Int×(List (Int×List Int))×List Int)→Option (List Int×Int×List Int×Int×List Int×(List (Int×List Int))×List Int)):(Int×Int×List Int×Int×List Int×Int×List Int×(List (Int×List Int))×List Int)→Option (List Int×Int×List Int×Int×List Int×(List (Int×List Int))×List Int):=fun (t3,t4,out3,o,o1,o2,o3,left,o4)=>
 (bif (decide (t4<t3)) then (need (decide (0≤t4)&&decide (t4<o4.length)) (need (decide (0≤(o4.getD t4.toNat 0))&&decide ((o4.getD t4.toNat 0)<out3.length)) (need (decide (0≤(o4.getD t4.toNat 0))&&decide ((o4.getD t4.toNat 0)<out3.length)) (need (decide (0≤(0:Int))&&decide ((0:Int)<o4.length)) (bif (decide ((o4.getD t4.toNat 0)<(o4.getD 0 0))) then (need (decide (0≤(0:Int))&&decide ((0:Int)<o4.length)) (need (decide (0≤(0:Int))&&decide ((0:Int)<o4.length)) (need (decide (0≤t4)&&decide (t4<(o4.set 0 (o4.getD t4.toNat 0)).length)) (again (t3,(w64 (t4+1)),(out3.set ((o4.getD t4.toNat 0).toNat) (w64 ((out3.getD ((o4.getD t4.toNat 0).toNat) 0)+1))),o,o1,o2,o3,left,((o4.set 0 (o4.getD t4.toNat 0)).set t4.toNat (o4.getD 0 0))))))) else
 (again (t3,(w64 (t4+1)),(out3.set ((o4.getD t4.toNat 0).toNat) (w64 ((out3.getD ((o4.getD t4.toNat 0).toNat) 0)+1))),o,o1,o2,o3,left,o4))))))) else
 (some (out3,o,o1,o2,o3,left,o4)))
def Zbh.l1:=ZaC Zbh.l1.step
theorem Zbh.l1.succ (n:Nat) t:Zbh.l1 (n+1) t=Zbh.l1.step (Zbh.l1 n) t:=rfl
def Zbh.l2.step (again:(List Int×List (Int×List Int))→Option (List Int)):(List Int×List (Int×List Int))→Option (List Int):=fun (out2,list2)=>
 (bif (decide ((list2.length:Int)>1)) then ((Za0 list2).bind fun (r,r1,r2)=>
 ((Za0 r2).bind fun (r3,r4,r5)=>
 (need (fits (([]:List (Int)).length+r1.length)) (need (fits (([]++r1).length+r4.length)) ((Zbh.l1 ((((([]++r1)++r4).length:Int)-(0:Int)).toNat+1) (((([]++r1)++r4).length:Int),0,out2,r,r1,r3,r4,r5,(([]++r1)++r4))).bind fun (out4,o5,o6,o7,o8,left1,syms)=>
 (need (fits (left1.length+([((w64 (o5+o7)),syms)]:List (Int×List Int)).length)) (again (out4,(left1++[((w64 (o5+o7)),syms)]))))))))) else
 (some out2))
def Zbh.l2:=ZaC Zbh.l2.step
theorem Zbh.l2.succ (n:Nat) t:Zbh.l2 (n+1) t=Zbh.l2.step (Zbh.l2 n) t:=rfl
def Zbh.l0.step (again:(List Int×Int×Int×List Int×List (Int×List Int))→Option (List Int×List (Int×List Int))):(List Int×Int×Int×List Int×List (Int×List Int))→Option (List Int×List (Int×List Int)):=fun (t,t1,t2,out,list)=>
 (bif (decide (t2<t1)) then (need (decide (0≤t2)&&decide (t2<t.length)) (bif (decide ((t.getD t2.toNat 0)>0)) then (need (fits (list.length+([((t.getD t2.toNat 0),[t2])]:List (Int×List Int)).length)) (again (t,t1,(w64 (t2+1)),out,(list++[((t.getD t2.toNat 0),[t2])])))) else
 (again (t,t1,(w64 (t2+1)),out,list)))) else
 (some (out,list)))
def Zbh.l0:=ZaC Zbh.l0.step
theorem Zbh.l0.succ (n:Nat) t:Zbh.l0 (n+1) t=Zbh.l0.step (Zbh.l0 n) t:=rfl
def Zbh (counts:List Int):Option (List Int):=
 (need (decide (0≤(counts.length:Int))&&fits (counts.length:Int).toNat) ((Zbh.l0 (((counts.length:Int)-(0:Int)).toNat+1) (counts,(counts.length:Int),0,(List.replicate (counts.length:Int).toNat (0:Int)),[])).bind fun (out1,list1)=>
 (bif ((list1.length:Int)==1) then (need (decide (0≤(0:Int))&&decide ((0:Int)<list1.length)) (need (decide (0≤(0:Int))&&decide ((0:Int)<((list1.getD 0 (0,[])).2).length)) (need (decide (0≤(((list1.getD 0 (0,[])).2).getD 0 0))&&decide ((((list1.getD 0 (0,[])).2).getD 0 0)<out1.length)) (some (out1.set ((((list1.getD 0 (0,[])).2).getD 0 0).toNat) 1))))) else
 ((Zbh.l2 (((list1.length:Int)-1).toNat+1) (out1,list1)).bind fun out5=>
 (some out5)))))
def ZaV.l2.step (again:(Int×Int×Int×List Int)→Option (Int×List Int)):(Int×Int×Int×List Int)→Option (Int×List Int):=fun (most6,t5,t6,now5)=>
 (bif (decide (t6<t5)) then (need (decide (0≤t6)&&decide (t6<now5.length)) (need (decide (0≤t6)&&decide (t6<now5.length)) (again (most6,t5,(w64 (t6+1)),(now5.set t6.toNat (w64 ((w64 ((now5.getD t6.toNat 0)+1)).tdiv 2))))))) else
 (some (most6,now5)))
def ZaV.l2:=ZaC ZaV.l2.step
theorem ZaV.l2.succ (n:Nat) t:ZaV.l2 (n+1) t=ZaV.l2.step (ZaV.l2 n) t:=rfl
def ZaV.l1.step (again:(Int×Int×Int×Int×List Int×List Int)→Option (Int×Int×List Int×List Int)):(Int×Int×Int×Int×List Int×List Int)→Option (Int×Int×List Int×List Int):=fun (most4,long,t3,t4,now3,o)=>
 (bif (decide (t4<t3)) then (need (decide (0≤t4)&&decide (t4<o.length)) (again (most4,(ZnC long (o.getD t4.toNat 0)),t3,(w64 (t4+1)),now3,o))) else
 (some (most4,long,now3,o)))
def ZaV.l1:=ZaC ZaV.l1.step
theorem ZaV.l1.succ (n:Nat) t:ZaV.l1 (n+1) t=ZaV.l1.step (ZaV.l1 n) t:=rfl
def ZaV.l3.step (again:(Int×List Int)→Option ((Unit)⊕(List Int))):(Int×List Int)→Option ((Unit)⊕(List Int)):=fun (most3,now2)=>
 ((Zbh now2).bind fun depths_=>
 ((ZaV.l1 (((depths_.length:Int)-(0:Int)).toNat+1) (most3,0,(depths_.length:Int),0,now2,depths_)).bind fun (most5,long1,now4,out)=>
 (bif (decide (long1≤most5)) then ((some out).map Sum.inr) else
 ((ZaV.l2 (((now4.length:Int)-(0:Int)).toNat+1) (most5,(now4.length:Int),0,now4)).bind fun (most7,now6)=>
 (again (most7,now6))))))
def ZaV.l3:=ZaC ZaV.l3.step
theorem ZaV.l3.succ (n:Nat) t:ZaV.l3 (n+1) t=ZaV.l3.step (ZaV.l3 n) t:=rfl
def ZaV.l0.step (again:(Int×Int×List Int×Int×Int×List Int)→Option ((Int×Int×List Int)⊕(List Int))):(Int×Int×List Int×Int×Int×List Int)→Option ((Int×Int×List Int)⊕(List Int)):=fun (most1,many,t,t1,t2,now)=>
 (bif (decide (t2<t1)) then (need (decide (0≤t2)&&decide (t2<t.length)) ((Zbt (t.getD t2.toNat 0) 0 100000).bind fun within_1=>
 (bif (!within_1) then ((some []).map Sum.inr) else
 (bif (decide ((t.getD t2.toNat 0)>0)) then (need (fits (now.length+([(t.getD t2.toNat 0)]:List (Int)).length)) (again (most1,(w64 (many+1)),t,t1,(w64 (t2+1)),(now++[(t.getD t2.toNat 0)])))) else
 (need (fits (now.length+([(t.getD t2.toNat 0)]:List (Int)).length)) (again (most1,many,t,t1,(w64 (t2+1)),(now++[(t.getD t2.toNat 0)])))))))) else
 (some (.inl (most1,many,now))))
def ZaV.l0:=ZaC ZaV.l0.step
theorem ZaV.l0.succ (n:Nat) t:ZaV.l0 (n+1) t=ZaV.l0.step (ZaV.l0 n) t:=rfl
def ZaV (counts:List Int) (most:Int):Option (List Int):=
 ((bif (decide ((counts.length:Int)>300)) then (some true) else
 ((Zbt most 1 15).bind fun within_=>
 (some (!within_)))).bind fun c=>
 (bif c then (some []) else
 ((ZaV.l0 (((counts.length:Int)-(0:Int)).toNat+1) (most,0,counts,(counts.length:Int),0,[])).bind fun r=>match r with
 | .inl (most2,many1,now1)=>(need (decide (0≤(w64 (most2-1)))) ((Zbt many1 1 (Zrw .i64 1 (w64 (most2-1)))).bind fun within_2=>
 (bif (!within_2) then (some []) else
 ((ZaV.l3 (100000) (most2,now1)).bind fun r=>match r with
 | .inl _=>none
 | .inr r=>some r))))
 | .inr r=>some r)))
def Zb3.l0.step (again:(List Int×Int×Int×(List ((Int×Int)×Int))×List Int)→Option (List ((Int×Int)×Int))):(List Int×Int×Int×(List ((Int×Int)×Int))×List Int)→Option (List ((Int×Int)×Int)):=fun (lens1,t,t1,o,o1)=>
 (bif (decide (t1<t)) then (need (decide (0≤t1)&&decide (t1<o1.length)) (need (decide (0≤t1)&&decide (t1<lens1.length)) (bif (decide ((lens1.getD t1.toNat 0)>0)) then (need (decide (0≤t1)&&decide (t1<lens1.length)) (again (lens1,t,(w64 (t1+1)),(Ze6 [.int .i64,.int .i64] [.int .i64] o ((o1.getD t1.toNat 0),(lens1.getD t1.toNat 0)) t1),o1))) else
 (again (lens1,t,(w64 (t1+1)),o,o1))))) else
 (some o))
def Zb3.l0:=ZaC Zb3.l0.step
theorem Zb3.l0.succ (n:Nat) t:Zb3.l0 (n+1) t=Zb3.l0.step (Zb3.l0 n) t:=rfl
def Zb3 (lens:List Int):Option (List ((Int×Int)×Int)):=
 ((Zct lens).bind fun codes_=>
 ((Zb3.l0 (((codes_.length:Int)-(0:Int)).toNat+1) (lens,(codes_.length:Int),0,[],codes_)).bind fun o2=>
 (some o2)))
def Zbj.l0.step (again:(Int×Int×Str×Int×Bool×List ((Int×Int)×Int))→Option ((Str×Int×Bool×List ((Int×Int)×Int))⊕(Int×Str×Int×Bool×List ((Int×Int)×Int)))):(Int×Int×Str×Int×Bool×List ((Int×Int)×Int))→Option ((Str×Int×Bool×List ((Int×Int)×Int))⊕(Int×Str×Int×Bool×List ((Int×Int)×Int))):=fun (code_,l,o,o1,o2,o3)=>
 (bif (decide (l≤15)) then ((Zik o o1 o2).bind fun (r,r1,r2,r3)=>
 ((bif (Zee [.int .i64,.int .i64] [.int .i64] o3 ((w64 ((w64 (2*code_))+r)),l)).isSome then (some (!r3)) else
 (some false)).bind fun c=>
 (bif c then ((some (((Zee [.int .i64,.int .i64] [.int .i64] o3 ((w64 ((w64 (2*code_))+r)),l)).getD 0),r1,r2,r3,o3)).map Sum.inr) else
 (again ((w64 ((w64 (2*code_))+r)),(w64 (l+1)),r1,r2,r3,o3))))) else
 (some (.inl (o,o1,o2,o3))))
def Zbj.l0:=ZaC Zbj.l0.step
theorem Zbj.l0.succ (n:Nat) t:Zbj.l0 (n+1) t=Zbj.l0.step (Zbj.l0 n) t:=rfl
def Zbj (s:Str) (at_:Int) (bad:Bool) (book:List ((Int×Int)×Int)):Option (Int×Str×Int×Bool×List ((Int×Int)×Int)):=
 ((Zbj.l0 ((15-(1:Int)).toNat+2) (0,1,s,at_,bad,book)).bind fun r=>match r with
 | .inl (o4,o5,o6,o7)=>(some (0,o4,o5,true,o7))
 | .inr r=>some r)
def add.l0.step (again:(Int×Int×List Int×Int×Int×Int)→Option (List Int)):(Int×Int×List Int×Int×Int×Int)→Option (List Int):=fun (t,t1,out1,o,o1,o2)=>
 (bif (decide (t1<t)) then (need (decide (0≤(w64 ((out1.length:Int)-o2)))&&decide ((w64 ((out1.length:Int)-o2))<out1.length)) (need (fits (out1.length+([(out1.getD ((w64 ((out1.length:Int)-o2)).toNat) 0)]:List (Int)).length)) (again (t,(w64 (t1+1)),(out1++[(out1.getD ((w64 ((out1.length:Int)-o2)).toNat) 0)]),o,o1,o2)))) else
 (some out1))
def add.l0:=ZaC add.l0.step
theorem add.l0.succ (n:Nat) t:add.l0 (n+1) t=add.l0.step (add.l0 n) t:=rfl
def add (byte:Int) (long:Int) (back:Int) (out:List Int):Option (Bool×List Int):=
 (bif (long==0) then ((bif (back != 0) then (some true) else
 ((Zbt byte 0 255).bind fun within_=>
 (some (!within_)))).bind fun c=>
 (bif c then (some (false,[])) else
 (need (fits (out.length+([(IntKind.wrap .u8 byte)]:List (Int)).length)) (some (true,(out++[(IntKind.wrap .u8 byte)])))))) else
 ((bif (byte != 0) then (some true) else
 ((Zbt long 3 60).bind fun within_1=>
 (bif (!within_1) then (some true) else
 ((Zbt back 1 (ZkC 250 (out.length:Int))).bind fun within_2=>
 (some (!within_2)))))).bind fun c1=>
 (bif c1 then (some (false,[])) else
 ((add.l0 ((long-(0:Int)).toNat+1) (long,0,out,byte,long,back)).bind fun out2=>
 (some (true,out2))))))
def Zap.l0.step (again:(Str×Int×Int×Int×(List (Int×Int×Int))×Int×Int×Int)→Option (Str×Int×Int×Int×(List (Int×Int×Int))×Int×Int×Int)):(Str×Int×Int×Int×(List (Int×Int×Int))×Int×Int×Int)→Option (Str×Int×Int×Int×(List (Int×Int×Int))×Int×Int×Int):=fun (text3,at_2,back1,n,out2,o3,o4,o5)=>
 ((bif (decide (n<60)) then (bif (decide ((w64 (at_2+n))<(text3.length:Int))) then (need (decide (0≤(w64 (at_2+n)))&&decide ((w64 (at_2+n))<text3.length)) (need (decide (0≤(w64 ((w64 (at_2+n))-back1)))&&decide ((w64 ((w64 (at_2+n))-back1))<text3.length)) (some (((text3.getD (w64 (at_2+n)).toNat 0).toNat:Int)==((text3.getD (w64 ((w64 (at_2+n))-back1)).toNat 0).toNat:Int))))) else
 (some false)) else
 (some false)).bind fun c=>
 (bif c then (again (text3,at_2,back1,(w64 (n+1)),out2,o3,o4,o5)) else
 (some (text3,at_2,back1,n,out2,o3,o4,o5))))
def Zap.l0:=ZaC Zap.l0.step
theorem Zap.l0.succ (n:Nat) t:Zap.l0 (n+1) t=Zap.l0.step (Zap.l0 n) t:=rfl
def Zap.l1.step (again:(Str×Int×Int×(List (Int×Int×Int))×Int×Int×Int)→Option (Str×Int×(List (Int×Int×Int))×Int×Int×Int)):(Str×Int×Int×(List (Int×Int×Int))×Int×Int×Int)→Option (Str×Int×(List (Int×Int×Int))×Int×Int×Int):=fun (text2,at_1,back,out1,o,o1,o2)=>
 (bif (decide (back≤(ZkC 250 at_1))) then ((Zap.l0 ((60-(0:Int)).toNat+1) (text2,at_1,back,0,out1,o,o1,o2)).bind fun (text4,at_3,back2,n1,out3,o6,o7,o8)=>
 ((bif (decide (n1≥3)) then (some (decide (n1>o7))) else
 (some false)).bind fun c1=>
 (bif c1 then (again (text4,at_3,(w64 (back2+1)),out3,0,n1,back2)) else
 (again (text4,at_3,(w64 (back2+1)),out3,o6,o7,o8))))) else
 (some (text2,at_1,out1,o,o1,o2)))
def Zap.l1:=ZaC Zap.l1.step
theorem Zap.l1.succ (n:Nat) t:Zap.l1 (n+1) t=Zap.l1.step (Zap.l1 n) t:=rfl
def Zap.l2.step (again:(Str×Int×List (Int×Int×Int))→Option (List (Int×Int×Int))):(Str×Int×List (Int×Int×Int))→Option (List (Int×Int×Int)):=fun (text1,at_,out)=>
 (bif (decide (at_<(text1.length:Int))) then (need (decide (0≤at_)&&decide (at_<text1.length)) ((Zap.l1 (((ZkC 250 at_)-(1:Int)).toNat+2) (text1,at_,1,out,(w64 ((text1.getD at_.toNat 0).toNat:Int)),0,0)).bind fun (text5,at_4,out4,o9,o10,o11)=>
 (need (fits (out4.length+([(o9,o10,o11)]:List (Int×Int×Int)).length)) (again (text5,(w64 (at_4+(ZnC o10 1))),(out4++[(o9,o10,o11)])))))) else
 (some out))
def Zap.l2:=ZaC Zap.l2.step
theorem Zap.l2.succ (n:Nat) t:Zap.l2 (n+1) t=Zap.l2.step (Zap.l2 n) t:=rfl
def Zap (text:Str):Option (List (Int×Int×Int)):=
 (bif (decide ((text.length:Int)>300)) then (some []) else
 ((Zap.l2 (((text.length:Int)-(0:Int)).toNat+1) (text,0,[])).bind fun out5=>
 (some out5)))
def Zcg.l0.step (again:(Int×Int×Int×Int×Int×List Int×List Int×List Int×List Int)→Option (List Int×List Int×List Int×List Int)):(Int×Int×Int×Int×Int×List Int×List Int×List Int×List Int)→Option (List Int×List Int×List Int×List Int):=fun (from_1,plain1,each1,t,t1,o,o1,o2,o3)=>
 (bif (decide (t1<t)) then (((bif (decide (t1≥plain1)) then (need (each1 != 0) (some (from_1,plain1,each1,(w64 ((w64 ((w64 (t1-plain1)).tdiv each1))+1)),t,t1,o,o1,o2,o3))) else
 (some (from_1,plain1,each1,0,t,t1,o,o1,o2,o3))):Option (Int×Int×Int×Int×Int×Int×List Int×List Int×List Int×List Int)).bind fun (from_2,plain2,each2,bits,t2,t3,o4,o5,o6,o7)=>
 (need (fits (o6.length+([from_2]:List (Int)).length)) (need (fits (o7.length+([bits]:List (Int)).length)) (need (decide (0≤bits)) (again ((w64 (from_2+(Zrw .i64 1 bits))),plain2,each2,t2,(w64 (t3+1)),o4,o5,(o6++[from_2]),(o7++[bits]))))))) else
 (some (o,o1,o2,o3)))
def Zcg.l0:=ZaC Zcg.l0.step
def Zcg (from_:Int) (many:Int) (plain:Int) (each:Int):Option (List Int×List Int):=
 ((Zcg.l0 ((many-(0:Int)).toNat+1) (from_,plain,each,many,0,[],[],[],[])).bind fun (o8,o9,o10,o11)=>
 (some (o10,o11)))
def ZbQ:Option (List Int×List Int):=
 ((Zcg 3 28 8 4).bind fun (r,r1)=>
 (some (r,r1)))
def ZbV:Option (List Int×List Int):=
 ((Zcg 1 30 4 2).bind fun (r,r1)=>
 (some (r,r1)))
def Zce.l0.step (again:(Int×Int×List Int×List Int)→Option (Int)):(Int×Int×List Int×List Int)→Option (Int):=fun (n1,k,o,o1)=>
 (need (decide (0≤k)&&decide (k<o.length)) (bif (decide ((o.getD k.toNat 0)>n1)) then (again (n1,(w64 (k-1)),o,o1)) else
 (some k)))
def Zce.l0:=ZaC Zce.l0.step
def Zce (first:List Int) (bits:List Int) (n:Int):Option (Int):=
 ((Zce.l0 ((w64 ((first.length:Int)-1)).toNat+1) (n,(w64 ((first.length:Int)-1)),first,bits)).bind fun k1=>
 (some k1))
def Zbl.l1.step (again:(Int×Int×List Int×List Int)→Option (List Int×List Int)):(Int×Int×List Int×List Int)→Option (List Int×List Int):=fun (t2,t3,lit2,dist)=>
 (bif (decide (t3<t2)) then (need (decide (0≤t3)&&decide (t3<dist.length)) (again (t2,(w64 (t3+1)),lit2,(dist.set t3.toNat 5)))) else
 (some (lit2,dist)))
def Zbl.l1:=ZaC Zbl.l1.step
def Zbl.l0.step (again:(Int×Int×List Int)→Option (List Int)):(Int×Int×List Int)→Option (List Int):=fun (t,t1,lit)=>
 (bif (decide (t1<t)) then ((bif (decide (t1<144)) then (some true) else
 (some (decide (t1≥280)))).bind fun c=>
 (bif c then (need (decide (0≤t1)&&decide (t1<lit.length)) (again (t,(w64 (t1+1)),(lit.set t1.toNat 8)))) else
 (bif (decide (t1<256)) then (need (decide (0≤t1)&&decide (t1<lit.length)) (again (t,(w64 (t1+1)),(lit.set t1.toNat 9)))) else
 (need (decide (0≤t1)&&decide (t1<lit.length)) (again (t,(w64 (t1+1)),(lit.set t1.toNat 7))))))) else
 (some lit))
def Zbl.l0:=ZaC Zbl.l0.step
def Zbl:Option (List Int×List Int):=
 (need (decide (0≤288)&&fits 288) ((Zbl.l0 ((((List.replicate 288 (0:Int)).length:Int)-(0:Int)).toNat+1) (((List.replicate 288 (0:Int)).length:Int),0,(List.replicate 288 (0:Int)))).bind fun lit1=>
 (need (decide (0≤32)&&fits 32) ((Zbl.l1 ((((List.replicate 32 (0:Int)).length:Int)-(0:Int)).toNat+1) (((List.replicate 32 (0:Int)).length:Int),0,lit1,(List.replicate 32 (0:Int)))).bind fun (lit3,dist1)=>
 (some (lit3,dist1))))))
def Zdq (text:Str):Option (Str):=
 (bif (decide ((text.length:Int)>300)) then (some []) else
 ((ZeL 1 3 0 []).bind fun (r,r1)=>
 ((Zju r r1).bind fun (r2,r3)=>
 ((ZeL (text.length:Int) 16 r2 r3).bind fun (r4,r5)=>
 ((ZeL (w64 (65535-(text.length:Int))) 16 r4 r5).bind fun (r6,r7)=>
 (need (fits ((Zbv r7).length+text.length)) (some ((Zbv r7)++text))))))))
def Zf5 (lens:List Int) (all:List Int) (s:Int) (many:Int) (b:List Int):Option (Int×List Int):=
 (need (decide (0≤s)&&decide (s<all.length)) (need (decide (0≤s)&&decide (s<lens.length)) ((Zby (all.getD s.toNat 0) (lens.getD s.toNat 0)).bind fun BitsTurn=>
 (need (decide (0≤s)&&decide (s<lens.length)) ((ZeL BitsTurn (lens.getD s.toNat 0) many b).bind fun (r,r1)=>
 (some (r,r1)))))))
def ZbF.l0.step (again:(List Int×List Int×(List (Int×Int×Int))×Int×Int×Int×List Int×List Int×List Int)→Option (List Int×Int×List Int×List Int)):(List Int×List Int×(List (Int×Int×Int))×Int×Int×Int×List Int×List Int×List Int)→Option (List Int×Int×List Int×List Int):=fun (lit1,dist1,t,t1,t2,o,a,b1,o1)=>
 (bif (decide (t2<t1)) then (need (decide (0≤t2)&&decide (t2<t.length)) (bif ((t.getD t2.toNat (0,0,0)).2.1==0) then ((Zf5 lit1 a ((t.getD t2.toNat (0,0,0)).1) o o1).bind fun (r,r1)=>
 (again (lit1,dist1,t,t1,(w64 (t2+1)),r,a,b1,r1))) else
 ((ZbQ).bind fun (r2,r3)=>
 ((Zce r2 r3 ((t.getD t2.toNat (0,0,0)).2.1)).bind fun find_=>
 ((Zf5 lit1 a (w64 (257+find_)) o o1).bind fun (r4,r5)=>
 ((ZbQ).bind fun (r6,r7)=>
 (need (decide (0≤find_)&&decide (find_<r6.length)) ((ZbQ).bind fun (r8,r9)=>
 (need (decide (0≤find_)&&decide (find_<r9.length)) ((ZeL (w64 ((t.getD t2.toNat (0,0,0)).2.1-(r6.getD find_.toNat 0))) (r9.getD find_.toNat 0) r4 r5).bind fun (r10,r11)=>
 ((ZbV).bind fun (r12,r13)=>
 ((Zce r12 r13 ((t.getD t2.toNat (0,0,0)).2.2)).bind fun find_1=>
 ((Zf5 dist1 b1 find_1 r10 r11).bind fun (r14,r15)=>
 ((ZbV).bind fun (r16,r17)=>
 (need (decide (0≤find_1)&&decide (find_1<r16.length)) ((ZbV).bind fun (r18,r19)=>
 (need (decide (0≤find_1)&&decide (find_1<r19.length)) ((ZeL (w64 ((t.getD t2.toNat (0,0,0)).2.2-(r16.getD find_1.toNat 0))) (r19.getD find_1.toNat 0) r14 r15).bind fun (r20,r21)=>
 (again (lit1,dist1,t,t1,(w64 (t2+1)),r20,a,b1,r21)))))))))))))))))))) else
 (some (lit1,o,a,o1)))
def ZbF.l0:=ZaC ZbF.l0.step
theorem ZbF.l0.succ (n:Nat) t:ZbF.l0 (n+1) t=ZbF.l0.step (ZbF.l0 n) t:=rfl
def ZbF (list:List (Int×Int×Int)) (lit:List Int) (dist:List Int) (many:Int) (b:List Int):Option (Int×List Int):=
 ((Zct lit).bind fun codes_=>
 ((Zct dist).bind fun codes_1=>
 ((ZbF.l0 (((list.length:Int)-(0:Int)).toNat+1) (lit,dist,list,(list.length:Int),0,many,codes_,codes_1,b)).bind fun (lit2,o2,a1,o3)=>
 ((Zf5 lit2 a1 256 o2 o3).bind fun (r22,r23)=>
 (some (r22,r23))))))
def Zdy (text:Str):Option (Str):=
 (bif (decide ((text.length:Int)>300)) then (some []) else
 ((ZeL 1 1 0 []).bind fun (r,r1)=>
 ((ZeL 1 2 r r1).bind fun (r2,r3)=>
 ((Zbl).bind fun (r4,r5)=>
 ((Zap text).bind fun TokensOf=>
 ((ZbF TokensOf r4 r5 r2 r3).bind fun (r6,r7)=>
 (some (Zbv r7))))))))
def ZbC.l0.step (again:(List Int×Int×Int)→Option (List Int×Int)):(List Int×Int×Int)→Option (List Int×Int):=fun (lens1,least_1,n)=>
 ((bif (decide (n>least_1)) then (need (decide (0≤(w64 (n-1)))&&decide ((w64 (n-1))<lens1.length)) (some ((lens1.getD (w64 (n-1)).toNat 0)==0))) else
 (some false)).bind fun c=>
 (bif c then (again (lens1,least_1,(w64 (n-1)))) else
 (some (lens1,n))))
def ZbC.l0:=ZaC ZbC.l0.step
theorem ZbC.l0.succ (n:Nat) t:ZbC.l0 (n+1) t=ZbC.l0.step (ZbC.l0 n) t:=rfl
def ZbC (lens:List Int) (least_:Int):Option (List Int):=
 ((ZbC.l0 (((lens.length:Int)-least_).toNat+1) (lens,least_,(lens.length:Int))).bind fun (lens2,n1)=>
 (need (decide (0≤n1)&&decide (n1≤lens2.length)) (some (lens2.take n1.toNat))))
def ZaX.l3.step (again:(List Int×List Int×Int×Int×(List (Int×Int×Int))×List Int×Int×List Int×List Int×List Int)→Option (List Int×List Int×(List (Int×Int×Int))×Int×List Int)):(List Int×List Int×Int×Int×(List (Int×Int×Int))×List Int×Int×List Int×List Int×List Int)→Option (List Int×List Int×(List (Int×Int×Int))×Int×List Int):=fun (lit4,dist4,t7,t8,list6,meta_2,o6,m,o7,o8)=>
 (bif (decide (t8<t7)) then (need (decide (0≤t8)&&decide (t8<o7.length)) ((Zf5 meta_2 m (o7.getD t8.toNat 0) o6 o8).bind fun (r16,r17)=>
 (again (lit4,dist4,t7,(w64 (t8+1)),list6,meta_2,r16,m,o7,r17)))) else
 (some (lit4,dist4,list6,o6,o8)))
def ZaX.l3:=ZaC ZaX.l3.step
theorem ZaX.l3.succ (n:Nat) t:ZaX.l3 (n+1) t=ZaX.l3.step (ZaX.l3 n) t:=rfl
def ZaX.l2.step (again:(List Int×List Int×List Int×Int×Int×(List (Int×Int×Int))×List Int×List Int×Int×List Int)→Option (List Int×List Int×(List (Int×Int×Int))×List Int×List Int×Int×List Int)):(List Int×List Int×List Int×Int×Int×(List (Int×Int×Int))×List Int×List Int×Int×List Int)→Option (List Int×List Int×(List (Int×Int×Int))×List Int×List Int×Int×List Int):=fun (lit2,dist2,t4,t5,t6,list4,all1,meta_,o2,o3)=>
 (bif (decide (t6<t5)) then (need (decide (0≤t6)&&decide (t6<t4.length)) (need (decide (0≤(t4.getD t6.toNat 0))&&decide ((t4.getD t6.toNat 0)<meta_.length)) ((ZeL (meta_.getD ((t4.getD t6.toNat 0).toNat) 0) 3 o2 o3).bind fun (r14,r15)=>
 (again (lit2,dist2,t4,t5,(w64 (t6+1)),list4,all1,meta_,r14,r15))))) else
 (some (lit2,dist2,list4,all1,meta_,o2,o3)))
def ZaX.l2:=ZaC ZaX.l2.step
theorem ZaX.l2.succ (n:Nat) t:ZaX.l2 (n+1) t=ZaX.l2.step (ZaX.l2 n) t:=rfl
def ZaX.l1.step (again:(List Int×List Int×Int×Int×(List (Int×Int×Int))×List Int×List Int)→Option (List Int×List Int×(List (Int×Int×Int))×List Int×List Int)):(List Int×List Int×Int×Int×(List (Int×Int×Int))×List Int×List Int)→Option (List Int×List Int×(List (Int×Int×Int))×List Int×List Int):=fun (lit,dist,t2,t3,list2,o1,c)=>
 (bif (decide (t3<t2)) then (need (decide (0≤t3)&&decide (t3<o1.length)) (need (decide (0≤(o1.getD t3.toNat 0))&&decide ((o1.getD t3.toNat 0)<c.length)) (need (decide (0≤(o1.getD t3.toNat 0))&&decide ((o1.getD t3.toNat 0)<c.length)) (again (lit,dist,t2,(w64 (t3+1)),list2,o1,(c.set ((o1.getD t3.toNat 0).toNat) (w64 ((c.getD ((o1.getD t3.toNat 0).toNat) 0)+1)))))))) else
 (some (lit,dist,list2,o1,c)))
def ZaX.l1:=ZaC ZaX.l1.step
theorem ZaX.l1.succ (n:Nat) t:ZaX.l1 (n+1) t=ZaX.l1.step (ZaX.l1 n) t:=rfl
def ZaX.l0.step (again:(Bool×Int×Int×(List (Int×Int×Int))×List Int×List Int)→Option (Bool×(List (Int×Int×Int))×List Int×List Int)):(Bool×Int×Int×(List (Int×Int×Int))×List Int×List Int)→Option (Bool×(List (Int×Int×Int))×List Int×List Int):=fun (none_,t,t1,o,a,b)=>
 (bif (decide (t1<t)) then (need (decide (0≤t1)&&decide (t1<o.length)) (bif ((o.getD t1.toNat (0,0,0)).2.1==0) then (need (decide (0≤(o.getD t1.toNat (0,0,0)).1)&&decide ((o.getD t1.toNat (0,0,0)).1<a.length)) (need (decide (0≤(o.getD t1.toNat (0,0,0)).1)&&decide ((o.getD t1.toNat (0,0,0)).1<a.length)) (again (none_,t,(w64 (t1+1)),o,(a.set (((o.getD t1.toNat (0,0,0)).1).toNat) (w64 ((a.getD (((o.getD t1.toNat (0,0,0)).1).toNat) 0)+1))),b)))) else
 ((ZbQ).bind fun (r,r1)=>
 ((Zce r r1 ((o.getD t1.toNat (0,0,0)).2.1)).bind fun find_=>
 (need (decide (0≤(w64 (257+find_)))&&decide ((w64 (257+find_))<a.length)) (need (decide (0≤(w64 (257+find_)))&&decide ((w64 (257+find_))<a.length)) ((ZbV).bind fun (r2,r3)=>
 ((Zce r2 r3 ((o.getD t1.toNat (0,0,0)).2.2)).bind fun find_1=>
 (need (decide (0≤find_1)&&decide (find_1<b.length)) (need (decide (0≤find_1)&&decide (find_1<b.length)) (again (false,t,(w64 (t1+1)),o,(a.set ((w64 (257+find_)).toNat) (w64 ((a.getD ((w64 (257+find_)).toNat) 0)+1))),(b.set find_1.toNat (w64 ((b.getD find_1.toNat 0)+1))))))))))))))) else
 (some (none_,o,a,b)))
def ZaX.l0:=ZaC ZaX.l0.step
theorem ZaX.l0.succ (n:Nat) t:ZaX.l0 (n+1) t=ZaX.l0.step (ZaX.l0 n) t:=rfl
def ZaX (text:Str):Option (Str):=
 (bif (decide ((text.length:Int)>300)) then (some []) else
 ((Zap text).bind fun TokensOf=>
 (need (decide (0≤286)&&fits 286) (need (decide (0≤30)&&fits 30) (need (decide (0≤(256:Int))&&decide ((256:Int)<(List.replicate 286 (0:Int)).length)) ((ZaX.l0 (((TokensOf.length:Int)-(0:Int)).toNat+1) (true,(TokensOf.length:Int),0,TokensOf,((List.replicate 286 (0:Int)).set 256 1),(List.replicate 30 (0:Int)))).bind fun (none_1,list,a1,b1)=>
 (((bif none_1 then (need (decide (0≤(0:Int))&&decide ((0:Int)<b1.length)) (some (list,a1,(b1.set 0 1)))) else
 (some (list,a1,b1))):Option ((List (Int×Int×Int))×List Int×List Int)).bind fun (list1,a2,b2)=>
 ((ZaV a2 15).bind fun LensOf=>
 ((ZbC LensOf 257).bind fun trimmed_=>
 ((ZaV b2 15).bind fun LensOf1=>
 ((ZbC LensOf1 1).bind fun trimmed_1=>
 (need (fits (([]:List (Int)).length+trimmed_.length)) (need (fits (([]++trimmed_).length+trimmed_1.length)) (need (decide (0≤(([16,17,18,0,8,7,9,6,10,5,11,4,12,3,13,2,14,1,15]:List (Int)).length:Int))&&fits (([16,17,18,0,8,7,9,6,10,5,11,4,12,3,13,2,14,1,15]:List (Int)).length:Int).toNat) ((ZaX.l1 ((((([]++trimmed_)++trimmed_1).length:Int)-(0:Int)).toNat+1) (trimmed_,trimmed_1,((([]++trimmed_)++trimmed_1).length:Int),0,list1,(([]++trimmed_)++trimmed_1),(List.replicate (([16,17,18,0,8,7,9,6,10,5,11,4,12,3,13,2,14,1,15]:List (Int)).length:Int).toNat (0:Int)))).bind fun (lit1,dist1,list3,all,c1)=>
 ((ZaV c1 7).bind fun LensOf2=>
 ((ZeL 1 1 0 []).bind fun (r4,r5)=>
 ((ZeL 2 2 r4 r5).bind fun (r6,r7)=>
 ((ZeL (w64 ((lit1.length:Int)-257)) 5 r6 r7).bind fun (r8,r9)=>
 ((ZeL (w64 ((dist1.length:Int)-1)) 5 r8 r9).bind fun (r10,r11)=>
 ((ZeL (w64 ((([16,17,18,0,8,7,9,6,10,5,11,4,12,3,13,2,14,1,15]:List (Int)).length:Int)-4)) 4 r10 r11).bind fun (r12,r13)=>
 ((ZaX.l2 (((([16,17,18,0,8,7,9,6,10,5,11,4,12,3,13,2,14,1,15]:List (Int)).length:Int)-(0:Int)).toNat+1) (lit1,dist1,[16,17,18,0,8,7,9,6,10,5,11,4,12,3,13,2,14,1,15],(([16,17,18,0,8,7,9,6,10,5,11,4,12,3,13,2,14,1,15]:List (Int)).length:Int),0,list3,all,LensOf2,r12,r13)).bind fun (lit3,dist3,list5,all2,meta_1,o4,o5)=>
 ((Zct meta_1).bind fun codes_=>
 ((ZaX.l3 (((all2.length:Int)-(0:Int)).toNat+1) (lit3,dist3,(all2.length:Int),0,list5,meta_1,o4,codes_,all2,o5)).bind fun (lit5,dist5,list7,o9,o10)=>
 ((ZbF list7 lit5 dist5 o9 o10).bind fun (r18,r19)=>
 (some (Zbv r19)))))))))))))))))))))))))))
def Za6.l0.step (again:(Str×Int×Int×List Str)→Option (Str)):(Str×Int×Int×List Str)→Option (Str):=fun (best,t,t1,o)=>
 (bif (decide (t1<t)) then (need (decide (0≤t1)&&decide (t1<o.length)) (bif (decide (((o.getD t1.toNat []).length:Int)<(best.length:Int))) then (again ((o.getD t1.toNat []),t,(w64 (t1+1)),o)) else
 (again (best,t,(w64 (t1+1)),o)))) else
 (some best))
def Za6.l0:=ZaC Za6.l0.step
theorem Za6.l0.succ (n:Nat) t:Za6.l0 (n+1) t=Za6.l0.step (Za6.l0 n) t:=rfl
def Za6 (text:Str):Option (Str):=
 ((Zdq text).bind fun StorePut=>
 ((Zdy text).bind fun FixedPut=>
 ((ZaX text).bind fun OwnPut=>
 ((Za6.l0 (((([FixedPut,OwnPut]:List (Str)).length:Int)-(0:Int)).toNat+1) (StorePut,(([FixedPut,OwnPut]:List (Str)).length:Int),0,[FixedPut,OwnPut])).bind fun best1=>
 (some best1)))))
def ZbK.l0.step (again:(Int×Int×Str×Int×Bool×List Int)→Option (Str×Int×Bool×List Int)):(Int×Int×Str×Int×Bool×List Int)→Option (Str×Int×Bool×List Int):=fun (n1,k,o3,o4,o5,out2)=>
 ((bif (decide (k<n1)) then (bif (!o5) then (some (decide ((out2.length:Int)≤300))) else
 (some false)) else
 (some false)).bind fun c=>
 (bif c then ((ZeO 8 o3 o4 o5).bind fun (r11,r12,r13,r14)=>
 (need (fits (out2.length+([(IntKind.wrap .u8 r11)]:List (Int)).length)) (again (n1,(w64 (k+1)),r12,r13,r14,(out2++[(IntKind.wrap .u8 r11)]))))) else
 (some (o3,o4,o5,out2))))
def ZbK.l0:=ZaC ZbK.l0.step
theorem ZbK.l0.succ (n:Nat) t:ZbK.l0 (n+1) t=ZbK.l0.step (ZbK.l0 n) t:=rfl
def ZbK (s:Str) (at_:Int) (bad:Bool) (out:List Int):Option (Str×Int×Bool×List Int):=
 ((Zd7 s at_ bad).bind fun (r,r1,r2)=>
 ((ZeO 16 r r1 r2).bind fun (r3,r4,r5,r6)=>
 ((ZeO 16 r4 r5 r6).bind fun (r7,r8,r9,r10)=>
 (((bif (r3 != (w64 (65535-r7))) then (some (r3,r8,r9,true,out)) else
 (some (r3,r8,r9,r10,out))):Option (Int×Str×Int×Bool×List Int)).bind fun (n,o,o1,o2,out1)=>
 ((ZbK.l0 ((n-(0:Int)).toNat+1) (n,0,o,o1,o2,out1)).bind fun (o6,o7,o8,out3)=>
 (some (o6,o7,o8,out3)))))))
def Zaq.l1.step (again:(Int×Int×Int×Int×Int×Str×Int×Bool×(List ((Int×Int)×Int))×List Int)→Option (Int×Int×Str×Int×Bool×(List ((Int×Int)×Int))×List Int)):(Int×Int×Int×Int×Int×Str×Int×Bool×(List ((Int×Int)×Int))×List Int)→Option (Int×Int×Str×Int×Bool×(List ((Int×Int)×Int))×List Int):=fun (lit5,dist5,again_1,t3,t4,o17,o18,o19,o20,all2)=>
 (bif (decide (t4<t3)) then (need (fits (all2.length+([again_1]:List (Int)).length)) (again (lit5,dist5,again_1,t3,(w64 (t4+1)),o17,o18,o19,o20,(all2++[again_1])))) else
 (some (lit5,dist5,o17,o18,o19,o20,all2)))
def Zaq.l1:=ZaC Zaq.l1.step
theorem Zaq.l1.succ (n:Nat) t:Zaq.l1 (n+1) t=Zaq.l1.step (Zaq.l1 n) t:=rfl
def Zaq.l2.step (again:(Int×Int×Str×Int×Bool×(List ((Int×Int)×Int))×List Int)→Option (Int×Int×Str×Int×Bool×List Int)):(Int×Int×Str×Int×Bool×(List ((Int×Int)×Int))×List Int)→Option (Int×Int×Str×Int×Bool×List Int):=fun (lit3,dist3,o9,o10,o11,o12,all)=>
 ((bif (decide ((all.length:Int)<(w64 (lit3+dist3)))) then (some (!o11)) else
 (some false)).bind fun c2=>
 (bif c2 then ((Zbj o9 o10 o11 o12).bind fun (r16,r17,r18,r19,r20)=>
 (((bif (decide (r16<16)) then (some (lit3,dist3,r16,1,r17,r18,r19,r20,all)) else
 (bif (r16==16) then ((ZeO 2 r17 r18 r19).bind fun (r21,r22,r23,r24)=>
 (bif ((all.length:Int)==0) then (some (lit3,dist3,0,(w64 (3+r21)),r22,r23,true,r20,all)) else
 (need (decide (0≤(w64 ((all.length:Int)-1)))&&decide ((w64 ((all.length:Int)-1))<all.length)) (some (lit3,dist3,(all.getD ((w64 ((all.length:Int)-1)).toNat) 0),(w64 (3+r21)),r22,r23,r24,r20,all))))) else
 (bif (r16==17) then ((ZeO 3 r17 r18 r19).bind fun (r25,r26,r27,r28)=>
 (some (lit3,dist3,0,(w64 (3+r25)),r26,r27,r28,r20,all))) else
 ((ZeO 7 r17 r18 r19).bind fun (r29,r30,r31,r32)=>
 (some (lit3,dist3,0,(w64 (11+r29)),r30,r31,r32,r20,all)))))):Option (Int×Int×Int×Int×Str×Int×Bool×(List ((Int×Int)×Int))×List Int)).bind fun (lit4,dist4,again_,times,o13,o14,o15,o16,all1)=>
 ((Zaq.l1 ((times-(0:Int)).toNat+1) (lit4,dist4,again_,times,0,o13,o14,o15,o16,all1)).bind fun (lit6,dist6,o21,o22,o23,o24,all3)=>
 (again (lit6,dist6,o21,o22,o23,o24,all3))))) else
 (some (lit3,dist3,o9,o10,o11,all))))
def Zaq.l2:=ZaC Zaq.l2.step
theorem Zaq.l2.succ (n:Nat) t:Zaq.l2 (n+1) t=Zaq.l2.step (Zaq.l2 n) t:=rfl
def Zaq.l0.step (again:(Int×Int×List Int×Int×Int×Str×Int×Bool×List Int)→Option (Int×Int×Str×Int×Bool×List Int)):(Int×Int×List Int×Int×Int×Str×Int×Bool×List Int)→Option (Int×Int×Str×Int×Bool×List Int):=fun (lit1,dist1,t,t1,t2,o3,o4,o5,meta_)=>
 (bif (decide (t2<t1)) then (need (decide (0≤t2)&&decide (t2<t.length)) ((ZeO 3 o3 o4 o5).bind fun (r12,r13,r14,r15)=>
 (need (decide (0≤(t.getD t2.toNat 0))&&decide ((t.getD t2.toNat 0)<meta_.length)) (again (lit1,dist1,t,t1,(w64 (t2+1)),r13,r14,r15,(meta_.set ((t.getD t2.toNat 0).toNat) r12)))))) else
 (some (lit1,dist1,o3,o4,o5,meta_)))
def Zaq.l0:=ZaC Zaq.l0.step
theorem Zaq.l0.succ (n:Nat) t:Zaq.l0 (n+1) t=Zaq.l0.step (Zaq.l0 n) t:=rfl
def Zaq (s:Str) (at_:Int) (bad:Bool):Option (List Int×List Int×Str×Int×Bool):=
 ((ZeO 5 s at_ bad).bind fun (r,r1,r2,r3)=>
 ((ZeO 5 r1 r2 r3).bind fun (r4,r5,r6,r7)=>
 ((ZeO 4 r5 r6 r7).bind fun (r8,r9,r10,r11)=>
 ((((bif (decide ((w64 (r+257))>286)) then (some true) else
 (some (decide ((w64 (r4+1))>30)))).bind fun c=>
 (bif c then (some ((w64 (r+257)),(w64 (r4+1)),(w64 (r8+4)),r9,r10,true)) else
 (some ((w64 (r+257)),(w64 (r4+1)),(w64 (r8+4)),r9,r10,r11)))):Option (Int×Int×Int×Str×Int×Bool)).bind fun (lit,dist,many,o,o1,o2)=>
 (need (decide (0≤(([16,17,18,0,8,7,9,6,10,5,11,4,12,3,13,2,14,1,15]:List (Int)).length:Int))&&fits (([16,17,18,0,8,7,9,6,10,5,11,4,12,3,13,2,14,1,15]:List (Int)).length:Int).toNat) (need (decide (0≤many)&&decide (many≤([16,17,18,0,8,7,9,6,10,5,11,4,12,3,13,2,14,1,15]:List (Int)).length)) ((Zaq.l0 ((((([16,17,18,0,8,7,9,6,10,5,11,4,12,3,13,2,14,1,15]:List (Int)).take many.toNat).length:Int)-(0:Int)).toNat+1) (lit,dist,(([16,17,18,0,8,7,9,6,10,5,11,4,12,3,13,2,14,1,15]:List (Int)).take many.toNat),((([16,17,18,0,8,7,9,6,10,5,11,4,12,3,13,2,14,1,15]:List (Int)).take many.toNat).length:Int),0,o,o1,o2,(List.replicate (([16,17,18,0,8,7,9,6,10,5,11,4,12,3,13,2,14,1,15]:List (Int)).length:Int).toNat (0:Int)))).bind fun (lit2,dist2,o6,o7,o8,meta_1)=>
 ((bif o8 then (some true) else
 ((Zb1 meta_1).bind fun LensOk=>
 (some (!LensOk)))).bind fun c1=>
 (bif c1 then (some ([],[],o6,o7,true)) else
 ((Zb3 meta_1).bind fun bookOf_=>
 ((Zaq.l2 (((w64 (lit2+dist2))-(([]:List Int).length:Int)).toNat+1) (lit2,dist2,o6,o7,o8,bookOf_,[])).bind fun (lit7,dist7,o25,o26,o27,all4)=>
 ((bif ((all4.length:Int) != (w64 (lit7+dist7))) then (some true) else
 (some o27)).bind fun c3=>
 (bif c3 then (some ([],[],o25,o26,true)) else
 (need (decide (0≤lit7)&&decide (lit7≤all4.length)) (need (decide (0≤lit7)&&decide (lit7≤all4.length)) (some (((all4.drop 0).take lit7.toNat),((all4.drop lit7.toNat).take (all4.length-lit7.toNat)),o25,o26,o27)))))))))))))))))
def Zcc.l0.step (again:(Str×Int×Bool×List Int×(List ((Int×Int)×Int))×List ((Int×Int)×Int))→Option ((Str×Int×Bool×List Int)⊕(Str×Int×Bool×List Int))):(Str×Int×Bool×List Int×(List ((Int×Int)×Int))×List ((Int×Int)×Int))→Option ((Str×Int×Bool×List Int)⊕(Str×Int×Bool×List Int)):=fun (o,o1,o2,out1,o3,o4)=>
 ((bif (!o2) then (some (decide ((out1.length:Int)≤300))) else
 (some false)).bind fun c1=>
 (bif c1 then ((Zbj o o1 o2 o3).bind fun (r,r1,r2,r3,r4)=>
 ((bif r3 then (some true) else
 (some (r==256))).bind fun c2=>
 (bif c2 then ((some (r1,r2,r3,out1)).map Sum.inr) else
 (bif (decide (r<256)) then (need (fits (out1.length+([(IntKind.wrap .u8 r)]:List (Int)).length)) (again (r1,r2,r3,(out1++[(IntKind.wrap .u8 r)]),r4,o4))) else
 (bif (decide ((w64 (r-257))≥28)) then ((some (r1,r2,true,out1)).map Sum.inr) else
 ((ZbQ).bind fun (r5,r6)=>
 (need (decide (0≤(w64 (r-257)))&&decide ((w64 (r-257))<r5.length)) ((ZbQ).bind fun (r7,r8)=>
 (need (decide (0≤(w64 (r-257)))&&decide ((w64 (r-257))<r8.length)) ((ZeO (r8.getD (w64 (r-257)).toNat 0) r1 r2 r3).bind fun (r9,r10,r11,r12)=>
 ((Zbj r10 r11 r12 o4).bind fun (r13,r14,r15,r16,r17)=>
 (bif (decide (r13≥30)) then ((some (r14,r15,true,out1)).map Sum.inr) else
 ((ZbV).bind fun (r18,r19)=>
 (need (decide (0≤r13)&&decide (r13<r18.length)) ((ZbV).bind fun (r20,r21)=>
 (need (decide (0≤r13)&&decide (r13<r21.length)) ((ZeO (r21.getD r13.toNat 0) r14 r15 r16).bind fun (r22,r23,r24,r25)=>
 ((add 0 (w64 ((r5.getD (w64 (r-257)).toNat 0)+r9)) (w64 ((r18.getD r13.toNat 0)+r22)) out1).bind fun (r26,r27)=>
 ((bif (!r26) then (some true) else
 (some r25)).bind fun c3=>
 (bif c3 then (none.map Sum.inr) else
 (again (r23,r24,r25,r27,r4,r17)))))))))))))))))))))) else
 (some (.inl (o,o1,o2,out1)))))
def Zcc.l0:=ZaC Zcc.l0.step
theorem Zcc.l0.succ (n:Nat) t:Zcc.l0 (n+1) t=Zcc.l0.step (Zcc.l0 n) t:=rfl
def Zcc (lit:List Int) (dist:List Int) (s:Str) (at_:Int) (bad:Bool) (out:List Int):Option (Str×Int×Bool×List Int):=
 ((bif bad then (some true) else
 ((Zb1 lit).bind fun LensOk=>
 (bif (!LensOk) then (some true) else
 ((Zb1 dist).bind fun LensOk1=>
 (some (!LensOk1)))))).bind fun c=>
 (bif c then (some (s,at_,true,out)) else
 ((Zb3 lit).bind fun bookOf_=>
 ((Zb3 dist).bind fun bookOf_1=>
 ((Zcc.l0 (100000) (s,at_,bad,out,bookOf_,bookOf_1)).bind fun r=>match r with
 | .inl (o5,o6,o7,out2)=>(some (o5,o6,o7,out2))
 | .inr r=>some r)))))
def Za3.l0.step (again:(Str×Int×Bool×List Int×(List ((Int×Int)×Int))×List ((Int×Int)×Int))→Option ((Str×Int×Bool×List Int)⊕(Str×Int×Bool))):(Str×Int×Bool×List Int×(List ((Int×Int)×Int))×List ((Int×Int)×Int))→Option ((Str×Int×Bool×List Int)⊕(Str×Int×Bool)):=fun (o,o1,o2,out1,o3,o4)=>
 ((bif (!o2) then (some (decide ((out1.length:Int)≤300))) else
 (some false)).bind fun c1=>
 (bif c1 then ((Zbj o o1 o2 o3).bind fun (r,r1,r2,r3,r4)=>
 ((bif r3 then (some true) else
 (some (r==256))).bind fun c2=>
 (bif c2 then ((some (r1,r2,r3)).map Sum.inr) else
 (bif (decide (r<256)) then (need (fits (out1.length+([(IntKind.wrap .u8 r)]:List (Int)).length)) (again (r1,r2,r3,(out1++[(IntKind.wrap .u8 r)]),r4,o4))) else
 (bif (decide ((w64 (r-257))≥28)) then ((some (r1,r2,true)).map Sum.inr) else
 ((ZbQ).bind fun (r5,r6)=>
 (need (decide (0≤(w64 (r-257)))&&decide ((w64 (r-257))<r5.length)) ((ZbQ).bind fun (r7,r8)=>
 (need (decide (0≤(w64 (r-257)))&&decide ((w64 (r-257))<r8.length)) ((ZeO (r8.getD (w64 (r-257)).toNat 0) r1 r2 r3).bind fun (r9,r10,r11,r12)=>
 ((Zbj r10 r11 r12 o4).bind fun (r13,r14,r15,r16,r17)=>
 (bif (decide (r13≥30)) then ((some (r14,r15,true)).map Sum.inr) else
 ((ZbV).bind fun (r18,r19)=>
 (need (decide (0≤r13)&&decide (r13<r18.length)) ((ZbV).bind fun (r20,r21)=>
 (need (decide (0≤r13)&&decide (r13<r21.length)) ((ZeO (r21.getD r13.toNat 0) r14 r15 r16).bind fun (r22,r23,r24,r25)=>
 ((add 0 (w64 ((r5.getD (w64 (r-257)).toNat 0)+r9)) (w64 ((r18.getD r13.toNat 0)+r22)) out1).bind fun (r26,r27)=>
 ((bif (!r26) then (some true) else
 (some r25)).bind fun c3=>
 (bif c3 then ((some (r23,r24,true)).map Sum.inr) else
 (again (r23,r24,r25,r27,r4,r17)))))))))))))))))))))) else
 (some (.inl (o,o1,o2,out1)))))
def Za3.l0:=ZaC Za3.l0.step
theorem Za3.l0.succ (n:Nat) t:Za3.l0 (n+1) t=Za3.l0.step (Za3.l0 n) t:=rfl
def Za3 (lit:List Int) (dist:List Int) (s:Str) (at_:Int) (bad:Bool) (out:List Int):Option (Str×Int×Bool):=
 ((bif bad then (some true) else
 ((Zb1 lit).bind fun LensOk=>
 (bif (!LensOk) then (some true) else
 ((Zb1 dist).bind fun LensOk1=>
 (some (!LensOk1)))))).bind fun c=>
 (bif c then (some (s,at_,true)) else
 ((Zb3 lit).bind fun bookOf_=>
 ((Zb3 dist).bind fun bookOf_1=>
 ((Za3.l0 (100000) (s,at_,bad,out,bookOf_,bookOf_1)).bind fun r=>match r with
 | .inl (o5,o6,o7,out2)=>(some (o5,o6,o7))
 | .inr r=>some r)))))
def Zbm.l0.step (again:(Bool×Str×Int×Bool×List Int)→Option ((Str×Int×Bool×List Int)⊕(Str×Int×Bool))):(Bool×Str×Int×Bool×List Int)→Option ((Str×Int×Bool×List Int)⊕(Str×Int×Bool)):=fun (last,o,o1,o2,out)=>
 (bif (!last) then ((Zik o o1 o2).bind fun (r,r1,r2,r3)=>
 ((ZeO 2 r1 r2 r3).bind fun (r4,r5,r6,r7)=>
 (bif (r4==0) then ((ZbK r5 r6 r7 out).bind fun (r8,r9,r10,r11)=>
 (bif r10 then ((some ([],0,false)).map Sum.inr) else
 (bif (decide ((r11.length:Int)>300)) then ((some ([],0,false)).map Sum.inr) else
 (again ((r==1),r8,r9,r10,r11))))) else
 (bif (r4==1) then ((Zbl).bind fun (r12,r13)=>
 (Zh7 (Zcc r12 r13 r5 r6 r7 out) (fun (r14,r15,r16,r17)=>
 (bif r16 then ((some ([],0,false)).map Sum.inr) else
 (bif (decide ((r17.length:Int)>300)) then ((some ([],0,false)).map Sum.inr) else
 (again ((r==1),r14,r15,r16,r17))))) ((Za3 r12 r13 r5 r6 r7 out).bind fun (r18,r19,r20)=>
 (bif r20 then ((some ([],0,false)).map Sum.inr) else
 none)))) else
 (bif (r4==2) then ((Zaq r5 r6 r7).bind fun (r21,r22,r23,r24,r25)=>
 (Zh7 (Zcc r21 r22 r23 r24 r25 out) (fun (r26,r27,r28,r29)=>
 (bif r28 then ((some ([],0,false)).map Sum.inr) else
 (bif (decide ((r29.length:Int)>300)) then ((some ([],0,false)).map Sum.inr) else
 (again ((r==1),r26,r27,r28,r29))))) ((Za3 r21 r22 r23 r24 r25 out).bind fun (r30,r31,r32)=>
 (bif r32 then ((some ([],0,false)).map Sum.inr) else
 none)))) else
 ((some ([],0,false)).map Sum.inr)))))) else
 (some (.inl (o,o1,o2,out))))
def Zbm.l0:=ZaC Zbm.l0.step
theorem Zbm.l0.succ (n:Nat) t:Zbm.l0 (n+1) t=Zbm.l0.step (Zbm.l0 n) t:=rfl
def Zbm (text:Str):Option (Str×Int×Bool):=
 (bif (decide ((text.length:Int)>700)) then (some ([],0,false)) else
 ((Zbm.l0 (100000) (false,text,0,false,[])).bind fun r=>match r with
 | .inl (o3,o4,o5,out1)=>((Zd7 o3 o4 o5).bind fun (r33,r34,r35)=>
 (bif r35 then (some ([],0,false)) else
 (some ((Zbv out1),(w64 (r34.tdiv 8)),true))))
 | .inr r=>some r))
def Zoe (year:Int) (month:Int):Option (Int):=
 (((bif (month==4) then (some (year,month,(month==4))) else
 (bif (month==6) then (some (year,month,(month==6))) else
 (bif (month==9) then (some (year,month,(month==9))) else
 (some (year,month,(month==11)))))):Option (Int×Int×Bool)).bind fun (year1,t,t1)=>
 (bif t1 then (some 30) else
 (bif (t==2) then ((bif ((year1.tmod 4)==0) then (bif ((year1.tmod 100) != 0) then (some true) else
 (some ((year1.tmod 400)==0))) else
 (some false)).bind fun c=>
 (bif c then (some 29) else
 (some 28))) else
 (some 31))))
def Zdn (y:Int) (mo:Int) (d:Int) (h:Int) (mi:Int) (sec:Int):Option (Bool):=
 (((Zbt y 1980 2107).bind fun within_=>
 (bif within_ then ((Zbt mo 1 12).bind fun within_1=>
 (bif within_1 then ((Zoe y mo).bind fun days_=>
 ((Zbt d 1 days_).bind fun within_2=>
 (bif within_2 then ((Zbt h 0 23).bind fun within_3=>
 (bif within_3 then ((Zbt mi 0 59).bind fun within_4=>
 (bif within_4 then ((Zbt sec 0 58).bind fun within_5=>
 (bif within_5 then (some ((sec.tmod 2)==0)) else
 (some false))) else
 (some false))) else
 (some false))) else
 (some false)))) else
 (some false))) else
 (some false))).bind fun c=>
 (some c))
def Zcf (y:Int) (mo:Int) (d:Int) (h:Int) (mi:Int) (sec:Int):Option (Int):=
 ((Zdn y mo d h mi sec).bind fun StampOk=>
 (bif (!StampOk) then (some (-1)) else
 (some (ior .i64 (ior .i64 (ior .i64 (ior .i64 (ior .i64 (w64 (sec.tdiv 2)) (Zrw .i64 mi 5)) (Zrw .i64 h 11)) (Zrw .i64 d 16)) (Zrw .i64 mo 21)) (Zrw .i64 (w64 (y-1980)) 25)))))
def Zdr (n:Int):Option (Int×Int×Int×Int×Int×Int×Bool):=
 (bif (decide (n<0)) then (some (0,0,0,0,0,0,false)) else
 ((Zcf (w64 (1980+(ZkF .i64 (ZmO .i64 n 25) 127))) (ZkF .i64 (ZmO .i64 n 21) 15) (ZkF .i64 (ZmO .i64 n 16) 31) (ZkF .i64 (ZmO .i64 n 11) 31) (ZkF .i64 (ZmO .i64 n 5) 63) (w64 ((ZkF .i64 n 31)*2))).bind fun StampPut=>
 (bif (StampPut != n) then (some (0,0,0,0,0,0,false)) else
 (some ((w64 (1980+(ZkF .i64 (ZmO .i64 n 25) 127))),(ZkF .i64 (ZmO .i64 n 21) 15),(ZkF .i64 (ZmO .i64 n 16) 31),(ZkF .i64 (ZmO .i64 n 11) 31),(ZkF .i64 (ZmO .i64 n 5) 63),(w64 ((ZkF .i64 n 31)*2)),true)))))
def Zcm (name:Str) (y:Int) (mo:Int) (d:Int) (h:Int) (mi:Int) (sec:Int) (text:Str):Option (Bool):=
 (((Za1 name).bind fun NameOk=>
 (bif NameOk then ((Zdn y mo d h mi sec).bind fun StampOk=>
 (bif StampOk then (some (decide ((text.length:Int)≤300))) else
 (some false))) else
 (some false))).bind fun c=>
 (some c))
def Zbu.l0.step (again:(Int×Int×Int×List Int)→Option (List Int)):(Int×Int×Int×List Int)→Option (List Int):=fun (n1,t,t1,out)=>
 (bif (decide (t1<t)) then (need (fits (out.length+([(IntKind.wrap .u8 (n1.tmod 256))]:List (Int)).length)) (again ((w64 (n1.tdiv 256)),t,(w64 (t1+1)),(out++[(IntKind.wrap .u8 (n1.tmod 256))])))) else
 (some out))
def Zbu.l0:=ZaC Zbu.l0.step
theorem Zbu.l0.succ (n:Nat) t:Zbu.l0 (n+1) t=Zbu.l0.step (Zbu.l0 n) t:=rfl
def Zbu (n:Int) (bytes:Int):Option (Str):=
 ((Zbu.l0 ((bytes-(0:Int)).toNat+1) (n,bytes,0,[])).bind fun out1=>
 (some (Zbv out1)))
def Zba.l0.step (again:(Str×Int×Int×Int)→Option (Int)):(Str×Int×Int×Int)→Option (Int):=fun (s1,at_1,n,k)=>
 (bif (decide (k≥0)) then (need (decide (0≤(w64 (at_1+k)))&&decide ((w64 (at_1+k))<s1.length)) (again (s1,at_1,(w64 ((w64 (256*n))+(w64 ((s1.getD (w64 (at_1+k)).toNat 0).toNat:Int)))),(w64 (k-1))))) else
 (some n))
def Zba.l0:=ZaC Zba.l0.step
theorem Zba.l0.succ (n:Nat) t:Zba.l0 (n+1) t=Zba.l0.step (Zba.l0 n) t:=rfl
def Zba (s:Str) (at_:Int) (bytes:Int):Option (Int):=
 ((Zba.l0 (((w64 (bytes-1))-0).toNat+2) (s,at_,0,(w64 (bytes-1)))).bind fun n1=>
 (some n1))
def ZdS (name:Str) (y:Int) (mo:Int) (d:Int) (h:Int) (mi:Int) (sec:Int) (text:Str) (method:Int) (packed:Int):Option (Str):=
 ((Zbu 20 2).bind fun number_=>
 (need (fits (([80,75,3,4]:Str).length+number_.length)) ((Zbu 0 2).bind fun number_1=>
 (need (fits (([80,75,3,4]++number_).length+number_1.length)) ((Zbu method 2).bind fun number_2=>
 (need (fits ((([80,75,3,4]++number_)++number_1).length+number_2.length)) ((Zcf y mo d h mi sec).bind fun StampPut=>
 ((Zbu StampPut 4).bind fun number_3=>
 (need (fits (((([80,75,3,4]++number_)++number_1)++number_2).length+number_3.length)) ((crc text).bind fun Crc=>
 ((Zbu Crc 4).bind fun number_4=>
 (need (fits ((((([80,75,3,4]++number_)++number_1)++number_2)++number_3).length+number_4.length)) ((Zbu packed 4).bind fun number_5=>
 (need (fits (((((([80,75,3,4]++number_)++number_1)++number_2)++number_3)++number_4).length+number_5.length)) ((Zbu (text.length:Int) 4).bind fun number_6=>
 (need (fits ((((((([80,75,3,4]++number_)++number_1)++number_2)++number_3)++number_4)++number_5).length+number_6.length)) ((Zbu (name.length:Int) 2).bind fun number_7=>
 (need (fits (((((((([80,75,3,4]++number_)++number_1)++number_2)++number_3)++number_4)++number_5)++number_6).length+number_7.length)) ((Zbu 0 2).bind fun number_8=>
 (need (fits ((((((((([80,75,3,4]++number_)++number_1)++number_2)++number_3)++number_4)++number_5)++number_6)++number_7).length+number_8.length)) (some ((((((((([80,75,3,4]++number_)++number_1)++number_2)++number_3)++number_4)++number_5)++number_6)++number_7)++number_8))))))))))))))))))))))
def Zdv (name:Str) (y:Int) (mo:Int) (d:Int) (h:Int) (mi:Int) (sec:Int) (text:Str):Option (Str):=
 ((Zcm name y mo d h mi sec text).bind fun EntryOk=>
 (bif (!EntryOk) then (some []) else
 ((Za6 text).bind fun FlatePut=>
 (bif (decide ((FlatePut.length:Int)<(text.length:Int))) then ((ZdS name y mo d h mi sec text 8 (FlatePut.length:Int)).bind fun headOf_=>
 (need (fits (headOf_.length+name.length)) (need (fits ((headOf_++name).length+FlatePut.length)) (some ((headOf_++name)++FlatePut))))) else
 ((ZdS name y mo d h mi sec text 0 (text.length:Int)).bind fun headOf_1=>
 (need (fits (headOf_1.length+name.length)) (need (fits ((headOf_1++name).length+text.length)) (some ((headOf_1++name)++text)))))))))
def Zdw (text:Str):Option (Str×Int×Int×Int×Int×Int×Int×Str×Int×Bool):=
 (bif (decide ((text.length:Int)<30)) then (some ([],0,0,0,0,0,0,[],0,false)) else
 ((Zba text 8 2).bind fun numberAt_=>
 ((Zba text 18 4).bind fun numberAt_1=>
 ((Zba text 26 2).bind fun numberAt_2=>
 (need (decide (0≤(30:Int))&&decide ((30:Int)≤text.length)) ((bif (decide (((text.drop 30).length:Int)<numberAt_2)) then (some true) else
 (some (decide ((w64 (((text.drop 30).length:Int)-numberAt_2))<numberAt_1)))).bind fun c=>
 (bif c then (some ([],0,0,0,0,0,0,[],0,false)) else
 (need (decide (0≤numberAt_2)&&decide (numberAt_2≤(text.drop 30).length)) (need (decide (0≤(w64 (numberAt_2+numberAt_1)))&&decide ((w64 (numberAt_2+numberAt_1))≤(text.drop 30).length)) (need (decide (0≤numberAt_2)&&decide (numberAt_2≤(w64 (numberAt_2+numberAt_1)))) ((Zba text 10 4).bind fun numberAt_3=>
 ((Zdr numberAt_3).bind fun (r,r1,r2,r3,r4,r5,r6)=>
 (((bif (numberAt_==0) then (some (.inl (text,numberAt_,numberAt_1,numberAt_2,[],0,0,0,0,0,0,[],((text.drop 30).take numberAt_2.toNat),r,r1,r2,r3,r4,r5,(((text.drop 30).take (w64 (numberAt_2+numberAt_1)).toNat).drop numberAt_2.toNat)))) else
 (bif (numberAt_==8) then ((Zbm (((text.drop 30).take (w64 (numberAt_2+numberAt_1)).toNat).drop numberAt_2.toNat)).bind fun (r7,r8,r9)=>
 ((bif (!r9) then (some true) else
 (some (r8 != numberAt_1))).bind fun c1=>
 (bif c1 then ((some ([],0,0,0,0,0,0,[],0,false)).map Sum.inr) else
 (some (.inl (text,numberAt_,numberAt_1,numberAt_2,[],0,0,0,0,0,0,[],((text.drop 30).take numberAt_2.toNat),r,r1,r2,r3,r4,r5,r7)))))) else
 ((some ([],0,0,0,0,0,0,[],0,false)).map Sum.inr))):Option ((Str×Int×Int×Int×Str×Int×Int×Int×Int×Int×Int×Str×Str×Int×Int×Int×Int×Int×Int×Str)⊕(Str×Int×Int×Int×Int×Int×Int×Str×Int×Bool))).bind fun r=>match r with
 | .inl (text1,method,packed,name,o,o1,o2,o3,o4,o5,o6,o7,o8,o9,o10,o11,o12,o13,o14,o15)=>(((Zcm o8 o9 o10 o11 o12 o13 o14 o15).bind fun EntryOk=>
 (bif (!EntryOk) then (some true) else
 ((ZdS o8 o9 o10 o11 o12 o13 o14 o15 method packed).bind fun headOf_=>
 (need (decide (0≤(30:Int))&&decide ((30:Int)≤text1.length)) (some (!(headOf_==(text1.take 30)))))))).bind fun c2=>
 (bif c2 then (some ([],0,0,0,0,0,0,[],0,false)) else
 (some (o8,o9,o10,o11,o12,o13,o14,o15,(w64 ((w64 (30+name))+packed)),true))))
 | .inr r=>some r)))))))))))))
def joinS (xs:List Str) (sep:Str):Option (Str):=need (fits xs.length&&fits (Zr4 xs sep).length) (some (Zr4 xs sep))
def Zb4.l0.step (again:((List (Str×Int×Int×Int×Int×Int×Int×Str))×Int×Int×List Str)→Option (List Str)):((List (Str×Int×Int×Int×Int×Int×Int×Str))×Int×Int×List Str)→Option (List Str):=fun (t,t1,t2,out)=>
 (bif (decide (t2<t1)) then (need (decide (0≤t2)&&decide (t2<t.length)) (need (fits (out.length+([(t.getD t2.toNat ([],0,0,0,0,0,0,[])).1]:List (Str)).length)) (again (t,t1,(w64 (t2+1)),(out++[(t.getD t2.toNat ([],0,0,0,0,0,0,[])).1]))))) else
 (some out))
def Zb4.l0:=ZaC Zb4.l0.step
theorem Zb4.l0.succ (n:Nat) t:Zb4.l0 (n+1) t=Zb4.l0.step (Zb4.l0 n) t:=rfl
def Zb4 (list:List (Str×Int×Int×Int×Int×Int×Int×Str)):Option (List Str):=
 ((Zb4.l0 (((list.length:Int)-(0:Int)).toNat+1) (list,(list.length:Int),0,[])).bind fun out1=>
 (some out1))
def Zdz.l0.step (again:((List (Str×Int×Int×Int×Int×Int×Int×Str))×(List (Str×Int×Int×Int×Int×Int×Int×Str))×Int×Int)→Option ((List (Str×Int×Int×Int×Int×Int×Int×Str))⊕(Bool))):((List (Str×Int×Int×Int×Int×Int×Int×Str))×(List (Str×Int×Int×Int×Int×Int×Int×Str))×Int×Int)→Option ((List (Str×Int×Int×Int×Int×Int×Int×Str))⊕(Bool)):=fun (list1,t,t1,t2)=>
 (bif (decide (t2<t1)) then (need (decide (0≤t2)&&decide (t2<t.length)) ((Zcm ((t.getD t2.toNat ([],0,0,0,0,0,0,[])).1) ((t.getD t2.toNat ([],0,0,0,0,0,0,[])).2.1) ((t.getD t2.toNat ([],0,0,0,0,0,0,[])).2.2.1) ((t.getD t2.toNat ([],0,0,0,0,0,0,[])).2.2.2.1) ((t.getD t2.toNat ([],0,0,0,0,0,0,[])).2.2.2.2.1) ((t.getD t2.toNat ([],0,0,0,0,0,0,[])).2.2.2.2.2.1) ((t.getD t2.toNat ([],0,0,0,0,0,0,[])).2.2.2.2.2.2.1) ((t.getD t2.toNat ([],0,0,0,0,0,0,[])).2.2.2.2.2.2.2)).bind fun EntryOk=>
 (bif (!EntryOk) then ((some false).map Sum.inr) else
 (again (list1,t,t1,(w64 (t2+1))))))) else
 (some (.inl list1)))
def Zdz.l0:=ZaC Zdz.l0.step
theorem Zdz.l0.succ (n:Nat) t:Zdz.l0 (n+1) t=Zdz.l0.step (Zdz.l0 n) t:=rfl
def Zdz (list:List (Str×Int×Int×Int×Int×Int×Int×Str)):Option (Bool):=
 ((Zdz.l0 (((list.length:Int)-(0:Int)).toNat+1) (list,list,(list.length:Int),0)).bind fun r=>match r with
 | .inl list2=>(bif (decide ((list2.length:Int)≤6)) then ((Zb4 list2).bind fun namesOf_=>
 ((Zc7 namesOf_).bind fun apart_=>
 (some apart_))) else
 (some false))
 | .inr r=>some r)
def ZbD.l0.step (again:(List Str×Str×Int×List Str×Int×Int)→Option (List Str×Str×Int)):(List Str×Str×Int×List Str×Int×Int)→Option (List Str×Str×Int):=fun (locals1,heads,at_,t,t1,t2)=>
 (bif (decide (t2<t1)) then (need (decide (0≤t2)&&decide (t2<t.length)) ((Zba (t.getD t2.toNat []) 26 2).bind fun numberAt_=>
 ((Zbu 20 2).bind fun number_=>
 (need (fits (([80,75,1,2]:Str).length+number_.length)) (need (decide (0≤(30:Int))&&decide ((30:Int)≤(t.getD t2.toNat []).length)) (need (decide (0≤(4:Int))&&decide ((4:Int)≤(30:Int))) (need (fits (([80,75,1,2]++number_).length+(((t.getD t2.toNat []).take 30).drop 4).length)) ((Zbu 0 10).bind fun number_1=>
 (need (fits ((([80,75,1,2]++number_)++(((t.getD t2.toNat []).take 30).drop 4)).length+number_1.length)) ((Zbu at_ 4).bind fun number_2=>
 (need (fits (((([80,75,1,2]++number_)++(((t.getD t2.toNat []).take 30).drop 4))++number_1).length+number_2.length)) (need (decide (0≤(w64 (30+numberAt_)))&&decide ((w64 (30+numberAt_))≤(t.getD t2.toNat []).length)) (need (decide (0≤(30:Int))&&decide ((30:Int)≤(w64 (30+numberAt_)))) (need (fits ((((([80,75,1,2]++number_)++(((t.getD t2.toNat []).take 30).drop 4))++number_1)++number_2).length+(((t.getD t2.toNat []).take (w64 (30+numberAt_)).toNat).drop 30).length)) (need (fits (heads.length+((((([80,75,1,2]++number_)++(((t.getD t2.toNat []).take 30).drop 4))++number_1)++number_2)++(((t.getD t2.toNat []).take (w64 (30+numberAt_)).toNat).drop 30)).length)) (again (locals1,(heads++((((([80,75,1,2]++number_)++(((t.getD t2.toNat []).take 30).drop 4))++number_1)++number_2)++(((t.getD t2.toNat []).take (w64 (30+numberAt_)).toNat).drop 30))),(w64 (at_+((t.getD t2.toNat []).length:Int))),t,t1,(w64 (t2+1))))))))))))))))))) else
 (some (locals1,heads,at_)))
def ZbD.l0:=ZaC ZbD.l0.step
theorem ZbD.l0.succ (n:Nat) t:ZbD.l0 (n+1) t=ZbD.l0.step (ZbD.l0 n) t:=rfl
def ZbD (locals:List Str):Option (Str):=
 ((ZbD.l0 (((locals.length:Int)-(0:Int)).toNat+1) (locals,[],0,locals,(locals.length:Int),0)).bind fun (locals2,heads1,at_1)=>
 ((Zbu (locals2.length:Int) 2).bind fun number_3=>
 (need (fits (heads1.length+([80,75,5,6]:Str).length)) ((Zbu 0 4).bind fun number_4=>
 (need (fits ((heads1++[80,75,5,6]).length+number_4.length)) (need (fits (((heads1++[80,75,5,6])++number_4).length+number_3.length)) (need (fits ((((heads1++[80,75,5,6])++number_4)++number_3).length+number_3.length)) ((Zbu (heads1.length:Int) 4).bind fun number_5=>
 (need (fits (((((heads1++[80,75,5,6])++number_4)++number_3)++number_3).length+number_5.length)) ((Zbu at_1 4).bind fun number_6=>
 (need (fits ((((((heads1++[80,75,5,6])++number_4)++number_3)++number_3)++number_5).length+number_6.length)) ((Zbu 0 2).bind fun number_7=>
 (need (fits (((((((heads1++[80,75,5,6])++number_4)++number_3)++number_3)++number_5)++number_6).length+number_7.length)) (some (((((((heads1++[80,75,5,6])++number_4)++number_3)++number_3)++number_5)++number_6)++number_7)))))))))))))))
def ZcW.l0.step (again:((List (Str×Int×Int×Int×Int×Int×Int×Str))×Int×Int×List Str)→Option (List Str)):((List (Str×Int×Int×Int×Int×Int×Int×Str))×Int×Int×List Str)→Option (List Str):=fun (t,t1,t2,locals)=>
 (bif (decide (t2<t1)) then (need (decide (0≤t2)&&decide (t2<t.length)) ((Zdv ((t.getD t2.toNat ([],0,0,0,0,0,0,[])).1) ((t.getD t2.toNat ([],0,0,0,0,0,0,[])).2.1) ((t.getD t2.toNat ([],0,0,0,0,0,0,[])).2.2.1) ((t.getD t2.toNat ([],0,0,0,0,0,0,[])).2.2.2.1) ((t.getD t2.toNat ([],0,0,0,0,0,0,[])).2.2.2.2.1) ((t.getD t2.toNat ([],0,0,0,0,0,0,[])).2.2.2.2.2.1) ((t.getD t2.toNat ([],0,0,0,0,0,0,[])).2.2.2.2.2.2.1) ((t.getD t2.toNat ([],0,0,0,0,0,0,[])).2.2.2.2.2.2.2)).bind fun LocalPut=>
 (need (fits (locals.length+([LocalPut]:List (Str)).length)) (again (t,t1,(w64 (t2+1)),(locals++[LocalPut])))))) else
 (some locals))
def ZcW.l0:=ZaC ZcW.l0.step
theorem ZcW.l0.succ (n:Nat) t:ZcW.l0 (n+1) t=ZcW.l0.step (ZcW.l0 n) t:=rfl
def ZcW (list:List (Str×Int×Int×Int×Int×Int×Int×Str)):Option (Str):=
 ((Zdz list).bind fun ZipOk=>
 (bif (!ZipOk) then (some []) else
 ((ZcW.l0 (((list.length:Int)-(0:Int)).toNat+1) (list,(list.length:Int),0,[])).bind fun locals1=>
 ((joinS locals1 []).bind fun Join=>
 ((ZbD locals1).bind fun closing_=>
 (need (fits (Join.length+closing_.length)) (some (Join++closing_))))))))
def Zcv.l0.step (again:(Str×(List (Str×Int×Int×Int×Int×Int×Int×Str))×List Str)→Option (Str×(List (Str×Int×Int×Int×Int×Int×Int×Str))×List Str)):(Str×(List (Str×Int×Int×Int×Int×Int×Int×Str))×List Str)→Option (Str×(List (Str×Int×Int×Int×Int×Int×Int×Str))×List Str):=fun (rest,out,locals)=>
 (bif (decide ((out.length:Int)<6)) then ((Zdw rest).bind fun (r,r1,r2,r3,r4,r5,r6,r7,r8,r9)=>
 (bif (!r9) then (some (rest,out,locals)) else
 (need (fits (out.length+([(r,r1,r2,r3,r4,r5,r6,r7)]:List (Str×Int×Int×Int×Int×Int×Int×Str)).length)) (need (decide (0≤r8)&&decide (r8≤rest.length)) (need (fits (locals.length+([(rest.take r8.toNat)]:List (Str)).length)) (need (decide (0≤r8)&&decide (r8≤rest.length)) (again ((rest.drop r8.toNat),(out++[(r,r1,r2,r3,r4,r5,r6,r7)]),(locals++[(rest.take r8.toNat)]))))))))) else
 (some (rest,out,locals)))
def Zcv.l0:=ZaC Zcv.l0.step
theorem Zcv.l0.succ (n:Nat) t:Zcv.l0 (n+1) t=Zcv.l0.step (Zcv.l0 n) t:=rfl
def Zcv (text:Str):Option (Bool×List (Str×Int×Int×Int×Int×Int×Int×Str)):=
 ((Zcv.l0 ((6-(([]:List (Str×Int×Int×Int×Int×Int×Int×Str)).length:Int)).toNat+1) (text,[],[])).bind fun (rest1,out1,locals1)=>
 (((Zdz out1).bind fun ZipOk=>
 (bif (!ZipOk) then (some true) else
 ((ZbD locals1).bind fun closing_=>
 (some (!(rest1==closing_)))))).bind fun c=>
 (bif c then (some (false,[])) else
 (some (true,out1)))))
def find1 (ename:Str) (ey:Int) (emo:Int) (ed:Int) (eh:Int) (emi:Int) (esec:Int) (etext:Str) (name:Str):Option (Bool×Str):=
 (some ((ename==name),name))
def Zgx.l0.step (again:((List (Str×Int×Int×Int×Int×Int×Int×Str))×Int×Int×Str)→Option ((Str)⊕(Int×Str))):((List (Str×Int×Int×Int×Int×Int×Int×Str))×Int×Int×Str)→Option ((Str)⊕(Int×Str)):=fun (s,t,t1,o)=>
 (bif (decide (t1<t)) then (need (decide (0≤t1)&&decide (t1<s.length)) ((find1 ((s.getD t1.toNat ([],0,0,0,0,0,0,[])).1) ((s.getD t1.toNat ([],0,0,0,0,0,0,[])).2.1) ((s.getD t1.toNat ([],0,0,0,0,0,0,[])).2.2.1) ((s.getD t1.toNat ([],0,0,0,0,0,0,[])).2.2.2.1) ((s.getD t1.toNat ([],0,0,0,0,0,0,[])).2.2.2.2.1) ((s.getD t1.toNat ([],0,0,0,0,0,0,[])).2.2.2.2.2.1) ((s.getD t1.toNat ([],0,0,0,0,0,0,[])).2.2.2.2.2.2.1) ((s.getD t1.toNat ([],0,0,0,0,0,0,[])).2.2.2.2.2.2.2) o).bind fun (r,r1)=>
 (bif r then ((some (t1,r1)).map Sum.inr) else
 (again (s,t,(w64 (t1+1)),r1))))) else
 (some (.inl o)))
def Zgx.l0:=ZaC Zgx.l0.step
def Zgx (list:List (Str×Int×Int×Int×Int×Int×Int×Str)) (name:Str):Option (Int×Str):=
 ((Zgx.l0 (((list.length:Int)-(0:Int)).toNat+1) (list,(list.length:Int),0,name)).bind fun r=>match r with
 | .inl o1=>(some ((-1),o1))
 | .inr r=>some r)
def find (list:List (Str×Int×Int×Int×Int×Int×Int×Str)) (name:Str):Option (Int):=
 ((Zgx list name).bind fun (r,r1)=>
 (some r))
def itoa (n:Int):Option (Str):=ZyO n
def ZdD (s:Str):Option (Int):=
 ((some (([10]:Str)==s)).bind fun c=>
 (bif c then (some 0) else
 ((Zbi s 10).bind fun IndexByt=>
 (some IndexByt))))
def ZdY (s:Str):Option (Int):=
 ((some (([32]:Str)==s)).bind fun c=>
 (bif c then (some 0) else
 ((Zbi s 32).bind fun IndexByt=>
 (some IndexByt))))
def ZcE (text:Str):Option (Bool):=
 ((Zcv text).bind fun (r,r1)=>
 (some r))
def Zc4 (text:Str) (log:Str):Option (Bool):=
 (((ZcE text).bind fun archive_=>
 (bif archive_ then (some (log==[])) else
 (some false))).bind fun c=>
 (some c))
def Zel (list:List (Str×Int×Int×Int×Int×Int×Int×Str)):Option (Str×Str×Bool):=
 ((Zdz list).bind fun ZipOk=>
 (bif (!ZipOk) then (some ([],[],false)) else
 ((ZcW list).bind fun ZipPut=>
 (some (ZipPut,[],true)))))
def Zck (dtext:Str) (dlog:Str) (text:Str) (bytes:Int):Option (Str×Str):=
 (((Zc4 dtext dlog).bind fun DiskOk=>
 (bif (!DiskOk) then (some true) else
 ((ZcE text).bind fun archive_=>
 (some (!archive_))))).bind fun c=>
 (bif c then (some ([],[])) else
 ((itoa (text.length:Int)).bind fun Itoa=>
 (need (fits (Itoa.length+([10]:Str).length)) (need (fits ((Itoa++[10]).length+text.length)) (need (decide (0≤(ZkC (ZnC bytes 0) (((Itoa++[10])++text).length:Int)))&&decide ((ZkC (ZnC bytes 0) (((Itoa++[10])++text).length:Int))≤((Itoa++[10])++text).length)) (some (dtext,(((Itoa++[10])++text).take (ZkC (ZnC bytes 0) (((Itoa++[10])++text).length:Int)).toNat)))))))))
def ZlZ:Nat→Int→Option (Str)
 | 0,_=>none
 | k_+1,n=>
 (bif (decide (n<(-9223372036854775807))) then (some [45,57,50,50,51,51,55,50,48,51,54,56,53,52,55,55,53,56,48,56]) else
 (bif (decide (n<0)) then ((ZlZ k_ (w64 (0-n))).bind fun l1Dec_=>
 (need (fits (([45]:Str).length+l1Dec_.length)) (some ([45]++l1Dec_)))) else
 (bif (decide (n<10)) then (some (Zbv [(IntKind.wrap .u8 (w64 (48+n)))])) else
 ((ZlZ k_ (w64 (n.tdiv 10))).bind fun l1Dec_1=>
 (need (fits (l1Dec_1.length+(Zbv [(IntKind.wrap .u8 (w64 (48+(n.tmod 10))))]).length)) (some (l1Dec_1++(Zbv [(IntKind.wrap .u8 (w64 (48+(n.tmod 10))))]))))))))
def ZeT (n:Int):Option (Str):=ZlZ 30 n
def ZcG.l0.step (again:(Int×Int)→Option (Int)):(Int×Int)→Option (Int):=fun (n1,out)=>
 (bif (decide (n1>0)) then (again ((w64 (n1-1)),(w64 (2*out)))) else
 (some out))
def ZcG.l0:=ZaC ZcG.l0.step
theorem ZcG.l0.succ (n:Nat) t:ZcG.l0 (n+1) t=ZcG.l0.step (ZcG.l0 n) t:=rfl
def ZcG (n:Int):Option (Int):=
 ((ZcG.l0 ((n-0).toNat+1) (n,1)).bind fun out1=>
 (some out1))
def Zd3.l0.step (again:(Int×Int×Int×Int×Int×List Int)→Option (Int×Int×List Int)):(Int×Int×Int×Int×Int×List Int)→Option (Int×Int×List Int):=fun (num1,bits1,k,o,o1,o2)=>
 (bif (decide (k<bits1)) then ((ZcG o1).bind fun l1Pow_=>
 (bif ((w64 (o1+1))==8) then (need (fits (o2.length+([(IntKind.wrap .u8 (w64 (o+(w64 ((num1.tmod 2)*l1Pow_)))))]:List (Int)).length)) (again ((w64 (num1.tdiv 2)),bits1,(w64 (k+1)),0,0,(o2++[(IntKind.wrap .u8 (w64 (o+(w64 ((num1.tmod 2)*l1Pow_)))))])))) else
 (again ((w64 (num1.tdiv 2)),bits1,(w64 (k+1)),(w64 (o+(w64 ((num1.tmod 2)*l1Pow_)))),(w64 (o1+1)),o2)))) else
 (some (o,o1,o2)))
def Zd3.l0:=ZaC Zd3.l0.step
theorem Zd3.l0.succ (n:Nat) t:Zd3.l0 (n+1) t=Zd3.l0.step (Zd3.l0 n) t:=rfl
def Zd3 (num:Int) (bits:Int) (last:Int) (fill:Int) (text:List Int):Option (Int×Int×List Int):=
 ((Zd3.l0 ((bits-(0:Int)).toNat+1) (num,bits,0,last,fill,text)).bind fun (o3,o4,o5)=>
 (some (o3,o4,o5)))
def ZdA (last:Int) (fill:Int) (text:List Int):Option (Int×Int×List Int):=
 (bif (decide (fill>0)) then ((Zd3 0 (w64 (8-fill)) last fill text).bind fun (r,r1,r2)=>
 (some (r,r1,r2))) else
 (some (last,fill,text)))
def ZjF (s:Str) (at_:Int) (bad:Bool):Option (Int×Str×Int×Bool):=
 (bif (decide (at_≥(w64 (8*(s.length:Int))))) then (some (0,s,at_,true)) else
 (need (decide (0≤(w64 (at_.tdiv 8)))&&decide ((w64 (at_.tdiv 8))<s.length)) ((ZcG (at_.tmod 8)).bind fun l1Pow_=>
 (need (l1Pow_ != 0) (some (((w64 ((w64 ((s.getD (w64 (at_.tdiv 8)).toNat 0).toNat:Int)).tdiv l1Pow_)).tmod 2),s,(w64 (at_+1)),bad))))))
def ZeY.l0.step (again:(Int×Int×Int×Str×Int×Bool)→Option (Int×Str×Int×Bool)):(Int×Int×Int×Str×Int×Bool)→Option (Int×Str×Int×Bool):=fun (bits1,n,k,o,o1,o2)=>
 (bif (decide (k<bits1)) then ((ZjF o o1 o2).bind fun (r,r1,r2,r3)=>
 ((ZcG k).bind fun l1Pow_=>
 (again (bits1,(w64 (n+(w64 (r*l1Pow_)))),(w64 (k+1)),r1,r2,r3)))) else
 (some (n,o,o1,o2)))
def ZeY.l0:=ZaC ZeY.l0.step
theorem ZeY.l0.succ (n:Nat) t:ZeY.l0 (n+1) t=ZeY.l0.step (ZeY.l0 n) t:=rfl
def ZeY (bits:Int) (s:Str) (at_:Int) (bad:Bool):Option (Int×Str×Int×Bool):=
 ((ZeY.l0 ((bits-(0:Int)).toNat+1) (bits,0,0,s,at_,bad)).bind fun (n1,o3,o4,o5)=>
 (some (n1,o3,o4,o5)))
def ZcI.l0.step (again:(Int×Str×Int×Bool)→Option (Int×Str×Int×Bool)):(Int×Str×Int×Bool)→Option (Int×Str×Int×Bool):=fun (n,o,o1,o2)=>
 (bif ((o1.tmod 8) != 0) then ((ZjF o o1 o2).bind fun (r,r1,r2,r3)=>
 (again ((w64 (n+r)),r1,r2,r3))) else
 (some (n,o,o1,o2)))
def ZcI.l0:=ZaC ZcI.l0.step
theorem ZcI.l0.succ (n:Nat) t:ZcI.l0 (n+1) t=ZcI.l0.step (ZcI.l0 n) t:=rfl
def ZcI (s:Str) (at_:Int) (bad:Bool):Option (Bool×Str×Int×Bool):=
 ((ZcI.l0 (9) (0,s,at_,bad)).bind fun (n1,o3,o4,o5)=>
 (some ((n1==0),o3,o4,o5)))
def Zc2.l0.step (again:(Int×Int×Int×Int)→Option (Int)):(Int×Int×Int×Int)→Option (Int):=fun (num1,bits1,n,k)=>
 (bif (decide (k<bits1)) then (again ((w64 (num1.tdiv 2)),bits1,(w64 ((w64 (2*n))+(num1.tmod 2))),(w64 (k+1)))) else
 (some n))
def Zc2.l0:=ZaC Zc2.l0.step
theorem Zc2.l0.succ (n:Nat) t:Zc2.l0 (n+1) t=Zc2.l0.step (Zc2.l0 n) t:=rfl
def Zc2 (num:Int) (bits:Int):Option (Int):=
 ((Zc2.l0 ((bits-(0:Int)).toNat+1) (num,bits,0,0)).bind fun n1=>
 (some n1))
def Zc1.l0.step (again:(Int×Int)→Option (Int)):(Int×Int)→Option (Int):=fun (c1,k)=>
 (bif (decide (k<8)) then (bif ((c1.tmod 2)==1) then (again ((Zk1 .u32 (IntKind.wrap .u32 (c1.tdiv 2)) 3988292384),(w64 (k+1)))) else
 (again ((IntKind.wrap .u32 (c1.tdiv 2)),(w64 (k+1))))) else
 (some c1))
def Zc1.l0:=ZaC Zc1.l0.step
theorem Zc1.l0.succ (n:Nat) t:Zc1.l0 (n+1) t=Zc1.l0.step (Zc1.l0 n) t:=rfl
def Zc1 (c:Int) (b:Int):Option (Int):=
 ((Zc1.l0 ((8-(0:Int)).toNat+1) ((Zk1 .u32 c (IntKind.wrap .u32 b)),0)).bind fun c2=>
 (some c2))
def Zc8.l0.step (again:(Str×Int×Int)→Option (Int)):(Str×Int×Int)→Option (Int):=fun (text1,c,i)=>
 (bif (decide (i<(text1.length:Int))) then (need (decide (0≤i)&&decide (i<text1.length)) ((Zc1 c ((text1.getD i.toNat 0).toNat:Int)).bind fun l2Step_=>
 (again (text1,l2Step_,(w64 (i+1)))))) else
 (some c))
def Zc8.l0:=ZaC Zc8.l0.step
theorem Zc8.l0.succ (n:Nat) t:Zc8.l0 (n+1) t=Zc8.l0.step (Zc8.l0 n) t:=rfl
def Zc8 (crc_:Int) (text:Str):Option (Int):=
 ((Zc8.l0 (((text.length:Int)-(0:Int)).toNat+1) (text,(Zk1 .u32 crc_ 4294967295),0)).bind fun c1=>
 (some (Zk1 .u32 c1 4294967295)))
def Zdo (text:Str):Option (Int):=
 ((Zc8 0 text).bind fun l2More_=>
 (some (w64 l2More_)))
def ZcA.l0.step (again:(List Int×Int×Int)→Option (Int)):(List Int×Int×Int)→Option (Int):=fun (lens1,n,i)=>
 (bif (decide (i<(lens1.length:Int))) then (need (decide (0≤i)&&decide (i<lens1.length)) (bif (decide ((lens1.getD i.toNat 0)>0)) then (again (lens1,(w64 (n+1)),(w64 (i+1)))) else
 (again (lens1,n,(w64 (i+1)))))) else
 (some n))
def ZcA.l0:=ZaC ZcA.l0.step
theorem ZcA.l0.succ (n:Nat) t:ZcA.l0 (n+1) t=ZcA.l0.step (ZcA.l0 n) t:=rfl
def ZcA (lens:List Int):Option (Int):=
 ((ZcA.l0 (((lens.length:Int)-(0:Int)).toNat+1) (lens,0,0)).bind fun n1=>
 (some n1))
def ZaN.l0.step (again:(List Int×Int×Int)→Option ((List Int×Int)⊕(Bool))):(List Int×Int×Int)→Option ((List Int×Int)⊕(Bool)):=fun (lens1,sum,i)=>
 (bif (decide (i<(lens1.length:Int))) then (need (decide (0≤i)&&decide (i<lens1.length)) ((Zhc (lens1.getD i.toNat 0) 0 15).bind fun l1In_=>
 (bif (!l1In_) then ((some false).map Sum.inr) else
 (need (decide (0≤i)&&decide (i<lens1.length)) (bif (decide ((lens1.getD i.toNat 0)>0)) then (need (decide (0≤i)&&decide (i<lens1.length)) ((ZcG (w64 (15-(lens1.getD i.toNat 0)))).bind fun l1Pow_=>
 (again (lens1,(w64 (sum+l1Pow_)),(w64 (i+1)))))) else
 (again (lens1,sum,(w64 (i+1))))))))) else
 (some (.inl (lens1,sum))))
def ZaN.l0:=ZaC ZaN.l0.step
theorem ZaN.l0.succ (n:Nat) t:ZaN.l0 (n+1) t=ZaN.l0.step (ZaN.l0 n) t:=rfl
def ZaN (lens:List Int):Option (Bool):=
 ((ZaN.l0 (((lens.length:Int)-(0:Int)).toNat+1) (lens,0,0)).bind fun r=>match r with
 | .inl (lens2,sum1)=>(((ZcA lens2).bind fun l3Used_=>
 (bif (l3Used_==1) then ((ZcG 14).bind fun l1Pow_1=>
 (some (sum1==l1Pow_1))) else
 (some false))).bind fun one=>
 ((bif (decide ((lens2.length:Int)≤300)) then ((ZcG 15).bind fun l1Pow_2=>
 (bif (sum1==l1Pow_2) then (some true) else
 (some one))) else
 (some false)).bind fun c=>
 (some c)))
 | .inr r=>some r)
def ZaL.l0.step (again:(List Int×Int×Int×Int×List Int)→Option (List Int×Int×Int×List Int)):(List Int×Int×Int×Int×List Int)→Option (List Int×Int×Int×List Int):=fun (lens2,code_1,n1,i,out1)=>
 (bif (decide (i<(lens2.length:Int))) then (need (decide (0≤i)&&decide (i<lens2.length)) (bif ((lens2.getD i.toNat 0)==n1) then (need (decide (0≤i)&&decide (i<out1.length)) (again (lens2,(w64 (code_1+1)),n1,(w64 (i+1)),(out1.set i.toNat code_1)))) else
 (again (lens2,code_1,n1,(w64 (i+1)),out1)))) else
 (some (lens2,code_1,n1,out1)))
def ZaL.l0:=ZaC ZaL.l0.step
theorem ZaL.l0.succ (n:Nat) t:ZaL.l0 (n+1) t=ZaL.l0.step (ZaL.l0 n) t:=rfl
def ZaL.l1.step (again:(List Int×Int×Int×List Int)→Option (List Int)):(List Int×Int×Int×List Int)→Option (List Int):=fun (lens1,code_,n,out)=>
 (bif (decide (n≤15)) then ((ZaL.l0 (((lens1.length:Int)-(0:Int)).toNat+1) (lens1,code_,n,0,out)).bind fun (lens3,code_2,n2,out2)=>
 (again (lens3,(w64 (2*code_2)),(w64 (n2+1)),out2))) else
 (some out))
def ZaL.l1:=ZaC ZaL.l1.step
theorem ZaL.l1.succ (n:Nat) t:ZaL.l1 (n+1) t=ZaL.l1.step (ZaL.l1 n) t:=rfl
def ZaL (lens:List Int):Option (List Int):=
 (need (decide (0≤(lens.length:Int))&&fits (lens.length:Int).toNat) ((ZaL.l1 ((15-(1:Int)).toNat+2) (lens,0,1,(List.replicate (lens.length:Int).toNat (0:Int)))).bind fun out3=>
 (some out3)))
def ZbY.l0.step (again:((List (Int×Int×List Int))×Int×Int)→Option (Int)):((List (Int×Int×List Int))×Int×Int)→Option (Int):=fun (list1,at_,i)=>
 (bif (decide (i<(list1.length:Int))) then ((need (decide (0≤i)&&decide (i<list1.length)) (need (decide (0≤at_)&&decide (at_<list1.length)) (bif (decide ((list1.getD i.toNat (0,0,[])).1<(list1.getD at_.toNat (0,0,[])).1)) then (some true) else
 (need (decide (0≤i)&&decide (i<list1.length)) (need (decide (0≤at_)&&decide (at_<list1.length)) (bif ((list1.getD i.toNat (0,0,[])).1==(list1.getD at_.toNat (0,0,[])).1) then (need (decide (0≤i)&&decide (i<list1.length)) (need (decide (0≤at_)&&decide (at_<list1.length)) (some (decide ((list1.getD i.toNat (0,0,[])).2.1<(list1.getD at_.toNat (0,0,[])).2.1))))) else
 (some false))))))).bind fun c=>
 (bif c then (again (list1,i,(w64 (i+1)))) else
 (again (list1,at_,(w64 (i+1)))))) else
 (some at_))
def ZbY.l0:=ZaC ZbY.l0.step
theorem ZbY.l0.succ (n:Nat) t:ZbY.l0 (n+1) t=ZbY.l0.step (ZbY.l0 n) t:=rfl
def ZbY (list:List (Int×Int×List Int)):Option (Int):=
 ((ZbY.l0 (((list.length:Int)-(1:Int)).toNat+1) (list,0,1)).bind fun at_1=>
 (some at_1))
def ZfD (list:List (Int×Int×List Int)) (at_:Int):Option (List (Int×Int×List Int)):=
 (need (decide (0≤at_)&&decide (at_≤list.length)) (need (fits (([]:List (Int×Int×List Int)).length+(list.take at_.toNat).length)) (need (decide (0≤(w64 (at_+1)))&&decide ((w64 (at_+1))≤list.length)) (need (fits (([]++(list.take at_.toNat)).length+(list.drop (w64 (at_+1)).toNat).length)) (some (([]++(list.take at_.toNat))++(list.drop (w64 (at_+1)).toNat)))))))
def Zbf.l1.step (again:(Int×Int×List Int×(List (Int×Int×List Int))×Int×Int×List Int×Int×Int×List Int×List Int)→Option (Int×List Int×(List (Int×Int×List Int))×Int×Int×List Int×Int×Int×List Int×List Int)):(Int×Int×List Int×(List (Int×Int×List Int))×Int×Int×List Int×Int×Int×List Int×List Int)→Option (Int×List Int×(List (Int×Int×List Int))×Int×Int×List Int×Int×Int×List Int×List Int):=fun (first1,i1,out5,list5,o6,o7,o8,o9,o10,o11,syms)=>
 (bif (decide (i1<(syms.length:Int))) then (need (decide (0≤i1)&&decide (i1<syms.length)) (need (decide (0≤i1)&&decide (i1<syms.length)) (need (decide (0≤(syms.getD i1.toNat 0))&&decide ((syms.getD i1.toNat 0)<out5.length)) (need (decide (0≤(syms.getD i1.toNat 0))&&decide ((syms.getD i1.toNat 0)<out5.length)) (again (first1,(w64 (i1+1)),(out5.set ((syms.getD i1.toNat 0).toNat) (w64 ((out5.getD ((syms.getD i1.toNat 0).toNat) 0)+1))),list5,o6,o7,o8,o9,o10,o11,syms)))))) else
 (some (first1,out5,list5,o6,o7,o8,o9,o10,o11,syms)))
def Zbf.l1:=ZaC Zbf.l1.step
theorem Zbf.l1.succ (n:Nat) t:Zbf.l1 (n+1) t=Zbf.l1.step (Zbf.l1 n) t:=rfl
def Zbf.l2.step (again:(List Int×List (Int×Int×List Int))→Option (List Int)):(List Int×List (Int×Int×List Int))→Option (List Int):=fun (out3,list3)=>
 (bif (decide ((list3.length:Int)>1)) then ((ZbY list3).bind fun l3Least_=>
 (need (decide (0≤l3Least_)&&decide (l3Least_<list3.length)) ((ZfD list3 l3Least_).bind fun l3Less_=>
 ((ZbY l3Less_).bind fun l3Least_1=>
 (need (decide (0≤l3Least_1)&&decide (l3Least_1<l3Less_.length)) ((ZfD l3Less_ l3Least_1).bind fun l3Less_1=>
 (((bif (decide ((l3Less_.getD l3Least_1.toNat (0,0,[])).2.1<(list3.getD l3Least_.toNat (0,0,[])).2.1)) then (some ((l3Less_.getD l3Least_1.toNat (0,0,[])).2.1,out3,l3Less_1,(list3.getD l3Least_.toNat (0,0,[])).1,(list3.getD l3Least_.toNat (0,0,[])).2.1,(list3.getD l3Least_.toNat (0,0,[])).2.2,(l3Less_.getD l3Least_1.toNat (0,0,[])).1,(l3Less_.getD l3Least_1.toNat (0,0,[])).2.1,(l3Less_.getD l3Least_1.toNat (0,0,[])).2.2)) else
 (some ((list3.getD l3Least_.toNat (0,0,[])).2.1,out3,l3Less_1,(list3.getD l3Least_.toNat (0,0,[])).1,(list3.getD l3Least_.toNat (0,0,[])).2.1,(list3.getD l3Least_.toNat (0,0,[])).2.2,(l3Less_.getD l3Least_1.toNat (0,0,[])).1,(l3Less_.getD l3Least_1.toNat (0,0,[])).2.1,(l3Less_.getD l3Least_1.toNat (0,0,[])).2.2))):Option (Int×List Int×(List (Int×Int×List Int))×Int×Int×List Int×Int×Int×List Int)).bind fun (first,out4,list4,o,o1,o2,o3,o4,o5)=>
 (need (fits (([]:List (Int)).length+o2.length)) (need (fits (([]++o2).length+o5.length)) ((Zbf.l1 ((((([]++o2)++o5).length:Int)-(0:Int)).toNat+1) (first,0,out4,list4,o,o1,o2,o3,o4,o5,(([]++o2)++o5))).bind fun (first2,out6,list6,o12,o13,o14,o15,o16,o17,syms1)=>
 (need (fits (list6.length+([((w64 (o12+o15)),first2,syms1)]:List (Int×Int×List Int)).length)) (again (out6,(list6++[((w64 (o12+o15)),first2,syms1)])))))))))))))) else
 (some out3))
def Zbf.l2:=ZaC Zbf.l2.step
theorem Zbf.l2.succ (n:Nat) t:Zbf.l2 (n+1) t=Zbf.l2.step (Zbf.l2 n) t:=rfl
def Zbf.l0.step (again:(List Int×Int×List Int×List (Int×Int×List Int))→Option (List Int×List (Int×Int×List Int))):(List Int×Int×List Int×List (Int×Int×List Int))→Option (List Int×List (Int×Int×List Int)):=fun (counts1,i,out,list)=>
 (bif (decide (i<(counts1.length:Int))) then (need (decide (0≤i)&&decide (i<counts1.length)) (bif (decide ((counts1.getD i.toNat 0)>0)) then (need (decide (0≤i)&&decide (i<counts1.length)) (need (fits (list.length+([((counts1.getD i.toNat 0),i,[i])]:List (Int×Int×List Int)).length)) (again (counts1,(w64 (i+1)),out,(list++[((counts1.getD i.toNat 0),i,[i])]))))) else
 (again (counts1,(w64 (i+1)),out,list)))) else
 (some (out,list)))
def Zbf.l0:=ZaC Zbf.l0.step
theorem Zbf.l0.succ (n:Nat) t:Zbf.l0 (n+1) t=Zbf.l0.step (Zbf.l0 n) t:=rfl
def Zbf (counts:List Int):Option (List Int):=
 (need (decide (0≤(counts.length:Int))&&fits (counts.length:Int).toNat) ((Zbf.l0 (((counts.length:Int)-(0:Int)).toNat+1) (counts,0,(List.replicate (counts.length:Int).toNat (0:Int)),[])).bind fun (out1,list1)=>
 (((bif ((list1.length:Int)==1) then (need (decide (0≤(0:Int))&&decide ((0:Int)<list1.length)) (need (decide (0≤(list1.getD 0 (0,0,[])).2.1)&&decide ((list1.getD 0 (0,0,[])).2.1<out1.length)) (some ((out1.set (((list1.getD 0 (0,0,[])).2.1).toNat) 1),list1)))) else
 (some (out1,list1))):Option (List Int×List (Int×Int×List Int))).bind fun (out2,list2)=>
 ((Zbf.l2 (((list2.length:Int)-1).toNat+1) (out2,list2)).bind fun out7=>
 (some out7)))))
def Zc0.l0.step (again:(List Int×Int×Int)→Option (Int)):(List Int×Int×Int)→Option (Int):=fun (lens1,n,i)=>
 (bif (decide (i<(lens1.length:Int))) then (need (decide (0≤i)&&decide (i<lens1.length)) (bif (decide ((lens1.getD i.toNat 0)>n)) then (need (decide (0≤i)&&decide (i<lens1.length)) (again (lens1,(lens1.getD i.toNat 0),(w64 (i+1))))) else
 (again (lens1,n,(w64 (i+1)))))) else
 (some n))
def Zc0.l0:=ZaC Zc0.l0.step
theorem Zc0.l0.succ (n:Nat) t:Zc0.l0 (n+1) t=Zc0.l0.step (Zc0.l0 n) t:=rfl
def Zc0 (lens:List Int):Option (Int):=
 ((Zc0.l0 (((lens.length:Int)-(0:Int)).toNat+1) (lens,0,0)).bind fun n1=>
 (some n1))
def ZcL.l0.step (again:(Int×Int×List Int)→Option (Int×List Int)):(Int×Int×List Int)→Option (Int×List Int):=fun (most2,i,list1)=>
 (bif (decide (i<(list1.length:Int))) then (need (decide (0≤i)&&decide (i<list1.length)) (need (decide (0≤i)&&decide (i<list1.length)) (again (most2,(w64 (i+1)),(list1.set i.toNat (w64 ((w64 ((list1.getD i.toNat 0)+1)).tdiv 2))))))) else
 (some (most2,list1)))
def ZcL.l0:=ZaC ZcL.l0.step
theorem ZcL.l0.succ (n:Nat) t:ZcL.l0 (n+1) t=ZcL.l0.step (ZcL.l0 n) t:=rfl
def ZcL.l1.step (again:(Int×List Int×List Int)→Option (List Int)):(Int×List Int×List Int)→Option (List Int):=fun (most1,list,out)=>
 ((Zc0 out).bind fun l3Most_=>
 (bif (decide (l3Most_>most1)) then ((ZcL.l0 (((list.length:Int)-(0:Int)).toNat+1) (most1,0,list)).bind fun (most3,list2)=>
 ((Zbf list2).bind fun l3Lens_1=>
 (again (most3,list2,l3Lens_1)))) else
 (some out)))
def ZcL.l1:=ZaC ZcL.l1.step
theorem ZcL.l1.succ (n:Nat) t:ZcL.l1 (n+1) t=ZcL.l1.step (ZcL.l1 n) t:=rfl
def ZcL (counts:List Int) (most:Int):Option (List Int):=
 (need (fits (([]:List (Int)).length+counts.length)) ((Zbf ([]++counts)).bind fun l3Lens_=>
 ((ZcL.l1 (100000) (most,([]++counts),l3Lens_)).bind fun out1=>
 (some out1))))
def ZeD (lens:List Int) (codes_:List Int) (sym:Int):Option (Int×Int):=
 (need (decide (0≤sym)&&decide (sym<codes_.length)) (need (decide (0≤sym)&&decide (sym<lens.length)) ((Zc2 (codes_.getD sym.toNat 0) (lens.getD sym.toNat 0)).bind fun l1Turn_=>
 (need (decide (0≤sym)&&decide (sym<lens.length)) (some (l1Turn_,(lens.getD sym.toNat 0)))))))
def ZaS.l0.step (again:(List Int×List Int×Int×Int×Int×Str×Int×Bool)→Option ((List Int×List Int×Int×Int×Str×Int×Bool)⊕((Str×Int×Bool)⊕(Int×Str×Int×Bool)))):(List Int×List Int×Int×Int×Int×Str×Int×Bool)→Option ((List Int×List Int×Int×Int×Str×Int×Bool)⊕((Str×Int×Bool)⊕(Int×Str×Int×Bool))):=fun (lens2,codes_2,code_1,n1,i,o3,o4,o5)=>
 (bif (decide (i<(lens2.length:Int))) then ((need (decide (0≤i)&&decide (i<lens2.length)) (bif ((lens2.getD i.toNat 0)==n1) then (need (decide (0≤i)&&decide (i<codes_2.length)) (some ((codes_2.getD i.toNat 0)==code_1))) else
 (some false))).bind fun c1=>
 (bif c1 then (((some (i,o3,o4,o5)).map Sum.inr).map Sum.inr) else
 (again (lens2,codes_2,code_1,n1,(w64 (i+1)),o3,o4,o5)))) else
 (some (.inl (lens2,codes_2,code_1,n1,o3,o4,o5))))
def ZaS.l0:=ZaC ZaS.l0.step
theorem ZaS.l0.succ (n:Nat) t:ZaS.l0 (n+1) t=ZaS.l0.step (ZaS.l0 n) t:=rfl
def ZaS.l1.step (again:(List Int×List Int×Int×Int×Str×Int×Bool)→Option ((Str×Int×Bool)⊕(Int×Str×Int×Bool))):(List Int×List Int×Int×Int×Str×Int×Bool)→Option ((Str×Int×Bool)⊕(Int×Str×Int×Bool)):=fun (lens1,codes_1,code_,n,o,o1,o2)=>
 ((bif (decide (n≤15)) then (some (!o2)) else
 (some false)).bind fun c=>
 (bif c then ((ZjF o o1 o2).bind fun (r,r1,r2,r3)=>
 ((ZaS.l0 (((lens1.length:Int)-(0:Int)).toNat+1) (lens1,codes_1,(w64 ((w64 (2*code_))+r)),n,0,r1,r2,r3)).bind fun r=>match r with
 | .inl (lens3,codes_3,code_2,n2,o6,o7,o8)=>(again (lens3,codes_3,code_2,(w64 (n2+1)),o6,o7,o8))
 | .inr r=>some r)) else
 (some (.inl (o,o1,o2)))))
def ZaS.l1:=ZaC ZaS.l1.step
theorem ZaS.l1.succ (n:Nat) t:ZaS.l1 (n+1) t=ZaS.l1.step (ZaS.l1 n) t:=rfl
def ZaS (lens:List Int) (codes_:List Int) (s:Str) (at_:Int) (bad:Bool):Option (Int×Str×Int×Bool):=
 ((ZaS.l1 ((15-(1:Int)).toNat+2) (lens,codes_,0,1,s,at_,bad)).bind fun r=>match r with
 | .inl (o9,o10,o11)=>(some ((-1),o9,o10,true))
 | .inr r=>some r)
def ZeC.l0.step (again:(Int×List Int×Int×Int×Int)→Option (List Int)):(Int×List Int×Int×Int×Int)→Option (List Int):=fun (i,text1,o,o1,o2)=>
 (bif (decide (i<o1)) then (need (decide (0≤(w64 ((text1.length:Int)-o2)))&&decide ((w64 ((text1.length:Int)-o2))<text1.length)) (need (fits (text1.length+([(text1.getD ((w64 ((text1.length:Int)-o2)).toNat) 0)]:List (Int)).length)) (again ((w64 (i+1)),(text1++[(text1.getD ((w64 ((text1.length:Int)-o2)).toNat) 0)]),o,o1,o2)))) else
 (some text1))
def ZeC.l0:=ZaC ZeC.l0.step
theorem ZeC.l0.succ (n:Nat) t:ZeC.l0 (n+1) t=ZeC.l0.step (ZeC.l0 n) t:=rfl
def ZeC (byte:Int) (long:Int) (back:Int) (text:List Int):Option (Bool×List Int):=
 (bif (long==0) then (need (fits (text.length+([(IntKind.wrap .u8 byte)]:List (Int)).length)) ((Zhc byte 0 255).bind fun l1In_=>
 (bif l1In_ then (some ((back==0),(text++[(IntKind.wrap .u8 byte)]))) else
 (some (false,(text++[(IntKind.wrap .u8 byte)])))))) else
 ((bif (byte != 0) then (some true) else
 ((Zhc long 3 60).bind fun l1In_1=>
 (bif (!l1In_1) then (some true) else
 ((Zhc back 1 250).bind fun l1In_2=>
 (bif (!l1In_2) then (some true) else
 (some (decide (back>(text.length:Int))))))))).bind fun c=>
 (bif c then (some (false,text)) else
 ((ZeC.l0 ((long-(0:Int)).toNat+1) (0,text,byte,long,back)).bind fun text2=>
 (some (true,text2))))))
def Zb6.l0.step (again:(Str×Int×Int×Int)→Option (Int)):(Str×Int×Int×Int)→Option (Int):=fun (text1,at_1,back1,n)=>
 ((bif (decide ((w64 (at_1+n))<(text1.length:Int))) then (bif (decide (n<60)) then (need (decide (0≤(w64 (at_1+n)))&&decide ((w64 (at_1+n))<text1.length)) (need (decide (0≤(w64 ((w64 (at_1+n))-back1)))&&decide ((w64 ((w64 (at_1+n))-back1))<text1.length)) (some (((text1.getD (w64 (at_1+n)).toNat 0).toNat:Int)==((text1.getD (w64 ((w64 (at_1+n))-back1)).toNat 0).toNat:Int))))) else
 (some false)) else
 (some false)).bind fun c=>
 (bif c then (again (text1,at_1,back1,(w64 (n+1)))) else
 (some n)))
def Zb6.l0:=ZaC Zb6.l0.step
theorem Zb6.l0.succ (n:Nat) t:Zb6.l0 (n+1) t=Zb6.l0.step (Zb6.l0 n) t:=rfl
def Zb6 (text:Str) (at_:Int) (back:Int):Option (Int):=
 ((Zb6.l0 (62) (text,at_,back,0)).bind fun n1=>
 (some n1))
def ZaH.l0.step (again:(Str×Int×Int×Int×Int×List (Int×Int×Int))→Option (Str×Int×Int×Int×List (Int×Int×Int))):(Str×Int×Int×Int×Int×List (Int×Int×Int))→Option (Str×Int×Int×Int×List (Int×Int×Int)):=fun (text2,at_1,long,far,back,out1)=>
 ((bif (decide (back≤250)) then (some (decide (back≤at_1))) else
 (some false)).bind fun c=>
 (bif c then ((Zb6 text2 at_1 back).bind fun l4Again_=>
 (bif (decide (l4Again_>long)) then (again (text2,at_1,l4Again_,back,(w64 (back+1)),out1)) else
 (again (text2,at_1,long,far,(w64 (back+1)),out1)))) else
 (some (text2,at_1,long,far,out1))))
def ZaH.l0:=ZaC ZaH.l0.step
theorem ZaH.l0.succ (n:Nat) t:ZaH.l0 (n+1) t=ZaH.l0.step (ZaH.l0 n) t:=rfl
def ZaH.l1.step (again:(Str×Int×List (Int×Int×Int))→Option (List (Int×Int×Int))):(Str×Int×List (Int×Int×Int))→Option (List (Int×Int×Int)):=fun (text1,at_,out)=>
 (bif (decide (at_<(text1.length:Int))) then ((ZaH.l0 ((250-(1:Int)).toNat+2) (text1,at_,0,0,1,out)).bind fun (text3,at_2,long1,far1,out2)=>
 (bif (decide (long1<3)) then (need (decide (0≤at_2)&&decide (at_2<text3.length)) (need (fits (out2.length+([((w64 ((text3.getD at_2.toNat 0).toNat:Int)),0,0)]:List (Int×Int×Int)).length)) (again (text3,(w64 (at_2+1)),(out2++[((w64 ((text3.getD at_2.toNat 0).toNat:Int)),0,0)]))))) else
 (need (fits (out2.length+([(0,long1,far1)]:List (Int×Int×Int)).length)) (again (text3,(w64 (at_2+long1)),(out2++[(0,long1,far1)])))))) else
 (some out))
def ZaH.l1:=ZaC ZaH.l1.step
theorem ZaH.l1.succ (n:Nat) t:ZaH.l1 (n+1) t=ZaH.l1.step (ZaH.l1 n) t:=rfl
def ZaH (text:Str):Option (List (Int×Int×Int)):=
 ((ZaH.l1 (((text.length:Int)-(0:Int)).toNat+1) (text,0,[])).bind fun out3=>
 (some out3))
def ZcK.l0.step (again:(List Int×Int×Int×List Int)→Option (List Int)):(List Int×Int×Int×List Int)→Option (List Int):=fun (extra1,from_1,i,out)=>
 (bif (decide (i<(extra1.length:Int))) then (need (fits (out.length+([from_1]:List (Int)).length)) (need (decide (0≤i)&&decide (i<extra1.length)) ((ZcG (extra1.getD i.toNat 0)).bind fun l1Pow_=>
 (again (extra1,(w64 (from_1+l1Pow_)),(w64 (i+1)),(out++[from_1])))))) else
 (some out))
def ZcK.l0:=ZaC ZcK.l0.step
def ZcK (extra:List Int) (from_:Int):Option (List Int):=
 ((ZcK.l0 (((extra.length:Int)-(0:Int)).toNat+1) (extra,from_,0,[])).bind fun out1=>
 (some out1))
def Zbb:Option (List Int):=
 (some [0,0,0,0,0,0,0,0,1,1,1,1,2,2,2,2,3,3,3,3,4,4,4,4,5,5,5,5])
def Zbc:Option (List Int):=
 (some [0,0,0,0,1,1,2,2,3,3,4,4,5,5,6,6,7,7,8,8,9,9,10,10,11,11,12,12,13,13])
def ZeS.l0.step (again:(List Int×Int×Int)→Option (Int)):(List Int×Int×Int)→Option (Int):=fun (base1,n1,k)=>
 ((bif (decide ((w64 (k+1))<(base1.length:Int))) then (need (decide (0≤(w64 (k+1)))&&decide ((w64 (k+1))<base1.length)) (some (decide ((base1.getD (w64 (k+1)).toNat 0)≤n1)))) else
 (some false)).bind fun c=>
 (bif c then (again (base1,n1,(w64 (k+1)))) else
 (some k)))
def ZeS.l0:=ZaC ZeS.l0.step
def ZeS (base:List Int) (n:Int):Option (Int):=
 ((ZeS.l0 ((base.length:Int).toNat+1) (base,n,0)).bind fun k1=>
 (some k1))
def ZcQ.l0.step (again:(Int×List Int)→Option (List Int)):(Int×List Int)→Option (List Int):=fun (i,out)=>
 (bif (decide (i<288)) then (bif (decide (i<144)) then (need (fits (out.length+([8]:List (Int)).length)) (again ((w64 (i+1)),(out++[8])))) else
 (bif (decide (i<256)) then (need (fits (out.length+([9]:List (Int)).length)) (again ((w64 (i+1)),(out++[9])))) else
 (bif (decide (i<280)) then (need (fits (out.length+([7]:List (Int)).length)) (again ((w64 (i+1)),(out++[7])))) else
 (need (fits (out.length+([8]:List (Int)).length)) (again ((w64 (i+1)),(out++[8]))))))) else
 (some out))
def ZcQ.l0:=ZaC ZcQ.l0.step
def ZcQ:Option (List Int):=
 ((ZcQ.l0 ((288-(0:Int)).toNat+1) (0,[])).bind fun out1=>
 (some out1))
def ZcR.l0.step (again:(Int×List Int)→Option (List Int)):(Int×List Int)→Option (List Int):=fun (i,out)=>
 (bif (decide (i<32)) then (need (fits (out.length+([5]:List (Int)).length)) (again ((w64 (i+1)),(out++[5])))) else
 (some out))
def ZcR.l0:=ZaC ZcR.l0.step
def ZcR:Option (List Int):=
 ((ZcR.l0 ((32-(0:Int)).toNat+1) (0,[])).bind fun out1=>
 (some out1))
def ZmY (lens:List Int) (codes_:List Int) (sym:Int) (last:Int) (fill:Int) (text:List Int):Option (Int×Int×List Int):=
 ((ZeD lens codes_ sym).bind fun (r,r1)=>
 ((Zd3 r r1 last fill text).bind fun (r2,r3,r4)=>
 (some (r2,r3,r4))))
def ZbG.l0.step (again:((List (Int×Int×Int))×List Int×List Int×Int×Int×Int×List Int×List Int×List Int×List Int×List Int)→Option (List Int×Int×Int×List Int×List Int)):((List (Int×Int×Int))×List Int×List Int×Int×Int×Int×List Int×List Int×List Int×List Int×List Int)→Option (List Int×Int×Int×List Int×List Int):=fun (list1,longs1,backs1,i,o,o1,a,b,long,back,o2)=>
 (bif (decide (i<(list1.length:Int))) then (need (decide (0≤i)&&decide (i<list1.length)) (bif ((list1.getD i.toNat (0,0,0)).2.1==0) then ((ZmY longs1 a ((list1.getD i.toNat (0,0,0)).1) o o1 o2).bind fun (r,r1,r2)=>
 (again (list1,longs1,backs1,(w64 (i+1)),r,r1,a,b,long,back,r2))) else
 ((ZeS long ((list1.getD i.toNat (0,0,0)).2.1)).bind fun l5Sym_=>
 ((ZmY longs1 a (w64 (257+l5Sym_)) o o1 o2).bind fun (r3,r4,r5)=>
 (need (decide (0≤l5Sym_)&&decide (l5Sym_<long.length)) ((Zbb).bind fun l5LongBi1=>
 (need (decide (0≤l5Sym_)&&decide (l5Sym_<l5LongBi1.length)) ((Zd3 (w64 ((list1.getD i.toNat (0,0,0)).2.1-(long.getD l5Sym_.toNat 0))) (l5LongBi1.getD l5Sym_.toNat 0) r3 r4 r5).bind fun (r6,r7,r8)=>
 ((ZeS back ((list1.getD i.toNat (0,0,0)).2.2)).bind fun l5Sym_1=>
 ((ZmY backs1 b l5Sym_1 r6 r7 r8).bind fun (r9,r10,r11)=>
 (need (decide (0≤l5Sym_1)&&decide (l5Sym_1<back.length)) ((Zbc).bind fun l5BackBi1=>
 (need (decide (0≤l5Sym_1)&&decide (l5Sym_1<l5BackBi1.length)) ((Zd3 (w64 ((list1.getD i.toNat (0,0,0)).2.2-(back.getD l5Sym_1.toNat 0))) (l5BackBi1.getD l5Sym_1.toNat 0) r9 r10 r11).bind fun (r12,r13,r14)=>
 (again (list1,longs1,backs1,(w64 (i+1)),r12,r13,a,b,long,back,r14)))))))))))))))) else
 (some (longs1,o,o1,a,o2)))
def ZbG.l0:=ZaC ZbG.l0.step
theorem ZbG.l0.succ (n:Nat) t:ZbG.l0 (n+1) t=ZbG.l0.step (ZbG.l0 n) t:=rfl
def ZbG (list:List (Int×Int×Int)) (longs:List Int) (backs:List Int) (last:Int) (fill:Int) (text:List Int):Option (Int×Int×List Int):=
 ((ZaL longs).bind fun l3Codes_=>
 ((ZaL backs).bind fun l3Codes_1=>
 ((Zbb).bind fun l5LongBi=>
 ((ZcK l5LongBi 3).bind fun l5Base_=>
 ((Zbc).bind fun l5BackBi=>
 ((ZcK l5BackBi 1).bind fun l5Base_1=>
 ((ZbG.l0 (((list.length:Int)-(0:Int)).toNat+1) (list,longs,backs,0,last,fill,l3Codes_,l3Codes_1,l5Base_,l5Base_1,text)).bind fun (longs2,o3,o4,a1,o5)=>
 ((ZmY longs2 a1 256 o3 o4 o5).bind fun (r15,r16,r17)=>
 (some (r15,r16,r17))))))))))
def Zeg (text:Str):Option (Str):=
 ((Zd3 1 1 0 0 []).bind fun (r,r1,r2)=>
 ((Zd3 0 2 r r1 r2).bind fun (r3,r4,r5)=>
 ((ZdA r3 r4 r5).bind fun (r6,r7,r8)=>
 ((Zd3 (text.length:Int) 16 r6 r7 r8).bind fun (r9,r10,r11)=>
 ((Zd3 (w64 (65535-(text.length:Int))) 16 r9 r10 r11).bind fun (r12,r13,r14)=>
 (need (fits ((Zbv r14).length+text.length)) (some ((Zbv r14)++text))))))))
def Zeh (text:Str):Option (Str):=
 ((Zd3 1 1 0 0 []).bind fun (r,r1,r2)=>
 ((Zd3 1 2 r r1 r2).bind fun (r3,r4,r5)=>
 ((ZaH text).bind fun l4Tokens_=>
 ((ZcQ).bind fun l5Fixed_=>
 ((ZcR).bind fun l5Fives_=>
 ((ZbG l4Tokens_ l5Fixed_ l5Fives_ r3 r4 r5).bind fun (r6,r7,r8)=>
 ((ZdA r6 r7 r8).bind fun (r9,r10,r11)=>
 (some (Zbv r11)))))))))
def Zbw.l0.step (again:((List (Int×Int×Int))×Int×List Int×List Int×List Int×List Int)→Option (List Int×List Int)):((List (Int×Int×Int))×Int×List Int×List Int×List Int×List Int)→Option (List Int×List Int):=fun (list1,i,longs,backs,long,back)=>
 (bif (decide (i<(list1.length:Int))) then (need (decide (0≤i)&&decide (i<list1.length)) (bif ((list1.getD i.toNat (0,0,0)).2.1==0) then (need (decide (0≤i)&&decide (i<list1.length)) (need (decide (0≤i)&&decide (i<list1.length)) (need (decide (0≤(list1.getD i.toNat (0,0,0)).1)&&decide ((list1.getD i.toNat (0,0,0)).1<longs.length)) (need (decide (0≤(list1.getD i.toNat (0,0,0)).1)&&decide ((list1.getD i.toNat (0,0,0)).1<longs.length)) (again (list1,(w64 (i+1)),(longs.set (((list1.getD i.toNat (0,0,0)).1).toNat) (w64 ((longs.getD (((list1.getD i.toNat (0,0,0)).1).toNat) 0)+1))),backs,long,back)))))) else
 (need (decide (0≤i)&&decide (i<list1.length)) ((ZeS long ((list1.getD i.toNat (0,0,0)).2.1)).bind fun l5Sym_=>
 (need (decide (0≤(w64 (257+l5Sym_)))&&decide ((w64 (257+l5Sym_))<longs.length)) (need (decide (0≤(w64 (257+l5Sym_)))&&decide ((w64 (257+l5Sym_))<longs.length)) (need (decide (0≤i)&&decide (i<list1.length)) ((ZeS back ((list1.getD i.toNat (0,0,0)).2.2)).bind fun l5Sym_1=>
 (need (decide (0≤l5Sym_1)&&decide (l5Sym_1<backs.length)) (need (decide (0≤l5Sym_1)&&decide (l5Sym_1<backs.length)) (again (list1,(w64 (i+1)),(longs.set ((w64 (257+l5Sym_)).toNat) (w64 ((longs.getD ((w64 (257+l5Sym_)).toNat) 0)+1))),(backs.set l5Sym_1.toNat (w64 ((backs.getD l5Sym_1.toNat 0)+1))),long,back)))))))))))) else
 (some (longs,backs)))
def Zbw.l0:=ZaC Zbw.l0.step
theorem Zbw.l0.succ (n:Nat) t:Zbw.l0 (n+1) t=Zbw.l0.step (Zbw.l0 n) t:=rfl
def Zbw (list:List (Int×Int×Int)):Option (List Int×List Int):=
 (need (decide (0≤286)&&fits 286) (need (decide (0≤30)&&fits 30) ((Zbb).bind fun l5LongBi=>
 ((ZcK l5LongBi 3).bind fun l5Base_=>
 ((Zbc).bind fun l5BackBi=>
 ((ZcK l5BackBi 1).bind fun l5Base_1=>
 (need (decide (0≤(256:Int))&&decide ((256:Int)<(List.replicate 286 (0:Int)).length)) ((Zbw.l0 (((list.length:Int)-(0:Int)).toNat+1) (list,0,((List.replicate 286 (0:Int)).set 256 1),(List.replicate 30 (0:Int)),l5Base_,l5Base_1)).bind fun (longs1,backs1)=>
 ((ZcA backs1).bind fun l3Used_=>
 (bif (l3Used_==0) then (need (decide (0≤(0:Int))&&decide ((0:Int)<backs1.length)) (some (longs1,(backs1.set 0 1)))) else
 (some (longs1,backs1))))))))))))
def Zcw.l0.step (again:(List Int×Int×Int)→Option (List Int×Int)):(List Int×Int×Int)→Option (List Int×Int):=fun (lens1,least_1,n)=>
 ((bif (decide (n>least_1)) then (need (decide (0≤(w64 (n-1)))&&decide ((w64 (n-1))<lens1.length)) (some ((lens1.getD (w64 (n-1)).toNat 0)==0))) else
 (some false)).bind fun c=>
 (bif c then (again (lens1,least_1,(w64 (n-1)))) else
 (some (lens1,n))))
def Zcw.l0:=ZaC Zcw.l0.step
theorem Zcw.l0.succ (n:Nat) t:Zcw.l0 (n+1) t=Zcw.l0.step (Zcw.l0 n) t:=rfl
def Zcw (lens:List Int) (least_:Int):Option (List Int):=
 ((Zcw.l0 (((lens.length:Int)-least_).toNat+1) (lens,least_,(lens.length:Int))).bind fun (lens2,n1)=>
 (need (decide (0≤n1)&&decide (n1≤lens2.length)) (some (lens2.take n1.toNat))))
def Zdp:Option (List Int):=
 (some [16,17,18,0,8,7,9,6,10,5,11,4,12,3,13,2,14,1,15])
def Zcd.l2.step (again:(Int×Int×Int×List Int×List Int×List Int×List Int)→Option (Int×Int×List Int)):(Int×Int×Int×List Int×List Int×List Int×List Int)→Option (Int×Int×List Int):=fun (i2,o12,o13,all4,lens2,codes_2,o14)=>
 (bif (decide (i2<(all4.length:Int))) then (need (decide (0≤i2)&&decide (i2<all4.length)) ((ZmY lens2 codes_2 (all4.getD i2.toNat 0) o12 o13 o14).bind fun (r12,r13,r14)=>
 (again ((w64 (i2+1)),r12,r13,all4,lens2,codes_2,r14)))) else
 (some (o12,o13,o14)))
def Zcd.l2:=ZaC Zcd.l2.step
theorem Zcd.l2.succ (n:Nat) t:Zcd.l2 (n+1) t=Zcd.l2.step (Zcd.l2 n) t:=rfl
def Zcd.l1.step (again:(Int×Int×Int×List Int×List Int×List Int×List Int)→Option (Int×Int×List Int×List Int×List Int×List Int)):(Int×Int×Int×List Int×List Int×List Int×List Int)→Option (Int×Int×List Int×List Int×List Int×List Int):=fun (i1,o6,o7,all2,lens,codes_,o8)=>
 (bif (decide (i1<19)) then ((Zdp).bind fun l5Order_=>
 (need (decide (0≤i1)&&decide (i1<l5Order_.length)) (need (decide (0≤(l5Order_.getD i1.toNat 0))&&decide ((l5Order_.getD i1.toNat 0)<lens.length)) ((Zd3 (lens.getD ((l5Order_.getD i1.toNat 0).toNat) 0) 3 o6 o7 o8).bind fun (r9,r10,r11)=>
 (again ((w64 (i1+1)),r9,r10,all2,lens,codes_,r11)))))) else
 (some (o6,o7,all2,lens,codes_,o8)))
def Zcd.l1:=ZaC Zcd.l1.step
theorem Zcd.l1.succ (n:Nat) t:Zcd.l1 (n+1) t=Zcd.l1.step (Zcd.l1 n) t:=rfl
def Zcd.l0.step (again:(List Int×List Int×Int×Int×Int×List Int×List Int×List Int)→Option (List Int×List Int×Int×Int×List Int×List Int×List Int)):(List Int×List Int×Int×Int×Int×List Int×List Int×List Int)→Option (List Int×List Int×Int×Int×List Int×List Int×List Int):=fun (longs1,backs1,i,o,o1,all,counts,o2)=>
 (bif (decide (i<(all.length:Int))) then (need (decide (0≤i)&&decide (i<all.length)) (need (decide (0≤i)&&decide (i<all.length)) (need (decide (0≤(all.getD i.toNat 0))&&decide ((all.getD i.toNat 0)<counts.length)) (need (decide (0≤(all.getD i.toNat 0))&&decide ((all.getD i.toNat 0)<counts.length)) (again (longs1,backs1,(w64 (i+1)),o,o1,all,(counts.set ((all.getD i.toNat 0).toNat) (w64 ((counts.getD ((all.getD i.toNat 0).toNat) 0)+1))),o2)))))) else
 (some (longs1,backs1,o,o1,all,counts,o2)))
def Zcd.l0:=ZaC Zcd.l0.step
theorem Zcd.l0.succ (n:Nat) t:Zcd.l0 (n+1) t=Zcd.l0.step (Zcd.l0 n) t:=rfl
def Zcd (longs:List Int) (backs:List Int) (last:Int) (fill:Int) (text:List Int):Option (Int×Int×List Int):=
 (need (fits (([]:List (Int)).length+longs.length)) (need (fits (([]++longs).length+backs.length)) (need (decide (0≤19)&&fits 19) ((Zcd.l0 ((((([]++longs)++backs).length:Int)-(0:Int)).toNat+1) (longs,backs,0,last,fill,(([]++longs)++backs),(List.replicate 19 (0:Int)),text)).bind fun (longs2,backs2,o3,o4,all1,counts1,o5)=>
 ((ZcL counts1 7).bind fun l3Fit_=>
 ((ZaL l3Fit_).bind fun l3Codes_=>
 ((Zd3 (w64 ((longs2.length:Int)-257)) 5 o3 o4 o5).bind fun (r,r1,r2)=>
 ((Zd3 (w64 ((backs2.length:Int)-1)) 5 r r1 r2).bind fun (r3,r4,r5)=>
 ((Zd3 15 4 r3 r4 r5).bind fun (r6,r7,r8)=>
 ((Zcd.l1 ((19-(0:Int)).toNat+1) (0,r6,r7,all1,l3Fit_,l3Codes_,r8)).bind fun (o9,o10,all3,lens1,codes_1,o11)=>
 ((Zcd.l2 (((all3.length:Int)-(0:Int)).toNat+1) (0,o9,o10,all3,lens1,codes_1,o11)).bind fun (o15,o16,o17)=>
 (some (o15,o16,o17)))))))))))))
def ZiZ (text:Str):Option (Str):=
 ((ZaH text).bind fun l4Tokens_=>
 ((Zbw l4Tokens_).bind fun (r,r1)=>
 ((ZcL r 15).bind fun l3Fit_=>
 ((Zcw l3Fit_ 257).bind fun l5Last_=>
 ((ZcL r1 15).bind fun l3Fit_1=>
 ((Zcw l3Fit_1 1).bind fun l5Last_1=>
 ((Zd3 1 1 0 0 []).bind fun (r2,r3,r4)=>
 ((Zd3 2 2 r2 r3 r4).bind fun (r5,r6,r7)=>
 ((Zcd l5Last_ l5Last_1 r5 r6 r7).bind fun (r8,r9,r10)=>
 ((ZbG l4Tokens_ l5Last_ l5Last_1 r8 r9 r10).bind fun (r11,r12,r13)=>
 ((ZdA r11 r12 r13).bind fun (r14,r15,r16)=>
 (some (Zbv r16)))))))))))))
def Zao.l0.step (again:(Str×Int×List Str)→Option (Str)):(Str×Int×List Str)→Option (Str):=fun (out,i,list)=>
 (bif (decide (i<(list.length:Int))) then (need (decide (0≤i)&&decide (i<list.length)) (bif (decide (((list.getD i.toNat []).length:Int)<(out.length:Int))) then (need (decide (0≤i)&&decide (i<list.length)) (again ((list.getD i.toNat []),(w64 (i+1)),list))) else
 (again (out,(w64 (i+1)),list)))) else
 (some out))
def Zao.l0:=ZaC Zao.l0.step
theorem Zao.l0.succ (n:Nat) t:Zao.l0 (n+1) t=Zao.l0.step (Zao.l0 n) t:=rfl
def Zao (text:Str):Option (Str):=
 (bif (decide ((text.length:Int)>300)) then (some []) else
 ((Zeg text).bind fun l5Store_=>
 ((Zeh text).bind fun l5Known_=>
 ((ZiZ text).bind fun l5Own_=>
 ((Zao.l0 (((([l5Known_,l5Own_]:List Str).length:Int)-(0:Int)).toNat+1) (l5Store_,0,[l5Known_,l5Own_])).bind fun out1=>
 (some out1))))))
def ZbJ.l0.step (again:(Int×Int×Str×Int×Bool×List Int)→Option (Str×Int×Bool×List Int)):(Int×Int×Str×Int×Bool×List Int)→Option (Str×Int×Bool×List Int):=fun (n1,i,o6,o7,o8,text3)=>
 ((bif (decide (i<n1)) then (some (!o8)) else
 (some false)).bind fun c=>
 (bif c then ((ZeY 8 o6 o7 o8).bind fun (r12,r13,r14,r15)=>
 (need (fits (text3.length+([(IntKind.wrap .u8 r12)]:List (Int)).length)) (again (n1,(w64 (i+1)),r13,r14,r15,(text3++[(IntKind.wrap .u8 r12)]))))) else
 (some (o6,o7,o8,text3))))
def ZbJ.l0:=ZaC ZbJ.l0.step
theorem ZbJ.l0.succ (n:Nat) t:ZbJ.l0 (n+1) t=ZbJ.l0.step (ZbJ.l0 n) t:=rfl
def ZbJ (s:Str) (at_:Int) (bad:Bool) (text:List Int):Option (Str×Int×Bool×List Int):=
 ((((ZcI s at_ bad).bind fun (r,r1,r2,r3)=>
 (bif (!r) then (some (r1,r2,true,text)) else
 (some (r1,r2,r3,text)))):Option (Str×Int×Bool×List Int)).bind fun (o,o1,o2,text1)=>
 ((ZeY 16 o o1 o2).bind fun (r4,r5,r6,r7)=>
 ((((ZeY 16 r5 r6 r7).bind fun (r8,r9,r10,r11)=>
 (bif (r8 != (w64 (65535-r4))) then (some (r4,r9,r10,true,text1)) else
 (bif (decide (r4>300)) then (some (r4,r9,r10,true,text1)) else
 (some (r4,r9,r10,r11,text1))))):Option (Int×Str×Int×Bool×List Int)).bind fun (n,o3,o4,o5,text2)=>
 ((ZbJ.l0 ((n-(0:Int)).toNat+1) (n,0,o3,o4,o5,text2)).bind fun (o9,o10,o11,text4)=>
 (some (o9,o10,o11,text4))))))
def ZfR (sym:Int) (backs:List Int) (codes_:List Int) (s:Str) (at_:Int) (bad:Bool) (text:List Int):Option (Str×Int×Bool×List Int):=
 ((Zbb).bind fun l5LongBi=>
 (bif (decide ((w64 (sym-257))≥(l5LongBi.length:Int))) then (some (s,at_,true,text)) else
 ((Zbb).bind fun l5LongBi1=>
 ((ZcK l5LongBi1 3).bind fun l5Base_=>
 (need (decide (0≤(w64 (sym-257)))&&decide ((w64 (sym-257))<l5Base_.length)) ((Zbb).bind fun l5LongBi2=>
 (need (decide (0≤(w64 (sym-257)))&&decide ((w64 (sym-257))<l5LongBi2.length)) ((ZeY (l5LongBi2.getD ((w64 (sym-257)).toNat) 0) s at_ bad).bind fun (r,r1,r2,r3)=>
 ((ZaS backs codes_ r1 r2 r3).bind fun (r4,r5,r6,r7)=>
 (bif r7 then (some (r5,r6,true,text)) else
 ((Zbc).bind fun l5BackBi=>
 (bif (decide (r4≥(l5BackBi.length:Int))) then (some (r5,r6,true,text)) else
 ((Zbc).bind fun l5BackBi1=>
 ((ZcK l5BackBi1 1).bind fun l5Base_1=>
 (need (decide (0≤r4)&&decide (r4<l5Base_1.length)) ((Zbc).bind fun l5BackBi2=>
 (need (decide (0≤r4)&&decide (r4<l5BackBi2.length)) ((ZeY (l5BackBi2.getD r4.toNat 0) r5 r6 r7).bind fun (r8,r9,r10,r11)=>
 ((ZeC 0 (w64 ((l5Base_.getD ((w64 (sym-257)).toNat) 0)+r)) (w64 ((l5Base_1.getD r4.toNat 0)+r8)) text).bind fun (r12,r13)=>
 (bif (!r12) then (some (r9,r10,true,r13)) else
 (some (r9,r10,r11,r13))))))))))))))))))))))
def ZbX.l0.step (again:(List Int×List Int×Str×Int×Bool×List Int×List Int×List Int)→Option ((Str×Int×Bool×List Int)⊕(Str×Int×Bool×List Int))):(List Int×List Int×Str×Int×Bool×List Int×List Int×List Int)→Option ((Str×Int×Bool×List Int)⊕(Str×Int×Bool×List Int)):=fun (longs1,backs1,o,o1,o2,text1,a,b)=>
 ((bif (!o2) then (some (decide ((text1.length:Int)≤300))) else
 (some false)).bind fun c=>
 (bif c then ((ZaS longs1 a o o1 o2).bind fun (r,r1,r2,r3)=>
 ((bif r3 then (some true) else
 (some (r==256))).bind fun c1=>
 (bif c1 then ((some (r1,r2,r3,text1)).map Sum.inr) else
 (bif (decide (r<256)) then (need (fits (text1.length+([(IntKind.wrap .u8 r)]:List (Int)).length)) (again (longs1,backs1,r1,r2,r3,(text1++[(IntKind.wrap .u8 r)]),a,b))) else
 ((ZfR r backs1 b r1 r2 r3 text1).bind fun (r4,r5,r6,r7)=>
 (again (longs1,backs1,r4,r5,r6,r7,a,b))))))) else
 (some (.inl (o,o1,o2,text1)))))
def ZbX.l0:=ZaC ZbX.l0.step
theorem ZbX.l0.succ (n:Nat) t:ZbX.l0 (n+1) t=ZbX.l0.step (ZbX.l0 n) t:=rfl
def ZbX (longs:List Int) (backs:List Int) (s:Str) (at_:Int) (bad:Bool) (text:List Int):Option (Str×Int×Bool×List Int):=
 ((ZaL longs).bind fun l3Codes_=>
 ((ZaL backs).bind fun l3Codes_1=>
 ((ZbX.l0 (100000) (longs,backs,s,at_,bad,text,l3Codes_,l3Codes_1)).bind fun r=>match r with
 | .inl (o3,o4,o5,text2)=>(some (o3,o4,true,text2))
 | .inr r=>some r)))
def ZdM.l0.step (again:(Int×Int×Int×Str×Int×Bool×List Int)→Option (Str×Int×Bool×List Int)):(Int×Int×Int×Str×Int×Bool×List Int)→Option (Str×Int×Bool×List Int):=fun (last1,n1,i,o3,o4,o5,out2)=>
 ((bif (decide (i<n1)) then (some (!o5)) else
 (some false)).bind fun c1=>
 (bif c1 then (need (fits (out2.length+([last1]:List (Int)).length)) (again (last1,n1,(w64 (i+1)),o3,o4,o5,(out2++[last1])))) else
 (some (o3,o4,o5,out2))))
def ZdM.l0:=ZaC ZdM.l0.step
theorem ZdM.l0.succ (n:Nat) t:ZdM.l0 (n+1) t=ZdM.l0.step (ZdM.l0 n) t:=rfl
def ZdM (sym:Int) (s:Str) (at_:Int) (bad:Bool) (out:List Int):Option (Str×Int×Bool×List Int):=
 ((((bif (sym==16) then (some ((out.length:Int)==0)) else
 (some false)).bind fun c=>
 (bif c then (some (0,0,s,at_,true,out)) else
 (bif (sym==16) then (need (decide (0≤(w64 ((out.length:Int)-1)))&&decide ((w64 ((out.length:Int)-1))<out.length)) ((ZeY 2 s at_ bad).bind fun (r,r1,r2,r3)=>
 (some ((out.getD ((w64 ((out.length:Int)-1)).toNat) 0),(w64 (3+r)),r1,r2,r3,out)))) else
 (bif (sym==17) then ((ZeY 3 s at_ bad).bind fun (r4,r5,r6,r7)=>
 (some (0,(w64 (3+r4)),r5,r6,r7,out))) else
 (bif (sym==18) then ((ZeY 7 s at_ bad).bind fun (r8,r9,r10,r11)=>
 (some (0,(w64 (11+r8)),r9,r10,r11,out))) else
 (some (sym,1,s,at_,bad,out))))))):Option (Int×Int×Str×Int×Bool×List Int)).bind fun (last,n,o,o1,o2,out1)=>
 ((ZdM.l0 ((n-(0:Int)).toNat+1) (last,n,0,o,o1,o2,out1)).bind fun (o6,o7,o8,out3)=>
 (some (o6,o7,o8,out3))))
def ZcP.l1.step (again:(Int×Int×Str×Int×Bool×List Int×List Int×List Int)→Option (Int×Int×Str×Int×Bool×List Int)):(Int×Int×Str×Int×Bool×List Int×List Int×List Int)→Option (Int×Int×Str×Int×Bool×List Int):=fun (long2,back2,o6,o7,o8,lens2,codes_,all)=>
 ((bif (decide ((all.length:Int)<(w64 (long2+back2)))) then (some (!o8)) else
 (some false)).bind fun c1=>
 (bif c1 then ((ZaS lens2 codes_ o6 o7 o8).bind fun (r16,r17,r18,r19)=>
 ((ZdM r16 r17 r18 r19 all).bind fun (r20,r21,r22,r23)=>
 (again (long2,back2,r20,r21,r22,lens2,codes_,r23)))) else
 (some (long2,back2,o6,o7,o8,all))))
def ZcP.l1:=ZaC ZcP.l1.step
theorem ZcP.l1.succ (n:Nat) t:ZcP.l1 (n+1) t=ZcP.l1.step (ZcP.l1 n) t:=rfl
def ZcP.l0.step (again:(Int×Int×Int×Int×Str×Int×Bool×List Int)→Option (Int×Int×Str×Int×Bool×List Int)):(Int×Int×Int×Int×Str×Int×Bool×List Int)→Option (Int×Int×Str×Int×Bool×List Int):=fun (long,back,n,i,o,o1,o2,lens)=>
 (bif (decide (i<n)) then ((Zdp).bind fun l5Order_=>
 (need (decide (0≤i)&&decide (i<l5Order_.length)) ((ZeY 3 o o1 o2).bind fun (r12,r13,r14,r15)=>
 (need (decide (0≤(l5Order_.getD i.toNat 0))&&decide ((l5Order_.getD i.toNat 0)<lens.length)) (again (long,back,n,(w64 (i+1)),r13,r14,r15,(lens.set ((l5Order_.getD i.toNat 0).toNat) r12))))))) else
 (some (long,back,o,o1,o2,lens)))
def ZcP.l0:=ZaC ZcP.l0.step
theorem ZcP.l0.succ (n:Nat) t:ZcP.l0 (n+1) t=ZcP.l0.step (ZcP.l0 n) t:=rfl
def ZcP (s:Str) (at_:Int) (bad:Bool):Option (List Int×List Int×Str×Int×Bool):=
 ((ZeY 5 s at_ bad).bind fun (r,r1,r2,r3)=>
 ((ZeY 5 r1 r2 r3).bind fun (r4,r5,r6,r7)=>
 ((ZeY 4 r5 r6 r7).bind fun (r8,r9,r10,r11)=>
 (need (decide (0≤19)&&fits 19) ((ZcP.l0 (((w64 (4+r8))-(0:Int)).toNat+1) ((w64 (257+r)),(w64 (1+r4)),(w64 (4+r8)),0,r9,r10,r11,(List.replicate 19 (0:Int)))).bind fun (long1,back1,o3,o4,o5,lens1)=>
 (((ZaN lens1).bind fun LensOk=>
 (bif (!LensOk) then (some true) else
 (bif (decide (long1>286)) then (some true) else
 (some (decide (back1>30)))))).bind fun c=>
 (bif c then (some ([],[],o3,o4,true)) else
 ((ZaL lens1).bind fun l3Codes_=>
 ((ZcP.l1 (((w64 (long1+back1))-(([]:List Int).length:Int)).toNat+1) (long1,back1,o3,o4,o5,lens1,l3Codes_,[])).bind fun (long3,back3,o9,o10,o11,all1)=>
 ((bif o11 then (some true) else
 (bif ((all1.length:Int) != (w64 (long3+back3))) then (some true) else
 (need (decide (0≤long3)&&decide (long3≤all1.length)) ((ZaN ((all1.drop 0).take long3.toNat)).bind fun LensOk1=>
 (bif (!LensOk1) then (some true) else
 (need (decide (0≤long3)&&decide (long3≤all1.length)) ((ZaN ((all1.drop long3.toNat).take (all1.length-long3.toNat))).bind fun LensOk2=>
 (some (!LensOk2))))))))).bind fun c2=>
 (bif c2 then (some ([],[],o9,o10,true)) else
 (need (decide (0≤long3)&&decide (long3≤all1.length)) (need (decide (0≤long3)&&decide (long3≤all1.length)) (some (((all1.drop 0).take long3.toNat),((all1.drop long3.toNat).take (all1.length-long3.toNat)),o9,o10,o11)))))))))))))))
def ZiF (s:Str) (at_:Int) (bad:Bool) (text:List Int):Option (Bool×Str×Int×Bool×List Int):=
 ((ZjF s at_ bad).bind fun (r,r1,r2,r3)=>
 ((ZeY 2 r1 r2 r3).bind fun (r4,r5,r6,r7)=>
 (bif (r4==0) then ((ZbJ r5 r6 r7 text).bind fun (r8,r9,r10,r11)=>
 (some ((r==1),r8,r9,r10,r11))) else
 (bif (r4==1) then ((ZcQ).bind fun l5Fixed_=>
 ((ZcR).bind fun l5Fives_=>
 ((ZbX l5Fixed_ l5Fives_ r5 r6 r7 text).bind fun (r12,r13,r14,r15)=>
 (some ((r==1),r12,r13,r14,r15))))) else
 (bif (r4==2) then ((ZcP r5 r6 r7).bind fun (r16,r17,r18,r19,r20)=>
 (bif (!r20) then ((ZbX r16 r17 r18 r19 r20 text).bind fun (r21,r22,r23,r24)=>
 (some ((r==1),r21,r22,r23,r24))) else
 (some ((r==1),r18,r19,r20,text)))) else
 (some ((r==1),r5,r6,true,text)))))))
def Zeq.l0.step (again:(Bool×Str×Int×Bool×List Int)→Option (Str×Int×Bool×List Int)):(Bool×Str×Int×Bool×List Int)→Option (Str×Int×Bool×List Int):=fun (last,o,o1,o2,out)=>
 ((bif (!last) then (some (!o2)) else
 (some false)).bind fun c=>
 (bif c then ((ZiF o o1 o2 out).bind fun (r,r1,r2,r3,r4)=>
 (again (r,r1,r2,r3,r4))) else
 (some (o,o1,o2,out))))
def Zeq.l0:=ZaC Zeq.l0.step
theorem Zeq.l0.succ (n:Nat) t:Zeq.l0 (n+1) t=Zeq.l0.step (Zeq.l0 n) t:=rfl
def Zeq (text:Str):Option (Str×Int×Bool):=
 ((Zeq.l0 (100000) (false,text,0,false,[])).bind fun (o3,o4,o5,out1)=>
 ((ZcI o3 o4 o5).bind fun (r5,r6,r7,r8)=>
 ((bif r8 then (some true) else
 (bif (!r5) then (some true) else
 (some (decide ((out1.length:Int)>300))))).bind fun c1=>
 (bif c1 then (some ([],0,false)) else
 (some ((Zbv out1),(w64 (r7.tdiv 8)),true))))))
def Zbr (text:Str):Option (Str×Int×Bool):=
 (bif (decide ((text.length:Int)>700)) then (some ([],0,false)) else
 ((Zeq text).bind fun (r,r1,r2)=>
 (some (r,r1,r2))))
def Zgu (year:Int) (month:Int):Option (Int):=
 (((bif (month==4) then (some (year,month,(month==4))) else
 (bif (month==6) then (some (year,month,(month==6))) else
 (bif (month==9) then (some (year,month,(month==9))) else
 (some (year,month,(month==11)))))):Option (Int×Int×Bool)).bind fun (year1,t,t1)=>
 (bif t1 then (some 30) else
 (bif (t==2) then ((bif ((year1.tmod 4)==0) then (bif ((year1.tmod 100) != 0) then (some true) else
 (some ((year1.tmod 400)==0))) else
 (some false)).bind fun c=>
 (bif c then (some 29) else
 (some 28))) else
 (some 31))))
def ZbO (y:Int) (mo:Int) (d:Int) (h:Int) (mi:Int) (sec:Int):Option (Bool):=
 (((Zhc y 1980 2107).bind fun l1In_=>
 (bif l1In_ then ((Zhc mo 1 12).bind fun l1In_1=>
 (bif l1In_1 then ((Zgu y mo).bind fun l6Days_=>
 ((Zhc d 1 l6Days_).bind fun l1In_2=>
 (some l1In_2))) else
 (some false))) else
 (some false))).bind fun day=>
 ((bif day then ((Zhc h 0 23).bind fun l1In_3=>
 (bif l1In_3 then ((Zhc mi 0 59).bind fun l1In_4=>
 (bif l1In_4 then ((Zhc sec 0 58).bind fun l1In_5=>
 (bif l1In_5 then (some ((sec.tmod 2)==0)) else
 (some false))) else
 (some false))) else
 (some false))) else
 (some false)).bind fun c=>
 (some c)))
def ZiX (y:Int) (mo:Int) (d:Int) (h:Int) (mi:Int) (sec:Int):Option (Int):=
 (some (w64 ((w64 ((w64 ((w64 ((w64 ((w64 ((w64 ((w64 ((w64 ((w64 ((w64 (y-1980))*16))+mo))*32))+d))*32))+h))*64))+mi))*32))+(w64 (sec.tdiv 2)))))
def ZiY (n:Int):Option (Int×Int×Int×Int×Int×Int):=
 (some ((w64 ((w64 ((w64 ((w64 ((w64 ((w64 (n.tdiv 32)).tdiv 64)).tdiv 32)).tdiv 32)).tdiv 16))+1980)),((w64 ((w64 ((w64 ((w64 (n.tdiv 32)).tdiv 64)).tdiv 32)).tdiv 32)).tmod 16),((w64 ((w64 ((w64 (n.tdiv 32)).tdiv 64)).tdiv 32)).tmod 32),((w64 ((w64 (n.tdiv 32)).tdiv 64)).tmod 32),((w64 (n.tdiv 32)).tmod 64),(w64 (2*(n.tmod 32)))))
def Za2 (name:Str) (y:Int) (mo:Int) (d:Int) (h:Int) (mi:Int) (sec:Int) (text:Str):Option (Bool):=
 (((Zar name).bind fun NameOk=>
 (bif NameOk then ((ZbO y mo d h mi sec).bind fun StampOk=>
 (bif StampOk then (some (decide ((text.length:Int)≤300))) else
 (some false))) else
 (some false))).bind fun c=>
 (some c))
def Zav.l0.step (again:(Int×Int×Int×List Int)→Option (List Int)):(Int×Int×Int×List Int)→Option (List Int):=fun (n1,many1,i,out)=>
 (bif (decide (i<many1)) then (need (fits (out.length+([(IntKind.wrap .u8 (n1.tmod 256))]:List (Int)).length)) (again ((w64 (n1.tdiv 256)),many1,(w64 (i+1)),(out++[(IntKind.wrap .u8 (n1.tmod 256))])))) else
 (some out))
def Zav.l0:=ZaC Zav.l0.step
theorem Zav.l0.succ (n:Nat) t:Zav.l0 (n+1) t=Zav.l0.step (Zav.l0 n) t:=rfl
def Zav (n:Int) (many:Int):Option (Str):=
 ((Zav.l0 ((many-(0:Int)).toNat+1) (n,many,0,[])).bind fun out1=>
 (some (Zbv out1)))
def Zb2.l0.step (again:(Str×Int×Int×Int)→Option (Int)):(Str×Int×Int×Int)→Option (Int):=fun (s1,at_1,n,i)=>
 (bif (decide (i≥0)) then (need (decide (0≤(w64 (at_1+i)))&&decide ((w64 (at_1+i))<s1.length)) (again (s1,at_1,(w64 ((w64 (256*n))+(w64 ((s1.getD (w64 (at_1+i)).toNat 0).toNat:Int)))),(w64 (i-1))))) else
 (some n))
def Zb2.l0:=ZaC Zb2.l0.step
theorem Zb2.l0.succ (n:Nat) t:Zb2.l0 (n+1) t=Zb2.l0.step (Zb2.l0 n) t:=rfl
def Zb2 (s:Str) (at_:Int) (many:Int):Option (Int):=
 ((bif (decide (at_<0)) then (some true) else
 (some (decide ((w64 (at_+many))>(s.length:Int))))).bind fun c=>
 (bif c then (some (-1)) else
 ((Zb2.l0 (((w64 (many-1))-0).toNat+2) (s,at_,0,(w64 (many-1)))).bind fun n1=>
 (some n1))))
def Zhb (text:Str):Option (Int×Str):=
 ((Zao text).bind fun FlatePut=>
 (bif (decide ((FlatePut.length:Int)<(text.length:Int))) then (some (8,FlatePut)) else
 (some (0,text))))
def ZcF (name:Str) (y:Int) (mo:Int) (d:Int) (h:Int) (mi:Int) (sec:Int) (text:Str):Option (Str):=
 ((Zhb text).bind fun (r,r1)=>
 ((Zav 20 2).bind fun l6Bytes_=>
 ((Zav 0 2).bind fun l6Bytes_1=>
 (need (fits (l6Bytes_.length+l6Bytes_1.length)) ((Zav r 2).bind fun l6Bytes_2=>
 (need (fits ((l6Bytes_++l6Bytes_1).length+l6Bytes_2.length)) ((ZiX y mo d h mi sec).bind fun l6Put_=>
 ((Zav l6Put_ 4).bind fun l6Bytes_3=>
 (need (fits (((l6Bytes_++l6Bytes_1)++l6Bytes_2).length+l6Bytes_3.length)) ((Zdo text).bind fun Crc=>
 ((Zav Crc 4).bind fun l6Bytes_4=>
 (need (fits ((((l6Bytes_++l6Bytes_1)++l6Bytes_2)++l6Bytes_3).length+l6Bytes_4.length)) ((Zav (r1.length:Int) 4).bind fun l6Bytes_5=>
 (need (fits (((((l6Bytes_++l6Bytes_1)++l6Bytes_2)++l6Bytes_3)++l6Bytes_4).length+l6Bytes_5.length)) ((Zav (text.length:Int) 4).bind fun l6Bytes_6=>
 (need (fits ((((((l6Bytes_++l6Bytes_1)++l6Bytes_2)++l6Bytes_3)++l6Bytes_4)++l6Bytes_5).length+l6Bytes_6.length)) ((Zav (name.length:Int) 2).bind fun l6Bytes_7=>
 (need (fits (((((((l6Bytes_++l6Bytes_1)++l6Bytes_2)++l6Bytes_3)++l6Bytes_4)++l6Bytes_5)++l6Bytes_6).length+l6Bytes_7.length)) ((Zav 0 2).bind fun l6Bytes_8=>
 (need (fits ((((((((l6Bytes_++l6Bytes_1)++l6Bytes_2)++l6Bytes_3)++l6Bytes_4)++l6Bytes_5)++l6Bytes_6)++l6Bytes_7).length+l6Bytes_8.length)) (some ((((((((l6Bytes_++l6Bytes_1)++l6Bytes_2)++l6Bytes_3)++l6Bytes_4)++l6Bytes_5)++l6Bytes_6)++l6Bytes_7)++l6Bytes_8))))))))))))))))))))))
def Zef (name:Str) (y:Int) (mo:Int) (d:Int) (h:Int) (mi:Int) (sec:Int) (text:Str):Option (Str):=
 ((Zhb text).bind fun (r,r1)=>
 ((Zav 67324752 4).bind fun l6Bytes_=>
 ((ZcF name y mo d h mi sec text).bind fun l6Fields_=>
 (need (fits (l6Bytes_.length+l6Fields_.length)) (need (fits ((l6Bytes_++l6Fields_).length+name.length)) (need (fits (((l6Bytes_++l6Fields_)++name).length+r1.length)) (some (((l6Bytes_++l6Fields_)++name)++r1))))))))
def ZfW (how:Int) (packed:Str):Option (Str×Bool):=
 (bif (how==0) then (some (packed,true)) else
 ((Zbr packed).bind fun (r,r1,r2)=>
 ((bif r2 then (bif (how==8) then (some (r,(r1==(packed.length:Int)))) else
 (some (r,false))) else
 (some (r,false))).bind fun (c,c1)=>
 (some (c,c1)))))
def Zeu (text:Str):Option (Str×Int×Int×Int×Int×Int×Int×Str×Int×Bool):=
 ((Zb2 text 26 2).bind fun l6Num_=>
 ((Zb2 text 18 4).bind fun l6Num_1=>
 (((Zb2 text 0 4).bind fun l6Num_2=>
 (bif (l6Num_2==67324752) then ((Zb2 text 4 2).bind fun l6Num_3=>
 (bif (l6Num_3==20) then ((Zb2 text 6 2).bind fun l6Num_4=>
 (bif (l6Num_4==0) then ((Zb2 text 28 2).bind fun l6Num_5=>
 (some (l6Num_5==0))) else
 (some false))) else
 (some false))) else
 (some false))).bind fun head=>
 ((bif (!head) then (some true) else
 (bif (decide (l6Num_<0)) then (some true) else
 (bif (decide (l6Num_1<0)) then (some true) else
 (some (decide ((w64 ((w64 (30+l6Num_))+l6Num_1))>(text.length:Int))))))).bind fun c=>
 (bif c then (some ([],0,0,0,0,0,0,[],0,false)) else
 (need (decide (0≤(w64 (30+l6Num_)))&&decide ((w64 (30+l6Num_))≤text.length)) (need (decide (0≤(30:Int))&&decide ((30:Int)≤(w64 (30+l6Num_)))) ((Zb2 text 10 4).bind fun l6Num_6=>
 ((ZiY l6Num_6).bind fun (r,r1,r2,r3,r4,r5)=>
 ((Zb2 text 8 2).bind fun l6Num_7=>
 (need (decide (0≤(w64 ((w64 (30+l6Num_))+l6Num_1)))&&decide ((w64 ((w64 (30+l6Num_))+l6Num_1))≤text.length)) (need (decide (0≤(w64 (30+l6Num_)))&&decide ((w64 (30+l6Num_))≤(w64 ((w64 (30+l6Num_))+l6Num_1)))) ((ZfW l6Num_7 ((text.take (w64 ((w64 (30+l6Num_))+l6Num_1)).toNat).drop (w64 (30+l6Num_)).toNat)).bind fun (r6,r7)=>
 ((bif r7 then ((Zb2 text 14 4).bind fun l6Num_8=>
 ((Zdo r6).bind fun Crc=>
 (bif (l6Num_8==Crc) then ((Zb2 text 22 4).bind fun l6Num_9=>
 (some (l6Num_9==(r6.length:Int)))) else
 (some false)))) else
 (some false)).bind fun ok=>
 (bif ok then ((Za2 ((text.take (w64 (30+l6Num_)).toNat).drop 30) r r1 r2 r3 r4 r5 r6).bind fun EntryOk=>
 (some (((text.take (w64 (30+l6Num_)).toNat).drop 30),r,r1,r2,r3,r4,r5,r6,(w64 ((w64 (30+l6Num_))+l6Num_1)),EntryOk))) else
 (some (((text.take (w64 (30+l6Num_)).toNat).drop 30),r,r1,r2,r3,r4,r5,r6,(w64 ((w64 (30+l6Num_))+l6Num_1)),false)))))))))))))))))
def ZjV.l0.step (again:((List (Str×Int×Int×Int×Int×Int×Int×Str))×Str×Int)→Option ((Unit)⊕(Int))):((List (Str×Int×Int×Int×Int×Int×Int×Str))×Str×Int)→Option ((Unit)⊕(Int)):=fun (list1,name1,i)=>
 (bif (decide (i<(list1.length:Int))) then (need (decide (0≤i)&&decide (i<list1.length)) (bif ((list1.getD i.toNat ([],0,0,0,0,0,0,[])).1==name1) then ((some i).map Sum.inr) else
 (again (list1,name1,(w64 (i+1)))))) else
 (some (.inl ())))
def ZjV.l0:=ZaC ZjV.l0.step
theorem ZjV.l0.succ (n:Nat) t:ZjV.l0 (n+1) t=ZjV.l0.step (ZjV.l0 n) t:=rfl
def ZjV (list:List (Str×Int×Int×Int×Int×Int×Int×Str)) (name:Str):Option (Int):=
 ((ZjV.l0 (((list.length:Int)-(0:Int)).toNat+1) (list,name,0)).bind fun r=>match r with
 | .inl _=>(some (-1))
 | .inr r=>some r)
def Zau.l0.step (again:((List (Str×Int×Int×Int×Int×Int×Int×Str))×Int×Int)→Option (((List (Str×Int×Int×Int×Int×Int×Int×Str))×Int)⊕((List (Str×Int×Int×Int×Int×Int×Int×Str))⊕(Bool)))):((List (Str×Int×Int×Int×Int×Int×Int×Str))×Int×Int)→Option (((List (Str×Int×Int×Int×Int×Int×Int×Str))×Int)⊕((List (Str×Int×Int×Int×Int×Int×Int×Str))⊕(Bool))):=fun (list2,i1,k)=>
 (bif (decide (k<(list2.length:Int))) then (need (decide (0≤i1)&&decide (i1<list2.length)) (need (decide (0≤k)&&decide (k<list2.length)) ((Zdf ((list2.getD i1.toNat ([],0,0,0,0,0,0,[])).1) ((list2.getD k.toNat ([],0,0,0,0,0,0,[])).1)).bind fun l7Under_=>
 (bif l7Under_ then (((some false).map Sum.inr).map Sum.inr) else
 (again (list2,i1,(w64 (k+1)))))))) else
 (some (.inl (list2,i1))))
def Zau.l0:=ZaC Zau.l0.step
theorem Zau.l0.succ (n:Nat) t:Zau.l0 (n+1) t=Zau.l0.step (Zau.l0 n) t:=rfl
def Zau.l1.step (again:((List (Str×Int×Int×Int×Int×Int×Int×Str))×Int)→Option ((List (Str×Int×Int×Int×Int×Int×Int×Str))⊕(Bool))):((List (Str×Int×Int×Int×Int×Int×Int×Str))×Int)→Option ((List (Str×Int×Int×Int×Int×Int×Int×Str))⊕(Bool)):=fun (list1,i)=>
 (bif (decide (i<(list1.length:Int))) then ((need (decide (0≤i)&&decide (i<list1.length)) ((Za2 ((list1.getD i.toNat ([],0,0,0,0,0,0,[])).1) ((list1.getD i.toNat ([],0,0,0,0,0,0,[])).2.1) ((list1.getD i.toNat ([],0,0,0,0,0,0,[])).2.2.1) ((list1.getD i.toNat ([],0,0,0,0,0,0,[])).2.2.2.1) ((list1.getD i.toNat ([],0,0,0,0,0,0,[])).2.2.2.2.1) ((list1.getD i.toNat ([],0,0,0,0,0,0,[])).2.2.2.2.2.1) ((list1.getD i.toNat ([],0,0,0,0,0,0,[])).2.2.2.2.2.2.1) ((list1.getD i.toNat ([],0,0,0,0,0,0,[])).2.2.2.2.2.2.2)).bind fun EntryOk=>
 (bif (!EntryOk) then (some true) else
 (need (decide (0≤i)&&decide (i<list1.length)) ((ZjV list1 ((list1.getD i.toNat ([],0,0,0,0,0,0,[])).1)).bind fun l7At_=>
 (some (l7At_ != i))))))).bind fun c=>
 (bif c then ((some false).map Sum.inr) else
 ((Zau.l0 (((list1.length:Int)-(0:Int)).toNat+1) (list1,i,0)).bind fun r=>match r with
 | .inl (list3,i2)=>(again (list3,(w64 (i2+1))))
 | .inr r=>some r))) else
 (some (.inl list1)))
def Zau.l1:=ZaC Zau.l1.step
theorem Zau.l1.succ (n:Nat) t:Zau.l1 (n+1) t=Zau.l1.step (Zau.l1 n) t:=rfl
def Zau (list:List (Str×Int×Int×Int×Int×Int×Int×Str)):Option (Bool):=
 ((Zau.l1 (((list.length:Int)-(0:Int)).toNat+1) (list,0)).bind fun r=>match r with
 | .inl list4=>(some (decide ((list4.length:Int)≤6)))
 | .inr r=>some r)
def ZcJ (name:Str) (y:Int) (mo:Int) (d:Int) (h:Int) (mi:Int) (sec:Int) (text:Str) (at_:Int):Option (Str):=
 ((Zav 33639248 4).bind fun l6Bytes_=>
 ((Zav 20 2).bind fun l6Bytes_1=>
 (need (fits (l6Bytes_.length+l6Bytes_1.length)) ((ZcF name y mo d h mi sec text).bind fun l6Fields_=>
 (need (fits ((l6Bytes_++l6Bytes_1).length+l6Fields_.length)) ((Zav 0 2).bind fun l6Bytes_2=>
 (need (fits (((l6Bytes_++l6Bytes_1)++l6Fields_).length+l6Bytes_2.length)) ((Zav 0 2).bind fun l6Bytes_3=>
 (need (fits ((((l6Bytes_++l6Bytes_1)++l6Fields_)++l6Bytes_2).length+l6Bytes_3.length)) ((Zav 0 2).bind fun l6Bytes_4=>
 (need (fits (((((l6Bytes_++l6Bytes_1)++l6Fields_)++l6Bytes_2)++l6Bytes_3).length+l6Bytes_4.length)) ((Zav 0 4).bind fun l6Bytes_5=>
 (need (fits ((((((l6Bytes_++l6Bytes_1)++l6Fields_)++l6Bytes_2)++l6Bytes_3)++l6Bytes_4).length+l6Bytes_5.length)) ((Zav at_ 4).bind fun l6Bytes_6=>
 (need (fits (((((((l6Bytes_++l6Bytes_1)++l6Fields_)++l6Bytes_2)++l6Bytes_3)++l6Bytes_4)++l6Bytes_5).length+l6Bytes_6.length)) (need (fits ((((((((l6Bytes_++l6Bytes_1)++l6Fields_)++l6Bytes_2)++l6Bytes_3)++l6Bytes_4)++l6Bytes_5)++l6Bytes_6).length+name.length)) (some ((((((((l6Bytes_++l6Bytes_1)++l6Fields_)++l6Bytes_2)++l6Bytes_3)++l6Bytes_4)++l6Bytes_5)++l6Bytes_6)++name))))))))))))))))))
def Zha (many:Int) (long:Int) (at_:Int):Option (Str):=
 ((Zav 101010256 4).bind fun l6Bytes_=>
 ((Zav 0 2).bind fun l6Bytes_1=>
 (need (fits (l6Bytes_.length+l6Bytes_1.length)) ((Zav 0 2).bind fun l6Bytes_2=>
 (need (fits ((l6Bytes_++l6Bytes_1).length+l6Bytes_2.length)) ((Zav many 2).bind fun l6Bytes_3=>
 (need (fits (((l6Bytes_++l6Bytes_1)++l6Bytes_2).length+l6Bytes_3.length)) ((Zav many 2).bind fun l6Bytes_4=>
 (need (fits ((((l6Bytes_++l6Bytes_1)++l6Bytes_2)++l6Bytes_3).length+l6Bytes_4.length)) ((Zav long 4).bind fun l6Bytes_5=>
 (need (fits (((((l6Bytes_++l6Bytes_1)++l6Bytes_2)++l6Bytes_3)++l6Bytes_4).length+l6Bytes_5.length)) ((Zav at_ 4).bind fun l6Bytes_6=>
 (need (fits ((((((l6Bytes_++l6Bytes_1)++l6Bytes_2)++l6Bytes_3)++l6Bytes_4)++l6Bytes_5).length+l6Bytes_6.length)) ((Zav 0 2).bind fun l6Bytes_7=>
 (need (fits (((((((l6Bytes_++l6Bytes_1)++l6Bytes_2)++l6Bytes_3)++l6Bytes_4)++l6Bytes_5)++l6Bytes_6).length+l6Bytes_7.length)) (some (((((((l6Bytes_++l6Bytes_1)++l6Bytes_2)++l6Bytes_3)++l6Bytes_4)++l6Bytes_5)++l6Bytes_6)++l6Bytes_7)))))))))))))))))
def ZdW.l0.step (again:((List (Str×Int×Int×Int×Int×Int×Int×Str))×Str×Str×Int)→Option ((List (Str×Int×Int×Int×Int×Int×Int×Str))×Str×Str)):((List (Str×Int×Int×Int×Int×Int×Int×Str))×Str×Str×Int)→Option ((List (Str×Int×Int×Int×Int×Int×Int×Str))×Str×Str):=fun (list1,out,heads,i)=>
 (bif (decide (i<(list1.length:Int))) then (need (decide (0≤i)&&decide (i<list1.length)) ((ZcJ ((list1.getD i.toNat ([],0,0,0,0,0,0,[])).1) ((list1.getD i.toNat ([],0,0,0,0,0,0,[])).2.1) ((list1.getD i.toNat ([],0,0,0,0,0,0,[])).2.2.1) ((list1.getD i.toNat ([],0,0,0,0,0,0,[])).2.2.2.1) ((list1.getD i.toNat ([],0,0,0,0,0,0,[])).2.2.2.2.1) ((list1.getD i.toNat ([],0,0,0,0,0,0,[])).2.2.2.2.2.1) ((list1.getD i.toNat ([],0,0,0,0,0,0,[])).2.2.2.2.2.2.1) ((list1.getD i.toNat ([],0,0,0,0,0,0,[])).2.2.2.2.2.2.2) (out.length:Int)).bind fun l7Centra=>
 (need (fits (heads.length+l7Centra.length)) (need (decide (0≤i)&&decide (i<list1.length)) ((Zef ((list1.getD i.toNat ([],0,0,0,0,0,0,[])).1) ((list1.getD i.toNat ([],0,0,0,0,0,0,[])).2.1) ((list1.getD i.toNat ([],0,0,0,0,0,0,[])).2.2.1) ((list1.getD i.toNat ([],0,0,0,0,0,0,[])).2.2.2.1) ((list1.getD i.toNat ([],0,0,0,0,0,0,[])).2.2.2.2.1) ((list1.getD i.toNat ([],0,0,0,0,0,0,[])).2.2.2.2.2.1) ((list1.getD i.toNat ([],0,0,0,0,0,0,[])).2.2.2.2.2.2.1) ((list1.getD i.toNat ([],0,0,0,0,0,0,[])).2.2.2.2.2.2.2)).bind fun l6Local_=>
 (need (fits (out.length+l6Local_.length)) (again (list1,(out++l6Local_),(heads++l7Centra),(w64 (i+1)))))))))) else
 (some (list1,out,heads)))
def ZdW.l0:=ZaC ZdW.l0.step
theorem ZdW.l0.succ (n:Nat) t:ZdW.l0 (n+1) t=ZdW.l0.step (ZdW.l0 n) t:=rfl
def ZdW (list:List (Str×Int×Int×Int×Int×Int×Int×Str)):Option (Str):=
 ((ZdW.l0 (((list.length:Int)-(0:Int)).toNat+1) (list,[],[],0)).bind fun (list2,out1,heads1)=>
 (need (fits (out1.length+heads1.length)) ((Zha (list2.length:Int) (heads1.length:Int) (out1.length:Int)).bind fun l7End_=>
 (need (fits ((out1++heads1).length+l7End_.length)) (some ((out1++heads1)++l7End_))))))
def ZeR.l0.step (again:(Str×Int×Int×Int×List (Str×Int×Int×Int×Int×Int×Int×Str))→Option ((Int×List (Str×Int×Int×Int×Int×Int×Int×Str))⊕(Int×Bool×List (Str×Int×Int×Int×Int×Int×Int×Str)))):(Str×Int×Int×Int×List (Str×Int×Int×Int×Int×Int×Int×Str))→Option ((Int×List (Str×Int×Int×Int×Int×Int×Int×Str))⊕(Int×Bool×List (Str×Int×Int×Int×Int×Int×Int×Str))):=fun (text1,many1,at_,i,out)=>
 (bif (decide (i<many1)) then (need (decide (0≤at_)&&decide (at_≤text1.length)) ((Zeu (text1.drop at_.toNat)).bind fun (r,r1,r2,r3,r4,r5,r6,r7,r8,r9)=>
 (bif (!r9) then ((some (at_,false,out)).map Sum.inr) else
 (need (fits (out.length+([(r,r1,r2,r3,r4,r5,r6,r7)]:List (Str×Int×Int×Int×Int×Int×Int×Str)).length)) (again (text1,many1,(w64 (at_+r8)),(w64 (i+1)),(out++[(r,r1,r2,r3,r4,r5,r6,r7)]))))))) else
 (some (.inl (at_,out))))
def ZeR.l0:=ZaC ZeR.l0.step
theorem ZeR.l0.succ (n:Nat) t:ZeR.l0 (n+1) t=ZeR.l0.step (ZeR.l0 n) t:=rfl
def ZeR (text:Str) (many:Int):Option (Int×Bool×List (Str×Int×Int×Int×Int×Int×Int×Str)):=
 ((ZeR.l0 ((many-(0:Int)).toNat+1) (text,many,0,0,[])).bind fun r=>match r with
 | .inl (at_1,out1)=>(some (at_1,true,out1))
 | .inr r=>some r)
def ZfV (text:Str) (head:Int) (at_:Int):Option (Int×Bool):=
 ((Zb2 text (w64 (head+28)) 2).bind fun l6Num_=>
 ((bif (decide (l6Num_<0)) then (some true) else
 (bif (decide ((w64 (head+(w64 (46+l6Num_))))>(text.length:Int))) then (some true) else
 (some (decide ((w64 ((w64 (at_+30))+l6Num_))>(text.length:Int)))))).bind fun c=>
 (bif c then (some (0,false)) else
 ((need (decide (0≤(w64 (head+32)))&&decide ((w64 (head+32))≤text.length)) (need (decide (0≤(w64 (head+6)))&&decide ((w64 (head+6))≤(w64 (head+32)))) (need (decide (0≤(w64 (at_+30)))&&decide ((w64 (at_+30))≤text.length)) (need (decide (0≤(w64 (at_+4)))&&decide ((w64 (at_+4))≤(w64 (at_+30)))) (bif (((text.take (w64 (head+32)).toNat).drop (w64 (head+6)).toNat)==((text.take (w64 (at_+30)).toNat).drop (w64 (at_+4)).toNat)) then (need (decide (0≤(w64 (head+(w64 (46+l6Num_)))))&&decide ((w64 (head+(w64 (46+l6Num_))))≤text.length)) (need (decide (0≤(w64 (head+46)))&&decide ((w64 (head+46))≤(w64 (head+(w64 (46+l6Num_)))))) (need (decide (0≤(w64 ((w64 (at_+30))+l6Num_)))&&decide ((w64 ((w64 (at_+30))+l6Num_))≤text.length)) (need (decide (0≤(w64 (at_+30)))&&decide ((w64 (at_+30))≤(w64 ((w64 (at_+30))+l6Num_)))) (some (((text.take (w64 (head+(w64 (46+l6Num_)))).toNat).drop (w64 (head+46)).toNat)==((text.take (w64 ((w64 (at_+30))+l6Num_)).toNat).drop (w64 (at_+30)).toNat))))))) else
 (some false)))))).bind fun same=>
 ((need (decide (0≤(w64 (head+6)))&&decide ((w64 (head+6))≤text.length)) (need (decide (0≤head)&&decide (head≤(w64 (head+6)))) ((Zav 33639248 4).bind fun l6Bytes_=>
 ((Zav 20 2).bind fun l6Bytes_1=>
 (need (fits (l6Bytes_.length+l6Bytes_1.length)) (bif (((text.take (w64 (head+6)).toNat).drop head.toNat)==(l6Bytes_++l6Bytes_1)) then (need (decide (0≤(w64 (head+46)))&&decide ((w64 (head+46))≤text.length)) (need (decide (0≤(w64 (head+32)))&&decide ((w64 (head+32))≤(w64 (head+46)))) ((Zav 0 10).bind fun l6Bytes_2=>
 ((Zav at_ 4).bind fun l6Bytes_3=>
 (need (fits (l6Bytes_2.length+l6Bytes_3.length)) (some (((text.take (w64 (head+46)).toNat).drop (w64 (head+32)).toNat)==(l6Bytes_2++l6Bytes_3)))))))) else
 (some false))))))).bind fun rest=>
 ((bif same then (some ((w64 (46+l6Num_)),rest)) else
 (some ((w64 (46+l6Num_)),false))).bind fun (c1,c2)=>
 (some (c1,c2))))))))
def ZaW.l0.step (again:(Str×Int×Int×Int×Int×Int×List (Str×Int×Int×Int×Int×Int×Int×Str))→Option ((Str×Int×Int×Int×List (Str×Int×Int×Int×Int×Int×Int×Str))⊕(Bool×List (Str×Int×Int×Int×Int×Int×Int×Str)))):(Str×Int×Int×Int×Int×Int×List (Str×Int×Int×Int×Int×Int×Int×Str))→Option ((Str×Int×Int×Int×List (Str×Int×Int×Int×Int×Int×Int×Str))⊕(Bool×List (Str×Int×Int×Int×Int×Int×Int×Str))):=fun (text1,many,at_,head,own,i,list)=>
 (bif (decide (i<many)) then ((ZfV text1 head own).bind fun (r3,r4)=>
 (bif (!r4) then ((some (false,[])).map Sum.inr) else
 (need (decide (0≤own)&&decide (own≤text1.length)) ((Zeu (text1.drop own.toNat)).bind fun (r5,r6,r7,r8,r9,r10,r11,r12,r13,r14)=>
 (again (text1,many,at_,(w64 (head+r3)),(w64 (own+r13)),(w64 (i+1)),list)))))) else
 (some (.inl (text1,many,at_,head,list))))
def ZaW.l0:=ZaC ZaW.l0.step
theorem ZaW.l0.succ (n:Nat) t:ZaW.l0 (n+1) t=ZaW.l0.step (ZaW.l0 n) t:=rfl
def ZaW (text:Str):Option (Bool×List (Str×Int×Int×Int×Int×Int×Int×Str)):=
 ((Zb2 text (w64 ((text.length:Int)-12)) 2).bind fun l6Num_=>
 ((Zhc l6Num_ 0 6).bind fun l1In_=>
 (bif (!l1In_) then (some (false,[])) else
 ((ZeR text l6Num_).bind fun (r,r1,r2)=>
 ((bif (!r1) then (some true) else
 ((Zau r2).bind fun ZipOk=>
 (some (!ZipOk)))).bind fun c=>
 (bif c then (some (false,[])) else
 ((ZaW.l0 ((l6Num_-(0:Int)).toNat+1) (text,l6Num_,r,r,0,0,r2)).bind fun r=>match r with
 | .inl (text2,many1,at_1,head1,list1)=>(need (decide (0≤head1)&&decide (head1≤text2.length)) ((Zha many1 (w64 (head1-at_1)) at_1).bind fun l7End_=>
 (bif (!((text2.drop head1.toNat)==l7End_)) then (some (false,[])) else
 (some (true,list1)))))
 | .inr r=>some r)))))))
def Zb5.l0.step (again:((List (Str×Int×Int×Int×Int×Int×Int×Str))×Str×Int)→Option ((Unit)⊕(Bool))):((List (Str×Int×Int×Int×Int×Int×Int×Str))×Str×Int)→Option ((Unit)⊕(Bool)):=fun (list1,name1,i)=>
 (bif (decide (i<(list1.length:Int))) then ((need (decide (0≤i)&&decide (i<list1.length)) (bif ((list1.getD i.toNat ([],0,0,0,0,0,0,[])).1==name1) then (some true) else
 (need (decide (0≤i)&&decide (i<list1.length)) ((Zdf ((list1.getD i.toNat ([],0,0,0,0,0,0,[])).1) name1).bind fun l7Under_=>
 (bif l7Under_ then (some true) else
 (need (decide (0≤i)&&decide (i<list1.length)) ((Zdf name1 ((list1.getD i.toNat ([],0,0,0,0,0,0,[])).1)).bind fun l7Under_1=>
 (some l7Under_1)))))))).bind fun c=>
 (bif c then ((some true).map Sum.inr) else
 (again (list1,name1,(w64 (i+1)))))) else
 (some (.inl ())))
def Zb5.l0:=ZaC Zb5.l0.step
theorem Zb5.l0.succ (n:Nat) t:Zb5.l0 (n+1) t=Zb5.l0.step (Zb5.l0 n) t:=rfl
def Zb5 (list:List (Str×Int×Int×Int×Int×Int×Int×Str)) (name:Str):Option (Bool):=
 ((Zb5.l0 (((list.length:Int)-(0:Int)).toNat+1) (list,name,0)).bind fun r=>match r with
 | .inl _=>(some false)
 | .inr r=>some r)
def ZiW (name:Str) (y:Int) (mo:Int) (d:Int) (h:Int) (mi:Int) (sec:Int) (text:Str) (list:List (Str×Int×Int×Int×Int×Int×Int×Str)):Option (Int×List (Str×Int×Int×Int×Int×Int×Int×Str)):=
 ((Za2 name y mo d h mi sec text).bind fun EntryOk=>
 (bif (!EntryOk) then (some (1,list)) else
 ((Zb5 list name).bind fun l8Clash_=>
 (bif l8Clash_ then (some (3,list)) else
 (bif (decide ((list.length:Int)≥6)) then (some (4,list)) else
 (need (fits (([]:List (Str×Int×Int×Int×Int×Int×Int×Str)).length+list.length)) (need (fits (([]++list).length+([(name,y,mo,d,h,mi,sec,text)]:List (Str×Int×Int×Int×Int×Int×Int×Str)).length)) (some (0,(([]++list)++[(name,y,mo,d,h,mi,sec,text)]))))))))))
def ZfC (text:Str):Option (Bool):=
 ((ZaW text).bind fun (r,r1)=>
 (some r))
def Za9 (text:Str) (log:Str):Option (Bool):=
 (((ZfC text).bind fun l9Zip_=>
 (bif l9Zip_ then (some (log==[])) else
 (some false))).bind fun c=>
 (some c))
def ZiV (text:Str):Option (Str):=
 ((ZeT (text.length:Int)).bind fun l1Dec_=>
 (need (fits (l1Dec_.length+([10]:Str).length)) (need (fits ((l1Dec_++[10]).length+text.length)) (some ((l1Dec_++[10])++text)))))
def ZaG (dtext:Str) (dlog:Str) (text:Str) (bytes:Int):Option (Str×Str):=
 (((Za9 dtext dlog).bind fun DiskOk=>
 (bif (!DiskOk) then (some true) else
 ((ZfC text).bind fun l9Zip_=>
 (some (!l9Zip_))))).bind fun c=>
 (bif c then (some ([],[])) else
 ((ZiV text).bind fun l9Log_=>
 (((bif (decide (bytes<0)) then (some (0,l9Log_,dtext,dlog,[],[])) else
 (some (bytes,l9Log_,dtext,dlog,[],[]))):Option (Int×Str×Str×Str×Str×Str)).bind fun (bytes1,s,o,o1,o2,o3)=>
 (bif (decide (bytes1>(s.length:Int))) then (need (decide (0≤(s.length:Int))&&decide ((s.length:Int)≤s.length)) (some (o,(s.take (s.length:Int).toNat)))) else
 (need (decide (0≤bytes1)&&decide (bytes1≤s.length)) (some (o,(s.take bytes1.toNat)))))))))
def ZdB (code_:List Int):Option (List Int×Int):=
 (bif (decide ((code_.length:Int)>2000)) then (need (decide (0≤(2000:Int))&&decide ((2000:Int)≤code_.length)) (some ((code_.take 2000),0))) else
 (some (code_,0)))
def pick (n:Int) (b:List Int) (p:Int):Option (Int×List Int×Int):=
 ((bif (decide (n<1)) then (some true) else
 (some ((b.length:Int)==0))).bind fun c=>
 (bif c then (some (0,b,(w64 (p+1)))) else
 (bif (decide ((w64 ((w64 (p+1))-1))<(b.length:Int))) then (need (decide (0≤(w64 ((w64 (p+1))-1)))&&decide ((w64 ((w64 (p+1))-1))<b.length)) (need (n != 0) (some (((w64 (b.getD (w64 ((w64 (p+1))-1)).toNat 0)).tmod n),b,(w64 (p+1)))))) else
 (need ((b.length:Int) != 0) (need (decide (0≤((w64 ((w64 (p+1))-1)).tmod (b.length:Int)))&&decide (((w64 ((w64 (p+1))-1)).tmod (b.length:Int))<b.length)) (need ((b.length:Int) != 0) (need (decide (0≤((w64 ((w64 ((w64 ((w64 (p+1))-1))*7))+3)).tmod (b.length:Int)))&&decide (((w64 ((w64 ((w64 ((w64 (p+1))-1))*7))+3)).tmod (b.length:Int))<b.length)) (need ((b.length:Int) != 0) (need (n != 0) (some (((Zk1 .i64 (w64 ((w64 ((w64 ((w64 ((w64 (b.getD ((w64 ((w64 (p+1))-1)).tmod (b.length:Int)).toNat 0))*131))+(w64 ((w64 (b.getD ((w64 ((w64 ((w64 ((w64 (p+1))-1))*7))+3)).tmod (b.length:Int)).toNat 0))*1117))))+(w64 ((w64 ((w64 (p+1))-1))*29))))+(w64 ((w64 ((w64 ((w64 (p+1))-1)).tdiv (b.length:Int)))*53)))) (w64 ((w64 ((w64 ((w64 ((w64 ((w64 (b.getD ((w64 ((w64 (p+1))-1)).tmod (b.length:Int)).toNat 0))*131))+(w64 ((w64 (b.getD ((w64 ((w64 ((w64 ((w64 (p+1))-1))*7))+3)).tmod (b.length:Int)).toNat 0))*1117))))+(w64 ((w64 ((w64 (p+1))-1))*29))))+(w64 ((w64 ((w64 ((w64 (p+1))-1)).tdiv (b.length:Int)))*53)))).tdiv 64))).tmod n),b,(w64 (p+1)))))))))))))
def Zh5 (xs:List Str) (b:List Int) (p:Int):Option (Str×List Int×Int):=
 ((pick (xs.length:Int) b p).bind fun (r,r1,r2)=>
 (need (decide (0≤r)&&decide (r<xs.length)) (some ((xs.getD r.toNat []),r1,r2))))
def Zdj.l0.step (again:(Str×Int×Str)→Option (Str)):(Str×Int×Str)→Option (Str):=fun (s1,n1,out)=>
 (bif (decide (n1>0)) then (bif ((n1.tmod 2)==1) then (need (fits (out.length+s1.length)) (need (fits (s1.length+s1.length)) (again ((s1++s1),(w64 (n1.tdiv 2)),(out++s1))))) else
 (need (fits (s1.length+s1.length)) (again ((s1++s1),(w64 (n1.tdiv 2)),out)))) else
 (some out))
def Zdj.l0:=ZaC Zdj.l0.step
def Zdj (s:Str) (n:Int):Option (Str):=
 ((Zdj.l0 (n.toNat+1) (s,n,[])).bind fun out1=>
 (some out1))
def ZbL.l0.step (again:(Int×List Int×Int×List Int)→Option (List Int×Int×List Int)):(Int×List Int×Int×List Int)→Option (List Int×Int×List Int):=fun (n,o,o1,out)=>
 (bif (decide (n>0)) then ((pick 256 o o1).bind fun (r12,r13,r14)=>
 (need (fits (out.length+([(IntKind.wrap .u8 r12)]:List (Int)).length)) (again ((w64 (n-1)),r13,r14,(out++[(IntKind.wrap .u8 r12)]))))) else
 (some (o,o1,out)))
def ZbL.l0:=ZaC ZbL.l0.step
def ZbL.l1.step (again:(Str×Int×List Int×Int)→Option (Str×List Int×Int)):(Str×Int×List Int×Int)→Option (Str×List Int×Int):=fun (out2,n1,o4,o5)=>
 (bif (decide (n1>0)) then ((Zh5 [[116,104,101,32],[115,116,111,110,101,32],[116,104,97,116,32],[98,101,97,114,115,32],[97,32],[98,101,97,109],[46,32]] o4 o5).bind fun (r18,r19,r20)=>
 (need (fits (out2.length+r18.length)) (again ((out2++r18),(w64 (n1-1)),r19,r20)))) else
 (some (out2,o4,o5)))
def ZbL.l1:=ZaC ZbL.l1.step
def ZbL (b:List Int) (p:Int):Option (Str×List Int×Int):=
 ((pick 8 b p).bind fun (r,r1,r2)=>
 (bif (r==0) then (some ([],r1,r2)) else
 (bif (r==1) then ((Zh5 [[97],[97,98],[97,98,99],[120,121,122,122,121,32]] r1 r2).bind fun (r3,r4,r5)=>
 ((pick 40 r4 r5).bind fun (r6,r7,r8)=>
 ((Zdj r3 (w64 (1+r6))).bind fun l1Many_=>
 (some (l1Many_,r7,r8))))) else
 (bif (r==2) then ((pick 40 r1 r2).bind fun (r9,r10,r11)=>
 ((ZbL.l0 ((r9-0).toNat+1) (r9,r10,r11,[])).bind fun (o2,o3,out1)=>
 (some ((Zbv out1),o2,o3)))) else
 (bif (r==3) then ((Zdj [113] 300).bind fun l1Many_1=>
 (some (l1Many_1,r1,r2))) else
 ((pick 12 r1 r2).bind fun (r15,r16,r17)=>
 ((ZbL.l1 ((r15-0).toNat+1) ([],r15,r16,r17)).bind fun (out3,o6,o7)=>
 (some (out3,o6,o7)))))))))
def Zci (b:List Int) (p:Int):Option (Str×List Int×Int):=
 ((pick 16 b p).bind fun (r,r1,r2)=>
 (bif (r==0) then ((Zdj [113] 301).bind fun l1Many_=>
 (some (l1Many_,r1,r2))) else
 ((ZbL r1 r2).bind fun (r3,r4,r5)=>
 (some (r3,r4,r5)))))
def ZcS (b:List Int) (p:Int):Option (Str×List Int×Int):=
 ((Zh5 [[97],[98,46,116,120,116],[100,105,114,47,97],[100,105,114,47,98],[120,45,121,95,122],[97,47,98,47,99,47,100],[114,101,97,100,109,101]] b p).bind fun (r,r1,r2)=>
 (some (r,r1,r2)))
def Zcj (b:List Int) (p:Int):Option (Str×List Int×Int):=
 ((pick 6 b p).bind fun (r,r1,r2)=>
 (bif (r==0) then ((Zh5 [[],[47],[97,47],[46,46],[97,47,46,46,47,98],[65],[97,32,98],[101,108,101,118,101,110,108,101,116,116,101],[97,47,98,47,99,47,100,47,101]] r1 r2).bind fun (r3,r4,r5)=>
 (some (r3,r4,r5))) else
 ((ZcS r1 r2).bind fun (r6,r7,r8)=>
 (some (r6,r7,r8)))))
def Zc5.l0.step (again:((List (Str×Int×Int×Int×Int×Int×Int×Str))×(List (Str×Int×Int×Int×Int×Int×Int×Str))×Int)→Option ((Unit)⊕(Bool))):((List (Str×Int×Int×Int×Int×Int×Int×Str))×(List (Str×Int×Int×Int×Int×Int×Int×Str))×Int)→Option ((Unit)⊕(Bool)):=fun (a,b,i)=>
 (bif (decide (i<(a.length:Int))) then (need (decide (0≤i)&&decide (i<a.length)) (need (decide (0≤i)&&decide (i<b.length)) (bif (!(((a.getD i.toNat ([],0,0,0,0,0,0,[])).1==(b.getD i.toNat ([],0,0,0,0,0,0,[])).1)&&(((a.getD i.toNat ([],0,0,0,0,0,0,[])).2.1==(b.getD i.toNat ([],0,0,0,0,0,0,[])).2.1)&&(((a.getD i.toNat ([],0,0,0,0,0,0,[])).2.2.1==(b.getD i.toNat ([],0,0,0,0,0,0,[])).2.2.1)&&(((a.getD i.toNat ([],0,0,0,0,0,0,[])).2.2.2.1==(b.getD i.toNat ([],0,0,0,0,0,0,[])).2.2.2.1)&&(((a.getD i.toNat ([],0,0,0,0,0,0,[])).2.2.2.2.1==(b.getD i.toNat ([],0,0,0,0,0,0,[])).2.2.2.2.1)&&(((a.getD i.toNat ([],0,0,0,0,0,0,[])).2.2.2.2.2.1==(b.getD i.toNat ([],0,0,0,0,0,0,[])).2.2.2.2.2.1)&&(((a.getD i.toNat ([],0,0,0,0,0,0,[])).2.2.2.2.2.2.1==(b.getD i.toNat ([],0,0,0,0,0,0,[])).2.2.2.2.2.2.1)&&(((a.getD i.toNat ([],0,0,0,0,0,0,[])).2.2.2.2.2.2.2==(b.getD i.toNat ([],0,0,0,0,0,0,[])).2.2.2.2.2.2.2)&&true))))))))) then ((some false).map Sum.inr) else
 (again (a,b,(w64 (i+1))))))) else
 (some (.inl ())))
def Zc5.l0:=ZaC Zc5.l0.step
theorem Zc5.l0.succ (n:Nat) t:Zc5.l0 (n+1) t=Zc5.l0.step (Zc5.l0 n) t:=rfl
def Zc5 (xs:List (Str×Int×Int×Int×Int×Int×Int×Str)) (ys:List (Str×Int×Int×Int×Int×Int×Int×Str)):Option (Bool):=
 (bif ((xs.length:Int) != (ys.length:Int)) then (some false) else
 ((Zc5.l0 (((xs.length:Int)-(0:Int)).toNat+1) (xs,ys,0)).bind fun r=>match r with
 | .inl _=>(some true)
 | .inr r=>some r))
def Zcs (text:Str) (log:Str) (text1:Str) (log1:Str):Option (Bool):=
 ((bif (text==text1) then (some (log==log1)) else
 (some false)).bind fun c=>
 (some c))
def Ze0 (xs:List Int) (b:List Int) (p:Int):Option (Int×List Int×Int):=
 ((pick (xs.length:Int) b p).bind fun (r,r1,r2)=>
 (need (decide (0≤r)&&decide (r<xs.length)) (some ((xs.getD r.toNat 0),r1,r2))))
def Zei (s:Str) (b:List Int) (p:Int):Option (Str×List Int×Int):=
 (bif (s==[]) then (some (s,b,p)) else
 ((pick (s.length:Int) b p).bind fun (r,r1,r2)=>
 ((pick 5 r1 r2).bind fun (r3,r4,r5)=>
 (bif (r3==0) then (need (decide (0≤r)&&decide (r≤s.length)) ((pick 256 r4 r5).bind fun (r6,r7,r8)=>
 (need (fits ((s.take r.toNat).length+(Zbv [(IntKind.wrap .u8 r6)]).length)) (need (decide (0≤(w64 (r+1)))&&decide ((w64 (r+1))≤s.length)) (need (fits (((s.take r.toNat)++(Zbv [(IntKind.wrap .u8 r6)])).length+(s.drop (w64 (r+1)).toNat).length)) (some ((((s.take r.toNat)++(Zbv [(IntKind.wrap .u8 r6)]))++(s.drop (w64 (r+1)).toNat)),r7,r8))))))) else
 (bif (r3==1) then (need (decide (0≤r)&&decide (r≤s.length)) (some ((s.take r.toNat),r4,r5))) else
 (bif (r3==2) then ((Zh5 [[120],[0],[109,111,114,101]] r4 r5).bind fun (r9,r10,r11)=>
 (need (fits (s.length+r9.length)) (some ((s++r9),r10,r11)))) else
 (some (s,r4,r5))))))))
def ZbZ (b:List Int) (p:Int):Option (Int×Int×Int×Int×Int×Int×List Int×Int):=
 ((Ze0 [1980,2000,2024,2107] b p).bind fun (r,r1,r2)=>
 ((pick 12 r1 r2).bind fun (r3,r4,r5)=>
 ((pick 28 r4 r5).bind fun (r6,r7,r8)=>
 ((pick 24 r7 r8).bind fun (r9,r10,r11)=>
 ((pick 60 r10 r11).bind fun (r12,r13,r14)=>
 ((pick 30 r13 r14).bind fun (r15,r16,r17)=>
 (some (r,(w64 (1+r3)),(w64 (1+r6)),r9,r12,(w64 (2*r15)),r16,r17))))))))
def ZbR (b:List Int) (p:Int):Option (Int×Int×Int×Int×Int×Int×List Int×Int):=
 ((ZbZ b p).bind fun (r,r1,r2,r3,r4,r5,r6,r7)=>
 ((pick 10 r6 r7).bind fun (r8,r9,r10)=>
 (bif (r8==0) then ((Ze0 [0,29,30,31,32] r9 r10).bind fun (r11,r12,r13)=>
 (some (r,r1,r11,r3,r4,r5,r12,r13))) else
 (bif (r8==1) then ((Ze0 [1979,2100,2108,1900] r9 r10).bind fun (r14,r15,r16)=>
 (some (r14,r1,r2,r3,r4,r5,r15,r16))) else
 (bif (r8==2) then ((Ze0 [1,59,60,(-2)] r9 r10).bind fun (r17,r18,r19)=>
 (some (r,r1,r2,r3,r4,r17,r18,r19))) else
 (bif (r8==3) then ((Ze0 [0,2,13] r9 r10).bind fun (r20,r21,r22)=>
 (some (r,r20,r2,r3,r4,r5,r21,r22))) else
 (some (r,r1,r2,r3,r4,r5,r9,r10))))))))
def Zch (b:List Int) (p:Int):Option (Str×Int×Int×Int×Int×Int×Int×Str×List Int×Int):=
 ((ZcS b p).bind fun (r,r1,r2)=>
 ((ZbZ r1 r2).bind fun (r3,r4,r5,r6,r7,r8,r9,r10)=>
 ((ZbL r9 r10).bind fun (r11,r12,r13)=>
 (some (r,r3,r4,r5,r6,r7,r8,r11,r12,r13)))))
def ZbS (b:List Int) (p:Int):Option (Str×Int×Int×Int×Int×Int×Int×Str×List Int×Int):=
 ((Zch b p).bind fun (r,r1,r2,r3,r4,r5,r6,r7,r8,r9)=>
 ((pick 10 r8 r9).bind fun (r10,r11,r12)=>
 (bif (r10==0) then ((Zcj r11 r12).bind fun (r13,r14,r15)=>
 (some (r13,r1,r2,r3,r4,r5,r6,r7,r14,r15))) else
 (bif (r10==1) then ((ZbR r11 r12).bind fun (r16,r17,r18,r19,r20,r21,r22,r23)=>
 (some (r,r16,r17,r18,r19,r20,r21,r7,r22,r23))) else
 (bif (r10==2) then ((Zci r11 r12).bind fun (r24,r25,r26)=>
 (some (r,r1,r2,r3,r4,r5,r6,r24,r25,r26))) else
 (some (r,r1,r2,r3,r4,r5,r6,r7,r11,r12)))))))
def ZaF.l1.step (again:(Int×List Int×Int×List (Str×Int×Int×Int×Int×Int×Int×Str))→Option (List Int×Int×List (Str×Int×Int×Int×Int×Int×Int×Str))):(Int×List Int×Int×List (Str×Int×Int×Int×Int×Int×Int×Str))→Option (List Int×Int×List (Str×Int×Int×Int×Int×Int×Int×Str)):=fun (n1,o4,o5,out2)=>
 (bif (decide (n1<6)) then ((ZeT n1).bind fun l1Dec_=>
 (need (fits (([102]:Str).length+l1Dec_.length)) ((ZbZ o4 o5).bind fun (r18,r19,r20,r21,r22,r23,r24,r25)=>
 (need (fits (out2.length+([(([102]++l1Dec_),r18,r19,r20,r21,r22,r23,[])]:List (Str×Int×Int×Int×Int×Int×Int×Str)).length)) (again ((w64 (n1+1)),r24,r25,(out2++[(([102]++l1Dec_),r18,r19,r20,r21,r22,r23,[])]))))))) else
 (some (o4,o5,out2)))
def ZaF.l1:=ZaC ZaF.l1.step
theorem ZaF.l1.succ (n:Nat) t:ZaF.l1 (n+1) t=ZaF.l1.step (ZaF.l1 n) t:=rfl
def ZaF.l0.step (again:(Int×List Int×Int×List (Str×Int×Int×Int×Int×Int×Int×Str))→Option (List Int×Int×List (Str×Int×Int×Int×Int×Int×Int×Str))):(Int×List Int×Int×List (Str×Int×Int×Int×Int×Int×Int×Str))→Option (List Int×Int×List (Str×Int×Int×Int×Int×Int×Int×Str)):=fun (n,o,o1,out)=>
 (bif (decide (n>0)) then ((Zch o o1).bind fun (r3,r4,r5,r6,r7,r8,r9,r10,r11,r12)=>
 ((ZiW r3 r4 r5 r6 r7 r8 r9 r10 out).bind fun (r13,r14)=>
 (again ((w64 (n-1)),r11,r12,r14)))) else
 (some (o,o1,out)))
def ZaF.l0:=ZaC ZaF.l0.step
theorem ZaF.l0.succ (n:Nat) t:ZaF.l0 (n+1) t=ZaF.l0.step (ZaF.l0 n) t:=rfl
def ZaF (b:List Int) (p:Int):Option (List Int×Int×List (Str×Int×Int×Int×Int×Int×Int×Str)):=
 ((pick 5 b p).bind fun (r,r1,r2)=>
 ((ZaF.l0 ((r-0).toNat+1) (r,r1,r2,[])).bind fun (o2,o3,out1)=>
 ((pick 24 o2 o3).bind fun (r15,r16,r17)=>
 (bif (r15==0) then ((ZaF.l1 ((6-(out1.length:Int)).toNat+1) ((out1.length:Int),r16,r17,out1)).bind fun (o6,o7,out3)=>
 (some (o6,o7,out3))) else
 (some (r16,r17,out1))))))
def ZfE (b:List Int) (p:Int):Option (Str×List Int×Int):=
 ((ZaF b p).bind fun (r,r1,r2)=>
 ((ZdW r2).bind fun l7Put_=>
 (some (l7Put_,r,r1))))
def ZaR (code_:List Int):Option (Str×Str×Str×Int):=
 ((ZdB code_).bind fun (r,r1)=>
 ((ZfE r r1).bind fun (r2,r3,r4)=>
 ((ZfE r3 r4).bind fun (r5,r6,r7)=>
 ((pick 200 r6 r7).bind fun (r8,r9,r10)=>
 ((Ze0 [(-1),0,2,r8,100000] r9 r10).bind fun (r11,r12,r13)=>
 (some (r2,[],r5,r11)))))))
def Ze7 (s:Str):Option (Str×Str×Bool):=
 (Zh7 (ZdD s) (fun Index=>
 (bif (decide (Index≥0)) then (need (decide (0≤Index)&&decide (Index≤s.length)) (need (decide (0≤(w64 (Index+1)))&&decide ((w64 (Index+1))≤s.length)) (some ((s.take Index.toNat),(s.drop (w64 (Index+1)).toNat),true)))) else
 (some (s,[],false)))) none)
def ZfI (s:Str):Option (Str×Str×Bool):=
 ((ZdY s).bind fun Index=>
 (bif (decide (Index≥0)) then (need (decide (0≤Index)&&decide (Index≤s.length)) (need (decide (0≤(w64 (Index+1)))&&decide ((w64 (Index+1))≤s.length)) (some ((s.take Index.toNat),(s.drop (w64 (Index+1)).toNat),true)))) else
 (some (s,[],false))))
def Zje (s:Str):Option (Str×Str×Bool):=
 (Zh7 (Ze7 s) (fun (r,r1,r2)=>
 (some (r,r1,r2))) none)
def Zmv (s:Str):Option (Str×Str×Bool):=
 ((ZfI s).bind fun (r,r1,r2)=>
 (some (r,r1,r2)))
def Zbq (text:Str) (log:Str):Option (Str×Str×Bool):=
 (Zh7 (Zje log) (fun (r,r1,r2)=>
 (((itoa (r1.length:Int)).bind fun Itoa=>
 (bif (r==Itoa) then ((ZcE r1).bind fun archive_=>
 (some archive_)) else
 (some false))).bind fun c=>
 (bif c then (some (r1,[],true)) else
 ((ZcE text).bind fun archive_1=>
 (bif archive_1 then (some (text,[],true)) else
 (some ([],[],false))))))) none)
def ZeF.l0.step (again:(Str×Int×Int)→Option ((Str×Int)⊕(Int))):(Str×Int×Int)→Option ((Str×Int)⊕(Int)):=fun (s1,n,i)=>
 (bif (decide (i<(s1.length:Int))) then ((need (decide (0≤i)&&decide (i<s1.length)) (bif (decide (((s1.getD i.toNat 0).toNat:Int)<48)) then (some true) else
 (need (decide (0≤i)&&decide (i<s1.length)) (bif (decide (((s1.getD i.toNat 0).toNat:Int)>57)) then (some true) else
 (some (decide (i≥6))))))).bind fun c=>
 (bif c then ((some (-1)).map Sum.inr) else
 (need (decide (0≤i)&&decide (i<s1.length)) (again (s1,(w64 ((w64 (n*10))+(w64 (IntKind.wrap .u8 (((s1.getD i.toNat 0).toNat:Int)-48))))),(w64 (i+1))))))) else
 (some (.inl (s1,n))))
def ZeF.l0:=ZaC ZeF.l0.step
theorem ZeF.l0.succ (n:Nat) t:ZeF.l0 (n+1) t=ZeF.l0.step (ZeF.l0 n) t:=rfl
def ZeF (s:Str):Option (Int):=
 ((ZeF.l0 (((s.length:Int)-(0:Int)).toNat+1) (s,0,0)).bind fun r=>match r with
 | .inl (s2,n1)=>((bif ((s2.length:Int)==0) then (some true) else
 (bif (decide ((s2.length:Int)>1)) then (need (decide (0≤(0:Int))&&decide ((0:Int)<s2.length)) (some (((s2.getD 0 0).toNat:Int)==48))) else
 (some false))).bind fun c1=>
 (bif c1 then (some (-1)) else
 (some n1)))
 | .inr r=>some r)
def ZbP (list:List (Str×Int×Int×Int×Int×Int×Int×Str)):Option (Str×Str×Bool):=
 ((Zau list).bind fun ZipOk=>
 (bif (!ZipOk) then (some ([],[],false)) else
 ((ZdW list).bind fun l7Put_=>
 (some (l7Put_,[],true)))))
def ZbA (text:Str) (log:Str):Option (Str×Str×Bool):=
 ((Zdk log 10 1).bind fun l1Cut_=>
 ((bif (decide ((l1Cut_.length:Int)>1)) then (need (decide (0≤(0:Int))&&decide ((0:Int)<l1Cut_.length)) ((ZeF (l1Cut_.getD 0 [])).bind fun l1Num_=>
 (need (decide (0≤(1:Int))&&decide ((1:Int)<l1Cut_.length)) (bif (l1Num_==((l1Cut_.getD 1 []).length:Int)) then (need (decide (0≤(1:Int))&&decide ((1:Int)<l1Cut_.length)) ((ZfC (l1Cut_.getD 1 [])).bind fun l9Zip_=>
 (some l9Zip_))) else
 (some false))))) else
 (some false)).bind fun c=>
 (bif c then (need (decide (0≤(1:Int))&&decide ((1:Int)<l1Cut_.length)) (some ((l1Cut_.getD 1 []),[],true))) else
 ((ZfC text).bind fun l9Zip_1=>
 (bif (!l9Zip_1) then (some ([],[],false)) else
 (some (text,[],true)))))))
def Zb7 (b:List Int) (p:Int):Option (List Int×Int×List (Str×Int×Int×Int×Int×Int×Int×Str)):=
 ((ZaF b p).bind fun (r,r1,r2)=>
 ((pick 8 r r1).bind fun (r3,r4,r5)=>
 (bif (r3==0) then ((ZbS r4 r5).bind fun (r6,r7,r8,r9,r10,r11,r12,r13,r14,r15)=>
 (need (fits (r2.length+([(r6,r7,r8,r9,r10,r11,r12,r13)]:List (Str×Int×Int×Int×Int×Int×Int×Str)).length)) (some (r14,r15,(r2++[(r6,r7,r8,r9,r10,r11,r12,r13)]))))) else
 (some (r4,r5,r2)))))
def Zb9 (code_:List Int):Option (List (Str×Int×Int×Int×Int×Int×Int×Str)):=
 ((ZdB code_).bind fun (r,r1)=>
 ((Zb7 r r1).bind fun (r2,r3,r4)=>
 (some r4)))
def ZbB (code_:List Int):Option (Str×Str):=
 ((ZaR code_).bind fun (r,r1,r2,r3)=>
 ((ZdB code_).bind fun (r4,r5)=>
 ((pick 8 r4 r5).bind fun (r6,r7,r8)=>
 (bif (r6==0) then ((Zei r r7 r8).bind fun (r9,r10,r11)=>
 ((Zh5 [[],[51,10,97,98,99],[50,50,10]] r10 r11).bind fun (r12,r13,r14)=>
 (some (r9,r12)))) else
 ((ZaG r r1 r2 r3).bind fun (r15,r16)=>
 (some (r15,r16)))))))
def FnDiskOver (code_:List Int):Option (Bool):=
 (bif (decide ((code_.length:Int)>1048576)) then (some true) else
 ((ZaR code_).bind fun (r,r1,r2,r3)=>
 ((Zck r r1 r2 r3).bind fun (r4,r5)=>
 (((ZaG r r1 r2 r3).bind fun (r6,r7)=>
 ((Zcs r4 r5 r6 r7).bind fun cbDisk_=>
 (bif (!cbDisk_) then (some true) else
 ((Za9 r r1).bind fun DiskOk=>
 (some (!DiskOk)))))).bind fun c=>
 (bif c then ((ZaG r r1 r2 r3).bind fun (r8,r9)=>
 ((Zcs r4 r5 r8 r9).bind fun cbDisk_1=>
 (some cbDisk_1))) else
 ((Zbq r4 r5).bind fun (r10,r11,r12)=>
 ((Zck r10 r11 r2 1000000).bind fun (r13,r14)=>
 ((Zbq r13 r14).bind fun (r15,r16,r17)=>
 ((bif r12 then (bif r17 then (some (r15==r2)) else
 (some false)) else
 (some false)).bind fun c1=>
 (some c1))))))))))
def FnDiskTear (code_:List Int):Option (Bool):=
 (bif (decide ((code_.length:Int)>1048576)) then (some true) else
 ((ZaR code_).bind fun (r,r1,r2,r3)=>
 ((Zck r r1 r2 r3).bind fun (r4,r5)=>
 (((ZaG r r1 r2 r3).bind fun (r6,r7)=>
 ((Zcs r4 r5 r6 r7).bind fun cbDisk_=>
 (bif (!cbDisk_) then (some true) else
 ((Zc4 r r1).bind fun DiskOk=>
 ((Za9 r r1).bind fun DiskOk1=>
 (bif (!(DiskOk==DiskOk1)) then (some true) else
 ((Za9 r r1).bind fun DiskOk2=>
 (some (!DiskOk2))))))))).bind fun c=>
 (bif c then (((ZaG r r1 r2 r3).bind fun (r8,r9)=>
 ((Zcs r4 r5 r8 r9).bind fun cbDisk_1=>
 (bif cbDisk_1 then ((Zc4 r r1).bind fun DiskOk3=>
 ((Za9 r r1).bind fun DiskOk4=>
 (some (DiskOk3==DiskOk4)))) else
 (some false)))).bind fun c1=>
 (some c1)) else
 ((Zck r r1 r2 1000000).bind fun (r10,r11)=>
 ((Zbq r4 r5).bind fun (r12,r13,r14)=>
 (bif (r5==r11) then ((bif r14 then (bif (r12==r2) then (some (r13==[])) else
 (some false)) else
 (some false)).bind fun c2=>
 (some c2)) else
 ((bif r14 then ((Zcs r12 r13 r r1).bind fun cbDisk_2=>
 (some cbDisk_2)) else
 (some false)).bind fun c3=>
 (some c3))))))))))
def FnDiskRise (code_:List Int):Option (Bool):=
 (bif (decide ((code_.length:Int)>1048576)) then (some true) else
 ((ZbB code_).bind fun (r,r1)=>
 ((Zbq r r1).bind fun (r2,r3,r4)=>
 ((ZbA r r1).bind fun (r5,r6,r7)=>
 ((bif (!(r4==r7)) then (some true) else
 ((Zcs r2 r3 r5 r6).bind fun cbDisk_=>
 (bif (!cbDisk_) then (some true) else
 (some (!r4))))).bind fun c=>
 (bif c then ((bif (r4==r7) then ((Zcs r2 r3 r5 r6).bind fun cbDisk_1=>
 (some cbDisk_1)) else
 (some false)).bind fun c1=>
 (some c1)) else
 ((Zbq r2 r3).bind fun (r8,r9,r10)=>
 (((Zc4 r2 r3).bind fun DiskOk=>
 (bif DiskOk then (bif r10 then ((Zcs r8 r9 r2 r3).bind fun cbDisk_2=>
 (some cbDisk_2)) else
 (some false)) else
 (some false))).bind fun c2=>
 (some c2)))))))))
def FnDiskNew (code_:List Int):Option (Bool):=
 (bif (decide ((code_.length:Int)>1048576)) then (some true) else
 ((Zb9 code_).bind fun DrawDisk=>
 ((Zel DrawDisk).bind fun (r,r1,r2)=>
 ((ZbP DrawDisk).bind fun (r3,r4,r5)=>
 ((bif (!(r2==r5)) then (some true) else
 ((Zcs r r1 r3 r4).bind fun cbDisk_=>
 (bif (!cbDisk_) then (some true) else
 (some (!r2))))).bind fun c=>
 (bif c then ((bif (r2==r5) then ((Zcs r r1 r3 r4).bind fun cbDisk_1=>
 (some cbDisk_1)) else
 (some false)).bind fun c1=>
 (some c1)) else
 ((Zbq r r1).bind fun (r6,r7,r8)=>
 ((Zcv r6).bind fun (r9,r10)=>
 (((Zc4 r r1).bind fun DiskOk=>
 (bif DiskOk then (bif r8 then ((Zcs r6 r7 r r1).bind fun cbDisk_2=>
 (bif cbDisk_2 then (bif r9 then ((Zc5 r10 DrawDisk).bind fun cbList_=>
 (some cbList_)) else
 (some false)) else
 (some false))) else
 (some false)) else
 (some false))).bind fun c2=>
 (some c2))))))))))
def Zra (code_:List Int):Option (List (Str×Int×Int×Int×Int×Int×Int×Str)):=
 ((ZdB code_).bind fun (r,r1)=>
 ((Zb7 r r1).bind fun (r2,r3,r4)=>
 (some r4)))
end Ev
end
