/- What each function of the program computes, as a plain function (printed by a program of this work out of the form of the program). Conditions: none. -/
import Derived.Test.YtidncmffdaakdaaGreatDoorAGS0
set_option linter.unusedVariables false
set_option linter.unusedSimpArgs false
section
open Go
set_option maxRecDepth 100000
namespace Ev
set_option maxHeartbeats 1000000
def Zbx (n:Int) (low:Int) (high:Int):Option (Bool):=
 ((bif (decide (n≥low)) then (some (decide (n≤high))) else
 (some false)).bind fun c=>
 (some c))
def Zdc.l0.step (again:(Str×Int×Int)→Option ((Str)⊕(Bool))):(Str×Int×Int)→Option ((Str)⊕(Bool)):=fun (s1,t,t1)=>
 (bif (decide (t1<t)) then (need (decide (0≤t1)&&decide (t1<s1.length)) ((bif (decide (((s1.getD t1.toNat 0).toNat:Int)<97)) then (bif (decide (((s1.getD t1.toNat 0).toNat:Int)<48)) then (bif (((s1.getD t1.toNat 0).toNat:Int) != 46) then (bif (((s1.getD t1.toNat 0).toNat:Int) != 45) then (some (((s1.getD t1.toNat 0).toNat:Int) != 95)) else
 (some false)) else
 (some false)) else
 (bif (decide (((s1.getD t1.toNat 0).toNat:Int)>57)) then (bif (((s1.getD t1.toNat 0).toNat:Int) != 46) then (bif (((s1.getD t1.toNat 0).toNat:Int) != 45) then (some (((s1.getD t1.toNat 0).toNat:Int) != 95)) else
 (some false)) else
 (some false)) else
 (some false))) else
 (bif (decide (((s1.getD t1.toNat 0).toNat:Int)>122)) then (bif (decide (((s1.getD t1.toNat 0).toNat:Int)<48)) then (bif (((s1.getD t1.toNat 0).toNat:Int) != 46) then (bif (((s1.getD t1.toNat 0).toNat:Int) != 45) then (some (((s1.getD t1.toNat 0).toNat:Int) != 95)) else
 (some false)) else
 (some false)) else
 (bif (decide (((s1.getD t1.toNat 0).toNat:Int)>57)) then (bif (((s1.getD t1.toNat 0).toNat:Int) != 46) then (bif (((s1.getD t1.toNat 0).toNat:Int) != 45) then (some (((s1.getD t1.toNat 0).toNat:Int) != 95)) else
 (some false)) else
 (some false)) else
 (some false))) else
 (some false))).bind fun c=>
 (bif c then ((some false).map Sum.inr) else
 (again (s1,t,(w64 (t1+1))))))) else
 (some (.inl s1)))
def Zdc.l0:=ZaB Zdc.l0.step
theorem Zdc.l0.succ (n:Nat) t:Zdc.l0 (n+1) t=Zdc.l0.step (Zdc.l0 n) t:=rfl
def Zdc (s:Str):Option (Bool):=
 ((Zdc.l0 (((s.length:Int)-(0:Int)).toNat+1) (s,(s.length:Int),0)).bind fun r=>match r with
 | .inl s2=>(((Zbx (s2.length:Int) 1 10).bind fun within_=>
 (bif within_ then (bif (!(s2==[46])) then (some (!(s2==[46,46]))) else
 (some false)) else
 (some false))).bind fun c1=>
 (some c1))
 | .inr r=>some r)
def ZhI (n:Int) (low:Int) (high:Int):Option (Bool):=
 ((bif (decide (n≥low)) then (some (decide (n≤high))) else
 (some false)).bind fun c=>
 (some c))
def Zdx.l0.step (again:(Str×Int×Int×Int×Int×List Str)→Option (Str×Int×List Str)):(Str×Int×Int×Int×Int×List Str)→Option (Str×Int×List Str):=fun (s1,b1,most1,from_,i,out)=>
 ((bif (decide (i<(s1.length:Int))) then (some (decide ((out.length:Int)<most1))) else
 (some false)).bind fun c=>
 (bif c then (need (decide (0≤i)&&decide (i<s1.length)) (bif (((s1.getD i.toNat 0).toNat:Int)==b1) then (need (decide (0≤i)&&decide (i≤s1.length)) (need (decide (0≤from_)&&decide (from_≤i)) (need (fits (out.length+([((s1.take i.toNat).drop from_.toNat)]:List (Str)).length)) (again (s1,b1,most1,(w64 (i+1)),(w64 (i+1)),(out++[((s1.take i.toNat).drop from_.toNat)])))))) else
 (again (s1,b1,most1,from_,(w64 (i+1)),out)))) else
 (some (s1,from_,out))))
def Zdx.l0:=ZaB Zdx.l0.step
theorem Zdx.l0.succ (n:Nat) t:Zdx.l0 (n+1) t=Zdx.l0.step (Zdx.l0 n) t:=rfl
def Zdx (s:Str) (b:Int) (most:Int):Option (List Str):=
 ((Zdx.l0 (((s.length:Int)-(0:Int)).toNat+1) (s,b,most,0,0,[])).bind fun (s2,from_1,out1)=>
 (need (decide (0≤from_1)&&decide (from_1≤s2.length)) (need (fits (out1.length+([(s2.drop from_1.toNat)]:List (Str)).length)) (some (out1++[(s2.drop from_1.toNat)])))))
def Zap.l0.step (again:(Int×Str×Int×List Str)→Option ((Int×Str×List Str)⊕((List Str)⊕(Bool)))):(Int×Str×Int×List Str)→Option ((Int×Str×List Str)⊕((List Str)⊕(Bool))):=fun (i1,w,k,list1)=>
 (bif (decide (k<(w.length:Int))) then ((need (decide (0≤k)&&decide (k<w.length)) (bif (decide (((w.getD k.toNat 0).toNat:Int)≥97)) then (need (decide (0≤k)&&decide (k<w.length)) (bif (decide (((w.getD k.toNat 0).toNat:Int)≤122)) then (some (!true)) else
 (need (decide (0≤k)&&decide (k<w.length)) (bif (decide (((w.getD k.toNat 0).toNat:Int)≥48)) then (need (decide (0≤k)&&decide (k<w.length)) (bif (decide (((w.getD k.toNat 0).toNat:Int)≤57)) then (some (!true)) else
 (need (decide (0≤k)&&decide (k<w.length)) (bif (((w.getD k.toNat 0).toNat:Int)==46) then (some (!true)) else
 (need (decide (0≤k)&&decide (k<w.length)) (bif (((w.getD k.toNat 0).toNat:Int)==45) then (some (!true)) else
 (need (decide (0≤k)&&decide (k<w.length)) (some (!(((w.getD k.toNat 0).toNat:Int)==95)))))))))) else
 (need (decide (0≤k)&&decide (k<w.length)) (bif (((w.getD k.toNat 0).toNat:Int)==46) then (some (!true)) else
 (need (decide (0≤k)&&decide (k<w.length)) (bif (((w.getD k.toNat 0).toNat:Int)==45) then (some (!true)) else
 (need (decide (0≤k)&&decide (k<w.length)) (some (!(((w.getD k.toNat 0).toNat:Int)==95)))))))))))) else
 (need (decide (0≤k)&&decide (k<w.length)) (bif (decide (((w.getD k.toNat 0).toNat:Int)≥48)) then (need (decide (0≤k)&&decide (k<w.length)) (bif (decide (((w.getD k.toNat 0).toNat:Int)≤57)) then (some (!true)) else
 (need (decide (0≤k)&&decide (k<w.length)) (bif (((w.getD k.toNat 0).toNat:Int)==46) then (some (!true)) else
 (need (decide (0≤k)&&decide (k<w.length)) (bif (((w.getD k.toNat 0).toNat:Int)==45) then (some (!true)) else
 (need (decide (0≤k)&&decide (k<w.length)) (some (!(((w.getD k.toNat 0).toNat:Int)==95)))))))))) else
 (need (decide (0≤k)&&decide (k<w.length)) (bif (((w.getD k.toNat 0).toNat:Int)==46) then (some (!true)) else
 (need (decide (0≤k)&&decide (k<w.length)) (bif (((w.getD k.toNat 0).toNat:Int)==45) then (some (!true)) else
 (need (decide (0≤k)&&decide (k<w.length)) (some (!(((w.getD k.toNat 0).toNat:Int)==95)))))))))))).bind fun c=>
 (bif c then (((some false).map Sum.inr).map Sum.inr) else
 (again (i1,w,(w64 (k+1)),list1)))) else
 (some (.inl (i1,w,list1))))
def Zap.l0:=ZaB Zap.l0.step
theorem Zap.l0.succ (n:Nat) t:Zap.l0 (n+1) t=Zap.l0.step (Zap.l0 n) t:=rfl
def Zap.l1.step (again:(Int×List Str)→Option ((List Str)⊕(Bool))):(Int×List Str)→Option ((List Str)⊕(Bool)):=fun (i,list)=>
 (bif (decide (i<(list.length:Int))) then (need (decide (0≤i)&&decide (i<list.length)) ((Zap.l0 ((((list.getD i.toNat []).length:Int)-(0:Int)).toNat+1) (i,(list.getD i.toNat []),0,list)).bind fun r=>match r with
 | .inl (i2,w1,list2)=>(((ZhI (w1.length:Int) 1 10).bind fun l1In_=>
 (bif (!l1In_) then (some true) else
 (bif (w1==[46]) then (some true) else
 (some (w1==[46,46]))))).bind fun c1=>
 (bif c1 then ((some false).map Sum.inr) else
 (again ((w64 (i2+1)),list2))))
 | .inr r=>some r)) else
 (some (.inl list)))
def Zap.l1:=ZaB Zap.l1.step
theorem Zap.l1.succ (n:Nat) t:Zap.l1 (n+1) t=Zap.l1.step (Zap.l1 n) t:=rfl
def Zap (s:Str):Option (Bool):=
 ((Zdx s 47 (w64 ((s.length:Int)+1))).bind fun l1Cut_=>
 ((Zap.l1 (((l1Cut_.length:Int)-(0:Int)).toNat+1) (0,l1Cut_)).bind fun r=>match r with
 | .inl list3=>(some (decide ((list3.length:Int)≤4)))
 | .inr r=>some r))
def Zdr (a:Str) (b:Str):Option (Bool):=
 ((bif (decide ((b.length:Int)>(a.length:Int))) then (need (decide (0≤(a.length:Int))&&decide ((a.length:Int)≤b.length)) (bif ((b.take (a.length:Int).toNat)==a) then (need (decide (0≤(a.length:Int))&&decide ((a.length:Int)<b.length)) (some (((b.getD (a.length:Int).toNat 0).toNat:Int)==47))) else
 (some false))) else
 (some false)).bind fun c=>
 (some c))
def ZcF (s:Str) (p:Str):Option (Bool):=
 ((bif (decide ((s.length:Int)≥(p.length:Int))) then (need (decide (0≤(p.length:Int))&&decide ((p.length:Int)≤s.length)) (some ((s.take (p.length:Int).toNat)==p))) else
 (some false)).bind fun c=>
 (some c))
def ZcL (s:Str) (p:Str):Option (Bool):=
 ((ZcF s p).bind fun HasPrefi=>
 (some HasPrefi))
def Zb3 (s:Str) (c:Int):Option (Int):=some (idxB s c)
def ZdO (s:Str) (c:Int):Option (Int):=some (cntB s c)
def Zbm (s:Str) (c:Int):Option (Int):=
 ((Zb3 s c).bind fun IndexByt=>
 (some IndexByt))
def Zdt (s:Str):Option (Int):=
 ((some (([47]:Str)==s)).bind fun c=>
 (bif c then (some 0) else
 ((Zbm s 47).bind fun IndexByt=>
 (some IndexByt))))
def Zgr (s:Str):Option (Int):=
 ((Zdt s).bind fun Index=>
 (some Index))
def Zg2 (s:Str):Option (Int):=
 ((ZdO s 47).bind fun CountStr=>
 (some CountStr))
def Zbj.l0.step (again:(Str×Int×Int×List Str)→Option (Str×Int×List Str)):(Str×Int×Int×List Str)→Option (Str×Int×List Str):=fun (s2,n1,i,a)=>
 (bif (decide (i<n1)) then ((Zgr s2).bind fun Index=>
 (bif (decide (Index<0)) then (some (s2,i,a)) else
 (need (decide (0≤(w64 (Index+0)))&&decide ((w64 (Index+0))≤s2.length)) (need (decide (0≤i)&&decide (i<a.length)) (need (decide (0≤(w64 (Index+1)))&&decide ((w64 (Index+1))≤s2.length)) (again ((s2.drop (w64 (Index+1)).toNat),n1,(w64 (i+1)),(a.set i.toNat (s2.take (w64 (Index+0)).toNat))))))))) else
 (some (s2,i,a)))
def Zbj.l0:=ZaB Zbj.l0.step
theorem Zbj.l0.succ (n:Nat) t:Zbj.l0 (n+1) t=Zbj.l0.step (Zbj.l0 n) t:=rfl
def Zbj (s:Str):Option (List Str):=
 ((((Zg2 s).bind fun Count=>
 (some (s,(w64 (Count+1))))):Option (Str×Int)).bind fun (s1,n)=>
 (need (decide (0≤(ZqB n (w64 ((s1.length:Int)+1))))&&fits (ZqB n (w64 ((s1.length:Int)+1))).toNat) ((Zbj.l0 (((w64 ((ZqB n (w64 ((s1.length:Int)+1)))-1))-(0:Int)).toNat+1) (s1,(w64 ((ZqB n (w64 ((s1.length:Int)+1)))-1)),0,(List.replicate (ZqB n (w64 ((s1.length:Int)+1))).toNat ([]:Str)))).bind fun (s3,i1,a1)=>
 (need (decide (0≤i1)&&decide (i1<a1.length)) (need (decide (0≤(w64 (i1+1)))&&decide ((w64 (i1+1))≤(a1.set i1.toNat s3).length)) (some (((a1.set i1.toNat s3).drop 0).take ((w64 (i1+1)).toNat))))))))
def Zgi (s:Str):Option (List Str):=
 ((Zbj s).bind fun genSplit=>
 (some genSplit))
def ZaN.l0.step (again:(List Str×List Str×Int×Int)→Option ((List Str)⊕(Bool))):(List Str×List Str×Int×Int)→Option ((List Str)⊕(Bool)):=fun (parts,t,t1,t2)=>
 (bif (decide (t2<t1)) then (need (decide (0≤t2)&&decide (t2<t.length)) ((Zdc (t.getD t2.toNat [])).bind fun partOk_=>
 (bif (!partOk_) then ((some false).map Sum.inr) else
 (again (parts,t,t1,(w64 (t2+1))))))) else
 (some (.inl parts)))
def ZaN.l0:=ZaB ZaN.l0.step
theorem ZaN.l0.succ (n:Nat) t:ZaN.l0 (n+1) t=ZaN.l0.step (ZaN.l0 n) t:=rfl
def ZaN (s:Str):Option (Bool):=
 ((Zgi s).bind fun Split=>
 ((ZaN.l0 (((Split.length:Int)-(0:Int)).toNat+1) (Split,Split,(Split.length:Int),0)).bind fun r=>match r with
 | .inl parts1=>(some (decide ((parts1.length:Int)≤4)))
 | .inr r=>some r))
def ZcG.l0.step (again:(List Str×Str×List Str×Int×Int×List Str×Int×Int)→Option ((List Str×List Str×Int×Int)⊕((Unit)⊕(Bool)))):(List Str×Str×List Str×Int×Int×List Str×Int×Int)→Option ((List Str×List Str×Int×Int)⊕((Unit)⊕(Bool))):=fun (names1,a,t3,t4,t5,t6,t7,t8)=>
 (bif (decide (t8<t7)) then (need (decide (0≤t8)&&decide (t8<t6.length)) ((bif (a==(t6.getD t8.toNat [])) then (some true) else
 (need (fits ((t6.getD t8.toNat []).length+([47]:Str).length)) ((ZcL a ((t6.getD t8.toNat [])++[47])).bind fun HasPrefi=>
 (bif HasPrefi then (some true) else
 (need (fits (a.length+([47]:Str).length)) ((ZcL (t6.getD t8.toNat []) (a++[47])).bind fun HasPrefi1=>
 (some HasPrefi1))))))).bind fun c=>
 (bif c then (((some false).map Sum.inr).map Sum.inr) else
 (again (names1,a,t3,t4,t5,t6,t7,(w64 (t8+1))))))) else
 (some (.inl (names1,t3,t4,t5))))
def ZcG.l0:=ZaB ZcG.l0.step
theorem ZcG.l0.succ (n:Nat) t:ZcG.l0 (n+1) t=ZcG.l0.step (ZcG.l0 n) t:=rfl
def ZcG.l1.step (again:(List Str×List Str×Int×Int)→Option ((Unit)⊕(Bool))):(List Str×List Str×Int×Int)→Option ((Unit)⊕(Bool)):=fun (names,t,t1,t2)=>
 (bif (decide (t2<t1)) then (need (decide (0≤t2)&&decide (t2<t.length)) (need (decide (0≤t2)&&decide (t2≤names.length)) ((ZcG.l0 ((((names.take t2.toNat).length:Int)-(0:Int)).toNat+1) (names,(t.getD t2.toNat []),t,t1,t2,(names.take t2.toNat),((names.take t2.toNat).length:Int),0)).bind fun r=>match r with
 | .inl (names2,t9,t10,t11)=>(again (names2,t9,t10,(w64 (t11+1))))
 | .inr r=>some r))) else
 (some (.inl ())))
def ZcG.l1:=ZaB ZcG.l1.step
theorem ZcG.l1.succ (n:Nat) t:ZcG.l1 (n+1) t=ZcG.l1.step (ZcG.l1 n) t:=rfl
def ZcG (xs:List Str):Option (Bool):=
 ((ZcG.l1 (((xs.length:Int)-(0:Int)).toNat+1) (xs,xs,(xs.length:Int),0)).bind fun r=>match r with
 | .inl _=>(some true)
 | .inr r=>some r)
def ZeA (num:Int) (bits:Int):Option (Bool):=
 (((Zbx bits 0 16).bind fun within_=>
 (bif within_ then (need (decide (0≤bits)) ((Zbx num 0 (w64 ((Zr2 .i64 1 bits)-1))).bind fun within_1=>
 (some within_1))) else
 (some false))).bind fun c=>
 (some c))
def Zfb.l0.step (again:(Int×Int×Int×Int×List Int)→Option (Int×List Int)):(Int×Int×Int×Int×List Int)→Option (Int×List Int):=fun (num1,t,t1,o,o1)=>
 (bif (decide (t1<t)) then (((bif ((o.tmod 8)==0) then (need (fits (o1.length+([0]:List (Int)).length)) (some (num1,t1,t,t1,o,(o1++[0])))) else
 (some (num1,t1,t,t1,o,o1))):Option (Int×Int×Int×Int×Int×List Int)).bind fun (num2,k,t2,t3,o2,o3)=>
 (need (decide (0≤(w64 (o2.tdiv 8)))&&decide ((w64 (o2.tdiv 8))<o3.length)) (need (decide (0≤k)) (need (decide (0≤(o2.tmod 8))) (need (decide (0≤(w64 (o2.tdiv 8)))&&decide ((w64 (o2.tdiv 8))<o3.length)) (again (num2,t2,(w64 (t3+1)),(w64 (o2+1)),(o3.set ((w64 (o2.tdiv 8)).toNat) (ior .u8 (o3.getD ((w64 (o2.tdiv 8)).toNat) 0) (IntKind.wrap .u8 (Zr2 .i64 (ZkR .i64 (Zm4 .i64 num2 k) 1) (o2.tmod 8)))))))))))) else
 (some (o,o1)))
def Zfb.l0:=ZaB Zfb.l0.step
theorem Zfb.l0.succ (n:Nat) t:Zfb.l0 (n+1) t=Zfb.l0.step (Zfb.l0 n) t:=rfl
def Zfb (num:Int) (bits:Int) (many:Int) (b:List Int):Option (Int×List Int):=
 ((Zfb.l0 ((bits-(0:Int)).toNat+1) (num,bits,0,many,b)).bind fun (o4,o5)=>
 (some (o4,o5)))
def Zkj (many:Int) (b:List Int):Option (Int×List Int):=
 (some ((w64 (8*(b.length:Int))),b))
def Zi1 (s:Str) (at_:Int) (bad:Bool):Option (Int×Str×Int×Bool):=
 (bif (decide (at_≥(w64 (8*(s.length:Int))))) then (some (0,s,at_,true)) else
 (need (decide (0≤(w64 (at_.tdiv 8)))&&decide ((w64 (at_.tdiv 8))<s.length)) (need (decide (0≤(at_.tmod 8))) (some ((ZkR .i64 (Zm4 .i64 (w64 ((s.getD (w64 (at_.tdiv 8)).toNat 0).toNat:Int)) (at_.tmod 8)) 1),s,(w64 (at_+1)),bad)))))
def Zfe.l0.step (again:(Int×Int×Int×Str×Int×Bool)→Option (Int×Str×Int×Bool)):(Int×Int×Int×Str×Int×Bool)→Option (Int×Str×Int×Bool):=fun (n,t,t1,o,o1,o2)=>
 (bif (decide (t1<t)) then ((Zi1 o o1 o2).bind fun (r,r1,r2,r3)=>
 (need (decide (0≤t1)) (again ((ior .i64 n (Zr2 .i64 r t1)),t,(w64 (t1+1)),r1,r2,r3)))) else
 (some (n,o,o1,o2)))
def Zfe.l0:=ZaB Zfe.l0.step
theorem Zfe.l0.succ (n:Nat) t:Zfe.l0 (n+1) t=Zfe.l0.step (Zfe.l0 n) t:=rfl
def Zfe (bits:Int) (s:Str) (at_:Int) (bad:Bool):Option (Int×Str×Int×Bool):=
 ((Zfe.l0 ((bits-(0:Int)).toNat+1) (0,bits,0,s,at_,bad)).bind fun (n1,o3,o4,o5)=>
 (some (n1,o3,o4,o5)))
def Zep.l0.step (again:(Str×Int×Bool)→Option (Str×Int×Bool)):(Str×Int×Bool)→Option (Str×Int×Bool):=fun (o,o1,o2)=>
 (bif ((o1.tmod 8) != 0) then ((Zi1 o o1 o2).bind fun (r,r1,r2,r3)=>
 (bif (r != 0) then (again (r1,r2,true)) else
 (again (r1,r2,r3)))) else
 (some (o,o1,o2)))
def Zep.l0:=ZaB Zep.l0.step
theorem Zep.l0.succ (n:Nat) t:Zep.l0 (n+1) t=Zep.l0.step (Zep.l0 n) t:=rfl
def Zep (s:Str) (at_:Int) (bad:Bool):Option (Str×Int×Bool):=
 ((Zep.l0 (9) (s,at_,bad)).bind fun (o3,o4,o5)=>
 (some (o3,o4,o5)))
def ZbC.l0.step (again:(Int×Int×Int×Int)→Option (Int)):(Int×Int×Int×Int)→Option (Int):=fun (num1,out,t,t1)=>
 (bif (decide (t1<t)) then (need (decide (0≤t1)) (again (num1,(w64 ((w64 (2*out))+(ZkR .i64 (Zm4 .i64 num1 t1) 1))),t,(w64 (t1+1))))) else
 (some out))
def ZbC.l0:=ZaB ZbC.l0.step
theorem ZbC.l0.succ (n:Nat) t:ZbC.l0 (n+1) t=ZbC.l0.step (ZbC.l0 n) t:=rfl
def ZbC (num:Int) (bits:Int):Option (Int):=
 ((ZeA num bits).bind fun pieceOk_=>
 (bif (!pieceOk_) then (some (-1)) else
 ((ZbC.l0 ((bits-(0:Int)).toNat+1) (num,0,bits,0)).bind fun out1=>
 (some out1))))
def ZaH.l0.step (again:(Int×Str×Int×Int)→Option (Int×Str×Int)):(Int×Str×Int×Int)→Option (Int×Str×Int):=fun (crc_2,text2,k1,t)=>
 (bif (decide (t<8)) then (again ((Zl2 .u32 (Zm4 .u32 crc_2 1) (IntKind.wrap .u32 (3988292384*(ZkR .u32 crc_2 1)))),text2,k1,(w64 (t+1)))) else
 (some (crc_2,text2,k1)))
def ZaH.l0:=ZaB ZaH.l0.step
theorem ZaH.l0.succ (n:Nat) t:ZaH.l0 (n+1) t=ZaH.l0.step (ZaH.l0 n) t:=rfl
def ZaH.l1.step (again:(Int×Str×Int)→Option (Int)):(Int×Str×Int)→Option (Int):=fun (crc_1,text1,k)=>
 (bif (decide (k<(text1.length:Int))) then (need (decide (0≤k)&&decide (k<text1.length)) ((ZaH.l0 ((8-(0:Int)).toNat+1) ((Zl2 .u32 crc_1 (IntKind.wrap .u32 ((text1.getD k.toNat 0).toNat:Int))),text1,k,0)).bind fun (crc_3,text3,k2)=>
 (again (crc_3,text3,(w64 (k2+1)))))) else
 (some crc_1))
def ZaH.l1:=ZaB ZaH.l1.step
theorem ZaH.l1.succ (n:Nat) t:ZaH.l1 (n+1) t=ZaH.l1.step (ZaH.l1 n) t:=rfl
def ZaH (crc_:Int) (text:Str):Option (Int):=
 ((ZaH.l1 (((text.length:Int)-(0:Int)).toNat+1) ((Zl2 .u32 (IntKind.max .u32) crc_),text,0)).bind fun crc_4=>
 (some (Zl2 .u32 (IntKind.max .u32) crc_4)))
def crc (text:Str):Option (Int):=
 ((ZaH 0 text).bind fun crcUpdat=>
 (some (w64 crcUpdat)))
def Zcf.l0.step (again:(Int×Int×Int×List Int×Int×Int)→Option ((Int×Int×Int)⊕(Bool))):(Int×Int×Int×List Int×Int×Int)→Option ((Int×Int×Int)⊕(Bool)):=fun (sum,many,last,t,t1,t2)=>
 (bif (decide (t2<t1)) then (need (decide (0≤t2)&&decide (t2<t.length)) ((Zbx (t.getD t2.toNat 0) 0 15).bind fun within_=>
 (bif (!within_) then ((some false).map Sum.inr) else
 (bif (decide ((t.getD t2.toNat 0)>0)) then (need (decide (0≤(w64 (15-(t.getD t2.toNat 0))))) (again ((w64 (sum+(Zr2 .i64 1 (w64 (15-(t.getD t2.toNat 0)))))),(w64 (many+1)),(t.getD t2.toNat 0),t,t1,(w64 (t2+1))))) else
 (again (sum,many,last,t,t1,(w64 (t2+1)))))))) else
 (some (.inl (sum,many,last))))
def Zcf.l0:=ZaB Zcf.l0.step
theorem Zcf.l0.succ (n:Nat) t:Zcf.l0 (n+1) t=Zcf.l0.step (Zcf.l0 n) t:=rfl
def Zcf (lens:List Int):Option (Bool):=
 (bif (decide ((lens.length:Int)>300)) then (some false) else
 ((Zcf.l0 (((lens.length:Int)-(0:Int)).toNat+1) (0,0,0,lens,(lens.length:Int),0)).bind fun r=>match r with
 | .inl (sum1,many1,last1)=>((bif (sum1==32768) then (some true) else
 (bif (many1==1) then (some (last1==1)) else
 (some false))).bind fun c=>
 (some c))
 | .inr r=>some r))
def ZcC.l0.step (again:(List Int×Int×Int×List Int×Int×Int×List Int)→Option (List Int×Int×Int×List Int)):(List Int×Int×Int×List Int×Int×Int×List Int)→Option (List Int×Int×Int×List Int):=fun (lens2,next_1,l1,t,t1,t2,out1)=>
 (bif (decide (t2<t1)) then (need (decide (0≤t2)&&decide (t2<t.length)) (bif ((t.getD t2.toNat 0)==l1) then (need (decide (0≤t2)&&decide (t2<out1.length)) (again (lens2,(w64 (next_1+1)),l1,t,t1,(w64 (t2+1)),(out1.set t2.toNat next_1)))) else
 (again (lens2,next_1,l1,t,t1,(w64 (t2+1)),out1)))) else
 (some (lens2,next_1,l1,out1)))
def ZcC.l0:=ZaB ZcC.l0.step
theorem ZcC.l0.succ (n:Nat) t:ZcC.l0 (n+1) t=ZcC.l0.step (ZcC.l0 n) t:=rfl
def ZcC.l1.step (again:(List Int×Int×Int×List Int)→Option (List Int)):(List Int×Int×Int×List Int)→Option (List Int):=fun (lens1,next_,l,out)=>
 (bif (decide (l≤15)) then ((ZcC.l0 (((lens1.length:Int)-(0:Int)).toNat+1) (lens1,next_,l,lens1,(lens1.length:Int),0,out)).bind fun (lens3,next_2,l2,out2)=>
 (again (lens3,(w64 (next_2*2)),(w64 (l2+1)),out2))) else
 (some out))
def ZcC.l1:=ZaB ZcC.l1.step
theorem ZcC.l1.succ (n:Nat) t:ZcC.l1 (n+1) t=ZcC.l1.step (ZcC.l1 n) t:=rfl
def ZcC (lens:List Int):Option (List Int):=
 (need (decide (0≤(lens.length:Int))&&fits (lens.length:Int).toNat) ((ZcC.l1 ((15-(1:Int)).toNat+2) (lens,0,1,(List.replicate (lens.length:Int).toNat (0:Int)))).bind fun out3=>
 (some out3)))
def Za3.l0.step (again:((List (Int×List Int))×Int×(List (Int×List Int))×Int×Int×Int×List Int)→Option ((List (Int×List Int))×Int×Int×List Int)):((List (Int×List Int))×Int×(List (Int×List Int))×Int×Int×Int×List Int)→Option ((List (Int×List Int))×Int×Int×List Int):=fun (list1,at_,t,t1,t2,o,o1)=>
 (bif (decide (t2<t1)) then (need (decide (0≤t2)&&decide (t2<t.length)) ((need (decide (0≤at_)&&decide (at_<list1.length)) (bif (decide ((t.getD t2.toNat (0,[])).1<(list1.getD at_.toNat (0,[])).1)) then (some true) else
 (need (decide (0≤at_)&&decide (at_<list1.length)) (bif ((t.getD t2.toNat (0,[])).1==(list1.getD at_.toNat (0,[])).1) then (need (decide (0≤(0:Int))&&decide ((0:Int)<((t.getD t2.toNat (0,[])).2).length)) (need (decide (0≤at_)&&decide (at_<list1.length)) (need (decide (0≤(0:Int))&&decide ((0:Int)<((list1.getD at_.toNat (0,[])).2).length)) (some (decide ((((t.getD t2.toNat (0,[])).2).getD 0 0)<(((list1.getD at_.toNat (0,[])).2).getD 0 0))))))) else
 (some false))))).bind fun c=>
 (bif c then (again (list1,t2,t,t1,(w64 (t2+1)),o,o1)) else
 (again (list1,at_,t,t1,(w64 (t2+1)),o,o1))))) else
 (some (list1,at_,o,o1)))
def Za3.l0:=ZaB Za3.l0.step
theorem Za3.l0.succ (n:Nat) t:Za3.l0 (n+1) t=Za3.l0.step (Za3.l0 n) t:=rfl
def Za3 (list:List (Int×List Int)):Option (Int×List Int×List (Int×List Int)):=
 ((Za3.l0 (((list.length:Int)-(0:Int)).toNat+1) (list,0,list,(list.length:Int),0,0,[])).bind fun (list2,at_1,o2,o3)=>
 (need (decide (0≤at_1)&&decide (at_1<list2.length)) (need (decide (0≤at_1)&&decide (at_1≤list2.length)) (need (fits (([]:List (Int×List Int)).length+(list2.take at_1.toNat).length)) (need (decide (0≤(w64 (at_1+1)))&&decide ((w64 (at_1+1))≤list2.length)) (need (fits (([]++(list2.take at_1.toNat)).length+(list2.drop (w64 (at_1+1)).toNat).length)) (some ((list2.getD at_1.toNat (0,[])).1,(list2.getD at_1.toNat (0,[])).2,(([]++(list2.take at_1.toNat))++(list2.drop (w64 (at_1+1)).toNat))))))))))
def Zbl.l1.step (again:(Int×Int×List Int×Int×List Int×Int×List Int×(List (Int×List Int))×List Int)→Option (List Int×Int×List Int×Int×List Int×(List (Int×List Int))×List Int)):(Int×Int×List Int×Int×List Int×Int×List Int×(List (Int×List Int))×List Int)→Option (List Int×Int×List Int×Int×List Int×(List (Int×List Int))×List Int):=fun (t3,t4,out3,o,o1,o2,o3,left,o4)=>
 (bif (decide (t4<t3)) then (need (decide (0≤t4)&&decide (t4<o4.length)) (need (decide (0≤(o4.getD t4.toNat 0))&&decide ((o4.getD t4.toNat 0)<out3.length)) (need (decide (0≤(o4.getD t4.toNat 0))&&decide ((o4.getD t4.toNat 0)<out3.length)) (need (decide (0≤(0:Int))&&decide ((0:Int)<o4.length)) (bif (decide ((o4.getD t4.toNat 0)<(o4.getD 0 0))) then (need (decide (0≤(0:Int))&&decide ((0:Int)<o4.length)) (need (decide (0≤(0:Int))&&decide ((0:Int)<o4.length)) (need (decide (0≤t4)&&decide (t4<(o4.set 0 (o4.getD t4.toNat 0)).length)) (again (t3,(w64 (t4+1)),(out3.set ((o4.getD t4.toNat 0).toNat) (w64 ((out3.getD ((o4.getD t4.toNat 0).toNat) 0)+1))),o,o1,o2,o3,left,((o4.set 0 (o4.getD t4.toNat 0)).set t4.toNat (o4.getD 0 0))))))) else
 (again (t3,(w64 (t4+1)),(out3.set ((o4.getD t4.toNat 0).toNat) (w64 ((out3.getD ((o4.getD t4.toNat 0).toNat) 0)+1))),o,o1,o2,o3,left,o4))))))) else
 (some (out3,o,o1,o2,o3,left,o4)))
def Zbl.l1:=ZaB Zbl.l1.step
theorem Zbl.l1.succ (n:Nat) t:Zbl.l1 (n+1) t=Zbl.l1.step (Zbl.l1 n) t:=rfl
def Zbl.l2.step (again:(List Int×List (Int×List Int))→Option (List Int)):(List Int×List (Int×List Int))→Option (List Int):=fun (out2,list2)=>
 (bif (decide ((list2.length:Int)>1)) then ((Za3 list2).bind fun (r,r1,r2)=>
 ((Za3 r2).bind fun (r3,r4,r5)=>
 (need (fits (([]:List (Int)).length+r1.length)) (need (fits (([]++r1).length+r4.length)) ((Zbl.l1 ((((([]++r1)++r4).length:Int)-(0:Int)).toNat+1) (((([]++r1)++r4).length:Int),0,out2,r,r1,r3,r4,r5,(([]++r1)++r4))).bind fun (out4,o5,o6,o7,o8,left1,syms)=>
 (need (fits (left1.length+([((w64 (o5+o7)),syms)]:List (Int×List Int)).length)) (again (out4,(left1++[((w64 (o5+o7)),syms)]))))))))) else
 (some out2))
def Zbl.l2:=ZaB Zbl.l2.step
theorem Zbl.l2.succ (n:Nat) t:Zbl.l2 (n+1) t=Zbl.l2.step (Zbl.l2 n) t:=rfl
def Zbl.l0.step (again:(List Int×Int×Int×List Int×List (Int×List Int))→Option (List Int×List (Int×List Int))):(List Int×Int×Int×List Int×List (Int×List Int))→Option (List Int×List (Int×List Int)):=fun (t,t1,t2,out,list)=>
 (bif (decide (t2<t1)) then (need (decide (0≤t2)&&decide (t2<t.length)) (bif (decide ((t.getD t2.toNat 0)>0)) then (need (fits (list.length+([((t.getD t2.toNat 0),[t2])]:List (Int×List Int)).length)) (again (t,t1,(w64 (t2+1)),out,(list++[((t.getD t2.toNat 0),[t2])])))) else
 (again (t,t1,(w64 (t2+1)),out,list)))) else
 (some (out,list)))
def Zbl.l0:=ZaB Zbl.l0.step
theorem Zbl.l0.succ (n:Nat) t:Zbl.l0 (n+1) t=Zbl.l0.step (Zbl.l0 n) t:=rfl
def Zbl (counts:List Int):Option (List Int):=
 (need (decide (0≤(counts.length:Int))&&fits (counts.length:Int).toNat) ((Zbl.l0 (((counts.length:Int)-(0:Int)).toNat+1) (counts,(counts.length:Int),0,(List.replicate (counts.length:Int).toNat (0:Int)),[])).bind fun (out1,list1)=>
 (bif ((list1.length:Int)==1) then (need (decide (0≤(0:Int))&&decide ((0:Int)<list1.length)) (need (decide (0≤(0:Int))&&decide ((0:Int)<((list1.getD 0 (0,[])).2).length)) (need (decide (0≤(((list1.getD 0 (0,[])).2).getD 0 0))&&decide ((((list1.getD 0 (0,[])).2).getD 0 0)<out1.length)) (some (out1.set ((((list1.getD 0 (0,[])).2).getD 0 0).toNat) 1))))) else
 ((Zbl.l2 (((list1.length:Int)-1).toNat+1) (out1,list1)).bind fun out5=>
 (some out5)))))
def ZaZ.l2.step (again:(Int×Int×Int×List Int)→Option (Int×List Int)):(Int×Int×Int×List Int)→Option (Int×List Int):=fun (most6,t5,t6,now5)=>
 (bif (decide (t6<t5)) then (need (decide (0≤t6)&&decide (t6<now5.length)) (need (decide (0≤t6)&&decide (t6<now5.length)) (again (most6,t5,(w64 (t6+1)),(now5.set t6.toNat (w64 ((w64 ((now5.getD t6.toNat 0)+1)).tdiv 2))))))) else
 (some (most6,now5)))
def ZaZ.l2:=ZaB ZaZ.l2.step
theorem ZaZ.l2.succ (n:Nat) t:ZaZ.l2 (n+1) t=ZaZ.l2.step (ZaZ.l2 n) t:=rfl
def ZaZ.l1.step (again:(Int×Int×Int×Int×List Int×List Int)→Option (Int×Int×List Int×List Int)):(Int×Int×Int×Int×List Int×List Int)→Option (Int×Int×List Int×List Int):=fun (most4,long,t3,t4,now3,o)=>
 (bif (decide (t4<t3)) then (need (decide (0≤t4)&&decide (t4<o.length)) (again (most4,(Zww long (o.getD t4.toNat 0)),t3,(w64 (t4+1)),now3,o))) else
 (some (most4,long,now3,o)))
def ZaZ.l1:=ZaB ZaZ.l1.step
theorem ZaZ.l1.succ (n:Nat) t:ZaZ.l1 (n+1) t=ZaZ.l1.step (ZaZ.l1 n) t:=rfl
def ZaZ.l3.step (again:(Int×List Int)→Option ((Unit)⊕(List Int))):(Int×List Int)→Option ((Unit)⊕(List Int)):=fun (most3,now2)=>
 ((Zbl now2).bind fun depths_=>
 ((ZaZ.l1 (((depths_.length:Int)-(0:Int)).toNat+1) (most3,0,(depths_.length:Int),0,now2,depths_)).bind fun (most5,long1,now4,out)=>
 (bif (decide (long1≤most5)) then ((some out).map Sum.inr) else
 ((ZaZ.l2 (((now4.length:Int)-(0:Int)).toNat+1) (most5,(now4.length:Int),0,now4)).bind fun (most7,now6)=>
 (again (most7,now6))))))
def ZaZ.l3:=ZaB ZaZ.l3.step
theorem ZaZ.l3.succ (n:Nat) t:ZaZ.l3 (n+1) t=ZaZ.l3.step (ZaZ.l3 n) t:=rfl
def ZaZ.l0.step (again:(Int×Int×List Int×Int×Int×List Int)→Option ((Int×Int×List Int)⊕(List Int))):(Int×Int×List Int×Int×Int×List Int)→Option ((Int×Int×List Int)⊕(List Int)):=fun (most1,many,t,t1,t2,now)=>
 (bif (decide (t2<t1)) then (need (decide (0≤t2)&&decide (t2<t.length)) ((Zbx (t.getD t2.toNat 0) 0 100000).bind fun within_1=>
 (bif (!within_1) then ((some []).map Sum.inr) else
 (bif (decide ((t.getD t2.toNat 0)>0)) then (need (fits (now.length+([(t.getD t2.toNat 0)]:List (Int)).length)) (again (most1,(w64 (many+1)),t,t1,(w64 (t2+1)),(now++[(t.getD t2.toNat 0)])))) else
 (need (fits (now.length+([(t.getD t2.toNat 0)]:List (Int)).length)) (again (most1,many,t,t1,(w64 (t2+1)),(now++[(t.getD t2.toNat 0)])))))))) else
 (some (.inl (most1,many,now))))
def ZaZ.l0:=ZaB ZaZ.l0.step
theorem ZaZ.l0.succ (n:Nat) t:ZaZ.l0 (n+1) t=ZaZ.l0.step (ZaZ.l0 n) t:=rfl
def ZaZ (counts:List Int) (most:Int):Option (List Int):=
 ((bif (decide ((counts.length:Int)>300)) then (some true) else
 ((Zbx most 1 15).bind fun within_=>
 (some (!within_)))).bind fun c=>
 (bif c then (some []) else
 ((ZaZ.l0 (((counts.length:Int)-(0:Int)).toNat+1) (most,0,counts,(counts.length:Int),0,[])).bind fun r=>match r with
 | .inl (most2,many1,now1)=>(need (decide (0≤(w64 (most2-1)))) ((Zbx many1 1 (Zr2 .i64 1 (w64 (most2-1)))).bind fun within_2=>
 (bif (!within_2) then (some []) else
 ((ZaZ.l3 (100000) (most2,now1)).bind fun r=>match r with
 | .inl _=>none
 | .inr r=>some r))))
 | .inr r=>some r)))
def Zck.l0.step (again:(List Int×Int×Int×(List ((Int×Int)×Int))×List Int)→Option (List ((Int×Int)×Int))):(List Int×Int×Int×(List ((Int×Int)×Int))×List Int)→Option (List ((Int×Int)×Int)):=fun (lens1,t,t1,o,o1)=>
 (bif (decide (t1<t)) then (need (decide (0≤t1)&&decide (t1<o1.length)) (need (decide (0≤t1)&&decide (t1<lens1.length)) (bif (decide ((lens1.getD t1.toNat 0)>0)) then (need (decide (0≤t1)&&decide (t1<lens1.length)) (again (lens1,t,(w64 (t1+1)),(Zfx [.int .i64,.int .i64] [.int .i64] o ((o1.getD t1.toNat 0),(lens1.getD t1.toNat 0)) t1),o1))) else
 (again (lens1,t,(w64 (t1+1)),o,o1))))) else
 (some o))
def Zck.l0:=ZaB Zck.l0.step
theorem Zck.l0.succ (n:Nat) t:Zck.l0 (n+1) t=Zck.l0.step (Zck.l0 n) t:=rfl
def Zck (lens:List Int):Option (List ((Int×Int)×Int)):=
 ((ZcC lens).bind fun codes_=>
 ((Zck.l0 (((codes_.length:Int)-(0:Int)).toNat+1) (lens,(codes_.length:Int),0,[],codes_)).bind fun o2=>
 (some o2)))
def Zbn.l0.step (again:(Int×Int×Str×Int×Bool×List ((Int×Int)×Int))→Option ((Str×Int×Bool×List ((Int×Int)×Int))⊕(Int×Str×Int×Bool×List ((Int×Int)×Int)))):(Int×Int×Str×Int×Bool×List ((Int×Int)×Int))→Option ((Str×Int×Bool×List ((Int×Int)×Int))⊕(Int×Str×Int×Bool×List ((Int×Int)×Int))):=fun (code_,l,o,o1,o2,o3)=>
 (bif (decide (l≤15)) then ((Zi1 o o1 o2).bind fun (r,r1,r2,r3)=>
 ((bif (ZeC [.int .i64,.int .i64] [.int .i64] o3 ((w64 ((w64 (2*code_))+r)),l)).isSome then (some (!r3)) else
 (some false)).bind fun c=>
 (bif c then ((some (((ZeC [.int .i64,.int .i64] [.int .i64] o3 ((w64 ((w64 (2*code_))+r)),l)).getD 0),r1,r2,r3,o3)).map Sum.inr) else
 (again ((w64 ((w64 (2*code_))+r)),(w64 (l+1)),r1,r2,r3,o3))))) else
 (some (.inl (o,o1,o2,o3))))
def Zbn.l0:=ZaB Zbn.l0.step
theorem Zbn.l0.succ (n:Nat) t:Zbn.l0 (n+1) t=Zbn.l0.step (Zbn.l0 n) t:=rfl
def Zbn (s:Str) (at_:Int) (bad:Bool) (book:List ((Int×Int)×Int)):Option (Int×Str×Int×Bool×List ((Int×Int)×Int)):=
 ((Zbn.l0 ((15-(1:Int)).toNat+2) (0,1,s,at_,bad,book)).bind fun r=>match r with
 | .inl (o4,o5,o6,o7)=>(some (0,o4,o5,true,o7))
 | .inr r=>some r)
def add.l0.step (again:(Int×Int×List Int×Int×Int×Int)→Option (List Int)):(Int×Int×List Int×Int×Int×Int)→Option (List Int):=fun (t,t1,out1,o,o1,o2)=>
 (bif (decide (t1<t)) then (need (decide (0≤(w64 ((out1.length:Int)-o2)))&&decide ((w64 ((out1.length:Int)-o2))<out1.length)) (need (fits (out1.length+([(out1.getD ((w64 ((out1.length:Int)-o2)).toNat) 0)]:List (Int)).length)) (again (t,(w64 (t1+1)),(out1++[(out1.getD ((w64 ((out1.length:Int)-o2)).toNat) 0)]),o,o1,o2)))) else
 (some out1))
def add.l0:=ZaB add.l0.step
theorem add.l0.succ (n:Nat) t:add.l0 (n+1) t=add.l0.step (add.l0 n) t:=rfl
def add (byte:Int) (long:Int) (back:Int) (out:List Int):Option (Bool×List Int):=
 (bif (long==0) then ((bif (back != 0) then (some true) else
 ((Zbx byte 0 255).bind fun within_=>
 (some (!within_)))).bind fun c=>
 (bif c then (some (false,[])) else
 (need (fits (out.length+([(IntKind.wrap .u8 byte)]:List (Int)).length)) (some (true,(out++[(IntKind.wrap .u8 byte)])))))) else
 ((bif (byte != 0) then (some true) else
 ((Zbx long 3 60).bind fun within_1=>
 (bif (!within_1) then (some true) else
 ((Zbx back 1 (ZqB 250 (out.length:Int))).bind fun within_2=>
 (some (!within_2)))))).bind fun c1=>
 (bif c1 then (some (false,[])) else
 ((add.l0 ((long-(0:Int)).toNat+1) (long,0,out,byte,long,back)).bind fun out2=>
 (some (true,out2))))))
def Zat.l0.step (again:(Str×Int×Int×Int×(List (Int×Int×Int))×Int×Int×Int)→Option (Str×Int×Int×Int×(List (Int×Int×Int))×Int×Int×Int)):(Str×Int×Int×Int×(List (Int×Int×Int))×Int×Int×Int)→Option (Str×Int×Int×Int×(List (Int×Int×Int))×Int×Int×Int):=fun (text3,at_2,back1,n,out2,o3,o4,o5)=>
 ((bif (decide (n<60)) then (bif (decide ((w64 (at_2+n))<(text3.length:Int))) then (need (decide (0≤(w64 (at_2+n)))&&decide ((w64 (at_2+n))<text3.length)) (need (decide (0≤(w64 ((w64 (at_2+n))-back1)))&&decide ((w64 ((w64 (at_2+n))-back1))<text3.length)) (some (((text3.getD (w64 (at_2+n)).toNat 0).toNat:Int)==((text3.getD (w64 ((w64 (at_2+n))-back1)).toNat 0).toNat:Int))))) else
 (some false)) else
 (some false)).bind fun c=>
 (bif c then (again (text3,at_2,back1,(w64 (n+1)),out2,o3,o4,o5)) else
 (some (text3,at_2,back1,n,out2,o3,o4,o5))))
def Zat.l0:=ZaB Zat.l0.step
theorem Zat.l0.succ (n:Nat) t:Zat.l0 (n+1) t=Zat.l0.step (Zat.l0 n) t:=rfl
def Zat.l1.step (again:(Str×Int×Int×(List (Int×Int×Int))×Int×Int×Int)→Option (Str×Int×(List (Int×Int×Int))×Int×Int×Int)):(Str×Int×Int×(List (Int×Int×Int))×Int×Int×Int)→Option (Str×Int×(List (Int×Int×Int))×Int×Int×Int):=fun (text2,at_1,back,out1,o,o1,o2)=>
 (bif (decide (back≤(ZqB 250 at_1))) then ((Zat.l0 ((60-(0:Int)).toNat+1) (text2,at_1,back,0,out1,o,o1,o2)).bind fun (text4,at_3,back2,n1,out3,o6,o7,o8)=>
 ((bif (decide (n1≥3)) then (some (decide (n1>o7))) else
 (some false)).bind fun c1=>
 (bif c1 then (again (text4,at_3,(w64 (back2+1)),out3,0,n1,back2)) else
 (again (text4,at_3,(w64 (back2+1)),out3,o6,o7,o8))))) else
 (some (text2,at_1,out1,o,o1,o2)))
def Zat.l1:=ZaB Zat.l1.step
theorem Zat.l1.succ (n:Nat) t:Zat.l1 (n+1) t=Zat.l1.step (Zat.l1 n) t:=rfl
def Zat.l2.step (again:(Str×Int×List (Int×Int×Int))→Option (List (Int×Int×Int))):(Str×Int×List (Int×Int×Int))→Option (List (Int×Int×Int)):=fun (text1,at_,out)=>
 (bif (decide (at_<(text1.length:Int))) then (need (decide (0≤at_)&&decide (at_<text1.length)) ((Zat.l1 (((ZqB 250 at_)-(1:Int)).toNat+2) (text1,at_,1,out,(w64 ((text1.getD at_.toNat 0).toNat:Int)),0,0)).bind fun (text5,at_4,out4,o9,o10,o11)=>
 (need (fits (out4.length+([(o9,o10,o11)]:List (Int×Int×Int)).length)) (again (text5,(w64 (at_4+(Zww o10 1))),(out4++[(o9,o10,o11)])))))) else
 (some out))
def Zat.l2:=ZaB Zat.l2.step
theorem Zat.l2.succ (n:Nat) t:Zat.l2 (n+1) t=Zat.l2.step (Zat.l2 n) t:=rfl
def Zat (text:Str):Option (List (Int×Int×Int)):=
 (bif (decide ((text.length:Int)>300)) then (some []) else
 ((Zat.l2 (((text.length:Int)-(0:Int)).toNat+1) (text,0,[])).bind fun out5=>
 (some out5)))
def Zcu.l0.step (again:(Int×Int×Int×Int×Int×List Int×List Int×List Int×List Int)→Option (List Int×List Int×List Int×List Int)):(Int×Int×Int×Int×Int×List Int×List Int×List Int×List Int)→Option (List Int×List Int×List Int×List Int):=fun (from_1,plain1,each1,t,t1,o,o1,o2,o3)=>
 (bif (decide (t1<t)) then (((bif (decide (t1≥plain1)) then (need (each1 != 0) (some (from_1,plain1,each1,(w64 ((w64 ((w64 (t1-plain1)).tdiv each1))+1)),t,t1,o,o1,o2,o3))) else
 (some (from_1,plain1,each1,0,t,t1,o,o1,o2,o3))):Option (Int×Int×Int×Int×Int×Int×List Int×List Int×List Int×List Int)).bind fun (from_2,plain2,each2,bits,t2,t3,o4,o5,o6,o7)=>
 (need (fits (o6.length+([from_2]:List (Int)).length)) (need (fits (o7.length+([bits]:List (Int)).length)) (need (decide (0≤bits)) (again ((w64 (from_2+(Zr2 .i64 1 bits))),plain2,each2,t2,(w64 (t3+1)),o4,o5,(o6++[from_2]),(o7++[bits]))))))) else
 (some (o,o1,o2,o3)))
def Zcu.l0:=ZaB Zcu.l0.step
def Zcu (from_:Int) (many:Int) (plain:Int) (each:Int):Option (List Int×List Int):=
 ((Zcu.l0 ((many-(0:Int)).toNat+1) (from_,plain,each,many,0,[],[],[],[])).bind fun (o8,o9,o10,o11)=>
 (some (o10,o11)))
def Zb2:Option (List Int×List Int):=
 ((Zcu 3 28 8 4).bind fun (r,r1)=>
 (some (r,r1)))
def Zb5:Option (List Int×List Int):=
 ((Zcu 1 30 4 2).bind fun (r,r1)=>
 (some (r,r1)))
def Zcq.l0.step (again:(Int×Int×List Int×List Int)→Option (Int)):(Int×Int×List Int×List Int)→Option (Int):=fun (n1,k,o,o1)=>
 (need (decide (0≤k)&&decide (k<o.length)) (bif (decide ((o.getD k.toNat 0)>n1)) then (again (n1,(w64 (k-1)),o,o1)) else
 (some k)))
def Zcq.l0:=ZaB Zcq.l0.step
def Zcq (first:List Int) (bits:List Int) (n:Int):Option (Int):=
 ((Zcq.l0 ((w64 ((first.length:Int)-1)).toNat+1) (n,(w64 ((first.length:Int)-1)),first,bits)).bind fun k1=>
 (some k1))
def Zbp.l1.step (again:(Int×Int×List Int×List Int)→Option (List Int×List Int)):(Int×Int×List Int×List Int)→Option (List Int×List Int):=fun (t2,t3,lit2,dist)=>
 (bif (decide (t3<t2)) then (need (decide (0≤t3)&&decide (t3<dist.length)) (again (t2,(w64 (t3+1)),lit2,(dist.set t3.toNat 5)))) else
 (some (lit2,dist)))
def Zbp.l1:=ZaB Zbp.l1.step
def Zbp.l0.step (again:(Int×Int×List Int)→Option (List Int)):(Int×Int×List Int)→Option (List Int):=fun (t,t1,lit)=>
 (bif (decide (t1<t)) then ((bif (decide (t1<144)) then (some true) else
 (some (decide (t1≥280)))).bind fun c=>
 (bif c then (need (decide (0≤t1)&&decide (t1<lit.length)) (again (t,(w64 (t1+1)),(lit.set t1.toNat 8)))) else
 (bif (decide (t1<256)) then (need (decide (0≤t1)&&decide (t1<lit.length)) (again (t,(w64 (t1+1)),(lit.set t1.toNat 9)))) else
 (need (decide (0≤t1)&&decide (t1<lit.length)) (again (t,(w64 (t1+1)),(lit.set t1.toNat 7))))))) else
 (some lit))
def Zbp.l0:=ZaB Zbp.l0.step
def Zbp:Option (List Int×List Int):=
 (need (decide (0≤288)&&fits 288) ((Zbp.l0 ((((List.replicate 288 (0:Int)).length:Int)-(0:Int)).toNat+1) (((List.replicate 288 (0:Int)).length:Int),0,(List.replicate 288 (0:Int)))).bind fun lit1=>
 (need (decide (0≤32)&&fits 32) ((Zbp.l1 ((((List.replicate 32 (0:Int)).length:Int)-(0:Int)).toNat+1) (((List.replicate 32 (0:Int)).length:Int),0,lit1,(List.replicate 32 (0:Int)))).bind fun (lit3,dist1)=>
 (some (lit3,dist1))))))
def ZdC (text:Str):Option (Str):=
 (bif (decide ((text.length:Int)>300)) then (some []) else
 ((Zfb 1 3 0 []).bind fun (r,r1)=>
 ((Zkj r r1).bind fun (r2,r3)=>
 ((Zfb (text.length:Int) 16 r2 r3).bind fun (r4,r5)=>
 ((Zfb (w64 (65535-(text.length:Int))) 16 r4 r5).bind fun (r6,r7)=>
 (need (fits ((Zcn r7).length+text.length)) (some ((Zcn r7)++text))))))))
def Zgz (lens:List Int) (all:List Int) (s:Int) (many:Int) (b:List Int):Option (Int×List Int):=
 (need (decide (0≤s)&&decide (s<all.length)) (need (decide (0≤s)&&decide (s<lens.length)) ((ZbC (all.getD s.toNat 0) (lens.getD s.toNat 0)).bind fun BitsTurn=>
 (need (decide (0≤s)&&decide (s<lens.length)) ((Zfb BitsTurn (lens.getD s.toNat 0) many b).bind fun (r,r1)=>
 (some (r,r1)))))))
def ZbO.l0.step (again:(List Int×List Int×(List (Int×Int×Int))×Int×Int×Int×List Int×List Int×List Int)→Option (List Int×Int×List Int×List Int)):(List Int×List Int×(List (Int×Int×Int))×Int×Int×Int×List Int×List Int×List Int)→Option (List Int×Int×List Int×List Int):=fun (lit1,dist1,t,t1,t2,o,a,b1,o1)=>
 (bif (decide (t2<t1)) then (need (decide (0≤t2)&&decide (t2<t.length)) (bif ((t.getD t2.toNat (0,0,0)).2.1==0) then ((Zgz lit1 a ((t.getD t2.toNat (0,0,0)).1) o o1).bind fun (r,r1)=>
 (again (lit1,dist1,t,t1,(w64 (t2+1)),r,a,b1,r1))) else
 ((Zb2).bind fun (r2,r3)=>
 ((Zcq r2 r3 ((t.getD t2.toNat (0,0,0)).2.1)).bind fun find_=>
 ((Zgz lit1 a (w64 (257+find_)) o o1).bind fun (r4,r5)=>
 ((Zb2).bind fun (r6,r7)=>
 (need (decide (0≤find_)&&decide (find_<r6.length)) ((Zb2).bind fun (r8,r9)=>
 (need (decide (0≤find_)&&decide (find_<r9.length)) ((Zfb (w64 ((t.getD t2.toNat (0,0,0)).2.1-(r6.getD find_.toNat 0))) (r9.getD find_.toNat 0) r4 r5).bind fun (r10,r11)=>
 ((Zb5).bind fun (r12,r13)=>
 ((Zcq r12 r13 ((t.getD t2.toNat (0,0,0)).2.2)).bind fun find_1=>
 ((Zgz dist1 b1 find_1 r10 r11).bind fun (r14,r15)=>
 ((Zb5).bind fun (r16,r17)=>
 (need (decide (0≤find_1)&&decide (find_1<r16.length)) ((Zb5).bind fun (r18,r19)=>
 (need (decide (0≤find_1)&&decide (find_1<r19.length)) ((Zfb (w64 ((t.getD t2.toNat (0,0,0)).2.2-(r16.getD find_1.toNat 0))) (r19.getD find_1.toNat 0) r14 r15).bind fun (r20,r21)=>
 (again (lit1,dist1,t,t1,(w64 (t2+1)),r20,a,b1,r21)))))))))))))))))))) else
 (some (lit1,o,a,o1)))
def ZbO.l0:=ZaB ZbO.l0.step
theorem ZbO.l0.succ (n:Nat) t:ZbO.l0 (n+1) t=ZbO.l0.step (ZbO.l0 n) t:=rfl
def ZbO (list:List (Int×Int×Int)) (lit:List Int) (dist:List Int) (many:Int) (b:List Int):Option (Int×List Int):=
 ((ZcC lit).bind fun codes_=>
 ((ZcC dist).bind fun codes_1=>
 ((ZbO.l0 (((list.length:Int)-(0:Int)).toNat+1) (lit,dist,list,(list.length:Int),0,many,codes_,codes_1,b)).bind fun (lit2,o2,a1,o3)=>
 ((Zgz lit2 a1 256 o2 o3).bind fun (r22,r23)=>
 (some (r22,r23))))))
def ZdH (text:Str):Option (Str):=
 (bif (decide ((text.length:Int)>300)) then (some []) else
 ((Zfb 1 1 0 []).bind fun (r,r1)=>
 ((Zfb 1 2 r r1).bind fun (r2,r3)=>
 ((Zbp).bind fun (r4,r5)=>
 ((Zat text).bind fun TokensOf=>
 ((ZbO TokensOf r4 r5 r2 r3).bind fun (r6,r7)=>
 (some (Zcn r7))))))))
def ZbJ.l0.step (again:(List Int×Int×Int)→Option (List Int×Int)):(List Int×Int×Int)→Option (List Int×Int):=fun (lens1,least_1,n)=>
 ((bif (decide (n>least_1)) then (need (decide (0≤(w64 (n-1)))&&decide ((w64 (n-1))<lens1.length)) (some ((lens1.getD (w64 (n-1)).toNat 0)==0))) else
 (some false)).bind fun c=>
 (bif c then (again (lens1,least_1,(w64 (n-1)))) else
 (some (lens1,n))))
def ZbJ.l0:=ZaB ZbJ.l0.step
theorem ZbJ.l0.succ (n:Nat) t:ZbJ.l0 (n+1) t=ZbJ.l0.step (ZbJ.l0 n) t:=rfl
def ZbJ (lens:List Int) (least_:Int):Option (List Int):=
 ((ZbJ.l0 (((lens.length:Int)-least_).toNat+1) (lens,least_,(lens.length:Int))).bind fun (lens2,n1)=>
 (need (decide (0≤n1)&&decide (n1≤lens2.length)) (some (lens2.take n1.toNat))))
def Za0.l3.step (again:(List Int×List Int×Int×Int×(List (Int×Int×Int))×List Int×Int×List Int×List Int×List Int)→Option (List Int×List Int×(List (Int×Int×Int))×Int×List Int)):(List Int×List Int×Int×Int×(List (Int×Int×Int))×List Int×Int×List Int×List Int×List Int)→Option (List Int×List Int×(List (Int×Int×Int))×Int×List Int):=fun (lit4,dist4,t7,t8,list6,meta_2,o6,m,o7,o8)=>
 (bif (decide (t8<t7)) then (need (decide (0≤t8)&&decide (t8<o7.length)) ((Zgz meta_2 m (o7.getD t8.toNat 0) o6 o8).bind fun (r16,r17)=>
 (again (lit4,dist4,t7,(w64 (t8+1)),list6,meta_2,r16,m,o7,r17)))) else
 (some (lit4,dist4,list6,o6,o8)))
def Za0.l3:=ZaB Za0.l3.step
theorem Za0.l3.succ (n:Nat) t:Za0.l3 (n+1) t=Za0.l3.step (Za0.l3 n) t:=rfl
def Za0.l2.step (again:(List Int×List Int×List Int×Int×Int×(List (Int×Int×Int))×List Int×List Int×Int×List Int)→Option (List Int×List Int×(List (Int×Int×Int))×List Int×List Int×Int×List Int)):(List Int×List Int×List Int×Int×Int×(List (Int×Int×Int))×List Int×List Int×Int×List Int)→Option (List Int×List Int×(List (Int×Int×Int))×List Int×List Int×Int×List Int):=fun (lit2,dist2,t4,t5,t6,list4,all1,meta_,o2,o3)=>
 (bif (decide (t6<t5)) then (need (decide (0≤t6)&&decide (t6<t4.length)) (need (decide (0≤(t4.getD t6.toNat 0))&&decide ((t4.getD t6.toNat 0)<meta_.length)) ((Zfb (meta_.getD ((t4.getD t6.toNat 0).toNat) 0) 3 o2 o3).bind fun (r14,r15)=>
 (again (lit2,dist2,t4,t5,(w64 (t6+1)),list4,all1,meta_,r14,r15))))) else
 (some (lit2,dist2,list4,all1,meta_,o2,o3)))
def Za0.l2:=ZaB Za0.l2.step
theorem Za0.l2.succ (n:Nat) t:Za0.l2 (n+1) t=Za0.l2.step (Za0.l2 n) t:=rfl
def Za0.l1.step (again:(List Int×List Int×Int×Int×(List (Int×Int×Int))×List Int×List Int)→Option (List Int×List Int×(List (Int×Int×Int))×List Int×List Int)):(List Int×List Int×Int×Int×(List (Int×Int×Int))×List Int×List Int)→Option (List Int×List Int×(List (Int×Int×Int))×List Int×List Int):=fun (lit,dist,t2,t3,list2,o1,c)=>
 (bif (decide (t3<t2)) then (need (decide (0≤t3)&&decide (t3<o1.length)) (need (decide (0≤(o1.getD t3.toNat 0))&&decide ((o1.getD t3.toNat 0)<c.length)) (need (decide (0≤(o1.getD t3.toNat 0))&&decide ((o1.getD t3.toNat 0)<c.length)) (again (lit,dist,t2,(w64 (t3+1)),list2,o1,(c.set ((o1.getD t3.toNat 0).toNat) (w64 ((c.getD ((o1.getD t3.toNat 0).toNat) 0)+1)))))))) else
 (some (lit,dist,list2,o1,c)))
def Za0.l1:=ZaB Za0.l1.step
theorem Za0.l1.succ (n:Nat) t:Za0.l1 (n+1) t=Za0.l1.step (Za0.l1 n) t:=rfl
def Za0.l0.step (again:(Bool×Int×Int×(List (Int×Int×Int))×List Int×List Int)→Option (Bool×(List (Int×Int×Int))×List Int×List Int)):(Bool×Int×Int×(List (Int×Int×Int))×List Int×List Int)→Option (Bool×(List (Int×Int×Int))×List Int×List Int):=fun (none_,t,t1,o,a,b)=>
 (bif (decide (t1<t)) then (need (decide (0≤t1)&&decide (t1<o.length)) (bif ((o.getD t1.toNat (0,0,0)).2.1==0) then (need (decide (0≤(o.getD t1.toNat (0,0,0)).1)&&decide ((o.getD t1.toNat (0,0,0)).1<a.length)) (need (decide (0≤(o.getD t1.toNat (0,0,0)).1)&&decide ((o.getD t1.toNat (0,0,0)).1<a.length)) (again (none_,t,(w64 (t1+1)),o,(a.set (((o.getD t1.toNat (0,0,0)).1).toNat) (w64 ((a.getD (((o.getD t1.toNat (0,0,0)).1).toNat) 0)+1))),b)))) else
 ((Zb2).bind fun (r,r1)=>
 ((Zcq r r1 ((o.getD t1.toNat (0,0,0)).2.1)).bind fun find_=>
 (need (decide (0≤(w64 (257+find_)))&&decide ((w64 (257+find_))<a.length)) (need (decide (0≤(w64 (257+find_)))&&decide ((w64 (257+find_))<a.length)) ((Zb5).bind fun (r2,r3)=>
 ((Zcq r2 r3 ((o.getD t1.toNat (0,0,0)).2.2)).bind fun find_1=>
 (need (decide (0≤find_1)&&decide (find_1<b.length)) (need (decide (0≤find_1)&&decide (find_1<b.length)) (again (false,t,(w64 (t1+1)),o,(a.set ((w64 (257+find_)).toNat) (w64 ((a.getD ((w64 (257+find_)).toNat) 0)+1))),(b.set find_1.toNat (w64 ((b.getD find_1.toNat 0)+1))))))))))))))) else
 (some (none_,o,a,b)))
def Za0.l0:=ZaB Za0.l0.step
theorem Za0.l0.succ (n:Nat) t:Za0.l0 (n+1) t=Za0.l0.step (Za0.l0 n) t:=rfl
def Za0 (text:Str):Option (Str):=
 (bif (decide ((text.length:Int)>300)) then (some []) else
 ((Zat text).bind fun TokensOf=>
 (need (decide (0≤286)&&fits 286) (need (decide (0≤30)&&fits 30) (need (decide (0≤(256:Int))&&decide ((256:Int)<(List.replicate 286 (0:Int)).length)) ((Za0.l0 (((TokensOf.length:Int)-(0:Int)).toNat+1) (true,(TokensOf.length:Int),0,TokensOf,((List.replicate 286 (0:Int)).set 256 1),(List.replicate 30 (0:Int)))).bind fun (none_1,list,a1,b1)=>
 (((bif none_1 then (need (decide (0≤(0:Int))&&decide ((0:Int)<b1.length)) (some (list,a1,(b1.set 0 1)))) else
 (some (list,a1,b1))):Option ((List (Int×Int×Int))×List Int×List Int)).bind fun (list1,a2,b2)=>
 ((ZaZ a2 15).bind fun LensOf=>
 ((ZbJ LensOf 257).bind fun trimmed_=>
 ((ZaZ b2 15).bind fun LensOf1=>
 ((ZbJ LensOf1 1).bind fun trimmed_1=>
 (need (fits (([]:List (Int)).length+trimmed_.length)) (need (fits (([]++trimmed_).length+trimmed_1.length)) (need (decide (0≤(([16,17,18,0,8,7,9,6,10,5,11,4,12,3,13,2,14,1,15]:List (Int)).length:Int))&&fits (([16,17,18,0,8,7,9,6,10,5,11,4,12,3,13,2,14,1,15]:List (Int)).length:Int).toNat) ((Za0.l1 ((((([]++trimmed_)++trimmed_1).length:Int)-(0:Int)).toNat+1) (trimmed_,trimmed_1,((([]++trimmed_)++trimmed_1).length:Int),0,list1,(([]++trimmed_)++trimmed_1),(List.replicate (([16,17,18,0,8,7,9,6,10,5,11,4,12,3,13,2,14,1,15]:List (Int)).length:Int).toNat (0:Int)))).bind fun (lit1,dist1,list3,all,c1)=>
 ((ZaZ c1 7).bind fun LensOf2=>
 ((Zfb 1 1 0 []).bind fun (r4,r5)=>
 ((Zfb 2 2 r4 r5).bind fun (r6,r7)=>
 ((Zfb (w64 ((lit1.length:Int)-257)) 5 r6 r7).bind fun (r8,r9)=>
 ((Zfb (w64 ((dist1.length:Int)-1)) 5 r8 r9).bind fun (r10,r11)=>
 ((Zfb (w64 ((([16,17,18,0,8,7,9,6,10,5,11,4,12,3,13,2,14,1,15]:List (Int)).length:Int)-4)) 4 r10 r11).bind fun (r12,r13)=>
 ((Za0.l2 (((([16,17,18,0,8,7,9,6,10,5,11,4,12,3,13,2,14,1,15]:List (Int)).length:Int)-(0:Int)).toNat+1) (lit1,dist1,[16,17,18,0,8,7,9,6,10,5,11,4,12,3,13,2,14,1,15],(([16,17,18,0,8,7,9,6,10,5,11,4,12,3,13,2,14,1,15]:List (Int)).length:Int),0,list3,all,LensOf2,r12,r13)).bind fun (lit3,dist3,list5,all2,meta_1,o4,o5)=>
 ((ZcC meta_1).bind fun codes_=>
 ((Za0.l3 (((all2.length:Int)-(0:Int)).toNat+1) (lit3,dist3,(all2.length:Int),0,list5,meta_1,o4,codes_,all2,o5)).bind fun (lit5,dist5,list7,o9,o10)=>
 ((ZbO list7 lit5 dist5 o9 o10).bind fun (r18,r19)=>
 (some (Zcn r19)))))))))))))))))))))))))))
def Za1.l0.step (again:(Str×Int×Int×List Str)→Option (Str)):(Str×Int×Int×List Str)→Option (Str):=fun (best,t,t1,o)=>
 (bif (decide (t1<t)) then (need (decide (0≤t1)&&decide (t1<o.length)) (bif (decide (((o.getD t1.toNat []).length:Int)<(best.length:Int))) then (again ((o.getD t1.toNat []),t,(w64 (t1+1)),o)) else
 (again (best,t,(w64 (t1+1)),o)))) else
 (some best))
def Za1.l0:=ZaB Za1.l0.step
theorem Za1.l0.succ (n:Nat) t:Za1.l0 (n+1) t=Za1.l0.step (Za1.l0 n) t:=rfl
def Za1 (text:Str):Option (Str):=
 ((ZdC text).bind fun StorePut=>
 ((ZdH text).bind fun FixedPut=>
 ((Za0 text).bind fun OwnPut=>
 ((Za1.l0 (((([FixedPut,OwnPut]:List (Str)).length:Int)-(0:Int)).toNat+1) (StorePut,(([FixedPut,OwnPut]:List (Str)).length:Int),0,[FixedPut,OwnPut])).bind fun best1=>
 (some best1)))))
def ZbT.l0.step (again:(Int×Int×Str×Int×Bool×List Int)→Option (Str×Int×Bool×List Int)):(Int×Int×Str×Int×Bool×List Int)→Option (Str×Int×Bool×List Int):=fun (n1,k,o3,o4,o5,out2)=>
 ((bif (decide (k<n1)) then (bif (!o5) then (some (decide ((out2.length:Int)≤300))) else
 (some false)) else
 (some false)).bind fun c=>
 (bif c then ((Zfe 8 o3 o4 o5).bind fun (r11,r12,r13,r14)=>
 (need (fits (out2.length+([(IntKind.wrap .u8 r11)]:List (Int)).length)) (again (n1,(w64 (k+1)),r12,r13,r14,(out2++[(IntKind.wrap .u8 r11)]))))) else
 (some (o3,o4,o5,out2))))
def ZbT.l0:=ZaB ZbT.l0.step
theorem ZbT.l0.succ (n:Nat) t:ZbT.l0 (n+1) t=ZbT.l0.step (ZbT.l0 n) t:=rfl
def ZbT (s:Str) (at_:Int) (bad:Bool) (out:List Int):Option (Str×Int×Bool×List Int):=
 ((Zep s at_ bad).bind fun (r,r1,r2)=>
 ((Zfe 16 r r1 r2).bind fun (r3,r4,r5,r6)=>
 ((Zfe 16 r4 r5 r6).bind fun (r7,r8,r9,r10)=>
 (((bif (r3 != (w64 (65535-r7))) then (some (r3,r8,r9,true,out)) else
 (some (r3,r8,r9,r10,out))):Option (Int×Str×Int×Bool×List Int)).bind fun (n,o,o1,o2,out1)=>
 ((ZbT.l0 ((n-(0:Int)).toNat+1) (n,0,o,o1,o2,out1)).bind fun (o6,o7,o8,out3)=>
 (some (o6,o7,o8,out3)))))))
def Zau.l1.step (again:(Int×Int×Int×Int×Int×Str×Int×Bool×(List ((Int×Int)×Int))×List Int)→Option (Int×Int×Str×Int×Bool×(List ((Int×Int)×Int))×List Int)):(Int×Int×Int×Int×Int×Str×Int×Bool×(List ((Int×Int)×Int))×List Int)→Option (Int×Int×Str×Int×Bool×(List ((Int×Int)×Int))×List Int):=fun (lit5,dist5,again_1,t3,t4,o17,o18,o19,o20,all2)=>
 (bif (decide (t4<t3)) then (need (fits (all2.length+([again_1]:List (Int)).length)) (again (lit5,dist5,again_1,t3,(w64 (t4+1)),o17,o18,o19,o20,(all2++[again_1])))) else
 (some (lit5,dist5,o17,o18,o19,o20,all2)))
def Zau.l1:=ZaB Zau.l1.step
theorem Zau.l1.succ (n:Nat) t:Zau.l1 (n+1) t=Zau.l1.step (Zau.l1 n) t:=rfl
def Zau.l2.step (again:(Int×Int×Str×Int×Bool×(List ((Int×Int)×Int))×List Int)→Option (Int×Int×Str×Int×Bool×List Int)):(Int×Int×Str×Int×Bool×(List ((Int×Int)×Int))×List Int)→Option (Int×Int×Str×Int×Bool×List Int):=fun (lit3,dist3,o9,o10,o11,o12,all)=>
 ((bif (decide ((all.length:Int)<(w64 (lit3+dist3)))) then (some (!o11)) else
 (some false)).bind fun c2=>
 (bif c2 then ((Zbn o9 o10 o11 o12).bind fun (r16,r17,r18,r19,r20)=>
 (((bif (decide (r16<16)) then (some (lit3,dist3,r16,1,r17,r18,r19,r20,all)) else
 (bif (r16==16) then ((Zfe 2 r17 r18 r19).bind fun (r21,r22,r23,r24)=>
 (bif ((all.length:Int)==0) then (some (lit3,dist3,0,(w64 (3+r21)),r22,r23,true,r20,all)) else
 (need (decide (0≤(w64 ((all.length:Int)-1)))&&decide ((w64 ((all.length:Int)-1))<all.length)) (some (lit3,dist3,(all.getD ((w64 ((all.length:Int)-1)).toNat) 0),(w64 (3+r21)),r22,r23,r24,r20,all))))) else
 (bif (r16==17) then ((Zfe 3 r17 r18 r19).bind fun (r25,r26,r27,r28)=>
 (some (lit3,dist3,0,(w64 (3+r25)),r26,r27,r28,r20,all))) else
 ((Zfe 7 r17 r18 r19).bind fun (r29,r30,r31,r32)=>
 (some (lit3,dist3,0,(w64 (11+r29)),r30,r31,r32,r20,all)))))):Option (Int×Int×Int×Int×Str×Int×Bool×(List ((Int×Int)×Int))×List Int)).bind fun (lit4,dist4,again_,times,o13,o14,o15,o16,all1)=>
 ((Zau.l1 ((times-(0:Int)).toNat+1) (lit4,dist4,again_,times,0,o13,o14,o15,o16,all1)).bind fun (lit6,dist6,o21,o22,o23,o24,all3)=>
 (again (lit6,dist6,o21,o22,o23,o24,all3))))) else
 (some (lit3,dist3,o9,o10,o11,all))))
def Zau.l2:=ZaB Zau.l2.step
theorem Zau.l2.succ (n:Nat) t:Zau.l2 (n+1) t=Zau.l2.step (Zau.l2 n) t:=rfl
def Zau.l0.step (again:(Int×Int×List Int×Int×Int×Str×Int×Bool×List Int)→Option (Int×Int×Str×Int×Bool×List Int)):(Int×Int×List Int×Int×Int×Str×Int×Bool×List Int)→Option (Int×Int×Str×Int×Bool×List Int):=fun (lit1,dist1,t,t1,t2,o3,o4,o5,meta_)=>
 (bif (decide (t2<t1)) then (need (decide (0≤t2)&&decide (t2<t.length)) ((Zfe 3 o3 o4 o5).bind fun (r12,r13,r14,r15)=>
 (need (decide (0≤(t.getD t2.toNat 0))&&decide ((t.getD t2.toNat 0)<meta_.length)) (again (lit1,dist1,t,t1,(w64 (t2+1)),r13,r14,r15,(meta_.set ((t.getD t2.toNat 0).toNat) r12)))))) else
 (some (lit1,dist1,o3,o4,o5,meta_)))
def Zau.l0:=ZaB Zau.l0.step
theorem Zau.l0.succ (n:Nat) t:Zau.l0 (n+1) t=Zau.l0.step (Zau.l0 n) t:=rfl
def Zau (s:Str) (at_:Int) (bad:Bool):Option (List Int×List Int×Str×Int×Bool):=
 ((Zfe 5 s at_ bad).bind fun (r,r1,r2,r3)=>
 ((Zfe 5 r1 r2 r3).bind fun (r4,r5,r6,r7)=>
 ((Zfe 4 r5 r6 r7).bind fun (r8,r9,r10,r11)=>
 ((((bif (decide ((w64 (r+257))>286)) then (some true) else
 (some (decide ((w64 (r4+1))>30)))).bind fun c=>
 (bif c then (some ((w64 (r+257)),(w64 (r4+1)),(w64 (r8+4)),r9,r10,true)) else
 (some ((w64 (r+257)),(w64 (r4+1)),(w64 (r8+4)),r9,r10,r11)))):Option (Int×Int×Int×Str×Int×Bool)).bind fun (lit,dist,many,o,o1,o2)=>
 (need (decide (0≤(([16,17,18,0,8,7,9,6,10,5,11,4,12,3,13,2,14,1,15]:List (Int)).length:Int))&&fits (([16,17,18,0,8,7,9,6,10,5,11,4,12,3,13,2,14,1,15]:List (Int)).length:Int).toNat) (need (decide (0≤many)&&decide (many≤([16,17,18,0,8,7,9,6,10,5,11,4,12,3,13,2,14,1,15]:List (Int)).length)) ((Zau.l0 ((((([16,17,18,0,8,7,9,6,10,5,11,4,12,3,13,2,14,1,15]:List (Int)).take many.toNat).length:Int)-(0:Int)).toNat+1) (lit,dist,(([16,17,18,0,8,7,9,6,10,5,11,4,12,3,13,2,14,1,15]:List (Int)).take many.toNat),((([16,17,18,0,8,7,9,6,10,5,11,4,12,3,13,2,14,1,15]:List (Int)).take many.toNat).length:Int),0,o,o1,o2,(List.replicate (([16,17,18,0,8,7,9,6,10,5,11,4,12,3,13,2,14,1,15]:List (Int)).length:Int).toNat (0:Int)))).bind fun (lit2,dist2,o6,o7,o8,meta_1)=>
 ((bif o8 then (some true) else
 ((Zcf meta_1).bind fun LensOk=>
 (some (!LensOk)))).bind fun c1=>
 (bif c1 then (some ([],[],o6,o7,true)) else
 ((Zck meta_1).bind fun bookOf_=>
 ((Zau.l2 (((w64 (lit2+dist2))-(([]:List Int).length:Int)).toNat+1) (lit2,dist2,o6,o7,o8,bookOf_,[])).bind fun (lit7,dist7,o25,o26,o27,all4)=>
 ((bif ((all4.length:Int) != (w64 (lit7+dist7))) then (some true) else
 (some o27)).bind fun c3=>
 (bif c3 then (some ([],[],o25,o26,true)) else
 (need (decide (0≤lit7)&&decide (lit7≤all4.length)) (need (decide (0≤lit7)&&decide (lit7≤all4.length)) (some (((all4.drop 0).take lit7.toNat),((all4.drop lit7.toNat).take (all4.length-lit7.toNat)),o25,o26,o27)))))))))))))))))
def Zco.l0.step (again:(Str×Int×Bool×List Int×(List ((Int×Int)×Int))×List ((Int×Int)×Int))→Option ((Str×Int×Bool×List Int)⊕(Str×Int×Bool×List Int))):(Str×Int×Bool×List Int×(List ((Int×Int)×Int))×List ((Int×Int)×Int))→Option ((Str×Int×Bool×List Int)⊕(Str×Int×Bool×List Int)):=fun (o,o1,o2,out1,o3,o4)=>
 ((bif (!o2) then (some (decide ((out1.length:Int)≤300))) else
 (some false)).bind fun c1=>
 (bif c1 then ((Zbn o o1 o2 o3).bind fun (r,r1,r2,r3,r4)=>
 ((bif r3 then (some true) else
 (some (r==256))).bind fun c2=>
 (bif c2 then ((some (r1,r2,r3,out1)).map Sum.inr) else
 (bif (decide (r<256)) then (need (fits (out1.length+([(IntKind.wrap .u8 r)]:List (Int)).length)) (again (r1,r2,r3,(out1++[(IntKind.wrap .u8 r)]),r4,o4))) else
 (bif (decide ((w64 (r-257))≥28)) then ((some (r1,r2,true,out1)).map Sum.inr) else
 ((Zb2).bind fun (r5,r6)=>
 (need (decide (0≤(w64 (r-257)))&&decide ((w64 (r-257))<r5.length)) ((Zb2).bind fun (r7,r8)=>
 (need (decide (0≤(w64 (r-257)))&&decide ((w64 (r-257))<r8.length)) ((Zfe (r8.getD (w64 (r-257)).toNat 0) r1 r2 r3).bind fun (r9,r10,r11,r12)=>
 ((Zbn r10 r11 r12 o4).bind fun (r13,r14,r15,r16,r17)=>
 (bif (decide (r13≥30)) then ((some (r14,r15,true,out1)).map Sum.inr) else
 ((Zb5).bind fun (r18,r19)=>
 (need (decide (0≤r13)&&decide (r13<r18.length)) ((Zb5).bind fun (r20,r21)=>
 (need (decide (0≤r13)&&decide (r13<r21.length)) ((Zfe (r21.getD r13.toNat 0) r14 r15 r16).bind fun (r22,r23,r24,r25)=>
 ((add 0 (w64 ((r5.getD (w64 (r-257)).toNat 0)+r9)) (w64 ((r18.getD r13.toNat 0)+r22)) out1).bind fun (r26,r27)=>
 ((bif (!r26) then (some true) else
 (some r25)).bind fun c3=>
 (bif c3 then (none.map Sum.inr) else
 (again (r23,r24,r25,r27,r4,r17)))))))))))))))))))))) else
 (some (.inl (o,o1,o2,out1)))))
def Zco.l0:=ZaB Zco.l0.step
theorem Zco.l0.succ (n:Nat) t:Zco.l0 (n+1) t=Zco.l0.step (Zco.l0 n) t:=rfl
def Zco (lit:List Int) (dist:List Int) (s:Str) (at_:Int) (bad:Bool) (out:List Int):Option (Str×Int×Bool×List Int):=
 ((bif bad then (some true) else
 ((Zcf lit).bind fun LensOk=>
 (bif (!LensOk) then (some true) else
 ((Zcf dist).bind fun LensOk1=>
 (some (!LensOk1)))))).bind fun c=>
 (bif c then (some (s,at_,true,out)) else
 ((Zck lit).bind fun bookOf_=>
 ((Zck dist).bind fun bookOf_1=>
 ((Zco.l0 (100000) (s,at_,bad,out,bookOf_,bookOf_1)).bind fun r=>match r with
 | .inl (o5,o6,o7,out2)=>(some (o5,o6,o7,out2))
 | .inr r=>some r)))))
def Za6.l0.step (again:(Str×Int×Bool×List Int×(List ((Int×Int)×Int))×List ((Int×Int)×Int))→Option ((Str×Int×Bool×List Int)⊕(Str×Int×Bool))):(Str×Int×Bool×List Int×(List ((Int×Int)×Int))×List ((Int×Int)×Int))→Option ((Str×Int×Bool×List Int)⊕(Str×Int×Bool)):=fun (o,o1,o2,out1,o3,o4)=>
 ((bif (!o2) then (some (decide ((out1.length:Int)≤300))) else
 (some false)).bind fun c1=>
 (bif c1 then ((Zbn o o1 o2 o3).bind fun (r,r1,r2,r3,r4)=>
 ((bif r3 then (some true) else
 (some (r==256))).bind fun c2=>
 (bif c2 then ((some (r1,r2,r3)).map Sum.inr) else
 (bif (decide (r<256)) then (need (fits (out1.length+([(IntKind.wrap .u8 r)]:List (Int)).length)) (again (r1,r2,r3,(out1++[(IntKind.wrap .u8 r)]),r4,o4))) else
 (bif (decide ((w64 (r-257))≥28)) then ((some (r1,r2,true)).map Sum.inr) else
 ((Zb2).bind fun (r5,r6)=>
 (need (decide (0≤(w64 (r-257)))&&decide ((w64 (r-257))<r5.length)) ((Zb2).bind fun (r7,r8)=>
 (need (decide (0≤(w64 (r-257)))&&decide ((w64 (r-257))<r8.length)) ((Zfe (r8.getD (w64 (r-257)).toNat 0) r1 r2 r3).bind fun (r9,r10,r11,r12)=>
 ((Zbn r10 r11 r12 o4).bind fun (r13,r14,r15,r16,r17)=>
 (bif (decide (r13≥30)) then ((some (r14,r15,true)).map Sum.inr) else
 ((Zb5).bind fun (r18,r19)=>
 (need (decide (0≤r13)&&decide (r13<r18.length)) ((Zb5).bind fun (r20,r21)=>
 (need (decide (0≤r13)&&decide (r13<r21.length)) ((Zfe (r21.getD r13.toNat 0) r14 r15 r16).bind fun (r22,r23,r24,r25)=>
 ((add 0 (w64 ((r5.getD (w64 (r-257)).toNat 0)+r9)) (w64 ((r18.getD r13.toNat 0)+r22)) out1).bind fun (r26,r27)=>
 ((bif (!r26) then (some true) else
 (some r25)).bind fun c3=>
 (bif c3 then ((some (r23,r24,true)).map Sum.inr) else
 (again (r23,r24,r25,r27,r4,r17)))))))))))))))))))))) else
 (some (.inl (o,o1,o2,out1)))))
def Za6.l0:=ZaB Za6.l0.step
theorem Za6.l0.succ (n:Nat) t:Za6.l0 (n+1) t=Za6.l0.step (Za6.l0 n) t:=rfl
def Za6 (lit:List Int) (dist:List Int) (s:Str) (at_:Int) (bad:Bool) (out:List Int):Option (Str×Int×Bool):=
 ((bif bad then (some true) else
 ((Zcf lit).bind fun LensOk=>
 (bif (!LensOk) then (some true) else
 ((Zcf dist).bind fun LensOk1=>
 (some (!LensOk1)))))).bind fun c=>
 (bif c then (some (s,at_,true)) else
 ((Zck lit).bind fun bookOf_=>
 ((Zck dist).bind fun bookOf_1=>
 ((Za6.l0 (100000) (s,at_,bad,out,bookOf_,bookOf_1)).bind fun r=>match r with
 | .inl (o5,o6,o7,out2)=>(some (o5,o6,o7))
 | .inr r=>some r)))))
def Zbf.l0.step (again:(Bool×Str×Int×Bool×List Int)→Option ((Str×Int×Bool×List Int)⊕(Str×Int×Bool))):(Bool×Str×Int×Bool×List Int)→Option ((Str×Int×Bool×List Int)⊕(Str×Int×Bool)):=fun (last,o,o1,o2,out)=>
 (bif (!last) then ((Zi1 o o1 o2).bind fun (r,r1,r2,r3)=>
 ((Zfe 2 r1 r2 r3).bind fun (r4,r5,r6,r7)=>
 (bif (r4==0) then ((ZbT r5 r6 r7 out).bind fun (r8,r9,r10,r11)=>
 (bif r10 then ((some ([],0,false)).map Sum.inr) else
 (bif (decide ((r11.length:Int)>300)) then ((some ([],0,false)).map Sum.inr) else
 (again ((r==1),r8,r9,r10,r11))))) else
 (bif (r4==1) then ((Zbp).bind fun (r12,r13)=>
 (Zff (Zco r12 r13 r5 r6 r7 out) (fun (r14,r15,r16,r17)=>
 (bif r16 then ((some ([],0,false)).map Sum.inr) else
 (bif (decide ((r17.length:Int)>300)) then ((some ([],0,false)).map Sum.inr) else
 (again ((r==1),r14,r15,r16,r17))))) ((Za6 r12 r13 r5 r6 r7 out).bind fun (r18,r19,r20)=>
 (bif r20 then ((some ([],0,false)).map Sum.inr) else
 none)))) else
 (bif (r4==2) then ((Zau r5 r6 r7).bind fun (r21,r22,r23,r24,r25)=>
 (Zff (Zco r21 r22 r23 r24 r25 out) (fun (r26,r27,r28,r29)=>
 (bif r28 then ((some ([],0,false)).map Sum.inr) else
 (bif (decide ((r29.length:Int)>300)) then ((some ([],0,false)).map Sum.inr) else
 (again ((r==1),r26,r27,r28,r29))))) ((Za6 r21 r22 r23 r24 r25 out).bind fun (r30,r31,r32)=>
 (bif r32 then ((some ([],0,false)).map Sum.inr) else
 none)))) else
 ((some ([],0,false)).map Sum.inr)))))) else
 (some (.inl (o,o1,o2,out))))
def Zbf.l0:=ZaB Zbf.l0.step
theorem Zbf.l0.succ (n:Nat) t:Zbf.l0 (n+1) t=Zbf.l0.step (Zbf.l0 n) t:=rfl
def Zbf (text:Str):Option (Str×Int×Bool):=
 (bif (decide ((text.length:Int)>700)) then (some ([],0,false)) else
 ((Zbf.l0 (100000) (false,text,0,false,[])).bind fun r=>match r with
 | .inl (o3,o4,o5,out1)=>((Zep o3 o4 o5).bind fun (r33,r34,r35)=>
 (bif r35 then (some ([],0,false)) else
 (some ((Zcn out1),(w64 (r34.tdiv 8)),true))))
 | .inr r=>some r))
def ZqE (year:Int) (month:Int):Option (Int):=
 (((bif (month==4) then (some (year,month,(month==4))) else
 (bif (month==6) then (some (year,month,(month==6))) else
 (bif (month==9) then (some (year,month,(month==9))) else
 (some (year,month,(month==11)))))):Option (Int×Int×Bool)).bind fun (year1,t,t1)=>
 (bif t1 then (some 30) else
 (bif (t==2) then ((bif ((year1.tmod 4)==0) then (bif ((year1.tmod 100) != 0) then (some true) else
 (some ((year1.tmod 400)==0))) else
 (some false)).bind fun c=>
 (bif c then (some 29) else
 (some 28))) else
 (some 31))))
def ZdA (y:Int) (mo:Int) (d:Int) (h:Int) (mi:Int) (sec:Int):Option (Bool):=
 (((Zbx y 1980 2107).bind fun within_=>
 (bif within_ then ((Zbx mo 1 12).bind fun within_1=>
 (bif within_1 then ((ZqE y mo).bind fun days_=>
 ((Zbx d 1 days_).bind fun within_2=>
 (bif within_2 then ((Zbx h 0 23).bind fun within_3=>
 (bif within_3 then ((Zbx mi 0 59).bind fun within_4=>
 (bif within_4 then ((Zbx sec 0 58).bind fun within_5=>
 (bif within_5 then (some ((sec.tmod 2)==0)) else
 (some false))) else
 (some false))) else
 (some false))) else
 (some false)))) else
 (some false))) else
 (some false))).bind fun c=>
 (some c))
def Zcs (y:Int) (mo:Int) (d:Int) (h:Int) (mi:Int) (sec:Int):Option (Int):=
 ((ZdA y mo d h mi sec).bind fun StampOk=>
 (bif (!StampOk) then (some (-1)) else
 (some (ior .i64 (ior .i64 (ior .i64 (ior .i64 (ior .i64 (w64 (sec.tdiv 2)) (Zr2 .i64 mi 5)) (Zr2 .i64 h 11)) (Zr2 .i64 d 16)) (Zr2 .i64 mo 21)) (Zr2 .i64 (w64 (y-1980)) 25)))))
def ZdD (n:Int):Option (Int×Int×Int×Int×Int×Int×Bool):=
 (bif (decide (n<0)) then (some (0,0,0,0,0,0,false)) else
 ((Zcs (w64 (1980+(ZkR .i64 (Zm4 .i64 n 25) 127))) (ZkR .i64 (Zm4 .i64 n 21) 15) (ZkR .i64 (Zm4 .i64 n 16) 31) (ZkR .i64 (Zm4 .i64 n 11) 31) (ZkR .i64 (Zm4 .i64 n 5) 63) (w64 ((ZkR .i64 n 31)*2))).bind fun StampPut=>
 (bif (StampPut != n) then (some (0,0,0,0,0,0,false)) else
 (some ((w64 (1980+(ZkR .i64 (Zm4 .i64 n 25) 127))),(ZkR .i64 (Zm4 .i64 n 21) 15),(ZkR .i64 (Zm4 .i64 n 16) 31),(ZkR .i64 (Zm4 .i64 n 11) 31),(ZkR .i64 (Zm4 .i64 n 5) 63),(w64 ((ZkR .i64 n 31)*2)),true)))))
def ZbE (name:Str) (y:Int) (mo:Int) (d:Int) (h:Int) (mi:Int) (sec:Int) (text:Str):Option (Bool):=
 (((ZaN name).bind fun NameOk=>
 (bif NameOk then ((ZdA y mo d h mi sec).bind fun StampOk=>
 (bif StampOk then (some (decide ((text.length:Int)≤300))) else
 (some false))) else
 (some false))).bind fun c=>
 (some c))
def Zbz.l0.step (again:(Int×Int×Int×List Int)→Option (List Int)):(Int×Int×Int×List Int)→Option (List Int):=fun (n1,t,t1,out)=>
 (bif (decide (t1<t)) then (need (fits (out.length+([(IntKind.wrap .u8 (n1.tmod 256))]:List (Int)).length)) (again ((w64 (n1.tdiv 256)),t,(w64 (t1+1)),(out++[(IntKind.wrap .u8 (n1.tmod 256))])))) else
 (some out))
def Zbz.l0:=ZaB Zbz.l0.step
theorem Zbz.l0.succ (n:Nat) t:Zbz.l0 (n+1) t=Zbz.l0.step (Zbz.l0 n) t:=rfl
def Zbz (n:Int) (bytes:Int):Option (Str):=
 ((Zbz.l0 ((bytes-(0:Int)).toNat+1) (n,bytes,0,[])).bind fun out1=>
 (some (Zcn out1)))
def Zbc.l0.step (again:(Str×Int×Int×Int)→Option (Int)):(Str×Int×Int×Int)→Option (Int):=fun (s1,at_1,n,k)=>
 (bif (decide (k≥0)) then (need (decide (0≤(w64 (at_1+k)))&&decide ((w64 (at_1+k))<s1.length)) (again (s1,at_1,(w64 ((w64 (256*n))+(w64 ((s1.getD (w64 (at_1+k)).toNat 0).toNat:Int)))),(w64 (k-1))))) else
 (some n))
def Zbc.l0:=ZaB Zbc.l0.step
theorem Zbc.l0.succ (n:Nat) t:Zbc.l0 (n+1) t=Zbc.l0.step (Zbc.l0 n) t:=rfl
def Zbc (s:Str) (at_:Int) (bytes:Int):Option (Int):=
 ((Zbc.l0 (((w64 (bytes-1))-0).toNat+2) (s,at_,0,(w64 (bytes-1)))).bind fun n1=>
 (some n1))
def Zea (name:Str) (y:Int) (mo:Int) (d:Int) (h:Int) (mi:Int) (sec:Int) (text:Str) (method:Int) (packed:Int):Option (Str):=
 ((Zbz 20 2).bind fun number_=>
 (need (fits (([80,75,3,4]:Str).length+number_.length)) ((Zbz 0 2).bind fun number_1=>
 (need (fits (([80,75,3,4]++number_).length+number_1.length)) ((Zbz method 2).bind fun number_2=>
 (need (fits ((([80,75,3,4]++number_)++number_1).length+number_2.length)) ((Zcs y mo d h mi sec).bind fun StampPut=>
 ((Zbz StampPut 4).bind fun number_3=>
 (need (fits (((([80,75,3,4]++number_)++number_1)++number_2).length+number_3.length)) ((crc text).bind fun Crc=>
 ((Zbz Crc 4).bind fun number_4=>
 (need (fits ((((([80,75,3,4]++number_)++number_1)++number_2)++number_3).length+number_4.length)) ((Zbz packed 4).bind fun number_5=>
 (need (fits (((((([80,75,3,4]++number_)++number_1)++number_2)++number_3)++number_4).length+number_5.length)) ((Zbz (text.length:Int) 4).bind fun number_6=>
 (need (fits ((((((([80,75,3,4]++number_)++number_1)++number_2)++number_3)++number_4)++number_5).length+number_6.length)) ((Zbz (name.length:Int) 2).bind fun number_7=>
 (need (fits (((((((([80,75,3,4]++number_)++number_1)++number_2)++number_3)++number_4)++number_5)++number_6).length+number_7.length)) ((Zbz 0 2).bind fun number_8=>
 (need (fits ((((((((([80,75,3,4]++number_)++number_1)++number_2)++number_3)++number_4)++number_5)++number_6)++number_7).length+number_8.length)) (some ((((((((([80,75,3,4]++number_)++number_1)++number_2)++number_3)++number_4)++number_5)++number_6)++number_7)++number_8))))))))))))))))))))))
def ZdF (name:Str) (y:Int) (mo:Int) (d:Int) (h:Int) (mi:Int) (sec:Int) (text:Str):Option (Str):=
 ((ZbE name y mo d h mi sec text).bind fun EntryOk=>
 (bif (!EntryOk) then (some []) else
 ((Za1 text).bind fun FlatePut=>
 (bif (decide ((FlatePut.length:Int)<(text.length:Int))) then ((Zea name y mo d h mi sec text 8 (FlatePut.length:Int)).bind fun headOf_=>
 (need (fits (headOf_.length+name.length)) (need (fits ((headOf_++name).length+FlatePut.length)) (some ((headOf_++name)++FlatePut))))) else
 ((Zea name y mo d h mi sec text 0 (text.length:Int)).bind fun headOf_1=>
 (need (fits (headOf_1.length+name.length)) (need (fits ((headOf_1++name).length+text.length)) (some ((headOf_1++name)++text)))))))))
def ZdG (text:Str):Option (Str×Int×Int×Int×Int×Int×Int×Str×Int×Bool):=
 (bif (decide ((text.length:Int)<30)) then (some ([],0,0,0,0,0,0,[],0,false)) else
 ((Zbc text 8 2).bind fun numberAt_=>
 ((Zbc text 18 4).bind fun numberAt_1=>
 ((Zbc text 26 2).bind fun numberAt_2=>
 (need (decide (0≤(30:Int))&&decide ((30:Int)≤text.length)) ((bif (decide (((text.drop 30).length:Int)<numberAt_2)) then (some true) else
 (some (decide ((w64 (((text.drop 30).length:Int)-numberAt_2))<numberAt_1)))).bind fun c=>
 (bif c then (some ([],0,0,0,0,0,0,[],0,false)) else
 (need (decide (0≤numberAt_2)&&decide (numberAt_2≤(text.drop 30).length)) (need (decide (0≤(w64 (numberAt_2+numberAt_1)))&&decide ((w64 (numberAt_2+numberAt_1))≤(text.drop 30).length)) (need (decide (0≤numberAt_2)&&decide (numberAt_2≤(w64 (numberAt_2+numberAt_1)))) ((Zbc text 10 4).bind fun numberAt_3=>
 ((ZdD numberAt_3).bind fun (r,r1,r2,r3,r4,r5,r6)=>
 (((bif (numberAt_==0) then (some (.inl (text,numberAt_,numberAt_1,numberAt_2,[],0,0,0,0,0,0,[],((text.drop 30).take numberAt_2.toNat),r,r1,r2,r3,r4,r5,(((text.drop 30).take (w64 (numberAt_2+numberAt_1)).toNat).drop numberAt_2.toNat)))) else
 (bif (numberAt_==8) then ((Zbf (((text.drop 30).take (w64 (numberAt_2+numberAt_1)).toNat).drop numberAt_2.toNat)).bind fun (r7,r8,r9)=>
 ((bif (!r9) then (some true) else
 (some (r8 != numberAt_1))).bind fun c1=>
 (bif c1 then ((some ([],0,0,0,0,0,0,[],0,false)).map Sum.inr) else
 (some (.inl (text,numberAt_,numberAt_1,numberAt_2,[],0,0,0,0,0,0,[],((text.drop 30).take numberAt_2.toNat),r,r1,r2,r3,r4,r5,r7)))))) else
 ((some ([],0,0,0,0,0,0,[],0,false)).map Sum.inr))):Option ((Str×Int×Int×Int×Str×Int×Int×Int×Int×Int×Int×Str×Str×Int×Int×Int×Int×Int×Int×Str)⊕(Str×Int×Int×Int×Int×Int×Int×Str×Int×Bool))).bind fun r=>match r with
 | .inl (text1,method,packed,name,o,o1,o2,o3,o4,o5,o6,o7,o8,o9,o10,o11,o12,o13,o14,o15)=>(((ZbE o8 o9 o10 o11 o12 o13 o14 o15).bind fun EntryOk=>
 (bif (!EntryOk) then (some true) else
 ((Zea o8 o9 o10 o11 o12 o13 o14 o15 method packed).bind fun headOf_=>
 (need (decide (0≤(30:Int))&&decide ((30:Int)≤text1.length)) (some (!(headOf_==(text1.take 30)))))))).bind fun c2=>
 (bif c2 then (some ([],0,0,0,0,0,0,[],0,false)) else
 (some (o8,o9,o10,o11,o12,o13,o14,o15,(w64 ((w64 (30+name))+packed)),true))))
 | .inr r=>some r)))))))))))))
def joinS (xs:List Str) (sep:Str):Option (Str):=need (fits xs.length&&fits (ZtD xs sep).length) (some (ZtD xs sep))
def Zbu.l0.step (again:((List (Str×Int×Int×Int×Int×Int×Int×Str))×Int×Int×List Str)→Option (List Str)):((List (Str×Int×Int×Int×Int×Int×Int×Str))×Int×Int×List Str)→Option (List Str):=fun (t,t1,t2,out)=>
 (bif (decide (t2<t1)) then (need (decide (0≤t2)&&decide (t2<t.length)) (need (fits (out.length+([(t.getD t2.toNat ([],0,0,0,0,0,0,[])).1]:List (Str)).length)) (again (t,t1,(w64 (t2+1)),(out++[(t.getD t2.toNat ([],0,0,0,0,0,0,[])).1]))))) else
 (some out))
def Zbu.l0:=ZaB Zbu.l0.step
theorem Zbu.l0.succ (n:Nat) t:Zbu.l0 (n+1) t=Zbu.l0.step (Zbu.l0 n) t:=rfl
def Zbu (list:List (Str×Int×Int×Int×Int×Int×Int×Str)):Option (List Str):=
 ((Zbu.l0 (((list.length:Int)-(0:Int)).toNat+1) (list,(list.length:Int),0,[])).bind fun out1=>
 (some out1))
def Zee.l0.step (again:((List (Str×Int×Int×Int×Int×Int×Int×Str))×(List (Str×Int×Int×Int×Int×Int×Int×Str))×Int×Int)→Option ((List (Str×Int×Int×Int×Int×Int×Int×Str))⊕(Bool))):((List (Str×Int×Int×Int×Int×Int×Int×Str))×(List (Str×Int×Int×Int×Int×Int×Int×Str))×Int×Int)→Option ((List (Str×Int×Int×Int×Int×Int×Int×Str))⊕(Bool)):=fun (list1,t,t1,t2)=>
 (bif (decide (t2<t1)) then (need (decide (0≤t2)&&decide (t2<t.length)) ((ZbE ((t.getD t2.toNat ([],0,0,0,0,0,0,[])).1) ((t.getD t2.toNat ([],0,0,0,0,0,0,[])).2.1) ((t.getD t2.toNat ([],0,0,0,0,0,0,[])).2.2.1) ((t.getD t2.toNat ([],0,0,0,0,0,0,[])).2.2.2.1) ((t.getD t2.toNat ([],0,0,0,0,0,0,[])).2.2.2.2.1) ((t.getD t2.toNat ([],0,0,0,0,0,0,[])).2.2.2.2.2.1) ((t.getD t2.toNat ([],0,0,0,0,0,0,[])).2.2.2.2.2.2.1) ((t.getD t2.toNat ([],0,0,0,0,0,0,[])).2.2.2.2.2.2.2)).bind fun EntryOk=>
 (bif (!EntryOk) then ((some false).map Sum.inr) else
 (again (list1,t,t1,(w64 (t2+1))))))) else
 (some (.inl list1)))
def Zee.l0:=ZaB Zee.l0.step
theorem Zee.l0.succ (n:Nat) t:Zee.l0 (n+1) t=Zee.l0.step (Zee.l0 n) t:=rfl
def Zee (list:List (Str×Int×Int×Int×Int×Int×Int×Str)):Option (Bool):=
 ((Zee.l0 (((list.length:Int)-(0:Int)).toNat+1) (list,list,(list.length:Int),0)).bind fun r=>match r with
 | .inl list2=>(bif (decide ((list2.length:Int)≤6)) then ((Zbu list2).bind fun namesOf_=>
 ((ZcG namesOf_).bind fun apart_=>
 (some apart_))) else
 (some false))
 | .inr r=>some r)
def ZbL.l0.step (again:(List Str×Str×Int×List Str×Int×Int)→Option (List Str×Str×Int)):(List Str×Str×Int×List Str×Int×Int)→Option (List Str×Str×Int):=fun (locals1,heads,at_,t,t1,t2)=>
 (bif (decide (t2<t1)) then (need (decide (0≤t2)&&decide (t2<t.length)) ((Zbc (t.getD t2.toNat []) 26 2).bind fun numberAt_=>
 ((Zbz 20 2).bind fun number_=>
 (need (fits (([80,75,1,2]:Str).length+number_.length)) (need (decide (0≤(30:Int))&&decide ((30:Int)≤(t.getD t2.toNat []).length)) (need (decide (0≤(4:Int))&&decide ((4:Int)≤(30:Int))) (need (fits (([80,75,1,2]++number_).length+(((t.getD t2.toNat []).take 30).drop 4).length)) ((Zbz 0 10).bind fun number_1=>
 (need (fits ((([80,75,1,2]++number_)++(((t.getD t2.toNat []).take 30).drop 4)).length+number_1.length)) ((Zbz at_ 4).bind fun number_2=>
 (need (fits (((([80,75,1,2]++number_)++(((t.getD t2.toNat []).take 30).drop 4))++number_1).length+number_2.length)) (need (decide (0≤(w64 (30+numberAt_)))&&decide ((w64 (30+numberAt_))≤(t.getD t2.toNat []).length)) (need (decide (0≤(30:Int))&&decide ((30:Int)≤(w64 (30+numberAt_)))) (need (fits ((((([80,75,1,2]++number_)++(((t.getD t2.toNat []).take 30).drop 4))++number_1)++number_2).length+(((t.getD t2.toNat []).take (w64 (30+numberAt_)).toNat).drop 30).length)) (need (fits (heads.length+((((([80,75,1,2]++number_)++(((t.getD t2.toNat []).take 30).drop 4))++number_1)++number_2)++(((t.getD t2.toNat []).take (w64 (30+numberAt_)).toNat).drop 30)).length)) (again (locals1,(heads++((((([80,75,1,2]++number_)++(((t.getD t2.toNat []).take 30).drop 4))++number_1)++number_2)++(((t.getD t2.toNat []).take (w64 (30+numberAt_)).toNat).drop 30))),(w64 (at_+((t.getD t2.toNat []).length:Int))),t,t1,(w64 (t2+1))))))))))))))))))) else
 (some (locals1,heads,at_)))
def ZbL.l0:=ZaB ZbL.l0.step
theorem ZbL.l0.succ (n:Nat) t:ZbL.l0 (n+1) t=ZbL.l0.step (ZbL.l0 n) t:=rfl
def ZbL (locals:List Str):Option (Str):=
 ((ZbL.l0 (((locals.length:Int)-(0:Int)).toNat+1) (locals,[],0,locals,(locals.length:Int),0)).bind fun (locals2,heads1,at_1)=>
 ((Zbz (locals2.length:Int) 2).bind fun number_3=>
 (need (fits (heads1.length+([80,75,5,6]:Str).length)) ((Zbz 0 4).bind fun number_4=>
 (need (fits ((heads1++[80,75,5,6]).length+number_4.length)) (need (fits (((heads1++[80,75,5,6])++number_4).length+number_3.length)) (need (fits ((((heads1++[80,75,5,6])++number_4)++number_3).length+number_3.length)) ((Zbz (heads1.length:Int) 4).bind fun number_5=>
 (need (fits (((((heads1++[80,75,5,6])++number_4)++number_3)++number_3).length+number_5.length)) ((Zbz at_1 4).bind fun number_6=>
 (need (fits ((((((heads1++[80,75,5,6])++number_4)++number_3)++number_3)++number_5).length+number_6.length)) ((Zbz 0 2).bind fun number_7=>
 (need (fits (((((((heads1++[80,75,5,6])++number_4)++number_3)++number_3)++number_5)++number_6).length+number_7.length)) (some (((((((heads1++[80,75,5,6])++number_4)++number_3)++number_3)++number_5)++number_6)++number_7)))))))))))))))
def ZbH.l0.step (again:((List (Str×Int×Int×Int×Int×Int×Int×Str))×Int×Int×List Str)→Option (List Str)):((List (Str×Int×Int×Int×Int×Int×Int×Str))×Int×Int×List Str)→Option (List Str):=fun (t,t1,t2,locals)=>
 (bif (decide (t2<t1)) then (need (decide (0≤t2)&&decide (t2<t.length)) ((ZdF ((t.getD t2.toNat ([],0,0,0,0,0,0,[])).1) ((t.getD t2.toNat ([],0,0,0,0,0,0,[])).2.1) ((t.getD t2.toNat ([],0,0,0,0,0,0,[])).2.2.1) ((t.getD t2.toNat ([],0,0,0,0,0,0,[])).2.2.2.1) ((t.getD t2.toNat ([],0,0,0,0,0,0,[])).2.2.2.2.1) ((t.getD t2.toNat ([],0,0,0,0,0,0,[])).2.2.2.2.2.1) ((t.getD t2.toNat ([],0,0,0,0,0,0,[])).2.2.2.2.2.2.1) ((t.getD t2.toNat ([],0,0,0,0,0,0,[])).2.2.2.2.2.2.2)).bind fun LocalPut=>
 (need (fits (locals.length+([LocalPut]:List (Str)).length)) (again (t,t1,(w64 (t2+1)),(locals++[LocalPut])))))) else
 (some locals))
def ZbH.l0:=ZaB ZbH.l0.step
theorem ZbH.l0.succ (n:Nat) t:ZbH.l0 (n+1) t=ZbH.l0.step (ZbH.l0 n) t:=rfl
def ZbH (list:List (Str×Int×Int×Int×Int×Int×Int×Str)):Option (Str):=
 ((Zee list).bind fun ZipOk=>
 (bif (!ZipOk) then (some []) else
 ((ZbH.l0 (((list.length:Int)-(0:Int)).toNat+1) (list,(list.length:Int),0,[])).bind fun locals1=>
 ((joinS locals1 []).bind fun Join=>
 ((ZbL locals1).bind fun closing_=>
 (need (fits (Join.length+closing_.length)) (some (Join++closing_))))))))
def Zbv.l0.step (again:(Str×(List (Str×Int×Int×Int×Int×Int×Int×Str))×List Str)→Option (Str×(List (Str×Int×Int×Int×Int×Int×Int×Str))×List Str)):(Str×(List (Str×Int×Int×Int×Int×Int×Int×Str))×List Str)→Option (Str×(List (Str×Int×Int×Int×Int×Int×Int×Str))×List Str):=fun (rest,out,locals)=>
 (bif (decide ((out.length:Int)<6)) then ((ZdG rest).bind fun (r,r1,r2,r3,r4,r5,r6,r7,r8,r9)=>
 (bif (!r9) then (some (rest,out,locals)) else
 (need (fits (out.length+([(r,r1,r2,r3,r4,r5,r6,r7)]:List (Str×Int×Int×Int×Int×Int×Int×Str)).length)) (need (decide (0≤r8)&&decide (r8≤rest.length)) (need (fits (locals.length+([(rest.take r8.toNat)]:List (Str)).length)) (need (decide (0≤r8)&&decide (r8≤rest.length)) (again ((rest.drop r8.toNat),(out++[(r,r1,r2,r3,r4,r5,r6,r7)]),(locals++[(rest.take r8.toNat)]))))))))) else
 (some (rest,out,locals)))
def Zbv.l0:=ZaB Zbv.l0.step
theorem Zbv.l0.succ (n:Nat) t:Zbv.l0 (n+1) t=Zbv.l0.step (Zbv.l0 n) t:=rfl
def Zbv (text:Str):Option (Bool×List (Str×Int×Int×Int×Int×Int×Int×Str)):=
 ((Zbv.l0 ((6-(([]:List (Str×Int×Int×Int×Int×Int×Int×Str)).length:Int)).toNat+1) (text,[],[])).bind fun (rest1,out1,locals1)=>
 (((Zee out1).bind fun ZipOk=>
 (bif (!ZipOk) then (some true) else
 ((ZbL locals1).bind fun closing_=>
 (some (!(rest1==closing_)))))).bind fun c=>
 (bif c then (some (false,[])) else
 (some (true,out1)))))
def Zb8.l0.step (again:(Str×Int×Int×List (Str×Int×Int×Int×Int×Int×Int×Str))→Option ((Unit)⊕(Str×Bool))):(Str×Int×Int×List (Str×Int×Int×Int×Int×Int×Int×Str))→Option ((Unit)⊕(Str×Bool)):=fun (name1,t,t1,o)=>
 (bif (decide (t1<t)) then (need (decide (0≤t1)&&decide (t1<o.length)) (bif ((o.getD t1.toNat ([],0,0,0,0,0,0,[])).1==name1) then ((some ((o.getD t1.toNat ([],0,0,0,0,0,0,[])).2.2.2.2.2.2.2,true)).map Sum.inr) else
 (again (name1,t,(w64 (t1+1)),o)))) else
 (some (.inl ())))
def Zb8.l0:=ZaB Zb8.l0.step
theorem Zb8.l0.succ (n:Nat) t:Zb8.l0 (n+1) t=Zb8.l0.step (Zb8.l0 n) t:=rfl
def Zb8 (text:Str) (name:Str):Option (Str×Bool):=
 ((Zbv text).bind fun (r,r1)=>
 ((Zb8.l0 (((r1.length:Int)-(0:Int)).toNat+1) (name,(r1.length:Int),0,r1)).bind fun r=>match r with
 | .inl _=>(some ([],false))
 | .inr r=>some r))
def ZdI (name:Str) (y:Int) (mo:Int) (d:Int) (h:Int) (mi:Int) (sec:Int) (text:Str) (list:List (Str×Int×Int×Int×Int×Int×Int×Str)):Option (Int×List (Str×Int×Int×Int×Int×Int×Int×Str)):=
 ((ZbE name y mo d h mi sec text).bind fun EntryOk=>
 (bif (!EntryOk) then (some (1,[])) else
 ((Zbu list).bind fun namesOf_=>
 (need (fits (namesOf_.length+([name]:List (Str)).length)) ((ZcG (namesOf_++[name])).bind fun apart_=>
 (bif (!apart_) then (some (3,[])) else
 (bif ((list.length:Int)==6) then (some (4,[])) else
 (need (fits (list.length+([(name,y,mo,d,h,mi,sec,text)]:List (Str×Int×Int×Int×Int×Int×Int×Str)).length)) (some (0,(list++[(name,y,mo,d,h,mi,sec,text)])))))))))))
def ZkW (ename:Str) (ey:Int) (emo:Int) (ed:Int) (eh:Int) (emi:Int) (esec:Int) (etext:Str) (name:Str):Option (Bool×Str):=
 (some ((ename==name),name))
def Za7.l0.step (again:((List (Str×Int×Int×Int×Int×Int×Int×Str))×Int×Int×Str)→Option ((Str)⊕(Int×Str))):((List (Str×Int×Int×Int×Int×Int×Int×Str))×Int×Int×Str)→Option ((Str)⊕(Int×Str)):=fun (s,t,t1,o)=>
 (bif (decide (t1<t)) then (need (decide (0≤t1)&&decide (t1<s.length)) ((ZkW ((s.getD t1.toNat ([],0,0,0,0,0,0,[])).1) ((s.getD t1.toNat ([],0,0,0,0,0,0,[])).2.1) ((s.getD t1.toNat ([],0,0,0,0,0,0,[])).2.2.1) ((s.getD t1.toNat ([],0,0,0,0,0,0,[])).2.2.2.1) ((s.getD t1.toNat ([],0,0,0,0,0,0,[])).2.2.2.2.1) ((s.getD t1.toNat ([],0,0,0,0,0,0,[])).2.2.2.2.2.1) ((s.getD t1.toNat ([],0,0,0,0,0,0,[])).2.2.2.2.2.2.1) ((s.getD t1.toNat ([],0,0,0,0,0,0,[])).2.2.2.2.2.2.2) o).bind fun (r,r1)=>
 (bif r then ((some (t1,r1)).map Sum.inr) else
 (again (s,t,(w64 (t1+1)),r1))))) else
 (some (.inl o)))
def Za7.l0:=ZaB Za7.l0.step
theorem Za7.l0.succ (n:Nat) t:Za7.l0 (n+1) t=Za7.l0.step (Za7.l0 n) t:=rfl
def Za7 (list:List (Str×Int×Int×Int×Int×Int×Int×Str)) (name:Str):Option (Int×Str):=
 ((Za7.l0 (((list.length:Int)-(0:Int)).toNat+1) (list,(list.length:Int),0,name)).bind fun r=>match r with
 | .inl o1=>(some ((-1),o1))
 | .inr r=>some r)
def find (list:List (Str×Int×Int×Int×Int×Int×Int×Str)) (name:Str):Option (Int):=
 ((Za7 list name).bind fun (r,r1)=>
 (some r))
def Zh8 (i:Int) (j:Int) (list:List (Str×Int×Int×Int×Int×Int×Int×Str)):Option (List (Str×Int×Int×Int×Int×Int×Int×Str)):=need (decide (0≤i)&&(decide (i≤j)&&decide (j≤list.length))) (some (list.take i.toNat++list.drop j.toNat))
def ZeU (name:Str) (y:Int) (mo:Int) (d:Int) (h:Int) (mi:Int) (sec:Int) (text:Str) (list:List (Str×Int×Int×Int×Int×Int×Int×Str)):Option (Int×Str×Int×Int×Int×Int×Int×Int×Str×List (Str×Int×Int×Int×Int×Int×Int×Str)):=
 ((ZdI name y mo d h mi sec text list).bind fun (r,r1)=>
 (some (r,name,y,mo,d,h,mi,sec,text,r1)))
def ZdP (name:Str) (y:Int) (mo:Int) (d:Int) (h:Int) (mi:Int) (sec:Int) (text:Str) (list:List (Str×Int×Int×Int×Int×Int×Int×Str)):Option (Int×Str×Int×Int×Int×Int×Int×Int×Str×List (Str×Int×Int×Int×Int×Int×Int×Str)):=
 ((find list name).bind fun find_=>
 ((ZbE name y mo d h mi sec text).bind fun EntryOk=>
 (bif (!EntryOk) then (some (1,name,y,mo,d,h,mi,sec,text,[])) else
 (bif (decide (find_<0)) then (some (2,name,y,mo,d,h,mi,sec,text,[])) else
 (need (decide (0≤find_)&&decide (find_<list.length)) (some (0,name,y,mo,d,h,mi,sec,text,(list.set find_.toNat (name,y,mo,d,h,mi,sec,text)))))))))
def ZdT (name:Str) (list:List (Str×Int×Int×Int×Int×Int×Int×Str)):Option (Int×Str×List (Str×Int×Int×Int×Int×Int×Int×Str)):=
 ((find list name).bind fun find_=>
 (bif (decide (find_<0)) then (some (2,name,[])) else
 ((Zh8 find_ (w64 (find_+1)) list).bind fun Entry=>
 (some (0,name,Entry)))))
def ZdQ (name:Str) (to_:Str) (list:List (Str×Int×Int×Int×Int×Int×Int×Str)):Option (Int×Str×Str×List (Str×Int×Int×Int×Int×Int×Int×Str)):=
 ((find list name).bind fun find_=>
 ((ZaN to_).bind fun NameOk=>
 (bif (!NameOk) then (some (1,name,to_,[])) else
 (bif (decide (find_<0)) then (some (2,name,to_,[])) else
 (need (decide (0≤find_)&&decide (find_<list.length)) ((Zbu (list.set find_.toNat (to_,(list.getD find_.toNat ([],0,0,0,0,0,0,[])).2.1,(list.getD find_.toNat ([],0,0,0,0,0,0,[])).2.2.1,(list.getD find_.toNat ([],0,0,0,0,0,0,[])).2.2.2.1,(list.getD find_.toNat ([],0,0,0,0,0,0,[])).2.2.2.2.1,(list.getD find_.toNat ([],0,0,0,0,0,0,[])).2.2.2.2.2.1,(list.getD find_.toNat ([],0,0,0,0,0,0,[])).2.2.2.2.2.2.1,(list.getD find_.toNat ([],0,0,0,0,0,0,[])).2.2.2.2.2.2.2))).bind fun namesOf_=>
 ((ZcG namesOf_).bind fun apart_=>
 (bif (!apart_) then (some (3,name,to_,[])) else
 (some (0,name,to_,(list.set find_.toNat (to_,(list.getD find_.toNat ([],0,0,0,0,0,0,[])).2.1,(list.getD find_.toNat ([],0,0,0,0,0,0,[])).2.2.1,(list.getD find_.toNat ([],0,0,0,0,0,0,[])).2.2.2.1,(list.getD find_.toNat ([],0,0,0,0,0,0,[])).2.2.2.2.1,(list.getD find_.toNat ([],0,0,0,0,0,0,[])).2.2.2.2.2.1,(list.getD find_.toNat ([],0,0,0,0,0,0,[])).2.2.2.2.2.2.1,(list.getD find_.toNat ([],0,0,0,0,0,0,[])).2.2.2.2.2.2.2))))))))))))
def ZcU (text:Str) (name:Str) (y:Int) (mo:Int) (d:Int) (h:Int) (mi:Int) (sec:Int) (text1:Str):Option (Str×Int×Str×Int×Int×Int×Int×Int×Int×Str):=
 ((Zbv text).bind fun (r,r1)=>
 (bif (!r) then (some ([],1,name,y,mo,d,h,mi,sec,text1)) else
 ((ZeU name y mo d h mi sec text1 r1).bind fun (r2,r3,r4,r5,r6,r7,r8,r9,r10,r11)=>
 (bif (r2 != 0) then (some (text,r2,r3,r4,r5,r6,r7,r8,r9,r10)) else
 ((ZbH r11).bind fun ZipPut=>
 (some (ZipPut,0,r3,r4,r5,r6,r7,r8,r9,r10)))))))
def Zcb (text:Str) (name:Str) (y:Int) (mo:Int) (d:Int) (h:Int) (mi:Int) (sec:Int) (text1:Str):Option (Str×Int×Str×Int×Int×Int×Int×Int×Int×Str):=
 ((Zbv text).bind fun (r,r1)=>
 (bif (!r) then (some ([],1,name,y,mo,d,h,mi,sec,text1)) else
 ((ZdP name y mo d h mi sec text1 r1).bind fun (r2,r3,r4,r5,r6,r7,r8,r9,r10,r11)=>
 (bif (r2 != 0) then (some (text,r2,r3,r4,r5,r6,r7,r8,r9,r10)) else
 ((ZbH r11).bind fun ZipPut=>
 (some (ZipPut,0,r3,r4,r5,r6,r7,r8,r9,r10)))))))
def Zcd (text:Str) (name:Str):Option (Str×Int×Str):=
 ((Zbv text).bind fun (r,r1)=>
 (bif (!r) then (some ([],1,name)) else
 ((ZdT name r1).bind fun (r2,r3,r4)=>
 (bif (r2 != 0) then (some (text,r2,r3)) else
 ((ZbH r4).bind fun ZipPut=>
 (some (ZipPut,0,r3)))))))
def Zcc (text:Str) (name:Str) (to_:Str):Option (Str×Int×Str×Str):=
 ((Zbv text).bind fun (r,r1)=>
 (bif (!r) then (some ([],1,name,to_)) else
 ((ZdQ name to_ r1).bind fun (r2,r3,r4,r5)=>
 (bif (r2 != 0) then (some (text,r2,r3,r4)) else
 ((ZbH r5).bind fun ZipPut=>
 (some (ZipPut,0,r3,r4)))))))
def Zgg (text:Str) (ename:Str) (ey:Int) (emo:Int) (ed:Int) (eh:Int) (emi:Int) (esec:Int) (etext:Str):Option (Str×Int):=
 (Zff (ZcU text ename ey emo ed eh emi esec etext) (fun (r,r1,r2,r3,r4,r5,r6,r7,r8,r9)=>
 (some (r,r1))) none)
def Zev (text:Str) (ename:Str) (ey:Int) (emo:Int) (ed:Int) (eh:Int) (emi:Int) (esec:Int) (etext:Str):Option (Str×Int):=
 (Zff (Zcb text ename ey emo ed eh emi esec etext) (fun (r,r1,r2,r3,r4,r5,r6,r7,r8,r9)=>
 (some (r,r1))) none)
def Zex (text:Str) (name:Str):Option (Str×Int):=
 (Zff (Zcd text name) (fun (r,r1,r2)=>
 (some (r,r1))) none)
def Zew (text:Str) (name:Str) (to_:Str):Option (Str×Int):=
 (Zff (Zcc text name to_) (fun (r,r1,r2,r3)=>
 (some (r,r1))) none)
def itoa (n:Int):Option (Str):=ZAE n
def Zeg (s:Str):Option (Int):=
 ((some (([10]:Str)==s)).bind fun c=>
 (bif c then (some 0) else
 ((Zbm s 10).bind fun IndexByt=>
 (some IndexByt))))
def ZdL (s:Str):Option (Int):=
 ((some (([32]:Str)==s)).bind fun c=>
 (bif c then (some 0) else
 ((Zbm s 32).bind fun IndexByt=>
 (some IndexByt))))
def ZmY:Nat→Int→Option (Str)
 | 0,_=>none
 | k_+1,n=>
 (bif (decide (n<(-9223372036854775807))) then (some [45,57,50,50,51,51,55,50,48,51,54,56,53,52,55,55,53,56,48,56]) else
 (bif (decide (n<0)) then ((ZmY k_ (w64 (0-n))).bind fun l1Dec_=>
 (need (fits (([45]:Str).length+l1Dec_.length)) (some ([45]++l1Dec_)))) else
 (bif (decide (n<10)) then (some (Zcn [(IntKind.wrap .u8 (w64 (48+n)))])) else
 ((ZmY k_ (w64 (n.tdiv 10))).bind fun l1Dec_1=>
 (need (fits (l1Dec_1.length+(Zcn [(IntKind.wrap .u8 (w64 (48+(n.tmod 10))))]).length)) (some (l1Dec_1++(Zcn [(IntKind.wrap .u8 (w64 (48+(n.tmod 10))))]))))))))
def ZeO (n:Int):Option (Str):=ZmY 30 n
def ZcT.l0.step (again:(Int×Int)→Option (Int)):(Int×Int)→Option (Int):=fun (n1,out)=>
 (bif (decide (n1>0)) then (again ((w64 (n1-1)),(w64 (2*out)))) else
 (some out))
def ZcT.l0:=ZaB ZcT.l0.step
theorem ZcT.l0.succ (n:Nat) t:ZcT.l0 (n+1) t=ZcT.l0.step (ZcT.l0 n) t:=rfl
def ZcT (n:Int):Option (Int):=
 ((ZcT.l0 ((n-0).toNat+1) (n,1)).bind fun out1=>
 (some out1))
def Zel.l0.step (again:(Int×Int×Int×Int×Int×List Int)→Option (Int×Int×List Int)):(Int×Int×Int×Int×Int×List Int)→Option (Int×Int×List Int):=fun (num1,bits1,k,o,o1,o2)=>
 (bif (decide (k<bits1)) then ((ZcT o1).bind fun l1Pow_=>
 (bif ((w64 (o1+1))==8) then (need (fits (o2.length+([(IntKind.wrap .u8 (w64 (o+(w64 ((num1.tmod 2)*l1Pow_)))))]:List (Int)).length)) (again ((w64 (num1.tdiv 2)),bits1,(w64 (k+1)),0,0,(o2++[(IntKind.wrap .u8 (w64 (o+(w64 ((num1.tmod 2)*l1Pow_)))))])))) else
 (again ((w64 (num1.tdiv 2)),bits1,(w64 (k+1)),(w64 (o+(w64 ((num1.tmod 2)*l1Pow_)))),(w64 (o1+1)),o2)))) else
 (some (o,o1,o2)))
def Zel.l0:=ZaB Zel.l0.step
theorem Zel.l0.succ (n:Nat) t:Zel.l0 (n+1) t=Zel.l0.step (Zel.l0 n) t:=rfl
def Zel (num:Int) (bits:Int) (last:Int) (fill:Int) (text:List Int):Option (Int×Int×List Int):=
 ((Zel.l0 ((bits-(0:Int)).toNat+1) (num,bits,0,last,fill,text)).bind fun (o3,o4,o5)=>
 (some (o3,o4,o5)))
def ZdJ (last:Int) (fill:Int) (text:List Int):Option (Int×Int×List Int):=
 (bif (decide (fill>0)) then ((Zel 0 (w64 (8-fill)) last fill text).bind fun (r,r1,r2)=>
 (some (r,r1,r2))) else
 (some (last,fill,text)))
def Zkv (s:Str) (at_:Int) (bad:Bool):Option (Int×Str×Int×Bool):=
 (bif (decide (at_≥(w64 (8*(s.length:Int))))) then (some (0,s,at_,true)) else
 (need (decide (0≤(w64 (at_.tdiv 8)))&&decide ((w64 (at_.tdiv 8))<s.length)) ((ZcT (at_.tmod 8)).bind fun l1Pow_=>
 (need (l1Pow_ != 0) (some (((w64 ((w64 ((s.getD (w64 (at_.tdiv 8)).toNat 0).toNat:Int)).tdiv l1Pow_)).tmod 2),s,(w64 (at_+1)),bad))))))
def Zfr.l0.step (again:(Int×Int×Int×Str×Int×Bool)→Option (Int×Str×Int×Bool)):(Int×Int×Int×Str×Int×Bool)→Option (Int×Str×Int×Bool):=fun (bits1,n,k,o,o1,o2)=>
 (bif (decide (k<bits1)) then ((Zkv o o1 o2).bind fun (r,r1,r2,r3)=>
 ((ZcT k).bind fun l1Pow_=>
 (again (bits1,(w64 (n+(w64 (r*l1Pow_)))),(w64 (k+1)),r1,r2,r3)))) else
 (some (n,o,o1,o2)))
def Zfr.l0:=ZaB Zfr.l0.step
theorem Zfr.l0.succ (n:Nat) t:Zfr.l0 (n+1) t=Zfr.l0.step (Zfr.l0 n) t:=rfl
def Zfr (bits:Int) (s:Str) (at_:Int) (bad:Bool):Option (Int×Str×Int×Bool):=
 ((Zfr.l0 ((bits-(0:Int)).toNat+1) (bits,0,0,s,at_,bad)).bind fun (n1,o3,o4,o5)=>
 (some (n1,o3,o4,o5)))
def ZcX.l0.step (again:(Int×Str×Int×Bool)→Option (Int×Str×Int×Bool)):(Int×Str×Int×Bool)→Option (Int×Str×Int×Bool):=fun (n,o,o1,o2)=>
 (bif ((o1.tmod 8) != 0) then ((Zkv o o1 o2).bind fun (r,r1,r2,r3)=>
 (again ((w64 (n+r)),r1,r2,r3))) else
 (some (n,o,o1,o2)))
def ZcX.l0:=ZaB ZcX.l0.step
theorem ZcX.l0.succ (n:Nat) t:ZcX.l0 (n+1) t=ZcX.l0.step (ZcX.l0 n) t:=rfl
def ZcX (s:Str) (at_:Int) (bad:Bool):Option (Bool×Str×Int×Bool):=
 ((ZcX.l0 (9) (0,s,at_,bad)).bind fun (n1,o3,o4,o5)=>
 (some ((n1==0),o3,o4,o5)))
def Zdh.l0.step (again:(Int×Int×Int×Int)→Option (Int)):(Int×Int×Int×Int)→Option (Int):=fun (num1,bits1,n,k)=>
 (bif (decide (k<bits1)) then (again ((w64 (num1.tdiv 2)),bits1,(w64 ((w64 (2*n))+(num1.tmod 2))),(w64 (k+1)))) else
 (some n))
def Zdh.l0:=ZaB Zdh.l0.step
theorem Zdh.l0.succ (n:Nat) t:Zdh.l0 (n+1) t=Zdh.l0.step (Zdh.l0 n) t:=rfl
def Zdh (num:Int) (bits:Int):Option (Int):=
 ((Zdh.l0 ((bits-(0:Int)).toNat+1) (num,bits,0,0)).bind fun n1=>
 (some n1))
def Zdg.l0.step (again:(Int×Int)→Option (Int)):(Int×Int)→Option (Int):=fun (c1,k)=>
 (bif (decide (k<8)) then (bif ((c1.tmod 2)==1) then (again ((Zl2 .u32 (IntKind.wrap .u32 (c1.tdiv 2)) 3988292384),(w64 (k+1)))) else
 (again ((IntKind.wrap .u32 (c1.tdiv 2)),(w64 (k+1))))) else
 (some c1))
def Zdg.l0:=ZaB Zdg.l0.step
theorem Zdg.l0.succ (n:Nat) t:Zdg.l0 (n+1) t=Zdg.l0.step (Zdg.l0 n) t:=rfl
def Zdg (c:Int) (b:Int):Option (Int):=
 ((Zdg.l0 ((8-(0:Int)).toNat+1) ((Zl2 .u32 c (IntKind.wrap .u32 b)),0)).bind fun c2=>
 (some c2))
def Zdm.l0.step (again:(Str×Int×Int)→Option (Int)):(Str×Int×Int)→Option (Int):=fun (text1,c,i)=>
 (bif (decide (i<(text1.length:Int))) then (need (decide (0≤i)&&decide (i<text1.length)) ((Zdg c ((text1.getD i.toNat 0).toNat:Int)).bind fun l2Step_=>
 (again (text1,l2Step_,(w64 (i+1)))))) else
 (some c))
def Zdm.l0:=ZaB Zdm.l0.step
theorem Zdm.l0.succ (n:Nat) t:Zdm.l0 (n+1) t=Zdm.l0.step (Zdm.l0 n) t:=rfl
def Zdm (crc_:Int) (text:Str):Option (Int):=
 ((Zdm.l0 (((text.length:Int)-(0:Int)).toNat+1) (text,(Zl2 .u32 crc_ 4294967295),0)).bind fun c1=>
 (some (Zl2 .u32 c1 4294967295)))
def ZcR (text:Str):Option (Int):=
 ((Zdm 0 text).bind fun l2More_=>
 (some (w64 l2More_)))
def ZcK.l0.step (again:(List Int×Int×Int)→Option (Int)):(List Int×Int×Int)→Option (Int):=fun (lens1,n,i)=>
 (bif (decide (i<(lens1.length:Int))) then (need (decide (0≤i)&&decide (i<lens1.length)) (bif (decide ((lens1.getD i.toNat 0)>0)) then (again (lens1,(w64 (n+1)),(w64 (i+1)))) else
 (again (lens1,n,(w64 (i+1)))))) else
 (some n))
def ZcK.l0:=ZaB ZcK.l0.step
theorem ZcK.l0.succ (n:Nat) t:ZcK.l0 (n+1) t=ZcK.l0.step (ZcK.l0 n) t:=rfl
def ZcK (lens:List Int):Option (Int):=
 ((ZcK.l0 (((lens.length:Int)-(0:Int)).toNat+1) (lens,0,0)).bind fun n1=>
 (some n1))
def ZaS.l0.step (again:(List Int×Int×Int)→Option ((List Int×Int)⊕(Bool))):(List Int×Int×Int)→Option ((List Int×Int)⊕(Bool)):=fun (lens1,sum,i)=>
 (bif (decide (i<(lens1.length:Int))) then (need (decide (0≤i)&&decide (i<lens1.length)) ((ZhI (lens1.getD i.toNat 0) 0 15).bind fun l1In_=>
 (bif (!l1In_) then ((some false).map Sum.inr) else
 (need (decide (0≤i)&&decide (i<lens1.length)) (bif (decide ((lens1.getD i.toNat 0)>0)) then (need (decide (0≤i)&&decide (i<lens1.length)) ((ZcT (w64 (15-(lens1.getD i.toNat 0)))).bind fun l1Pow_=>
 (again (lens1,(w64 (sum+l1Pow_)),(w64 (i+1)))))) else
 (again (lens1,sum,(w64 (i+1))))))))) else
 (some (.inl (lens1,sum))))
def ZaS.l0:=ZaB ZaS.l0.step
theorem ZaS.l0.succ (n:Nat) t:ZaS.l0 (n+1) t=ZaS.l0.step (ZaS.l0 n) t:=rfl
def ZaS (lens:List Int):Option (Bool):=
 ((ZaS.l0 (((lens.length:Int)-(0:Int)).toNat+1) (lens,0,0)).bind fun r=>match r with
 | .inl (lens2,sum1)=>(((ZcK lens2).bind fun l3Used_=>
 (bif (l3Used_==1) then ((ZcT 14).bind fun l1Pow_1=>
 (some (sum1==l1Pow_1))) else
 (some false))).bind fun one=>
 ((bif (decide ((lens2.length:Int)≤300)) then ((ZcT 15).bind fun l1Pow_2=>
 (bif (sum1==l1Pow_2) then (some true) else
 (some one))) else
 (some false)).bind fun c=>
 (some c)))
 | .inr r=>some r)
def ZaO.l0.step (again:(List Int×Int×Int×Int×List Int)→Option (List Int×Int×Int×List Int)):(List Int×Int×Int×Int×List Int)→Option (List Int×Int×Int×List Int):=fun (lens2,code_1,n1,i,out1)=>
 (bif (decide (i<(lens2.length:Int))) then (need (decide (0≤i)&&decide (i<lens2.length)) (bif ((lens2.getD i.toNat 0)==n1) then (need (decide (0≤i)&&decide (i<out1.length)) (again (lens2,(w64 (code_1+1)),n1,(w64 (i+1)),(out1.set i.toNat code_1)))) else
 (again (lens2,code_1,n1,(w64 (i+1)),out1)))) else
 (some (lens2,code_1,n1,out1)))
def ZaO.l0:=ZaB ZaO.l0.step
theorem ZaO.l0.succ (n:Nat) t:ZaO.l0 (n+1) t=ZaO.l0.step (ZaO.l0 n) t:=rfl
def ZaO.l1.step (again:(List Int×Int×Int×List Int)→Option (List Int)):(List Int×Int×Int×List Int)→Option (List Int):=fun (lens1,code_,n,out)=>
 (bif (decide (n≤15)) then ((ZaO.l0 (((lens1.length:Int)-(0:Int)).toNat+1) (lens1,code_,n,0,out)).bind fun (lens3,code_2,n2,out2)=>
 (again (lens3,(w64 (2*code_2)),(w64 (n2+1)),out2))) else
 (some out))
def ZaO.l1:=ZaB ZaO.l1.step
theorem ZaO.l1.succ (n:Nat) t:ZaO.l1 (n+1) t=ZaO.l1.step (ZaO.l1 n) t:=rfl
def ZaO (lens:List Int):Option (List Int):=
 (need (decide (0≤(lens.length:Int))&&fits (lens.length:Int).toNat) ((ZaO.l1 ((15-(1:Int)).toNat+2) (lens,0,1,(List.replicate (lens.length:Int).toNat (0:Int)))).bind fun out3=>
 (some out3)))
def Zca.l0.step (again:((List (Int×Int×List Int))×Int×Int)→Option (Int)):((List (Int×Int×List Int))×Int×Int)→Option (Int):=fun (list1,at_,i)=>
 (bif (decide (i<(list1.length:Int))) then ((need (decide (0≤i)&&decide (i<list1.length)) (need (decide (0≤at_)&&decide (at_<list1.length)) (bif (decide ((list1.getD i.toNat (0,0,[])).1<(list1.getD at_.toNat (0,0,[])).1)) then (some true) else
 (need (decide (0≤i)&&decide (i<list1.length)) (need (decide (0≤at_)&&decide (at_<list1.length)) (bif ((list1.getD i.toNat (0,0,[])).1==(list1.getD at_.toNat (0,0,[])).1) then (need (decide (0≤i)&&decide (i<list1.length)) (need (decide (0≤at_)&&decide (at_<list1.length)) (some (decide ((list1.getD i.toNat (0,0,[])).2.1<(list1.getD at_.toNat (0,0,[])).2.1))))) else
 (some false))))))).bind fun c=>
 (bif c then (again (list1,i,(w64 (i+1)))) else
 (again (list1,at_,(w64 (i+1)))))) else
 (some at_))
def Zca.l0:=ZaB Zca.l0.step
theorem Zca.l0.succ (n:Nat) t:Zca.l0 (n+1) t=Zca.l0.step (Zca.l0 n) t:=rfl
def Zca (list:List (Int×Int×List Int)):Option (Int):=
 ((Zca.l0 (((list.length:Int)-(1:Int)).toNat+1) (list,0,1)).bind fun at_1=>
 (some at_1))
def Zf6 (list:List (Int×Int×List Int)) (at_:Int):Option (List (Int×Int×List Int)):=
 (need (decide (0≤at_)&&decide (at_≤list.length)) (need (fits (([]:List (Int×Int×List Int)).length+(list.take at_.toNat).length)) (need (decide (0≤(w64 (at_+1)))&&decide ((w64 (at_+1))≤list.length)) (need (fits (([]++(list.take at_.toNat)).length+(list.drop (w64 (at_+1)).toNat).length)) (some (([]++(list.take at_.toNat))++(list.drop (w64 (at_+1)).toNat)))))))
def Zbi.l1.step (again:(Int×Int×List Int×(List (Int×Int×List Int))×Int×Int×List Int×Int×Int×List Int×List Int)→Option (Int×List Int×(List (Int×Int×List Int))×Int×Int×List Int×Int×Int×List Int×List Int)):(Int×Int×List Int×(List (Int×Int×List Int))×Int×Int×List Int×Int×Int×List Int×List Int)→Option (Int×List Int×(List (Int×Int×List Int))×Int×Int×List Int×Int×Int×List Int×List Int):=fun (first1,i1,out5,list5,o6,o7,o8,o9,o10,o11,syms)=>
 (bif (decide (i1<(syms.length:Int))) then (need (decide (0≤i1)&&decide (i1<syms.length)) (need (decide (0≤i1)&&decide (i1<syms.length)) (need (decide (0≤(syms.getD i1.toNat 0))&&decide ((syms.getD i1.toNat 0)<out5.length)) (need (decide (0≤(syms.getD i1.toNat 0))&&decide ((syms.getD i1.toNat 0)<out5.length)) (again (first1,(w64 (i1+1)),(out5.set ((syms.getD i1.toNat 0).toNat) (w64 ((out5.getD ((syms.getD i1.toNat 0).toNat) 0)+1))),list5,o6,o7,o8,o9,o10,o11,syms)))))) else
 (some (first1,out5,list5,o6,o7,o8,o9,o10,o11,syms)))
def Zbi.l1:=ZaB Zbi.l1.step
theorem Zbi.l1.succ (n:Nat) t:Zbi.l1 (n+1) t=Zbi.l1.step (Zbi.l1 n) t:=rfl
def Zbi.l2.step (again:(List Int×List (Int×Int×List Int))→Option (List Int)):(List Int×List (Int×Int×List Int))→Option (List Int):=fun (out3,list3)=>
 (bif (decide ((list3.length:Int)>1)) then ((Zca list3).bind fun l3Least_=>
 (need (decide (0≤l3Least_)&&decide (l3Least_<list3.length)) ((Zf6 list3 l3Least_).bind fun l3Less_=>
 ((Zca l3Less_).bind fun l3Least_1=>
 (need (decide (0≤l3Least_1)&&decide (l3Least_1<l3Less_.length)) ((Zf6 l3Less_ l3Least_1).bind fun l3Less_1=>
 (((bif (decide ((l3Less_.getD l3Least_1.toNat (0,0,[])).2.1<(list3.getD l3Least_.toNat (0,0,[])).2.1)) then (some ((l3Less_.getD l3Least_1.toNat (0,0,[])).2.1,out3,l3Less_1,(list3.getD l3Least_.toNat (0,0,[])).1,(list3.getD l3Least_.toNat (0,0,[])).2.1,(list3.getD l3Least_.toNat (0,0,[])).2.2,(l3Less_.getD l3Least_1.toNat (0,0,[])).1,(l3Less_.getD l3Least_1.toNat (0,0,[])).2.1,(l3Less_.getD l3Least_1.toNat (0,0,[])).2.2)) else
 (some ((list3.getD l3Least_.toNat (0,0,[])).2.1,out3,l3Less_1,(list3.getD l3Least_.toNat (0,0,[])).1,(list3.getD l3Least_.toNat (0,0,[])).2.1,(list3.getD l3Least_.toNat (0,0,[])).2.2,(l3Less_.getD l3Least_1.toNat (0,0,[])).1,(l3Less_.getD l3Least_1.toNat (0,0,[])).2.1,(l3Less_.getD l3Least_1.toNat (0,0,[])).2.2))):Option (Int×List Int×(List (Int×Int×List Int))×Int×Int×List Int×Int×Int×List Int)).bind fun (first,out4,list4,o,o1,o2,o3,o4,o5)=>
 (need (fits (([]:List (Int)).length+o2.length)) (need (fits (([]++o2).length+o5.length)) ((Zbi.l1 ((((([]++o2)++o5).length:Int)-(0:Int)).toNat+1) (first,0,out4,list4,o,o1,o2,o3,o4,o5,(([]++o2)++o5))).bind fun (first2,out6,list6,o12,o13,o14,o15,o16,o17,syms1)=>
 (need (fits (list6.length+([((w64 (o12+o15)),first2,syms1)]:List (Int×Int×List Int)).length)) (again (out6,(list6++[((w64 (o12+o15)),first2,syms1)])))))))))))))) else
 (some out3))
def Zbi.l2:=ZaB Zbi.l2.step
theorem Zbi.l2.succ (n:Nat) t:Zbi.l2 (n+1) t=Zbi.l2.step (Zbi.l2 n) t:=rfl
def Zbi.l0.step (again:(List Int×Int×List Int×List (Int×Int×List Int))→Option (List Int×List (Int×Int×List Int))):(List Int×Int×List Int×List (Int×Int×List Int))→Option (List Int×List (Int×Int×List Int)):=fun (counts1,i,out,list)=>
 (bif (decide (i<(counts1.length:Int))) then (need (decide (0≤i)&&decide (i<counts1.length)) (bif (decide ((counts1.getD i.toNat 0)>0)) then (need (decide (0≤i)&&decide (i<counts1.length)) (need (fits (list.length+([((counts1.getD i.toNat 0),i,[i])]:List (Int×Int×List Int)).length)) (again (counts1,(w64 (i+1)),out,(list++[((counts1.getD i.toNat 0),i,[i])]))))) else
 (again (counts1,(w64 (i+1)),out,list)))) else
 (some (out,list)))
def Zbi.l0:=ZaB Zbi.l0.step
theorem Zbi.l0.succ (n:Nat) t:Zbi.l0 (n+1) t=Zbi.l0.step (Zbi.l0 n) t:=rfl
def Zbi (counts:List Int):Option (List Int):=
 (need (decide (0≤(counts.length:Int))&&fits (counts.length:Int).toNat) ((Zbi.l0 (((counts.length:Int)-(0:Int)).toNat+1) (counts,0,(List.replicate (counts.length:Int).toNat (0:Int)),[])).bind fun (out1,list1)=>
 (((bif ((list1.length:Int)==1) then (need (decide (0≤(0:Int))&&decide ((0:Int)<list1.length)) (need (decide (0≤(list1.getD 0 (0,0,[])).2.1)&&decide ((list1.getD 0 (0,0,[])).2.1<out1.length)) (some ((out1.set (((list1.getD 0 (0,0,[])).2.1).toNat) 1),list1)))) else
 (some (out1,list1))):Option (List Int×List (Int×Int×List Int))).bind fun (out2,list2)=>
 ((Zbi.l2 (((list2.length:Int)-1).toNat+1) (out2,list2)).bind fun out7=>
 (some out7)))))
def Zdf.l0.step (again:(List Int×Int×Int)→Option (Int)):(List Int×Int×Int)→Option (Int):=fun (lens1,n,i)=>
 (bif (decide (i<(lens1.length:Int))) then (need (decide (0≤i)&&decide (i<lens1.length)) (bif (decide ((lens1.getD i.toNat 0)>n)) then (need (decide (0≤i)&&decide (i<lens1.length)) (again (lens1,(lens1.getD i.toNat 0),(w64 (i+1))))) else
 (again (lens1,n,(w64 (i+1)))))) else
 (some n))
def Zdf.l0:=ZaB Zdf.l0.step
theorem Zdf.l0.succ (n:Nat) t:Zdf.l0 (n+1) t=Zdf.l0.step (Zdf.l0 n) t:=rfl
def Zdf (lens:List Int):Option (Int):=
 ((Zdf.l0 (((lens.length:Int)-(0:Int)).toNat+1) (lens,0,0)).bind fun n1=>
 (some n1))
def Zc0.l0.step (again:(Int×Int×List Int)→Option (Int×List Int)):(Int×Int×List Int)→Option (Int×List Int):=fun (most2,i,list1)=>
 (bif (decide (i<(list1.length:Int))) then (need (decide (0≤i)&&decide (i<list1.length)) (need (decide (0≤i)&&decide (i<list1.length)) (again (most2,(w64 (i+1)),(list1.set i.toNat (w64 ((w64 ((list1.getD i.toNat 0)+1)).tdiv 2))))))) else
 (some (most2,list1)))
def Zc0.l0:=ZaB Zc0.l0.step
theorem Zc0.l0.succ (n:Nat) t:Zc0.l0 (n+1) t=Zc0.l0.step (Zc0.l0 n) t:=rfl
def Zc0.l1.step (again:(Int×List Int×List Int)→Option (List Int)):(Int×List Int×List Int)→Option (List Int):=fun (most1,list,out)=>
 ((Zdf out).bind fun l3Most_=>
 (bif (decide (l3Most_>most1)) then ((Zc0.l0 (((list.length:Int)-(0:Int)).toNat+1) (most1,0,list)).bind fun (most3,list2)=>
 ((Zbi list2).bind fun l3Lens_1=>
 (again (most3,list2,l3Lens_1)))) else
 (some out)))
def Zc0.l1:=ZaB Zc0.l1.step
theorem Zc0.l1.succ (n:Nat) t:Zc0.l1 (n+1) t=Zc0.l1.step (Zc0.l1 n) t:=rfl
def Zc0 (counts:List Int) (most:Int):Option (List Int):=
 (need (fits (([]:List (Int)).length+counts.length)) ((Zbi ([]++counts)).bind fun l3Lens_=>
 ((Zc0.l1 (100000) (most,([]++counts),l3Lens_)).bind fun out1=>
 (some out1))))
def Ze2 (lens:List Int) (codes_:List Int) (sym:Int):Option (Int×Int):=
 (need (decide (0≤sym)&&decide (sym<codes_.length)) (need (decide (0≤sym)&&decide (sym<lens.length)) ((Zdh (codes_.getD sym.toNat 0) (lens.getD sym.toNat 0)).bind fun l1Turn_=>
 (need (decide (0≤sym)&&decide (sym<lens.length)) (some (l1Turn_,(lens.getD sym.toNat 0)))))))
def ZaW.l0.step (again:(List Int×List Int×Int×Int×Int×Str×Int×Bool)→Option ((List Int×List Int×Int×Int×Str×Int×Bool)⊕((Str×Int×Bool)⊕(Int×Str×Int×Bool)))):(List Int×List Int×Int×Int×Int×Str×Int×Bool)→Option ((List Int×List Int×Int×Int×Str×Int×Bool)⊕((Str×Int×Bool)⊕(Int×Str×Int×Bool))):=fun (lens2,codes_2,code_1,n1,i,o3,o4,o5)=>
 (bif (decide (i<(lens2.length:Int))) then ((need (decide (0≤i)&&decide (i<lens2.length)) (bif ((lens2.getD i.toNat 0)==n1) then (need (decide (0≤i)&&decide (i<codes_2.length)) (some ((codes_2.getD i.toNat 0)==code_1))) else
 (some false))).bind fun c1=>
 (bif c1 then (((some (i,o3,o4,o5)).map Sum.inr).map Sum.inr) else
 (again (lens2,codes_2,code_1,n1,(w64 (i+1)),o3,o4,o5)))) else
 (some (.inl (lens2,codes_2,code_1,n1,o3,o4,o5))))
def ZaW.l0:=ZaB ZaW.l0.step
theorem ZaW.l0.succ (n:Nat) t:ZaW.l0 (n+1) t=ZaW.l0.step (ZaW.l0 n) t:=rfl
def ZaW.l1.step (again:(List Int×List Int×Int×Int×Str×Int×Bool)→Option ((Str×Int×Bool)⊕(Int×Str×Int×Bool))):(List Int×List Int×Int×Int×Str×Int×Bool)→Option ((Str×Int×Bool)⊕(Int×Str×Int×Bool)):=fun (lens1,codes_1,code_,n,o,o1,o2)=>
 ((bif (decide (n≤15)) then (some (!o2)) else
 (some false)).bind fun c=>
 (bif c then ((Zkv o o1 o2).bind fun (r,r1,r2,r3)=>
 ((ZaW.l0 (((lens1.length:Int)-(0:Int)).toNat+1) (lens1,codes_1,(w64 ((w64 (2*code_))+r)),n,0,r1,r2,r3)).bind fun r=>match r with
 | .inl (lens3,codes_3,code_2,n2,o6,o7,o8)=>(again (lens3,codes_3,code_2,(w64 (n2+1)),o6,o7,o8))
 | .inr r=>some r)) else
 (some (.inl (o,o1,o2)))))
def ZaW.l1:=ZaB ZaW.l1.step
theorem ZaW.l1.succ (n:Nat) t:ZaW.l1 (n+1) t=ZaW.l1.step (ZaW.l1 n) t:=rfl
def ZaW (lens:List Int) (codes_:List Int) (s:Str) (at_:Int) (bad:Bool):Option (Int×Str×Int×Bool):=
 ((ZaW.l1 ((15-(1:Int)).toNat+2) (lens,codes_,0,1,s,at_,bad)).bind fun r=>match r with
 | .inl (o9,o10,o11)=>(some ((-1),o9,o10,true))
 | .inr r=>some r)
def Ze1.l0.step (again:(Int×List Int×Int×Int×Int)→Option (List Int)):(Int×List Int×Int×Int×Int)→Option (List Int):=fun (i,text1,o,o1,o2)=>
 (bif (decide (i<o1)) then (need (decide (0≤(w64 ((text1.length:Int)-o2)))&&decide ((w64 ((text1.length:Int)-o2))<text1.length)) (need (fits (text1.length+([(text1.getD ((w64 ((text1.length:Int)-o2)).toNat) 0)]:List (Int)).length)) (again ((w64 (i+1)),(text1++[(text1.getD ((w64 ((text1.length:Int)-o2)).toNat) 0)]),o,o1,o2)))) else
 (some text1))
def Ze1.l0:=ZaB Ze1.l0.step
theorem Ze1.l0.succ (n:Nat) t:Ze1.l0 (n+1) t=Ze1.l0.step (Ze1.l0 n) t:=rfl
def Ze1 (byte:Int) (long:Int) (back:Int) (text:List Int):Option (Bool×List Int):=
 (bif (long==0) then (need (fits (text.length+([(IntKind.wrap .u8 byte)]:List (Int)).length)) ((ZhI byte 0 255).bind fun l1In_=>
 (bif l1In_ then (some ((back==0),(text++[(IntKind.wrap .u8 byte)]))) else
 (some (false,(text++[(IntKind.wrap .u8 byte)])))))) else
 ((bif (byte != 0) then (some true) else
 ((ZhI long 3 60).bind fun l1In_1=>
 (bif (!l1In_1) then (some true) else
 ((ZhI back 1 250).bind fun l1In_2=>
 (bif (!l1In_2) then (some true) else
 (some (decide (back>(text.length:Int))))))))).bind fun c=>
 (bif c then (some (false,text)) else
 ((Ze1.l0 ((long-(0:Int)).toNat+1) (0,text,byte,long,back)).bind fun text2=>
 (some (true,text2))))))
def Zcl.l0.step (again:(Str×Int×Int×Int)→Option (Int)):(Str×Int×Int×Int)→Option (Int):=fun (text1,at_1,back1,n)=>
 ((bif (decide ((w64 (at_1+n))<(text1.length:Int))) then (bif (decide (n<60)) then (need (decide (0≤(w64 (at_1+n)))&&decide ((w64 (at_1+n))<text1.length)) (need (decide (0≤(w64 ((w64 (at_1+n))-back1)))&&decide ((w64 ((w64 (at_1+n))-back1))<text1.length)) (some (((text1.getD (w64 (at_1+n)).toNat 0).toNat:Int)==((text1.getD (w64 ((w64 (at_1+n))-back1)).toNat 0).toNat:Int))))) else
 (some false)) else
 (some false)).bind fun c=>
 (bif c then (again (text1,at_1,back1,(w64 (n+1)))) else
 (some n)))
def Zcl.l0:=ZaB Zcl.l0.step
theorem Zcl.l0.succ (n:Nat) t:Zcl.l0 (n+1) t=Zcl.l0.step (Zcl.l0 n) t:=rfl
def Zcl (text:Str) (at_:Int) (back:Int):Option (Int):=
 ((Zcl.l0 (62) (text,at_,back,0)).bind fun n1=>
 (some n1))
def ZaK.l0.step (again:(Str×Int×Int×Int×Int×List (Int×Int×Int))→Option (Str×Int×Int×Int×List (Int×Int×Int))):(Str×Int×Int×Int×Int×List (Int×Int×Int))→Option (Str×Int×Int×Int×List (Int×Int×Int)):=fun (text2,at_1,long,far,back,out1)=>
 ((bif (decide (back≤250)) then (some (decide (back≤at_1))) else
 (some false)).bind fun c=>
 (bif c then ((Zcl text2 at_1 back).bind fun l4Again_=>
 (bif (decide (l4Again_>long)) then (again (text2,at_1,l4Again_,back,(w64 (back+1)),out1)) else
 (again (text2,at_1,long,far,(w64 (back+1)),out1)))) else
 (some (text2,at_1,long,far,out1))))
def ZaK.l0:=ZaB ZaK.l0.step
theorem ZaK.l0.succ (n:Nat) t:ZaK.l0 (n+1) t=ZaK.l0.step (ZaK.l0 n) t:=rfl
def ZaK.l1.step (again:(Str×Int×List (Int×Int×Int))→Option (List (Int×Int×Int))):(Str×Int×List (Int×Int×Int))→Option (List (Int×Int×Int)):=fun (text1,at_,out)=>
 (bif (decide (at_<(text1.length:Int))) then ((ZaK.l0 ((250-(1:Int)).toNat+2) (text1,at_,0,0,1,out)).bind fun (text3,at_2,long1,far1,out2)=>
 (bif (decide (long1<3)) then (need (decide (0≤at_2)&&decide (at_2<text3.length)) (need (fits (out2.length+([((w64 ((text3.getD at_2.toNat 0).toNat:Int)),0,0)]:List (Int×Int×Int)).length)) (again (text3,(w64 (at_2+1)),(out2++[((w64 ((text3.getD at_2.toNat 0).toNat:Int)),0,0)]))))) else
 (need (fits (out2.length+([(0,long1,far1)]:List (Int×Int×Int)).length)) (again (text3,(w64 (at_2+long1)),(out2++[(0,long1,far1)])))))) else
 (some out))
def ZaK.l1:=ZaB ZaK.l1.step
theorem ZaK.l1.succ (n:Nat) t:ZaK.l1 (n+1) t=ZaK.l1.step (ZaK.l1 n) t:=rfl
def ZaK (text:Str):Option (List (Int×Int×Int)):=
 ((ZaK.l1 (((text.length:Int)-(0:Int)).toNat+1) (text,0,[])).bind fun out3=>
 (some out3))
def ZcZ.l0.step (again:(List Int×Int×Int×List Int)→Option (List Int)):(List Int×Int×Int×List Int)→Option (List Int):=fun (extra1,from_1,i,out)=>
 (bif (decide (i<(extra1.length:Int))) then (need (fits (out.length+([from_1]:List (Int)).length)) (need (decide (0≤i)&&decide (i<extra1.length)) ((ZcT (extra1.getD i.toNat 0)).bind fun l1Pow_=>
 (again (extra1,(w64 (from_1+l1Pow_)),(w64 (i+1)),(out++[from_1])))))) else
 (some out))
def ZcZ.l0:=ZaB ZcZ.l0.step
def ZcZ (extra:List Int) (from_:Int):Option (List Int):=
 ((ZcZ.l0 (((extra.length:Int)-(0:Int)).toNat+1) (extra,from_,0,[])).bind fun out1=>
 (some out1))
def Zbd:Option (List Int):=
 (some [0,0,0,0,0,0,0,0,1,1,1,1,2,2,2,2,3,3,3,3,4,4,4,4,5,5,5,5])
def Zbe:Option (List Int):=
 (some [0,0,0,0,1,1,2,2,3,3,4,4,5,5,6,6,7,7,8,8,9,9,10,10,11,11,12,12,13,13])
def Zfj.l0.step (again:(List Int×Int×Int)→Option (Int)):(List Int×Int×Int)→Option (Int):=fun (base1,n1,k)=>
 ((bif (decide ((w64 (k+1))<(base1.length:Int))) then (need (decide (0≤(w64 (k+1)))&&decide ((w64 (k+1))<base1.length)) (some (decide ((base1.getD (w64 (k+1)).toNat 0)≤n1)))) else
 (some false)).bind fun c=>
 (bif c then (again (base1,n1,(w64 (k+1)))) else
 (some k)))
def Zfj.l0:=ZaB Zfj.l0.step
def Zfj (base:List Int) (n:Int):Option (Int):=
 ((Zfj.l0 ((base.length:Int).toNat+1) (base,n,0)).bind fun k1=>
 (some k1))
def Zc5.l0.step (again:(Int×List Int)→Option (List Int)):(Int×List Int)→Option (List Int):=fun (i,out)=>
 (bif (decide (i<288)) then (bif (decide (i<144)) then (need (fits (out.length+([8]:List (Int)).length)) (again ((w64 (i+1)),(out++[8])))) else
 (bif (decide (i<256)) then (need (fits (out.length+([9]:List (Int)).length)) (again ((w64 (i+1)),(out++[9])))) else
 (bif (decide (i<280)) then (need (fits (out.length+([7]:List (Int)).length)) (again ((w64 (i+1)),(out++[7])))) else
 (need (fits (out.length+([8]:List (Int)).length)) (again ((w64 (i+1)),(out++[8]))))))) else
 (some out))
def Zc5.l0:=ZaB Zc5.l0.step
def Zc5:Option (List Int):=
 ((Zc5.l0 ((288-(0:Int)).toNat+1) (0,[])).bind fun out1=>
 (some out1))
def Zc6.l0.step (again:(Int×List Int)→Option (List Int)):(Int×List Int)→Option (List Int):=fun (i,out)=>
 (bif (decide (i<32)) then (need (fits (out.length+([5]:List (Int)).length)) (again ((w64 (i+1)),(out++[5])))) else
 (some out))
def Zc6.l0:=ZaB Zc6.l0.step
def Zc6:Option (List Int):=
 ((Zc6.l0 ((32-(0:Int)).toNat+1) (0,[])).bind fun out1=>
 (some out1))
def Zn2 (lens:List Int) (codes_:List Int) (sym:Int) (last:Int) (fill:Int) (text:List Int):Option (Int×Int×List Int):=
 ((Ze2 lens codes_ sym).bind fun (r,r1)=>
 ((Zel r r1 last fill text).bind fun (r2,r3,r4)=>
 (some (r2,r3,r4))))
def ZbP.l0.step (again:((List (Int×Int×Int))×List Int×List Int×Int×Int×Int×List Int×List Int×List Int×List Int×List Int)→Option (List Int×Int×Int×List Int×List Int)):((List (Int×Int×Int))×List Int×List Int×Int×Int×Int×List Int×List Int×List Int×List Int×List Int)→Option (List Int×Int×Int×List Int×List Int):=fun (list1,longs1,backs1,i,o,o1,a,b,long,back,o2)=>
 (bif (decide (i<(list1.length:Int))) then (need (decide (0≤i)&&decide (i<list1.length)) (bif ((list1.getD i.toNat (0,0,0)).2.1==0) then ((Zn2 longs1 a ((list1.getD i.toNat (0,0,0)).1) o o1 o2).bind fun (r,r1,r2)=>
 (again (list1,longs1,backs1,(w64 (i+1)),r,r1,a,b,long,back,r2))) else
 ((Zfj long ((list1.getD i.toNat (0,0,0)).2.1)).bind fun l5Sym_=>
 ((Zn2 longs1 a (w64 (257+l5Sym_)) o o1 o2).bind fun (r3,r4,r5)=>
 (need (decide (0≤l5Sym_)&&decide (l5Sym_<long.length)) ((Zbd).bind fun l5LongBi1=>
 (need (decide (0≤l5Sym_)&&decide (l5Sym_<l5LongBi1.length)) ((Zel (w64 ((list1.getD i.toNat (0,0,0)).2.1-(long.getD l5Sym_.toNat 0))) (l5LongBi1.getD l5Sym_.toNat 0) r3 r4 r5).bind fun (r6,r7,r8)=>
 ((Zfj back ((list1.getD i.toNat (0,0,0)).2.2)).bind fun l5Sym_1=>
 ((Zn2 backs1 b l5Sym_1 r6 r7 r8).bind fun (r9,r10,r11)=>
 (need (decide (0≤l5Sym_1)&&decide (l5Sym_1<back.length)) ((Zbe).bind fun l5BackBi1=>
 (need (decide (0≤l5Sym_1)&&decide (l5Sym_1<l5BackBi1.length)) ((Zel (w64 ((list1.getD i.toNat (0,0,0)).2.2-(back.getD l5Sym_1.toNat 0))) (l5BackBi1.getD l5Sym_1.toNat 0) r9 r10 r11).bind fun (r12,r13,r14)=>
 (again (list1,longs1,backs1,(w64 (i+1)),r12,r13,a,b,long,back,r14)))))))))))))))) else
 (some (longs1,o,o1,a,o2)))
def ZbP.l0:=ZaB ZbP.l0.step
theorem ZbP.l0.succ (n:Nat) t:ZbP.l0 (n+1) t=ZbP.l0.step (ZbP.l0 n) t:=rfl
def ZbP (list:List (Int×Int×Int)) (longs:List Int) (backs:List Int) (last:Int) (fill:Int) (text:List Int):Option (Int×Int×List Int):=
 ((ZaO longs).bind fun l3Codes_=>
 ((ZaO backs).bind fun l3Codes_1=>
 ((Zbd).bind fun l5LongBi=>
 ((ZcZ l5LongBi 3).bind fun l5Base_=>
 ((Zbe).bind fun l5BackBi=>
 ((ZcZ l5BackBi 1).bind fun l5Base_1=>
 ((ZbP.l0 (((list.length:Int)-(0:Int)).toNat+1) (list,longs,backs,0,last,fill,l3Codes_,l3Codes_1,l5Base_,l5Base_1,text)).bind fun (longs2,o3,o4,a1,o5)=>
 ((Zn2 longs2 a1 256 o3 o4 o5).bind fun (r15,r16,r17)=>
 (some (r15,r16,r17))))))))))
def ZeE (text:Str):Option (Str):=
 ((Zel 1 1 0 0 []).bind fun (r,r1,r2)=>
 ((Zel 0 2 r r1 r2).bind fun (r3,r4,r5)=>
 ((ZdJ r3 r4 r5).bind fun (r6,r7,r8)=>
 ((Zel (text.length:Int) 16 r6 r7 r8).bind fun (r9,r10,r11)=>
 ((Zel (w64 (65535-(text.length:Int))) 16 r9 r10 r11).bind fun (r12,r13,r14)=>
 (need (fits ((Zcn r14).length+text.length)) (some ((Zcn r14)++text))))))))
def ZeF (text:Str):Option (Str):=
 ((Zel 1 1 0 0 []).bind fun (r,r1,r2)=>
 ((Zel 1 2 r r1 r2).bind fun (r3,r4,r5)=>
 ((ZaK text).bind fun l4Tokens_=>
 ((Zc5).bind fun l5Fixed_=>
 ((Zc6).bind fun l5Fives_=>
 ((ZbP l4Tokens_ l5Fixed_ l5Fives_ r3 r4 r5).bind fun (r6,r7,r8)=>
 ((ZdJ r6 r7 r8).bind fun (r9,r10,r11)=>
 (some (Zcn r11)))))))))
def ZbA.l0.step (again:((List (Int×Int×Int))×Int×List Int×List Int×List Int×List Int)→Option (List Int×List Int)):((List (Int×Int×Int))×Int×List Int×List Int×List Int×List Int)→Option (List Int×List Int):=fun (list1,i,longs,backs,long,back)=>
 (bif (decide (i<(list1.length:Int))) then (need (decide (0≤i)&&decide (i<list1.length)) (bif ((list1.getD i.toNat (0,0,0)).2.1==0) then (need (decide (0≤i)&&decide (i<list1.length)) (need (decide (0≤i)&&decide (i<list1.length)) (need (decide (0≤(list1.getD i.toNat (0,0,0)).1)&&decide ((list1.getD i.toNat (0,0,0)).1<longs.length)) (need (decide (0≤(list1.getD i.toNat (0,0,0)).1)&&decide ((list1.getD i.toNat (0,0,0)).1<longs.length)) (again (list1,(w64 (i+1)),(longs.set (((list1.getD i.toNat (0,0,0)).1).toNat) (w64 ((longs.getD (((list1.getD i.toNat (0,0,0)).1).toNat) 0)+1))),backs,long,back)))))) else
 (need (decide (0≤i)&&decide (i<list1.length)) ((Zfj long ((list1.getD i.toNat (0,0,0)).2.1)).bind fun l5Sym_=>
 (need (decide (0≤(w64 (257+l5Sym_)))&&decide ((w64 (257+l5Sym_))<longs.length)) (need (decide (0≤(w64 (257+l5Sym_)))&&decide ((w64 (257+l5Sym_))<longs.length)) (need (decide (0≤i)&&decide (i<list1.length)) ((Zfj back ((list1.getD i.toNat (0,0,0)).2.2)).bind fun l5Sym_1=>
 (need (decide (0≤l5Sym_1)&&decide (l5Sym_1<backs.length)) (need (decide (0≤l5Sym_1)&&decide (l5Sym_1<backs.length)) (again (list1,(w64 (i+1)),(longs.set ((w64 (257+l5Sym_)).toNat) (w64 ((longs.getD ((w64 (257+l5Sym_)).toNat) 0)+1))),(backs.set l5Sym_1.toNat (w64 ((backs.getD l5Sym_1.toNat 0)+1))),long,back)))))))))))) else
 (some (longs,backs)))
def ZbA.l0:=ZaB ZbA.l0.step
theorem ZbA.l0.succ (n:Nat) t:ZbA.l0 (n+1) t=ZbA.l0.step (ZbA.l0 n) t:=rfl
def ZbA (list:List (Int×Int×Int)):Option (List Int×List Int):=
 (need (decide (0≤286)&&fits 286) (need (decide (0≤30)&&fits 30) ((Zbd).bind fun l5LongBi=>
 ((ZcZ l5LongBi 3).bind fun l5Base_=>
 ((Zbe).bind fun l5BackBi=>
 ((ZcZ l5BackBi 1).bind fun l5Base_1=>
 (need (decide (0≤(256:Int))&&decide ((256:Int)<(List.replicate 286 (0:Int)).length)) ((ZbA.l0 (((list.length:Int)-(0:Int)).toNat+1) (list,0,((List.replicate 286 (0:Int)).set 256 1),(List.replicate 30 (0:Int)),l5Base_,l5Base_1)).bind fun (longs1,backs1)=>
 ((ZcK backs1).bind fun l3Used_=>
 (bif (l3Used_==0) then (need (decide (0≤(0:Int))&&decide ((0:Int)<backs1.length)) (some (longs1,(backs1.set 0 1)))) else
 (some (longs1,backs1))))))))))))
def ZcE.l0.step (again:(List Int×Int×Int)→Option (List Int×Int)):(List Int×Int×Int)→Option (List Int×Int):=fun (lens1,least_1,n)=>
 ((bif (decide (n>least_1)) then (need (decide (0≤(w64 (n-1)))&&decide ((w64 (n-1))<lens1.length)) (some ((lens1.getD (w64 (n-1)).toNat 0)==0))) else
 (some false)).bind fun c=>
 (bif c then (again (lens1,least_1,(w64 (n-1)))) else
 (some (lens1,n))))
def ZcE.l0:=ZaB ZcE.l0.step
theorem ZcE.l0.succ (n:Nat) t:ZcE.l0 (n+1) t=ZcE.l0.step (ZcE.l0 n) t:=rfl
def ZcE (lens:List Int) (least_:Int):Option (List Int):=
 ((ZcE.l0 (((lens.length:Int)-least_).toNat+1) (lens,least_,(lens.length:Int))).bind fun (lens2,n1)=>
 (need (decide (0≤n1)&&decide (n1≤lens2.length)) (some (lens2.take n1.toNat))))
def ZdB:Option (List Int):=
 (some [16,17,18,0,8,7,9,6,10,5,11,4,12,3,13,2,14,1,15])
def Zcp.l2.step (again:(Int×Int×Int×List Int×List Int×List Int×List Int)→Option (Int×Int×List Int)):(Int×Int×Int×List Int×List Int×List Int×List Int)→Option (Int×Int×List Int):=fun (i2,o12,o13,all4,lens2,codes_2,o14)=>
 (bif (decide (i2<(all4.length:Int))) then (need (decide (0≤i2)&&decide (i2<all4.length)) ((Zn2 lens2 codes_2 (all4.getD i2.toNat 0) o12 o13 o14).bind fun (r12,r13,r14)=>
 (again ((w64 (i2+1)),r12,r13,all4,lens2,codes_2,r14)))) else
 (some (o12,o13,o14)))
def Zcp.l2:=ZaB Zcp.l2.step
theorem Zcp.l2.succ (n:Nat) t:Zcp.l2 (n+1) t=Zcp.l2.step (Zcp.l2 n) t:=rfl
def Zcp.l1.step (again:(Int×Int×Int×List Int×List Int×List Int×List Int)→Option (Int×Int×List Int×List Int×List Int×List Int)):(Int×Int×Int×List Int×List Int×List Int×List Int)→Option (Int×Int×List Int×List Int×List Int×List Int):=fun (i1,o6,o7,all2,lens,codes_,o8)=>
 (bif (decide (i1<19)) then ((ZdB).bind fun l5Order_=>
 (need (decide (0≤i1)&&decide (i1<l5Order_.length)) (need (decide (0≤(l5Order_.getD i1.toNat 0))&&decide ((l5Order_.getD i1.toNat 0)<lens.length)) ((Zel (lens.getD ((l5Order_.getD i1.toNat 0).toNat) 0) 3 o6 o7 o8).bind fun (r9,r10,r11)=>
 (again ((w64 (i1+1)),r9,r10,all2,lens,codes_,r11)))))) else
 (some (o6,o7,all2,lens,codes_,o8)))
def Zcp.l1:=ZaB Zcp.l1.step
theorem Zcp.l1.succ (n:Nat) t:Zcp.l1 (n+1) t=Zcp.l1.step (Zcp.l1 n) t:=rfl
def Zcp.l0.step (again:(List Int×List Int×Int×Int×Int×List Int×List Int×List Int)→Option (List Int×List Int×Int×Int×List Int×List Int×List Int)):(List Int×List Int×Int×Int×Int×List Int×List Int×List Int)→Option (List Int×List Int×Int×Int×List Int×List Int×List Int):=fun (longs1,backs1,i,o,o1,all,counts,o2)=>
 (bif (decide (i<(all.length:Int))) then (need (decide (0≤i)&&decide (i<all.length)) (need (decide (0≤i)&&decide (i<all.length)) (need (decide (0≤(all.getD i.toNat 0))&&decide ((all.getD i.toNat 0)<counts.length)) (need (decide (0≤(all.getD i.toNat 0))&&decide ((all.getD i.toNat 0)<counts.length)) (again (longs1,backs1,(w64 (i+1)),o,o1,all,(counts.set ((all.getD i.toNat 0).toNat) (w64 ((counts.getD ((all.getD i.toNat 0).toNat) 0)+1))),o2)))))) else
 (some (longs1,backs1,o,o1,all,counts,o2)))
def Zcp.l0:=ZaB Zcp.l0.step
theorem Zcp.l0.succ (n:Nat) t:Zcp.l0 (n+1) t=Zcp.l0.step (Zcp.l0 n) t:=rfl
def Zcp (longs:List Int) (backs:List Int) (last:Int) (fill:Int) (text:List Int):Option (Int×Int×List Int):=
 (need (fits (([]:List (Int)).length+longs.length)) (need (fits (([]++longs).length+backs.length)) (need (decide (0≤19)&&fits 19) ((Zcp.l0 ((((([]++longs)++backs).length:Int)-(0:Int)).toNat+1) (longs,backs,0,last,fill,(([]++longs)++backs),(List.replicate 19 (0:Int)),text)).bind fun (longs2,backs2,o3,o4,all1,counts1,o5)=>
 ((Zc0 counts1 7).bind fun l3Fit_=>
 ((ZaO l3Fit_).bind fun l3Codes_=>
 ((Zel (w64 ((longs2.length:Int)-257)) 5 o3 o4 o5).bind fun (r,r1,r2)=>
 ((Zel (w64 ((backs2.length:Int)-1)) 5 r r1 r2).bind fun (r3,r4,r5)=>
 ((Zel 15 4 r3 r4 r5).bind fun (r6,r7,r8)=>
 ((Zcp.l1 ((19-(0:Int)).toNat+1) (0,r6,r7,all1,l3Fit_,l3Codes_,r8)).bind fun (o9,o10,all3,lens1,codes_1,o11)=>
 ((Zcp.l2 (((all3.length:Int)-(0:Int)).toNat+1) (0,o9,o10,all3,lens1,codes_1,o11)).bind fun (o15,o16,o17)=>
 (some (o15,o16,o17)))))))))))))
def ZjG (text:Str):Option (Str):=
 ((ZaK text).bind fun l4Tokens_=>
 ((ZbA l4Tokens_).bind fun (r,r1)=>
 ((Zc0 r 15).bind fun l3Fit_=>
 ((ZcE l3Fit_ 257).bind fun l5Last_=>
 ((Zc0 r1 15).bind fun l3Fit_1=>
 ((ZcE l3Fit_1 1).bind fun l5Last_1=>
 ((Zel 1 1 0 0 []).bind fun (r2,r3,r4)=>
 ((Zel 2 2 r2 r3 r4).bind fun (r5,r6,r7)=>
 ((Zcp l5Last_ l5Last_1 r5 r6 r7).bind fun (r8,r9,r10)=>
 ((ZbP l4Tokens_ l5Last_ l5Last_1 r8 r9 r10).bind fun (r11,r12,r13)=>
 ((ZdJ r11 r12 r13).bind fun (r14,r15,r16)=>
 (some (Zcn r16)))))))))))))
def Zak.l0.step (again:(Str×Int×List Str)→Option (Str)):(Str×Int×List Str)→Option (Str):=fun (out,i,list)=>
 (bif (decide (i<(list.length:Int))) then (need (decide (0≤i)&&decide (i<list.length)) (bif (decide (((list.getD i.toNat []).length:Int)<(out.length:Int))) then (need (decide (0≤i)&&decide (i<list.length)) (again ((list.getD i.toNat []),(w64 (i+1)),list))) else
 (again (out,(w64 (i+1)),list)))) else
 (some out))
def Zak.l0:=ZaB Zak.l0.step
theorem Zak.l0.succ (n:Nat) t:Zak.l0 (n+1) t=Zak.l0.step (Zak.l0 n) t:=rfl
def Zak (text:Str):Option (Str):=
 (bif (decide ((text.length:Int)>300)) then (some []) else
 ((ZeE text).bind fun l5Store_=>
 ((ZeF text).bind fun l5Known_=>
 ((ZjG text).bind fun l5Own_=>
 ((Zak.l0 (((([l5Known_,l5Own_]:List Str).length:Int)-(0:Int)).toNat+1) (l5Store_,0,[l5Known_,l5Own_])).bind fun out1=>
 (some out1))))))
def ZbS.l0.step (again:(Int×Int×Str×Int×Bool×List Int)→Option (Str×Int×Bool×List Int)):(Int×Int×Str×Int×Bool×List Int)→Option (Str×Int×Bool×List Int):=fun (n1,i,o6,o7,o8,text3)=>
 ((bif (decide (i<n1)) then (some (!o8)) else
 (some false)).bind fun c=>
 (bif c then ((Zfr 8 o6 o7 o8).bind fun (r12,r13,r14,r15)=>
 (need (fits (text3.length+([(IntKind.wrap .u8 r12)]:List (Int)).length)) (again (n1,(w64 (i+1)),r13,r14,r15,(text3++[(IntKind.wrap .u8 r12)]))))) else
 (some (o6,o7,o8,text3))))
def ZbS.l0:=ZaB ZbS.l0.step
theorem ZbS.l0.succ (n:Nat) t:ZbS.l0 (n+1) t=ZbS.l0.step (ZbS.l0 n) t:=rfl
def ZbS (s:Str) (at_:Int) (bad:Bool) (text:List Int):Option (Str×Int×Bool×List Int):=
 ((((ZcX s at_ bad).bind fun (r,r1,r2,r3)=>
 (bif (!r) then (some (r1,r2,true,text)) else
 (some (r1,r2,r3,text)))):Option (Str×Int×Bool×List Int)).bind fun (o,o1,o2,text1)=>
 ((Zfr 16 o o1 o2).bind fun (r4,r5,r6,r7)=>
 ((((Zfr 16 r5 r6 r7).bind fun (r8,r9,r10,r11)=>
 (bif (r8 != (w64 (65535-r4))) then (some (r4,r9,r10,true,text1)) else
 (bif (decide (r4>300)) then (some (r4,r9,r10,true,text1)) else
 (some (r4,r9,r10,r11,text1))))):Option (Int×Str×Int×Bool×List Int)).bind fun (n,o3,o4,o5,text2)=>
 ((ZbS.l0 ((n-(0:Int)).toNat+1) (n,0,o3,o4,o5,text2)).bind fun (o9,o10,o11,text4)=>
 (some (o9,o10,o11,text4))))))
def Zgk (sym:Int) (backs:List Int) (codes_:List Int) (s:Str) (at_:Int) (bad:Bool) (text:List Int):Option (Str×Int×Bool×List Int):=
 ((Zbd).bind fun l5LongBi=>
 (bif (decide ((w64 (sym-257))≥(l5LongBi.length:Int))) then (some (s,at_,true,text)) else
 ((Zbd).bind fun l5LongBi1=>
 ((ZcZ l5LongBi1 3).bind fun l5Base_=>
 (need (decide (0≤(w64 (sym-257)))&&decide ((w64 (sym-257))<l5Base_.length)) ((Zbd).bind fun l5LongBi2=>
 (need (decide (0≤(w64 (sym-257)))&&decide ((w64 (sym-257))<l5LongBi2.length)) ((Zfr (l5LongBi2.getD ((w64 (sym-257)).toNat) 0) s at_ bad).bind fun (r,r1,r2,r3)=>
 ((ZaW backs codes_ r1 r2 r3).bind fun (r4,r5,r6,r7)=>
 (bif r7 then (some (r5,r6,true,text)) else
 ((Zbe).bind fun l5BackBi=>
 (bif (decide (r4≥(l5BackBi.length:Int))) then (some (r5,r6,true,text)) else
 ((Zbe).bind fun l5BackBi1=>
 ((ZcZ l5BackBi1 1).bind fun l5Base_1=>
 (need (decide (0≤r4)&&decide (r4<l5Base_1.length)) ((Zbe).bind fun l5BackBi2=>
 (need (decide (0≤r4)&&decide (r4<l5BackBi2.length)) ((Zfr (l5BackBi2.getD r4.toNat 0) r5 r6 r7).bind fun (r8,r9,r10,r11)=>
 ((Ze1 0 (w64 ((l5Base_.getD ((w64 (sym-257)).toNat) 0)+r)) (w64 ((l5Base_1.getD r4.toNat 0)+r8)) text).bind fun (r12,r13)=>
 (bif (!r12) then (some (r9,r10,true,r13)) else
 (some (r9,r10,r11,r13))))))))))))))))))))))
def Zb9.l0.step (again:(List Int×List Int×Str×Int×Bool×List Int×List Int×List Int)→Option ((Str×Int×Bool×List Int)⊕(Str×Int×Bool×List Int))):(List Int×List Int×Str×Int×Bool×List Int×List Int×List Int)→Option ((Str×Int×Bool×List Int)⊕(Str×Int×Bool×List Int)):=fun (longs1,backs1,o,o1,o2,text1,a,b)=>
 ((bif (!o2) then (some (decide ((text1.length:Int)≤300))) else
 (some false)).bind fun c=>
 (bif c then ((ZaW longs1 a o o1 o2).bind fun (r,r1,r2,r3)=>
 ((bif r3 then (some true) else
 (some (r==256))).bind fun c1=>
 (bif c1 then ((some (r1,r2,r3,text1)).map Sum.inr) else
 (bif (decide (r<256)) then (need (fits (text1.length+([(IntKind.wrap .u8 r)]:List (Int)).length)) (again (longs1,backs1,r1,r2,r3,(text1++[(IntKind.wrap .u8 r)]),a,b))) else
 ((Zgk r backs1 b r1 r2 r3 text1).bind fun (r4,r5,r6,r7)=>
 (again (longs1,backs1,r4,r5,r6,r7,a,b))))))) else
 (some (.inl (o,o1,o2,text1)))))
def Zb9.l0:=ZaB Zb9.l0.step
theorem Zb9.l0.succ (n:Nat) t:Zb9.l0 (n+1) t=Zb9.l0.step (Zb9.l0 n) t:=rfl
def Zb9 (longs:List Int) (backs:List Int) (s:Str) (at_:Int) (bad:Bool) (text:List Int):Option (Str×Int×Bool×List Int):=
 ((ZaO longs).bind fun l3Codes_=>
 ((ZaO backs).bind fun l3Codes_1=>
 ((Zb9.l0 (100000) (longs,backs,s,at_,bad,text,l3Codes_,l3Codes_1)).bind fun r=>match r with
 | .inl (o3,o4,o5,text2)=>(some (o3,o4,true,text2))
 | .inr r=>some r)))
def ZdZ.l0.step (again:(Int×Int×Int×Str×Int×Bool×List Int)→Option (Str×Int×Bool×List Int)):(Int×Int×Int×Str×Int×Bool×List Int)→Option (Str×Int×Bool×List Int):=fun (last1,n1,i,o3,o4,o5,out2)=>
 ((bif (decide (i<n1)) then (some (!o5)) else
 (some false)).bind fun c1=>
 (bif c1 then (need (fits (out2.length+([last1]:List (Int)).length)) (again (last1,n1,(w64 (i+1)),o3,o4,o5,(out2++[last1])))) else
 (some (o3,o4,o5,out2))))
def ZdZ.l0:=ZaB ZdZ.l0.step
theorem ZdZ.l0.succ (n:Nat) t:ZdZ.l0 (n+1) t=ZdZ.l0.step (ZdZ.l0 n) t:=rfl
def ZdZ (sym:Int) (s:Str) (at_:Int) (bad:Bool) (out:List Int):Option (Str×Int×Bool×List Int):=
 ((((bif (sym==16) then (some ((out.length:Int)==0)) else
 (some false)).bind fun c=>
 (bif c then (some (0,0,s,at_,true,out)) else
 (bif (sym==16) then (need (decide (0≤(w64 ((out.length:Int)-1)))&&decide ((w64 ((out.length:Int)-1))<out.length)) ((Zfr 2 s at_ bad).bind fun (r,r1,r2,r3)=>
 (some ((out.getD ((w64 ((out.length:Int)-1)).toNat) 0),(w64 (3+r)),r1,r2,r3,out)))) else
 (bif (sym==17) then ((Zfr 3 s at_ bad).bind fun (r4,r5,r6,r7)=>
 (some (0,(w64 (3+r4)),r5,r6,r7,out))) else
 (bif (sym==18) then ((Zfr 7 s at_ bad).bind fun (r8,r9,r10,r11)=>
 (some (0,(w64 (11+r8)),r9,r10,r11,out))) else
 (some (sym,1,s,at_,bad,out))))))):Option (Int×Int×Str×Int×Bool×List Int)).bind fun (last,n,o,o1,o2,out1)=>
 ((ZdZ.l0 ((n-(0:Int)).toNat+1) (last,n,0,o,o1,o2,out1)).bind fun (o6,o7,o8,out3)=>
 (some (o6,o7,o8,out3))))
def Zc4.l1.step (again:(Int×Int×Str×Int×Bool×List Int×List Int×List Int)→Option (Int×Int×Str×Int×Bool×List Int)):(Int×Int×Str×Int×Bool×List Int×List Int×List Int)→Option (Int×Int×Str×Int×Bool×List Int):=fun (long2,back2,o6,o7,o8,lens2,codes_,all)=>
 ((bif (decide ((all.length:Int)<(w64 (long2+back2)))) then (some (!o8)) else
 (some false)).bind fun c1=>
 (bif c1 then ((ZaW lens2 codes_ o6 o7 o8).bind fun (r16,r17,r18,r19)=>
 ((ZdZ r16 r17 r18 r19 all).bind fun (r20,r21,r22,r23)=>
 (again (long2,back2,r20,r21,r22,lens2,codes_,r23)))) else
 (some (long2,back2,o6,o7,o8,all))))
def Zc4.l1:=ZaB Zc4.l1.step
theorem Zc4.l1.succ (n:Nat) t:Zc4.l1 (n+1) t=Zc4.l1.step (Zc4.l1 n) t:=rfl
def Zc4.l0.step (again:(Int×Int×Int×Int×Str×Int×Bool×List Int)→Option (Int×Int×Str×Int×Bool×List Int)):(Int×Int×Int×Int×Str×Int×Bool×List Int)→Option (Int×Int×Str×Int×Bool×List Int):=fun (long,back,n,i,o,o1,o2,lens)=>
 (bif (decide (i<n)) then ((ZdB).bind fun l5Order_=>
 (need (decide (0≤i)&&decide (i<l5Order_.length)) ((Zfr 3 o o1 o2).bind fun (r12,r13,r14,r15)=>
 (need (decide (0≤(l5Order_.getD i.toNat 0))&&decide ((l5Order_.getD i.toNat 0)<lens.length)) (again (long,back,n,(w64 (i+1)),r13,r14,r15,(lens.set ((l5Order_.getD i.toNat 0).toNat) r12))))))) else
 (some (long,back,o,o1,o2,lens)))
def Zc4.l0:=ZaB Zc4.l0.step
theorem Zc4.l0.succ (n:Nat) t:Zc4.l0 (n+1) t=Zc4.l0.step (Zc4.l0 n) t:=rfl
def Zc4 (s:Str) (at_:Int) (bad:Bool):Option (List Int×List Int×Str×Int×Bool):=
 ((Zfr 5 s at_ bad).bind fun (r,r1,r2,r3)=>
 ((Zfr 5 r1 r2 r3).bind fun (r4,r5,r6,r7)=>
 ((Zfr 4 r5 r6 r7).bind fun (r8,r9,r10,r11)=>
 (need (decide (0≤19)&&fits 19) ((Zc4.l0 (((w64 (4+r8))-(0:Int)).toNat+1) ((w64 (257+r)),(w64 (1+r4)),(w64 (4+r8)),0,r9,r10,r11,(List.replicate 19 (0:Int)))).bind fun (long1,back1,o3,o4,o5,lens1)=>
 (((ZaS lens1).bind fun LensOk=>
 (bif (!LensOk) then (some true) else
 (bif (decide (long1>286)) then (some true) else
 (some (decide (back1>30)))))).bind fun c=>
 (bif c then (some ([],[],o3,o4,true)) else
 ((ZaO lens1).bind fun l3Codes_=>
 ((Zc4.l1 (((w64 (long1+back1))-(([]:List Int).length:Int)).toNat+1) (long1,back1,o3,o4,o5,lens1,l3Codes_,[])).bind fun (long3,back3,o9,o10,o11,all1)=>
 ((bif o11 then (some true) else
 (bif ((all1.length:Int) != (w64 (long3+back3))) then (some true) else
 (need (decide (0≤long3)&&decide (long3≤all1.length)) ((ZaS ((all1.drop 0).take long3.toNat)).bind fun LensOk1=>
 (bif (!LensOk1) then (some true) else
 (need (decide (0≤long3)&&decide (long3≤all1.length)) ((ZaS ((all1.drop long3.toNat).take (all1.length-long3.toNat))).bind fun LensOk2=>
 (some (!LensOk2))))))))).bind fun c2=>
 (bif c2 then (some ([],[],o9,o10,true)) else
 (need (decide (0≤long3)&&decide (long3≤all1.length)) (need (decide (0≤long3)&&decide (long3≤all1.length)) (some (((all1.drop 0).take long3.toNat),((all1.drop long3.toNat).take (all1.length-long3.toNat)),o9,o10,o11)))))))))))))))
def Zjs (s:Str) (at_:Int) (bad:Bool) (text:List Int):Option (Bool×Str×Int×Bool×List Int):=
 ((Zkv s at_ bad).bind fun (r,r1,r2,r3)=>
 ((Zfr 2 r1 r2 r3).bind fun (r4,r5,r6,r7)=>
 (bif (r4==0) then ((ZbS r5 r6 r7 text).bind fun (r8,r9,r10,r11)=>
 (some ((r==1),r8,r9,r10,r11))) else
 (bif (r4==1) then ((Zc5).bind fun l5Fixed_=>
 ((Zc6).bind fun l5Fives_=>
 ((Zb9 l5Fixed_ l5Fives_ r5 r6 r7 text).bind fun (r12,r13,r14,r15)=>
 (some ((r==1),r12,r13,r14,r15))))) else
 (bif (r4==2) then ((Zc4 r5 r6 r7).bind fun (r16,r17,r18,r19,r20)=>
 (bif (!r20) then ((Zb9 r16 r17 r18 r19 r20 text).bind fun (r21,r22,r23,r24)=>
 (some ((r==1),r21,r22,r23,r24))) else
 (some ((r==1),r18,r19,r20,text)))) else
 (some ((r==1),r5,r6,true,text)))))))
def ZeN.l0.step (again:(Bool×Str×Int×Bool×List Int)→Option (Str×Int×Bool×List Int)):(Bool×Str×Int×Bool×List Int)→Option (Str×Int×Bool×List Int):=fun (last,o,o1,o2,out)=>
 ((bif (!last) then (some (!o2)) else
 (some false)).bind fun c=>
 (bif c then ((Zjs o o1 o2 out).bind fun (r,r1,r2,r3,r4)=>
 (again (r,r1,r2,r3,r4))) else
 (some (o,o1,o2,out))))
def ZeN.l0:=ZaB ZeN.l0.step
theorem ZeN.l0.succ (n:Nat) t:ZeN.l0 (n+1) t=ZeN.l0.step (ZeN.l0 n) t:=rfl
def ZeN (text:Str):Option (Str×Int×Bool):=
 ((ZeN.l0 (100000) (false,text,0,false,[])).bind fun (o3,o4,o5,out1)=>
 ((ZcX o3 o4 o5).bind fun (r5,r6,r7,r8)=>
 ((bif r8 then (some true) else
 (bif (!r5) then (some true) else
 (some (decide ((out1.length:Int)>300))))).bind fun c1=>
 (bif c1 then (some ([],0,false)) else
 (some ((Zcn out1),(w64 (r7.tdiv 8)),true))))))
def Zba (text:Str):Option (Str×Int×Bool):=
 (bif (decide ((text.length:Int)>700)) then (some ([],0,false)) else
 ((ZeN text).bind fun (r,r1,r2)=>
 (some (r,r1,r2))))
def ZgW (year:Int) (month:Int):Option (Int):=
 (((bif (month==4) then (some (year,month,(month==4))) else
 (bif (month==6) then (some (year,month,(month==6))) else
 (bif (month==9) then (some (year,month,(month==9))) else
 (some (year,month,(month==11)))))):Option (Int×Int×Bool)).bind fun (year1,t,t1)=>
 (bif t1 then (some 30) else
 (bif (t==2) then ((bif ((year1.tmod 4)==0) then (bif ((year1.tmod 100) != 0) then (some true) else
 (some ((year1.tmod 400)==0))) else
 (some false)).bind fun c=>
 (bif c then (some 29) else
 (some 28))) else
 (some 31))))
def Zb1 (y:Int) (mo:Int) (d:Int) (h:Int) (mi:Int) (sec:Int):Option (Bool):=
 (((ZhI y 1980 2107).bind fun l1In_=>
 (bif l1In_ then ((ZhI mo 1 12).bind fun l1In_1=>
 (bif l1In_1 then ((ZgW y mo).bind fun l6Days_=>
 ((ZhI d 1 l6Days_).bind fun l1In_2=>
 (some l1In_2))) else
 (some false))) else
 (some false))).bind fun day=>
 ((bif day then ((ZhI h 0 23).bind fun l1In_3=>
 (bif l1In_3 then ((ZhI mi 0 59).bind fun l1In_4=>
 (bif l1In_4 then ((ZhI sec 0 58).bind fun l1In_5=>
 (bif l1In_5 then (some ((sec.tmod 2)==0)) else
 (some false))) else
 (some false))) else
 (some false))) else
 (some false)).bind fun c=>
 (some c)))
def ZjE (y:Int) (mo:Int) (d:Int) (h:Int) (mi:Int) (sec:Int):Option (Int):=
 (some (w64 ((w64 ((w64 ((w64 ((w64 ((w64 ((w64 ((w64 ((w64 ((w64 ((w64 (y-1980))*16))+mo))*32))+d))*32))+h))*64))+mi))*32))+(w64 (sec.tdiv 2)))))
def ZjF (n:Int):Option (Int×Int×Int×Int×Int×Int):=
 (some ((w64 ((w64 ((w64 ((w64 ((w64 ((w64 (n.tdiv 32)).tdiv 64)).tdiv 32)).tdiv 32)).tdiv 16))+1980)),((w64 ((w64 ((w64 ((w64 (n.tdiv 32)).tdiv 64)).tdiv 32)).tdiv 32)).tmod 16),((w64 ((w64 ((w64 (n.tdiv 32)).tdiv 64)).tdiv 32)).tmod 32),((w64 ((w64 (n.tdiv 32)).tdiv 64)).tmod 32),((w64 (n.tdiv 32)).tmod 64),(w64 (2*(n.tmod 32)))))
def ZaL (name:Str) (y:Int) (mo:Int) (d:Int) (h:Int) (mi:Int) (sec:Int) (text:Str):Option (Bool):=
 (((Zap name).bind fun NameOk=>
 (bif NameOk then ((Zb1 y mo d h mi sec).bind fun StampOk=>
 (bif StampOk then (some (decide ((text.length:Int)≤300))) else
 (some false))) else
 (some false))).bind fun c=>
 (some c))
def Zax.l0.step (again:(Int×Int×Int×List Int)→Option (List Int)):(Int×Int×Int×List Int)→Option (List Int):=fun (n1,many1,i,out)=>
 (bif (decide (i<many1)) then (need (fits (out.length+([(IntKind.wrap .u8 (n1.tmod 256))]:List (Int)).length)) (again ((w64 (n1.tdiv 256)),many1,(w64 (i+1)),(out++[(IntKind.wrap .u8 (n1.tmod 256))])))) else
 (some out))
def Zax.l0:=ZaB Zax.l0.step
theorem Zax.l0.succ (n:Nat) t:Zax.l0 (n+1) t=Zax.l0.step (Zax.l0 n) t:=rfl
def Zax (n:Int) (many:Int):Option (Str):=
 ((Zax.l0 ((many-(0:Int)).toNat+1) (n,many,0,[])).bind fun out1=>
 (some (Zcn out1)))
def Zch.l0.step (again:(Str×Int×Int×Int)→Option (Int)):(Str×Int×Int×Int)→Option (Int):=fun (s1,at_1,n,i)=>
 (bif (decide (i≥0)) then (need (decide (0≤(w64 (at_1+i)))&&decide ((w64 (at_1+i))<s1.length)) (again (s1,at_1,(w64 ((w64 (256*n))+(w64 ((s1.getD (w64 (at_1+i)).toNat 0).toNat:Int)))),(w64 (i-1))))) else
 (some n))
def Zch.l0:=ZaB Zch.l0.step
theorem Zch.l0.succ (n:Nat) t:Zch.l0 (n+1) t=Zch.l0.step (Zch.l0 n) t:=rfl
def Zch (s:Str) (at_:Int) (many:Int):Option (Int):=
 ((bif (decide (at_<0)) then (some true) else
 (some (decide ((w64 (at_+many))>(s.length:Int))))).bind fun c=>
 (bif c then (some (-1)) else
 ((Zch.l0 (((w64 (many-1))-0).toNat+2) (s,at_,0,(w64 (many-1)))).bind fun n1=>
 (some n1))))
def ZhH (text:Str):Option (Int×Str):=
 ((Zak text).bind fun FlatePut=>
 (bif (decide ((FlatePut.length:Int)<(text.length:Int))) then (some (8,FlatePut)) else
 (some (0,text))))
def ZcO (name:Str) (y:Int) (mo:Int) (d:Int) (h:Int) (mi:Int) (sec:Int) (text:Str):Option (Str):=
 ((ZhH text).bind fun (r,r1)=>
 ((Zax 20 2).bind fun l6Bytes_=>
 ((Zax 0 2).bind fun l6Bytes_1=>
 (need (fits (l6Bytes_.length+l6Bytes_1.length)) ((Zax r 2).bind fun l6Bytes_2=>
 (need (fits ((l6Bytes_++l6Bytes_1).length+l6Bytes_2.length)) ((ZjE y mo d h mi sec).bind fun l6Put_=>
 ((Zax l6Put_ 4).bind fun l6Bytes_3=>
 (need (fits (((l6Bytes_++l6Bytes_1)++l6Bytes_2).length+l6Bytes_3.length)) ((ZcR text).bind fun Crc=>
 ((Zax Crc 4).bind fun l6Bytes_4=>
 (need (fits ((((l6Bytes_++l6Bytes_1)++l6Bytes_2)++l6Bytes_3).length+l6Bytes_4.length)) ((Zax (r1.length:Int) 4).bind fun l6Bytes_5=>
 (need (fits (((((l6Bytes_++l6Bytes_1)++l6Bytes_2)++l6Bytes_3)++l6Bytes_4).length+l6Bytes_5.length)) ((Zax (text.length:Int) 4).bind fun l6Bytes_6=>
 (need (fits ((((((l6Bytes_++l6Bytes_1)++l6Bytes_2)++l6Bytes_3)++l6Bytes_4)++l6Bytes_5).length+l6Bytes_6.length)) ((Zax (name.length:Int) 2).bind fun l6Bytes_7=>
 (need (fits (((((((l6Bytes_++l6Bytes_1)++l6Bytes_2)++l6Bytes_3)++l6Bytes_4)++l6Bytes_5)++l6Bytes_6).length+l6Bytes_7.length)) ((Zax 0 2).bind fun l6Bytes_8=>
 (need (fits ((((((((l6Bytes_++l6Bytes_1)++l6Bytes_2)++l6Bytes_3)++l6Bytes_4)++l6Bytes_5)++l6Bytes_6)++l6Bytes_7).length+l6Bytes_8.length)) (some ((((((((l6Bytes_++l6Bytes_1)++l6Bytes_2)++l6Bytes_3)++l6Bytes_4)++l6Bytes_5)++l6Bytes_6)++l6Bytes_7)++l6Bytes_8))))))))))))))))))))))
def ZeD (name:Str) (y:Int) (mo:Int) (d:Int) (h:Int) (mi:Int) (sec:Int) (text:Str):Option (Str):=
 ((ZhH text).bind fun (r,r1)=>
 ((Zax 67324752 4).bind fun l6Bytes_=>
 ((ZcO name y mo d h mi sec text).bind fun l6Fields_=>
 (need (fits (l6Bytes_.length+l6Fields_.length)) (need (fits ((l6Bytes_++l6Fields_).length+name.length)) (need (fits (((l6Bytes_++l6Fields_)++name).length+r1.length)) (some (((l6Bytes_++l6Fields_)++name)++r1))))))))
def Zgp (how:Int) (packed:Str):Option (Str×Bool):=
 (bif (how==0) then (some (packed,true)) else
 ((Zba packed).bind fun (r,r1,r2)=>
 ((bif r2 then (bif (how==8) then (some (r,(r1==(packed.length:Int)))) else
 (some (r,false))) else
 (some (r,false))).bind fun (c,c1)=>
 (some (c,c1)))))
def ZeS (text:Str):Option (Str×Int×Int×Int×Int×Int×Int×Str×Int×Bool):=
 ((Zch text 26 2).bind fun l6Num_=>
 ((Zch text 18 4).bind fun l6Num_1=>
 (((Zch text 0 4).bind fun l6Num_2=>
 (bif (l6Num_2==67324752) then ((Zch text 4 2).bind fun l6Num_3=>
 (bif (l6Num_3==20) then ((Zch text 6 2).bind fun l6Num_4=>
 (bif (l6Num_4==0) then ((Zch text 28 2).bind fun l6Num_5=>
 (some (l6Num_5==0))) else
 (some false))) else
 (some false))) else
 (some false))).bind fun head=>
 ((bif (!head) then (some true) else
 (bif (decide (l6Num_<0)) then (some true) else
 (bif (decide (l6Num_1<0)) then (some true) else
 (some (decide ((w64 ((w64 (30+l6Num_))+l6Num_1))>(text.length:Int))))))).bind fun c=>
 (bif c then (some ([],0,0,0,0,0,0,[],0,false)) else
 (need (decide (0≤(w64 (30+l6Num_)))&&decide ((w64 (30+l6Num_))≤text.length)) (need (decide (0≤(30:Int))&&decide ((30:Int)≤(w64 (30+l6Num_)))) ((Zch text 10 4).bind fun l6Num_6=>
 ((ZjF l6Num_6).bind fun (r,r1,r2,r3,r4,r5)=>
 ((Zch text 8 2).bind fun l6Num_7=>
 (need (decide (0≤(w64 ((w64 (30+l6Num_))+l6Num_1)))&&decide ((w64 ((w64 (30+l6Num_))+l6Num_1))≤text.length)) (need (decide (0≤(w64 (30+l6Num_)))&&decide ((w64 (30+l6Num_))≤(w64 ((w64 (30+l6Num_))+l6Num_1)))) ((Zgp l6Num_7 ((text.take (w64 ((w64 (30+l6Num_))+l6Num_1)).toNat).drop (w64 (30+l6Num_)).toNat)).bind fun (r6,r7)=>
 ((bif r7 then ((Zch text 14 4).bind fun l6Num_8=>
 ((ZcR r6).bind fun Crc=>
 (bif (l6Num_8==Crc) then ((Zch text 22 4).bind fun l6Num_9=>
 (some (l6Num_9==(r6.length:Int)))) else
 (some false)))) else
 (some false)).bind fun ok=>
 (bif ok then ((ZaL ((text.take (w64 (30+l6Num_)).toNat).drop 30) r r1 r2 r3 r4 r5 r6).bind fun EntryOk=>
 (some (((text.take (w64 (30+l6Num_)).toNat).drop 30),r,r1,r2,r3,r4,r5,r6,(w64 ((w64 (30+l6Num_))+l6Num_1)),EntryOk))) else
 (some (((text.take (w64 (30+l6Num_)).toNat).drop 30),r,r1,r2,r3,r4,r5,r6,(w64 ((w64 (30+l6Num_))+l6Num_1)),false)))))))))))))))))
def Zfz.l0.step (again:((List (Str×Int×Int×Int×Int×Int×Int×Str))×Str×Int)→Option ((Unit)⊕(Int))):((List (Str×Int×Int×Int×Int×Int×Int×Str))×Str×Int)→Option ((Unit)⊕(Int)):=fun (list1,name1,i)=>
 (bif (decide (i<(list1.length:Int))) then (need (decide (0≤i)&&decide (i<list1.length)) (bif ((list1.getD i.toNat ([],0,0,0,0,0,0,[])).1==name1) then ((some i).map Sum.inr) else
 (again (list1,name1,(w64 (i+1)))))) else
 (some (.inl ())))
def Zfz.l0:=ZaB Zfz.l0.step
theorem Zfz.l0.succ (n:Nat) t:Zfz.l0 (n+1) t=Zfz.l0.step (Zfz.l0 n) t:=rfl
def Zfz (list:List (Str×Int×Int×Int×Int×Int×Int×Str)) (name:Str):Option (Int):=
 ((Zfz.l0 (((list.length:Int)-(0:Int)).toNat+1) (list,name,0)).bind fun r=>match r with
 | .inl _=>(some (-1))
 | .inr r=>some r)
def ZaC.l0.step (again:((List (Str×Int×Int×Int×Int×Int×Int×Str))×Int×Int)→Option (((List (Str×Int×Int×Int×Int×Int×Int×Str))×Int)⊕((List (Str×Int×Int×Int×Int×Int×Int×Str))⊕(Bool)))):((List (Str×Int×Int×Int×Int×Int×Int×Str))×Int×Int)→Option (((List (Str×Int×Int×Int×Int×Int×Int×Str))×Int)⊕((List (Str×Int×Int×Int×Int×Int×Int×Str))⊕(Bool))):=fun (list2,i1,k)=>
 (bif (decide (k<(list2.length:Int))) then (need (decide (0≤i1)&&decide (i1<list2.length)) (need (decide (0≤k)&&decide (k<list2.length)) ((Zdr ((list2.getD i1.toNat ([],0,0,0,0,0,0,[])).1) ((list2.getD k.toNat ([],0,0,0,0,0,0,[])).1)).bind fun l7Under_=>
 (bif l7Under_ then (((some false).map Sum.inr).map Sum.inr) else
 (again (list2,i1,(w64 (k+1)))))))) else
 (some (.inl (list2,i1))))
def ZaC.l0:=ZaB ZaC.l0.step
theorem ZaC.l0.succ (n:Nat) t:ZaC.l0 (n+1) t=ZaC.l0.step (ZaC.l0 n) t:=rfl
def ZaC.l1.step (again:((List (Str×Int×Int×Int×Int×Int×Int×Str))×Int)→Option ((List (Str×Int×Int×Int×Int×Int×Int×Str))⊕(Bool))):((List (Str×Int×Int×Int×Int×Int×Int×Str))×Int)→Option ((List (Str×Int×Int×Int×Int×Int×Int×Str))⊕(Bool)):=fun (list1,i)=>
 (bif (decide (i<(list1.length:Int))) then ((need (decide (0≤i)&&decide (i<list1.length)) ((ZaL ((list1.getD i.toNat ([],0,0,0,0,0,0,[])).1) ((list1.getD i.toNat ([],0,0,0,0,0,0,[])).2.1) ((list1.getD i.toNat ([],0,0,0,0,0,0,[])).2.2.1) ((list1.getD i.toNat ([],0,0,0,0,0,0,[])).2.2.2.1) ((list1.getD i.toNat ([],0,0,0,0,0,0,[])).2.2.2.2.1) ((list1.getD i.toNat ([],0,0,0,0,0,0,[])).2.2.2.2.2.1) ((list1.getD i.toNat ([],0,0,0,0,0,0,[])).2.2.2.2.2.2.1) ((list1.getD i.toNat ([],0,0,0,0,0,0,[])).2.2.2.2.2.2.2)).bind fun EntryOk=>
 (bif (!EntryOk) then (some true) else
 (need (decide (0≤i)&&decide (i<list1.length)) ((Zfz list1 ((list1.getD i.toNat ([],0,0,0,0,0,0,[])).1)).bind fun l7At_=>
 (some (l7At_ != i))))))).bind fun c=>
 (bif c then ((some false).map Sum.inr) else
 ((ZaC.l0 (((list1.length:Int)-(0:Int)).toNat+1) (list1,i,0)).bind fun r=>match r with
 | .inl (list3,i2)=>(again (list3,(w64 (i2+1))))
 | .inr r=>some r))) else
 (some (.inl list1)))
def ZaC.l1:=ZaB ZaC.l1.step
theorem ZaC.l1.succ (n:Nat) t:ZaC.l1 (n+1) t=ZaC.l1.step (ZaC.l1 n) t:=rfl
def ZaC (list:List (Str×Int×Int×Int×Int×Int×Int×Str)):Option (Bool):=
 ((ZaC.l1 (((list.length:Int)-(0:Int)).toNat+1) (list,0)).bind fun r=>match r with
 | .inl list4=>(some (decide ((list4.length:Int)≤6)))
 | .inr r=>some r)
def ZcY (name:Str) (y:Int) (mo:Int) (d:Int) (h:Int) (mi:Int) (sec:Int) (text:Str) (at_:Int):Option (Str):=
 ((Zax 33639248 4).bind fun l6Bytes_=>
 ((Zax 20 2).bind fun l6Bytes_1=>
 (need (fits (l6Bytes_.length+l6Bytes_1.length)) ((ZcO name y mo d h mi sec text).bind fun l6Fields_=>
 (need (fits ((l6Bytes_++l6Bytes_1).length+l6Fields_.length)) ((Zax 0 2).bind fun l6Bytes_2=>
 (need (fits (((l6Bytes_++l6Bytes_1)++l6Fields_).length+l6Bytes_2.length)) ((Zax 0 2).bind fun l6Bytes_3=>
 (need (fits ((((l6Bytes_++l6Bytes_1)++l6Fields_)++l6Bytes_2).length+l6Bytes_3.length)) ((Zax 0 2).bind fun l6Bytes_4=>
 (need (fits (((((l6Bytes_++l6Bytes_1)++l6Fields_)++l6Bytes_2)++l6Bytes_3).length+l6Bytes_4.length)) ((Zax 0 4).bind fun l6Bytes_5=>
 (need (fits ((((((l6Bytes_++l6Bytes_1)++l6Fields_)++l6Bytes_2)++l6Bytes_3)++l6Bytes_4).length+l6Bytes_5.length)) ((Zax at_ 4).bind fun l6Bytes_6=>
 (need (fits (((((((l6Bytes_++l6Bytes_1)++l6Fields_)++l6Bytes_2)++l6Bytes_3)++l6Bytes_4)++l6Bytes_5).length+l6Bytes_6.length)) (need (fits ((((((((l6Bytes_++l6Bytes_1)++l6Fields_)++l6Bytes_2)++l6Bytes_3)++l6Bytes_4)++l6Bytes_5)++l6Bytes_6).length+name.length)) (some ((((((((l6Bytes_++l6Bytes_1)++l6Fields_)++l6Bytes_2)++l6Bytes_3)++l6Bytes_4)++l6Bytes_5)++l6Bytes_6)++name))))))))))))))))))
def ZhG (many:Int) (long:Int) (at_:Int):Option (Str):=
 ((Zax 101010256 4).bind fun l6Bytes_=>
 ((Zax 0 2).bind fun l6Bytes_1=>
 (need (fits (l6Bytes_.length+l6Bytes_1.length)) ((Zax 0 2).bind fun l6Bytes_2=>
 (need (fits ((l6Bytes_++l6Bytes_1).length+l6Bytes_2.length)) ((Zax many 2).bind fun l6Bytes_3=>
 (need (fits (((l6Bytes_++l6Bytes_1)++l6Bytes_2).length+l6Bytes_3.length)) ((Zax many 2).bind fun l6Bytes_4=>
 (need (fits ((((l6Bytes_++l6Bytes_1)++l6Bytes_2)++l6Bytes_3).length+l6Bytes_4.length)) ((Zax long 4).bind fun l6Bytes_5=>
 (need (fits (((((l6Bytes_++l6Bytes_1)++l6Bytes_2)++l6Bytes_3)++l6Bytes_4).length+l6Bytes_5.length)) ((Zax at_ 4).bind fun l6Bytes_6=>
 (need (fits ((((((l6Bytes_++l6Bytes_1)++l6Bytes_2)++l6Bytes_3)++l6Bytes_4)++l6Bytes_5).length+l6Bytes_6.length)) ((Zax 0 2).bind fun l6Bytes_7=>
 (need (fits (((((((l6Bytes_++l6Bytes_1)++l6Bytes_2)++l6Bytes_3)++l6Bytes_4)++l6Bytes_5)++l6Bytes_6).length+l6Bytes_7.length)) (some (((((((l6Bytes_++l6Bytes_1)++l6Bytes_2)++l6Bytes_3)++l6Bytes_4)++l6Bytes_5)++l6Bytes_6)++l6Bytes_7)))))))))))))))))
def ZcS.l0.step (again:((List (Str×Int×Int×Int×Int×Int×Int×Str))×Str×Str×Int)→Option ((List (Str×Int×Int×Int×Int×Int×Int×Str))×Str×Str)):((List (Str×Int×Int×Int×Int×Int×Int×Str))×Str×Str×Int)→Option ((List (Str×Int×Int×Int×Int×Int×Int×Str))×Str×Str):=fun (list1,out,heads,i)=>
 (bif (decide (i<(list1.length:Int))) then (need (decide (0≤i)&&decide (i<list1.length)) ((ZcY ((list1.getD i.toNat ([],0,0,0,0,0,0,[])).1) ((list1.getD i.toNat ([],0,0,0,0,0,0,[])).2.1) ((list1.getD i.toNat ([],0,0,0,0,0,0,[])).2.2.1) ((list1.getD i.toNat ([],0,0,0,0,0,0,[])).2.2.2.1) ((list1.getD i.toNat ([],0,0,0,0,0,0,[])).2.2.2.2.1) ((list1.getD i.toNat ([],0,0,0,0,0,0,[])).2.2.2.2.2.1) ((list1.getD i.toNat ([],0,0,0,0,0,0,[])).2.2.2.2.2.2.1) ((list1.getD i.toNat ([],0,0,0,0,0,0,[])).2.2.2.2.2.2.2) (out.length:Int)).bind fun l7Centra=>
 (need (fits (heads.length+l7Centra.length)) (need (decide (0≤i)&&decide (i<list1.length)) ((ZeD ((list1.getD i.toNat ([],0,0,0,0,0,0,[])).1) ((list1.getD i.toNat ([],0,0,0,0,0,0,[])).2.1) ((list1.getD i.toNat ([],0,0,0,0,0,0,[])).2.2.1) ((list1.getD i.toNat ([],0,0,0,0,0,0,[])).2.2.2.1) ((list1.getD i.toNat ([],0,0,0,0,0,0,[])).2.2.2.2.1) ((list1.getD i.toNat ([],0,0,0,0,0,0,[])).2.2.2.2.2.1) ((list1.getD i.toNat ([],0,0,0,0,0,0,[])).2.2.2.2.2.2.1) ((list1.getD i.toNat ([],0,0,0,0,0,0,[])).2.2.2.2.2.2.2)).bind fun l6Local_=>
 (need (fits (out.length+l6Local_.length)) (again (list1,(out++l6Local_),(heads++l7Centra),(w64 (i+1)))))))))) else
 (some (list1,out,heads)))
def ZcS.l0:=ZaB ZcS.l0.step
theorem ZcS.l0.succ (n:Nat) t:ZcS.l0 (n+1) t=ZcS.l0.step (ZcS.l0 n) t:=rfl
def ZcS (list:List (Str×Int×Int×Int×Int×Int×Int×Str)):Option (Str):=
 ((ZcS.l0 (((list.length:Int)-(0:Int)).toNat+1) (list,[],[],0)).bind fun (list2,out1,heads1)=>
 (need (fits (out1.length+heads1.length)) ((ZhG (list2.length:Int) (heads1.length:Int) (out1.length:Int)).bind fun l7End_=>
 (need (fits ((out1++heads1).length+l7End_.length)) (some ((out1++heads1)++l7End_))))))
def Zfi.l0.step (again:(Str×Int×Int×Int×List (Str×Int×Int×Int×Int×Int×Int×Str))→Option ((Int×List (Str×Int×Int×Int×Int×Int×Int×Str))⊕(Int×Bool×List (Str×Int×Int×Int×Int×Int×Int×Str)))):(Str×Int×Int×Int×List (Str×Int×Int×Int×Int×Int×Int×Str))→Option ((Int×List (Str×Int×Int×Int×Int×Int×Int×Str))⊕(Int×Bool×List (Str×Int×Int×Int×Int×Int×Int×Str))):=fun (text1,many1,at_,i,out)=>
 (bif (decide (i<many1)) then (need (decide (0≤at_)&&decide (at_≤text1.length)) ((ZeS (text1.drop at_.toNat)).bind fun (r,r1,r2,r3,r4,r5,r6,r7,r8,r9)=>
 (bif (!r9) then ((some (at_,false,out)).map Sum.inr) else
 (need (fits (out.length+([(r,r1,r2,r3,r4,r5,r6,r7)]:List (Str×Int×Int×Int×Int×Int×Int×Str)).length)) (again (text1,many1,(w64 (at_+r8)),(w64 (i+1)),(out++[(r,r1,r2,r3,r4,r5,r6,r7)]))))))) else
 (some (.inl (at_,out))))
def Zfi.l0:=ZaB Zfi.l0.step
theorem Zfi.l0.succ (n:Nat) t:Zfi.l0 (n+1) t=Zfi.l0.step (Zfi.l0 n) t:=rfl
def Zfi (text:Str) (many:Int):Option (Int×Bool×List (Str×Int×Int×Int×Int×Int×Int×Str)):=
 ((Zfi.l0 ((many-(0:Int)).toNat+1) (text,many,0,0,[])).bind fun r=>match r with
 | .inl (at_1,out1)=>(some (at_1,true,out1))
 | .inr r=>some r)
def Zgo (text:Str) (head:Int) (at_:Int):Option (Int×Bool):=
 ((Zch text (w64 (head+28)) 2).bind fun l6Num_=>
 ((bif (decide (l6Num_<0)) then (some true) else
 (bif (decide ((w64 (head+(w64 (46+l6Num_))))>(text.length:Int))) then (some true) else
 (some (decide ((w64 ((w64 (at_+30))+l6Num_))>(text.length:Int)))))).bind fun c=>
 (bif c then (some (0,false)) else
 ((need (decide (0≤(w64 (head+32)))&&decide ((w64 (head+32))≤text.length)) (need (decide (0≤(w64 (head+6)))&&decide ((w64 (head+6))≤(w64 (head+32)))) (need (decide (0≤(w64 (at_+30)))&&decide ((w64 (at_+30))≤text.length)) (need (decide (0≤(w64 (at_+4)))&&decide ((w64 (at_+4))≤(w64 (at_+30)))) (bif (((text.take (w64 (head+32)).toNat).drop (w64 (head+6)).toNat)==((text.take (w64 (at_+30)).toNat).drop (w64 (at_+4)).toNat)) then (need (decide (0≤(w64 (head+(w64 (46+l6Num_)))))&&decide ((w64 (head+(w64 (46+l6Num_))))≤text.length)) (need (decide (0≤(w64 (head+46)))&&decide ((w64 (head+46))≤(w64 (head+(w64 (46+l6Num_)))))) (need (decide (0≤(w64 ((w64 (at_+30))+l6Num_)))&&decide ((w64 ((w64 (at_+30))+l6Num_))≤text.length)) (need (decide (0≤(w64 (at_+30)))&&decide ((w64 (at_+30))≤(w64 ((w64 (at_+30))+l6Num_)))) (some (((text.take (w64 (head+(w64 (46+l6Num_)))).toNat).drop (w64 (head+46)).toNat)==((text.take (w64 ((w64 (at_+30))+l6Num_)).toNat).drop (w64 (at_+30)).toNat))))))) else
 (some false)))))).bind fun same=>
 ((need (decide (0≤(w64 (head+6)))&&decide ((w64 (head+6))≤text.length)) (need (decide (0≤head)&&decide (head≤(w64 (head+6)))) ((Zax 33639248 4).bind fun l6Bytes_=>
 ((Zax 20 2).bind fun l6Bytes_1=>
 (need (fits (l6Bytes_.length+l6Bytes_1.length)) (bif (((text.take (w64 (head+6)).toNat).drop head.toNat)==(l6Bytes_++l6Bytes_1)) then (need (decide (0≤(w64 (head+46)))&&decide ((w64 (head+46))≤text.length)) (need (decide (0≤(w64 (head+32)))&&decide ((w64 (head+32))≤(w64 (head+46)))) ((Zax 0 10).bind fun l6Bytes_2=>
 ((Zax at_ 4).bind fun l6Bytes_3=>
 (need (fits (l6Bytes_2.length+l6Bytes_3.length)) (some (((text.take (w64 (head+46)).toNat).drop (w64 (head+32)).toNat)==(l6Bytes_2++l6Bytes_3)))))))) else
 (some false))))))).bind fun rest=>
 ((bif same then (some ((w64 (46+l6Num_)),rest)) else
 (some ((w64 (46+l6Num_)),false))).bind fun (c1,c2)=>
 (some (c1,c2))))))))
def Zao.l0.step (again:(Str×Int×Int×Int×Int×Int×List (Str×Int×Int×Int×Int×Int×Int×Str))→Option ((Str×Int×Int×Int×List (Str×Int×Int×Int×Int×Int×Int×Str))⊕(Bool×List (Str×Int×Int×Int×Int×Int×Int×Str)))):(Str×Int×Int×Int×Int×Int×List (Str×Int×Int×Int×Int×Int×Int×Str))→Option ((Str×Int×Int×Int×List (Str×Int×Int×Int×Int×Int×Int×Str))⊕(Bool×List (Str×Int×Int×Int×Int×Int×Int×Str))):=fun (text1,many,at_,head,own,i,list)=>
 (bif (decide (i<many)) then ((Zgo text1 head own).bind fun (r3,r4)=>
 (bif (!r4) then ((some (false,[])).map Sum.inr) else
 (need (decide (0≤own)&&decide (own≤text1.length)) ((ZeS (text1.drop own.toNat)).bind fun (r5,r6,r7,r8,r9,r10,r11,r12,r13,r14)=>
 (again (text1,many,at_,(w64 (head+r3)),(w64 (own+r13)),(w64 (i+1)),list)))))) else
 (some (.inl (text1,many,at_,head,list))))
def Zao.l0:=ZaB Zao.l0.step
theorem Zao.l0.succ (n:Nat) t:Zao.l0 (n+1) t=Zao.l0.step (Zao.l0 n) t:=rfl
def Zao (text:Str):Option (Bool×List (Str×Int×Int×Int×Int×Int×Int×Str)):=
 ((Zch text (w64 ((text.length:Int)-12)) 2).bind fun l6Num_=>
 ((ZhI l6Num_ 0 6).bind fun l1In_=>
 (bif (!l1In_) then (some (false,[])) else
 ((Zfi text l6Num_).bind fun (r,r1,r2)=>
 ((bif (!r1) then (some true) else
 ((ZaC r2).bind fun ZipOk=>
 (some (!ZipOk)))).bind fun c=>
 (bif c then (some (false,[])) else
 ((Zao.l0 ((l6Num_-(0:Int)).toNat+1) (text,l6Num_,r,r,0,0,r2)).bind fun r=>match r with
 | .inl (text2,many1,at_1,head1,list1)=>(need (decide (0≤head1)&&decide (head1≤text2.length)) ((ZhG many1 (w64 (head1-at_1)) at_1).bind fun l7End_=>
 (bif (!((text2.drop head1.toNat)==l7End_)) then (some (false,[])) else
 (some (true,list1)))))
 | .inr r=>some r)))))))
def ZbQ.l0.step (again:((List (Str×Int×Int×Int×Int×Int×Int×Str))×Str×Int)→Option ((Unit)⊕(Bool))):((List (Str×Int×Int×Int×Int×Int×Int×Str))×Str×Int)→Option ((Unit)⊕(Bool)):=fun (list1,name1,i)=>
 (bif (decide (i<(list1.length:Int))) then ((need (decide (0≤i)&&decide (i<list1.length)) (bif ((list1.getD i.toNat ([],0,0,0,0,0,0,[])).1==name1) then (some true) else
 (need (decide (0≤i)&&decide (i<list1.length)) ((Zdr ((list1.getD i.toNat ([],0,0,0,0,0,0,[])).1) name1).bind fun l7Under_=>
 (bif l7Under_ then (some true) else
 (need (decide (0≤i)&&decide (i<list1.length)) ((Zdr name1 ((list1.getD i.toNat ([],0,0,0,0,0,0,[])).1)).bind fun l7Under_1=>
 (some l7Under_1)))))))).bind fun c=>
 (bif c then ((some true).map Sum.inr) else
 (again (list1,name1,(w64 (i+1)))))) else
 (some (.inl ())))
def ZbQ.l0:=ZaB ZbQ.l0.step
theorem ZbQ.l0.succ (n:Nat) t:ZbQ.l0 (n+1) t=ZbQ.l0.step (ZbQ.l0 n) t:=rfl
def ZbQ (list:List (Str×Int×Int×Int×Int×Int×Int×Str)) (name:Str):Option (Bool):=
 ((ZbQ.l0 (((list.length:Int)-(0:Int)).toNat+1) (list,name,0)).bind fun r=>match r with
 | .inl _=>(some false)
 | .inr r=>some r)
def Zcg (list:List (Str×Int×Int×Int×Int×Int×Int×Str)) (k:Int):Option (List (Str×Int×Int×Int×Int×Int×Int×Str)):=
 (need (decide (0≤k)&&decide (k≤list.length)) (need (fits (([]:List (Str×Int×Int×Int×Int×Int×Int×Str)).length+(list.take k.toNat).length)) (need (decide (0≤(w64 (k+1)))&&decide ((w64 (k+1))≤list.length)) (need (fits (([]++(list.take k.toNat)).length+(list.drop (w64 (k+1)).toNat).length)) (some (([]++(list.take k.toNat))++(list.drop (w64 (k+1)).toNat)))))))
def ZjC (name:Str) (y:Int) (mo:Int) (d:Int) (h:Int) (mi:Int) (sec:Int) (text:Str) (list:List (Str×Int×Int×Int×Int×Int×Int×Str)):Option (Int×List (Str×Int×Int×Int×Int×Int×Int×Str)):=
 ((ZaL name y mo d h mi sec text).bind fun EntryOk=>
 (bif (!EntryOk) then (some (1,list)) else
 ((ZbQ list name).bind fun l8Clash_=>
 (bif l8Clash_ then (some (3,list)) else
 (bif (decide ((list.length:Int)≥6)) then (some (4,list)) else
 (need (fits (([]:List (Str×Int×Int×Int×Int×Int×Int×Str)).length+list.length)) (need (fits (([]++list).length+([(name,y,mo,d,h,mi,sec,text)]:List (Str×Int×Int×Int×Int×Int×Int×Str)).length)) (some (0,(([]++list)++[(name,y,mo,d,h,mi,sec,text)]))))))))))
def Zct (text:Str) (ename:Str) (ey:Int) (emo:Int) (ed:Int) (eh:Int) (emi:Int) (esec:Int) (etext:Str):Option (Str×Int):=
 ((Zao text).bind fun (r,r1)=>
 (bif (!r) then (some ([],1)) else
 ((ZjC ename ey emo ed eh emi esec etext r1).bind fun (r2,r3)=>
 (bif (r2 != 0) then (some (text,r2)) else
 ((ZcS r3).bind fun l7Put_=>
 (some (l7Put_,0)))))))
def Zb0 (text:Str) (name:Str):Option (Str×Int):=
 ((Zao text).bind fun (r,r1)=>
 ((Zfz r1 name).bind fun l7At_=>
 (bif (!r) then (some ([],1)) else
 (bif (decide (l7At_<0)) then (some (text,2)) else
 ((Zcg r1 l7At_).bind fun l8Withou=>
 ((ZcS l8Withou).bind fun l7Put_=>
 (some (l7Put_,0))))))))
def Zfy (text:Str) (ok:Bool):Option (Str):=
 (bif (!ok) then (some []) else
 (some text))
def ZbX (text:Str) (ename:Str) (ey:Int) (emo:Int) (ed:Int) (eh:Int) (emi:Int) (esec:Int) (etext:Str):Option (Str×Int):=
 ((Zao text).bind fun (r,r1)=>
 ((Zfz r1 ename).bind fun l7At_=>
 ((bif (!r) then (some true) else
 ((ZaL ename ey emo ed eh emi esec etext).bind fun EntryOk=>
 (some (!EntryOk)))).bind fun c=>
 (bif c then ((Zfy text r).bind fun l8Same_=>
 (some (l8Same_,1))) else
 (bif (decide (l7At_<0)) then (some (text,2)) else
 (need (decide (0≤l7At_)&&decide (l7At_<r1.length)) ((ZcS (r1.set l7At_.toNat (ename,ey,emo,ed,eh,emi,esec,etext))).bind fun l7Put_=>
 (some (l7Put_,0)))))))))
def ZbY (text:Str) (name:Str) (to_:Str):Option (Str×Int):=
 ((Zao text).bind fun (r,r1)=>
 ((Zfz r1 name).bind fun l7At_=>
 ((bif (!r) then (some true) else
 ((Zap to_).bind fun NameOk=>
 (some (!NameOk)))).bind fun c=>
 (bif c then ((Zfy text r).bind fun l8Same_=>
 (some (l8Same_,1))) else
 (bif (decide (l7At_<0)) then (some (text,2)) else
 ((Zcg r1 l7At_).bind fun l8Withou=>
 ((ZbQ l8Withou to_).bind fun l8Clash_=>
 (bif l8Clash_ then (some (text,3)) else
 (need (decide (0≤l7At_)&&decide (l7At_<r1.length)) ((ZcS (r1.set l7At_.toNat (to_,(r1.getD l7At_.toNat ([],0,0,0,0,0,0,[])).2.1,(r1.getD l7At_.toNat ([],0,0,0,0,0,0,[])).2.2.1,(r1.getD l7At_.toNat ([],0,0,0,0,0,0,[])).2.2.2.1,(r1.getD l7At_.toNat ([],0,0,0,0,0,0,[])).2.2.2.2.1,(r1.getD l7At_.toNat ([],0,0,0,0,0,0,[])).2.2.2.2.2.1,(r1.getD l7At_.toNat ([],0,0,0,0,0,0,[])).2.2.2.2.2.2.1,(r1.getD l7At_.toNat ([],0,0,0,0,0,0,[])).2.2.2.2.2.2.2))).bind fun l7Put_=>
 (some (l7Put_,0))))))))))))
def Zgq (code_:List Int):Option (List Int×Int):=
 (bif (decide ((code_.length:Int)>2000)) then (need (decide (0≤(2000:Int))&&decide ((2000:Int)≤code_.length)) (some ((code_.take 2000),0))) else
 (some (code_,0)))
def pick (n:Int) (b:List Int) (p:Int):Option (Int×List Int×Int):=
 ((bif (decide (n<1)) then (some true) else
 (some ((b.length:Int)==0))).bind fun c=>
 (bif c then (some (0,b,(w64 (p+1)))) else
 (bif (decide ((w64 ((w64 (p+1))-1))<(b.length:Int))) then (need (decide (0≤(w64 ((w64 (p+1))-1)))&&decide ((w64 ((w64 (p+1))-1))<b.length)) (need (n != 0) (some (((w64 (b.getD (w64 ((w64 (p+1))-1)).toNat 0)).tmod n),b,(w64 (p+1)))))) else
 (need ((b.length:Int) != 0) (need (decide (0≤((w64 ((w64 (p+1))-1)).tmod (b.length:Int)))&&decide (((w64 ((w64 (p+1))-1)).tmod (b.length:Int))<b.length)) (need ((b.length:Int) != 0) (need (decide (0≤((w64 ((w64 ((w64 ((w64 (p+1))-1))*7))+3)).tmod (b.length:Int)))&&decide (((w64 ((w64 ((w64 ((w64 (p+1))-1))*7))+3)).tmod (b.length:Int))<b.length)) (need ((b.length:Int) != 0) (need (n != 0) (some (((Zl2 .i64 (w64 ((w64 ((w64 ((w64 ((w64 (b.getD ((w64 ((w64 (p+1))-1)).tmod (b.length:Int)).toNat 0))*131))+(w64 ((w64 (b.getD ((w64 ((w64 ((w64 ((w64 (p+1))-1))*7))+3)).tmod (b.length:Int)).toNat 0))*1117))))+(w64 ((w64 ((w64 (p+1))-1))*29))))+(w64 ((w64 ((w64 ((w64 (p+1))-1)).tdiv (b.length:Int)))*53)))) (w64 ((w64 ((w64 ((w64 ((w64 ((w64 (b.getD ((w64 ((w64 (p+1))-1)).tmod (b.length:Int)).toNat 0))*131))+(w64 ((w64 (b.getD ((w64 ((w64 ((w64 ((w64 (p+1))-1))*7))+3)).tmod (b.length:Int)).toNat 0))*1117))))+(w64 ((w64 ((w64 (p+1))-1))*29))))+(w64 ((w64 ((w64 ((w64 (p+1))-1)).tdiv (b.length:Int)))*53)))).tdiv 64))).tmod n),b,(w64 (p+1)))))))))))))
def Ztc (xs:List Str) (b:List Int) (p:Int):Option (Str×List Int×Int):=
 ((pick (xs.length:Int) b p).bind fun (r,r1,r2)=>
 (need (decide (0≤r)&&decide (r<xs.length)) (some ((xs.getD r.toNat []),r1,r2))))
def Zf9 (s:Str):Option (Str×Str×Bool):=
 (Zff (Zeg s) (fun Index=>
 (bif (decide (Index≥0)) then (need (decide (0≤Index)&&decide (Index≤s.length)) (need (decide (0≤(w64 (Index+1)))&&decide ((w64 (Index+1))≤s.length)) (some ((s.take Index.toNat),(s.drop (w64 (Index+1)).toNat),true)))) else
 (some (s,[],false)))) none)
def ZfA (s:Str):Option (Str×Str×Bool):=
 ((ZdL s).bind fun Index=>
 (bif (decide (Index≥0)) then (need (decide (0≤Index)&&decide (Index≤s.length)) (need (decide (0≤(w64 (Index+1)))&&decide ((w64 (Index+1))≤s.length)) (some ((s.take Index.toNat),(s.drop (w64 (Index+1)).toNat),true)))) else
 (some (s,[],false))))
def Znz (s:Str):Option (Str×Str×Bool):=
 (Zff (Zf9 s) (fun (r,r1,r2)=>
 (some (r,r1,r2))) none)
def Zje (s:Str):Option (Str×Str×Bool):=
 ((ZfA s).bind fun (r,r1,r2)=>
 (some (r,r1,r2)))
def ZcD.l0.step (again:(Str×Int×Int×Int)→Option (Int×Int)):(Str×Int×Int×Int)→Option (Int×Int):=fun (text1,a,b,k)=>
 (bif (decide (k<(text1.length:Int))) then (need (decide (0≤k)&&decide (k<text1.length)) (again (text1,((w64 (a+(w64 ((text1.getD k.toNat 0).toNat:Int)))).tmod 65521),((w64 (b+((w64 (a+(w64 ((text1.getD k.toNat 0).toNat:Int)))).tmod 65521))).tmod 65521),(w64 (k+1))))) else
 (some (a,b)))
def ZcD.l0:=ZaB ZcD.l0.step
theorem ZcD.l0.succ (n:Nat) t:ZcD.l0 (n+1) t=ZcD.l0.step (ZcD.l0 n) t:=rfl
def ZcD (text:Str):Option (Int):=
 ((ZcD.l0 (((text.length:Int)-(0:Int)).toNat+1) (text,1,0,0)).bind fun (a1,b1)=>
 (some (ior .i64 (Zr2 .i64 b1 16) a1)))
def Zie (text:Str):Option (Int):=
 ((ZcD text).bind fun adlerOf_=>
 (some adlerOf_))
def Zc1 (text:Str):Option (Int):=
 ((Zbf text).bind fun (r,r1,r2)=>
 (bif (!r2) then (some (-1)) else
 (need (decide (0≤(0:Int))&&decide ((0:Int)<text.length)) (some (ZkR .i64 (Zm4 .i64 (w64 ((text.getD 0 0).toNat:Int)) 1) 3)))))
def ZhX (text:Str) (code_:Int) (zip_:Str):Option (Str×Str):=
 (bif (code_==0) then (need (decide (0≤code_)&&decide (code_<([[102,105,110,101],[102,111,114,109],[110,111,110,101],[116,119,105,99,101],[102,117,108,108]]:List (Str)).length)) (need (fits ((([[102,105,110,101],[102,111,114,109],[110,111,110,101],[116,119,105,99,101],[102,117,108,108]]:List (Str)).getD code_.toNat []).length+([10]:Str).length)) (some (((([[102,105,110,101],[102,111,114,109],[110,111,110,101],[116,119,105,99,101],[102,117,108,108]]:List (Str)).getD code_.toNat [])++[10]),text)))) else
 (need (decide (0≤code_)&&decide (code_<([[102,105,110,101],[102,111,114,109],[110,111,110,101],[116,119,105,99,101],[102,117,108,108]]:List (Str)).length)) (need (fits ((([[102,105,110,101],[102,111,114,109],[110,111,110,101],[116,119,105,99,101],[102,117,108,108]]:List (Str)).getD code_.toNat []).length+([10]:Str).length)) (some (((([[102,105,110,101],[102,111,114,109],[110,111,110,101],[116,119,105,99,101],[102,117,108,108]]:List (Str)).getD code_.toNat [])++[10]),zip_)))))
def ZlB.l0.step (again:(Str×Int×Int×Str×List (Str×Int×Int×Int×Int×Int×Int×Str))→Option (Str×Str)):(Str×Int×Int×Str×List (Str×Int×Int×Int×Int×Int×Int×Str))→Option (Str×Str):=fun (out,t,t1,o,o1)=>
 (bif (decide (t1<t)) then (need (decide (0≤t1)&&decide (t1<o1.length)) (need (fits (((o1.getD t1.toNat ([],0,0,0,0,0,0,[])).1).length+([32]:Str).length)) ((itoa (((o1.getD t1.toNat ([],0,0,0,0,0,0,[])).2.2.2.2.2.2.2).length:Int)).bind fun Itoa=>
 (need (fits (((o1.getD t1.toNat ([],0,0,0,0,0,0,[])).1++[32]).length+Itoa.length)) (need (fits ((((o1.getD t1.toNat ([],0,0,0,0,0,0,[])).1++[32])++Itoa).length+([10]:Str).length)) (need (fits (out.length+((((o1.getD t1.toNat ([],0,0,0,0,0,0,[])).1++[32])++Itoa)++[10]).length)) (again ((out++((((o1.getD t1.toNat ([],0,0,0,0,0,0,[])).1++[32])++Itoa)++[10])),t,(w64 (t1+1)),o,o1)))))))) else
 (some (out,o)))
def ZlB.l0:=ZaB ZlB.l0.step
theorem ZlB.l0.succ (n:Nat) t:ZlB.l0 (n+1) t=ZlB.l0.step (ZlB.l0 n) t:=rfl
def ZlB (s:Str) (zip_:Str):Option (Str×Str):=
 ((Zje s).bind fun (r,r1,r2)=>
 ((Zje r1).bind fun (r3,r4,r5)=>
 ((bif (r==[97,100,100]) then (some r5) else
 (some false)).bind fun c=>
 (bif c then ((Zgg zip_ r3 2000 1 1 0 0 0 r4).bind fun (r6,r7)=>
 ((ZhX r6 r7 zip_).bind fun (r8,r9)=>
 (some (r8,r9)))) else
 ((bif (r==[115,119,97,112]) then (some r5) else
 (some false)).bind fun c1=>
 (bif c1 then ((Zev zip_ r3 2000 1 1 0 0 0 r4).bind fun (r10,r11)=>
 ((ZhX r10 r11 zip_).bind fun (r12,r13)=>
 (some (r12,r13)))) else
 ((bif (r==[109,111,118,101]) then (some r5) else
 (some false)).bind fun c2=>
 (bif c2 then ((Zew zip_ r3 r4).bind fun (r14,r15)=>
 ((ZhX r14 r15 zip_).bind fun (r16,r17)=>
 (some (r16,r17)))) else
 (bif (s==[108,105,115,116]) then ((Zbv zip_).bind fun (r18,r19)=>
 ((ZlB.l0 (((r19.length:Int)-(0:Int)).toNat+1) ([],(r19.length:Int),0,zip_,r19)).bind fun (out1,o2)=>
 (some (out1,o2)))) else
 (bif (s==[108,111,110,103]) then ((itoa (zip_.length:Int)).bind fun Itoa1=>
 (need (fits (Itoa1.length+([10]:Str).length)) (some ((Itoa1++[10]),zip_)))) else
 ((bif (!r2) then (some true) else
 (some r5)).bind fun c3=>
 (bif c3 then (some ([119,104,97,116,10],zip_)) else
 (bif (r==[100,114,111,112]) then ((Zex zip_ r1).bind fun (r20,r21)=>
 ((ZhX r20 r21 zip_).bind fun (r22,r23)=>
 (some (r22,r23)))) else
 (bif (r==[103,101,116]) then ((Zb8 zip_ r1).bind fun (r24,r25)=>
 (bif (!r25) then (some ([110,111,110,101,10],zip_)) else
 (need (fits (r24.length+([10]:Str).length)) (some ((r24++[10]),zip_))))) else
 (bif (r==[115,117,109]) then ((crc r1).bind fun Crc=>
 ((itoa Crc).bind fun Itoa2=>
 (need (fits (Itoa2.length+([32]:Str).length)) ((Zie r1).bind fun Adler=>
 ((itoa Adler).bind fun Itoa3=>
 (need (fits ((Itoa2++[32]).length+Itoa3.length)) (need (fits (((Itoa2++[32])++Itoa3).length+([10]:Str).length)) (some ((((Itoa2++[32])++Itoa3)++[10]),zip_))))))))) else
 ((bif (r==[107,105,110,100]) then (some (decide ((r1.length:Int)≤300))) else
 (some false)).bind fun c4=>
 (bif c4 then ((Za1 r1).bind fun FlatePut=>
 ((Zc1 FlatePut).bind fun FlateKin=>
 (need (decide (0≤FlateKin)&&decide (FlateKin<([[115,116,111,114,101],[102,105,120,101,100],[111,119,110]]:List (Str)).length)) (need (fits ((([[115,116,111,114,101],[102,105,120,101,100],[111,119,110]]:List (Str)).getD FlateKin.toNat []).length+([32]:Str).length)) ((itoa (FlatePut.length:Int)).bind fun Itoa4=>
 (need (fits (((([[115,116,111,114,101],[102,105,120,101,100],[111,119,110]]:List (Str)).getD FlateKin.toNat [])++[32]).length+Itoa4.length)) (need (fits ((((([[115,116,111,114,101],[102,105,120,101,100],[111,119,110]]:List (Str)).getD FlateKin.toNat [])++[32])++Itoa4).length+([10]:Str).length)) (some (((((([[115,116,111,114,101],[102,105,120,101,100],[111,119,110]]:List (Str)).getD FlateKin.toNat [])++[32])++Itoa4)++[10]),zip_))))))))) else
 (some ([119,104,97,116,10],zip_)))))))))))))))))))
def ZbK (lines:List Str):Option (Str):=ZAl (ZbH []) (fun s z=>ZlB s z) lines
def ZaT.l0.step (again:(Str×Int×Int×Int)→Option (Int×Int)):(Str×Int×Int×Int)→Option (Int×Int):=fun (text1,a,b,i)=>
 (bif (decide (i<(text1.length:Int))) then (need (decide (0≤i)&&decide (i<text1.length)) (again (text1,((w64 (a+(w64 ((text1.getD i.toNat 0).toNat:Int)))).tmod 65521),((w64 (b+((w64 (a+(w64 ((text1.getD i.toNat 0).toNat:Int)))).tmod 65521))).tmod 65521),(w64 (i+1))))) else
 (some (a,b)))
def ZaT.l0:=ZaB ZaT.l0.step
theorem ZaT.l0.succ (n:Nat) t:ZaT.l0 (n+1) t=ZaT.l0.step (ZaT.l0 n) t:=rfl
def ZaT (text:Str):Option (Int):=
 ((ZaT.l0 (((text.length:Int)-(0:Int)).toNat+1) (text,1,0,0)).bind fun (a1,b1)=>
 (some (w64 ((w64 (b1*65536))+a1))))
def Zbr (text:Str):Option (Int):=
 ((Zba text).bind fun (r,r1,r2)=>
 (bif (!r2) then (some (-1)) else
 (need (decide (0≤(0:Int))&&decide ((0:Int)<text.length)) (some ((w64 ((w64 ((text.getD 0 0).toNat:Int)).tdiv 2)).tmod 4)))))
def ZbZ (text:Str) (name:Str):Option (Str×Bool):=
 ((Zao text).bind fun (r,r1)=>
 ((Zfz r1 name).bind fun l7At_=>
 (bif (decide (l7At_<0)) then (some ([],false)) else
 (need (decide (0≤l7At_)&&decide (l7At_<r1.length)) (some ((r1.getD l7At_.toNat ([],0,0,0,0,0,0,[])).2.2.2.2.2.2.2,true))))))
def ZjI:Option (Int×Int×Int×Int×Int×Int):=
 (some (2000,1,1,0,0,0))
def Zd1 (code_:Int):Option (Str):=
 (need (decide (0≤code_)&&decide (code_<([[102,105,110,101],[102,111,114,109],[110,111,110,101],[116,119,105,99,101],[102,117,108,108]]:List (Str)).length)) (need (fits ((([[102,105,110,101],[102,111,114,109],[110,111,110,101],[116,119,105,99,101],[102,117,108,108]]:List (Str)).getD code_.toNat []).length+([10]:Str).length)) (some ((([[102,105,110,101],[102,111,114,109],[110,111,110,101],[116,119,105,99,101],[102,117,108,108]]:List (Str)).getD code_.toNat [])++[10]))))
def ZbB.l0.step (again:(Str×Int×List (Str×Int×Int×Int×Int×Int×Int×Str))→Option (Str)):(Str×Int×List (Str×Int×Int×Int×Int×Int×Int×Str))→Option (Str):=fun (out,i,list)=>
 (bif (decide (i<(list.length:Int))) then (need (decide (0≤i)&&decide (i<list.length)) (need (fits (out.length+((list.getD i.toNat ([],0,0,0,0,0,0,[])).1).length)) (need (fits ((out++(list.getD i.toNat ([],0,0,0,0,0,0,[])).1).length+([32]:Str).length)) (need (decide (0≤i)&&decide (i<list.length)) ((ZeO (((list.getD i.toNat ([],0,0,0,0,0,0,[])).2.2.2.2.2.2.2).length:Int)).bind fun l1Dec_=>
 (need (fits (((out++(list.getD i.toNat ([],0,0,0,0,0,0,[])).1)++[32]).length+l1Dec_.length)) (need (fits ((((out++(list.getD i.toNat ([],0,0,0,0,0,0,[])).1)++[32])++l1Dec_).length+([10]:Str).length)) (again (((((out++(list.getD i.toNat ([],0,0,0,0,0,0,[])).1)++[32])++l1Dec_)++[10]),(w64 (i+1)),list))))))))) else
 (some out))
def ZbB.l0:=ZaB ZbB.l0.step
theorem ZbB.l0.succ (n:Nat) t:ZbB.l0 (n+1) t=ZbB.l0.step (ZbB.l0 n) t:=rfl
def ZbB (text:Str):Option (Str):=
 ((Zao text).bind fun (r,r1)=>
 ((ZbB.l0 (((r1.length:Int)-(0:Int)).toNat+1) ([],0,r1)).bind fun out1=>
 (some out1)))
def ZeG (text:Str):Option (Str):=
 ((Zak text).bind fun FlatePut=>
 ((Zbr FlatePut).bind fun FlateKin=>
 (need (decide (0≤FlateKin)&&decide (FlateKin<([[115,116,111,114,101],[102,105,120,101,100],[111,119,110]]:List (Str)).length)) (some (([[115,116,111,114,101],[102,105,120,101,100],[111,119,110]]:List (Str)).getD FlateKin.toNat [])))))
def Zds (zip_:Str) (line_:Str):Option (Str×Str):=
 ((Zdx line_ 32 2).bind fun l1Cut_=>
 ((need (decide (0≤(0:Int))&&decide ((0:Int)<l1Cut_.length)) (bif ((l1Cut_.getD 0 [])==[97,100,100]) then (some ((l1Cut_.length:Int)==3)) else
 (some false))).bind fun c=>
 (bif c then (need (decide (0≤(1:Int))&&decide ((1:Int)<l1Cut_.length)) ((ZjI).bind fun (r,r1,r2,r3,r4,r5)=>
 (need (decide (0≤(2:Int))&&decide ((2:Int)<l1Cut_.length)) ((Zct zip_ (l1Cut_.getD 1 []) r r1 r2 r3 r4 r5 (l1Cut_.getD 2 [])).bind fun (r6,r7)=>
 ((Zd1 r7).bind fun l10Code_=>
 (some (r6,l10Code_))))))) else
 ((need (decide (0≤(0:Int))&&decide ((0:Int)<l1Cut_.length)) (bif ((l1Cut_.getD 0 [])==[115,119,97,112]) then (some ((l1Cut_.length:Int)==3)) else
 (some false))).bind fun c1=>
 (bif c1 then (need (decide (0≤(1:Int))&&decide ((1:Int)<l1Cut_.length)) ((ZjI).bind fun (r8,r9,r10,r11,r12,r13)=>
 (need (decide (0≤(2:Int))&&decide ((2:Int)<l1Cut_.length)) ((ZbX zip_ (l1Cut_.getD 1 []) r8 r9 r10 r11 r12 r13 (l1Cut_.getD 2 [])).bind fun (r14,r15)=>
 ((Zd1 r15).bind fun l10Code_1=>
 (some (r14,l10Code_1))))))) else
 ((need (decide (0≤(0:Int))&&decide ((0:Int)<l1Cut_.length)) (bif ((l1Cut_.getD 0 [])==[109,111,118,101]) then (some ((l1Cut_.length:Int)==3)) else
 (some false))).bind fun c2=>
 (bif c2 then (need (decide (0≤(1:Int))&&decide ((1:Int)<l1Cut_.length)) (need (decide (0≤(2:Int))&&decide ((2:Int)<l1Cut_.length)) ((ZbY zip_ (l1Cut_.getD 1 []) (l1Cut_.getD 2 [])).bind fun (r16,r17)=>
 ((Zd1 r17).bind fun l10Code_2=>
 (some (r16,l10Code_2)))))) else
 ((need (decide (0≤(0:Int))&&decide ((0:Int)<l1Cut_.length)) (bif ((l1Cut_.getD 0 [])==[100,114,111,112]) then (some ((l1Cut_.length:Int)==2)) else
 (some false))).bind fun c3=>
 (bif c3 then (need (decide (0≤(1:Int))&&decide ((1:Int)<l1Cut_.length)) ((Zb0 zip_ (l1Cut_.getD 1 [])).bind fun (r18,r19)=>
 ((Zd1 r19).bind fun l10Code_3=>
 (some (r18,l10Code_3))))) else
 ((need (decide (0≤(0:Int))&&decide ((0:Int)<l1Cut_.length)) (bif ((l1Cut_.getD 0 [])==[103,101,116]) then (some ((l1Cut_.length:Int)==2)) else
 (some false))).bind fun c4=>
 (bif c4 then (need (decide (0≤(1:Int))&&decide ((1:Int)<l1Cut_.length)) ((ZbZ zip_ (l1Cut_.getD 1 [])).bind fun (r20,r21)=>
 (bif (!r21) then (some (zip_,[110,111,110,101,10])) else
 (need (fits (r20.length+([10]:Str).length)) (some (zip_,(r20++[10]))))))) else
 (bif (line_==[108,105,115,116]) then ((ZbB zip_).bind fun l10Names_=>
 (some (zip_,l10Names_))) else
 (bif (line_==[108,111,110,103]) then ((ZeO (zip_.length:Int)).bind fun l1Dec_=>
 (need (fits (l1Dec_.length+([10]:Str).length)) (some (zip_,(l1Dec_++[10]))))) else
 ((need (decide (0≤(0:Int))&&decide ((0:Int)<l1Cut_.length)) (bif ((l1Cut_.getD 0 [])==[115,117,109]) then (some ((l1Cut_.length:Int)==2)) else
 (some false))).bind fun c5=>
 (bif c5 then (need (decide (0≤(1:Int))&&decide ((1:Int)<l1Cut_.length)) ((ZcR (l1Cut_.getD 1 [])).bind fun Crc=>
 ((ZeO Crc).bind fun l1Dec_1=>
 (need (fits (l1Dec_1.length+([32]:Str).length)) (need (decide (0≤(1:Int))&&decide ((1:Int)<l1Cut_.length)) ((ZaT (l1Cut_.getD 1 [])).bind fun Adler=>
 ((ZeO Adler).bind fun l1Dec_2=>
 (need (fits ((l1Dec_1++[32]).length+l1Dec_2.length)) (need (fits (((l1Dec_1++[32])++l1Dec_2).length+([10]:Str).length)) (some (zip_,(((l1Dec_1++[32])++l1Dec_2)++[10])))))))))))) else
 ((need (decide (0≤(0:Int))&&decide ((0:Int)<l1Cut_.length)) (bif ((l1Cut_.getD 0 [])==[107,105,110,100]) then (bif ((l1Cut_.length:Int)==2) then (need (decide (0≤(1:Int))&&decide ((1:Int)<l1Cut_.length)) (some (decide (((l1Cut_.getD 1 []).length:Int)≤300)))) else
 (some false)) else
 (some false))).bind fun c6=>
 (bif c6 then (need (decide (0≤(1:Int))&&decide ((1:Int)<l1Cut_.length)) ((ZeG (l1Cut_.getD 1 [])).bind fun l10Kind_=>
 (need (fits (l10Kind_.length+([32]:Str).length)) (need (decide (0≤(1:Int))&&decide ((1:Int)<l1Cut_.length)) ((Zak (l1Cut_.getD 1 [])).bind fun FlatePut=>
 ((ZeO (FlatePut.length:Int)).bind fun l1Dec_3=>
 (need (fits ((l10Kind_++[32]).length+l1Dec_3.length)) (need (fits (((l10Kind_++[32])++l1Dec_3).length+([10]:Str).length)) (some (zip_,(((l10Kind_++[32])++l1Dec_3)++[10]))))))))))) else
 (some (zip_,[119,104,97,116,10])))))))))))))))))))
def Zam.l0.step (again:(List Str×Str×Str×Int)→Option (Str)):(List Str×Str×Str×Int)→Option (Str):=fun (lines1,zip,out,i)=>
 ((bif (decide (i<(lines1.length:Int))) then (some (decide (i<30))) else
 (some false)).bind fun c=>
 (bif c then (need (decide (0≤i)&&decide (i<lines1.length)) ((Zds zip (lines1.getD i.toNat [])).bind fun (r,r1)=>
 (need (fits (out.length+r1.length)) (again (lines1,r,(out++r1),(w64 (i+1))))))) else
 (some out)))
def Zam.l0:=ZaB Zam.l0.step
theorem Zam.l0.succ (n:Nat) t:Zam.l0 (n+1) t=Zam.l0.step (Zam.l0 n) t:=rfl
def Zam (lines:List Str):Option (Str):=
 ((ZcS []).bind fun l7Put_=>
 ((Zam.l0 (((lines.length:Int)-(0:Int)).toNat+1) (lines,l7Put_,[],0)).bind fun out1=>
 (some out1)))
def Zbg.l0.step (again:(List Str×Int×Int)→Option ((Int)⊕(Int))):(List Str×Int×Int)→Option ((Int)⊕(Int)):=fun (a,left,i)=>
 (bif (decide (i<(a.length:Int))) then (need (decide (0≤i)&&decide (i<a.length)) (bif (decide ((w64 (left-((a.getD i.toNat []).length:Int)))<0)) then ((some (-1)).map Sum.inr) else
 (again (a,(w64 (left-((a.getD i.toNat []).length:Int))),(w64 (i+1)))))) else
 (some (.inl left)))
def Zbg.l0:=ZaB Zbg.l0.step
theorem Zbg.l0.succ (n:Nat) t:Zbg.l0 (n+1) t=Zbg.l0.step (Zbg.l0 n) t:=rfl
def Zbg (xs:List Str) (n:Int):Option (Int):=
 (bif (decide ((w64 (n-(xs.length:Int)))<0)) then (some (-1)) else
 ((Zbg.l0 (((xs.length:Int)-(0:Int)).toNat+1) (xs,(w64 (n-(xs.length:Int))),0)).bind fun r=>match r with
 | .inl left1=>(some left1)
 | .inr r=>some r))
def Za9.l0.step (again:(List Str×Int×List Str)→Option (List Str)):(List Str×Int×List Str)→Option (List Str):=fun (a,i,out)=>
 (bif (decide (i<(a.length:Int))) then (need (decide (0≤i)&&decide (i<a.length)) (need (decide (0≤i)&&decide (i<out.length)) (again (a,(w64 (i+1)),(out.set i.toNat (a.getD i.toNat [])))))) else
 (some out))
def Za9.l0:=ZaB Za9.l0.step
theorem Za9.l0.succ (n:Nat) t:Za9.l0 (n+1) t=Za9.l0.step (Za9.l0 n) t:=rfl
def Za9 (xs:List Str):Option (List Str):=
 (need (decide (0≤(xs.length:Int))&&fits (xs.length:Int).toNat) ((Za9.l0 (((xs.length:Int)-(0:Int)).toNat+1) (xs,0,(List.replicate (xs.length:Int).toNat ([]:Str)))).bind fun out1=>
 (some out1)))
def Zbk.l0.step (again:(List Str×List Str×Int)→Option ((Unit)⊕(Bool))):(List Str×List Str×Int)→Option ((Unit)⊕(Bool)):=fun (a,b,i)=>
 (bif (decide (i<(a.length:Int))) then (need (decide (0≤i)&&decide (i<a.length)) (need (decide (0≤i)&&decide (i<b.length)) (bif (!((a.getD i.toNat [])==(b.getD i.toNat []))) then ((some false).map Sum.inr) else
 (again (a,b,(w64 (i+1))))))) else
 (some (.inl ())))
def Zbk.l0:=ZaB Zbk.l0.step
theorem Zbk.l0.succ (n:Nat) t:Zbk.l0 (n+1) t=Zbk.l0.step (Zbk.l0 n) t:=rfl
def Zbk (xs:List Str) (ys:List Str):Option (Bool):=
 (bif ((xs.length:Int) != (ys.length:Int)) then (some false) else
 ((Zbk.l0 (((xs.length:Int)-(0:Int)).toNat+1) (xs,ys,0)).bind fun r=>match r with
 | .inl _=>(some true)
 | .inr r=>some r))
def Zar.l1.step (again:(List Int×Int×List Str)→Option (List Str)):(List Int×Int×List Str)→Option (List Str):=fun (o4,o5,out2)=>
 ((pick 3 o4 o5).bind fun (r11,r12,r13)=>
 (bif (decide ((out2.length:Int)<(w64 (29+r11)))) then (need (fits (out2.length+([[108,111,110,103]]:List (Str)).length)) (again (r12,r13,(out2++[[108,111,110,103]])))) else
 (some out2)))
def Zar.l1:=ZaB Zar.l1.step
def Zar.l0.step (again:(Int×List Int×Int×List Str)→Option (List Int×Int×List Str)):(Int×List Int×Int×List Str)→Option (List Int×Int×List Str):=fun (n,o,o1,out)=>
 (bif (decide (n>0)) then ((Ztc [[97,100,100,32,97,32,115,111,109,101,32,116,101,120,116],[97,100,100,32,100,105,114,47,98,32,116,101,120,116,32,116,101,120,116,32,116,101,120,116,32,116,101,120,116,32,116,101,120,116],[97,100,100,32,100,105,114,32,120],[115,119,97,112,32,97,32,111,116,104,101,114],[109,111,118,101,32,97,32,98],[100,114,111,112,32,97],[103,101,116,32,97],[103,101,116,32,100,105,114,47,98],[108,105,115,116],[108,111,110,103],[115,117,109,32,97,98,99],[107,105,110,100,32,97,97,97,97,97,97,97,97,97,97,97,97,97,97,97,97,97,97,97,97],[119,104,97,116],[],[97,100,100,32,65,32,120]] o o1).bind fun (r5,r6,r7)=>
 (need (fits (out.length+([r5]:List (Str)).length)) (again ((w64 (n-1)),r6,r7,(out++[r5]))))) else
 (some (o,o1,out)))
def Zar.l0:=ZaB Zar.l0.step
def Zar (code_:List Int):Option (List Str):=
 ((Zgq code_).bind fun (r,r1)=>
 ((pick 10 r r1).bind fun (r2,r3,r4)=>
 ((Zar.l0 ((r2-0).toNat+1) (r2,r3,r4,[])).bind fun (o2,o3,out1)=>
 ((pick 30 o2 o3).bind fun (r8,r9,r10)=>
 (bif (r8==0) then ((Zar.l1 (100000) (r9,r10,out1)).bind fun out3=>
 (some out3)) else
 (some out1))))))
def FnSessionLong (code_:List Int):Option (Bool):=
 (bif (decide ((code_.length:Int)>1048576)) then (some true) else
 ((Zar code_).bind fun DrawSess=>
 ((ZbK DrawSess).bind fun Session=>
 (((Zam DrawSess).bind fun Session1=>
 (bif (!(Session==Session1)) then (some true) else
 (some (decide ((DrawSess.length:Int)≥26))))).bind fun c=>
 (bif c then ((Zam DrawSess).bind fun Session2=>
 (some (Session==Session2))) else
 (need (fits (([]:List (Str)).length+DrawSess.length)) (need (fits (([]++DrawSess).length+([[108,111,110,103]]:List (Str)).length)) ((ZbK (([]++DrawSess)++[[108,111,110,103]])).bind fun Session3=>
 (need (fits (([]:List (Str)).length+DrawSess.length)) (need (fits (([]++DrawSess).length+([[97,100,100,32,102,114,101,115,104,32,120],[100,114,111,112,32,102,114,101,115,104],[108,111,110,103]]:List (Str)).length)) ((ZbK (([]++DrawSess)++[[97,100,100,32,102,114,101,115,104,32,120],[100,114,111,112,32,102,114,101,115,104],[108,111,110,103]])).bind fun Session4=>
 (need (decide (0≤(Session.length:Int))&&decide ((Session.length:Int)≤Session3.length)) ((need (fits (Session.length+([102,105,110,101,10,102,105,110,101,10]:Str).length)) (need (fits ((Session++[102,105,110,101,10,102,105,110,101,10]).length+(Session3.drop (Session.length:Int).toNat).length)) (bif (Session4==((Session++[102,105,110,101,10,102,105,110,101,10])++(Session3.drop (Session.length:Int).toNat))) then (some true) else
 (need (fits (Session.length+([102,117,108,108,10,110,111,110,101,10]:Str).length)) (need (fits ((Session++[102,117,108,108,10,110,111,110,101,10]).length+(Session3.drop (Session.length:Int).toNat).length)) (some (Session4==((Session++[102,117,108,108,10,110,111,110,101,10])++(Session3.drop (Session.length:Int).toNat))))))))).bind fun c1=>
 (some c1))))))))))))))
def FnSessionZip (code_:List Int):Option (Bool):=
 (bif (decide ((code_.length:Int)>1048576)) then (some true) else
 ((Zar code_).bind fun DrawSess=>
 ((ZbK DrawSess).bind fun Session=>
 (((Zam DrawSess).bind fun Session1=>
 (bif (!(Session==Session1)) then (some true) else
 (some (decide ((DrawSess.length:Int)>25))))).bind fun c=>
 (bif c then ((Zam DrawSess).bind fun Session2=>
 (some (Session==Session2))) else
 (need (fits (([]:List (Str)).length+DrawSess.length)) (need (fits (([]++DrawSess).length+([[100,114,111,112,32,102,114,101,115,104],[97,100,100,32,102,114,101,115,104,32,115,111,109,101,32,116,101,120,116],[103,101,116,32,102,114,101,115,104]]:List (Str)).length)) ((ZbK (([]++DrawSess)++[[100,114,111,112,32,102,114,101,115,104],[97,100,100,32,102,114,101,115,104,32,115,111,109,101,32,116,101,120,116],[103,101,116,32,102,114,101,115,104]])).bind fun Session3=>
 ((need (fits (Session.length+([110,111,110,101,10,102,105,110,101,10,115,111,109,101,32,116,101,120,116,10]:Str).length)) (bif (Session3==(Session++[110,111,110,101,10,102,105,110,101,10,115,111,109,101,32,116,101,120,116,10])) then (some true) else
 (need (fits (Session.length+([110,111,110,101,10,102,117,108,108,10,110,111,110,101,10]:Str).length)) (some (Session3==(Session++[110,111,110,101,10,102,117,108,108,10,110,111,110,101,10])))))).bind fun c1=>
 (some c1))))))))))
def FnSessionLook (code_:List Int) (more:List Int):Option (Bool):=
 ((bif (decide ((code_.length:Int)>1048576)) then (some true) else
 (some (decide ((more.length:Int)>1048576)))).bind fun c=>
 (bif c then (some true) else
 ((Zar code_).bind fun DrawSess=>
 ((ZbK DrawSess).bind fun Session=>
 (((Zam DrawSess).bind fun Session1=>
 (bif (!(Session==Session1)) then (some true) else
 (some (decide ((DrawSess.length:Int)≥28))))).bind fun c1=>
 (bif c1 then ((Zam DrawSess).bind fun Session2=>
 (some (Session==Session2))) else
 (need ((w64 ((DrawSess.length:Int)+1)) != 0) (need (decide (0≤((more.length:Int).tmod (w64 ((DrawSess.length:Int)+1))))&&decide (((more.length:Int).tmod (w64 ((DrawSess.length:Int)+1)))≤DrawSess.length)) ((ZbK ((DrawSess.drop 0).take (((more.length:Int).tmod (w64 ((DrawSess.length:Int)+1))).toNat))).bind fun Session3=>
 (need (decide (0≤((more.length:Int).tmod (w64 ((DrawSess.length:Int)+1))))&&decide (((more.length:Int).tmod (w64 ((DrawSess.length:Int)+1)))≤DrawSess.length)) (need (fits (([]:List (Str)).length+((DrawSess.drop 0).take (((more.length:Int).tmod (w64 ((DrawSess.length:Int)+1))).toNat)).length)) (need (fits (([]++((DrawSess.drop 0).take (((more.length:Int).tmod (w64 ((DrawSess.length:Int)+1))).toNat))).length+([[108,111,111,107],[103,101,116,32,110,111,98,111,100,121]]:List (Str)).length)) (need (decide (0≤((more.length:Int).tmod (w64 ((DrawSess.length:Int)+1))))&&decide (((more.length:Int).tmod (w64 ((DrawSess.length:Int)+1)))≤DrawSess.length)) (need (fits ((([]++((DrawSess.drop 0).take (((more.length:Int).tmod (w64 ((DrawSess.length:Int)+1))).toNat)))++[[108,111,111,107],[103,101,116,32,110,111,98,111,100,121]]).length+((DrawSess.drop (((more.length:Int).tmod (w64 ((DrawSess.length:Int)+1))).toNat)).take (DrawSess.length-((more.length:Int).tmod (w64 ((DrawSess.length:Int)+1))).toNat)).length)) ((ZbK ((([]++((DrawSess.drop 0).take (((more.length:Int).tmod (w64 ((DrawSess.length:Int)+1))).toNat)))++[[108,111,111,107],[103,101,116,32,110,111,98,111,100,121]])++((DrawSess.drop (((more.length:Int).tmod (w64 ((DrawSess.length:Int)+1))).toNat)).take (DrawSess.length-((more.length:Int).tmod (w64 ((DrawSess.length:Int)+1))).toNat)))).bind fun Session4=>
 (need (fits (Session3.length+([119,104,97,116,10,110,111,110,101,10]:Str).length)) (need (decide (0≤(Session3.length:Int))&&decide ((Session3.length:Int)≤Session.length)) (need (fits ((Session3++[119,104,97,116,10,110,111,110,101,10]).length+(Session.drop (Session3.length:Int).toNat).length)) (some (Session4==((Session3++[119,104,97,116,10,110,111,110,101,10])++(Session.drop (Session3.length:Int).toNat))))))))))))))))))))))
def FnSession (code_:List Int) (more:List Int):Option (Bool):=
 ((bif (decide ((code_.length:Int)>1048576)) then (some true) else
 (some (decide ((more.length:Int)>1048576)))).bind fun c=>
 (bif c then (some true) else
 ((Zar code_).bind fun DrawSess=>
 ((ZbK DrawSess).bind fun Session=>
 ((Zam DrawSess).bind fun Session1=>
 (bif (!(Session==Session1)) then (some false) else
 (need ((w64 ((DrawSess.length:Int)+1)) != 0) (need (decide (0≤((more.length:Int).tmod (w64 ((DrawSess.length:Int)+1))))&&decide (((more.length:Int).tmod (w64 ((DrawSess.length:Int)+1)))≤DrawSess.length)) ((ZbK ((DrawSess.drop 0).take (((more.length:Int).tmod (w64 ((DrawSess.length:Int)+1))).toNat))).bind fun Session2=>
 ((bif (decide ((Session2.length:Int)≤(Session.length:Int))) then (need (decide (0≤(Session2.length:Int))&&decide ((Session2.length:Int)≤Session.length)) (bif ((Session.take (Session2.length:Int).toNat)==Session2) then (bif (decide (((more.length:Int).tmod (w64 ((DrawSess.length:Int)+1)))<30)) then (some true) else
 (some (Session2==Session))) else
 (some false))) else
 (some false)).bind fun c1=>
 (some c1)))))))))))
def FnExactSession (lines:List Str):Option (Bool):=
 ((Zbg lines 1048576).bind fun szString=>
 (bif (decide (szString<0)) then (some true) else
 ((Za9 lines).bind fun toString=>
 ((Zam toString).bind fun Session=>
 ((Za9 lines).bind fun toString1=>
 ((ZbK toString1).bind fun Session1=>
 (bif (!(Session1==Session)) then (some false) else
 ((Za9 lines).bind fun toString2=>
 ((Zbk toString1 toString2).bind fun eqString=>
 (bif (!eqString) then (some false) else
 (some true)))))))))))
end Ev
end
