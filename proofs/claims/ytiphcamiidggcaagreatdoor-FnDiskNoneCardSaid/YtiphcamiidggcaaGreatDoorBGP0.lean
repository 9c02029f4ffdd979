/- What each function of the program computes, as a plain function (printed by a program of this work out of the form of the program). Conditions: none. -/
import Derived.Test.YtiphcamiidggcaaGreatDoorBGS0
set_option linter.unusedVariables false
set_option linter.unusedSimpArgs false
section
open Go
set_option maxRecDepth 100000
namespace Ev
set_option maxHeartbeats 1000000
def Zbn (n:Int) (low:Int) (high:Int):Option (Bool):=
 ((bif (decide (n≥low)) then (some (decide (n≤high))) else
 (some false)).bind fun c=>
 (some c))
def ZcH.l0.step (again:(Str×Int×Int)→Option ((Str)⊕(Bool))):(Str×Int×Int)→Option ((Str)⊕(Bool)):=fun (s1,t,t1)=>
 (bif (decide (t1<t)) then (need (decide (0≤t1)&&decide (t1<s1.length)) ((bif (decide (((s1.getD t1.toNat 0).toNat:Int)<97)) then (bif (decide (((s1.getD t1.toNat 0).toNat:Int)<48)) then (bif (((s1.getD t1.toNat 0).toNat:Int) != 46) then (bif (((s1.getD t1.toNat 0).toNat:Int) != 45) then (some (((s1.getD t1.toNat 0).toNat:Int) != 95)) else
 (some false)) else
 (some false)) else
 (bif (decide (((s1.getD t1.toNat 0).toNat:Int)>57)) then (bif (((s1.getD t1.toNat 0).toNat:Int) != 46) then (bif (((s1.getD t1.toNat 0).toNat:Int) != 45) then (some (((s1.getD t1.toNat 0).toNat:Int) != 95)) else
 (some false)) else
 (some false)) else
 (some false))) else
 (bif (decide (((s1.getD t1.toNat 0).toNat:Int)>122)) then (bif (decide (((s1.getD t1.toNat 0).toNat:Int)<48)) then (bif (((s1.getD t1.toNat 0).toNat:Int) != 46) then (bif (((s1.getD t1.toNat 0).toNat:Int) != 45) then (some (((s1.getD t1.toNat 0).toNat:Int) != 95)) else
 (some false)) else
 (some false)) else
 (bif (decide (((s1.getD t1.toNat 0).toNat:Int)>57)) then (bif (((s1.getD t1.toNat 0).toNat:Int) != 46) then (bif (((s1.getD t1.toNat 0).toNat:Int) != 45) then (some (((s1.getD t1.toNat 0).toNat:Int) != 95)) else
 (some false)) else
 (some false)) else
 (some false))) else
 (some false))).bind fun c=>
 (bif c then ((some false).map Sum.inr) else
 (again (s1,t,(w64 (t1+1))))))) else
 (some (.inl s1)))
def ZcH.l0:=ZaB ZcH.l0.step
theorem ZcH.l0.succ (n:Nat) t:ZcH.l0 (n+1) t=ZcH.l0.step (ZcH.l0 n) t:=rfl
def ZcH (s:Str):Option (Bool):=
 ((ZcH.l0 (((s.length:Int)-(0:Int)).toNat+1) (s,(s.length:Int),0)).bind fun r=>match r with
 | .inl s2=>(((Zbn (s2.length:Int) 1 10).bind fun within_=>
 (bif within_ then (bif (!(s2==[46])) then (some (!(s2==[46,46]))) else
 (some false)) else
 (some false))).bind fun c1=>
 (some c1))
 | .inr r=>some r)
def ZgA (n:Int) (low:Int) (high:Int):Option (Bool):=
 ((bif (decide (n≥low)) then (some (decide (n≤high))) else
 (some false)).bind fun c=>
 (some c))
def Zeh.l0.step (again:(Str×Int×Int×Int×Int×List Str)→Option (Str×Int×List Str)):(Str×Int×Int×Int×Int×List Str)→Option (Str×Int×List Str):=fun (s1,b1,most1,from_,i,out)=>
 ((bif (decide (i<(s1.length:Int))) then (some (decide ((out.length:Int)<most1))) else
 (some false)).bind fun c=>
 (bif c then (need (decide (0≤i)&&decide (i<s1.length)) (bif (((s1.getD i.toNat 0).toNat:Int)==b1) then (need (decide (0≤i)&&decide (i≤s1.length)) (need (decide (0≤from_)&&decide (from_≤i)) (need (fits (out.length+([((s1.take i.toNat).drop from_.toNat)]:List (Str)).length)) (again (s1,b1,most1,(w64 (i+1)),(w64 (i+1)),(out++[((s1.take i.toNat).drop from_.toNat)])))))) else
 (again (s1,b1,most1,from_,(w64 (i+1)),out)))) else
 (some (s1,from_,out))))
def Zeh.l0:=ZaB Zeh.l0.step
theorem Zeh.l0.succ (n:Nat) t:Zeh.l0 (n+1) t=Zeh.l0.step (Zeh.l0 n) t:=rfl
def Zeh (s:Str) (b:Int) (most:Int):Option (List Str):=
 ((Zeh.l0 (((s.length:Int)-(0:Int)).toNat+1) (s,b,most,0,0,[])).bind fun (s2,from_1,out1)=>
 (need (decide (0≤from_1)&&decide (from_1≤s2.length)) (need (fits (out1.length+([(s2.drop from_1.toNat)]:List (Str)).length)) (some (out1++[(s2.drop from_1.toNat)])))))
def Zar.l0.step (again:(Int×Str×Int×List Str)→Option ((Int×Str×List Str)⊕((List Str)⊕(Bool)))):(Int×Str×Int×List Str)→Option ((Int×Str×List Str)⊕((List Str)⊕(Bool))):=fun (i1,w,k,list1)=>
 (bif (decide (k<(w.length:Int))) then ((need (decide (0≤k)&&decide (k<w.length)) (bif (decide (((w.getD k.toNat 0).toNat:Int)≥97)) then (need (decide (0≤k)&&decide (k<w.length)) (bif (decide (((w.getD k.toNat 0).toNat:Int)≤122)) then (some (!true)) else
 (need (decide (0≤k)&&decide (k<w.length)) (bif (decide (((w.getD k.toNat 0).toNat:Int)≥48)) then (need (decide (0≤k)&&decide (k<w.length)) (bif (decide (((w.getD k.toNat 0).toNat:Int)≤57)) then (some (!true)) else
 (need (decide (0≤k)&&decide (k<w.length)) (bif (((w.getD k.toNat 0).toNat:Int)==46) then (some (!true)) else
 (need (decide (0≤k)&&decide (k<w.length)) (bif (((w.getD k.toNat 0).toNat:Int)==45) then (some (!true)) else
 (need (decide (0≤k)&&decide (k<w.length)) (some (!(((w.getD k.toNat 0).toNat:Int)==95)))))))))) else
 (need (decide (0≤k)&&decide (k<w.length)) (bif (((w.getD k.toNat 0).toNat:Int)==46) then (some (!true)) else
 (need (decide (0≤k)&&decide (k<w.length)) (bif (((w.getD k.toNat 0).toNat:Int)==45) then (some (!true)) else
 (need (decide (0≤k)&&decide (k<w.length)) (some (!(((w.getD k.toNat 0).toNat:Int)==95)))))))))))) else
 (need (decide (0≤k)&&decide (k<w.length)) (bif (decide (((w.getD k.toNat 0).toNat:Int)≥48)) then (need (decide (0≤k)&&decide (k<w.length)) (bif (decide (((w.getD k.toNat 0).toNat:Int)≤57)) then (some (!true)) else
 (need (decide (0≤k)&&decide (k<w.length)) (bif (((w.getD k.toNat 0).toNat:Int)==46) then (some (!true)) else
 (need (decide (0≤k)&&decide (k<w.length)) (bif (((w.getD k.toNat 0).toNat:Int)==45) then (some (!true)) else
 (need (decide (0≤k)&&decide (k<w.length)) (some (!(((w.getD k.toNat 0).toNat:Int)==95)))))))))) else
 (need (decide (0≤k)&&decide (k<w.length)) (bif (((w.getD k.toNat 0).toNat:Int)==46) then (some (!true)) else
 (need (decide (0≤k)&&decide (k<w.length)) (bif (((w.getD k.toNat 0).toNat:Int)==45) then (some (!true)) else
 (need (decide (0≤k)&&decide (k<w.length)) (some (!(((w.getD k.toNat 0).toNat:Int)==95)))))))))))).bind fun c=>
 (bif c then (((some false).map Sum.inr).map Sum.inr) else
 (again (i1,w,(w64 (k+1)),list1)))) else
 (some (.inl (i1,w,list1))))
def Zar.l0:=ZaB Zar.l0.step
theorem Zar.l0.succ (n:Nat) t:Zar.l0 (n+1) t=Zar.l0.step (Zar.l0 n) t:=rfl
def Zar.l1.step (again:(Int×List Str)→Option ((List Str)⊕(Bool))):(Int×List Str)→Option ((List Str)⊕(Bool)):=fun (i,list)=>
 (bif (decide (i<(list.length:Int))) then (need (decide (0≤i)&&decide (i<list.length)) ((Zar.l0 ((((list.getD i.toNat []).length:Int)-(0:Int)).toNat+1) (i,(list.getD i.toNat []),0,list)).bind fun r=>match r with
 | .inl (i2,w1,list2)=>(((ZgA (w1.length:Int) 1 10).bind fun l1In_=>
 (bif (!l1In_) then (some true) else
 (bif (w1==[46]) then (some true) else
 (some (w1==[46,46]))))).bind fun c1=>
 (bif c1 then ((some false).map Sum.inr) else
 (again ((w64 (i2+1)),list2))))
 | .inr r=>some r)) else
 (some (.inl list)))
def Zar.l1:=ZaB Zar.l1.step
theorem Zar.l1.succ (n:Nat) t:Zar.l1 (n+1) t=Zar.l1.step (Zar.l1 n) t:=rfl
def Zar (s:Str):Option (Bool):=
 ((Zeh s 47 (w64 ((s.length:Int)+1))).bind fun l1Cut_=>
 ((Zar.l1 (((l1Cut_.length:Int)-(0:Int)).toNat+1) (0,l1Cut_)).bind fun r=>match r with
 | .inl list3=>(some (decide ((list3.length:Int)≤4)))
 | .inr r=>some r))
def ZcW (a:Str) (b:Str):Option (Bool):=
 ((bif (decide ((b.length:Int)>(a.length:Int))) then (need (decide (0≤(a.length:Int))&&decide ((a.length:Int)≤b.length)) (bif ((b.take (a.length:Int).toNat)==a) then (need (decide (0≤(a.length:Int))&&decide ((a.length:Int)<b.length)) (some (((b.getD (a.length:Int).toNat 0).toNat:Int)==47))) else
 (some false))) else
 (some false)).bind fun c=>
 (some c))
def Zcg (s:Str) (p:Str):Option (Bool):=
 ((bif (decide ((s.length:Int)≥(p.length:Int))) then (need (decide (0≤(p.length:Int))&&decide ((p.length:Int)≤s.length)) (some ((s.take (p.length:Int).toNat)==p))) else
 (some false)).bind fun c=>
 (some c))
def Zck (s:Str) (p:Str):Option (Bool):=
 ((Zcg s p).bind fun HasPrefi=>
 (some HasPrefi))
def Zb0 (s:Str) (c:Int):Option (Int):=some (idxB s c)
def Zdl (s:Str) (c:Int):Option (Int):=some (cntB s c)
def Zcf (s:Str) (c:Int):Option (Int):=
 ((Zb0 s c).bind fun IndexByt=>
 (some IndexByt))
def Zei (s:Str):Option (Int):=
 ((some (([47]:Str)==s)).bind fun c=>
 (bif c then (some 0) else
 ((Zcf s 47).bind fun IndexByt=>
 (some IndexByt))))
def Zfq (s:Str):Option (Int):=
 ((Zei s).bind fun Index=>
 (some Index))
def ZfZ (s:Str):Option (Int):=
 ((Zdl s 47).bind fun CountStr=>
 (some CountStr))
def Za9.l0.step (again:(Str×Int×Int×List Str)→Option (Str×Int×List Str)):(Str×Int×Int×List Str)→Option (Str×Int×List Str):=fun (s2,n1,i,a)=>
 (bif (decide (i<n1)) then ((Zfq s2).bind fun Index=>
 (bif (decide (Index<0)) then (some (s2,i,a)) else
 (need (decide (0≤(w64 (Index+0)))&&decide ((w64 (Index+0))≤s2.length)) (need (decide (0≤i)&&decide (i<a.length)) (need (decide (0≤(w64 (Index+1)))&&decide ((w64 (Index+1))≤s2.length)) (again ((s2.drop (w64 (Index+1)).toNat),n1,(w64 (i+1)),(a.set i.toNat (s2.take (w64 (Index+0)).toNat))))))))) else
 (some (s2,i,a)))
def Za9.l0:=ZaB Za9.l0.step
theorem Za9.l0.succ (n:Nat) t:Za9.l0 (n+1) t=Za9.l0.step (Za9.l0 n) t:=rfl
def Za9 (s:Str):Option (List Str):=
 ((((ZfZ s).bind fun Count=>
 (some (s,(w64 (Count+1))))):Option (Str×Int)).bind fun (s1,n)=>
 (need (decide (0≤(ZjH n (w64 ((s1.length:Int)+1))))&&fits (ZjH n (w64 ((s1.length:Int)+1))).toNat) ((Za9.l0 (((w64 ((ZjH n (w64 ((s1.length:Int)+1)))-1))-(0:Int)).toNat+1) (s1,(w64 ((ZjH n (w64 ((s1.length:Int)+1)))-1)),0,(List.replicate (ZjH n (w64 ((s1.length:Int)+1))).toNat ([]:Str)))).bind fun (s3,i1,a1)=>
 (need (decide (0≤i1)&&decide (i1<a1.length)) (need (decide (0≤(w64 (i1+1)))&&decide ((w64 (i1+1))≤(a1.set i1.toNat s3).length)) (some (((a1.set i1.toNat s3).drop 0).take ((w64 (i1+1)).toNat))))))))
def Zfh (s:Str):Option (List Str):=
 ((Za9 s).bind fun genSplit=>
 (some genSplit))
def ZaW.l0.step (again:(List Str×List Str×Int×Int)→Option ((List Str)⊕(Bool))):(List Str×List Str×Int×Int)→Option ((List Str)⊕(Bool)):=fun (parts,t,t1,t2)=>
 (bif (decide (t2<t1)) then (need (decide (0≤t2)&&decide (t2<t.length)) ((ZcH (t.getD t2.toNat [])).bind fun partOk_=>
 (bif (!partOk_) then ((some false).map Sum.inr) else
 (again (parts,t,t1,(w64 (t2+1))))))) else
 (some (.inl parts)))
def ZaW.l0:=ZaB ZaW.l0.step
theorem ZaW.l0.succ (n:Nat) t:ZaW.l0 (n+1) t=ZaW.l0.step (ZaW.l0 n) t:=rfl
def ZaW (s:Str):Option (Bool):=
 ((Zfh s).bind fun Split=>
 ((ZaW.l0 (((Split.length:Int)-(0:Int)).toNat+1) (Split,Split,(Split.length:Int),0)).bind fun r=>match r with
 | .inl parts1=>(some (decide ((parts1.length:Int)≤4)))
 | .inr r=>some r))
def ZcO.l0.step (again:(List Str×Str×List Str×Int×Int×List Str×Int×Int)→Option ((List Str×List Str×Int×Int)⊕((Unit)⊕(Bool)))):(List Str×Str×List Str×Int×Int×List Str×Int×Int)→Option ((List Str×List Str×Int×Int)⊕((Unit)⊕(Bool))):=fun (names1,a,t3,t4,t5,t6,t7,t8)=>
 (bif (decide (t8<t7)) then (need (decide (0≤t8)&&decide (t8<t6.length)) ((bif (a==(t6.getD t8.toNat [])) then (some true) else
 (need (fits ((t6.getD t8.toNat []).length+([47]:Str).length)) ((Zck a ((t6.getD t8.toNat [])++[47])).bind fun HasPrefi=>
 (bif HasPrefi then (some true) else
 (need (fits (a.length+([47]:Str).length)) ((Zck (t6.getD t8.toNat []) (a++[47])).bind fun HasPrefi1=>
 (some HasPrefi1))))))).bind fun c=>
 (bif c then (((some false).map Sum.inr).map Sum.inr) else
 (again (names1,a,t3,t4,t5,t6,t7,(w64 (t8+1))))))) else
 (some (.inl (names1,t3,t4,t5))))
def ZcO.l0:=ZaB ZcO.l0.step
theorem ZcO.l0.succ (n:Nat) t:ZcO.l0 (n+1) t=ZcO.l0.step (ZcO.l0 n) t:=rfl
def ZcO.l1.step (again:(List Str×List Str×Int×Int)→Option ((Unit)⊕(Bool))):(List Str×List Str×Int×Int)→Option ((Unit)⊕(Bool)):=fun (names,t,t1,t2)=>
 (bif (decide (t2<t1)) then (need (decide (0≤t2)&&decide (t2<t.length)) (need (decide (0≤t2)&&decide (t2≤names.length)) ((ZcO.l0 ((((names.take t2.toNat).length:Int)-(0:Int)).toNat+1) (names,(t.getD t2.toNat []),t,t1,t2,(names.take t2.toNat),((names.take t2.toNat).length:Int),0)).bind fun r=>match r with
 | .inl (names2,t9,t10,t11)=>(again (names2,t9,t10,(w64 (t11+1))))
 | .inr r=>some r))) else
 (some (.inl ())))
def ZcO.l1:=ZaB ZcO.l1.step
theorem ZcO.l1.succ (n:Nat) t:ZcO.l1 (n+1) t=ZcO.l1.step (ZcO.l1 n) t:=rfl
def ZcO (xs:List Str):Option (Bool):=
 ((ZcO.l1 (((xs.length:Int)-(0:Int)).toNat+1) (xs,xs,(xs.length:Int),0)).bind fun r=>match r with
 | .inl _=>(some true)
 | .inr r=>some r)
def ZdO (num:Int) (bits:Int):Option (Bool):=
 (((Zbn bits 0 16).bind fun within_=>
 (bif within_ then (need (decide (0≤bits)) ((Zbn num 0 (w64 ((Zqj .i64 1 bits)-1))).bind fun within_1=>
 (some within_1))) else
 (some false))).bind fun c=>
 (some c))
def Zen.l0.step (again:(Int×Int×Int×Int×List Int)→Option (Int×List Int)):(Int×Int×Int×Int×List Int)→Option (Int×List Int):=fun (num1,t,t1,o,o1)=>
 (bif (decide (t1<t)) then (((bif ((o.tmod 8)==0) then (need (fits (o1.length+([0]:List (Int)).length)) (some (num1,t1,t,t1,o,(o1++[0])))) else
 (some (num1,t1,t,t1,o,o1))):Option (Int×Int×Int×Int×Int×List Int)).bind fun (num2,k,t2,t3,o2,o3)=>
 (need (decide (0≤(w64 (o2.tdiv 8)))&&decide ((w64 (o2.tdiv 8))<o3.length)) (need (decide (0≤k)) (need (decide (0≤(o2.tmod 8))) (need (decide (0≤(w64 (o2.tdiv 8)))&&decide ((w64 (o2.tdiv 8))<o3.length)) (again (num2,t2,(w64 (t3+1)),(w64 (o2+1)),(o3.set ((w64 (o2.tdiv 8)).toNat) (ior .u8 (o3.getD ((w64 (o2.tdiv 8)).toNat) 0) (IntKind.wrap .u8 (Zqj .i64 (ZjK .i64 (ZlO .i64 num2 k) 1) (o2.tmod 8)))))))))))) else
 (some (o,o1)))
def Zen.l0:=ZaB Zen.l0.step
theorem Zen.l0.succ (n:Nat) t:Zen.l0 (n+1) t=Zen.l0.step (Zen.l0 n) t:=rfl
def Zen (num:Int) (bits:Int) (many:Int) (b:List Int):Option (Int×List Int):=
 ((Zen.l0 ((bits-(0:Int)).toNat+1) (num,bits,0,many,b)).bind fun (o4,o5)=>
 (some (o4,o5)))
def ZiC (many:Int) (b:List Int):Option (Int×List Int):=
 (some ((w64 (8*(b.length:Int))),b))
def ZhB (s:Str) (at_:Int) (bad:Bool):Option (Int×Str×Int×Bool):=
 (bif (decide (at_≥(w64 (8*(s.length:Int))))) then (some (0,s,at_,true)) else
 (need (decide (0≤(w64 (at_.tdiv 8)))&&decide ((w64 (at_.tdiv 8))<s.length)) (need (decide (0≤(at_.tmod 8))) (some ((ZjK .i64 (ZlO .i64 (w64 ((s.getD (w64 (at_.tdiv 8)).toNat 0).toNat:Int)) (at_.tmod 8)) 1),s,(w64 (at_+1)),bad)))))
def Zeq.l0.step (again:(Int×Int×Int×Str×Int×Bool)→Option (Int×Str×Int×Bool)):(Int×Int×Int×Str×Int×Bool)→Option (Int×Str×Int×Bool):=fun (n,t,t1,o,o1,o2)=>
 (bif (decide (t1<t)) then ((ZhB o o1 o2).bind fun (r,r1,r2,r3)=>
 (need (decide (0≤t1)) (again ((ior .i64 n (Zqj .i64 r t1)),t,(w64 (t1+1)),r1,r2,r3)))) else
 (some (n,o,o1,o2)))
def Zeq.l0:=ZaB Zeq.l0.step
theorem Zeq.l0.succ (n:Nat) t:Zeq.l0 (n+1) t=Zeq.l0.step (Zeq.l0 n) t:=rfl
def Zeq (bits:Int) (s:Str) (at_:Int) (bad:Bool):Option (Int×Str×Int×Bool):=
 ((Zeq.l0 ((bits-(0:Int)).toNat+1) (0,bits,0,s,at_,bad)).bind fun (n1,o3,o4,o5)=>
 (some (n1,o3,o4,o5)))
def ZdJ.l0.step (again:(Str×Int×Bool)→Option (Str×Int×Bool)):(Str×Int×Bool)→Option (Str×Int×Bool):=fun (o,o1,o2)=>
 (bif ((o1.tmod 8) != 0) then ((ZhB o o1 o2).bind fun (r,r1,r2,r3)=>
 (bif (r != 0) then (again (r1,r2,true)) else
 (again (r1,r2,r3)))) else
 (some (o,o1,o2)))
def ZdJ.l0:=ZaB ZdJ.l0.step
theorem ZdJ.l0.succ (n:Nat) t:ZdJ.l0 (n+1) t=ZdJ.l0.step (ZdJ.l0 n) t:=rfl
def ZdJ (s:Str) (at_:Int) (bad:Bool):Option (Str×Int×Bool):=
 ((ZdJ.l0 (9) (s,at_,bad)).bind fun (o3,o4,o5)=>
 (some (o3,o4,o5)))
def Zbr.l0.step (again:(Int×Int×Int×Int)→Option (Int)):(Int×Int×Int×Int)→Option (Int):=fun (num1,out,t,t1)=>
 (bif (decide (t1<t)) then (need (decide (0≤t1)) (again (num1,(w64 ((w64 (2*out))+(ZjK .i64 (ZlO .i64 num1 t1) 1))),t,(w64 (t1+1))))) else
 (some out))
def Zbr.l0:=ZaB Zbr.l0.step
theorem Zbr.l0.succ (n:Nat) t:Zbr.l0 (n+1) t=Zbr.l0.step (Zbr.l0 n) t:=rfl
def Zbr (num:Int) (bits:Int):Option (Int):=
 ((ZdO num bits).bind fun pieceOk_=>
 (bif (!pieceOk_) then (some (-1)) else
 ((Zbr.l0 ((bits-(0:Int)).toNat+1) (num,0,bits,0)).bind fun out1=>
 (some out1))))
def ZaC.l0.step (again:(Int×Str×Int×Int)→Option (Int×Str×Int)):(Int×Str×Int×Int)→Option (Int×Str×Int):=fun (crc_2,text2,k1,t)=>
 (bif (decide (t<8)) then (again ((Zj7 .u32 (ZlO .u32 crc_2 1) (IntKind.wrap .u32 (3988292384*(ZjK .u32 crc_2 1)))),text2,k1,(w64 (t+1)))) else
 (some (crc_2,text2,k1)))
def ZaC.l0:=ZaB ZaC.l0.step
theorem ZaC.l0.succ (n:Nat) t:ZaC.l0 (n+1) t=ZaC.l0.step (ZaC.l0 n) t:=rfl
def ZaC.l1.step (again:(Int×Str×Int)→Option (Int)):(Int×Str×Int)→Option (Int):=fun (crc_1,text1,k)=>
 (bif (decide (k<(text1.length:Int))) then (need (decide (0≤k)&&decide (k<text1.length)) ((ZaC.l0 ((8-(0:Int)).toNat+1) ((Zj7 .u32 crc_1 (IntKind.wrap .u32 ((text1.getD k.toNat 0).toNat:Int))),text1,k,0)).bind fun (crc_3,text3,k2)=>
 (again (crc_3,text3,(w64 (k2+1)))))) else
 (some crc_1))
def ZaC.l1:=ZaB ZaC.l1.step
theorem ZaC.l1.succ (n:Nat) t:ZaC.l1 (n+1) t=ZaC.l1.step (ZaC.l1 n) t:=rfl
def ZaC (crc_:Int) (text:Str):Option (Int):=
 ((ZaC.l1 (((text.length:Int)-(0:Int)).toNat+1) ((Zj7 .u32 (IntKind.max .u32) crc_),text,0)).bind fun crc_4=>
 (some (Zj7 .u32 (IntKind.max .u32) crc_4)))
def crc (text:Str):Option (Int):=
 ((ZaC 0 text).bind fun crcUpdat=>
 (some (w64 crcUpdat)))
def ZbQ.l0.step (again:(Int×Int×Int×List Int×Int×Int)→Option ((Int×Int×Int)⊕(Bool))):(Int×Int×Int×List Int×Int×Int)→Option ((Int×Int×Int)⊕(Bool)):=fun (sum,many,last,t,t1,t2)=>
 (bif (decide (t2<t1)) then (need (decide (0≤t2)&&decide (t2<t.length)) ((Zbn (t.getD t2.toNat 0) 0 15).bind fun within_=>
 (bif (!within_) then ((some false).map Sum.inr) else
 (bif (decide ((t.getD t2.toNat 0)>0)) then (need (decide (0≤(w64 (15-(t.getD t2.toNat 0))))) (again ((w64 (sum+(Zqj .i64 1 (w64 (15-(t.getD t2.toNat 0)))))),(w64 (many+1)),(t.getD t2.toNat 0),t,t1,(w64 (t2+1))))) else
 (again (sum,many,last,t,t1,(w64 (t2+1)))))))) else
 (some (.inl (sum,many,last))))
def ZbQ.l0:=ZaB ZbQ.l0.step
theorem ZbQ.l0.succ (n:Nat) t:ZbQ.l0 (n+1) t=ZbQ.l0.step (ZbQ.l0 n) t:=rfl
def ZbQ (lens:List Int):Option (Bool):=
 (bif (decide ((lens.length:Int)>300)) then (some false) else
 ((ZbQ.l0 (((lens.length:Int)-(0:Int)).toNat+1) (0,0,0,lens,(lens.length:Int),0)).bind fun r=>match r with
 | .inl (sum1,many1,last1)=>((bif (sum1==32768) then (some true) else
 (bif (many1==1) then (some (last1==1)) else
 (some false))).bind fun c=>
 (some c))
 | .inr r=>some r))
def Zcc.l0.step (again:(List Int×Int×Int×List Int×Int×Int×List Int)→Option (List Int×Int×Int×List Int)):(List Int×Int×Int×List Int×Int×Int×List Int)→Option (List Int×Int×Int×List Int):=fun (lens2,next_1,l1,t,t1,t2,out1)=>
 (bif (decide (t2<t1)) then (need (decide (0≤t2)&&decide (t2<t.length)) (bif ((t.getD t2.toNat 0)==l1) then (need (decide (0≤t2)&&decide (t2<out1.length)) (again (lens2,(w64 (next_1+1)),l1,t,t1,(w64 (t2+1)),(out1.set t2.toNat next_1)))) else
 (again (lens2,next_1,l1,t,t1,(w64 (t2+1)),out1)))) else
 (some (lens2,next_1,l1,out1)))
def Zcc.l0:=ZaB Zcc.l0.step
theorem Zcc.l0.succ (n:Nat) t:Zcc.l0 (n+1) t=Zcc.l0.step (Zcc.l0 n) t:=rfl
def Zcc.l1.step (again:(List Int×Int×Int×List Int)→Option (List Int)):(List Int×Int×Int×List Int)→Option (List Int):=fun (lens1,next_,l,out)=>
 (bif (decide (l≤15)) then ((Zcc.l0 (((lens1.length:Int)-(0:Int)).toNat+1) (lens1,next_,l,lens1,(lens1.length:Int),0,out)).bind fun (lens3,next_2,l2,out2)=>
 (again (lens3,(w64 (next_2*2)),(w64 (l2+1)),out2))) else
 (some out))
def Zcc.l1:=ZaB Zcc.l1.step
theorem Zcc.l1.succ (n:Nat) t:Zcc.l1 (n+1) t=Zcc.l1.step (Zcc.l1 n) t:=rfl
def Zcc (lens:List Int):Option (List Int):=
 (need (decide (0≤(lens.length:Int))&&fits (lens.length:Int).toNat) ((Zcc.l1 ((15-(1:Int)).toNat+2) (lens,0,1,(List.replicate (lens.length:Int).toNat (0:Int)))).bind fun out3=>
 (some out3)))
def ZaV.l0.step (again:((List (Int×List Int))×Int×(List (Int×List Int))×Int×Int×Int×List Int)→Option ((List (Int×List Int))×Int×Int×List Int)):((List (Int×List Int))×Int×(List (Int×List Int))×Int×Int×Int×List Int)→Option ((List (Int×List Int))×Int×Int×List Int):=fun (list1,at_,t,t1,t2,o,o1)=>
 (bif (decide (t2<t1)) then (need (decide (0≤t2)&&decide (t2<t.length)) ((need (decide (0≤at_)&&decide (at_<list1.length)) (bif (decide ((t.getD t2.toNat (0,[])).1<(list1.getD at_.toNat (0,[])).1)) then (some true) else
 (need (decide (0≤at_)&&decide (at_<list1.length)) (bif ((t.getD t2.toNat (0,[])).1==(list1.getD at_.toNat (0,[])).1) then (need (decide (0≤(0:Int))&&decide ((0:Int)<((t.getD t2.toNat (0,[])).2).length)) (need (decide (0≤at_)&&decide (at_<list1.length)) (need (decide (0≤(0:Int))&&decide ((0:Int)<((list1.getD at_.toNat (0,[])).2).length)) (some (decide ((((t.getD t2.toNat (0,[])).2).getD 0 0)<(((list1.getD at_.toNat (0,[])).2).getD 0 0))))))) else
 (some false))))).bind fun c=>
 (bif c then (again (list1,t2,t,t1,(w64 (t2+1)),o,o1)) else
 (again (list1,at_,t,t1,(w64 (t2+1)),o,o1))))) else
 (some (list1,at_,o,o1)))
def ZaV.l0:=ZaB ZaV.l0.step
theorem ZaV.l0.succ (n:Nat) t:ZaV.l0 (n+1) t=ZaV.l0.step (ZaV.l0 n) t:=rfl
def ZaV (list:List (Int×List Int)):Option (Int×List Int×List (Int×List Int)):=
 ((ZaV.l0 (((list.length:Int)-(0:Int)).toNat+1) (list,0,list,(list.length:Int),0,0,[])).bind fun (list2,at_1,o2,o3)=>
 (need (decide (0≤at_1)&&decide (at_1<list2.length)) (need (decide (0≤at_1)&&decide (at_1≤list2.length)) (need (fits (([]:List (Int×List Int)).length+(list2.take at_1.toNat).length)) (need (decide (0≤(w64 (at_1+1)))&&decide ((w64 (at_1+1))≤list2.length)) (need (fits (([]++(list2.take at_1.toNat)).length+(list2.drop (w64 (at_1+1)).toNat).length)) (some ((list2.getD at_1.toNat (0,[])).1,(list2.getD at_1.toNat (0,[])).2,(([]++(list2.take at_1.toNat))++(list2.drop (w64 (at_1+1)).toNat))))))))))
def Zbc.l1.step (again:(Int×Int×List Int×Int×List Int×Int×List Int×(List (Int×List Int))×List Int)→Option (List Int×Int×List Int×Int×List Int×(List (Int×List Int))×List Int)):(Int×Int×List Int×Int×List Int×Int×List Int×(List (Int×List Int))×List Int)→Option (List Int×Int×List Int×Int×List Int×(List (Int×List Int))×List Int):=fun (t3,t4,out3,o,o1,o2,o3,left,o4)=>
 (bif (decide (t4<t3)) then (need (decide (0≤t4)&&decide (t4<o4.length)) (need (decide (0≤(o4.getD t4.toNat 0))&&decide ((o4.getD t4.toNat 0)<out3.length)) (need (decide (0≤(o4.getD t4.toNat 0))&&decide ((o4.getD t4.toNat 0)<out3.length)) (need (decide (0≤(0:Int))&&decide ((0:Int)<o4.length)) (bif (decide ((o4.getD t4.toNat 0)<(o4.getD 0 0))) then (need (decide (0≤(0:Int))&&decide ((0:Int)<o4.length)) (need (decide (0≤(0:Int))&&decide ((0:Int)<o4.length)) (need (decide (0≤t4)&&decide (t4<(o4.set 0 (o4.getD t4.toNat 0)).length)) (again (t3,(w64 (t4+1)),(out3.set ((o4.getD t4.toNat 0).toNat) (w64 ((out3.getD ((o4.getD t4.toNat 0).toNat) 0)+1))),o,o1,o2,o3,left,((o4.set 0 (o4.getD t4.toNat 0)).set t4.toNat (o4.getD 0 0))))))) else
 (again (t3,(w64 (t4+1)),(out3.set ((o4.getD t4.toNat 0).toNat) (w64 ((out3.getD ((o4.getD t4.toNat 0).toNat) 0)+1))),o,o1,o2,o3,left,o4))))))) else
 (some (out3,o,o1,o2,o3,left,o4)))
def Zbc.l1:=ZaB Zbc.l1.step
theorem Zbc.l1.succ (n:Nat) t:Zbc.l1 (n+1) t=Zbc.l1.step (Zbc.l1 n) t:=rfl
def Zbc.l2.step (again:(List Int×List (Int×List Int))→Option (List Int)):(List Int×List (Int×List Int))→Option (List Int):=fun (out2,list2)=>
 (bif (decide ((list2.length:Int)>1)) then ((ZaV list2).bind fun (r,r1,r2)=>
 ((ZaV r2).bind fun (r3,r4,r5)=>
 (need (fits (([]:List (Int)).length+r1.length)) (need (fits (([]++r1).length+r4.length)) ((Zbc.l1 ((((([]++r1)++r4).length:Int)-(0:Int)).toNat+1) (((([]++r1)++r4).length:Int),0,out2,r,r1,r3,r4,r5,(([]++r1)++r4))).bind fun (out4,o5,o6,o7,o8,left1,syms)=>
 (need (fits (left1.length+([((w64 (o5+o7)),syms)]:List (Int×List Int)).length)) (again (out4,(left1++[((w64 (o5+o7)),syms)]))))))))) else
 (some out2))
def Zbc.l2:=ZaB Zbc.l2.step
theorem Zbc.l2.succ (n:Nat) t:Zbc.l2 (n+1) t=Zbc.l2.step (Zbc.l2 n) t:=rfl
def Zbc.l0.step (again:(List Int×Int×Int×List Int×List (Int×List Int))→Option (List Int×List (Int×List Int))):(List Int×Int×Int×List Int×List (Int×List Int))→Option (List Int×List (Int×List Int)):=fun (t,t1,t2,out,list)=>
 (bif (decide (t2<t1)) then (need (decide (0≤t2)&&decide (t2<t.length)) (bif (decide ((t.getD t2.toNat 0)>0)) then (need (fits (list.length+([((t.getD t2.toNat 0),[t2])]:List (Int×List Int)).length)) (again (t,t1,(w64 (t2+1)),out,(list++[((t.getD t2.toNat 0),[t2])])))) else
 (again (t,t1,(w64 (t2+1)),out,list)))) else
 (some (out,list)))
def Zbc.l0:=ZaB Zbc.l0.step
theorem Zbc.l0.succ (n:Nat) t:Zbc.l0 (n+1) t=Zbc.l0.step (Zbc.l0 n) t:=rfl
def Zbc (counts:List Int):Option (List Int):=
 (need (decide (0≤(counts.length:Int))&&fits (counts.length:Int).toNat) ((Zbc.l0 (((counts.length:Int)-(0:Int)).toNat+1) (counts,(counts.length:Int),0,(List.replicate (counts.length:Int).toNat (0:Int)),[])).bind fun (out1,list1)=>
 (bif ((list1.length:Int)==1) then (need (decide (0≤(0:Int))&&decide ((0:Int)<list1.length)) (need (decide (0≤(0:Int))&&decide ((0:Int)<((list1.getD 0 (0,[])).2).length)) (need (decide (0≤(((list1.getD 0 (0,[])).2).getD 0 0))&&decide ((((list1.getD 0 (0,[])).2).getD 0 0)<out1.length)) (some (out1.set ((((list1.getD 0 (0,[])).2).getD 0 0).toNat) 1))))) else
 ((Zbc.l2 (((list1.length:Int)-1).toNat+1) (out1,list1)).bind fun out5=>
 (some out5)))))
def ZaR.l2.step (again:(Int×Int×Int×List Int)→Option (Int×List Int)):(Int×Int×Int×List Int)→Option (Int×List Int):=fun (most6,t5,t6,now5)=>
 (bif (decide (t6<t5)) then (need (decide (0≤t6)&&decide (t6<now5.length)) (need (decide (0≤t6)&&decide (t6<now5.length)) (again (most6,t5,(w64 (t6+1)),(now5.set t6.toNat (w64 ((w64 ((now5.getD t6.toNat 0)+1)).tdiv 2))))))) else
 (some (most6,now5)))
def ZaR.l2:=ZaB ZaR.l2.step
theorem ZaR.l2.succ (n:Nat) t:ZaR.l2 (n+1) t=ZaR.l2.step (ZaR.l2 n) t:=rfl
def ZaR.l1.step (again:(Int×Int×Int×Int×List Int×List Int)→Option (Int×Int×List Int×List Int)):(Int×Int×Int×Int×List Int×List Int)→Option (Int×Int×List Int×List Int):=fun (most4,long,t3,t4,now3,o)=>
 (bif (decide (t4<t3)) then (need (decide (0≤t4)&&decide (t4<o.length)) (again (most4,(Zmx long (o.getD t4.toNat 0)),t3,(w64 (t4+1)),now3,o))) else
 (some (most4,long,now3,o)))
def ZaR.l1:=ZaB ZaR.l1.step
theorem ZaR.l1.succ (n:Nat) t:ZaR.l1 (n+1) t=ZaR.l1.step (ZaR.l1 n) t:=rfl
def ZaR.l3.step (again:(Int×List Int)→Option ((Unit)⊕(List Int))):(Int×List Int)→Option ((Unit)⊕(List Int)):=fun (most3,now2)=>
 ((Zbc now2).bind fun depths_=>
 ((ZaR.l1 (((depths_.length:Int)-(0:Int)).toNat+1) (most3,0,(depths_.length:Int),0,now2,depths_)).bind fun (most5,long1,now4,out)=>
 (bif (decide (long1≤most5)) then ((some out).map Sum.inr) else
 ((ZaR.l2 (((now4.length:Int)-(0:Int)).toNat+1) (most5,(now4.length:Int),0,now4)).bind fun (most7,now6)=>
 (again (most7,now6))))))
def ZaR.l3:=ZaB ZaR.l3.step
theorem ZaR.l3.succ (n:Nat) t:ZaR.l3 (n+1) t=ZaR.l3.step (ZaR.l3 n) t:=rfl
def ZaR.l0.step (again:(Int×Int×List Int×Int×Int×List Int)→Option ((Int×Int×List Int)⊕(List Int))):(Int×Int×List Int×Int×Int×List Int)→Option ((Int×Int×List Int)⊕(List Int)):=fun (most1,many,t,t1,t2,now)=>
 (bif (decide (t2<t1)) then (need (decide (0≤t2)&&decide (t2<t.length)) ((Zbn (t.getD t2.toNat 0) 0 100000).bind fun within_1=>
 (bif (!within_1) then ((some []).map Sum.inr) else
 (bif (decide ((t.getD t2.toNat 0)>0)) then (need (fits (now.length+([(t.getD t2.toNat 0)]:List (Int)).length)) (again (most1,(w64 (many+1)),t,t1,(w64 (t2+1)),(now++[(t.getD t2.toNat 0)])))) else
 (need (fits (now.length+([(t.getD t2.toNat 0)]:List (Int)).length)) (again (most1,many,t,t1,(w64 (t2+1)),(now++[(t.getD t2.toNat 0)])))))))) else
 (some (.inl (most1,many,now))))
def ZaR.l0:=ZaB ZaR.l0.step
theorem ZaR.l0.succ (n:Nat) t:ZaR.l0 (n+1) t=ZaR.l0.step (ZaR.l0 n) t:=rfl
def ZaR (counts:List Int) (most:Int):Option (List Int):=
 ((bif (decide ((counts.length:Int)>300)) then (some true) else
 ((Zbn most 1 15).bind fun within_=>
 (some (!within_)))).bind fun c=>
 (bif c then (some []) else
 ((ZaR.l0 (((counts.length:Int)-(0:Int)).toNat+1) (most,0,counts,(counts.length:Int),0,[])).bind fun r=>match r with
 | .inl (most2,many1,now1)=>(need (decide (0≤(w64 (most2-1)))) ((Zbn many1 1 (Zqj .i64 1 (w64 (most2-1)))).bind fun within_2=>
 (bif (!within_2) then (some []) else
 ((ZaR.l3 (100000) (most2,now1)).bind fun r=>match r with
 | .inl _=>none
 | .inr r=>some r))))
 | .inr r=>some r)))
def ZbS.l0.step (again:(List Int×Int×Int×(List ((Int×Int)×Int))×List Int)→Option (List ((Int×Int)×Int))):(List Int×Int×Int×(List ((Int×Int)×Int))×List Int)→Option (List ((Int×Int)×Int)):=fun (lens1,t,t1,o,o1)=>
 (bif (decide (t1<t)) then (need (decide (0≤t1)&&decide (t1<o1.length)) (need (decide (0≤t1)&&decide (t1<lens1.length)) (bif (decide ((lens1.getD t1.toNat 0)>0)) then (need (decide (0≤t1)&&decide (t1<lens1.length)) (again (lens1,t,(w64 (t1+1)),(ZeF [.int .i64,.int .i64] [.int .i64] o ((o1.getD t1.toNat 0),(lens1.getD t1.toNat 0)) t1),o1))) else
 (again (lens1,t,(w64 (t1+1)),o,o1))))) else
 (some o))
def ZbS.l0:=ZaB ZbS.l0.step
theorem ZbS.l0.succ (n:Nat) t:ZbS.l0 (n+1) t=ZbS.l0.step (ZbS.l0 n) t:=rfl
def ZbS (lens:List Int):Option (List ((Int×Int)×Int)):=
 ((Zcc lens).bind fun codes_=>
 ((ZbS.l0 (((codes_.length:Int)-(0:Int)).toNat+1) (lens,(codes_.length:Int),0,[],codes_)).bind fun o2=>
 (some o2)))
def Zbd.l0.step (again:(Int×Int×Str×Int×Bool×List ((Int×Int)×Int))→Option ((Str×Int×Bool×List ((Int×Int)×Int))⊕(Int×Str×Int×Bool×List ((Int×Int)×Int)))):(Int×Int×Str×Int×Bool×List ((Int×Int)×Int))→Option ((Str×Int×Bool×List ((Int×Int)×Int))⊕(Int×Str×Int×Bool×List ((Int×Int)×Int))):=fun (code_,l,o,o1,o2,o3)=>
 (bif (decide (l≤15)) then ((ZhB o o1 o2).bind fun (r,r1,r2,r3)=>
 ((bif (ZdQ [.int .i64,.int .i64] [.int .i64] o3 ((w64 ((w64 (2*code_))+r)),l)).isSome then (some (!r3)) else
 (some false)).bind fun c=>
 (bif c then ((some (((ZdQ [.int .i64,.int .i64] [.int .i64] o3 ((w64 ((w64 (2*code_))+r)),l)).getD 0),r1,r2,r3,o3)).map Sum.inr) else
 (again ((w64 ((w64 (2*code_))+r)),(w64 (l+1)),r1,r2,r3,o3))))) else
 (some (.inl (o,o1,o2,o3))))
def Zbd.l0:=ZaB Zbd.l0.step
theorem Zbd.l0.succ (n:Nat) t:Zbd.l0 (n+1) t=Zbd.l0.step (Zbd.l0 n) t:=rfl
def Zbd (s:Str) (at_:Int) (bad:Bool) (book:List ((Int×Int)×Int)):Option (Int×Str×Int×Bool×List ((Int×Int)×Int)):=
 ((Zbd.l0 ((15-(1:Int)).toNat+2) (0,1,s,at_,bad,book)).bind fun r=>match r with
 | .inl (o4,o5,o6,o7)=>(some (0,o4,o5,true,o7))
 | .inr r=>some r)
def add.l0.step (again:(Int×Int×List Int×Int×Int×Int)→Option (List Int)):(Int×Int×List Int×Int×Int×Int)→Option (List Int):=fun (t,t1,out1,o,o1,o2)=>
 (bif (decide (t1<t)) then (need (decide (0≤(w64 ((out1.length:Int)-o2)))&&decide ((w64 ((out1.length:Int)-o2))<out1.length)) (need (fits (out1.length+([(out1.getD ((w64 ((out1.length:Int)-o2)).toNat) 0)]:List (Int)).length)) (again (t,(w64 (t1+1)),(out1++[(out1.getD ((w64 ((out1.length:Int)-o2)).toNat) 0)]),o,o1,o2)))) else
 (some out1))
def add.l0:=ZaB add.l0.step
theorem add.l0.succ (n:Nat) t:add.l0 (n+1) t=add.l0.step (add.l0 n) t:=rfl
def add (byte:Int) (long:Int) (back:Int) (out:List Int):Option (Bool×List Int):=
 (bif (long==0) then ((bif (back != 0) then (some true) else
 ((Zbn byte 0 255).bind fun within_=>
 (some (!within_)))).bind fun c=>
 (bif c then (some (false,[])) else
 (need (fits (out.length+([(IntKind.wrap .u8 byte)]:List (Int)).length)) (some (true,(out++[(IntKind.wrap .u8 byte)])))))) else
 ((bif (byte != 0) then (some true) else
 ((Zbn long 3 60).bind fun within_1=>
 (bif (!within_1) then (some true) else
 ((Zbn back 1 (ZjH 250 (out.length:Int))).bind fun within_2=>
 (some (!within_2)))))).bind fun c1=>
 (bif c1 then (some (false,[])) else
 ((add.l0 ((long-(0:Int)).toNat+1) (long,0,out,byte,long,back)).bind fun out2=>
 (some (true,out2))))))
def Zap.l0.step (again:(Str×Int×Int×Int×(List (Int×Int×Int))×Int×Int×Int)→Option (Str×Int×Int×Int×(List (Int×Int×Int))×Int×Int×Int)):(Str×Int×Int×Int×(List (Int×Int×Int))×Int×Int×Int)→Option (Str×Int×Int×Int×(List (Int×Int×Int))×Int×Int×Int):=fun (text3,at_2,back1,n,out2,o3,o4,o5)=>
 ((bif (decide (n<60)) then (bif (decide ((w64 (at_2+n))<(text3.length:Int))) then (need (decide (0≤(w64 (at_2+n)))&&decide ((w64 (at_2+n))<text3.length)) (need (decide (0≤(w64 ((w64 (at_2+n))-back1)))&&decide ((w64 ((w64 (at_2+n))-back1))<text3.length)) (some (((text3.getD (w64 (at_2+n)).toNat 0).toNat:Int)==((text3.getD (w64 ((w64 (at_2+n))-back1)).toNat 0).toNat:Int))))) else
 (some false)) else
 (some false)).bind fun c=>
 (bif c then (again (text3,at_2,back1,(w64 (n+1)),out2,o3,o4,o5)) else
 (some (text3,at_2,back1,n,out2,o3,o4,o5))))
def Zap.l0:=ZaB Zap.l0.step
theorem Zap.l0.succ (n:Nat) t:Zap.l0 (n+1) t=Zap.l0.step (Zap.l0 n) t:=rfl
def Zap.l1.step (again:(Str×Int×Int×(List (Int×Int×Int))×Int×Int×Int)→Option (Str×Int×(List (Int×Int×Int))×Int×Int×Int)):(Str×Int×Int×(List (Int×Int×Int))×Int×Int×Int)→Option (Str×Int×(List (Int×Int×Int))×Int×Int×Int):=fun (text2,at_1,back,out1,o,o1,o2)=>
 (bif (decide (back≤(ZjH 250 at_1))) then ((Zap.l0 ((60-(0:Int)).toNat+1) (text2,at_1,back,0,out1,o,o1,o2)).bind fun (text4,at_3,back2,n1,out3,o6,o7,o8)=>
 ((bif (decide (n1≥3)) then (some (decide (n1>o7))) else
 (some false)).bind fun c1=>
 (bif c1 then (again (text4,at_3,(w64 (back2+1)),out3,0,n1,back2)) else
 (again (text4,at_3,(w64 (back2+1)),out3,o6,o7,o8))))) else
 (some (text2,at_1,out1,o,o1,o2)))
def Zap.l1:=ZaB Zap.l1.step
theorem Zap.l1.succ (n:Nat) t:Zap.l1 (n+1) t=Zap.l1.step (Zap.l1 n) t:=rfl
def Zap.l2.step (again:(Str×Int×List (Int×Int×Int))→Option (List (Int×Int×Int))):(Str×Int×List (Int×Int×Int))→Option (List (Int×Int×Int)):=fun (text1,at_,out)=>
 (bif (decide (at_<(text1.length:Int))) then (need (decide (0≤at_)&&decide (at_<text1.length)) ((Zap.l1 (((ZjH 250 at_)-(1:Int)).toNat+2) (text1,at_,1,out,(w64 ((text1.getD at_.toNat 0).toNat:Int)),0,0)).bind fun (text5,at_4,out4,o9,o10,o11)=>
 (need (fits (out4.length+([(o9,o10,o11)]:List (Int×Int×Int)).length)) (again (text5,(w64 (at_4+(Zmx o10 1))),(out4++[(o9,o10,o11)])))))) else
 (some out))
def Zap.l2:=ZaB Zap.l2.step
theorem Zap.l2.succ (n:Nat) t:Zap.l2 (n+1) t=Zap.l2.step (Zap.l2 n) t:=rfl
def Zap (text:Str):Option (List (Int×Int×Int)):=
 (bif (decide ((text.length:Int)>300)) then (some []) else
 ((Zap.l2 (((text.length:Int)-(0:Int)).toNat+1) (text,0,[])).bind fun out5=>
 (some out5)))
def Zb3.l0.step (again:(Int×Int×Int×Int×Int×List Int×List Int×List Int×List Int)→Option (List Int×List Int×List Int×List Int)):(Int×Int×Int×Int×Int×List Int×List Int×List Int×List Int)→Option (List Int×List Int×List Int×List Int):=fun (from_1,plain1,each1,t,t1,o,o1,o2,o3)=>
 (bif (decide (t1<t)) then (((bif (decide (t1≥plain1)) then (need (each1 != 0) (some (from_1,plain1,each1,(w64 ((w64 ((w64 (t1-plain1)).tdiv each1))+1)),t,t1,o,o1,o2,o3))) else
 (some (from_1,plain1,each1,0,t,t1,o,o1,o2,o3))):Option (Int×Int×Int×Int×Int×Int×List Int×List Int×List Int×List Int)).bind fun (from_2,plain2,each2,bits,t2,t3,o4,o5,o6,o7)=>
 (need (fits (o6.length+([from_2]:List (Int)).length)) (need (fits (o7.length+([bits]:List (Int)).length)) (need (decide (0≤bits)) (again ((w64 (from_2+(Zqj .i64 1 bits))),plain2,each2,t2,(w64 (t3+1)),o4,o5,(o6++[from_2]),(o7++[bits]))))))) else
 (some (o,o1,o2,o3)))
def Zb3.l0:=ZaB Zb3.l0.step
def Zb3 (from_:Int) (many:Int) (plain:Int) (each:Int):Option (List Int×List Int):=
 ((Zb3.l0 ((many-(0:Int)).toNat+1) (from_,plain,each,many,0,[],[],[],[])).bind fun (o8,o9,o10,o11)=>
 (some (o10,o11)))
def ZbI:Option (List Int×List Int):=
 ((Zb3 3 28 8 4).bind fun (r,r1)=>
 (some (r,r1)))
def ZbK:Option (List Int×List Int):=
 ((Zb3 1 30 4 2).bind fun (r,r1)=>
 (some (r,r1)))
def ZbY.l0.step (again:(Int×Int×List Int×List Int)→Option (Int)):(Int×Int×List Int×List Int)→Option (Int):=fun (n1,k,o,o1)=>
 (need (decide (0≤k)&&decide (k<o.length)) (bif (decide ((o.getD k.toNat 0)>n1)) then (again (n1,(w64 (k-1)),o,o1)) else
 (some k)))
def ZbY.l0:=ZaB ZbY.l0.step
def ZbY (first:List Int) (bits:List Int) (n:Int):Option (Int):=
 ((ZbY.l0 ((w64 ((first.length:Int)-1)).toNat+1) (n,(w64 ((first.length:Int)-1)),first,bits)).bind fun k1=>
 (some k1))
def Zbg.l1.step (again:(Int×Int×List Int×List Int)→Option (List Int×List Int)):(Int×Int×List Int×List Int)→Option (List Int×List Int):=fun (t2,t3,lit2,dist)=>
 (bif (decide (t3<t2)) then (need (decide (0≤t3)&&decide (t3<dist.length)) (again (t2,(w64 (t3+1)),lit2,(dist.set t3.toNat 5)))) else
 (some (lit2,dist)))
def Zbg.l1:=ZaB Zbg.l1.step
def Zbg.l0.step (again:(Int×Int×List Int)→Option (List Int)):(Int×Int×List Int)→Option (List Int):=fun (t,t1,lit)=>
 (bif (decide (t1<t)) then ((bif (decide (t1<144)) then (some true) else
 (some (decide (t1≥280)))).bind fun c=>
 (bif c then (need (decide (0≤t1)&&decide (t1<lit.length)) (again (t,(w64 (t1+1)),(lit.set t1.toNat 8)))) else
 (bif (decide (t1<256)) then (need (decide (0≤t1)&&decide (t1<lit.length)) (again (t,(w64 (t1+1)),(lit.set t1.toNat 9)))) else
 (need (decide (0≤t1)&&decide (t1<lit.length)) (again (t,(w64 (t1+1)),(lit.set t1.toNat 7))))))) else
 (some lit))
def Zbg.l0:=ZaB Zbg.l0.step
def Zbg:Option (List Int×List Int):=
 (need (decide (0≤288)&&fits 288) ((Zbg.l0 ((((List.replicate 288 (0:Int)).length:Int)-(0:Int)).toNat+1) (((List.replicate 288 (0:Int)).length:Int),0,(List.replicate 288 (0:Int)))).bind fun lit1=>
 (need (decide (0≤32)&&fits 32) ((Zbg.l1 ((((List.replicate 32 (0:Int)).length:Int)-(0:Int)).toNat+1) (((List.replicate 32 (0:Int)).length:Int),0,lit1,(List.replicate 32 (0:Int)))).bind fun (lit3,dist1)=>
 (some (lit3,dist1))))))
def Zc6 (text:Str):Option (Str):=
 (bif (decide ((text.length:Int)>300)) then (some []) else
 ((Zen 1 3 0 []).bind fun (r,r1)=>
 ((ZiC r r1).bind fun (r2,r3)=>
 ((Zen (text.length:Int) 16 r2 r3).bind fun (r4,r5)=>
 ((Zen (w64 (65535-(text.length:Int))) 16 r4 r5).bind fun (r6,r7)=>
 (need (fits ((ZbM r7).length+text.length)) (some ((ZbM r7)++text))))))))
def Zfx (lens:List Int) (all:List Int) (s:Int) (many:Int) (b:List Int):Option (Int×List Int):=
 (need (decide (0≤s)&&decide (s<all.length)) (need (decide (0≤s)&&decide (s<lens.length)) ((Zbr (all.getD s.toNat 0) (lens.getD s.toNat 0)).bind fun BitsTurn=>
 (need (decide (0≤s)&&decide (s<lens.length)) ((Zen BitsTurn (lens.getD s.toNat 0) many b).bind fun (r,r1)=>
 (some (r,r1)))))))
def Zbz.l0.step (again:(List Int×List Int×(List (Int×Int×Int))×Int×Int×Int×List Int×List Int×List Int)→Option (List Int×Int×List Int×List Int)):(List Int×List Int×(List (Int×Int×Int))×Int×Int×Int×List Int×List Int×List Int)→Option (List Int×Int×List Int×List Int):=fun (lit1,dist1,t,t1,t2,o,a,b1,o1)=>
 (bif (decide (t2<t1)) then (need (decide (0≤t2)&&decide (t2<t.length)) (bif ((t.getD t2.toNat (0,0,0)).2.1==0) then ((Zfx lit1 a ((t.getD t2.toNat (0,0,0)).1) o o1).bind fun (r,r1)=>
 (again (lit1,dist1,t,t1,(w64 (t2+1)),r,a,b1,r1))) else
 ((ZbI).bind fun (r2,r3)=>
 ((ZbY r2 r3 ((t.getD t2.toNat (0,0,0)).2.1)).bind fun find_=>
 ((Zfx lit1 a (w64 (257+find_)) o o1).bind fun (r4,r5)=>
 ((ZbI).bind fun (r6,r7)=>
 (need (decide (0≤find_)&&decide (find_<r6.length)) ((ZbI).bind fun (r8,r9)=>
 (need (decide (0≤find_)&&decide (find_<r9.length)) ((Zen (w64 ((t.getD t2.toNat (0,0,0)).2.1-(r6.getD find_.toNat 0))) (r9.getD find_.toNat 0) r4 r5).bind fun (r10,r11)=>
 ((ZbK).bind fun (r12,r13)=>
 ((ZbY r12 r13 ((t.getD t2.toNat (0,0,0)).2.2)).bind fun find_1=>
 ((Zfx dist1 b1 find_1 r10 r11).bind fun (r14,r15)=>
 ((ZbK).bind fun (r16,r17)=>
 (need (decide (0≤find_1)&&decide (find_1<r16.length)) ((ZbK).bind fun (r18,r19)=>
 (need (decide (0≤find_1)&&decide (find_1<r19.length)) ((Zen (w64 ((t.getD t2.toNat (0,0,0)).2.2-(r16.getD find_1.toNat 0))) (r19.getD find_1.toNat 0) r14 r15).bind fun (r20,r21)=>
 (again (lit1,dist1,t,t1,(w64 (t2+1)),r20,a,b1,r21)))))))))))))))))))) else
 (some (lit1,o,a,o1)))
def Zbz.l0:=ZaB Zbz.l0.step
theorem Zbz.l0.succ (n:Nat) t:Zbz.l0 (n+1) t=Zbz.l0.step (Zbz.l0 n) t:=rfl
def Zbz (list:List (Int×Int×Int)) (lit:List Int) (dist:List Int) (many:Int) (b:List Int):Option (Int×List Int):=
 ((Zcc lit).bind fun codes_=>
 ((Zcc dist).bind fun codes_1=>
 ((Zbz.l0 (((list.length:Int)-(0:Int)).toNat+1) (lit,dist,list,(list.length:Int),0,many,codes_,codes_1,b)).bind fun (lit2,o2,a1,o3)=>
 ((Zfx lit2 a1 256 o2 o3).bind fun (r22,r23)=>
 (some (r22,r23))))))
def Zdd (text:Str):Option (Str):=
 (bif (decide ((text.length:Int)>300)) then (some []) else
 ((Zen 1 1 0 []).bind fun (r,r1)=>
 ((Zen 1 2 r r1).bind fun (r2,r3)=>
 ((Zbg).bind fun (r4,r5)=>
 ((Zap text).bind fun TokensOf=>
 ((Zbz TokensOf r4 r5 r2 r3).bind fun (r6,r7)=>
 (some (ZbM r7))))))))
def Zbw.l0.step (again:(List Int×Int×Int)→Option (List Int×Int)):(List Int×Int×Int)→Option (List Int×Int):=fun (lens1,least_1,n)=>
 ((bif (decide (n>least_1)) then (need (decide (0≤(w64 (n-1)))&&decide ((w64 (n-1))<lens1.length)) (some ((lens1.getD (w64 (n-1)).toNat 0)==0))) else
 (some false)).bind fun c=>
 (bif c then (again (lens1,least_1,(w64 (n-1)))) else
 (some (lens1,n))))
def Zbw.l0:=ZaB Zbw.l0.step
theorem Zbw.l0.succ (n:Nat) t:Zbw.l0 (n+1) t=Zbw.l0.step (Zbw.l0 n) t:=rfl
def Zbw (lens:List Int) (least_:Int):Option (List Int):=
 ((Zbw.l0 (((lens.length:Int)-least_).toNat+1) (lens,least_,(lens.length:Int))).bind fun (lens2,n1)=>
 (need (decide (0≤n1)&&decide (n1≤lens2.length)) (some (lens2.take n1.toNat))))
def ZaU.l3.step (again:(List Int×List Int×Int×Int×(List (Int×Int×Int))×List Int×Int×List Int×List Int×List Int)→Option (List Int×List Int×(List (Int×Int×Int))×Int×List Int)):(List Int×List Int×Int×Int×(List (Int×Int×Int))×List Int×Int×List Int×List Int×List Int)→Option (List Int×List Int×(List (Int×Int×Int))×Int×List Int):=fun (lit4,dist4,t7,t8,list6,meta_2,o6,m,o7,o8)=>
 (bif (decide (t8<t7)) then (need (decide (0≤t8)&&decide (t8<o7.length)) ((Zfx meta_2 m (o7.getD t8.toNat 0) o6 o8).bind fun (r16,r17)=>
 (again (lit4,dist4,t7,(w64 (t8+1)),list6,meta_2,r16,m,o7,r17)))) else
 (some (lit4,dist4,list6,o6,o8)))
def ZaU.l3:=ZaB ZaU.l3.step
theorem ZaU.l3.succ (n:Nat) t:ZaU.l3 (n+1) t=ZaU.l3.step (ZaU.l3 n) t:=rfl
def ZaU.l2.step (again:(List Int×List Int×List Int×Int×Int×(List (Int×Int×Int))×List Int×List Int×Int×List Int)→Option (List Int×List Int×(List (Int×Int×Int))×List Int×List Int×Int×List Int)):(List Int×List Int×List Int×Int×Int×(List (Int×Int×Int))×List Int×List Int×Int×List Int)→Option (List Int×List Int×(List (Int×Int×Int))×List Int×List Int×Int×List Int):=fun (lit2,dist2,t4,t5,t6,list4,all1,meta_,o2,o3)=>
 (bif (decide (t6<t5)) then (need (decide (0≤t6)&&decide (t6<t4.length)) (need (decide (0≤(t4.getD t6.toNat 0))&&decide ((t4.getD t6.toNat 0)<meta_.length)) ((Zen (meta_.getD ((t4.getD t6.toNat 0).toNat) 0) 3 o2 o3).bind fun (r14,r15)=>
 (again (lit2,dist2,t4,t5,(w64 (t6+1)),list4,all1,meta_,r14,r15))))) else
 (some (lit2,dist2,list4,all1,meta_,o2,o3)))
def ZaU.l2:=ZaB ZaU.l2.step
theorem ZaU.l2.succ (n:Nat) t:ZaU.l2 (n+1) t=ZaU.l2.step (ZaU.l2 n) t:=rfl
def ZaU.l1.step (again:(List Int×List Int×Int×Int×(List (Int×Int×Int))×List Int×List Int)→Option (List Int×List Int×(List (Int×Int×Int))×List Int×List Int)):(List Int×List Int×Int×Int×(List (Int×Int×Int))×List Int×List Int)→Option (List Int×List Int×(List (Int×Int×Int))×List Int×List Int):=fun (lit,dist,t2,t3,list2,o1,c)=>
 (bif (decide (t3<t2)) then (need (decide (0≤t3)&&decide (t3<o1.length)) (need (decide (0≤(o1.getD t3.toNat 0))&&decide ((o1.getD t3.toNat 0)<c.length)) (need (decide (0≤(o1.getD t3.toNat 0))&&decide ((o1.getD t3.toNat 0)<c.length)) (again (lit,dist,t2,(w64 (t3+1)),list2,o1,(c.set ((o1.getD t3.toNat 0).toNat) (w64 ((c.getD ((o1.getD t3.toNat 0).toNat) 0)+1)))))))) else
 (some (lit,dist,list2,o1,c)))
def ZaU.l1:=ZaB ZaU.l1.step
theorem ZaU.l1.succ (n:Nat) t:ZaU.l1 (n+1) t=ZaU.l1.step (ZaU.l1 n) t:=rfl
def ZaU.l0.step (again:(Bool×Int×Int×(List (Int×Int×Int))×List Int×List Int)→Option (Bool×(List (Int×Int×Int))×List Int×List Int)):(Bool×Int×Int×(List (Int×Int×Int))×List Int×List Int)→Option (Bool×(List (Int×Int×Int))×List Int×List Int):=fun (none_,t,t1,o,a,b)=>
 (bif (decide (t1<t)) then (need (decide (0≤t1)&&decide (t1<o.length)) (bif ((o.getD t1.toNat (0,0,0)).2.1==0) then (need (decide (0≤(o.getD t1.toNat (0,0,0)).1)&&decide ((o.getD t1.toNat (0,0,0)).1<a.length)) (need (decide (0≤(o.getD t1.toNat (0,0,0)).1)&&decide ((o.getD t1.toNat (0,0,0)).1<a.length)) (again (none_,t,(w64 (t1+1)),o,(a.set (((o.getD t1.toNat (0,0,0)).1).toNat) (w64 ((a.getD (((o.getD t1.toNat (0,0,0)).1).toNat) 0)+1))),b)))) else
 ((ZbI).bind fun (r,r1)=>
 ((ZbY r r1 ((o.getD t1.toNat (0,0,0)).2.1)).bind fun find_=>
 (need (decide (0≤(w64 (257+find_)))&&decide ((w64 (257+find_))<a.length)) (need (decide (0≤(w64 (257+find_)))&&decide ((w64 (257+find_))<a.length)) ((ZbK).bind fun (r2,r3)=>
 ((ZbY r2 r3 ((o.getD t1.toNat (0,0,0)).2.2)).bind fun find_1=>
 (need (decide (0≤find_1)&&decide (find_1<b.length)) (need (decide (0≤find_1)&&decide (find_1<b.length)) (again (false,t,(w64 (t1+1)),o,(a.set ((w64 (257+find_)).toNat) (w64 ((a.getD ((w64 (257+find_)).toNat) 0)+1))),(b.set find_1.toNat (w64 ((b.getD find_1.toNat 0)+1))))))))))))))) else
 (some (none_,o,a,b)))
def ZaU.l0:=ZaB ZaU.l0.step
theorem ZaU.l0.succ (n:Nat) t:ZaU.l0 (n+1) t=ZaU.l0.step (ZaU.l0 n) t:=rfl
def ZaU (text:Str):Option (Str):=
 (bif (decide ((text.length:Int)>300)) then (some []) else
 ((Zap text).bind fun TokensOf=>
 (need (decide (0≤286)&&fits 286) (need (decide (0≤30)&&fits 30) (need (decide (0≤(256:Int))&&decide ((256:Int)<(List.replicate 286 (0:Int)).length)) ((ZaU.l0 (((TokensOf.length:Int)-(0:Int)).toNat+1) (true,(TokensOf.length:Int),0,TokensOf,((List.replicate 286 (0:Int)).set 256 1),(List.replicate 30 (0:Int)))).bind fun (none_1,list,a1,b1)=>
 (((bif none_1 then (need (decide (0≤(0:Int))&&decide ((0:Int)<b1.length)) (some (list,a1,(b1.set 0 1)))) else
 (some (list,a1,b1))):Option ((List (Int×Int×Int))×List Int×List Int)).bind fun (list1,a2,b2)=>
 ((ZaR a2 15).bind fun LensOf=>
 ((Zbw LensOf 257).bind fun trimmed_=>
 ((ZaR b2 15).bind fun LensOf1=>
 ((Zbw LensOf1 1).bind fun trimmed_1=>
 (need (fits (([]:List (Int)).length+trimmed_.length)) (need (fits (([]++trimmed_).length+trimmed_1.length)) (need (decide (0≤(([16,17,18,0,8,7,9,6,10,5,11,4,12,3,13,2,14,1,15]:List (Int)).length:Int))&&fits (([16,17,18,0,8,7,9,6,10,5,11,4,12,3,13,2,14,1,15]:List (Int)).length:Int).toNat) ((ZaU.l1 ((((([]++trimmed_)++trimmed_1).length:Int)-(0:Int)).toNat+1) (trimmed_,trimmed_1,((([]++trimmed_)++trimmed_1).length:Int),0,list1,(([]++trimmed_)++trimmed_1),(List.replicate (([16,17,18,0,8,7,9,6,10,5,11,4,12,3,13,2,14,1,15]:List (Int)).length:Int).toNat (0:Int)))).bind fun (lit1,dist1,list3,all,c1)=>
 ((ZaR c1 7).bind fun LensOf2=>
 ((Zen 1 1 0 []).bind fun (r4,r5)=>
 ((Zen 2 2 r4 r5).bind fun (r6,r7)=>
 ((Zen (w64 ((lit1.length:Int)-257)) 5 r6 r7).bind fun (r8,r9)=>
 ((Zen (w64 ((dist1.length:Int)-1)) 5 r8 r9).bind fun (r10,r11)=>
 ((Zen (w64 ((([16,17,18,0,8,7,9,6,10,5,11,4,12,3,13,2,14,1,15]:List (Int)).length:Int)-4)) 4 r10 r11).bind fun (r12,r13)=>
 ((ZaU.l2 (((([16,17,18,0,8,7,9,6,10,5,11,4,12,3,13,2,14,1,15]:List (Int)).length:Int)-(0:Int)).toNat+1) (lit1,dist1,[16,17,18,0,8,7,9,6,10,5,11,4,12,3,13,2,14,1,15],(([16,17,18,0,8,7,9,6,10,5,11,4,12,3,13,2,14,1,15]:List (Int)).length:Int),0,list3,all,LensOf2,r12,r13)).bind fun (lit3,dist3,list5,all2,meta_1,o4,o5)=>
 ((Zcc meta_1).bind fun codes_=>
 ((ZaU.l3 (((all2.length:Int)-(0:Int)).toNat+1) (lit3,dist3,(all2.length:Int),0,list5,meta_1,o4,codes_,all2,o5)).bind fun (lit5,dist5,list7,o9,o10)=>
 ((Zbz list7 lit5 dist5 o9 o10).bind fun (r18,r19)=>
 (some (ZbM r19)))))))))))))))))))))))))))
def Za1.l0.step (again:(Str×Int×Int×List Str)→Option (Str)):(Str×Int×Int×List Str)→Option (Str):=fun (best,t,t1,o)=>
 (bif (decide (t1<t)) then (need (decide (0≤t1)&&decide (t1<o.length)) (bif (decide (((o.getD t1.toNat []).length:Int)<(best.length:Int))) then (again ((o.getD t1.toNat []),t,(w64 (t1+1)),o)) else
 (again (best,t,(w64 (t1+1)),o)))) else
 (some best))
def Za1.l0:=ZaB Za1.l0.step
theorem Za1.l0.succ (n:Nat) t:Za1.l0 (n+1) t=Za1.l0.step (Za1.l0 n) t:=rfl
def Za1 (text:Str):Option (Str):=
 ((Zc6 text).bind fun StorePut=>
 ((Zdd text).bind fun FixedPut=>
 ((ZaU text).bind fun OwnPut=>
 ((Za1.l0 (((([FixedPut,OwnPut]:List (Str)).length:Int)-(0:Int)).toNat+1) (StorePut,(([FixedPut,OwnPut]:List (Str)).length:Int),0,[FixedPut,OwnPut])).bind fun best1=>
 (some best1)))))
def ZbE.l0.step (again:(Int×Int×Str×Int×Bool×List Int)→Option (Str×Int×Bool×List Int)):(Int×Int×Str×Int×Bool×List Int)→Option (Str×Int×Bool×List Int):=fun (n1,k,o3,o4,o5,out2)=>
 ((bif (decide (k<n1)) then (bif (!o5) then (some (decide ((out2.length:Int)≤300))) else
 (some false)) else
 (some false)).bind fun c=>
 (bif c then ((Zeq 8 o3 o4 o5).bind fun (r11,r12,r13,r14)=>
 (need (fits (out2.length+([(IntKind.wrap .u8 r11)]:List (Int)).length)) (again (n1,(w64 (k+1)),r12,r13,r14,(out2++[(IntKind.wrap .u8 r11)]))))) else
 (some (o3,o4,o5,out2))))
def ZbE.l0:=ZaB ZbE.l0.step
theorem ZbE.l0.succ (n:Nat) t:ZbE.l0 (n+1) t=ZbE.l0.step (ZbE.l0 n) t:=rfl
def ZbE (s:Str) (at_:Int) (bad:Bool) (out:List Int):Option (Str×Int×Bool×List Int):=
 ((ZdJ s at_ bad).bind fun (r,r1,r2)=>
 ((Zeq 16 r r1 r2).bind fun (r3,r4,r5,r6)=>
 ((Zeq 16 r4 r5 r6).bind fun (r7,r8,r9,r10)=>
 (((bif (r3 != (w64 (65535-r7))) then (some (r3,r8,r9,true,out)) else
 (some (r3,r8,r9,r10,out))):Option (Int×Str×Int×Bool×List Int)).bind fun (n,o,o1,o2,out1)=>
 ((ZbE.l0 ((n-(0:Int)).toNat+1) (n,0,o,o1,o2,out1)).bind fun (o6,o7,o8,out3)=>
 (some (o6,o7,o8,out3)))))))
def Zaq.l1.step (again:(Int×Int×Int×Int×Int×Str×Int×Bool×(List ((Int×Int)×Int))×List Int)→Option (Int×Int×Str×Int×Bool×(List ((Int×Int)×Int))×List Int)):(Int×Int×Int×Int×Int×Str×Int×Bool×(List ((Int×Int)×Int))×List Int)→Option (Int×Int×Str×Int×Bool×(List ((Int×Int)×Int))×List Int):=fun (lit5,dist5,again_1,t3,t4,o17,o18,o19,o20,all2)=>
 (bif (decide (t4<t3)) then (need (fits (all2.length+([again_1]:List (Int)).length)) (again (lit5,dist5,again_1,t3,(w64 (t4+1)),o17,o18,o19,o20,(all2++[again_1])))) else
 (some (lit5,dist5,o17,o18,o19,o20,all2)))
def Zaq.l1:=ZaB Zaq.l1.step
theorem Zaq.l1.succ (n:Nat) t:Zaq.l1 (n+1) t=Zaq.l1.step (Zaq.l1 n) t:=rfl
def Zaq.l2.step (again:(Int×Int×Str×Int×Bool×(List ((Int×Int)×Int))×List Int)→Option (Int×Int×Str×Int×Bool×List Int)):(Int×Int×Str×Int×Bool×(List ((Int×Int)×Int))×List Int)→Option (Int×Int×Str×Int×Bool×List Int):=fun (lit3,dist3,o9,o10,o11,o12,all)=>
 ((bif (decide ((all.length:Int)<(w64 (lit3+dist3)))) then (some (!o11)) else
 (some false)).bind fun c2=>
 (bif c2 then ((Zbd o9 o10 o11 o12).bind fun (r16,r17,r18,r19,r20)=>
 (((bif (decide (r16<16)) then (some (lit3,dist3,r16,1,r17,r18,r19,r20,all)) else
 (bif (r16==16) then ((Zeq 2 r17 r18 r19).bind fun (r21,r22,r23,r24)=>
 (bif ((all.length:Int)==0) then (some (lit3,dist3,0,(w64 (3+r21)),r22,r23,true,r20,all)) else
 (need (decide (0≤(w64 ((all.length:Int)-1)))&&decide ((w64 ((all.length:Int)-1))<all.length)) (some (lit3,dist3,(all.getD ((w64 ((all.length:Int)-1)).toNat) 0),(w64 (3+r21)),r22,r23,r24,r20,all))))) else
 (bif (r16==17) then ((Zeq 3 r17 r18 r19).bind fun (r25,r26,r27,r28)=>
 (some (lit3,dist3,0,(w64 (3+r25)),r26,r27,r28,r20,all))) else
 ((Zeq 7 r17 r18 r19).bind fun (r29,r30,r31,r32)=>
 (some (lit3,dist3,0,(w64 (11+r29)),r30,r31,r32,r20,all)))))):Option (Int×Int×Int×Int×Str×Int×Bool×(List ((Int×Int)×Int))×List Int)).bind fun (lit4,dist4,again_,times,o13,o14,o15,o16,all1)=>
 ((Zaq.l1 ((times-(0:Int)).toNat+1) (lit4,dist4,again_,times,0,o13,o14,o15,o16,all1)).bind fun (lit6,dist6,o21,o22,o23,o24,all3)=>
 (again (lit6,dist6,o21,o22,o23,o24,all3))))) else
 (some (lit3,dist3,o9,o10,o11,all))))
def Zaq.l2:=ZaB Zaq.l2.step
theorem Zaq.l2.succ (n:Nat) t:Zaq.l2 (n+1) t=Zaq.l2.step (Zaq.l2 n) t:=rfl
def Zaq.l0.step (again:(Int×Int×List Int×Int×Int×Str×Int×Bool×List Int)→Option (Int×Int×Str×Int×Bool×List Int)):(Int×Int×List Int×Int×Int×Str×Int×Bool×List Int)→Option (Int×Int×Str×Int×Bool×List Int):=fun (lit1,dist1,t,t1,t2,o3,o4,o5,meta_)=>
 (bif (decide (t2<t1)) then (need (decide (0≤t2)&&decide (t2<t.length)) ((Zeq 3 o3 o4 o5).bind fun (r12,r13,r14,r15)=>
 (need (decide (0≤(t.getD t2.toNat 0))&&decide ((t.getD t2.toNat 0)<meta_.length)) (again (lit1,dist1,t,t1,(w64 (t2+1)),r13,r14,r15,(meta_.set ((t.getD t2.toNat 0).toNat) r12)))))) else
 (some (lit1,dist1,o3,o4,o5,meta_)))
def Zaq.l0:=ZaB Zaq.l0.step
theorem Zaq.l0.succ (n:Nat) t:Zaq.l0 (n+1) t=Zaq.l0.step (Zaq.l0 n) t:=rfl
def Zaq (s:Str) (at_:Int) (bad:Bool):Option (List Int×List Int×Str×Int×Bool):=
 ((Zeq 5 s at_ bad).bind fun (r,r1,r2,r3)=>
 ((Zeq 5 r1 r2 r3).bind fun (r4,r5,r6,r7)=>
 ((Zeq 4 r5 r6 r7).bind fun (r8,r9,r10,r11)=>
 ((((bif (decide ((w64 (r+257))>286)) then (some true) else
 (some (decide ((w64 (r4+1))>30)))).bind fun c=>
 (bif c then (some ((w64 (r+257)),(w64 (r4+1)),(w64 (r8+4)),r9,r10,true)) else
 (some ((w64 (r+257)),(w64 (r4+1)),(w64 (r8+4)),r9,r10,r11)))):Option (Int×Int×Int×Str×Int×Bool)).bind fun (lit,dist,many,o,o1,o2)=>
 (need (decide (0≤(([16,17,18,0,8,7,9,6,10,5,11,4,12,3,13,2,14,1,15]:List (Int)).length:Int))&&fits (([16,17,18,0,8,7,9,6,10,5,11,4,12,3,13,2,14,1,15]:List (Int)).length:Int).toNat) (need (decide (0≤many)&&decide (many≤([16,17,18,0,8,7,9,6,10,5,11,4,12,3,13,2,14,1,15]:List (Int)).length)) ((Zaq.l0 ((((([16,17,18,0,8,7,9,6,10,5,11,4,12,3,13,2,14,1,15]:List (Int)).take many.toNat).length:Int)-(0:Int)).toNat+1) (lit,dist,(([16,17,18,0,8,7,9,6,10,5,11,4,12,3,13,2,14,1,15]:List (Int)).take many.toNat),((([16,17,18,0,8,7,9,6,10,5,11,4,12,3,13,2,14,1,15]:List (Int)).take many.toNat).length:Int),0,o,o1,o2,(List.replicate (([16,17,18,0,8,7,9,6,10,5,11,4,12,3,13,2,14,1,15]:List (Int)).length:Int).toNat (0:Int)))).bind fun (lit2,dist2,o6,o7,o8,meta_1)=>
 ((bif o8 then (some true) else
 ((ZbQ meta_1).bind fun LensOk=>
 (some (!LensOk)))).bind fun c1=>
 (bif c1 then (some ([],[],o6,o7,true)) else
 ((ZbS meta_1).bind fun bookOf_=>
 ((Zaq.l2 (((w64 (lit2+dist2))-(([]:List Int).length:Int)).toNat+1) (lit2,dist2,o6,o7,o8,bookOf_,[])).bind fun (lit7,dist7,o25,o26,o27,all4)=>
 ((bif ((all4.length:Int) != (w64 (lit7+dist7))) then (some true) else
 (some o27)).bind fun c3=>
 (bif c3 then (some ([],[],o25,o26,true)) else
 (need (decide (0≤lit7)&&decide (lit7≤all4.length)) (need (decide (0≤lit7)&&decide (lit7≤all4.length)) (some (((all4.drop 0).take lit7.toNat),((all4.drop lit7.toNat).take (all4.length-lit7.toNat)),o25,o26,o27)))))))))))))))))
def ZbW.l0.step (again:(Str×Int×Bool×List Int×(List ((Int×Int)×Int))×List ((Int×Int)×Int))→Option ((Str×Int×Bool×List Int)⊕(Str×Int×Bool×List Int))):(Str×Int×Bool×List Int×(List ((Int×Int)×Int))×List ((Int×Int)×Int))→Option ((Str×Int×Bool×List Int)⊕(Str×Int×Bool×List Int)):=fun (o,o1,o2,out1,o3,o4)=>
 ((bif (!o2) then (some (decide ((out1.length:Int)≤300))) else
 (some false)).bind fun c1=>
 (bif c1 then ((Zbd o o1 o2 o3).bind fun (r,r1,r2,r3,r4)=>
 ((bif r3 then (some true) else
 (some (r==256))).bind fun c2=>
 (bif c2 then ((some (r1,r2,r3,out1)).map Sum.inr) else
 (bif (decide (r<256)) then (need (fits (out1.length+([(IntKind.wrap .u8 r)]:List (Int)).length)) (again (r1,r2,r3,(out1++[(IntKind.wrap .u8 r)]),r4,o4))) else
 (bif (decide ((w64 (r-257))≥28)) then ((some (r1,r2,true,out1)).map Sum.inr) else
 ((ZbI).bind fun (r5,r6)=>
 (need (decide (0≤(w64 (r-257)))&&decide ((w64 (r-257))<r5.length)) ((ZbI).bind fun (r7,r8)=>
 (need (decide (0≤(w64 (r-257)))&&decide ((w64 (r-257))<r8.length)) ((Zeq (r8.getD (w64 (r-257)).toNat 0) r1 r2 r3).bind fun (r9,r10,r11,r12)=>
 ((Zbd r10 r11 r12 o4).bind fun (r13,r14,r15,r16,r17)=>
 (bif (decide (r13≥30)) then ((some (r14,r15,true,out1)).map Sum.inr) else
 ((ZbK).bind fun (r18,r19)=>
 (need (decide (0≤r13)&&decide (r13<r18.length)) ((ZbK).bind fun (r20,r21)=>
 (need (decide (0≤r13)&&decide (r13<r21.length)) ((Zeq (r21.getD r13.toNat 0) r14 r15 r16).bind fun (r22,r23,r24,r25)=>
 ((add 0 (w64 ((r5.getD (w64 (r-257)).toNat 0)+r9)) (w64 ((r18.getD r13.toNat 0)+r22)) out1).bind fun (r26,r27)=>
 ((bif (!r26) then (some true) else
 (some r25)).bind fun c3=>
 (bif c3 then (none.map Sum.inr) else
 (again (r23,r24,r25,r27,r4,r17)))))))))))))))))))))) else
 (some (.inl (o,o1,o2,out1)))))
def ZbW.l0:=ZaB ZbW.l0.step
theorem ZbW.l0.succ (n:Nat) t:ZbW.l0 (n+1) t=ZbW.l0.step (ZbW.l0 n) t:=rfl
def ZbW (lit:List Int) (dist:List Int) (s:Str) (at_:Int) (bad:Bool) (out:List Int):Option (Str×Int×Bool×List Int):=
 ((bif bad then (some true) else
 ((ZbQ lit).bind fun LensOk=>
 (bif (!LensOk) then (some true) else
 ((ZbQ dist).bind fun LensOk1=>
 (some (!LensOk1)))))).bind fun c=>
 (bif c then (some (s,at_,true,out)) else
 ((ZbS lit).bind fun bookOf_=>
 ((ZbS dist).bind fun bookOf_1=>
 ((ZbW.l0 (100000) (s,at_,bad,out,bookOf_,bookOf_1)).bind fun r=>match r with
 | .inl (o5,o6,o7,out2)=>(some (o5,o6,o7,out2))
 | .inr r=>some r)))))
def ZaY.l0.step (again:(Str×Int×Bool×List Int×(List ((Int×Int)×Int))×List ((Int×Int)×Int))→Option ((Str×Int×Bool×List Int)⊕(Str×Int×Bool))):(Str×Int×Bool×List Int×(List ((Int×Int)×Int))×List ((Int×Int)×Int))→Option ((Str×Int×Bool×List Int)⊕(Str×Int×Bool)):=fun (o,o1,o2,out1,o3,o4)=>
 ((bif (!o2) then (some (decide ((out1.length:Int)≤300))) else
 (some false)).bind fun c1=>
 (bif c1 then ((Zbd o o1 o2 o3).bind fun (r,r1,r2,r3,r4)=>
 ((bif r3 then (some true) else
 (some (r==256))).bind fun c2=>
 (bif c2 then ((some (r1,r2,r3)).map Sum.inr) else
 (bif (decide (r<256)) then (need (fits (out1.length+([(IntKind.wrap .u8 r)]:List (Int)).length)) (again (r1,r2,r3,(out1++[(IntKind.wrap .u8 r)]),r4,o4))) else
 (bif (decide ((w64 (r-257))≥28)) then ((some (r1,r2,true)).map Sum.inr) else
 ((ZbI).bind fun (r5,r6)=>
 (need (decide (0≤(w64 (r-257)))&&decide ((w64 (r-257))<r5.length)) ((ZbI).bind fun (r7,r8)=>
 (need (decide (0≤(w64 (r-257)))&&decide ((w64 (r-257))<r8.length)) ((Zeq (r8.getD (w64 (r-257)).toNat 0) r1 r2 r3).bind fun (r9,r10,r11,r12)=>
 ((Zbd r10 r11 r12 o4).bind fun (r13,r14,r15,r16,r17)=>
 (bif (decide (r13≥30)) then ((some (r14,r15,true)).map Sum.inr) else
 ((ZbK).bind fun (r18,r19)=>
 (need (decide (0≤r13)&&decide (r13<r18.length)) ((ZbK).bind fun (r20,r21)=>
 (need (decide (0≤r13)&&decide (r13<r21.length)) ((Zeq (r21.getD r13.toNat 0) r14 r15 r16).bind fun (r22,r23,r24,r25)=>
 ((add 0 (w64 ((r5.getD (w64 (r-257)).toNat 0)+r9)) (w64 ((r18.getD r13.toNat 0)+r22)) out1).bind fun (r26,r27)=>
 ((bif (!r26) then (some true) else
 (some r25)).bind fun c3=>
 (bif c3 then ((some (r23,r24,true)).map Sum.inr) else
 (again (r23,r24,r25,r27,r4,r17)))))))))))))))))))))) else
 (some (.inl (o,o1,o2,out1)))))
def ZaY.l0:=ZaB ZaY.l0.step
theorem ZaY.l0.succ (n:Nat) t:ZaY.l0 (n+1) t=ZaY.l0.step (ZaY.l0 n) t:=rfl
def ZaY (lit:List Int) (dist:List Int) (s:Str) (at_:Int) (bad:Bool) (out:List Int):Option (Str×Int×Bool):=
 ((bif bad then (some true) else
 ((ZbQ lit).bind fun LensOk=>
 (bif (!LensOk) then (some true) else
 ((ZbQ dist).bind fun LensOk1=>
 (some (!LensOk1)))))).bind fun c=>
 (bif c then (some (s,at_,true)) else
 ((ZbS lit).bind fun bookOf_=>
 ((ZbS dist).bind fun bookOf_1=>
 ((ZaY.l0 (100000) (s,at_,bad,out,bookOf_,bookOf_1)).bind fun r=>match r with
 | .inl (o5,o6,o7,out2)=>(some (o5,o6,o7))
 | .inr r=>some r)))))
def Zbh.l0.step (again:(Bool×Str×Int×Bool×List Int)→Option ((Str×Int×Bool×List Int)⊕(Str×Int×Bool))):(Bool×Str×Int×Bool×List Int)→Option ((Str×Int×Bool×List Int)⊕(Str×Int×Bool)):=fun (last,o,o1,o2,out)=>
 (bif (!last) then ((ZhB o o1 o2).bind fun (r,r1,r2,r3)=>
 ((Zeq 2 r1 r2 r3).bind fun (r4,r5,r6,r7)=>
 (bif (r4==0) then ((ZbE r5 r6 r7 out).bind fun (r8,r9,r10,r11)=>
 (bif r10 then ((some ([],0,false)).map Sum.inr) else
 (bif (decide ((r11.length:Int)>300)) then ((some ([],0,false)).map Sum.inr) else
 (again ((r==1),r8,r9,r10,r11))))) else
 (bif (r4==1) then ((Zbg).bind fun (r12,r13)=>
 (Zms (ZbW r12 r13 r5 r6 r7 out) (fun (r14,r15,r16,r17)=>
 (bif r16 then ((some ([],0,false)).map Sum.inr) else
 (bif (decide ((r17.length:Int)>300)) then ((some ([],0,false)).map Sum.inr) else
 (again ((r==1),r14,r15,r16,r17))))) ((ZaY r12 r13 r5 r6 r7 out).bind fun (r18,r19,r20)=>
 (bif r20 then ((some ([],0,false)).map Sum.inr) else
 none)))) else
 (bif (r4==2) then ((Zaq r5 r6 r7).bind fun (r21,r22,r23,r24,r25)=>
 (Zms (ZbW r21 r22 r23 r24 r25 out) (fun (r26,r27,r28,r29)=>
 (bif r28 then ((some ([],0,false)).map Sum.inr) else
 (bif (decide ((r29.length:Int)>300)) then ((some ([],0,false)).map Sum.inr) else
 (again ((r==1),r26,r27,r28,r29))))) ((ZaY r21 r22 r23 r24 r25 out).bind fun (r30,r31,r32)=>
 (bif r32 then ((some ([],0,false)).map Sum.inr) else
 none)))) else
 ((some ([],0,false)).map Sum.inr)))))) else
 (some (.inl (o,o1,o2,out))))
def Zbh.l0:=ZaB Zbh.l0.step
theorem Zbh.l0.succ (n:Nat) t:Zbh.l0 (n+1) t=Zbh.l0.step (Zbh.l0 n) t:=rfl
def Zbh (text:Str):Option (Str×Int×Bool):=
 (bif (decide ((text.length:Int)>700)) then (some ([],0,false)) else
 ((Zbh.l0 (100000) (false,text,0,false,[])).bind fun r=>match r with
 | .inl (o3,o4,o5,out1)=>((ZdJ o3 o4 o5).bind fun (r33,r34,r35)=>
 (bif r35 then (some ([],0,false)) else
 (some ((ZbM out1),(w64 (r34.tdiv 8)),true))))
 | .inr r=>some r))
def Zm8 (year:Int) (month:Int):Option (Int):=
 (((bif (month==4) then (some (year,month,(month==4))) else
 (bif (month==6) then (some (year,month,(month==6))) else
 (bif (month==9) then (some (year,month,(month==9))) else
 (some (year,month,(month==11)))))):Option (Int×Int×Bool)).bind fun (year1,t,t1)=>
 (bif t1 then (some 30) else
 (bif (t==2) then ((bif ((year1.tmod 4)==0) then (bif ((year1.tmod 100) != 0) then (some true) else
 (some ((year1.tmod 400)==0))) else
 (some false)).bind fun c=>
 (bif c then (some 29) else
 (some 28))) else
 (some 31))))
def Zc2 (y:Int) (mo:Int) (d:Int) (h:Int) (mi:Int) (sec:Int):Option (Bool):=
 (((Zbn y 1980 2107).bind fun within_=>
 (bif within_ then ((Zbn mo 1 12).bind fun within_1=>
 (bif within_1 then ((Zm8 y mo).bind fun days_=>
 ((Zbn d 1 days_).bind fun within_2=>
 (bif within_2 then ((Zbn h 0 23).bind fun within_3=>
 (bif within_3 then ((Zbn mi 0 59).bind fun within_4=>
 (bif within_4 then ((Zbn sec 0 58).bind fun within_5=>
 (bif within_5 then (some ((sec.tmod 2)==0)) else
 (some false))) else
 (some false))) else
 (some false))) else
 (some false)))) else
 (some false))) else
 (some false))).bind fun c=>
 (some c))
def Zb1 (y:Int) (mo:Int) (d:Int) (h:Int) (mi:Int) (sec:Int):Option (Int):=
 ((Zc2 y mo d h mi sec).bind fun StampOk=>
 (bif (!StampOk) then (some (-1)) else
 (some (ior .i64 (ior .i64 (ior .i64 (ior .i64 (ior .i64 (w64 (sec.tdiv 2)) (Zqj .i64 mi 5)) (Zqj .i64 h 11)) (Zqj .i64 d 16)) (Zqj .i64 mo 21)) (Zqj .i64 (w64 (y-1980)) 25)))))
def Zc7 (n:Int):Option (Int×Int×Int×Int×Int×Int×Bool):=
 (bif (decide (n<0)) then (some (0,0,0,0,0,0,false)) else
 ((Zb1 (w64 (1980+(ZjK .i64 (ZlO .i64 n 25) 127))) (ZjK .i64 (ZlO .i64 n 21) 15) (ZjK .i64 (ZlO .i64 n 16) 31) (ZjK .i64 (ZlO .i64 n 11) 31) (ZjK .i64 (ZlO .i64 n 5) 63) (w64 ((ZjK .i64 n 31)*2))).bind fun StampPut=>
 (bif (StampPut != n) then (some (0,0,0,0,0,0,false)) else
 (some ((w64 (1980+(ZjK .i64 (ZlO .i64 n 25) 127))),(ZjK .i64 (ZlO .i64 n 21) 15),(ZjK .i64 (ZlO .i64 n 16) 31),(ZjK .i64 (ZlO .i64 n 11) 31),(ZjK .i64 (ZlO .i64 n 5) 63),(w64 ((ZjK .i64 n 31)*2)),true)))))
def Zb5 (name:Str) (y:Int) (mo:Int) (d:Int) (h:Int) (mi:Int) (sec:Int) (text:Str):Option (Bool):=
 (((ZaW name).bind fun NameOk=>
 (bif NameOk then ((Zc2 y mo d h mi sec).bind fun StampOk=>
 (bif StampOk then (some (decide ((text.length:Int)≤300))) else
 (some false))) else
 (some false))).bind fun c=>
 (some c))
def Zbp.l0.step (again:(Int×Int×Int×List Int)→Option (List Int)):(Int×Int×Int×List Int)→Option (List Int):=fun (n1,t,t1,out)=>
 (bif (decide (t1<t)) then (need (fits (out.length+([(IntKind.wrap .u8 (n1.tmod 256))]:List (Int)).length)) (again ((w64 (n1.tdiv 256)),t,(w64 (t1+1)),(out++[(IntKind.wrap .u8 (n1.tmod 256))])))) else
 (some out))
def Zbp.l0:=ZaB Zbp.l0.step
theorem Zbp.l0.succ (n:Nat) t:Zbp.l0 (n+1) t=Zbp.l0.step (Zbp.l0 n) t:=rfl
def Zbp (n:Int) (bytes:Int):Option (Str):=
 ((Zbp.l0 ((bytes-(0:Int)).toNat+1) (n,bytes,0,[])).bind fun out1=>
 (some (ZbM out1)))
def Za3.l0.step (again:(Str×Int×Int×Int)→Option (Int)):(Str×Int×Int×Int)→Option (Int):=fun (s1,at_1,n,k)=>
 (bif (decide (k≥0)) then (need (decide (0≤(w64 (at_1+k)))&&decide ((w64 (at_1+k))<s1.length)) (again (s1,at_1,(w64 ((w64 (256*n))+(w64 ((s1.getD (w64 (at_1+k)).toNat 0).toNat:Int)))),(w64 (k-1))))) else
 (some n))
def Za3.l0:=ZaB Za3.l0.step
theorem Za3.l0.succ (n:Nat) t:Za3.l0 (n+1) t=Za3.l0.step (Za3.l0 n) t:=rfl
def Za3 (s:Str) (at_:Int) (bytes:Int):Option (Int):=
 ((Za3.l0 (((w64 (bytes-1))-0).toNat+2) (s,at_,0,(w64 (bytes-1)))).bind fun n1=>
 (some n1))
def Zdy (name:Str) (y:Int) (mo:Int) (d:Int) (h:Int) (mi:Int) (sec:Int) (text:Str) (method:Int) (packed:Int):Option (Str):=
 ((Zbp 20 2).bind fun number_=>
 (need (fits (([80,75,3,4]:Str).length+number_.length)) ((Zbp 0 2).bind fun number_1=>
 (need (fits (([80,75,3,4]++number_).length+number_1.length)) ((Zbp method 2).bind fun number_2=>
 (need (fits ((([80,75,3,4]++number_)++number_1).length+number_2.length)) ((Zb1 y mo d h mi sec).bind fun StampPut=>
 ((Zbp StampPut 4).bind fun number_3=>
 (need (fits (((([80,75,3,4]++number_)++number_1)++number_2).length+number_3.length)) ((crc text).bind fun Crc=>
 ((Zbp Crc 4).bind fun number_4=>
 (need (fits ((((([80,75,3,4]++number_)++number_1)++number_2)++number_3).length+number_4.length)) ((Zbp packed 4).bind fun number_5=>
 (need (fits (((((([80,75,3,4]++number_)++number_1)++number_2)++number_3)++number_4).length+number_5.length)) ((Zbp (text.length:Int) 4).bind fun number_6=>
 (need (fits ((((((([80,75,3,4]++number_)++number_1)++number_2)++number_3)++number_4)++number_5).length+number_6.length)) ((Zbp (name.length:Int) 2).bind fun number_7=>
 (need (fits (((((((([80,75,3,4]++number_)++number_1)++number_2)++number_3)++number_4)++number_5)++number_6).length+number_7.length)) ((Zbp 0 2).bind fun number_8=>
 (need (fits ((((((((([80,75,3,4]++number_)++number_1)++number_2)++number_3)++number_4)++number_5)++number_6)++number_7).length+number_8.length)) (some ((((((((([80,75,3,4]++number_)++number_1)++number_2)++number_3)++number_4)++number_5)++number_6)++number_7)++number_8))))))))))))))))))))))
def Zc9 (name:Str) (y:Int) (mo:Int) (d:Int) (h:Int) (mi:Int) (sec:Int) (text:Str):Option (Str):=
 ((Zb5 name y mo d h mi sec text).bind fun EntryOk=>
 (bif (!EntryOk) then (some []) else
 ((Za1 text).bind fun FlatePut=>
 (bif (decide ((FlatePut.length:Int)<(text.length:Int))) then ((Zdy name y mo d h mi sec text 8 (FlatePut.length:Int)).bind fun headOf_=>
 (need (fits (headOf_.length+name.length)) (need (fits ((headOf_++name).length+FlatePut.length)) (some ((headOf_++name)++FlatePut))))) else
 ((Zdy name y mo d h mi sec text 0 (text.length:Int)).bind fun headOf_1=>
 (need (fits (headOf_1.length+name.length)) (need (fits ((headOf_1++name).length+text.length)) (some ((headOf_1++name)++text)))))))))
def Zda (text:Str):Option (Str×Int×Int×Int×Int×Int×Int×Str×Int×Bool):=
 (bif (decide ((text.length:Int)<30)) then (some ([],0,0,0,0,0,0,[],0,false)) else
 ((Za3 text 8 2).bind fun numberAt_=>
 ((Za3 text 18 4).bind fun numberAt_1=>
 ((Za3 text 26 2).bind fun numberAt_2=>
 (need (decide (0≤(30:Int))&&decide ((30:Int)≤text.length)) ((bif (decide (((text.drop 30).length:Int)<numberAt_2)) then (some true) else
 (some (decide ((w64 (((text.drop 30).length:Int)-numberAt_2))<numberAt_1)))).bind fun c=>
 (bif c then (some ([],0,0,0,0,0,0,[],0,false)) else
 (need (decide (0≤numberAt_2)&&decide (numberAt_2≤(text.drop 30).length)) (need (decide (0≤(w64 (numberAt_2+numberAt_1)))&&decide ((w64 (numberAt_2+numberAt_1))≤(text.drop 30).length)) (need (decide (0≤numberAt_2)&&decide (numberAt_2≤(w64 (numberAt_2+numberAt_1)))) ((Za3 text 10 4).bind fun numberAt_3=>
 ((Zc7 numberAt_3).bind fun (r,r1,r2,r3,r4,r5,r6)=>
 (((bif (numberAt_==0) then (some (.inl (text,numberAt_,numberAt_1,numberAt_2,[],0,0,0,0,0,0,[],((text.drop 30).take numberAt_2.toNat),r,r1,r2,r3,r4,r5,(((text.drop 30).take (w64 (numberAt_2+numberAt_1)).toNat).drop numberAt_2.toNat)))) else
 (bif (numberAt_==8) then ((Zbh (((text.drop 30).take (w64 (numberAt_2+numberAt_1)).toNat).drop numberAt_2.toNat)).bind fun (r7,r8,r9)=>
 ((bif (!r9) then (some true) else
 (some (r8 != numberAt_1))).bind fun c1=>
 (bif c1 then ((some ([],0,0,0,0,0,0,[],0,false)).map Sum.inr) else
 (some (.inl (text,numberAt_,numberAt_1,numberAt_2,[],0,0,0,0,0,0,[],((text.drop 30).take numberAt_2.toNat),r,r1,r2,r3,r4,r5,r7)))))) else
 ((some ([],0,0,0,0,0,0,[],0,false)).map Sum.inr))):Option ((Str×Int×Int×Int×Str×Int×Int×Int×Int×Int×Int×Str×Str×Int×Int×Int×Int×Int×Int×Str)⊕(Str×Int×Int×Int×Int×Int×Int×Str×Int×Bool))).bind fun r=>match r with
 | .inl (text1,method,packed,name,o,o1,o2,o3,o4,o5,o6,o7,o8,o9,o10,o11,o12,o13,o14,o15)=>(((Zb5 o8 o9 o10 o11 o12 o13 o14 o15).bind fun EntryOk=>
 (bif (!EntryOk) then (some true) else
 ((Zdy o8 o9 o10 o11 o12 o13 o14 o15 method packed).bind fun headOf_=>
 (need (decide (0≤(30:Int))&&decide ((30:Int)≤text1.length)) (some (!(headOf_==(text1.take 30)))))))).bind fun c2=>
 (bif c2 then (some ([],0,0,0,0,0,0,[],0,false)) else
 (some (o8,o9,o10,o11,o12,o13,o14,o15,(w64 ((w64 (30+name))+packed)),true))))
 | .inr r=>some r)))))))))))))
def joinS (xs:List Str) (sep:Str):Option (Str):=need (fits xs.length&&fits (ZqR xs sep).length) (some (ZqR xs sep))
def ZbT.l0.step (again:((List (Str×Int×Int×Int×Int×Int×Int×Str))×Int×Int×List Str)→Option (List Str)):((List (Str×Int×Int×Int×Int×Int×Int×Str))×Int×Int×List Str)→Option (List Str):=fun (t,t1,t2,out)=>
 (bif (decide (t2<t1)) then (need (decide (0≤t2)&&decide (t2<t.length)) (need (fits (out.length+([(t.getD t2.toNat ([],0,0,0,0,0,0,[])).1]:List (Str)).length)) (again (t,t1,(w64 (t2+1)),(out++[(t.getD t2.toNat ([],0,0,0,0,0,0,[])).1]))))) else
 (some out))
def ZbT.l0:=ZaB ZbT.l0.step
theorem ZbT.l0.succ (n:Nat) t:ZbT.l0 (n+1) t=ZbT.l0.step (ZbT.l0 n) t:=rfl
def ZbT (list:List (Str×Int×Int×Int×Int×Int×Int×Str)):Option (List Str):=
 ((ZbT.l0 (((list.length:Int)-(0:Int)).toNat+1) (list,(list.length:Int),0,[])).bind fun out1=>
 (some out1))
def Zde.l0.step (again:((List (Str×Int×Int×Int×Int×Int×Int×Str))×(List (Str×Int×Int×Int×Int×Int×Int×Str))×Int×Int)→Option ((List (Str×Int×Int×Int×Int×Int×Int×Str))⊕(Bool))):((List (Str×Int×Int×Int×Int×Int×Int×Str))×(List (Str×Int×Int×Int×Int×Int×Int×Str))×Int×Int)→Option ((List (Str×Int×Int×Int×Int×Int×Int×Str))⊕(Bool)):=fun (list1,t,t1,t2)=>
 (bif (decide (t2<t1)) then (need (decide (0≤t2)&&decide (t2<t.length)) ((Zb5 ((t.getD t2.toNat ([],0,0,0,0,0,0,[])).1) ((t.getD t2.toNat ([],0,0,0,0,0,0,[])).2.1) ((t.getD t2.toNat ([],0,0,0,0,0,0,[])).2.2.1) ((t.getD t2.toNat ([],0,0,0,0,0,0,[])).2.2.2.1) ((t.getD t2.toNat ([],0,0,0,0,0,0,[])).2.2.2.2.1) ((t.getD t2.toNat ([],0,0,0,0,0,0,[])).2.2.2.2.2.1) ((t.getD t2.toNat ([],0,0,0,0,0,0,[])).2.2.2.2.2.2.1) ((t.getD t2.toNat ([],0,0,0,0,0,0,[])).2.2.2.2.2.2.2)).bind fun EntryOk=>
 (bif (!EntryOk) then ((some false).map Sum.inr) else
 (again (list1,t,t1,(w64 (t2+1))))))) else
 (some (.inl list1)))
def Zde.l0:=ZaB Zde.l0.step
theorem Zde.l0.succ (n:Nat) t:Zde.l0 (n+1) t=Zde.l0.step (Zde.l0 n) t:=rfl
def Zde (list:List (Str×Int×Int×Int×Int×Int×Int×Str)):Option (Bool):=
 ((Zde.l0 (((list.length:Int)-(0:Int)).toNat+1) (list,list,(list.length:Int),0)).bind fun r=>match r with
 | .inl list2=>(bif (decide ((list2.length:Int)≤6)) then ((ZbT list2).bind fun namesOf_=>
 ((ZcO namesOf_).bind fun apart_=>
 (some apart_))) else
 (some false))
 | .inr r=>some r)
def Zbx.l0.step (again:(List Str×Str×Int×List Str×Int×Int)→Option (List Str×Str×Int)):(List Str×Str×Int×List Str×Int×Int)→Option (List Str×Str×Int):=fun (locals1,heads,at_,t,t1,t2)=>
 (bif (decide (t2<t1)) then (need (decide (0≤t2)&&decide (t2<t.length)) ((Za3 (t.getD t2.toNat []) 26 2).bind fun numberAt_=>
 ((Zbp 20 2).bind fun number_=>
 (need (fits (([80,75,1,2]:Str).length+number_.length)) (need (decide (0≤(30:Int))&&decide ((30:Int)≤(t.getD t2.toNat []).length)) (need (decide (0≤(4:Int))&&decide ((4:Int)≤(30:Int))) (need (fits (([80,75,1,2]++number_).length+(((t.getD t2.toNat []).take 30).drop 4).length)) ((Zbp 0 10).bind fun number_1=>
 (need (fits ((([80,75,1,2]++number_)++(((t.getD t2.toNat []).take 30).drop 4)).length+number_1.length)) ((Zbp at_ 4).bind fun number_2=>
 (need (fits (((([80,75,1,2]++number_)++(((t.getD t2.toNat []).take 30).drop 4))++number_1).length+number_2.length)) (need (decide (0≤(w64 (30+numberAt_)))&&decide ((w64 (30+numberAt_))≤(t.getD t2.toNat []).length)) (need (decide (0≤(30:Int))&&decide ((30:Int)≤(w64 (30+numberAt_)))) (need (fits ((((([80,75,1,2]++number_)++(((t.getD t2.toNat []).take 30).drop 4))++number_1)++number_2).length+(((t.getD t2.toNat []).take (w64 (30+numberAt_)).toNat).drop 30).length)) (need (fits (heads.length+((((([80,75,1,2]++number_)++(((t.getD t2.toNat []).take 30).drop 4))++number_1)++number_2)++(((t.getD t2.toNat []).take (w64 (30+numberAt_)).toNat).drop 30)).length)) (again (locals1,(heads++((((([80,75,1,2]++number_)++(((t.getD t2.toNat []).take 30).drop 4))++number_1)++number_2)++(((t.getD t2.toNat []).take (w64 (30+numberAt_)).toNat).drop 30))),(w64 (at_+((t.getD t2.toNat []).length:Int))),t,t1,(w64 (t2+1))))))))))))))))))) else
 (some (locals1,heads,at_)))
def Zbx.l0:=ZaB Zbx.l0.step
theorem Zbx.l0.succ (n:Nat) t:Zbx.l0 (n+1) t=Zbx.l0.step (Zbx.l0 n) t:=rfl
def Zbx (locals:List Str):Option (Str):=
 ((Zbx.l0 (((locals.length:Int)-(0:Int)).toNat+1) (locals,[],0,locals,(locals.length:Int),0)).bind fun (locals2,heads1,at_1)=>
 ((Zbp (locals2.length:Int) 2).bind fun number_3=>
 (need (fits (heads1.length+([80,75,5,6]:Str).length)) ((Zbp 0 4).bind fun number_4=>
 (need (fits ((heads1++[80,75,5,6]).length+number_4.length)) (need (fits (((heads1++[80,75,5,6])++number_4).length+number_3.length)) (need (fits ((((heads1++[80,75,5,6])++number_4)++number_3).length+number_3.length)) ((Zbp (heads1.length:Int) 4).bind fun number_5=>
 (need (fits (((((heads1++[80,75,5,6])++number_4)++number_3)++number_3).length+number_5.length)) ((Zbp at_1 4).bind fun number_6=>
 (need (fits ((((((heads1++[80,75,5,6])++number_4)++number_3)++number_3)++number_5).length+number_6.length)) ((Zbp 0 2).bind fun number_7=>
 (need (fits (((((((heads1++[80,75,5,6])++number_4)++number_3)++number_3)++number_5)++number_6).length+number_7.length)) (some (((((((heads1++[80,75,5,6])++number_4)++number_3)++number_3)++number_5)++number_6)++number_7)))))))))))))))
def ZcF.l0.step (again:((List (Str×Int×Int×Int×Int×Int×Int×Str))×Int×Int×List Str)→Option (List Str)):((List (Str×Int×Int×Int×Int×Int×Int×Str))×Int×Int×List Str)→Option (List Str):=fun (t,t1,t2,locals)=>
 (bif (decide (t2<t1)) then (need (decide (0≤t2)&&decide (t2<t.length)) ((Zc9 ((t.getD t2.toNat ([],0,0,0,0,0,0,[])).1) ((t.getD t2.toNat ([],0,0,0,0,0,0,[])).2.1) ((t.getD t2.toNat ([],0,0,0,0,0,0,[])).2.2.1) ((t.getD t2.toNat ([],0,0,0,0,0,0,[])).2.2.2.1) ((t.getD t2.toNat ([],0,0,0,0,0,0,[])).2.2.2.2.1) ((t.getD t2.toNat ([],0,0,0,0,0,0,[])).2.2.2.2.2.1) ((t.getD t2.toNat ([],0,0,0,0,0,0,[])).2.2.2.2.2.2.1) ((t.getD t2.toNat ([],0,0,0,0,0,0,[])).2.2.2.2.2.2.2)).bind fun LocalPut=>
 (need (fits (locals.length+([LocalPut]:List (Str)).length)) (again (t,t1,(w64 (t2+1)),(locals++[LocalPut])))))) else
 (some locals))
def ZcF.l0:=ZaB ZcF.l0.step
theorem ZcF.l0.succ (n:Nat) t:ZcF.l0 (n+1) t=ZcF.l0.step (ZcF.l0 n) t:=rfl
def ZcF (list:List (Str×Int×Int×Int×Int×Int×Int×Str)):Option (Str):=
 ((Zde list).bind fun ZipOk=>
 (bif (!ZipOk) then (some []) else
 ((ZcF.l0 (((list.length:Int)-(0:Int)).toNat+1) (list,(list.length:Int),0,[])).bind fun locals1=>
 ((joinS locals1 []).bind fun Join=>
 ((Zbx locals1).bind fun closing_=>
 (need (fits (Join.length+closing_.length)) (some (Join++closing_))))))))
def ZcG.l0.step (again:(Str×(List (Str×Int×Int×Int×Int×Int×Int×Str))×List Str)→Option (Str×(List (Str×Int×Int×Int×Int×Int×Int×Str))×List Str)):(Str×(List (Str×Int×Int×Int×Int×Int×Int×Str))×List Str)→Option (Str×(List (Str×Int×Int×Int×Int×Int×Int×Str))×List Str):=fun (rest,out,locals)=>
 (bif (decide ((out.length:Int)<6)) then ((Zda rest).bind fun (r,r1,r2,r3,r4,r5,r6,r7,r8,r9)=>
 (bif (!r9) then (some (rest,out,locals)) else
 (need (fits (out.length+([(r,r1,r2,r3,r4,r5,r6,r7)]:List (Str×Int×Int×Int×Int×Int×Int×Str)).length)) (need (decide (0≤r8)&&decide (r8≤rest.length)) (need (fits (locals.length+([(rest.take r8.toNat)]:List (Str)).length)) (need (decide (0≤r8)&&decide (r8≤rest.length)) (again ((rest.drop r8.toNat),(out++[(r,r1,r2,r3,r4,r5,r6,r7)]),(locals++[(rest.take r8.toNat)]))))))))) else
 (some (rest,out,locals)))
def ZcG.l0:=ZaB ZcG.l0.step
theorem ZcG.l0.succ (n:Nat) t:ZcG.l0 (n+1) t=ZcG.l0.step (ZcG.l0 n) t:=rfl
def ZcG (text:Str):Option (Bool×List (Str×Int×Int×Int×Int×Int×Int×Str)):=
 ((ZcG.l0 ((6-(([]:List (Str×Int×Int×Int×Int×Int×Int×Str)).length:Int)).toNat+1) (text,[],[])).bind fun (rest1,out1,locals1)=>
 (((Zde out1).bind fun ZipOk=>
 (bif (!ZipOk) then (some true) else
 ((Zbx locals1).bind fun closing_=>
 (some (!(rest1==closing_)))))).bind fun c=>
 (bif c then (some (false,[])) else
 (some (true,out1)))))
def find1 (ename:Str) (ey:Int) (emo:Int) (ed:Int) (eh:Int) (emi:Int) (esec:Int) (etext:Str) (name:Str):Option (Bool×Str):=
 (some ((ename==name),name))
def ZfV.l0.step (again:((List (Str×Int×Int×Int×Int×Int×Int×Str))×Int×Int×Str)→Option ((Str)⊕(Int×Str))):((List (Str×Int×Int×Int×Int×Int×Int×Str))×Int×Int×Str)→Option ((Str)⊕(Int×Str)):=fun (s,t,t1,o)=>
 (bif (decide (t1<t)) then (need (decide (0≤t1)&&decide (t1<s.length)) ((find1 ((s.getD t1.toNat ([],0,0,0,0,0,0,[])).1) ((s.getD t1.toNat ([],0,0,0,0,0,0,[])).2.1) ((s.getD t1.toNat ([],0,0,0,0,0,0,[])).2.2.1) ((s.getD t1.toNat ([],0,0,0,0,0,0,[])).2.2.2.1) ((s.getD t1.toNat ([],0,0,0,0,0,0,[])).2.2.2.2.1) ((s.getD t1.toNat ([],0,0,0,0,0,0,[])).2.2.2.2.2.1) ((s.getD t1.toNat ([],0,0,0,0,0,0,[])).2.2.2.2.2.2.1) ((s.getD t1.toNat ([],0,0,0,0,0,0,[])).2.2.2.2.2.2.2) o).bind fun (r,r1)=>
 (bif r then ((some (t1,r1)).map Sum.inr) else
 (again (s,t,(w64 (t1+1)),r1))))) else
 (some (.inl o)))
def ZfV.l0:=ZaB ZfV.l0.step
def ZfV (list:List (Str×Int×Int×Int×Int×Int×Int×Str)) (name:Str):Option (Int×Str):=
 ((ZfV.l0 (((list.length:Int)-(0:Int)).toNat+1) (list,(list.length:Int),0,name)).bind fun r=>match r with
 | .inl o1=>(some ((-1),o1))
 | .inr r=>some r)
def find (list:List (Str×Int×Int×Int×Int×Int×Int×Str)) (name:Str):Option (Int):=
 ((ZfV list name).bind fun (r,r1)=>
 (some r))
def itoa (n:Int):Option (Str):=Zxo n
def Zc5 (text:Str):Option (Bool):=
 ((ZcG text).bind fun (r,r1)=>
 (some r))
def Zd5 (text:Str) (log:Str):Option (Bool):=
 (((Zc5 text).bind fun archive_=>
 (bif archive_ then (some (log==[])) else
 (some false))).bind fun c=>
 (some c))
def ZdD (list:List (Str×Int×Int×Int×Int×Int×Int×Str)):Option (Str×Str×Bool):=
 ((Zde list).bind fun ZipOk=>
 (bif (!ZipOk) then (some ([],[],false)) else
 ((ZcF list).bind fun ZipPut=>
 (some (ZipPut,[],true)))))
def ZcX (dtext:Str) (dlog:Str) (text:Str) (bytes:Int):Option (Str×Str):=
 (((Zd5 dtext dlog).bind fun DiskOk=>
 (bif (!DiskOk) then (some true) else
 ((Zc5 text).bind fun archive_=>
 (some (!archive_))))).bind fun c=>
 (bif c then (some ([],[])) else
 ((itoa (text.length:Int)).bind fun Itoa=>
 (need (fits (Itoa.length+([10]:Str).length)) (need (fits ((Itoa++[10]).length+text.length)) (need (decide (0≤(ZjH (Zmx bytes 0) (((Itoa++[10])++text).length:Int)))&&decide ((ZjH (Zmx bytes 0) (((Itoa++[10])++text).length:Int))≤((Itoa++[10])++text).length)) (some (dtext,(((Itoa++[10])++text).take (ZjH (Zmx bytes 0) (((Itoa++[10])++text).length:Int)).toNat)))))))))
def Zk4:Nat→Int→Option (Str)
 | 0,_=>none
 | k_+1,n=>
 (bif (decide (n<(-9223372036854775807))) then (some [45,57,50,50,51,51,55,50,48,51,54,56,53,52,55,55,53,56,48,56]) else
 (bif (decide (n<0)) then ((Zk4 k_ (w64 (0-n))).bind fun l1Dec_=>
 (need (fits (([45]:Str).length+l1Dec_.length)) (some ([45]++l1Dec_)))) else
 (bif (decide (n<10)) then (some (ZbM [(IntKind.wrap .u8 (w64 (48+n)))])) else
 ((Zk4 k_ (w64 (n.tdiv 10))).bind fun l1Dec_1=>
 (need (fits (l1Dec_1.length+(ZbM [(IntKind.wrap .u8 (w64 (48+(n.tmod 10))))]).length)) (some (l1Dec_1++(ZbM [(IntKind.wrap .u8 (w64 (48+(n.tmod 10))))]))))))))
def Zev (n:Int):Option (Str):=Zk4 30 n
def Zcr.l0.step (again:(Int×Int)→Option (Int)):(Int×Int)→Option (Int):=fun (n1,out)=>
 (bif (decide (n1>0)) then (again ((w64 (n1-1)),(w64 (2*out)))) else
 (some out))
def Zcr.l0:=ZaB Zcr.l0.step
theorem Zcr.l0.succ (n:Nat) t:Zcr.l0 (n+1) t=Zcr.l0.step (Zcr.l0 n) t:=rfl
def Zcr (n:Int):Option (Int):=
 ((Zcr.l0 ((n-0).toNat+1) (n,1)).bind fun out1=>
 (some out1))
def ZdG.l0.step (again:(Int×Int×Int×Int×Int×List Int)→Option (Int×Int×List Int)):(Int×Int×Int×Int×Int×List Int)→Option (Int×Int×List Int):=fun (num1,bits1,k,o,o1,o2)=>
 (bif (decide (k<bits1)) then ((Zcr o1).bind fun l1Pow_=>
 (bif ((w64 (o1+1))==8) then (need (fits (o2.length+([(IntKind.wrap .u8 (w64 (o+(w64 ((num1.tmod 2)*l1Pow_)))))]:List (Int)).length)) (again ((w64 (num1.tdiv 2)),bits1,(w64 (k+1)),0,0,(o2++[(IntKind.wrap .u8 (w64 (o+(w64 ((num1.tmod 2)*l1Pow_)))))])))) else
 (again ((w64 (num1.tdiv 2)),bits1,(w64 (k+1)),(w64 (o+(w64 ((num1.tmod 2)*l1Pow_)))),(w64 (o1+1)),o2)))) else
 (some (o,o1,o2)))
def ZdG.l0:=ZaB ZdG.l0.step
theorem ZdG.l0.succ (n:Nat) t:ZdG.l0 (n+1) t=ZdG.l0.step (ZdG.l0 n) t:=rfl
def ZdG (num:Int) (bits:Int) (last:Int) (fill:Int) (text:List Int):Option (Int×Int×List Int):=
 ((ZdG.l0 ((bits-(0:Int)).toNat+1) (num,bits,0,last,fill,text)).bind fun (o3,o4,o5)=>
 (some (o3,o4,o5)))
def Zdf (last:Int) (fill:Int) (text:List Int):Option (Int×Int×List Int):=
 (bif (decide (fill>0)) then ((ZdG 0 (w64 (8-fill)) last fill text).bind fun (r,r1,r2)=>
 (some (r,r1,r2))) else
 (some (last,fill,text)))
def ZiN (s:Str) (at_:Int) (bad:Bool):Option (Int×Str×Int×Bool):=
 (bif (decide (at_≥(w64 (8*(s.length:Int))))) then (some (0,s,at_,true)) else
 (need (decide (0≤(w64 (at_.tdiv 8)))&&decide ((w64 (at_.tdiv 8))<s.length)) ((Zcr (at_.tmod 8)).bind fun l1Pow_=>
 (need (l1Pow_ != 0) (some (((w64 ((w64 ((s.getD (w64 (at_.tdiv 8)).toNat 0).toNat:Int)).tdiv l1Pow_)).tmod 2),s,(w64 (at_+1)),bad))))))
def ZeA.l0.step (again:(Int×Int×Int×Str×Int×Bool)→Option (Int×Str×Int×Bool)):(Int×Int×Int×Str×Int×Bool)→Option (Int×Str×Int×Bool):=fun (bits1,n,k,o,o1,o2)=>
 (bif (decide (k<bits1)) then ((ZiN o o1 o2).bind fun (r,r1,r2,r3)=>
 ((Zcr k).bind fun l1Pow_=>
 (again (bits1,(w64 (n+(w64 (r*l1Pow_)))),(w64 (k+1)),r1,r2,r3)))) else
 (some (n,o,o1,o2)))
def ZeA.l0:=ZaB ZeA.l0.step
theorem ZeA.l0.succ (n:Nat) t:ZeA.l0 (n+1) t=ZeA.l0.step (ZeA.l0 n) t:=rfl
def ZeA (bits:Int) (s:Str) (at_:Int) (bad:Bool):Option (Int×Str×Int×Bool):=
 ((ZeA.l0 ((bits-(0:Int)).toNat+1) (bits,0,0,s,at_,bad)).bind fun (n1,o3,o4,o5)=>
 (some (n1,o3,o4,o5)))
def Zct.l0.step (again:(Int×Str×Int×Bool)→Option (Int×Str×Int×Bool)):(Int×Str×Int×Bool)→Option (Int×Str×Int×Bool):=fun (n,o,o1,o2)=>
 (bif ((o1.tmod 8) != 0) then ((ZiN o o1 o2).bind fun (r,r1,r2,r3)=>
 (again ((w64 (n+r)),r1,r2,r3))) else
 (some (n,o,o1,o2)))
def Zct.l0:=ZaB Zct.l0.step
theorem Zct.l0.succ (n:Nat) t:Zct.l0 (n+1) t=Zct.l0.step (Zct.l0 n) t:=rfl
def Zct (s:Str) (at_:Int) (bad:Bool):Option (Bool×Str×Int×Bool):=
 ((Zct.l0 (9) (0,s,at_,bad)).bind fun (n1,o3,o4,o5)=>
 (some ((n1==0),o3,o4,o5)))
def ZcL.l0.step (again:(Int×Int×Int×Int)→Option (Int)):(Int×Int×Int×Int)→Option (Int):=fun (num1,bits1,n,k)=>
 (bif (decide (k<bits1)) then (again ((w64 (num1.tdiv 2)),bits1,(w64 ((w64 (2*n))+(num1.tmod 2))),(w64 (k+1)))) else
 (some n))
def ZcL.l0:=ZaB ZcL.l0.step
theorem ZcL.l0.succ (n:Nat) t:ZcL.l0 (n+1) t=ZcL.l0.step (ZcL.l0 n) t:=rfl
def ZcL (num:Int) (bits:Int):Option (Int):=
 ((ZcL.l0 ((bits-(0:Int)).toNat+1) (num,bits,0,0)).bind fun n1=>
 (some n1))
def ZcK.l0.step (again:(Int×Int)→Option (Int)):(Int×Int)→Option (Int):=fun (c1,k)=>
 (bif (decide (k<8)) then (bif ((c1.tmod 2)==1) then (again ((Zj7 .u32 (IntKind.wrap .u32 (c1.tdiv 2)) 3988292384),(w64 (k+1)))) else
 (again ((IntKind.wrap .u32 (c1.tdiv 2)),(w64 (k+1))))) else
 (some c1))
def ZcK.l0:=ZaB ZcK.l0.step
theorem ZcK.l0.succ (n:Nat) t:ZcK.l0 (n+1) t=ZcK.l0.step (ZcK.l0 n) t:=rfl
def ZcK (c:Int) (b:Int):Option (Int):=
 ((ZcK.l0 ((8-(0:Int)).toNat+1) ((Zj7 .u32 c (IntKind.wrap .u32 b)),0)).bind fun c2=>
 (some c2))
def ZcP.l0.step (again:(Str×Int×Int)→Option (Int)):(Str×Int×Int)→Option (Int):=fun (text1,c,i)=>
 (bif (decide (i<(text1.length:Int))) then (need (decide (0≤i)&&decide (i<text1.length)) ((ZcK c ((text1.getD i.toNat 0).toNat:Int)).bind fun l2Step_=>
 (again (text1,l2Step_,(w64 (i+1)))))) else
 (some c))
def ZcP.l0:=ZaB ZcP.l0.step
theorem ZcP.l0.succ (n:Nat) t:ZcP.l0 (n+1) t=ZcP.l0.step (ZcP.l0 n) t:=rfl
def ZcP (crc_:Int) (text:Str):Option (Int):=
 ((ZcP.l0 (((text.length:Int)-(0:Int)).toNat+1) (text,(Zj7 .u32 crc_ 4294967295),0)).bind fun c1=>
 (some (Zj7 .u32 c1 4294967295)))
def Zc3 (text:Str):Option (Int):=
 ((ZcP 0 text).bind fun l2More_=>
 (some (w64 l2More_)))
def Zcj.l0.step (again:(List Int×Int×Int)→Option (Int)):(List Int×Int×Int)→Option (Int):=fun (lens1,n,i)=>
 (bif (decide (i<(lens1.length:Int))) then (need (decide (0≤i)&&decide (i<lens1.length)) (bif (decide ((lens1.getD i.toNat 0)>0)) then (again (lens1,(w64 (n+1)),(w64 (i+1)))) else
 (again (lens1,n,(w64 (i+1)))))) else
 (some n))
def Zcj.l0:=ZaB Zcj.l0.step
theorem Zcj.l0.succ (n:Nat) t:Zcj.l0 (n+1) t=Zcj.l0.step (Zcj.l0 n) t:=rfl
def Zcj (lens:List Int):Option (Int):=
 ((Zcj.l0 (((lens.length:Int)-(0:Int)).toNat+1) (lens,0,0)).bind fun n1=>
 (some n1))
def ZaK.l0.step (again:(List Int×Int×Int)→Option ((List Int×Int)⊕(Bool))):(List Int×Int×Int)→Option ((List Int×Int)⊕(Bool)):=fun (lens1,sum,i)=>
 (bif (decide (i<(lens1.length:Int))) then (need (decide (0≤i)&&decide (i<lens1.length)) ((ZgA (lens1.getD i.toNat 0) 0 15).bind fun l1In_=>
 (bif (!l1In_) then ((some false).map Sum.inr) else
 (need (decide (0≤i)&&decide (i<lens1.length)) (bif (decide ((lens1.getD i.toNat 0)>0)) then (need (decide (0≤i)&&decide (i<lens1.length)) ((Zcr (w64 (15-(lens1.getD i.toNat 0)))).bind fun l1Pow_=>
 (again (lens1,(w64 (sum+l1Pow_)),(w64 (i+1)))))) else
 (again (lens1,sum,(w64 (i+1))))))))) else
 (some (.inl (lens1,sum))))
def ZaK.l0:=ZaB ZaK.l0.step
theorem ZaK.l0.succ (n:Nat) t:ZaK.l0 (n+1) t=ZaK.l0.step (ZaK.l0 n) t:=rfl
def ZaK (lens:List Int):Option (Bool):=
 ((ZaK.l0 (((lens.length:Int)-(0:Int)).toNat+1) (lens,0,0)).bind fun r=>match r with
 | .inl (lens2,sum1)=>(((Zcj lens2).bind fun l3Used_=>
 (bif (l3Used_==1) then ((Zcr 14).bind fun l1Pow_1=>
 (some (sum1==l1Pow_1))) else
 (some false))).bind fun one=>
 ((bif (decide ((lens2.length:Int)≤300)) then ((Zcr 15).bind fun l1Pow_2=>
 (bif (sum1==l1Pow_2) then (some true) else
 (some one))) else
 (some false)).bind fun c=>
 (some c)))
 | .inr r=>some r)
def ZaH.l0.step (again:(List Int×Int×Int×Int×List Int)→Option (List Int×Int×Int×List Int)):(List Int×Int×Int×Int×List Int)→Option (List Int×Int×Int×List Int):=fun (lens2,code_1,n1,i,out1)=>
 (bif (decide (i<(lens2.length:Int))) then (need (decide (0≤i)&&decide (i<lens2.length)) (bif ((lens2.getD i.toNat 0)==n1) then (need (decide (0≤i)&&decide (i<out1.length)) (again (lens2,(w64 (code_1+1)),n1,(w64 (i+1)),(out1.set i.toNat code_1)))) else
 (again (lens2,code_1,n1,(w64 (i+1)),out1)))) else
 (some (lens2,code_1,n1,out1)))
def ZaH.l0:=ZaB ZaH.l0.step
theorem ZaH.l0.succ (n:Nat) t:ZaH.l0 (n+1) t=ZaH.l0.step (ZaH.l0 n) t:=rfl
def ZaH.l1.step (again:(List Int×Int×Int×List Int)→Option (List Int)):(List Int×Int×Int×List Int)→Option (List Int):=fun (lens1,code_,n,out)=>
 (bif (decide (n≤15)) then ((ZaH.l0 (((lens1.length:Int)-(0:Int)).toNat+1) (lens1,code_,n,0,out)).bind fun (lens3,code_2,n2,out2)=>
 (again (lens3,(w64 (2*code_2)),(w64 (n2+1)),out2))) else
 (some out))
def ZaH.l1:=ZaB ZaH.l1.step
theorem ZaH.l1.succ (n:Nat) t:ZaH.l1 (n+1) t=ZaH.l1.step (ZaH.l1 n) t:=rfl
def ZaH (lens:List Int):Option (List Int):=
 (need (decide (0≤(lens.length:Int))&&fits (lens.length:Int).toNat) ((ZaH.l1 ((15-(1:Int)).toNat+2) (lens,0,1,(List.replicate (lens.length:Int).toNat (0:Int)))).bind fun out3=>
 (some out3)))
def ZbO.l0.step (again:((List (Int×Int×List Int))×Int×Int)→Option (Int)):((List (Int×Int×List Int))×Int×Int)→Option (Int):=fun (list1,at_,i)=>
 (bif (decide (i<(list1.length:Int))) then ((need (decide (0≤i)&&decide (i<list1.length)) (need (decide (0≤at_)&&decide (at_<list1.length)) (bif (decide ((list1.getD i.toNat (0,0,[])).1<(list1.getD at_.toNat (0,0,[])).1)) then (some true) else
 (need (decide (0≤i)&&decide (i<list1.length)) (need (decide (0≤at_)&&decide (at_<list1.length)) (bif ((list1.getD i.toNat (0,0,[])).1==(list1.getD at_.toNat (0,0,[])).1) then (need (decide (0≤i)&&decide (i<list1.length)) (need (decide (0≤at_)&&decide (at_<list1.length)) (some (decide ((list1.getD i.toNat (0,0,[])).2.1<(list1.getD at_.toNat (0,0,[])).2.1))))) else
 (some false))))))).bind fun c=>
 (bif c then (again (list1,i,(w64 (i+1)))) else
 (again (list1,at_,(w64 (i+1)))))) else
 (some at_))
def ZbO.l0:=ZaB ZbO.l0.step
theorem ZbO.l0.succ (n:Nat) t:ZbO.l0 (n+1) t=ZbO.l0.step (ZbO.l0 n) t:=rfl
def ZbO (list:List (Int×Int×List Int)):Option (Int):=
 ((ZbO.l0 (((list.length:Int)-(1:Int)).toNat+1) (list,0,1)).bind fun at_1=>
 (some at_1))
def Ze8 (list:List (Int×Int×List Int)) (at_:Int):Option (List (Int×Int×List Int)):=
 (need (decide (0≤at_)&&decide (at_≤list.length)) (need (fits (([]:List (Int×Int×List Int)).length+(list.take at_.toNat).length)) (need (decide (0≤(w64 (at_+1)))&&decide ((w64 (at_+1))≤list.length)) (need (fits (([]++(list.take at_.toNat)).length+(list.drop (w64 (at_+1)).toNat).length)) (some (([]++(list.take at_.toNat))++(list.drop (w64 (at_+1)).toNat)))))))
def Za8.l1.step (again:(Int×Int×List Int×(List (Int×Int×List Int))×Int×Int×List Int×Int×Int×List Int×List Int)→Option (Int×List Int×(List (Int×Int×List Int))×Int×Int×List Int×Int×Int×List Int×List Int)):(Int×Int×List Int×(List (Int×Int×List Int))×Int×Int×List Int×Int×Int×List Int×List Int)→Option (Int×List Int×(List (Int×Int×List Int))×Int×Int×List Int×Int×Int×List Int×List Int):=fun (first1,i1,out5,list5,o6,o7,o8,o9,o10,o11,syms)=>
 (bif (decide (i1<(syms.length:Int))) then (need (decide (0≤i1)&&decide (i1<syms.length)) (need (decide (0≤i1)&&decide (i1<syms.length)) (need (decide (0≤(syms.getD i1.toNat 0))&&decide ((syms.getD i1.toNat 0)<out5.length)) (need (decide (0≤(syms.getD i1.toNat 0))&&decide ((syms.getD i1.toNat 0)<out5.length)) (again (first1,(w64 (i1+1)),(out5.set ((syms.getD i1.toNat 0).toNat) (w64 ((out5.getD ((syms.getD i1.toNat 0).toNat) 0)+1))),list5,o6,o7,o8,o9,o10,o11,syms)))))) else
 (some (first1,out5,list5,o6,o7,o8,o9,o10,o11,syms)))
def Za8.l1:=ZaB Za8.l1.step
theorem Za8.l1.succ (n:Nat) t:Za8.l1 (n+1) t=Za8.l1.step (Za8.l1 n) t:=rfl
def Za8.l2.step (again:(List Int×List (Int×Int×List Int))→Option (List Int)):(List Int×List (Int×Int×List Int))→Option (List Int):=fun (out3,list3)=>
 (bif (decide ((list3.length:Int)>1)) then ((ZbO list3).bind fun l3Least_=>
 (need (decide (0≤l3Least_)&&decide (l3Least_<list3.length)) ((Ze8 list3 l3Least_).bind fun l3Less_=>
 ((ZbO l3Less_).bind fun l3Least_1=>
 (need (decide (0≤l3Least_1)&&decide (l3Least_1<l3Less_.length)) ((Ze8 l3Less_ l3Least_1).bind fun l3Less_1=>
 (((bif (decide ((l3Less_.getD l3Least_1.toNat (0,0,[])).2.1<(list3.getD l3Least_.toNat (0,0,[])).2.1)) then (some ((l3Less_.getD l3Least_1.toNat (0,0,[])).2.1,out3,l3Less_1,(list3.getD l3Least_.toNat (0,0,[])).1,(list3.getD l3Least_.toNat (0,0,[])).2.1,(list3.getD l3Least_.toNat (0,0,[])).2.2,(l3Less_.getD l3Least_1.toNat (0,0,[])).1,(l3Less_.getD l3Least_1.toNat (0,0,[])).2.1,(l3Less_.getD l3Least_1.toNat (0,0,[])).2.2)) else
 (some ((list3.getD l3Least_.toNat (0,0,[])).2.1,out3,l3Less_1,(list3.getD l3Least_.toNat (0,0,[])).1,(list3.getD l3Least_.toNat (0,0,[])).2.1,(list3.getD l3Least_.toNat (0,0,[])).2.2,(l3Less_.getD l3Least_1.toNat (0,0,[])).1,(l3Less_.getD l3Least_1.toNat (0,0,[])).2.1,(l3Less_.getD l3Least_1.toNat (0,0,[])).2.2))):Option (Int×List Int×(List (Int×Int×List Int))×Int×Int×List Int×Int×Int×List Int)).bind fun (first,out4,list4,o,o1,o2,o3,o4,o5)=>
 (need (fits (([]:List (Int)).length+o2.length)) (need (fits (([]++o2).length+o5.length)) ((Za8.l1 ((((([]++o2)++o5).length:Int)-(0:Int)).toNat+1) (first,0,out4,list4,o,o1,o2,o3,o4,o5,(([]++o2)++o5))).bind fun (first2,out6,list6,o12,o13,o14,o15,o16,o17,syms1)=>
 (need (fits (list6.length+([((w64 (o12+o15)),first2,syms1)]:List (Int×Int×List Int)).length)) (again (out6,(list6++[((w64 (o12+o15)),first2,syms1)])))))))))))))) else
 (some out3))
def Za8.l2:=ZaB Za8.l2.step
theorem Za8.l2.succ (n:Nat) t:Za8.l2 (n+1) t=Za8.l2.step (Za8.l2 n) t:=rfl
def Za8.l0.step (again:(List Int×Int×List Int×List (Int×Int×List Int))→Option (List Int×List (Int×Int×List Int))):(List Int×Int×List Int×List (Int×Int×List Int))→Option (List Int×List (Int×Int×List Int)):=fun (counts1,i,out,list)=>
 (bif (decide (i<(counts1.length:Int))) then (need (decide (0≤i)&&decide (i<counts1.length)) (bif (decide ((counts1.getD i.toNat 0)>0)) then (need (decide (0≤i)&&decide (i<counts1.length)) (need (fits (list.length+([((counts1.getD i.toNat 0),i,[i])]:List (Int×Int×List Int)).length)) (again (counts1,(w64 (i+1)),out,(list++[((counts1.getD i.toNat 0),i,[i])]))))) else
 (again (counts1,(w64 (i+1)),out,list)))) else
 (some (out,list)))
def Za8.l0:=ZaB Za8.l0.step
theorem Za8.l0.succ (n:Nat) t:Za8.l0 (n+1) t=Za8.l0.step (Za8.l0 n) t:=rfl
def Za8 (counts:List Int):Option (List Int):=
 (need (decide (0≤(counts.length:Int))&&fits (counts.length:Int).toNat) ((Za8.l0 (((counts.length:Int)-(0:Int)).toNat+1) (counts,0,(List.replicate (counts.length:Int).toNat (0:Int)),[])).bind fun (out1,list1)=>
 (((bif ((list1.length:Int)==1) then (need (decide (0≤(0:Int))&&decide ((0:Int)<list1.length)) (need (decide (0≤(list1.getD 0 (0,0,[])).2.1)&&decide ((list1.getD 0 (0,0,[])).2.1<out1.length)) (some ((out1.set (((list1.getD 0 (0,0,[])).2.1).toNat) 1),list1)))) else
 (some (out1,list1))):Option (List Int×List (Int×Int×List Int))).bind fun (out2,list2)=>
 ((Za8.l2 (((list2.length:Int)-1).toNat+1) (out2,list2)).bind fun out7=>
 (some out7)))))
def ZcJ.l0.step (again:(List Int×Int×Int)→Option (Int)):(List Int×Int×Int)→Option (Int):=fun (lens1,n,i)=>
 (bif (decide (i<(lens1.length:Int))) then (need (decide (0≤i)&&decide (i<lens1.length)) (bif (decide ((lens1.getD i.toNat 0)>n)) then (need (decide (0≤i)&&decide (i<lens1.length)) (again (lens1,(lens1.getD i.toNat 0),(w64 (i+1))))) else
 (again (lens1,n,(w64 (i+1)))))) else
 (some n))
def ZcJ.l0:=ZaB ZcJ.l0.step
theorem ZcJ.l0.succ (n:Nat) t:ZcJ.l0 (n+1) t=ZcJ.l0.step (ZcJ.l0 n) t:=rfl
def ZcJ (lens:List Int):Option (Int):=
 ((ZcJ.l0 (((lens.length:Int)-(0:Int)).toNat+1) (lens,0,0)).bind fun n1=>
 (some n1))
def Zcw.l0.step (again:(Int×Int×List Int)→Option (Int×List Int)):(Int×Int×List Int)→Option (Int×List Int):=fun (most2,i,list1)=>
 (bif (decide (i<(list1.length:Int))) then (need (decide (0≤i)&&decide (i<list1.length)) (need (decide (0≤i)&&decide (i<list1.length)) (again (most2,(w64 (i+1)),(list1.set i.toNat (w64 ((w64 ((list1.getD i.toNat 0)+1)).tdiv 2))))))) else
 (some (most2,list1)))
def Zcw.l0:=ZaB Zcw.l0.step
theorem Zcw.l0.succ (n:Nat) t:Zcw.l0 (n+1) t=Zcw.l0.step (Zcw.l0 n) t:=rfl
def Zcw.l1.step (again:(Int×List Int×List Int)→Option (List Int)):(Int×List Int×List Int)→Option (List Int):=fun (most1,list,out)=>
 ((ZcJ out).bind fun l3Most_=>
 (bif (decide (l3Most_>most1)) then ((Zcw.l0 (((list.length:Int)-(0:Int)).toNat+1) (most1,0,list)).bind fun (most3,list2)=>
 ((Za8 list2).bind fun l3Lens_1=>
 (again (most3,list2,l3Lens_1)))) else
 (some out)))
def Zcw.l1:=ZaB Zcw.l1.step
theorem Zcw.l1.succ (n:Nat) t:Zcw.l1 (n+1) t=Zcw.l1.step (Zcw.l1 n) t:=rfl
def Zcw (counts:List Int) (most:Int):Option (List Int):=
 (need (fits (([]:List (Int)).length+counts.length)) ((Za8 ([]++counts)).bind fun l3Lens_=>
 ((Zcw.l1 (100000) (most,([]++counts),l3Lens_)).bind fun out1=>
 (some out1))))
def Zef (lens:List Int) (codes_:List Int) (sym:Int):Option (Int×Int):=
 (need (decide (0≤sym)&&decide (sym<codes_.length)) (need (decide (0≤sym)&&decide (sym<lens.length)) ((ZcL (codes_.getD sym.toNat 0) (lens.getD sym.toNat 0)).bind fun l1Turn_=>
 (need (decide (0≤sym)&&decide (sym<lens.length)) (some (l1Turn_,(lens.getD sym.toNat 0)))))))
def ZaO.l0.step (again:(List Int×List Int×Int×Int×Int×Str×Int×Bool)→Option ((List Int×List Int×Int×Int×Str×Int×Bool)⊕((Str×Int×Bool)⊕(Int×Str×Int×Bool)))):(List Int×List Int×Int×Int×Int×Str×Int×Bool)→Option ((List Int×List Int×Int×Int×Str×Int×Bool)⊕((Str×Int×Bool)⊕(Int×Str×Int×Bool))):=fun (lens2,codes_2,code_1,n1,i,o3,o4,o5)=>
 (bif (decide (i<(lens2.length:Int))) then ((need (decide (0≤i)&&decide (i<lens2.length)) (bif ((lens2.getD i.toNat 0)==n1) then (need (decide (0≤i)&&decide (i<codes_2.length)) (some ((codes_2.getD i.toNat 0)==code_1))) else
 (some false))).bind fun c1=>
 (bif c1 then (((some (i,o3,o4,o5)).map Sum.inr).map Sum.inr) else
 (again (lens2,codes_2,code_1,n1,(w64 (i+1)),o3,o4,o5)))) else
 (some (.inl (lens2,codes_2,code_1,n1,o3,o4,o5))))
def ZaO.l0:=ZaB ZaO.l0.step
theorem ZaO.l0.succ (n:Nat) t:ZaO.l0 (n+1) t=ZaO.l0.step (ZaO.l0 n) t:=rfl
def ZaO.l1.step (again:(List Int×List Int×Int×Int×Str×Int×Bool)→Option ((Str×Int×Bool)⊕(Int×Str×Int×Bool))):(List Int×List Int×Int×Int×Str×Int×Bool)→Option ((Str×Int×Bool)⊕(Int×Str×Int×Bool)):=fun (lens1,codes_1,code_,n,o,o1,o2)=>
 ((bif (decide (n≤15)) then (some (!o2)) else
 (some false)).bind fun c=>
 (bif c then ((ZiN o o1 o2).bind fun (r,r1,r2,r3)=>
 ((ZaO.l0 (((lens1.length:Int)-(0:Int)).toNat+1) (lens1,codes_1,(w64 ((w64 (2*code_))+r)),n,0,r1,r2,r3)).bind fun r=>match r with
 | .inl (lens3,codes_3,code_2,n2,o6,o7,o8)=>(again (lens3,codes_3,code_2,(w64 (n2+1)),o6,o7,o8))
 | .inr r=>some r)) else
 (some (.inl (o,o1,o2)))))
def ZaO.l1:=ZaB ZaO.l1.step
theorem ZaO.l1.succ (n:Nat) t:ZaO.l1 (n+1) t=ZaO.l1.step (ZaO.l1 n) t:=rfl
def ZaO (lens:List Int) (codes_:List Int) (s:Str) (at_:Int) (bad:Bool):Option (Int×Str×Int×Bool):=
 ((ZaO.l1 ((15-(1:Int)).toNat+2) (lens,codes_,0,1,s,at_,bad)).bind fun r=>match r with
 | .inl (o9,o10,o11)=>(some ((-1),o9,o10,true))
 | .inr r=>some r)
def Zee.l0.step (again:(Int×List Int×Int×Int×Int)→Option (List Int)):(Int×List Int×Int×Int×Int)→Option (List Int):=fun (i,text1,o,o1,o2)=>
 (bif (decide (i<o1)) then (need (decide (0≤(w64 ((text1.length:Int)-o2)))&&decide ((w64 ((text1.length:Int)-o2))<text1.length)) (need (fits (text1.length+([(text1.getD ((w64 ((text1.length:Int)-o2)).toNat) 0)]:List (Int)).length)) (again ((w64 (i+1)),(text1++[(text1.getD ((w64 ((text1.length:Int)-o2)).toNat) 0)]),o,o1,o2)))) else
 (some text1))
def Zee.l0:=ZaB Zee.l0.step
theorem Zee.l0.succ (n:Nat) t:Zee.l0 (n+1) t=Zee.l0.step (Zee.l0 n) t:=rfl
def Zee (byte:Int) (long:Int) (back:Int) (text:List Int):Option (Bool×List Int):=
 (bif (long==0) then (need (fits (text.length+([(IntKind.wrap .u8 byte)]:List (Int)).length)) ((ZgA byte 0 255).bind fun l1In_=>
 (bif l1In_ then (some ((back==0),(text++[(IntKind.wrap .u8 byte)]))) else
 (some (false,(text++[(IntKind.wrap .u8 byte)])))))) else
 ((bif (byte != 0) then (some true) else
 ((ZgA long 3 60).bind fun l1In_1=>
 (bif (!l1In_1) then (some true) else
 ((ZgA back 1 250).bind fun l1In_2=>
 (bif (!l1In_2) then (some true) else
 (some (decide (back>(text.length:Int))))))))).bind fun c=>
 (bif c then (some (false,text)) else
 ((Zee.l0 ((long-(0:Int)).toNat+1) (0,text,byte,long,back)).bind fun text2=>
 (some (true,text2))))))
def ZbV.l0.step (again:(Str×Int×Int×Int)→Option (Int)):(Str×Int×Int×Int)→Option (Int):=fun (text1,at_1,back1,n)=>
 ((bif (decide ((w64 (at_1+n))<(text1.length:Int))) then (bif (decide (n<60)) then (need (decide (0≤(w64 (at_1+n)))&&decide ((w64 (at_1+n))<text1.length)) (need (decide (0≤(w64 ((w64 (at_1+n))-back1)))&&decide ((w64 ((w64 (at_1+n))-back1))<text1.length)) (some (((text1.getD (w64 (at_1+n)).toNat 0).toNat:Int)==((text1.getD (w64 ((w64 (at_1+n))-back1)).toNat 0).toNat:Int))))) else
 (some false)) else
 (some false)).bind fun c=>
 (bif c then (again (text1,at_1,back1,(w64 (n+1)))) else
 (some n)))
def ZbV.l0:=ZaB ZbV.l0.step
theorem ZbV.l0.succ (n:Nat) t:ZbV.l0 (n+1) t=ZbV.l0.step (ZbV.l0 n) t:=rfl
def ZbV (text:Str) (at_:Int) (back:Int):Option (Int):=
 ((ZbV.l0 (62) (text,at_,back,0)).bind fun n1=>
 (some n1))
def ZaF.l0.step (again:(Str×Int×Int×Int×Int×List (Int×Int×Int))→Option (Str×Int×Int×Int×List (Int×Int×Int))):(Str×Int×Int×Int×Int×List (Int×Int×Int))→Option (Str×Int×Int×Int×List (Int×Int×Int)):=fun (text2,at_1,long,far,back,out1)=>
 ((bif (decide (back≤250)) then (some (decide (back≤at_1))) else
 (some false)).bind fun c=>
 (bif c then ((ZbV text2 at_1 back).bind fun l4Again_=>
 (bif (decide (l4Again_>long)) then (again (text2,at_1,l4Again_,back,(w64 (back+1)),out1)) else
 (again (text2,at_1,long,far,(w64 (back+1)),out1)))) else
 (some (text2,at_1,long,far,out1))))
def ZaF.l0:=ZaB ZaF.l0.step
theorem ZaF.l0.succ (n:Nat) t:ZaF.l0 (n+1) t=ZaF.l0.step (ZaF.l0 n) t:=rfl
def ZaF.l1.step (again:(Str×Int×List (Int×Int×Int))→Option (List (Int×Int×Int))):(Str×Int×List (Int×Int×Int))→Option (List (Int×Int×Int)):=fun (text1,at_,out)=>
 (bif (decide (at_<(text1.length:Int))) then ((ZaF.l0 ((250-(1:Int)).toNat+2) (text1,at_,0,0,1,out)).bind fun (text3,at_2,long1,far1,out2)=>
 (bif (decide (long1<3)) then (need (decide (0≤at_2)&&decide (at_2<text3.length)) (need (fits (out2.length+([((w64 ((text3.getD at_2.toNat 0).toNat:Int)),0,0)]:List (Int×Int×Int)).length)) (again (text3,(w64 (at_2+1)),(out2++[((w64 ((text3.getD at_2.toNat 0).toNat:Int)),0,0)]))))) else
 (need (fits (out2.length+([(0,long1,far1)]:List (Int×Int×Int)).length)) (again (text3,(w64 (at_2+long1)),(out2++[(0,long1,far1)])))))) else
 (some out))
def ZaF.l1:=ZaB ZaF.l1.step
theorem ZaF.l1.succ (n:Nat) t:ZaF.l1 (n+1) t=ZaF.l1.step (ZaF.l1 n) t:=rfl
def ZaF (text:Str):Option (List (Int×Int×Int)):=
 ((ZaF.l1 (((text.length:Int)-(0:Int)).toNat+1) (text,0,[])).bind fun out3=>
 (some out3))
def Zcv.l0.step (again:(List Int×Int×Int×List Int)→Option (List Int)):(List Int×Int×Int×List Int)→Option (List Int):=fun (extra1,from_1,i,out)=>
 (bif (decide (i<(extra1.length:Int))) then (need (fits (out.length+([from_1]:List (Int)).length)) (need (decide (0≤i)&&decide (i<extra1.length)) ((Zcr (extra1.getD i.toNat 0)).bind fun l1Pow_=>
 (again (extra1,(w64 (from_1+l1Pow_)),(w64 (i+1)),(out++[from_1])))))) else
 (some out))
def Zcv.l0:=ZaB Zcv.l0.step
def Zcv (extra:List Int) (from_:Int):Option (List Int):=
 ((Zcv.l0 (((extra.length:Int)-(0:Int)).toNat+1) (extra,from_,0,[])).bind fun out1=>
 (some out1))
def Za4:Option (List Int):=
 (some [0,0,0,0,0,0,0,0,1,1,1,1,2,2,2,2,3,3,3,3,4,4,4,4,5,5,5,5])
def Za5:Option (List Int):=
 (some [0,0,0,0,1,1,2,2,3,3,4,4,5,5,6,6,7,7,8,8,9,9,10,10,11,11,12,12,13,13])
def Zeu.l0.step (again:(List Int×Int×Int)→Option (Int)):(List Int×Int×Int)→Option (Int):=fun (base1,n1,k)=>
 ((bif (decide ((w64 (k+1))<(base1.length:Int))) then (need (decide (0≤(w64 (k+1)))&&decide ((w64 (k+1))<base1.length)) (some (decide ((base1.getD (w64 (k+1)).toNat 0)≤n1)))) else
 (some false)).bind fun c=>
 (bif c then (again (base1,n1,(w64 (k+1)))) else
 (some k)))
def Zeu.l0:=ZaB Zeu.l0.step
def Zeu (base:List Int) (n:Int):Option (Int):=
 ((Zeu.l0 ((base.length:Int).toNat+1) (base,n,0)).bind fun k1=>
 (some k1))
def ZcA.l0.step (again:(Int×List Int)→Option (List Int)):(Int×List Int)→Option (List Int):=fun (i,out)=>
 (bif (decide (i<288)) then (bif (decide (i<144)) then (need (fits (out.length+([8]:List (Int)).length)) (again ((w64 (i+1)),(out++[8])))) else
 (bif (decide (i<256)) then (need (fits (out.length+([9]:List (Int)).length)) (again ((w64 (i+1)),(out++[9])))) else
 (bif (decide (i<280)) then (need (fits (out.length+([7]:List (Int)).length)) (again ((w64 (i+1)),(out++[7])))) else
 (need (fits (out.length+([8]:List (Int)).length)) (again ((w64 (i+1)),(out++[8]))))))) else
 (some out))
def ZcA.l0:=ZaB ZcA.l0.step
def ZcA:Option (List Int):=
 ((ZcA.l0 ((288-(0:Int)).toNat+1) (0,[])).bind fun out1=>
 (some out1))
def ZcB.l0.step (again:(Int×List Int)→Option (List Int)):(Int×List Int)→Option (List Int):=fun (i,out)=>
 (bif (decide (i<32)) then (need (fits (out.length+([5]:List (Int)).length)) (again ((w64 (i+1)),(out++[5])))) else
 (some out))
def ZcB.l0:=ZaB ZcB.l0.step
def ZcB:Option (List Int):=
 ((ZcB.l0 ((32-(0:Int)).toNat+1) (0,[])).bind fun out1=>
 (some out1))
def ZlW (lens:List Int) (codes_:List Int) (sym:Int) (last:Int) (fill:Int) (text:List Int):Option (Int×Int×List Int):=
 ((Zef lens codes_ sym).bind fun (r,r1)=>
 ((ZdG r r1 last fill text).bind fun (r2,r3,r4)=>
 (some (r2,r3,r4))))
def ZbA.l0.step (again:((List (Int×Int×Int))×List Int×List Int×Int×Int×Int×List Int×List Int×List Int×List Int×List Int)→Option (List Int×Int×Int×List Int×List Int)):((List (Int×Int×Int))×List Int×List Int×Int×Int×Int×List Int×List Int×List Int×List Int×List Int)→Option (List Int×Int×Int×List Int×List Int):=fun (list1,longs1,backs1,i,o,o1,a,b,long,back,o2)=>
 (bif (decide (i<(list1.length:Int))) then (need (decide (0≤i)&&decide (i<list1.length)) (bif ((list1.getD i.toNat (0,0,0)).2.1==0) then ((ZlW longs1 a ((list1.getD i.toNat (0,0,0)).1) o o1 o2).bind fun (r,r1,r2)=>
 (again (list1,longs1,backs1,(w64 (i+1)),r,r1,a,b,long,back,r2))) else
 ((Zeu long ((list1.getD i.toNat (0,0,0)).2.1)).bind fun l5Sym_=>
 ((ZlW longs1 a (w64 (257+l5Sym_)) o o1 o2).bind fun (r3,r4,r5)=>
 (need (decide (0≤l5Sym_)&&decide (l5Sym_<long.length)) ((Za4).bind fun l5LongBi1=>
 (need (decide (0≤l5Sym_)&&decide (l5Sym_<l5LongBi1.length)) ((ZdG (w64 ((list1.getD i.toNat (0,0,0)).2.1-(long.getD l5Sym_.toNat 0))) (l5LongBi1.getD l5Sym_.toNat 0) r3 r4 r5).bind fun (r6,r7,r8)=>
 ((Zeu back ((list1.getD i.toNat (0,0,0)).2.2)).bind fun l5Sym_1=>
 ((ZlW backs1 b l5Sym_1 r6 r7 r8).bind fun (r9,r10,r11)=>
 (need (decide (0≤l5Sym_1)&&decide (l5Sym_1<back.length)) ((Za5).bind fun l5BackBi1=>
 (need (decide (0≤l5Sym_1)&&decide (l5Sym_1<l5BackBi1.length)) ((ZdG (w64 ((list1.getD i.toNat (0,0,0)).2.2-(back.getD l5Sym_1.toNat 0))) (l5BackBi1.getD l5Sym_1.toNat 0) r9 r10 r11).bind fun (r12,r13,r14)=>
 (again (list1,longs1,backs1,(w64 (i+1)),r12,r13,a,b,long,back,r14)))))))))))))))) else
 (some (longs1,o,o1,a,o2)))
def ZbA.l0:=ZaB ZbA.l0.step
theorem ZbA.l0.succ (n:Nat) t:ZbA.l0 (n+1) t=ZbA.l0.step (ZbA.l0 n) t:=rfl
def ZbA (list:List (Int×Int×Int)) (longs:List Int) (backs:List Int) (last:Int) (fill:Int) (text:List Int):Option (Int×Int×List Int):=
 ((ZaH longs).bind fun l3Codes_=>
 ((ZaH backs).bind fun l3Codes_1=>
 ((Za4).bind fun l5LongBi=>
 ((Zcv l5LongBi 3).bind fun l5Base_=>
 ((Za5).bind fun l5BackBi=>
 ((Zcv l5BackBi 1).bind fun l5Base_1=>
 ((ZbA.l0 (((list.length:Int)-(0:Int)).toNat+1) (list,longs,backs,0,last,fill,l3Codes_,l3Codes_1,l5Base_,l5Base_1,text)).bind fun (longs2,o3,o4,a1,o5)=>
 ((ZlW longs2 a1 256 o3 o4 o5).bind fun (r15,r16,r17)=>
 (some (r15,r16,r17))))))))))
def ZdS (text:Str):Option (Str):=
 ((ZdG 1 1 0 0 []).bind fun (r,r1,r2)=>
 ((ZdG 0 2 r r1 r2).bind fun (r3,r4,r5)=>
 ((Zdf r3 r4 r5).bind fun (r6,r7,r8)=>
 ((ZdG (text.length:Int) 16 r6 r7 r8).bind fun (r9,r10,r11)=>
 ((ZdG (w64 (65535-(text.length:Int))) 16 r9 r10 r11).bind fun (r12,r13,r14)=>
 (need (fits ((ZbM r14).length+text.length)) (some ((ZbM r14)++text))))))))
def ZdT (text:Str):Option (Str):=
 ((ZdG 1 1 0 0 []).bind fun (r,r1,r2)=>
 ((ZdG 1 2 r r1 r2).bind fun (r3,r4,r5)=>
 ((ZaF text).bind fun l4Tokens_=>
 ((ZcA).bind fun l5Fixed_=>
 ((ZcB).bind fun l5Fives_=>
 ((ZbA l4Tokens_ l5Fixed_ l5Fives_ r3 r4 r5).bind fun (r6,r7,r8)=>
 ((Zdf r6 r7 r8).bind fun (r9,r10,r11)=>
 (some (ZbM r11)))))))))
def Zbq.l0.step (again:((List (Int×Int×Int))×Int×List Int×List Int×List Int×List Int)→Option (List Int×List Int)):((List (Int×Int×Int))×Int×List Int×List Int×List Int×List Int)→Option (List Int×List Int):=fun (list1,i,longs,backs,long,back)=>
 (bif (decide (i<(list1.length:Int))) then (need (decide (0≤i)&&decide (i<list1.length)) (bif ((list1.getD i.toNat (0,0,0)).2.1==0) then (need (decide (0≤i)&&decide (i<list1.length)) (need (decide (0≤i)&&decide (i<list1.length)) (need (decide (0≤(list1.getD i.toNat (0,0,0)).1)&&decide ((list1.getD i.toNat (0,0,0)).1<longs.length)) (need (decide (0≤(list1.getD i.toNat (0,0,0)).1)&&decide ((list1.getD i.toNat (0,0,0)).1<longs.length)) (again (list1,(w64 (i+1)),(longs.set (((list1.getD i.toNat (0,0,0)).1).toNat) (w64 ((longs.getD (((list1.getD i.toNat (0,0,0)).1).toNat) 0)+1))),backs,long,back)))))) else
 (need (decide (0≤i)&&decide (i<list1.length)) ((Zeu long ((list1.getD i.toNat (0,0,0)).2.1)).bind fun l5Sym_=>
 (need (decide (0≤(w64 (257+l5Sym_)))&&decide ((w64 (257+l5Sym_))<longs.length)) (need (decide (0≤(w64 (257+l5Sym_)))&&decide ((w64 (257+l5Sym_))<longs.length)) (need (decide (0≤i)&&decide (i<list1.length)) ((Zeu back ((list1.getD i.toNat (0,0,0)).2.2)).bind fun l5Sym_1=>
 (need (decide (0≤l5Sym_1)&&decide (l5Sym_1<backs.length)) (need (decide (0≤l5Sym_1)&&decide (l5Sym_1<backs.length)) (again (list1,(w64 (i+1)),(longs.set ((w64 (257+l5Sym_)).toNat) (w64 ((longs.getD ((w64 (257+l5Sym_)).toNat) 0)+1))),(backs.set l5Sym_1.toNat (w64 ((backs.getD l5Sym_1.toNat 0)+1))),long,back)))))))))))) else
 (some (longs,backs)))
def Zbq.l0:=ZaB Zbq.l0.step
theorem Zbq.l0.succ (n:Nat) t:Zbq.l0 (n+1) t=Zbq.l0.step (Zbq.l0 n) t:=rfl
def Zbq (list:List (Int×Int×Int)):Option (List Int×List Int):=
 (need (decide (0≤286)&&fits 286) (need (decide (0≤30)&&fits 30) ((Za4).bind fun l5LongBi=>
 ((Zcv l5LongBi 3).bind fun l5Base_=>
 ((Za5).bind fun l5BackBi=>
 ((Zcv l5BackBi 1).bind fun l5Base_1=>
 (need (decide (0≤(256:Int))&&decide ((256:Int)<(List.replicate 286 (0:Int)).length)) ((Zbq.l0 (((list.length:Int)-(0:Int)).toNat+1) (list,0,((List.replicate 286 (0:Int)).set 256 1),(List.replicate 30 (0:Int)),l5Base_,l5Base_1)).bind fun (longs1,backs1)=>
 ((Zcj backs1).bind fun l3Used_=>
 (bif (l3Used_==0) then (need (decide (0≤(0:Int))&&decide ((0:Int)<backs1.length)) (some (longs1,(backs1.set 0 1)))) else
 (some (longs1,backs1))))))))))))
def Zce.l0.step (again:(List Int×Int×Int)→Option (List Int×Int)):(List Int×Int×Int)→Option (List Int×Int):=fun (lens1,least_1,n)=>
 ((bif (decide (n>least_1)) then (need (decide (0≤(w64 (n-1)))&&decide ((w64 (n-1))<lens1.length)) (some ((lens1.getD (w64 (n-1)).toNat 0)==0))) else
 (some false)).bind fun c=>
 (bif c then (again (lens1,least_1,(w64 (n-1)))) else
 (some (lens1,n))))
def Zce.l0:=ZaB Zce.l0.step
theorem Zce.l0.succ (n:Nat) t:Zce.l0 (n+1) t=Zce.l0.step (Zce.l0 n) t:=rfl
def Zce (lens:List Int) (least_:Int):Option (List Int):=
 ((Zce.l0 (((lens.length:Int)-least_).toNat+1) (lens,least_,(lens.length:Int))).bind fun (lens2,n1)=>
 (need (decide (0≤n1)&&decide (n1≤lens2.length)) (some (lens2.take n1.toNat))))
def Zc4:Option (List Int):=
 (some [16,17,18,0,8,7,9,6,10,5,11,4,12,3,13,2,14,1,15])
def ZbX.l2.step (again:(Int×Int×Int×List Int×List Int×List Int×List Int)→Option (Int×Int×List Int)):(Int×Int×Int×List Int×List Int×List Int×List Int)→Option (Int×Int×List Int):=fun (i2,o12,o13,all4,lens2,codes_2,o14)=>
 (bif (decide (i2<(all4.length:Int))) then (need (decide (0≤i2)&&decide (i2<all4.length)) ((ZlW lens2 codes_2 (all4.getD i2.toNat 0) o12 o13 o14).bind fun (r12,r13,r14)=>
 (again ((w64 (i2+1)),r12,r13,all4,lens2,codes_2,r14)))) else
 (some (o12,o13,o14)))
def ZbX.l2:=ZaB ZbX.l2.step
theorem ZbX.l2.succ (n:Nat) t:ZbX.l2 (n+1) t=ZbX.l2.step (ZbX.l2 n) t:=rfl
def ZbX.l1.step (again:(Int×Int×Int×List Int×List Int×List Int×List Int)→Option (Int×Int×List Int×List Int×List Int×List Int)):(Int×Int×Int×List Int×List Int×List Int×List Int)→Option (Int×Int×List Int×List Int×List Int×List Int):=fun (i1,o6,o7,all2,lens,codes_,o8)=>
 (bif (decide (i1<19)) then ((Zc4).bind fun l5Order_=>
 (need (decide (0≤i1)&&decide (i1<l5Order_.length)) (need (decide (0≤(l5Order_.getD i1.toNat 0))&&decide ((l5Order_.getD i1.toNat 0)<lens.length)) ((ZdG (lens.getD ((l5Order_.getD i1.toNat 0).toNat) 0) 3 o6 o7 o8).bind fun (r9,r10,r11)=>
 (again ((w64 (i1+1)),r9,r10,all2,lens,codes_,r11)))))) else
 (some (o6,o7,all2,lens,codes_,o8)))
def ZbX.l1:=ZaB ZbX.l1.step
theorem ZbX.l1.succ (n:Nat) t:ZbX.l1 (n+1) t=ZbX.l1.step (ZbX.l1 n) t:=rfl
def ZbX.l0.step (again:(List Int×List Int×Int×Int×Int×List Int×List Int×List Int)→Option (List Int×List Int×Int×Int×List Int×List Int×List Int)):(List Int×List Int×Int×Int×Int×List Int×List Int×List Int)→Option (List Int×List Int×Int×Int×List Int×List Int×List Int):=fun (longs1,backs1,i,o,o1,all,counts,o2)=>
 (bif (decide (i<(all.length:Int))) then (need (decide (0≤i)&&decide (i<all.length)) (need (decide (0≤i)&&decide (i<all.length)) (need (decide (0≤(all.getD i.toNat 0))&&decide ((all.getD i.toNat 0)<counts.length)) (need (decide (0≤(all.getD i.toNat 0))&&decide ((all.getD i.toNat 0)<counts.length)) (again (longs1,backs1,(w64 (i+1)),o,o1,all,(counts.set ((all.getD i.toNat 0).toNat) (w64 ((counts.getD ((all.getD i.toNat 0).toNat) 0)+1))),o2)))))) else
 (some (longs1,backs1,o,o1,all,counts,o2)))
def ZbX.l0:=ZaB ZbX.l0.step
theorem ZbX.l0.succ (n:Nat) t:ZbX.l0 (n+1) t=ZbX.l0.step (ZbX.l0 n) t:=rfl
def ZbX (longs:List Int) (backs:List Int) (last:Int) (fill:Int) (text:List Int):Option (Int×Int×List Int):=
 (need (fits (([]:List (Int)).length+longs.length)) (need (fits (([]++longs).length+backs.length)) (need (decide (0≤19)&&fits 19) ((ZbX.l0 ((((([]++longs)++backs).length:Int)-(0:Int)).toNat+1) (longs,backs,0,last,fill,(([]++longs)++backs),(List.replicate 19 (0:Int)),text)).bind fun (longs2,backs2,o3,o4,all1,counts1,o5)=>
 ((Zcw counts1 7).bind fun l3Fit_=>
 ((ZaH l3Fit_).bind fun l3Codes_=>
 ((ZdG (w64 ((longs2.length:Int)-257)) 5 o3 o4 o5).bind fun (r,r1,r2)=>
 ((ZdG (w64 ((backs2.length:Int)-1)) 5 r r1 r2).bind fun (r3,r4,r5)=>
 ((ZdG 15 4 r3 r4 r5).bind fun (r6,r7,r8)=>
 ((ZbX.l1 ((19-(0:Int)).toNat+1) (0,r6,r7,all1,l3Fit_,l3Codes_,r8)).bind fun (o9,o10,all3,lens1,codes_1,o11)=>
 ((ZbX.l2 (((all3.length:Int)-(0:Int)).toNat+1) (0,o9,o10,all3,lens1,codes_1,o11)).bind fun (o15,o16,o17)=>
 (some (o15,o16,o17)))))))))))))
def Zib (text:Str):Option (Str):=
 ((ZaF text).bind fun l4Tokens_=>
 ((Zbq l4Tokens_).bind fun (r,r1)=>
 ((Zcw r 15).bind fun l3Fit_=>
 ((Zce l3Fit_ 257).bind fun l5Last_=>
 ((Zcw r1 15).bind fun l3Fit_1=>
 ((Zce l3Fit_1 1).bind fun l5Last_1=>
 ((ZdG 1 1 0 0 []).bind fun (r2,r3,r4)=>
 ((ZdG 2 2 r2 r3 r4).bind fun (r5,r6,r7)=>
 ((ZbX l5Last_ l5Last_1 r5 r6 r7).bind fun (r8,r9,r10)=>
 ((ZbA l4Tokens_ l5Last_ l5Last_1 r8 r9 r10).bind fun (r11,r12,r13)=>
 ((Zdf r11 r12 r13).bind fun (r14,r15,r16)=>
 (some (ZbM r16)))))))))))))
def Zao.l0.step (again:(Str×Int×List Str)→Option (Str)):(Str×Int×List Str)→Option (Str):=fun (out,i,list)=>
 (bif (decide (i<(list.length:Int))) then (need (decide (0≤i)&&decide (i<list.length)) (bif (decide (((list.getD i.toNat []).length:Int)<(out.length:Int))) then (need (decide (0≤i)&&decide (i<list.length)) (again ((list.getD i.toNat []),(w64 (i+1)),list))) else
 (again (out,(w64 (i+1)),list)))) else
 (some out))
def Zao.l0:=ZaB Zao.l0.step
theorem Zao.l0.succ (n:Nat) t:Zao.l0 (n+1) t=Zao.l0.step (Zao.l0 n) t:=rfl
def Zao (text:Str):Option (Str):=
 (bif (decide ((text.length:Int)>300)) then (some []) else
 ((ZdS text).bind fun l5Store_=>
 ((ZdT text).bind fun l5Known_=>
 ((Zib text).bind fun l5Own_=>
 ((Zao.l0 (((([l5Known_,l5Own_]:List Str).length:Int)-(0:Int)).toNat+1) (l5Store_,0,[l5Known_,l5Own_])).bind fun out1=>
 (some out1))))))
def ZbD.l0.step (again:(Int×Int×Str×Int×Bool×List Int)→Option (Str×Int×Bool×List Int)):(Int×Int×Str×Int×Bool×List Int)→Option (Str×Int×Bool×List Int):=fun (n1,i,o6,o7,o8,text3)=>
 ((bif (decide (i<n1)) then (some (!o8)) else
 (some false)).bind fun c=>
 (bif c then ((ZeA 8 o6 o7 o8).bind fun (r12,r13,r14,r15)=>
 (need (fits (text3.length+([(IntKind.wrap .u8 r12)]:List (Int)).length)) (again (n1,(w64 (i+1)),r13,r14,r15,(text3++[(IntKind.wrap .u8 r12)]))))) else
 (some (o6,o7,o8,text3))))
def ZbD.l0:=ZaB ZbD.l0.step
theorem ZbD.l0.succ (n:Nat) t:ZbD.l0 (n+1) t=ZbD.l0.step (ZbD.l0 n) t:=rfl
def ZbD (s:Str) (at_:Int) (bad:Bool) (text:List Int):Option (Str×Int×Bool×List Int):=
 ((((Zct s at_ bad).bind fun (r,r1,r2,r3)=>
 (bif (!r) then (some (r1,r2,true,text)) else
 (some (r1,r2,r3,text)))):Option (Str×Int×Bool×List Int)).bind fun (o,o1,o2,text1)=>
 ((ZeA 16 o o1 o2).bind fun (r4,r5,r6,r7)=>
 ((((ZeA 16 r5 r6 r7).bind fun (r8,r9,r10,r11)=>
 (bif (r8 != (w64 (65535-r4))) then (some (r4,r9,r10,true,text1)) else
 (bif (decide (r4>300)) then (some (r4,r9,r10,true,text1)) else
 (some (r4,r9,r10,r11,text1))))):Option (Int×Str×Int×Bool×List Int)).bind fun (n,o3,o4,o5,text2)=>
 ((ZbD.l0 ((n-(0:Int)).toNat+1) (n,0,o3,o4,o5,text2)).bind fun (o9,o10,o11,text4)=>
 (some (o9,o10,o11,text4))))))
def Zfj (sym:Int) (backs:List Int) (codes_:List Int) (s:Str) (at_:Int) (bad:Bool) (text:List Int):Option (Str×Int×Bool×List Int):=
 ((Za4).bind fun l5LongBi=>
 (bif (decide ((w64 (sym-257))≥(l5LongBi.length:Int))) then (some (s,at_,true,text)) else
 ((Za4).bind fun l5LongBi1=>
 ((Zcv l5LongBi1 3).bind fun l5Base_=>
 (need (decide (0≤(w64 (sym-257)))&&decide ((w64 (sym-257))<l5Base_.length)) ((Za4).bind fun l5LongBi2=>
 (need (decide (0≤(w64 (sym-257)))&&decide ((w64 (sym-257))<l5LongBi2.length)) ((ZeA (l5LongBi2.getD ((w64 (sym-257)).toNat) 0) s at_ bad).bind fun (r,r1,r2,r3)=>
 ((ZaO backs codes_ r1 r2 r3).bind fun (r4,r5,r6,r7)=>
 (bif r7 then (some (r5,r6,true,text)) else
 ((Za5).bind fun l5BackBi=>
 (bif (decide (r4≥(l5BackBi.length:Int))) then (some (r5,r6,true,text)) else
 ((Za5).bind fun l5BackBi1=>
 ((Zcv l5BackBi1 1).bind fun l5Base_1=>
 (need (decide (0≤r4)&&decide (r4<l5Base_1.length)) ((Za5).bind fun l5BackBi2=>
 (need (decide (0≤r4)&&decide (r4<l5BackBi2.length)) ((ZeA (l5BackBi2.getD r4.toNat 0) r5 r6 r7).bind fun (r8,r9,r10,r11)=>
 ((Zee 0 (w64 ((l5Base_.getD ((w64 (sym-257)).toNat) 0)+r)) (w64 ((l5Base_1.getD r4.toNat 0)+r8)) text).bind fun (r12,r13)=>
 (bif (!r12) then (some (r9,r10,true,r13)) else
 (some (r9,r10,r11,r13))))))))))))))))))))))
def ZbN.l0.step (again:(List Int×List Int×Str×Int×Bool×List Int×List Int×List Int)→Option ((Str×Int×Bool×List Int)⊕(Str×Int×Bool×List Int))):(List Int×List Int×Str×Int×Bool×List Int×List Int×List Int)→Option ((Str×Int×Bool×List Int)⊕(Str×Int×Bool×List Int)):=fun (longs1,backs1,o,o1,o2,text1,a,b)=>
 ((bif (!o2) then (some (decide ((text1.length:Int)≤300))) else
 (some false)).bind fun c=>
 (bif c then ((ZaO longs1 a o o1 o2).bind fun (r,r1,r2,r3)=>
 ((bif r3 then (some true) else
 (some (r==256))).bind fun c1=>
 (bif c1 then ((some (r1,r2,r3,text1)).map Sum.inr) else
 (bif (decide (r<256)) then (need (fits (text1.length+([(IntKind.wrap .u8 r)]:List (Int)).length)) (again (longs1,backs1,r1,r2,r3,(text1++[(IntKind.wrap .u8 r)]),a,b))) else
 ((Zfj r backs1 b r1 r2 r3 text1).bind fun (r4,r5,r6,r7)=>
 (again (longs1,backs1,r4,r5,r6,r7,a,b))))))) else
 (some (.inl (o,o1,o2,text1)))))
def ZbN.l0:=ZaB ZbN.l0.step
theorem ZbN.l0.succ (n:Nat) t:ZbN.l0 (n+1) t=ZbN.l0.step (ZbN.l0 n) t:=rfl
def ZbN (longs:List Int) (backs:List Int) (s:Str) (at_:Int) (bad:Bool) (text:List Int):Option (Str×Int×Bool×List Int):=
 ((ZaH longs).bind fun l3Codes_=>
 ((ZaH backs).bind fun l3Codes_1=>
 ((ZbN.l0 (100000) (longs,backs,s,at_,bad,text,l3Codes_,l3Codes_1)).bind fun r=>match r with
 | .inl (o3,o4,o5,text2)=>(some (o3,o4,true,text2))
 | .inr r=>some r)))
def Zdr.l0.step (again:(Int×Int×Int×Str×Int×Bool×List Int)→Option (Str×Int×Bool×List Int)):(Int×Int×Int×Str×Int×Bool×List Int)→Option (Str×Int×Bool×List Int):=fun (last1,n1,i,o3,o4,o5,out2)=>
 ((bif (decide (i<n1)) then (some (!o5)) else
 (some false)).bind fun c1=>
 (bif c1 then (need (fits (out2.length+([last1]:List (Int)).length)) (again (last1,n1,(w64 (i+1)),o3,o4,o5,(out2++[last1])))) else
 (some (o3,o4,o5,out2))))
def Zdr.l0:=ZaB Zdr.l0.step
theorem Zdr.l0.succ (n:Nat) t:Zdr.l0 (n+1) t=Zdr.l0.step (Zdr.l0 n) t:=rfl
def Zdr (sym:Int) (s:Str) (at_:Int) (bad:Bool) (out:List Int):Option (Str×Int×Bool×List Int):=
 ((((bif (sym==16) then (some ((out.length:Int)==0)) else
 (some false)).bind fun c=>
 (bif c then (some (0,0,s,at_,true,out)) else
 (bif (sym==16) then (need (decide (0≤(w64 ((out.length:Int)-1)))&&decide ((w64 ((out.length:Int)-1))<out.length)) ((ZeA 2 s at_ bad).bind fun (r,r1,r2,r3)=>
 (some ((out.getD ((w64 ((out.length:Int)-1)).toNat) 0),(w64 (3+r)),r1,r2,r3,out)))) else
 (bif (sym==17) then ((ZeA 3 s at_ bad).bind fun (r4,r5,r6,r7)=>
 (some (0,(w64 (3+r4)),r5,r6,r7,out))) else
 (bif (sym==18) then ((ZeA 7 s at_ bad).bind fun (r8,r9,r10,r11)=>
 (some (0,(w64 (11+r8)),r9,r10,r11,out))) else
 (some (sym,1,s,at_,bad,out))))))):Option (Int×Int×Str×Int×Bool×List Int)).bind fun (last,n,o,o1,o2,out1)=>
 ((Zdr.l0 ((n-(0:Int)).toNat+1) (last,n,0,o,o1,o2,out1)).bind fun (o6,o7,o8,out3)=>
 (some (o6,o7,o8,out3))))
def Zcz.l1.step (again:(Int×Int×Str×Int×Bool×List Int×List Int×List Int)→Option (Int×Int×Str×Int×Bool×List Int)):(Int×Int×Str×Int×Bool×List Int×List Int×List Int)→Option (Int×Int×Str×Int×Bool×List Int):=fun (long2,back2,o6,o7,o8,lens2,codes_,all)=>
 ((bif (decide ((all.length:Int)<(w64 (long2+back2)))) then (some (!o8)) else
 (some false)).bind fun c1=>
 (bif c1 then ((ZaO lens2 codes_ o6 o7 o8).bind fun (r16,r17,r18,r19)=>
 ((Zdr r16 r17 r18 r19 all).bind fun (r20,r21,r22,r23)=>
 (again (long2,back2,r20,r21,r22,lens2,codes_,r23)))) else
 (some (long2,back2,o6,o7,o8,all))))
def Zcz.l1:=ZaB Zcz.l1.step
theorem Zcz.l1.succ (n:Nat) t:Zcz.l1 (n+1) t=Zcz.l1.step (Zcz.l1 n) t:=rfl
def Zcz.l0.step (again:(Int×Int×Int×Int×Str×Int×Bool×List Int)→Option (Int×Int×Str×Int×Bool×List Int)):(Int×Int×Int×Int×Str×Int×Bool×List Int)→Option (Int×Int×Str×Int×Bool×List Int):=fun (long,back,n,i,o,o1,o2,lens)=>
 (bif (decide (i<n)) then ((Zc4).bind fun l5Order_=>
 (need (decide (0≤i)&&decide (i<l5Order_.length)) ((ZeA 3 o o1 o2).bind fun (r12,r13,r14,r15)=>
 (need (decide (0≤(l5Order_.getD i.toNat 0))&&decide ((l5Order_.getD i.toNat 0)<lens.length)) (again (long,back,n,(w64 (i+1)),r13,r14,r15,(lens.set ((l5Order_.getD i.toNat 0).toNat) r12))))))) else
 (some (long,back,o,o1,o2,lens)))
def Zcz.l0:=ZaB Zcz.l0.step
theorem Zcz.l0.succ (n:Nat) t:Zcz.l0 (n+1) t=Zcz.l0.step (Zcz.l0 n) t:=rfl
def Zcz (s:Str) (at_:Int) (bad:Bool):Option (List Int×List Int×Str×Int×Bool):=
 ((ZeA 5 s at_ bad).bind fun (r,r1,r2,r3)=>
 ((ZeA 5 r1 r2 r3).bind fun (r4,r5,r6,r7)=>
 ((ZeA 4 r5 r6 r7).bind fun (r8,r9,r10,r11)=>
 (need (decide (0≤19)&&fits 19) ((Zcz.l0 (((w64 (4+r8))-(0:Int)).toNat+1) ((w64 (257+r)),(w64 (1+r4)),(w64 (4+r8)),0,r9,r10,r11,(List.replicate 19 (0:Int)))).bind fun (long1,back1,o3,o4,o5,lens1)=>
 (((ZaK lens1).bind fun LensOk=>
 (bif (!LensOk) then (some true) else
 (bif (decide (long1>286)) then (some true) else
 (some (decide (back1>30)))))).bind fun c=>
 (bif c then (some ([],[],o3,o4,true)) else
 ((ZaH lens1).bind fun l3Codes_=>
 ((Zcz.l1 (((w64 (long1+back1))-(([]:List Int).length:Int)).toNat+1) (long1,back1,o3,o4,o5,lens1,l3Codes_,[])).bind fun (long3,back3,o9,o10,o11,all1)=>
 ((bif o11 then (some true) else
 (bif ((all1.length:Int) != (w64 (long3+back3))) then (some true) else
 (need (decide (0≤long3)&&decide (long3≤all1.length)) ((ZaK ((all1.drop 0).take long3.toNat)).bind fun LensOk1=>
 (bif (!LensOk1) then (some true) else
 (need (decide (0≤long3)&&decide (long3≤all1.length)) ((ZaK ((all1.drop long3.toNat).take (all1.length-long3.toNat))).bind fun LensOk2=>
 (some (!LensOk2))))))))).bind fun c2=>
 (bif c2 then (some ([],[],o9,o10,true)) else
 (need (decide (0≤long3)&&decide (long3≤all1.length)) (need (decide (0≤long3)&&decide (long3≤all1.length)) (some (((all1.drop 0).take long3.toNat),((all1.drop long3.toNat).take (all1.length-long3.toNat)),o9,o10,o11)))))))))))))))
def ZhX (s:Str) (at_:Int) (bad:Bool) (text:List Int):Option (Bool×Str×Int×Bool×List Int):=
 ((ZiN s at_ bad).bind fun (r,r1,r2,r3)=>
 ((ZeA 2 r1 r2 r3).bind fun (r4,r5,r6,r7)=>
 (bif (r4==0) then ((ZbD r5 r6 r7 text).bind fun (r8,r9,r10,r11)=>
 (some ((r==1),r8,r9,r10,r11))) else
 (bif (r4==1) then ((ZcA).bind fun l5Fixed_=>
 ((ZcB).bind fun l5Fives_=>
 ((ZbN l5Fixed_ l5Fives_ r5 r6 r7 text).bind fun (r12,r13,r14,r15)=>
 (some ((r==1),r12,r13,r14,r15))))) else
 (bif (r4==2) then ((Zcz r5 r6 r7).bind fun (r16,r17,r18,r19,r20)=>
 (bif (!r20) then ((ZbN r16 r17 r18 r19 r20 text).bind fun (r21,r22,r23,r24)=>
 (some ((r==1),r21,r22,r23,r24))) else
 (some ((r==1),r18,r19,r20,text)))) else
 (some ((r==1),r5,r6,true,text)))))))
def Zd0.l0.step (again:(Bool×Str×Int×Bool×List Int)→Option (Str×Int×Bool×List Int)):(Bool×Str×Int×Bool×List Int)→Option (Str×Int×Bool×List Int):=fun (last,o,o1,o2,out)=>
 ((bif (!last) then (some (!o2)) else
 (some false)).bind fun c=>
 (bif c then ((ZhX o o1 o2 out).bind fun (r,r1,r2,r3,r4)=>
 (again (r,r1,r2,r3,r4))) else
 (some (o,o1,o2,out))))
def Zd0.l0:=ZaB Zd0.l0.step
theorem Zd0.l0.succ (n:Nat) t:Zd0.l0 (n+1) t=Zd0.l0.step (Zd0.l0 n) t:=rfl
def Zd0 (text:Str):Option (Str×Int×Bool):=
 ((Zd0.l0 (100000) (false,text,0,false,[])).bind fun (o3,o4,o5,out1)=>
 ((Zct o3 o4 o5).bind fun (r5,r6,r7,r8)=>
 ((bif r8 then (some true) else
 (bif (!r5) then (some true) else
 (some (decide ((out1.length:Int)>300))))).bind fun c1=>
 (bif c1 then (some ([],0,false)) else
 (some ((ZbM out1),(w64 (r7.tdiv 8)),true))))))
def Zbl (text:Str):Option (Str×Int×Bool):=
 (bif (decide ((text.length:Int)>700)) then (some ([],0,false)) else
 ((Zd0 text).bind fun (r,r1,r2)=>
 (some (r,r1,r2))))
def ZfT (year:Int) (month:Int):Option (Int):=
 (((bif (month==4) then (some (year,month,(month==4))) else
 (bif (month==6) then (some (year,month,(month==6))) else
 (bif (month==9) then (some (year,month,(month==9))) else
 (some (year,month,(month==11)))))):Option (Int×Int×Bool)).bind fun (year1,t,t1)=>
 (bif t1 then (some 30) else
 (bif (t==2) then ((bif ((year1.tmod 4)==0) then (bif ((year1.tmod 100) != 0) then (some true) else
 (some ((year1.tmod 400)==0))) else
 (some false)).bind fun c=>
 (bif c then (some 29) else
 (some 28))) else
 (some 31))))
def ZbH (y:Int) (mo:Int) (d:Int) (h:Int) (mi:Int) (sec:Int):Option (Bool):=
 (((ZgA y 1980 2107).bind fun l1In_=>
 (bif l1In_ then ((ZgA mo 1 12).bind fun l1In_1=>
 (bif l1In_1 then ((ZfT y mo).bind fun l6Days_=>
 ((ZgA d 1 l6Days_).bind fun l1In_2=>
 (some l1In_2))) else
 (some false))) else
 (some false))).bind fun day=>
 ((bif day then ((ZgA h 0 23).bind fun l1In_3=>
 (bif l1In_3 then ((ZgA mi 0 59).bind fun l1In_4=>
 (bif l1In_4 then ((ZgA sec 0 58).bind fun l1In_5=>
 (bif l1In_5 then (some ((sec.tmod 2)==0)) else
 (some false))) else
 (some false))) else
 (some false))) else
 (some false)).bind fun c=>
 (some c)))
def Zh9 (y:Int) (mo:Int) (d:Int) (h:Int) (mi:Int) (sec:Int):Option (Int):=
 (some (w64 ((w64 ((w64 ((w64 ((w64 ((w64 ((w64 ((w64 ((w64 ((w64 ((w64 (y-1980))*16))+mo))*32))+d))*32))+h))*64))+mi))*32))+(w64 (sec.tdiv 2)))))
def Zia (n:Int):Option (Int×Int×Int×Int×Int×Int):=
 (some ((w64 ((w64 ((w64 ((w64 ((w64 ((w64 (n.tdiv 32)).tdiv 64)).tdiv 32)).tdiv 32)).tdiv 16))+1980)),((w64 ((w64 ((w64 ((w64 (n.tdiv 32)).tdiv 64)).tdiv 32)).tdiv 32)).tmod 16),((w64 ((w64 ((w64 (n.tdiv 32)).tdiv 64)).tdiv 32)).tmod 32),((w64 ((w64 (n.tdiv 32)).tdiv 64)).tmod 32),((w64 (n.tdiv 32)).tmod 64),(w64 (2*(n.tmod 32)))))
def ZaX (name:Str) (y:Int) (mo:Int) (d:Int) (h:Int) (mi:Int) (sec:Int) (text:Str):Option (Bool):=
 (((Zar name).bind fun NameOk=>
 (bif NameOk then ((ZbH y mo d h mi sec).bind fun StampOk=>
 (bif StampOk then (some (decide ((text.length:Int)≤300))) else
 (some false))) else
 (some false))).bind fun c=>
 (some c))
def Zau.l0.step (again:(Int×Int×Int×List Int)→Option (List Int)):(Int×Int×Int×List Int)→Option (List Int):=fun (n1,many1,i,out)=>
 (bif (decide (i<many1)) then (need (fits (out.length+([(IntKind.wrap .u8 (n1.tmod 256))]:List (Int)).length)) (again ((w64 (n1.tdiv 256)),many1,(w64 (i+1)),(out++[(IntKind.wrap .u8 (n1.tmod 256))])))) else
 (some out))
def Zau.l0:=ZaB Zau.l0.step
theorem Zau.l0.succ (n:Nat) t:Zau.l0 (n+1) t=Zau.l0.step (Zau.l0 n) t:=rfl
def Zau (n:Int) (many:Int):Option (Str):=
 ((Zau.l0 ((many-(0:Int)).toNat+1) (n,many,0,[])).bind fun out1=>
 (some (ZbM out1)))
def ZbR.l0.step (again:(Str×Int×Int×Int)→Option (Int)):(Str×Int×Int×Int)→Option (Int):=fun (s1,at_1,n,i)=>
 (bif (decide (i≥0)) then (need (decide (0≤(w64 (at_1+i)))&&decide ((w64 (at_1+i))<s1.length)) (again (s1,at_1,(w64 ((w64 (256*n))+(w64 ((s1.getD (w64 (at_1+i)).toNat 0).toNat:Int)))),(w64 (i-1))))) else
 (some n))
def ZbR.l0:=ZaB ZbR.l0.step
theorem ZbR.l0.succ (n:Nat) t:ZbR.l0 (n+1) t=ZbR.l0.step (ZbR.l0 n) t:=rfl
def ZbR (s:Str) (at_:Int) (many:Int):Option (Int):=
 ((bif (decide (at_<0)) then (some true) else
 (some (decide ((w64 (at_+many))>(s.length:Int))))).bind fun c=>
 (bif c then (some (-1)) else
 ((ZbR.l0 (((w64 (many-1))-0).toNat+2) (s,at_,0,(w64 (many-1)))).bind fun n1=>
 (some n1))))
def Zgz (text:Str):Option (Int×Str):=
 ((Zao text).bind fun FlatePut=>
 (bif (decide ((FlatePut.length:Int)<(text.length:Int))) then (some (8,FlatePut)) else
 (some (0,text))))
def Zco (name:Str) (y:Int) (mo:Int) (d:Int) (h:Int) (mi:Int) (sec:Int) (text:Str):Option (Str):=
 ((Zgz text).bind fun (r,r1)=>
 ((Zau 20 2).bind fun l6Bytes_=>
 ((Zau 0 2).bind fun l6Bytes_1=>
 (need (fits (l6Bytes_.length+l6Bytes_1.length)) ((Zau r 2).bind fun l6Bytes_2=>
 (need (fits ((l6Bytes_++l6Bytes_1).length+l6Bytes_2.length)) ((Zh9 y mo d h mi sec).bind fun l6Put_=>
 ((Zau l6Put_ 4).bind fun l6Bytes_3=>
 (need (fits (((l6Bytes_++l6Bytes_1)++l6Bytes_2).length+l6Bytes_3.length)) ((Zc3 text).bind fun Crc=>
 ((Zau Crc 4).bind fun l6Bytes_4=>
 (need (fits ((((l6Bytes_++l6Bytes_1)++l6Bytes_2)++l6Bytes_3).length+l6Bytes_4.length)) ((Zau (r1.length:Int) 4).bind fun l6Bytes_5=>
 (need (fits (((((l6Bytes_++l6Bytes_1)++l6Bytes_2)++l6Bytes_3)++l6Bytes_4).length+l6Bytes_5.length)) ((Zau (text.length:Int) 4).bind fun l6Bytes_6=>
 (need (fits ((((((l6Bytes_++l6Bytes_1)++l6Bytes_2)++l6Bytes_3)++l6Bytes_4)++l6Bytes_5).length+l6Bytes_6.length)) ((Zau (name.length:Int) 2).bind fun l6Bytes_7=>
 (need (fits (((((((l6Bytes_++l6Bytes_1)++l6Bytes_2)++l6Bytes_3)++l6Bytes_4)++l6Bytes_5)++l6Bytes_6).length+l6Bytes_7.length)) ((Zau 0 2).bind fun l6Bytes_8=>
 (need (fits ((((((((l6Bytes_++l6Bytes_1)++l6Bytes_2)++l6Bytes_3)++l6Bytes_4)++l6Bytes_5)++l6Bytes_6)++l6Bytes_7).length+l6Bytes_8.length)) (some ((((((((l6Bytes_++l6Bytes_1)++l6Bytes_2)++l6Bytes_3)++l6Bytes_4)++l6Bytes_5)++l6Bytes_6)++l6Bytes_7)++l6Bytes_8))))))))))))))))))))))
def ZdR (name:Str) (y:Int) (mo:Int) (d:Int) (h:Int) (mi:Int) (sec:Int) (text:Str):Option (Str):=
 ((Zgz text).bind fun (r,r1)=>
 ((Zau 67324752 4).bind fun l6Bytes_=>
 ((Zco name y mo d h mi sec text).bind fun l6Fields_=>
 (need (fits (l6Bytes_.length+l6Fields_.length)) (need (fits ((l6Bytes_++l6Fields_).length+name.length)) (need (fits (((l6Bytes_++l6Fields_)++name).length+r1.length)) (some (((l6Bytes_++l6Fields_)++name)++r1))))))))
def Zfo (how:Int) (packed:Str):Option (Str×Bool):=
 (bif (how==0) then (some (packed,true)) else
 ((Zbl packed).bind fun (r,r1,r2)=>
 ((bif r2 then (bif (how==8) then (some (r,(r1==(packed.length:Int)))) else
 (some (r,false))) else
 (some (r,false))).bind fun (c,c1)=>
 (some (c,c1)))))
def Zd4 (text:Str):Option (Str×Int×Int×Int×Int×Int×Int×Str×Int×Bool):=
 ((ZbR text 26 2).bind fun l6Num_=>
 ((ZbR text 18 4).bind fun l6Num_1=>
 (((ZbR text 0 4).bind fun l6Num_2=>
 (bif (l6Num_2==67324752) then ((ZbR text 4 2).bind fun l6Num_3=>
 (bif (l6Num_3==20) then ((ZbR text 6 2).bind fun l6Num_4=>
 (bif (l6Num_4==0) then ((ZbR text 28 2).bind fun l6Num_5=>
 (some (l6Num_5==0))) else
 (some false))) else
 (some false))) else
 (some false))).bind fun head=>
 ((bif (!head) then (some true) else
 (bif (decide (l6Num_<0)) then (some true) else
 (bif (decide (l6Num_1<0)) then (some true) else
 (some (decide ((w64 ((w64 (30+l6Num_))+l6Num_1))>(text.length:Int))))))).bind fun c=>
 (bif c then (some ([],0,0,0,0,0,0,[],0,false)) else
 (need (decide (0≤(w64 (30+l6Num_)))&&decide ((w64 (30+l6Num_))≤text.length)) (need (decide (0≤(30:Int))&&decide ((30:Int)≤(w64 (30+l6Num_)))) ((ZbR text 10 4).bind fun l6Num_6=>
 ((Zia l6Num_6).bind fun (r,r1,r2,r3,r4,r5)=>
 ((ZbR text 8 2).bind fun l6Num_7=>
 (need (decide (0≤(w64 ((w64 (30+l6Num_))+l6Num_1)))&&decide ((w64 ((w64 (30+l6Num_))+l6Num_1))≤text.length)) (need (decide (0≤(w64 (30+l6Num_)))&&decide ((w64 (30+l6Num_))≤(w64 ((w64 (30+l6Num_))+l6Num_1)))) ((Zfo l6Num_7 ((text.take (w64 ((w64 (30+l6Num_))+l6Num_1)).toNat).drop (w64 (30+l6Num_)).toNat)).bind fun (r6,r7)=>
 ((bif r7 then ((ZbR text 14 4).bind fun l6Num_8=>
 ((Zc3 r6).bind fun Crc=>
 (bif (l6Num_8==Crc) then ((ZbR text 22 4).bind fun l6Num_9=>
 (some (l6Num_9==(r6.length:Int)))) else
 (some false)))) else
 (some false)).bind fun ok=>
 (bif ok then ((ZaX ((text.take (w64 (30+l6Num_)).toNat).drop 30) r r1 r2 r3 r4 r5 r6).bind fun EntryOk=>
 (some (((text.take (w64 (30+l6Num_)).toNat).drop 30),r,r1,r2,r3,r4,r5,r6,(w64 ((w64 (30+l6Num_))+l6Num_1)),EntryOk))) else
 (some (((text.take (w64 (30+l6Num_)).toNat).drop 30),r,r1,r2,r3,r4,r5,r6,(w64 ((w64 (30+l6Num_))+l6Num_1)),false)))))))))))))))))
def Zi3.l0.step (again:((List (Str×Int×Int×Int×Int×Int×Int×Str))×Str×Int)→Option ((Unit)⊕(Int))):((List (Str×Int×Int×Int×Int×Int×Int×Str))×Str×Int)→Option ((Unit)⊕(Int)):=fun (list1,name1,i)=>
 (bif (decide (i<(list1.length:Int))) then (need (decide (0≤i)&&decide (i<list1.length)) (bif ((list1.getD i.toNat ([],0,0,0,0,0,0,[])).1==name1) then ((some i).map Sum.inr) else
 (again (list1,name1,(w64 (i+1)))))) else
 (some (.inl ())))
def Zi3.l0:=ZaB Zi3.l0.step
theorem Zi3.l0.succ (n:Nat) t:Zi3.l0 (n+1) t=Zi3.l0.step (Zi3.l0 n) t:=rfl
def Zi3 (list:List (Str×Int×Int×Int×Int×Int×Int×Str)) (name:Str):Option (Int):=
 ((Zi3.l0 (((list.length:Int)-(0:Int)).toNat+1) (list,name,0)).bind fun r=>match r with
 | .inl _=>(some (-1))
 | .inr r=>some r)
def ZaA.l0.step (again:((List (Str×Int×Int×Int×Int×Int×Int×Str))×Int×Int)→Option (((List (Str×Int×Int×Int×Int×Int×Int×Str))×Int)⊕((List (Str×Int×Int×Int×Int×Int×Int×Str))⊕(Bool)))):((List (Str×Int×Int×Int×Int×Int×Int×Str))×Int×Int)→Option (((List (Str×Int×Int×Int×Int×Int×Int×Str))×Int)⊕((List (Str×Int×Int×Int×Int×Int×Int×Str))⊕(Bool))):=fun (list2,i1,k)=>
 (bif (decide (k<(list2.length:Int))) then (need (decide (0≤i1)&&decide (i1<list2.length)) (need (decide (0≤k)&&decide (k<list2.length)) ((ZcW ((list2.getD i1.toNat ([],0,0,0,0,0,0,[])).1) ((list2.getD k.toNat ([],0,0,0,0,0,0,[])).1)).bind fun l7Under_=>
 (bif l7Under_ then (((some false).map Sum.inr).map Sum.inr) else
 (again (list2,i1,(w64 (k+1)))))))) else
 (some (.inl (list2,i1))))
def ZaA.l0:=ZaB ZaA.l0.step
theorem ZaA.l0.succ (n:Nat) t:ZaA.l0 (n+1) t=ZaA.l0.step (ZaA.l0 n) t:=rfl
def ZaA.l1.step (again:((List (Str×Int×Int×Int×Int×Int×Int×Str))×Int)→Option ((List (Str×Int×Int×Int×Int×Int×Int×Str))⊕(Bool))):((List (Str×Int×Int×Int×Int×Int×Int×Str))×Int)→Option ((List (Str×Int×Int×Int×Int×Int×Int×Str))⊕(Bool)):=fun (list1,i)=>
 (bif (decide (i<(list1.length:Int))) then ((need (decide (0≤i)&&decide (i<list1.length)) ((ZaX ((list1.getD i.toNat ([],0,0,0,0,0,0,[])).1) ((list1.getD i.toNat ([],0,0,0,0,0,0,[])).2.1) ((list1.getD i.toNat ([],0,0,0,0,0,0,[])).2.2.1) ((list1.getD i.toNat ([],0,0,0,0,0,0,[])).2.2.2.1) ((list1.getD i.toNat ([],0,0,0,0,0,0,[])).2.2.2.2.1) ((list1.getD i.toNat ([],0,0,0,0,0,0,[])).2.2.2.2.2.1) ((list1.getD i.toNat ([],0,0,0,0,0,0,[])).2.2.2.2.2.2.1) ((list1.getD i.toNat ([],0,0,0,0,0,0,[])).2.2.2.2.2.2.2)).bind fun EntryOk=>
 (bif (!EntryOk) then (some true) else
 (need (decide (0≤i)&&decide (i<list1.length)) ((Zi3 list1 ((list1.getD i.toNat ([],0,0,0,0,0,0,[])).1)).bind fun l7At_=>
 (some (l7At_ != i))))))).bind fun c=>
 (bif c then ((some false).map Sum.inr) else
 ((ZaA.l0 (((list1.length:Int)-(0:Int)).toNat+1) (list1,i,0)).bind fun r=>match r with
 | .inl (list3,i2)=>(again (list3,(w64 (i2+1))))
 | .inr r=>some r))) else
 (some (.inl list1)))
def ZaA.l1:=ZaB ZaA.l1.step
theorem ZaA.l1.succ (n:Nat) t:ZaA.l1 (n+1) t=ZaA.l1.step (ZaA.l1 n) t:=rfl
def ZaA (list:List (Str×Int×Int×Int×Int×Int×Int×Str)):Option (Bool):=
 ((ZaA.l1 (((list.length:Int)-(0:Int)).toNat+1) (list,0)).bind fun r=>match r with
 | .inl list4=>(some (decide ((list4.length:Int)≤6)))
 | .inr r=>some r)
def Zcu (name:Str) (y:Int) (mo:Int) (d:Int) (h:Int) (mi:Int) (sec:Int) (text:Str) (at_:Int):Option (Str):=
 ((Zau 33639248 4).bind fun l6Bytes_=>
 ((Zau 20 2).bind fun l6Bytes_1=>
 (need (fits (l6Bytes_.length+l6Bytes_1.length)) ((Zco name y mo d h mi sec text).bind fun l6Fields_=>
 (need (fits ((l6Bytes_++l6Bytes_1).length+l6Fields_.length)) ((Zau 0 2).bind fun l6Bytes_2=>
 (need (fits (((l6Bytes_++l6Bytes_1)++l6Fields_).length+l6Bytes_2.length)) ((Zau 0 2).bind fun l6Bytes_3=>
 (need (fits ((((l6Bytes_++l6Bytes_1)++l6Fields_)++l6Bytes_2).length+l6Bytes_3.length)) ((Zau 0 2).bind fun l6Bytes_4=>
 (need (fits (((((l6Bytes_++l6Bytes_1)++l6Fields_)++l6Bytes_2)++l6Bytes_3).length+l6Bytes_4.length)) ((Zau 0 4).bind fun l6Bytes_5=>
 (need (fits ((((((l6Bytes_++l6Bytes_1)++l6Fields_)++l6Bytes_2)++l6Bytes_3)++l6Bytes_4).length+l6Bytes_5.length)) ((Zau at_ 4).bind fun l6Bytes_6=>
 (need (fits (((((((l6Bytes_++l6Bytes_1)++l6Fields_)++l6Bytes_2)++l6Bytes_3)++l6Bytes_4)++l6Bytes_5).length+l6Bytes_6.length)) (need (fits ((((((((l6Bytes_++l6Bytes_1)++l6Fields_)++l6Bytes_2)++l6Bytes_3)++l6Bytes_4)++l6Bytes_5)++l6Bytes_6).length+name.length)) (some ((((((((l6Bytes_++l6Bytes_1)++l6Fields_)++l6Bytes_2)++l6Bytes_3)++l6Bytes_4)++l6Bytes_5)++l6Bytes_6)++name))))))))))))))))))
def Zgy (many:Int) (long:Int) (at_:Int):Option (Str):=
 ((Zau 101010256 4).bind fun l6Bytes_=>
 ((Zau 0 2).bind fun l6Bytes_1=>
 (need (fits (l6Bytes_.length+l6Bytes_1.length)) ((Zau 0 2).bind fun l6Bytes_2=>
 (need (fits ((l6Bytes_++l6Bytes_1).length+l6Bytes_2.length)) ((Zau many 2).bind fun l6Bytes_3=>
 (need (fits (((l6Bytes_++l6Bytes_1)++l6Bytes_2).length+l6Bytes_3.length)) ((Zau many 2).bind fun l6Bytes_4=>
 (need (fits ((((l6Bytes_++l6Bytes_1)++l6Bytes_2)++l6Bytes_3).length+l6Bytes_4.length)) ((Zau long 4).bind fun l6Bytes_5=>
 (need (fits (((((l6Bytes_++l6Bytes_1)++l6Bytes_2)++l6Bytes_3)++l6Bytes_4).length+l6Bytes_5.length)) ((Zau at_ 4).bind fun l6Bytes_6=>
 (need (fits ((((((l6Bytes_++l6Bytes_1)++l6Bytes_2)++l6Bytes_3)++l6Bytes_4)++l6Bytes_5).length+l6Bytes_6.length)) ((Zau 0 2).bind fun l6Bytes_7=>
 (need (fits (((((((l6Bytes_++l6Bytes_1)++l6Bytes_2)++l6Bytes_3)++l6Bytes_4)++l6Bytes_5)++l6Bytes_6).length+l6Bytes_7.length)) (some (((((((l6Bytes_++l6Bytes_1)++l6Bytes_2)++l6Bytes_3)++l6Bytes_4)++l6Bytes_5)++l6Bytes_6)++l6Bytes_7)))))))))))))))))
def Zed.l0.step (again:((List (Str×Int×Int×Int×Int×Int×Int×Str))×Str×Str×Int)→Option ((List (Str×Int×Int×Int×Int×Int×Int×Str))×Str×Str)):((List (Str×Int×Int×Int×Int×Int×Int×Str))×Str×Str×Int)→Option ((List (Str×Int×Int×Int×Int×Int×Int×Str))×Str×Str):=fun (list1,out,heads,i)=>
 (bif (decide (i<(list1.length:Int))) then (need (decide (0≤i)&&decide (i<list1.length)) ((Zcu ((list1.getD i.toNat ([],0,0,0,0,0,0,[])).1) ((list1.getD i.toNat ([],0,0,0,0,0,0,[])).2.1) ((list1.getD i.toNat ([],0,0,0,0,0,0,[])).2.2.1) ((list1.getD i.toNat ([],0,0,0,0,0,0,[])).2.2.2.1) ((list1.getD i.toNat ([],0,0,0,0,0,0,[])).2.2.2.2.1) ((list1.getD i.toNat ([],0,0,0,0,0,0,[])).2.2.2.2.2.1) ((list1.getD i.toNat ([],0,0,0,0,0,0,[])).2.2.2.2.2.2.1) ((list1.getD i.toNat ([],0,0,0,0,0,0,[])).2.2.2.2.2.2.2) (out.length:Int)).bind fun l7Centra=>
 (need (fits (heads.length+l7Centra.length)) (need (decide (0≤i)&&decide (i<list1.length)) ((ZdR ((list1.getD i.toNat ([],0,0,0,0,0,0,[])).1) ((list1.getD i.toNat ([],0,0,0,0,0,0,[])).2.1) ((list1.getD i.toNat ([],0,0,0,0,0,0,[])).2.2.1) ((list1.getD i.toNat ([],0,0,0,0,0,0,[])).2.2.2.1) ((list1.getD i.toNat ([],0,0,0,0,0,0,[])).2.2.2.2.1) ((list1.getD i.toNat ([],0,0,0,0,0,0,[])).2.2.2.2.2.1) ((list1.getD i.toNat ([],0,0,0,0,0,0,[])).2.2.2.2.2.2.1) ((list1.getD i.toNat ([],0,0,0,0,0,0,[])).2.2.2.2.2.2.2)).bind fun l6Local_=>
 (need (fits (out.length+l6Local_.length)) (again (list1,(out++l6Local_),(heads++l7Centra),(w64 (i+1)))))))))) else
 (some (list1,out,heads)))
def Zed.l0:=ZaB Zed.l0.step
theorem Zed.l0.succ (n:Nat) t:Zed.l0 (n+1) t=Zed.l0.step (Zed.l0 n) t:=rfl
def Zed (list:List (Str×Int×Int×Int×Int×Int×Int×Str)):Option (Str):=
 ((Zed.l0 (((list.length:Int)-(0:Int)).toNat+1) (list,[],[],0)).bind fun (list2,out1,heads1)=>
 (need (fits (out1.length+heads1.length)) ((Zgy (list2.length:Int) (heads1.length:Int) (out1.length:Int)).bind fun l7End_=>
 (need (fits ((out1++heads1).length+l7End_.length)) (some ((out1++heads1)++l7End_))))))
def Zet.l0.step (again:(Str×Int×Int×Int×List (Str×Int×Int×Int×Int×Int×Int×Str))→Option ((Int×List (Str×Int×Int×Int×Int×Int×Int×Str))⊕(Int×Bool×List (Str×Int×Int×Int×Int×Int×Int×Str)))):(Str×Int×Int×Int×List (Str×Int×Int×Int×Int×Int×Int×Str))→Option ((Int×List (Str×Int×Int×Int×Int×Int×Int×Str))⊕(Int×Bool×List (Str×Int×Int×Int×Int×Int×Int×Str))):=fun (text1,many1,at_,i,out)=>
 (bif (decide (i<many1)) then (need (decide (0≤at_)&&decide (at_≤text1.length)) ((Zd4 (text1.drop at_.toNat)).bind fun (r,r1,r2,r3,r4,r5,r6,r7,r8,r9)=>
 (bif (!r9) then ((some (at_,false,out)).map Sum.inr) else
 (need (fits (out.length+([(r,r1,r2,r3,r4,r5,r6,r7)]:List (Str×Int×Int×Int×Int×Int×Int×Str)).length)) (again (text1,many1,(w64 (at_+r8)),(w64 (i+1)),(out++[(r,r1,r2,r3,r4,r5,r6,r7)]))))))) else
 (some (.inl (at_,out))))
def Zet.l0:=ZaB Zet.l0.step
theorem Zet.l0.succ (n:Nat) t:Zet.l0 (n+1) t=Zet.l0.step (Zet.l0 n) t:=rfl
def Zet (text:Str) (many:Int):Option (Int×Bool×List (Str×Int×Int×Int×Int×Int×Int×Str)):=
 ((Zet.l0 ((many-(0:Int)).toNat+1) (text,many,0,0,[])).bind fun r=>match r with
 | .inl (at_1,out1)=>(some (at_1,true,out1))
 | .inr r=>some r)
def Zfn (text:Str) (head:Int) (at_:Int):Option (Int×Bool):=
 ((ZbR text (w64 (head+28)) 2).bind fun l6Num_=>
 ((bif (decide (l6Num_<0)) then (some true) else
 (bif (decide ((w64 (head+(w64 (46+l6Num_))))>(text.length:Int))) then (some true) else
 (some (decide ((w64 ((w64 (at_+30))+l6Num_))>(text.length:Int)))))).bind fun c=>
 (bif c then (some (0,false)) else
 ((need (decide (0≤(w64 (head+32)))&&decide ((w64 (head+32))≤text.length)) (need (decide (0≤(w64 (head+6)))&&decide ((w64 (head+6))≤(w64 (head+32)))) (need (decide (0≤(w64 (at_+30)))&&decide ((w64 (at_+30))≤text.length)) (need (decide (0≤(w64 (at_+4)))&&decide ((w64 (at_+4))≤(w64 (at_+30)))) (bif (((text.take (w64 (head+32)).toNat).drop (w64 (head+6)).toNat)==((text.take (w64 (at_+30)).toNat).drop (w64 (at_+4)).toNat)) then (need (decide (0≤(w64 (head+(w64 (46+l6Num_)))))&&decide ((w64 (head+(w64 (46+l6Num_))))≤text.length)) (need (decide (0≤(w64 (head+46)))&&decide ((w64 (head+46))≤(w64 (head+(w64 (46+l6Num_)))))) (need (decide (0≤(w64 ((w64 (at_+30))+l6Num_)))&&decide ((w64 ((w64 (at_+30))+l6Num_))≤text.length)) (need (decide (0≤(w64 (at_+30)))&&decide ((w64 (at_+30))≤(w64 ((w64 (at_+30))+l6Num_)))) (some (((text.take (w64 (head+(w64 (46+l6Num_)))).toNat).drop (w64 (head+46)).toNat)==((text.take (w64 ((w64 (at_+30))+l6Num_)).toNat).drop (w64 (at_+30)).toNat))))))) else
 (some false)))))).bind fun same=>
 ((need (decide (0≤(w64 (head+6)))&&decide ((w64 (head+6))≤text.length)) (need (decide (0≤head)&&decide (head≤(w64 (head+6)))) ((Zau 33639248 4).bind fun l6Bytes_=>
 ((Zau 20 2).bind fun l6Bytes_1=>
 (need (fits (l6Bytes_.length+l6Bytes_1.length)) (bif (((text.take (w64 (head+6)).toNat).drop head.toNat)==(l6Bytes_++l6Bytes_1)) then (need (decide (0≤(w64 (head+46)))&&decide ((w64 (head+46))≤text.length)) (need (decide (0≤(w64 (head+32)))&&decide ((w64 (head+32))≤(w64 (head+46)))) ((Zau 0 10).bind fun l6Bytes_2=>
 ((Zau at_ 4).bind fun l6Bytes_3=>
 (need (fits (l6Bytes_2.length+l6Bytes_3.length)) (some (((text.take (w64 (head+46)).toNat).drop (w64 (head+32)).toNat)==(l6Bytes_2++l6Bytes_3)))))))) else
 (some false))))))).bind fun rest=>
 ((bif same then (some ((w64 (46+l6Num_)),rest)) else
 (some ((w64 (46+l6Num_)),false))).bind fun (c1,c2)=>
 (some (c1,c2))))))))
def ZaS.l0.step (again:(Str×Int×Int×Int×Int×Int×List (Str×Int×Int×Int×Int×Int×Int×Str))→Option ((Str×Int×Int×Int×List (Str×Int×Int×Int×Int×Int×Int×Str))⊕(Bool×List (Str×Int×Int×Int×Int×Int×Int×Str)))):(Str×Int×Int×Int×Int×Int×List (Str×Int×Int×Int×Int×Int×Int×Str))→Option ((Str×Int×Int×Int×List (Str×Int×Int×Int×Int×Int×Int×Str))⊕(Bool×List (Str×Int×Int×Int×Int×Int×Int×Str))):=fun (text1,many,at_,head,own,i,list)=>
 (bif (decide (i<many)) then ((Zfn text1 head own).bind fun (r3,r4)=>
 (bif (!r4) then ((some (false,[])).map Sum.inr) else
 (need (decide (0≤own)&&decide (own≤text1.length)) ((Zd4 (text1.drop own.toNat)).bind fun (r5,r6,r7,r8,r9,r10,r11,r12,r13,r14)=>
 (again (text1,many,at_,(w64 (head+r3)),(w64 (own+r13)),(w64 (i+1)),list)))))) else
 (some (.inl (text1,many,at_,head,list))))
def ZaS.l0:=ZaB ZaS.l0.step
theorem ZaS.l0.succ (n:Nat) t:ZaS.l0 (n+1) t=ZaS.l0.step (ZaS.l0 n) t:=rfl
def ZaS (text:Str):Option (Bool×List (Str×Int×Int×Int×Int×Int×Int×Str)):=
 ((ZbR text (w64 ((text.length:Int)-12)) 2).bind fun l6Num_=>
 ((ZgA l6Num_ 0 6).bind fun l1In_=>
 (bif (!l1In_) then (some (false,[])) else
 ((Zet text l6Num_).bind fun (r,r1,r2)=>
 ((bif (!r1) then (some true) else
 ((ZaA r2).bind fun ZipOk=>
 (some (!ZipOk)))).bind fun c=>
 (bif c then (some (false,[])) else
 ((ZaS.l0 ((l6Num_-(0:Int)).toNat+1) (text,l6Num_,r,r,0,0,r2)).bind fun r=>match r with
 | .inl (text2,many1,at_1,head1,list1)=>(need (decide (0≤head1)&&decide (head1≤text2.length)) ((Zgy many1 (w64 (head1-at_1)) at_1).bind fun l7End_=>
 (bif (!((text2.drop head1.toNat)==l7End_)) then (some (false,[])) else
 (some (true,list1)))))
 | .inr r=>some r)))))))
def ZbU.l0.step (again:((List (Str×Int×Int×Int×Int×Int×Int×Str))×Str×Int)→Option ((Unit)⊕(Bool))):((List (Str×Int×Int×Int×Int×Int×Int×Str))×Str×Int)→Option ((Unit)⊕(Bool)):=fun (list1,name1,i)=>
 (bif (decide (i<(list1.length:Int))) then ((need (decide (0≤i)&&decide (i<list1.length)) (bif ((list1.getD i.toNat ([],0,0,0,0,0,0,[])).1==name1) then (some true) else
 (need (decide (0≤i)&&decide (i<list1.length)) ((ZcW ((list1.getD i.toNat ([],0,0,0,0,0,0,[])).1) name1).bind fun l7Under_=>
 (bif l7Under_ then (some true) else
 (need (decide (0≤i)&&decide (i<list1.length)) ((ZcW name1 ((list1.getD i.toNat ([],0,0,0,0,0,0,[])).1)).bind fun l7Under_1=>
 (some l7Under_1)))))))).bind fun c=>
 (bif c then ((some true).map Sum.inr) else
 (again (list1,name1,(w64 (i+1)))))) else
 (some (.inl ())))
def ZbU.l0:=ZaB ZbU.l0.step
theorem ZbU.l0.succ (n:Nat) t:ZbU.l0 (n+1) t=ZbU.l0.step (ZbU.l0 n) t:=rfl
def ZbU (list:List (Str×Int×Int×Int×Int×Int×Int×Str)) (name:Str):Option (Bool):=
 ((ZbU.l0 (((list.length:Int)-(0:Int)).toNat+1) (list,name,0)).bind fun r=>match r with
 | .inl _=>(some false)
 | .inr r=>some r)
def Zh8 (name:Str) (y:Int) (mo:Int) (d:Int) (h:Int) (mi:Int) (sec:Int) (text:Str) (list:List (Str×Int×Int×Int×Int×Int×Int×Str)):Option (Int×List (Str×Int×Int×Int×Int×Int×Int×Str)):=
 ((ZaX name y mo d h mi sec text).bind fun EntryOk=>
 (bif (!EntryOk) then (some (1,list)) else
 ((ZbU list name).bind fun l8Clash_=>
 (bif l8Clash_ then (some (3,list)) else
 (bif (decide ((list.length:Int)≥6)) then (some (4,list)) else
 (need (fits (([]:List (Str×Int×Int×Int×Int×Int×Int×Str)).length+list.length)) (need (fits (([]++list).length+([(name,y,mo,d,h,mi,sec,text)]:List (Str×Int×Int×Int×Int×Int×Int×Str)).length)) (some (0,(([]++list)++[(name,y,mo,d,h,mi,sec,text)]))))))))))
def Zgx (text:Str):Option (Bool):=
 ((ZaS text).bind fun (r,r1)=>
 (some r))
def Zb2 (text:Str) (log:Str):Option (Bool):=
 (((Zgx text).bind fun l9Zip_=>
 (bif l9Zip_ then (some (log==[])) else
 (some false))).bind fun c=>
 (some c))
def Zh7 (text:Str):Option (Str):=
 ((Zev (text.length:Int)).bind fun l1Dec_=>
 (need (fits (l1Dec_.length+([10]:Str).length)) (need (fits ((l1Dec_++[10]).length+text.length)) (some ((l1Dec_++[10])++text)))))
def Zbu (dtext:Str) (dlog:Str) (text:Str) (bytes:Int):Option (Str×Str):=
 (((Zb2 dtext dlog).bind fun DiskOk=>
 (bif (!DiskOk) then (some true) else
 ((Zgx text).bind fun l9Zip_=>
 (some (!l9Zip_))))).bind fun c=>
 (bif c then (some ([],[])) else
 ((Zh7 text).bind fun l9Log_=>
 (((bif (decide (bytes<0)) then (some (0,l9Log_,dtext,dlog,[],[])) else
 (some (bytes,l9Log_,dtext,dlog,[],[]))):Option (Int×Str×Str×Str×Str×Str)).bind fun (bytes1,s,o,o1,o2,o3)=>
 (bif (decide (bytes1>(s.length:Int))) then (need (decide (0≤(s.length:Int))&&decide ((s.length:Int)≤s.length)) (some (o,(s.take (s.length:Int).toNat)))) else
 (need (decide (0≤bytes1)&&decide (bytes1≤s.length)) (some (o,(s.take bytes1.toNat)))))))))
def Zfp (code_:List Int):Option (List Int×Int):=
 (bif (decide ((code_.length:Int)>2000)) then (need (decide (0≤(2000:Int))&&decide ((2000:Int)≤code_.length)) (some ((code_.take 2000),0))) else
 (some (code_,0)))
def pick (n:Int) (b:List Int) (p:Int):Option (Int×List Int×Int):=
 ((bif (decide (n<1)) then (some true) else
 (some ((b.length:Int)==0))).bind fun c=>
 (bif c then (some (0,b,(w64 (p+1)))) else
 (bif (decide ((w64 ((w64 (p+1))-1))<(b.length:Int))) then (need (decide (0≤(w64 ((w64 (p+1))-1)))&&decide ((w64 ((w64 (p+1))-1))<b.length)) (need (n != 0) (some (((w64 (b.getD (w64 ((w64 (p+1))-1)).toNat 0)).tmod n),b,(w64 (p+1)))))) else
 (need ((b.length:Int) != 0) (need (decide (0≤((w64 ((w64 (p+1))-1)).tmod (b.length:Int)))&&decide (((w64 ((w64 (p+1))-1)).tmod (b.length:Int))<b.length)) (need ((b.length:Int) != 0) (need (decide (0≤((w64 ((w64 ((w64 ((w64 (p+1))-1))*7))+3)).tmod (b.length:Int)))&&decide (((w64 ((w64 ((w64 ((w64 (p+1))-1))*7))+3)).tmod (b.length:Int))<b.length)) (need ((b.length:Int) != 0) (need (n != 0) (some (((Zj7 .i64 (w64 ((w64 ((w64 ((w64 ((w64 (b.getD ((w64 ((w64 (p+1))-1)).tmod (b.length:Int)).toNat 0))*131))+(w64 ((w64 (b.getD ((w64 ((w64 ((w64 ((w64 (p+1))-1))*7))+3)).tmod (b.length:Int)).toNat 0))*1117))))+(w64 ((w64 ((w64 (p+1))-1))*29))))+(w64 ((w64 ((w64 ((w64 (p+1))-1)).tdiv (b.length:Int)))*53)))) (w64 ((w64 ((w64 ((w64 ((w64 ((w64 (b.getD ((w64 ((w64 (p+1))-1)).tmod (b.length:Int)).toNat 0))*131))+(w64 ((w64 (b.getD ((w64 ((w64 ((w64 ((w64 (p+1))-1))*7))+3)).tmod (b.length:Int)).toNat 0))*1117))))+(w64 ((w64 ((w64 (p+1))-1))*29))))+(w64 ((w64 ((w64 ((w64 (p+1))-1)).tdiv (b.length:Int)))*53)))).tdiv 64))).tmod n),b,(w64 (p+1)))))))))))))
def Zmm (xs:List Str) (b:List Int) (p:Int):Option (Str×List Int×Int):=
 ((pick (xs.length:Int) b p).bind fun (r,r1,r2)=>
 (need (decide (0≤r)&&decide (r<xs.length)) (some ((xs.getD r.toNat []),r1,r2))))
def Zdx.l0.step (again:(Str×Int×Str)→Option (Str)):(Str×Int×Str)→Option (Str):=fun (s1,n1,out)=>
 (bif (decide (n1>0)) then (bif ((n1.tmod 2)==1) then (need (fits (out.length+s1.length)) (need (fits (s1.length+s1.length)) (again ((s1++s1),(w64 (n1.tdiv 2)),(out++s1))))) else
 (need (fits (s1.length+s1.length)) (again ((s1++s1),(w64 (n1.tdiv 2)),out)))) else
 (some out))
def Zdx.l0:=ZaB Zdx.l0.step
def Zdx (s:Str) (n:Int):Option (Str):=
 ((Zdx.l0 (n.toNat+1) (s,n,[])).bind fun out1=>
 (some out1))
def ZbZ.l0.step (again:(Int×List Int×Int×List Int)→Option (List Int×Int×List Int)):(Int×List Int×Int×List Int)→Option (List Int×Int×List Int):=fun (n,o,o1,out)=>
 (bif (decide (n>0)) then ((pick 256 o o1).bind fun (r12,r13,r14)=>
 (need (fits (out.length+([(IntKind.wrap .u8 r12)]:List (Int)).length)) (again ((w64 (n-1)),r13,r14,(out++[(IntKind.wrap .u8 r12)]))))) else
 (some (o,o1,out)))
def ZbZ.l0:=ZaB ZbZ.l0.step
def ZbZ.l1.step (again:(Str×Int×List Int×Int)→Option (Str×List Int×Int)):(Str×Int×List Int×Int)→Option (Str×List Int×Int):=fun (out2,n1,o4,o5)=>
 (bif (decide (n1>0)) then ((Zmm [[116,104,101,32],[115,116,111,110,101,32],[116,104,97,116,32],[98,101,97,114,115,32],[97,32],[98,101,97,109],[46,32]] o4 o5).bind fun (r18,r19,r20)=>
 (need (fits (out2.length+r18.length)) (again ((out2++r18),(w64 (n1-1)),r19,r20)))) else
 (some (out2,o4,o5)))
def ZbZ.l1:=ZaB ZbZ.l1.step
def ZbZ (b:List Int) (p:Int):Option (Str×List Int×Int):=
 ((pick 8 b p).bind fun (r,r1,r2)=>
 (bif (r==0) then (some ([],r1,r2)) else
 (bif (r==1) then ((Zmm [[97],[97,98],[97,98,99],[120,121,122,122,121,32]] r1 r2).bind fun (r3,r4,r5)=>
 ((pick 40 r4 r5).bind fun (r6,r7,r8)=>
 ((Zdx r3 (w64 (1+r6))).bind fun l1Many_=>
 (some (l1Many_,r7,r8))))) else
 (bif (r==2) then ((pick 40 r1 r2).bind fun (r9,r10,r11)=>
 ((ZbZ.l0 ((r9-0).toNat+1) (r9,r10,r11,[])).bind fun (o2,o3,out1)=>
 (some ((ZbM out1),o2,o3)))) else
 (bif (r==3) then ((Zdx [113] 300).bind fun l1Many_1=>
 (some (l1Many_1,r1,r2))) else
 ((pick 12 r1 r2).bind fun (r15,r16,r17)=>
 ((ZbZ.l1 ((r15-0).toNat+1) ([],r15,r16,r17)).bind fun (out3,o6,o7)=>
 (some (out3,o6,o7)))))))))
def ZdU (b:List Int) (p:Int):Option (Str×List Int×Int):=
 ((Zmm [[97],[98,46,116,120,116],[100,105,114,47,97],[100,105,114,47,98],[120,45,121,95,122],[97,47,98,47,99,47,100],[114,101,97,100,109,101]] b p).bind fun (r,r1,r2)=>
 (some (r,r1,r2)))
def ZeG (text:Str) (log:Str) (text1:Str) (log1:Str):Option (Bool):=
 ((bif (text==text1) then (some (log==log1)) else
 (some false)).bind fun c=>
 (some c))
def Zgv (xs:List Int) (b:List Int) (p:Int):Option (Int×List Int×Int):=
 ((pick (xs.length:Int) b p).bind fun (r,r1,r2)=>
 (need (decide (0≤r)&&decide (r<xs.length)) (some ((xs.getD r.toNat 0),r1,r2))))
def Zcp (b:List Int) (p:Int):Option (Int×Int×Int×Int×Int×Int×List Int×Int):=
 ((Zgv [1980,2000,2024,2107] b p).bind fun (r,r1,r2)=>
 ((pick 12 r1 r2).bind fun (r3,r4,r5)=>
 ((pick 28 r4 r5).bind fun (r6,r7,r8)=>
 ((pick 24 r7 r8).bind fun (r9,r10,r11)=>
 ((pick 60 r10 r11).bind fun (r12,r13,r14)=>
 ((pick 30 r13 r14).bind fun (r15,r16,r17)=>
 (some (r,(w64 (1+r3)),(w64 (1+r6)),r9,r12,(w64 (2*r15)),r16,r17))))))))
def Zdb (b:List Int) (p:Int):Option (Str×Int×Int×Int×Int×Int×Int×Str×List Int×Int):=
 ((ZdU b p).bind fun (r,r1,r2)=>
 ((Zcp r1 r2).bind fun (r3,r4,r5,r6,r7,r8,r9,r10)=>
 ((ZbZ r9 r10).bind fun (r11,r12,r13)=>
 (some (r,r3,r4,r5,r6,r7,r8,r11,r12,r13)))))
def Zba.l1.step (again:(Int×List Int×Int×List (Str×Int×Int×Int×Int×Int×Int×Str))→Option (List Int×Int×List (Str×Int×Int×Int×Int×Int×Int×Str))):(Int×List Int×Int×List (Str×Int×Int×Int×Int×Int×Int×Str))→Option (List Int×Int×List (Str×Int×Int×Int×Int×Int×Int×Str)):=fun (n1,o4,o5,out2)=>
 (bif (decide (n1<6)) then ((Zev n1).bind fun l1Dec_=>
 (need (fits (([102]:Str).length+l1Dec_.length)) ((Zcp o4 o5).bind fun (r18,r19,r20,r21,r22,r23,r24,r25)=>
 (need (fits (out2.length+([(([102]++l1Dec_),r18,r19,r20,r21,r22,r23,[])]:List (Str×Int×Int×Int×Int×Int×Int×Str)).length)) (again ((w64 (n1+1)),r24,r25,(out2++[(([102]++l1Dec_),r18,r19,r20,r21,r22,r23,[])]))))))) else
 (some (o4,o5,out2)))
def Zba.l1:=ZaB Zba.l1.step
theorem Zba.l1.succ (n:Nat) t:Zba.l1 (n+1) t=Zba.l1.step (Zba.l1 n) t:=rfl
def Zba.l0.step (again:(Int×List Int×Int×List (Str×Int×Int×Int×Int×Int×Int×Str))→Option (List Int×Int×List (Str×Int×Int×Int×Int×Int×Int×Str))):(Int×List Int×Int×List (Str×Int×Int×Int×Int×Int×Int×Str))→Option (List Int×Int×List (Str×Int×Int×Int×Int×Int×Int×Str)):=fun (n,o,o1,out)=>
 (bif (decide (n>0)) then ((Zdb o o1).bind fun (r3,r4,r5,r6,r7,r8,r9,r10,r11,r12)=>
 ((Zh8 r3 r4 r5 r6 r7 r8 r9 r10 out).bind fun (r13,r14)=>
 (again ((w64 (n-1)),r11,r12,r14)))) else
 (some (o,o1,out)))
def Zba.l0:=ZaB Zba.l0.step
theorem Zba.l0.succ (n:Nat) t:Zba.l0 (n+1) t=Zba.l0.step (Zba.l0 n) t:=rfl
def Zba (b:List Int) (p:Int):Option (List Int×Int×List (Str×Int×Int×Int×Int×Int×Int×Str)):=
 ((pick 5 b p).bind fun (r,r1,r2)=>
 ((Zba.l0 ((r-0).toNat+1) (r,r1,r2,[])).bind fun (o2,o3,out1)=>
 ((pick 24 o2 o3).bind fun (r15,r16,r17)=>
 (bif (r15==0) then ((Zba.l1 ((6-(out1.length:Int)).toNat+1) ((out1.length:Int),r16,r17,out1)).bind fun (o6,o7,out3)=>
 (some (o6,o7,out3))) else
 (some (r16,r17,out1))))))
def Ze9 (b:List Int) (p:Int):Option (Str×List Int×Int):=
 ((Zba b p).bind fun (r,r1,r2)=>
 ((Zed r2).bind fun l7Put_=>
 (some (l7Put_,r,r1))))
def Zbv (code_:List Int):Option (Str×Str×Str×Int):=
 ((Zfp code_).bind fun (r,r1)=>
 ((Ze9 r r1).bind fun (r2,r3,r4)=>
 ((Ze9 r3 r4).bind fun (r5,r6,r7)=>
 ((pick 200 r6 r7).bind fun (r8,r9,r10)=>
 ((Zgv [(-1),0,2,r8,100000] r9 r10).bind fun (r11,r12,r13)=>
 (some (r2,[],r5,r11)))))))
def FnDiskNone (code_:List Int):Option (Bool):=
 (bif (decide ((code_.length:Int)>1048576)) then (some true) else
 ((Zbv code_).bind fun (r,r1,r2,r3)=>
 ((ZcX r r1 r2 0).bind fun (r4,r5)=>
 ((ZcX r r1 r2 (-5)).bind fun (r6,r7)=>
 ((ZdD [([46,46],0,0,0,0,0,0,[])]).bind fun (r8,r9,r10)=>
 (((Zbu r r1 r2 0).bind fun (r11,r12)=>
 ((ZeG r4 r5 r11 r12).bind fun cbDisk_=>
 (bif cbDisk_ then ((ZeG r6 r7 r4 r5).bind fun cbDisk_1=>
 (bif cbDisk_1 then ((Zd5 r r1).bind fun DiskOk=>
 (bif (!DiskOk) then (some (!r10)) else
 ((ZeG r4 r5 r r1).bind fun cbDisk_2=>
 (bif cbDisk_2 then (some (!r10)) else
 (some false))))) else
 (some false))) else
 (some false)))).bind fun c=>
 (some c)))))))
end Ev
end
